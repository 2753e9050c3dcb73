/- Walks: the reference's words. -/
import Derived.Test.YtddhhfhammmaaaaGreatRef2P
import Derived.WalkMore
import Derived.Deep.CutBlock
set_option linter.unusedVariables false
set_option maxRecDepth 100000
set_option linter.unusedSimpArgs false
namespace Go.Proofs.YtddhhfhammmaaaaGreat
open Go.RowKit Go.Rt

theorem mayW_any (v : Int) (w : World) : Calls Tryz.prog 47 #[.int .i64 v] w fun e w' => e = .returned (.bool (isW v)) ∧ w = w' := ref2May_any v w
set_option maxHeartbeats 1000000 in
theorem ref2Word_any (a : Option Addr) (c : Nat) (z : Int) (w : World) (h : NAt w w.heap.size a c z.natAbs) :
    Calls Tryz.prog 56 #[.agg #[.bool (decide (z < 0)), .slice a (dig 18446744073709551616 z.natAbs).length c]] w fun e w' => RetV (wordV z) (wordE z) e ∧ Below w.heap.size w w' := by
  have hs := fun w' (hb : Below w.heap.size w w') => Lib.hid (zsmall_any a c z w' (h.next hb))
  cases hz : smallZ z with
  | true =>
    rw [hz, if_pos rfl] at hs
    have hm := fun w => Lib.hid (mayW_any z w)
    unfold wordV wordE
    cases hw : isW z
    all_goals
      rw [hw] at hm
      simp only [if_true, Bool.false_eq_true, if_false]
      clear hz h
      generalize decide (z < 0) = s at *
      generalize dig 18446744073709551616 z.natAbs = X at *
      go_enter Tryz.func56, Tryz.ntmps56
      go_wp2_with (first | (go_at_call 79; refine (hs _ (by (repeat' (first | exact Below.refl _ _ | refine Below.drew ?_ | refine Below.setCell ?_ (by first | omega | (simp <;> omega)) _ | refine Below.alloc ?_ (by first | omega | (simp <;> omega)) _)))).out.mono ?_; unfold RetSm; rintro e w1 ⟨rfl, hb⟩; have HB1 := Lib.hid hb; clear hb) | (go_at_call 47; refine (hm _).out.mono ?_; rintro e w' ⟨rfl, rfl⟩))
      exact bodyPost_ret (by rw [results_tmp2 rfl]; go_simp) rfl ⟨rfl, Below.trans (by (repeat' (first | exact Below.refl _ _ | refine Below.drew ?_ | refine Below.setCell ?_ (by first | omega | (simp <;> omega)) _ | refine Below.alloc ?_ (by first | omega | (simp <;> omega)) _))) (HB1.out.mono (by first | omega | (simp <;> omega)))⟩
  | false =>
    have e1 : isW z = false := by
      cases hb : isW z with
      | false => rfl
      | true =>
        have := isW_iff.1 hb
        unfold smallZ at hz
        simp at hz
        omega
    have e2 : wordV z = 0 := by unfold wordV; rw [e1]; rfl
    have e3 : wordE z = 3 := by unfold wordE; rw [e1]; rfl
    rw [e2, e3]
    rw [hz, if_neg (by decide)] at hs
    clear e1 e2 e3 hz h
    generalize decide (z < 0) = s at *
    generalize dig 18446744073709551616 z.natAbs = X at *
    go_enter Tryz.func56, Tryz.ntmps56
    go_wp2_with (first | (go_at_call 79; refine (hs _ (by (repeat' (first | exact Below.refl _ _ | refine Below.drew ?_ | refine Below.setCell ?_ (by first | omega | (simp <;> omega)) _ | refine Below.alloc ?_ (by first | omega | (simp <;> omega)) _)))).out.mono ?_; unfold RetSm; rintro e w1 ⟨rfl, hb⟩; have HB1 := Lib.hid hb; clear hb))
    exact bodyPost_ret (by rw [results_tmp2 rfl]; go_simp) rfl ⟨rfl, Below.trans (by (repeat' (first | exact Below.refl _ _ | refine Below.drew ?_ | refine Below.setCell ?_ (by first | omega | (simp <;> omega)) _ | refine Below.alloc ?_ (by first | omega | (simp <;> omega)) _))) (HB1.out.mono (by first | omega | (simp <;> omega)))⟩

set_option maxHeartbeats 1000000 in
theorem ref2Near_any (a b : Option Addr) (c d m K : Nat) (x z : Int) (w : World) (h : NAt w w.heap.size a c x.natAbs) (h' : NAt w w.heap.size b d m) (hK : K ≤ 1000000 - 8) (hx : x.natAbs < 2 ^ K) (hm : m < 2 ^ K) (hm0 : 0 < m) (hz : nearZ x m = z) :
    Calls Tryz.prog 25 #[.agg #[.bool (decide (x < 0)), .slice a (dig 18446744073709551616 x.natAbs).length c, .slice b (dig 18446744073709551616 m).length d]] w fun e w' => RetV (wordV z) (wordE z) e ∧ Below w.heap.size w w' := by
  have hn := fun w' (hb : Below w.heap.size w w') => Lib.hid (near_any a b c d m K x z w' (h.next hb) (h'.next hb) hK hx hm hm0 hz)
  have hw := fun a c w h => Lib.hid (ref2Word_any a c z w h)
  obtain ⟨V, hV⟩ : ∃ y, wordV z = y := ⟨_, rfl⟩
  obtain ⟨E, hE⟩ : ∃ y, wordE z = y := ⟨_, rfl⟩
  rw [hV, hE] at hw ⊢
  clear h h' hx hm hm0 hz hV hE
  generalize decide (x < 0) = s at *
  generalize dig 18446744073709551616 x.natAbs = X at *
  generalize dig 18446744073709551616 m = Y at *
  go_enter Tryz.func25, Tryz.ntmps25
  go_wp2_with (first | (go_at_call 57; refine (hn _ (by (repeat' (first | exact Below.refl _ _ | refine Below.drew ?_ | refine Below.setCell ?_ (by first | omega | (simp <;> omega)) _ | refine Below.alloc ?_ (by first | omega | (simp <;> omega)) _)))).out.mono ?_; rintro e w1 ⟨a1, c1, rfl, hN1, hb⟩; have HN1 := Lib.hid hN1; have HB1 : Hid (Below w.heap.size w w1) := Lib.hid (Below.trans (by (repeat' (first | exact Below.refl _ _ | refine Below.drew ?_ | refine Below.setCell ?_ (by first | omega | (simp <;> omega)) _ | refine Below.alloc ?_ (by first | omega | (simp <;> omega)) _))) (hb.mono (by first | omega | (simp <;> omega)))); clear hb hN1) | (go_at_call 56; refine (hw _ _ _ HN1.out).out.mono ?_; rintro e w2 ⟨he, hb⟩; unfold RetV at he; subst he; have HB2 := Lib.hid (HB1.out.trans (hb.mono HB1.out.size)); clear hb))
  exact bodyPost_ret (by rw [results_tmp2 rfl]; go_simp) rfl ⟨rfl, HB2.out⟩

end Go.Proofs.YtddhhfhammmaaaaGreat
