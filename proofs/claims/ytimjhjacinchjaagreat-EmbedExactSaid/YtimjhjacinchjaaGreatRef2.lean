/- Walks: the reference's words. -/
import Derived.Test.YtimjhjacinchjaaGreatRef2P
import Derived.WalkMore
import Derived.Deep.CutBlock
set_option linter.unusedVariables false
set_option maxRecDepth 100000
set_option linter.unusedSimpArgs false
namespace Go.Proofs.YtimjhjacinchjaaGreat
open Go.RowKit Go.Rt

theorem mayW_any (v : Int) (w : World) : Calls Tryz.prog 7 #[.int .i64 v] w fun e w' => e = .returned (.bool (isW v)) ∧ w = w' := ref2May_any v w
set_option maxHeartbeats 1000000 in
theorem ref2Word_any (a : Option Addr) (c : Nat) (z : Int) (w : World) (h : NAt w w.heap.size a c z.natAbs) :
    Calls Tryz.prog 53 #[.agg #[.bool (decide (z < 0)), .slice a (dig 18446744073709551616 z.natAbs).length c]] w fun e w' => RetV (wordV z) (wordE z) e ∧ Below w.heap.size w w' := by
  have hs := fun w' (hb : Below w.heap.size w w') => Lib.hid (zsmall_any a c z w' (h.next hb))
  cases hz : smallZ z with
  | true =>
    rw [hz, if_pos rfl] at hs
    have hm := fun w => Lib.hid (mayW_any z w)
    unfold wordV wordE
    cases hw : isW z
    all_goals
      rw [hw] at hm
      simp only [if_true, Bool.false_eq_true, if_false]
      clear hz h
      generalize decide (z < 0) = s at *
      generalize dig 18446744073709551616 z.natAbs = X at *
      go_enter Tryz.func53, Tryz.ntmps53
      go_wp2_with (first | (go_at_call 64; refine (hs _ (by (repeat' (first | exact Below.refl _ _ | refine Below.drew ?_ | refine Below.setCell ?_ (by first | omega | (simp <;> omega)) _ | refine Below.alloc ?_ (by first | omega | (simp <;> omega)) _)))).out.mono ?_; unfold RetSm; rintro e w1 ⟨rfl, hb⟩; have HB1 := Lib.hid hb; clear hb) | (go_at_call 7; refine (hm _).out.mono ?_; rintro e w' ⟨rfl, rfl⟩))
      exact bodyPost_ret (by rw [results_tmp2 rfl]; go_simp) rfl ⟨rfl, Below.trans (by (repeat' (first | exact Below.refl _ _ | refine Below.drew ?_ | refine Below.setCell ?_ (by first | omega | (simp <;> omega)) _ | refine Below.alloc ?_ (by first | omega | (simp <;> omega)) _))) (HB1.out.mono (by first | omega | (simp <;> omega)))⟩
  | false =>
    have e1 : isW z = false := by
      cases hb : isW z with
      | false => rfl
      | true =>
        have := isW_iff.1 hb
        unfold smallZ at hz
        simp at hz
        omega
    have e2 : wordV z = 0 := by unfold wordV; rw [e1]; rfl
    have e3 : wordE z = 3 := by unfold wordE; rw [e1]; rfl
    rw [e2, e3]
    rw [hz, if_neg (by decide)] at hs
    clear e1 e2 e3 hz h
    generalize decide (z < 0) = s at *
    generalize dig 18446744073709551616 z.natAbs = X at *
    go_enter Tryz.func53, Tryz.ntmps53
    go_wp2_with (first | (go_at_call 64; refine (hs _ (by (repeat' (first | exact Below.refl _ _ | refine Below.drew ?_ | refine Below.setCell ?_ (by first | omega | (simp <;> omega)) _ | refine Below.alloc ?_ (by first | omega | (simp <;> omega)) _)))).out.mono ?_; unfold RetSm; rintro e w1 ⟨rfl, hb⟩; have HB1 := Lib.hid hb; clear hb))
    exact bodyPost_ret (by rw [results_tmp2 rfl]; go_simp) rfl ⟨rfl, Below.trans (by (repeat' (first | exact Below.refl _ _ | refine Below.drew ?_ | refine Below.setCell ?_ (by first | omega | (simp <;> omega)) _ | refine Below.alloc ?_ (by first | omega | (simp <;> omega)) _))) (HB1.out.mono (by first | omega | (simp <;> omega)))⟩

set_option maxHeartbeats 1000000 in
theorem ref2Near_any (a b : Option Addr) (c d m K : Nat) (x z : Int) (w : World) (h : NAt w w.heap.size a c x.natAbs) (h' : NAt w w.heap.size b d m) (hK : K ≤ 1000000 - 8) (hx : x.natAbs < 2 ^ K) (hm : m < 2 ^ K) (hm0 : 0 < m) (hz : nearZ x m = z) :
    Calls Tryz.prog 36 #[.agg #[.bool (decide (x < 0)), .slice a (dig 18446744073709551616 x.natAbs).length c, .slice b (dig 18446744073709551616 m).length d]] w fun e w' => RetV (wordV z) (wordE z) e ∧ Below w.heap.size w w' := by
  have hn := fun w' (hb : Below w.heap.size w w') => Lib.hid (near_any a b c d m K x z w' (h.next hb) (h'.next hb) hK hx hm hm0 hz)
  have hw := fun a c w h => Lib.hid (ref2Word_any a c z w h)
  obtain ⟨V, hV⟩ : ∃ y, wordV z = y := ⟨_, rfl⟩
  obtain ⟨E, hE⟩ : ∃ y, wordE z = y := ⟨_, rfl⟩
  rw [hV, hE] at hw ⊢
  clear h h' hx hm hm0 hz hV hE
  generalize decide (x < 0) = s at *
  generalize dig 18446744073709551616 x.natAbs = X at *
  generalize dig 18446744073709551616 m = Y at *
  go_enter Tryz.func36, Tryz.ntmps36
  go_wp2_with (first | (go_at_call 54; refine (hn _ (by (repeat' (first | exact Below.refl _ _ | refine Below.drew ?_ | refine Below.setCell ?_ (by first | omega | (simp <;> omega)) _ | refine Below.alloc ?_ (by first | omega | (simp <;> omega)) _)))).out.mono ?_; rintro e w1 ⟨a1, c1, rfl, hN1, hb⟩; have HN1 := Lib.hid hN1; have HB1 : Hid (Below w.heap.size w w1) := Lib.hid (Below.trans (by (repeat' (first | exact Below.refl _ _ | refine Below.drew ?_ | refine Below.setCell ?_ (by first | omega | (simp <;> omega)) _ | refine Below.alloc ?_ (by first | omega | (simp <;> omega)) _))) (hb.mono (by first | omega | (simp <;> omega)))); clear hb hN1) | (go_at_call 53; refine (hw _ _ _ HN1.out).out.mono ?_; rintro e w2 ⟨he, hb⟩; unfold RetV at he; subst he; have HB2 := Lib.hid (HB1.out.trans (hb.mono HB1.out.size)); clear hb))
  exact bodyPost_ret (by rw [results_tmp2 rfl]; go_simp) rfl ⟨rfl, HB2.out⟩

set_option maxHeartbeats 2000000 in
set_option maxRecDepth 100000 in
theorem ref2Mul_any (a b : Int) (f : Nat) (w : World) (ha : isW a = true) (hb : isW b = true) (hf : f ≤ 62) :
    Calls Tryz.prog 22 #[.int .i64 a, .int .i64 b, .int .i64 f] w fun e w' => RetV (wordV (shI (a * b) f)) (wordE (shI (a * b) f)) e ∧ Below w.heap.size w w' := by
  have a2 := isW_iff.1 ha
  have b2 := isW_iff.1 hb
  have h1 := fun w => Lib.hid (zfrom_any a w (by omega) (by omega))
  have h2 := fun w => Lib.hid (zfrom_any b w (by omega) (by omega))
  have hab : a.natAbs * b.natAbs ≤ 140737488355328 * 140737488355328 := Nat.mul_le_mul (by omega) (by omega)
  rw [← Int.natAbs_mul] at hab
  have h3 := fun p q c d w h h' => Lib.hid (ztimes_any p q c d a b w h h' (dig_word (by omega)) (dig_word (by omega)))
  have h4 := fun w => Lib.hid (nof_any 1 (by decide) w)
  have h5 := fun p c w h => Lib.hid (up2_any p c 1 f w h (by decide) (by omega))
  have hpf : (2 : Nat) ^ f ≤ 2 ^ 62 := Nat.pow_le_pow_right (by decide) hf
  have h62 : (2 : Nat) ^ 62 = 4611686018427387904 := by decide
  have h130 : (2 : Nat) ^ 130 = 1361129467683753853853498429727072845824 := by decide
  have hp0 : 0 < (2 : Nat) ^ f := Nat.pow_pos (by decide)
  obtain ⟨e1, e2⟩ := rat_pow (a * b) f
  have h6 := fun p q c d w h h' => Lib.hid (rmake_any p q c d (2 ^ f) 130 (a * b) (ratQ (a * b) (2 ^ f)) (ratK (a * b) (2 ^ f)) w h h' (by decide) (by rw [h130]; omega) (by rw [h130]; omega) hp0 e1 e2)
  have hg : 0 < Nat.gcd (a * b).natAbs (2 ^ f) := Nat.gcd_pos_of_pos_right _ hp0
  have hq0 : (ratQ (a * b) (2 ^ f)).natAbs ≤ (a * b).natAbs := by rw [← e1, sgnZ_abs]; exact Nat.div_le_self _ _
  have hk0 : ratK (a * b) (2 ^ f) ≤ 2 ^ f := by rw [← e2]; exact Nat.div_le_self _ _
  have hk1 : 0 < ratK (a * b) (2 ^ f) := by rw [← e2]; exact Nat.div_pos (Nat.le_of_dvd hp0 (Nat.gcd_dvd_right _ _)) hg
  have h7 := fun p q c d w h h' => Lib.hid (ref2Near_any p q c d (ratK (a * b) (2 ^ f)) 130 (ratQ (a * b) (2 ^ f)) (shI (a * b) f) w h h' (by decide) (by rw [h130]; omega) (by rw [h130]; omega) hk1 (near_shI (a * b) f))
  rw [Nat.one_mul] at h5
  obtain ⟨PF, hPF⟩ : ∃ p, (2 : Nat) ^ f = p := ⟨_, rfl⟩
  obtain ⟨V, hV⟩ : ∃ y, wordV (shI (a * b) f) = y := ⟨_, rfl⟩
  obtain ⟨E, hE⟩ : ∃ y, wordE (shI (a * b) f) = y := ⟨_, rfl⟩
  rw [hV, hE] at h7 ⊢
  obtain ⟨Q, hQ⟩ : ∃ y, ratQ (a * b) (2 ^ f) = y := ⟨_, rfl⟩
  obtain ⟨KK0, hKK⟩ : ∃ y, ratK (a * b) (2 ^ f) = y := ⟨_, rfl⟩
  obtain ⟨M, hM⟩ : ∃ y, a * b = y := ⟨_, rfl⟩
  rw [hQ, hKK] at h6 h7
  rw [hM] at h3 h6
  rw [hPF] at h5 h6
  clear ha hb a2 b2 hab hpf h62 h130 hp0 e1 e2 hg hq0 hk0 hk1 hV hE hQ hKK hM hPF
  have M1 := True.intro
  have M2 := True.intro
  go_enter Tryz.func22, Tryz.ntmps22
  go_wp2_with (first
    | (go_at_call 39; have hmk := M1; clear hmk M1; refine (h1 _).out.mono ?_; rintro e w1 ⟨p1, c1, rfl, hN1, hb1⟩; have HN1 := Lib.hid hN1; have HB1 := Lib.hid hb1; clear hN1 hb1)
    | (go_at_call 39; have hmk := M2; clear hmk M2; refine (h2 _).out.mono ?_; rintro e w2 ⟨p2, c2, rfl, hN2, hb2⟩; have HN2 := Lib.hid hN2; have HA2 := Lib.hid (HN1.out.next hb2); have HB2 := Lib.hid (HB1.out.trans (hb2.mono HB1.out.size)); clear hN2 hb2)
    | (go_at_call 38; refine (h3 _ _ _ _ _ HA2.out HN2.out).out.mono ?_; rintro e w3 ⟨p3, c3, rfl, hN3, hb3⟩; have HN3 := Lib.hid hN3; have HB3 := Lib.hid (HB2.out.trans (hb3.mono HB2.out.size)); clear hN3 hb3)
    | (go_at_call 41; refine (h4 _).out.mono ?_; rintro e w4 ⟨p4, c4, rfl, hN4, hb4⟩; have HN4 := Lib.hid hN4; have HA4 := Lib.hid (HN3.out.next hb4); have HB4 := Lib.hid (HB3.out.trans (hb4.mono HB3.out.size)); clear hN4 hb4)
    | (go_at_call 40; refine (h5 _ _ _ HN4.out).out.mono ?_; rintro e w5 ⟨p5, c5, rfl, hN5, hb5⟩; have HN5 := Lib.hid hN5; have HA5 := Lib.hid (HA4.out.next hb5); have HB5 := Lib.hid (HB4.out.trans (hb5.mono HB4.out.size)); clear hN5 hb5)
    | (go_at_call 37; refine (h6 _ _ _ _ _ HA5.out HN5.out).out.mono ?_; rintro e w6 ⟨p6, c6, p7, c7, rfl, hN6, hN7, hb6⟩; have HN6 := Lib.hid hN6; have HN7 := Lib.hid hN7; have HB6 := Lib.hid (HB5.out.trans (hb6.mono HB5.out.size)); clear hN6 hN7 hb6)
    | (go_at_call 36; refine (h7 _ _ _ _ _ HN6.out HN7.out).out.mono ?_; rintro e w7 ⟨he, hb7⟩; unfold RetV at he; subst he; have HB7 := Lib.hid (HB6.out.trans (hb7.mono HB6.out.size)); clear hb7))
  exact bodyPost_ret (by rw [results_tmp2 rfl]; go_simp) rfl ⟨rfl, HB7.out⟩
end Go.Proofs.YtimjhjacinchjaaGreat
