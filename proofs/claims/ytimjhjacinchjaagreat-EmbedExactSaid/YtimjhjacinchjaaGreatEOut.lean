/- Walks: the shape of rows that are named. -/
import Derived.Test.YtimjhjacinchjaaGreatETen
import Derived.Test.YtimjhjacinchjaaGreatEmbP
import Derived.WalkMore
import Derived.Deep.RegionHeld3
import Derived.Deep.Cut
import Derived.Deep.CutBlock
set_option linter.unusedVariables false
set_option linter.unusedSimpArgs false
namespace Go.Proofs.YtimjhjacinchjaaGreat
open Go.RowKit Go.Rt

def idP (r k : Int) : Bool := decide (0 ≤ k) && decide (k < r)
theorem idsB_all (r : Int) (ids : List Int) : idsB r ids = ids.all (idP r) := rfl
/-- Block q holds a list of numbers whose first one is r. -/
structure Head (w : World) (q : Nat) (r : Int) : Prop where
  ex : ∃ b o n c, w.cell? ⟨q, 0, none⟩ = some (.slice (some ⟨b, o, none⟩) n c) ∧ 0 < n ∧ w.cell? ⟨b, o, none⟩ = some (.int .i64 r)
theorem out1_any (k r : Int) (q : Nat) (w : World) (h : Head w q r) : Calls Tryz.prog 47 #[.int .i64 k, .pointer (some ⟨q, 0, none⟩)] w fun e w' => e = .returned (.bool (!(idP r k))) ∧ w = w' := by
  obtain ⟨b, o, n, c, h1, h2, h3⟩ := h.ex
  unfold idP
  by_cases k0 : k < 0
  · rw [decide_eq_false (show ¬ 0 ≤ k by omega), Bool.false_and]
    go_enter Tryz.func47, Tryz.ntmps47
    go_wp2
    go_ret
    exact ⟨rfl, rfl⟩
  · rw [decide_eq_true (show 0 ≤ k by omega), Bool.true_and]
    by_cases k1 : k < r
    · have k2 : ¬ r ≤ k := by omega
      rw [decide_eq_true k1]
      go_enter Tryz.func47, Tryz.ntmps47
      go_wp2
      go_ret
      exact ⟨rfl, rfl⟩
    · have k2 : r ≤ k := by omega
      rw [decide_eq_false k1]
      go_enter Tryz.func47, Tryz.ntmps47
      go_wp2
      go_ret
      exact ⟨rfl, rfl⟩

theorem indexId_any (a : Option Addr) (c hi : Nat) (xs : List Int) (w : World) (r : Int) (q : Nat) (hH : Head w q r) (h : Ints .i64 w hi a xs) :
    Calls Tryz.prog 62 #[.slice a xs.length c, .func (.func 47) #[] #[.pointer (some ⟨q, 0, none⟩)]] w fun e w' => (∃ i : Int, e = .returned (.int .i64 i) ∧ decide (0 ≤ i) = !(xs.all (idP r))) ∧ w = w' := by
  obtain ⟨hm, _, hc⟩ := h
  go_enter Tryz.func62, Tryz.ntmps62
  go_wp2
  go_loop [8] (fun i => ∃ k : Nat, k ≤ xs.length ∧ i = .int .i64 k ∧ (xs.take k).all (idP r) = true) (fun i => xs.length - (intOf i).toNat)
  case atStart => exact ⟨0, Nat.zero_le _, rfl, rfl⟩
  case round =>
    obtain ⟨k, hk, rfl, hall⟩ := hrel
    by_cases hlt : k < xs.length
    · obtain ⟨b, off, rfl, _, hcell⟩ := hc k hlt
      clear hc
      rw [List.getElem?_eq_getElem hlt] at hcell
      simp only [Option.getD_some] at hcell
      have hg := Lib.hid (out1_any xs[k] r q w hH)
      cases hx : idP r xs[k] with
      | true =>
        rw [hx] at hg
        have HA : Hid ((xs.take (k + 1)).all (idP r) = true) := Lib.hid (by rw [take_snoc xs k hlt, List.all_append, hall]; simp [hx])
        clear hall hx
        go_wp2_with (first | (go_at_call 47; refine hg.out.mono ?_; rintro e w' ⟨rfl, rfl⟩))
        go_round
        case rel => exact ⟨k + 1, by omega, by go_num, HA.out⟩
        case measure => simp [intOf]; omega
      | false =>
        rw [hx] at hg
        have HA : Hid (xs.all (idP r) = false) := by
          cases h0 : xs.all (idP r) with
          | false => rfl
          | true => have := List.all_eq_true.1 h0 _ (List.getElem_mem hlt); rw [hx] at this; exact absurd this (by decide)
        clear hall hx
        go_wp2_with (first | (go_at_call 47; refine hg.out.mono ?_; rintro e w' ⟨rfl, rfl⟩))
        go_ret
        exact ⟨⟨k, rfl, by rw [HA.out]; simp⟩, rfl⟩
    · have hke : k = xs.length := by omega
      subst hke
      rw [List.take_length] at hall
      have HA := Lib.hid hall
      clear hall hc
      go_wp2
      go_ret
      exact ⟨⟨-1, rfl, by rw [HA.out]; decide⟩, rfl⟩
theorem hasId_any (a : Option Addr) (c hi : Nat) (xs : List Int) (w : World) (r : Int) (q : Nat) (hH : Head w q r) (h : Ints .i64 w hi a xs) :
    Calls Tryz.prog 46 #[.slice a xs.length c, .func (.func 47) #[] #[.pointer (some ⟨q, 0, none⟩)]] w fun e w' => e = .returned (.bool (!(xs.all (idP r)))) ∧ w = w' := by
  have hg := Lib.hid (indexId_any a c hi xs w r q hH h)
  clear h hH
  generalize xs.all (idP r) = B at hg ⊢
  go_enter Tryz.func46, Tryz.ntmps46
  go_wp2_with (first | (go_at_call 62; refine hg.out.mono ?_; rintro e w' ⟨⟨i, rfl, hi⟩, rfl⟩))
  go_ret
  exact ⟨by first | rfl | exact ret_bool hi, rfl⟩

/-- What Out hands back: a list of two numbers in new memory, or none. -/
def RetOut2 (w : World) (n d : Int) (z : Int) (e : Ending) (w' : World) : Prop :=
  Below w.heap.size w w' ∧ if z = 0 then ∃ g, e = .returned (.tuple #[.slice (some ⟨g, 0, none⟩) 2 2, .int .i64 0]) ∧ w.heap.size ≤ g ∧ w'.cell? ⟨g, 0, none⟩ = some (.int .i64 n) ∧ w'.cell? ⟨g, 1, none⟩ = some (.int .i64 d) ∧ w'.ownsRow w.heap.size 3 1 (.slice (some ⟨g, 0, none⟩) 2 2) 2 ([n, d].map (Value.int .i64)) else e = .returned (.tuple #[.slice none 0 0, .int .i64 z])
theorem retOut2_bad {w w' : World} {n d z : Int} (hz : z ≠ 0) (hb : Below w.heap.size w w') : RetOut2 w n d z (.returned (.tuple #[.slice none 0 0, .int .i64 z])) w' := ⟨hb, by rw [if_neg hz]⟩
set_option maxHeartbeats 2000000 in
set_option maxRecDepth 100000 in
theorem embOut_any (a a2 : Option Addr) (c c2 : Nat) (xs ids : List Int) (w : World) (hX : Ints .i64 w w.heap.size a xs) (hI : Ints .i64 w w.heap.size a2 ids) :
    Calls Tryz.prog 25 #[.slice a xs.length c, .slice a2 ids.length c2] w (RetOut2 w ids.length (xs[1]?.getD 0) (embE xs ids)) := by
  unfold embE
  by_cases h2 : xs.length = 2
  · rw [decide_eq_true h2, Bool.true_and]
    by_cases hn : ids.length = 0
    · as_aux_lemma =>
        rw [decide_eq_false (show ¬ ids.length ≠ 0 from fun h => h hn), Bool.false_and, if_neg (by decide)]
        have h3 : ((xs.length : Int) != 2) = false := by simp; omega
        have h4 : ((ids.length : Int) == 0) = true := beq_iff_eq.2 (by omega)
        clear hX hI
        go_enter Tryz.func25, Tryz.ntmps25
        go_wp2
        exact bodyPost_ret (v := .tuple #[.slice none 0 0, .int .i64 2]) (by first | (rw [results_tmp2 rfl]; go_simp) | go_simp) rfl (retOut2_bad (by decide) (by (repeat' (first | exact Below.refl _ _ | refine below_drewN ?_ _ | refine Below.drew ?_ | refine Below.setCell ?_ (by first | omega | (simp <;> omega)) _ | refine Below.alloc ?_ (by first | omega | (simp <;> omega)) _))))
    · rw [decide_eq_true hn, Bool.true_and]
      obtain ⟨r, d, rfl⟩ : ∃ r d, xs = [r, d] := by
        match xs, h2 with
        | [r, d], _ => exact ⟨r, d, rfl⟩
      simp only [List.getElem?_cons_zero, List.getElem?_cons_succ, Option.getD_some]
      obtain ⟨bS, oS, eS, lS, cr⟩ := hX.cell 0 (by simp)
      obtain ⟨b2, o2, e2, _, cd⟩ := hX.cell 1 (by simp)
      subst eS
      cases e2
      simp only [List.getElem?_cons_zero, List.getElem?_cons_succ, Option.getD_some, Nat.add_zero] at cr cd
      have hid := fun w' (hb : Below w.heap.size w w') (hq : w'.cell? ⟨w.heap.size, 0, none⟩ = some (.slice (some ⟨bS, oS, none⟩) 2 c)) => Lib.hid (hasId_any a2 c2 w.heap.size ids w' r w.heap.size ⟨bS, oS, 2, c, hq, by decide, (hb.cell (p := ⟨bS, oS, none⟩) lS).trans cr⟩ (hI.below hb (Nat.le_refl _)))
      have h4 : ((ids.length : Int) == 0) = false := beq_eq_false_iff_ne.2 (by omega)
      have hil := hI.len
      have hxw := hX.wf
      skip
      clear hX hI h2 hn
      cases hb : idsB r ids with
      | false =>
        as_aux_lemma =>
          rw [if_neg (by decide)]
          rw [idsB_all] at hb
          rw [hb] at hid
          clear hb
          go_enter Tryz.func25, Tryz.ntmps25
          go_wp2_with (go_at_call 46; refine (hid _ (by (repeat' (first | exact Below.refl _ _ | refine below_drewN ?_ _ | refine Below.drew ?_ | refine Below.setCell ?_ (by first | omega | (simp <;> omega)) _ | refine Below.alloc ?_ (by first | omega | (simp <;> omega)) _))) (by simp [go_sem])).out.mono ?_; rintro e w' ⟨rfl, rfl⟩)
          exact bodyPost_ret (v := .tuple #[.slice none 0 0, .int .i64 2]) (by first | (rw [results_tmp2 rfl]; go_simp) | go_simp) rfl (retOut2_bad (by decide) (by (repeat' (first | exact Below.refl _ _ | refine below_drewN ?_ _ | refine Below.drew ?_ | refine Below.setCell ?_ (by first | omega | (simp <;> omega)) _ | refine Below.alloc ?_ (by first | omega | (simp <;> omega)) _))))
      | true =>
        rw [if_pos rfl]
        rw [idsB_all] at hb
        rw [hb] at hid
        clear hb
        have hgd := fun w' (h0 : w'.cell? ⟨w.heap.size + 1, 0, none⟩ = some (.int .i64 (ids.length : Int))) (h1 : w'.cell? ⟨w.heap.size + 1, 1, none⟩ = some (.int .i64 d)) => Lib.hid (good_any (some ⟨w.heap.size + 1, 0, none⟩) 2 w'.heap.size [(ids.length : Int), d] w' (ints2 h0 h1 (wf_i64_iff.2 ⟨by omega, by omega⟩) (hxw d (by simp))))
        by_cases hg : goodB [(ids.length : Int), d] = true
        · as_aux_lemma =>
            rw [if_pos hg]
            rw [hg] at hgd
            clear hg
            go_enter Tryz.func25, Tryz.ntmps25
            go_wp2_with (first | (go_at_call 46; refine (hid _ (by (repeat' (first | exact Below.refl _ _ | refine below_drewN ?_ _ | refine Below.drew ?_ | refine Below.setCell ?_ (by first | omega | (simp <;> omega)) _ | refine Below.alloc ?_ (by first | omega | (simp <;> omega)) _))) (by simp [go_sem])).out.mono ?_; rintro e w' ⟨rfl, rfl⟩) | (go_at_call 42; refine (hgd _ (by simp [go_sem]) (by simp [go_sem])).out.mono ?_; rintro e w' ⟨rfl, rfl⟩))
            refine bodyPost_ret (v := .tuple #[.slice (some ⟨w.heap.size + 1, 0, none⟩) 2 2, .int .i64 0]) (by first | (rw [results_tmp2 rfl]; go_simp) | go_simp) rfl ⟨(by (repeat' (first | exact Below.refl _ _ | refine below_drewN ?_ _ | refine Below.drew ?_ | refine Below.setCell ?_ (by first | omega | (simp <;> omega)) _ | refine Below.alloc ?_ (by first | omega | (simp <;> omega)) _))), ?_⟩
            rw [if_pos rfl]
            exact ⟨w.heap.size + 1, rfl, by omega, by simp [go_sem], by simp [go_sem], by simp, .inr ⟨w.heap.size + 1, 2, #[.int .i64 (ids.length : Int), .int .i64 d], rfl, by omega, by rw [show w.heap.size + 1 = (w.alloc (.cells #[.slice (some ⟨bS, oS, none⟩) 2 c] 23)).heap.size by simp]; exact Array.getElem?_push_size, by omega, by decide, by simp, by simp⟩⟩
        · as_aux_lemma =>
            rw [if_neg hg]
            have hg2 : goodB [(ids.length : Int), d] = false := by simpa using hg
            rw [hg2] at hgd
            clear hg2
            clear hg
            go_enter Tryz.func25, Tryz.ntmps25
            go_wp2_with (first | (go_at_call 46; refine (hid _ (by (repeat' (first | exact Below.refl _ _ | refine below_drewN ?_ _ | refine Below.drew ?_ | refine Below.setCell ?_ (by first | omega | (simp <;> omega)) _ | refine Below.alloc ?_ (by first | omega | (simp <;> omega)) _))) (by simp [go_sem])).out.mono ?_; rintro e w' ⟨rfl, rfl⟩) | (go_at_call 42; refine (hgd _ (by simp [go_sem]) (by simp [go_sem])).out.mono ?_; rintro e w' ⟨rfl, rfl⟩))
            exact bodyPost_ret (v := .tuple #[.slice none 0 0, .int .i64 5]) (by first | (rw [results_tmp2 rfl]; go_simp) | go_simp) rfl (retOut2_bad (by decide) (by (repeat' (first | exact Below.refl _ _ | refine below_drewN ?_ _ | refine Below.drew ?_ | refine Below.setCell ?_ (by first | omega | (simp <;> omega)) _ | refine Below.alloc ?_ (by first | omega | (simp <;> omega)) _))))
  · as_aux_lemma =>
      rw [decide_eq_false h2, Bool.false_and, if_neg (by decide)]
      have h3 : ((xs.length : Int) != 2) = true := by simp; omega
      clear hX hI
      go_enter Tryz.func25, Tryz.ntmps25
      go_wp2
      exact bodyPost_ret (v := .tuple #[.slice none 0 0, .int .i64 2]) (by first | (rw [results_tmp2 rfl]; go_simp) | go_simp) rfl (retOut2_bad (by decide) (by (repeat' (first | exact Below.refl _ _ | refine below_drewN ?_ _ | refine Below.drew ?_ | refine Below.setCell ?_ (by first | omega | (simp <;> omega)) _ | refine Below.alloc ?_ (by first | omega | (simp <;> omega)) _))))
end Go.Proofs.YtimjhjacinchjaaGreat
