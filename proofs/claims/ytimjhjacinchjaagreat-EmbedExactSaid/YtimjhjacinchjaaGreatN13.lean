/- Walks of the references' whole numbers with a sign: signs, differences, order. -/
import Derived.Test.YtimjhjacinchjaaGreatN12
import Derived.BigQuiet
import Derived.WalkMore
import Derived.Deep.RegionHeld3
import Derived.Deep.RegionWith
import Derived.BigRegion
import Derived.Deep.Cut
import Derived.Deep.CutBlock
import Derived.Deep.CutRange
set_option linter.unusedVariables false
set_option linter.unusedSimpArgs false
namespace Go.Proofs.YtimjhjacinchjaaGreat
open Go.RowKit Go.Rt

def sgnI (x : Int) : Int := if x < 0 then -1 else if x = 0 then 0 else 1
theorem abs_len0 (x : Int) : (dig 18446744073709551616 x.natAbs).length = 0 ↔ x = 0 := by rw [dig_len_zero (by decide)]; omega
theorem zsign_any (a : Option Addr) (c : Nat) (x : Int) (w : World) : Calls Tryz.prog 85 #[.agg #[.bool (decide (x < 0)), .slice a (dig 18446744073709551616 x.natAbs).length c]] w fun e w' => e = .returned (.int .i64 (sgnI x)) ∧ Below w.heap.size w w' := by
  have hl := abs_len0 x
  by_cases h : x < 0
  · have HS := Lib.hid (show sgnI x = -1 by unfold sgnI; rw [if_pos h])
    rw [decide_eq_true h]
    clear h hl
    go_enter Tryz.func85, Tryz.ntmps85
    go_wp2
    go_ret
    exact ⟨by rw [HS.out]; rfl, (by (repeat' (first | exact Below.refl _ _ | refine Below.drew ?_ | refine Below.setCell ?_ (by first | omega | (simp <;> omega)) _ | refine Below.alloc ?_ (by first | omega | (simp <;> omega)) _)))⟩
  · rw [decide_eq_false h]
    by_cases h0 : x = 0
    · have HS := Lib.hid (show sgnI x = 0 by subst h0; rfl)
      have e1 : ¬ (0 : Int) < ((dig 18446744073709551616 x.natAbs).length : Int) := by have := hl.2 h0; omega
      clear h hl h0
      go_enter Tryz.func85, Tryz.ntmps85
      go_wp2
      go_ret
      exact ⟨by rw [HS.out]; rfl, (by (repeat' (first | exact Below.refl _ _ | refine Below.drew ?_ | refine Below.setCell ?_ (by first | omega | (simp <;> omega)) _ | refine Below.alloc ?_ (by first | omega | (simp <;> omega)) _)))⟩
    · have HS := Lib.hid (show sgnI x = 1 by unfold sgnI; rw [if_neg h, if_neg h0])
      have e1 : (0 : Int) < ((dig 18446744073709551616 x.natAbs).length : Int) := by have := fun h => h0 (hl.1 h); omega
      clear h hl h0
      go_enter Tryz.func85, Tryz.ntmps85
      go_wp2
      go_ret
      exact ⟨by rw [HS.out]; rfl, (by (repeat' (first | exact Below.refl _ _ | refine Below.drew ?_ | refine Below.setCell ?_ (by first | omega | (simp <;> omega)) _ | refine Below.alloc ?_ (by first | omega | (simp <;> omega)) _)))⟩
theorem zzero_any (a : Option Addr) (c : Nat) (x : Int) (w : World) : Calls Tryz.prog 70 #[.agg #[.bool (decide (x < 0)), .slice a (dig 18446744073709551616 x.natAbs).length c]] w fun e w' => e = .returned (.bool (decide (x = 0))) ∧ Below w.heap.size w w' := by
  have hl := abs_len0 x
  have HS := Lib.hid (show (((dig 18446744073709551616 x.natAbs).length : Int) == 0) = decide (x = 0) by
    rw [Bool.eq_iff_iff]
    simp only [beq_iff_eq, decide_eq_true_eq]
    rw [← hl]
    omega)
  clear hl
  generalize decide (x = 0) = z at *
  generalize decide (x < 0) = s at *
  generalize dig 18446744073709551616 x.natAbs = X at *
  have hs := HS.out
  clear HS
  go_enter Tryz.func70, Tryz.ntmps70
  go_wp2
  go_ret
  exact ⟨by first | rfl | simp, (by (repeat' (first | exact Below.refl _ _ | refine Below.drew ?_ | refine Below.setCell ?_ (by first | omega | (simp <;> omega)) _ | refine Below.alloc ?_ (by first | omega | (simp <;> omega)) _)))⟩

set_option maxHeartbeats 4000000 in
set_option maxRecDepth 100000 in
theorem zless_any (a b : Option Addr) (c d : Nat) (x y z : Int) (w : World) (h : NAt w w.heap.size a c x.natAbs) (h' : NAt w w.heap.size b d y.natAbs) (hx : (dig 18446744073709551616 x.natAbs).length ≤ 1000000) (hy : (dig 18446744073709551616 y.natAbs).length ≤ 1000000) (hz : x - y = z) :
    Calls Tryz.prog 83 #[.agg #[.bool (decide (x < 0)), .slice a (dig 18446744073709551616 x.natAbs).length c], .agg #[.bool (decide (y < 0)), .slice b (dig 18446744073709551616 y.natAbs).length d]] w (RetZ w z) := by
  obtain ⟨y', hy'⟩ : ∃ y', -y = y' := ⟨_, rfl⟩
  have hab : y'.natAbs = y.natAbs := by rw [← hy']; exact Int.natAbs_neg _
  have HG := fun w' (hb : Below w.heap.size w w') => Lib.hid (zneg_any b d y w' (h'.next hb))
  rw [hy'] at HG
  have HP := fun a5 c5 w' (hb : Below w.heap.size w w') (h5 : NAt w' w'.heap.size a5 c5 y'.natAbs) => zplus_any a a5 c c5 x y' z w' (h.next hb) h5 hx (by rw [hab]; exact hy) (by omega)
  clear h h' hz hab hy'
  generalize decide (x < 0) = s at *
  generalize decide (y < 0) = t at *
  generalize dig 18446744073709551616 x.natAbs = X at *
  generalize dig 18446744073709551616 y.natAbs = Y at *
  go_enter Tryz.func83, Tryz.ntmps83
  go_upto_region 1 with fail
  refine wp_region_held_drew (S := (fun w' => Below w.heap.size w w' ∧ w'.cell? ⟨w.heap.size, 0, none⟩ = some (.bool s) ∧ w'.cell? ⟨w.heap.size, 1, none⟩ = some (.slice a X.length c) ∧ w'.cell? ⟨w.heap.size + 1, 0, none⟩ = some (.bool t) ∧ w'.cell? ⟨w.heap.size + 1, 1, none⟩ = some (.slice b Y.length d))) (by kernel_rfl) (⟨(by (repeat' (first | exact Below.refl _ _ | refine Below.drew ?_ | refine Below.setCell ?_ (by first | omega | (simp <;> omega)) _ | refine Below.alloc ?_ (by first | omega | (simp <;> omega)) _))), by go_simp, by go_simp, by go_simp, by go_simp⟩) (fun hHeld => ?_)
  refine takeY (i := 0) (dst := (some 5)) (v := ?_) rfl rfl (by kernel_rfl) (by kernel_rfl) (by kernel_rfl) (fun _ _ _ h => h) (by rfl) ?hy2w0 (by assumption) ?rest2w0
  case hy2w0 => (intro w hSw; (try dsimp only at hSw); go_simp; (try with_reducible rfl))
  try simp only [Act.put, List.setIfInBounds_toArray, List.set_cons_zero, List.set_cons_succ]
  refine takeY (i := 1) (dst := (some 6)) (v := ?_) rfl rfl (by kernel_rfl) (by kernel_rfl) (by kernel_rfl) (fun _ _ _ h => h) (by rfl) ?hy2w1 (by assumption) ?rest2w1
  case hy2w1 => (intro w hSw; (try dsimp only at hSw); go_simp; (try with_reducible rfl))
  try simp only [Act.put, List.setIfInBounds_toArray, List.set_cons_zero, List.set_cons_succ]
  refine wpAnyH_ready (rs := [2]) (by kernel_rfl) (by simp) (AllReadyH.cons rfl (fun K hK => ?_) AllReadyH.nil)
  go_simp
  (go_at_call 93; refine (HG _ (heldZ1 (by assumption))).out.mono ?_; rintro e w5 ⟨a5, c5, rfl, hN5, hb5⟩; have X5 := NBox2.below (b := w.heap.size + 1 + 1) (v0 := .bool false) (v1 := .slice none 0 0) (by constructor <;> go_simp) hb5 (by first | omega | (simp <;> omega)); have hs5 := hb5.size; (try simp at hs5); have hBw : Below w.heap.size w w5 := (heldZ1 hHeld).trans (hb5.mono (heldZ1 hHeld).size); have HM := Lib.hid (HP a5 c5 w5 hBw hN5); clear hN5 hBw)
  (try go_wp2_with fail)
  refine hK.out _ _ (heldZ4 (by assumption) (by assumption)) (fun hHeld => ?_)
  clear hK K
  try simp only [Act.put, List.setIfInBounds_toArray, List.set_cons_zero, List.set_cons_succ]
  refine wpAnyH_ready (rs := [3]) (by kernel_rfl) (by simp) (AllReadyH.cons rfl (fun K hK => ?_) AllReadyH.nil)
  go_simp
  (go_at_call 69; refine HM.out.mono ?_; rintro e w6 ⟨a6, c6, rfl, hN6, hb6⟩; have HN6 := Lib.hid hN6; have X6 := X5.below hb6 (by first | omega | (simp <;> omega)); have hs6 := hb6.size; clear hN6 X5 HM; have HX6 := Lib.hid X6; obtain ⟨x0, x1, x2, x3⟩ := X6)
  (try go_wp2_with fail)
  refine hK.out _ _ (heldZ4 (by assumption) (by assumption)) (fun hHeld => ?_)
  clear hK K
  try simp only [Act.put, List.setIfInBounds_toArray, List.set_cons_zero, List.set_cons_succ]
  refine wpAnyH_ready (rs := [4]) (by kernel_rfl) (by simp) (AllReadyH.cons rfl (fun K hK => ?_) AllReadyH.nil)
  go_simp
  skip
  (try go_wp2_with fail)
  refine hK.out _ _ (heldZset (by assumption) (by omega) (by omega) (by omega)) (fun hHeld => ?_)
  clear hK K
  try simp only [Act.put, List.setIfInBounds_toArray, List.set_cons_zero, List.set_cons_succ]
  refine wpAnyH_done (by kernel_rfl) ?_ _
  go_wp2_with fail
  refine bodyPost_ret (v := .agg #[.bool (decide ((z) < 0)), .slice a6 (dig 18446744073709551616 (z).natAbs).length c6]) (by rw [nres_c1 rfl]; go_simp) rfl ?_
  exact retZ_box (by omega) HN6.out HX6.out (by intro z h; cases h) (by intro z h; cases h) (Below.trans (Below.trans (by (repeat' (first | exact Below.refl _ _ | refine Below.drew ?_ | refine Below.setCell ?_ (by first | omega | (simp <;> omega)) _ | refine Below.alloc ?_ (by first | omega | (simp <;> omega)) _))) (hb5.mono (by first | omega | (simp <;> omega)))) (hb6.mono (by first | omega | (simp <;> omega)))) _ _
set_option maxHeartbeats 1000000 in
theorem zcmp_any (a b : Option Addr) (c d : Nat) (x y z : Int) (w : World) (h : NAt w w.heap.size a c x.natAbs) (h' : NAt w w.heap.size b d y.natAbs) (hx : (dig 18446744073709551616 x.natAbs).length ≤ 1000000) (hy : (dig 18446744073709551616 y.natAbs).length ≤ 1000000) (hz : x - y = z) :
    Calls Tryz.prog 68 #[.agg #[.bool (decide (x < 0)), .slice a (dig 18446744073709551616 x.natAbs).length c], .agg #[.bool (decide (y < 0)), .slice b (dig 18446744073709551616 y.natAbs).length d]] w fun e w' => e = .returned (.int .i64 (sgnI z)) ∧ Below w.heap.size w w' := by
  have HL := fun w' (hb : Below w.heap.size w w') => Lib.hid (zless_any a b c d x y z w' (h.next hb) (h'.next hb) hx hy hz)
  have HS := fun a c w' => Lib.hid (zsign_any a c z w')
  clear h h' hz
  generalize decide (x < 0) = s at *
  generalize decide (y < 0) = t at *
  generalize sgnI z = g at *
  generalize dig 18446744073709551616 x.natAbs = X at *
  generalize dig 18446744073709551616 y.natAbs = Y at *
  go_enter Tryz.func68, Tryz.ntmps68
  go_wp2_with (first | (go_at_call 83; refine (HL _ (by (repeat' (first | exact Below.refl _ _ | refine Below.drew ?_ | refine Below.setCell ?_ (by first | omega | (simp <;> omega)) _ | refine Below.alloc ?_ (by first | omega | (simp <;> omega)) _)))).out.mono ?_; rintro e w5 ⟨a5, c5, rfl, _, hb5⟩) | (go_at_call 85; refine (HS _ _ _).out.mono ?_; rintro e w6 ⟨rfl, hb6⟩))
  go_ret
  exact ⟨rfl, Below.trans (Below.trans (by (repeat' (first | exact Below.refl _ _ | refine Below.drew ?_ | refine Below.setCell ?_ (by first | omega | (simp <;> omega)) _ | refine Below.alloc ?_ (by first | omega | (simp <;> omega)) _))) (hb5.mono (by first | omega | (simp <;> omega)))) (hb6.mono (by have h5 := hb5.size; (try simp at h5); omega))⟩
end Go.Proofs.YtimjhjacinchjaaGreat
