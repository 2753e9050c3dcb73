/- Walks of the references' whole numbers with a sign: what is done with them. -/
import Derived.Test.YtimjhjacinchjaaGreatN10
import Derived.Test.YtimjhjacinchjaaGreatMTake
import Derived.BigQuiet
import Derived.WalkMore
import Derived.Deep.RegionHeld3
import Derived.Deep.RegionWith
import Derived.BigRegion
import Derived.Deep.Cut
import Derived.Deep.CutBlock
import Derived.Deep.CutRange
set_option linter.unusedVariables false
set_option linter.unusedSimpArgs false
namespace Go.Proofs.YtimjhjacinchjaaGreat
open Go.RowKit Go.Rt

theorem sgnZ_not (z : Int) : sgnZ (!decide (z < 0)) z.natAbs = -z := by
  unfold sgnZ
  by_cases h : z < 0
  · simp [h]; omega
  · simp [h]; omega
theorem sgnZ_mul (x y : Int) : sgnZ (decide (x < 0) != decide (y < 0)) (x.natAbs * y.natAbs) = x * y := by
  obtain ⟨m, hm⟩ : ∃ m : Nat, x.natAbs = m := ⟨_, rfl⟩
  obtain ⟨n, hn⟩ : ∃ n : Nat, y.natAbs = n := ⟨_, rfl⟩
  unfold sgnZ
  rw [hm, hn, Int.natCast_mul]
  by_cases h1 : x < 0
  · have ex : x = -(m : Int) := by omega
    by_cases h2 : y < 0
    · have ey : y = -(n : Int) := by omega
      have e : x * y = (m : Int) * n := by rw [ex, ey, Int.neg_mul_neg]
      rw [e, decide_eq_true h1, decide_eq_true h2]
      simp
    · have ey : y = (n : Int) := by omega
      have e : x * y = -((m : Int) * n) := by rw [ex, ey, Int.neg_mul]
      rw [e, decide_eq_true h1, decide_eq_false h2]
      simp
  · have ex : x = (m : Int) := by omega
    by_cases h2 : y < 0
    · have ey : y = -(n : Int) := by omega
      have e : x * y = -((m : Int) * n) := by rw [ex, ey, Int.mul_neg]
      rw [e, decide_eq_false h1, decide_eq_true h2]
      simp
    · have ey : y = (n : Int) := by omega
      have e : x * y = (m : Int) * n := by rw [ex, ey]
      rw [e, decide_eq_false h1, decide_eq_false h2]
      simp
theorem heldZ4 {w0 W W2 : World} {a1 a2 a3 a4 : Addr} {v1 v2 v3 v4 : Value} (h : Below w0.heap.size w0 W ∧ W.cell? a1 = some v1 ∧ W.cell? a2 = some v2 ∧ W.cell? a3 = some v3 ∧ W.cell? a4 = some v4) (hb : Below W.heap.size W W2) : Below w0.heap.size w0 W2 ∧ W2.cell? a1 = some v1 ∧ W2.cell? a2 = some v2 ∧ W2.cell? a3 = some v3 ∧ W2.cell? a4 = some v4 := by
  obtain ⟨h0, h1, h2, h3, h4⟩ := h
  exact ⟨h0.trans (hb.mono h0.size), (hb.cell (World.block_lt_of_cell? W _ h1)).trans h1, (hb.cell (World.block_lt_of_cell? W _ h2)).trans h2, (hb.cell (World.block_lt_of_cell? W _ h3)).trans h3, (hb.cell (World.block_lt_of_cell? W _ h4)).trans h4⟩
theorem heldZ1 {w0 W : World} {p : Prop} (h : Below w0.heap.size w0 W ∧ p) : Below w0.heap.size w0 W := h.1
theorem heldZset {w0 W : World} {b1 b2 r o1 o2 o3 o4 o5 o6 : Nat} {v1 v2 v3 v4 y z : Value} (h : Below w0.heap.size w0 W ∧ W.cell? ⟨b1, o1, none⟩ = some v1 ∧ W.cell? ⟨b1, o2, none⟩ = some v2 ∧ W.cell? ⟨b2, o3, none⟩ = some v3 ∧ W.cell? ⟨b2, o4, none⟩ = some v4) (hr : w0.heap.size ≤ r) (n1 : r ≠ b1) (n2 : r ≠ b2) :
    Below w0.heap.size w0 ((W.setCell ⟨r, o5, none⟩ y).setCell ⟨r, o6, none⟩ z) ∧ ((W.setCell ⟨r, o5, none⟩ y).setCell ⟨r, o6, none⟩ z).cell? ⟨b1, o1, none⟩ = some v1 ∧ ((W.setCell ⟨r, o5, none⟩ y).setCell ⟨r, o6, none⟩ z).cell? ⟨b1, o2, none⟩ = some v2 ∧ ((W.setCell ⟨r, o5, none⟩ y).setCell ⟨r, o6, none⟩ z).cell? ⟨b2, o3, none⟩ = some v3 ∧ ((W.setCell ⟨r, o5, none⟩ y).setCell ⟨r, o6, none⟩ z).cell? ⟨b2, o4, none⟩ = some v4 := by
  obtain ⟨h0, h1, h2, h3, h4⟩ := h
  refine ⟨(h0.setCell hr _).setCell hr _, ?_, ?_, ?_, ?_⟩
  · rw [World.cell?_setCell_far _ _ _ _ n1, World.cell?_setCell_far _ _ _ _ n1]; exact h1
  · rw [World.cell?_setCell_far _ _ _ _ n1, World.cell?_setCell_far _ _ _ _ n1]; exact h2
  · rw [World.cell?_setCell_far _ _ _ _ n2, World.cell?_setCell_far _ _ _ _ n2]; exact h3
  · rw [World.cell?_setCell_far _ _ _ _ n2, World.cell?_setCell_far _ _ _ _ n2]; exact h4

set_option maxHeartbeats 1000000 in
theorem zneg_any (a : Option Addr) (c : Nat) (x : Int) (w : World) (h : NAt w w.heap.size a c x.natAbs) : Calls Tryz.prog 93 #[.agg #[.bool (decide (x < 0)), .slice a (dig 18446744073709551616 x.natAbs).length c]] w (RetZ w (-x)) := by
  have HM := fun w' (hb : Below w.heap.size w w') => Lib.hid (made_any (!decide (x < 0)) a c x.natAbs w' (h.next hb))
  rw [sgnZ_not] at HM
  clear h
  generalize decide (x < 0) = s at *
  generalize dig 18446744073709551616 x.natAbs = X at *
  go_enter Tryz.func93, Tryz.ntmps93
  go_wp2_with (first | (go_at_call 57; refine (HM _ (by (repeat' (first | exact Below.refl _ _ | refine Below.drew ?_ | refine Below.setCell ?_ (by first | omega | (simp <;> omega)) _ | refine Below.alloc ?_ (by first | omega | (simp <;> omega)) _)))).out.mono ?_; rintro e w3 ⟨a3, c3, rfl, hN3, hb3⟩; have HN3 := Lib.hid hN3; have HB3 := Lib.hid hb3; have X3 := NBox2.below (b := w.heap.size + 1) (v0 := .bool false) (v1 := .slice none 0 0) (by constructor <;> go_simp) hb3 (by first | omega | (simp <;> omega)); obtain ⟨x0, x1, x2, x3⟩ := X3; have hs3 := hb3.size; (try simp at hs3); clear hN3 hb3))
  refine bodyPost_ret (v := .agg #[.bool (decide ((-x) < 0)), .slice a3 (dig 18446744073709551616 (-x).natAbs).length c3]) (by rw [nres_c1 rfl]; go_simp) rfl ?_
  exact retZ_box (by omega) HN3.out ⟨x0, x1, x2, x3⟩ (by intro z h; cases h) (by intro z h; cases h) (Below.trans (by (repeat' (first | exact Below.refl _ _ | refine Below.drew ?_ | refine Below.setCell ?_ (by first | omega | (simp <;> omega)) _ | refine Below.alloc ?_ (by first | omega | (simp <;> omega)) _))) (HB3.out.mono (by first | omega | (simp <;> omega)))) _ _

set_option maxHeartbeats 4000000 in
set_option maxRecDepth 100000 in
theorem ztimes_any (a b : Option Addr) (c d : Nat) (x y : Int) (w : World) (h : NAt w w.heap.size a c x.natAbs) (h' : NAt w w.heap.size b d y.natAbs) (hx : (dig 18446744073709551616 x.natAbs).length ≤ 1000000) (hy : (dig 18446744073709551616 y.natAbs).length ≤ 1000000) :
    Calls Tryz.prog 38 #[.agg #[.bool (decide (x < 0)), .slice a (dig 18446744073709551616 x.natAbs).length c], .agg #[.bool (decide (y < 0)), .slice b (dig 18446744073709551616 y.natAbs).length d]] w (RetZ w (x * y)) := by
  have HT := fun w' (hb : Below w.heap.size w w') => Lib.hid (ntimes_any a b c d x.natAbs y.natAbs w' (h.next hb) (h'.next hb) hx hy)
  have EZ := Lib.hid (sgnZ_mul x y)
  have EM := Lib.hid (show (x * y).natAbs = x.natAbs * y.natAbs from Int.natAbs_mul x y)
  clear h h'
  generalize decide (x < 0) = s at *
  generalize decide (y < 0) = t at *
  generalize dig 18446744073709551616 x.natAbs = X at *
  generalize dig 18446744073709551616 y.natAbs = Y at *
  go_enter Tryz.func38, Tryz.ntmps38
  go_upto_region 1 with fail
  refine wp_region_held_drew (S := (fun w' => Below w.heap.size w w' ∧ w'.cell? ⟨w.heap.size, 0, none⟩ = some (.bool s) ∧ w'.cell? ⟨w.heap.size, 1, none⟩ = some (.slice a X.length c) ∧ w'.cell? ⟨w.heap.size + 1, 0, none⟩ = some (.bool t) ∧ w'.cell? ⟨w.heap.size + 1, 1, none⟩ = some (.slice b Y.length d))) (by kernel_rfl) (⟨(by (repeat' (first | exact Below.refl _ _ | refine Below.drew ?_ | refine Below.setCell ?_ (by first | omega | (simp <;> omega)) _ | refine Below.alloc ?_ (by first | omega | (simp <;> omega)) _))), by go_simp, by go_simp, by go_simp, by go_simp⟩) (fun hHeld => ?_)
  refine takeY (i := 0) (dst := (some 5)) (v := ?_) rfl rfl (by kernel_rfl) (by kernel_rfl) (by kernel_rfl) (fun _ _ _ h => h) (by rfl) ?hy1w0 (by assumption) ?rest1w0
  case hy1w0 => (intro w hSw; (try dsimp only at hSw); go_simp; (try with_reducible rfl))
  try simp only [Act.put, List.setIfInBounds_toArray, List.set_cons_zero, List.set_cons_succ]
  refine takeY (i := 1) (dst := (some 6)) (v := ?_) rfl rfl (by kernel_rfl) (by kernel_rfl) (by kernel_rfl) (fun _ _ _ h => h) (by rfl) ?hy1w1 (by assumption) ?rest1w1
  case hy1w1 => (intro w hSw; (try dsimp only at hSw); go_simp; (try with_reducible rfl))
  try simp only [Act.put, List.setIfInBounds_toArray, List.set_cons_zero, List.set_cons_succ]
  refine takeY (i := 2) (dst := (some 7)) (v := ?_) rfl rfl (by kernel_rfl) (by kernel_rfl) (by kernel_rfl) (fun _ _ _ h => h) (by rfl) ?hy1w2 (by assumption) ?rest1w2
  case hy1w2 => (intro w hSw; (try dsimp only at hSw); go_simp; (try with_reducible rfl))
  try simp only [Act.put, List.setIfInBounds_toArray, List.set_cons_zero, List.set_cons_succ]
  refine takeY (i := 3) (dst := (some 8)) (v := ?_) rfl rfl (by kernel_rfl) (by kernel_rfl) (by kernel_rfl) (fun _ _ _ h => h) (by rfl) ?hy1w3 (by assumption) ?rest1w3
  case hy1w3 => (intro w hSw; (try dsimp only at hSw); go_simp; (try with_reducible rfl))
  try simp only [Act.put, List.setIfInBounds_toArray, List.set_cons_zero, List.set_cons_succ]
  refine takeY (i := 4) (dst := (some 9)) (v := ?_) rfl rfl (by kernel_rfl) (by kernel_rfl) (by kernel_rfl) (fun _ _ _ h => h) (by rfl) ?hy1w4 (by assumption) ?rest1w4
  case hy1w4 => (intro w hSw; (try dsimp only at hSw); go_simp; (try with_reducible rfl))
  try simp only [Act.put, List.setIfInBounds_toArray, List.set_cons_zero, List.set_cons_succ]
  refine takeY (i := 5) (dst := (some 10)) (v := ?_) rfl rfl (by kernel_rfl) (by kernel_rfl) (by kernel_rfl) (fun _ _ _ h => h) (by rfl) ?hy1w5 (by assumption) ?rest1w5
  case hy1w5 => (intro w hSw; (try dsimp only at hSw); go_simp; (try with_reducible rfl))
  try simp only [Act.put, List.setIfInBounds_toArray, List.set_cons_zero, List.set_cons_succ]
  refine takeY (i := 6) (dst := (some 11)) (v := ?_) rfl rfl (by kernel_rfl) (by kernel_rfl) (by kernel_rfl) (fun _ _ _ h => h) (by rfl) ?hy1w6 (by assumption) ?rest1w6
  case hy1w6 => (intro w hSw; (try dsimp only at hSw); go_simp; (try with_reducible rfl))
  try simp only [Act.put, List.setIfInBounds_toArray, List.set_cons_zero, List.set_cons_succ]
  refine takeY (i := 7) (dst := (some 12)) (v := ?_) rfl rfl (by kernel_rfl) (by kernel_rfl) (by kernel_rfl) (fun _ _ _ h => h) (by rfl) ?hy1w7 (by assumption) ?rest1w7
  case hy1w7 => (intro w hSw; (try dsimp only at hSw); go_simp; (try with_reducible rfl))
  try simp only [Act.put, List.setIfInBounds_toArray, List.set_cons_zero, List.set_cons_succ]
  refine takeY (i := 8) (dst := (some 13)) (v := ?_) rfl rfl (by kernel_rfl) (by kernel_rfl) (by kernel_rfl) (fun _ _ _ h => h) (by rfl) ?hy1w8 (by assumption) ?rest1w8
  case hy1w8 => (intro w hSw; (try dsimp only at hSw); go_simp; (try with_reducible rfl))
  try simp only [Act.put, List.setIfInBounds_toArray, List.set_cons_zero, List.set_cons_succ]
  refine wpAnyH_ready (rs := [9]) (by kernel_rfl) (by simp) (AllReadyH.cons rfl (fun K hK => ?_) AllReadyH.nil)
  go_simp
  (go_at_call 58; refine (HT _ (heldZ1 (by assumption))).out.mono ?_; rintro e w5 ⟨a5, c5, rfl, hN5, hb5⟩; have X5 := NBox2.below (b := w.heap.size + 1 + 1) (v0 := .bool false) (v1 := .slice none 0 0) (by constructor <;> go_simp) hb5 (by first | omega | (simp <;> omega)); have hs5 := hb5.size; (try simp at hs5); have HM := made_any (s != t) a5 c5 _ w5 hN5; rw [EZ.out] at HM; have HM2 := Lib.hid HM; clear HM hN5)
  (try go_wp2_with fail)
  refine hK.out _ _ (heldZ4 (by assumption) (by assumption)) (fun hHeld => ?_)
  clear hK K
  try simp only [Act.put, List.setIfInBounds_toArray, List.set_cons_zero, List.set_cons_succ]
  refine wpAnyH_ready (rs := [10]) (by kernel_rfl) (by simp) (AllReadyH.cons rfl (fun K hK => ?_) AllReadyH.nil)
  go_simp
  (go_at_call 57; refine HM2.out.mono ?_; rintro e w6 ⟨a6, c6, rfl, hN6, hb6⟩; have HN6 := Lib.hid hN6; have X6 := X5.below hb6 (by first | omega | (simp <;> omega)); have hs6 := hb6.size; clear hN6 X5; have HX6 := Lib.hid X6; obtain ⟨x0, x1, x2, x3⟩ := X6)
  (try go_wp2_with fail)
  refine hK.out _ _ (heldZ4 (by assumption) (by assumption)) (fun hHeld => ?_)
  clear hK K
  try simp only [Act.put, List.setIfInBounds_toArray, List.set_cons_zero, List.set_cons_succ]
  refine wpAnyH_ready (rs := [11]) (by kernel_rfl) (by simp) (AllReadyH.cons rfl (fun K hK => ?_) AllReadyH.nil)
  go_simp
  skip
  (try go_wp2_with fail)
  refine hK.out _ _ (heldZset (by assumption) (by omega) (by omega) (by omega)) (fun hHeld => ?_)
  clear hK K
  try simp only [Act.put, List.setIfInBounds_toArray, List.set_cons_zero, List.set_cons_succ]
  refine wpAnyH_done (by kernel_rfl) ?_ _
  go_wp2_with fail
  refine bodyPost_ret (v := .agg #[.bool (decide ((x * y) < 0)), .slice a6 (dig 18446744073709551616 (x * y).natAbs).length c6]) (by rw [nres_c1 rfl]; go_simp) rfl ?_
  exact retZ_box (by omega) HN6.out HX6.out (by intro z h; cases h) (by intro z h; cases h) (Below.trans (Below.trans (by (repeat' (first | exact Below.refl _ _ | refine Below.drew ?_ | refine Below.setCell ?_ (by first | omega | (simp <;> omega)) _ | refine Below.alloc ?_ (by first | omega | (simp <;> omega)) _))) (hb5.mono (by first | omega | (simp <;> omega)))) (hb6.mono (by first | omega | (simp <;> omega)))) _ _
end Go.Proofs.YtimjhjacinchjaaGreat
