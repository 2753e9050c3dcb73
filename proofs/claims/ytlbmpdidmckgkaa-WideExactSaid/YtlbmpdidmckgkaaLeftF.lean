/- Walks of the references' whole numbers with a sign: shifts in new memory. -/
import Derived.Test.YtlbmpdidmckgkaaN13
import Derived.Test.YtlbmpdidmckgkaaLeft3
import Derived.Test.YtlbmpdidmckgkaaN8
import Derived.BigQuiet
import Derived.WalkMore
import Derived.Deep.RegionHeld3
import Derived.Deep.RegionWith
import Derived.BigRegion
import Derived.Deep.Cut
import Derived.Deep.CutBlock
import Derived.Deep.CutRange
set_option linter.unusedVariables false
set_option linter.unusedSimpArgs false
namespace Go.Proofs.Ytlbmpdidmckgkaa
open Go.RowKit Go.Rt

/-- The same, the slice told. -/
def RetZA (a : Option Addr) (c : Nat) (w : World) (z : Int) (e : Ending) (w' : World) : Prop :=
  e = .returned (.agg #[.bool (decide (z < 0)), .slice a (dig 18446744073709551616 z.natAbs).length c]) ∧ NAt w' w'.heap.size a c z.natAbs ∧ Below w.heap.size w w'
theorem sgnZ_eqA {neg s : Bool} {m : Nat} (hs : (neg && decide (0 < m)) = s) {w w' : World} {a : Option Addr} {c : Nat} (hN : NAt w' w'.heap.size a c m) (hb : Below w.heap.size w w') : RetZA a c w (sgnZ neg m) (.returned (.agg #[.bool s, .slice a (dig 18446744073709551616 m).length c])) w' := by
  refine ⟨?_, ?_, hb⟩
  · rw [sgnZ_neg, sgnZ_abs, hs]
  · rw [sgnZ_abs]; exact hN
set_option maxHeartbeats 1000000 in
theorem made_at (neg : Bool) (a : Option Addr) (c m : Nat) (w : World) (h : NAt w w.heap.size a c m) :
    Calls Try.prog 43 #[.bool neg, .slice a (dig 18446744073709551616 m).length c] w (RetZA a c w (sgnZ neg m)) := by
  have H := Lib.hid h
  have hl := dig_len_zero (B := 18446744073709551616) (m := m) (by decide)
  have hmx := h.c1
  have hmx2 := h.c2
  clear h
  cases neg with
  | false =>
    go_enter Try.func43, Try.ntmps43
    go_wp2
    refine bodyPost_ret (v := .agg #[.bool false, .slice a (dig 18446744073709551616 m).length c]) (by rw [nres_c1 rfl]; go_simp) rfl ?_
    exact sgnZ_eqA rfl (H.out.next (by (repeat' (first | exact Below.refl _ _ | refine Below.drew ?_ | refine Below.setCell ?_ (by first | omega | (simp <;> omega)) _ | refine Below.alloc ?_ (by first | omega | (simp <;> omega)) _)))) (by (repeat' (first | exact Below.refl _ _ | refine Below.drew ?_ | refine Below.setCell ?_ (by first | omega | (simp <;> omega)) _ | refine Below.alloc ?_ (by first | omega | (simp <;> omega)) _)))
  | true =>
    have HS := Lib.hid (show (true && decide (0 < m)) = decide (0 < (dig 18446744073709551616 m).length) by
      rw [Bool.true_and]
      exact decide_eq_decide.2 (by omega))
    clear hl
    go_enter Try.func43, Try.ntmps43
    go_wp2
    refine bodyPost_ret (v := .agg #[.bool (decide (0 < (dig 18446744073709551616 m).length)), .slice a (dig 18446744073709551616 m).length c]) (by rw [nres_c1 rfl]; go_simp) rfl ?_
    exact sgnZ_eqA HS.out (H.out.next (by (repeat' (first | exact Below.refl _ _ | refine Below.drew ?_ | refine Below.setCell ?_ (by first | omega | (simp <;> omega)) _ | refine Below.alloc ?_ (by first | omega | (simp <;> omega)) _)))) (by (repeat' (first | exact Below.refl _ _ | refine Below.drew ?_ | refine Below.setCell ?_ (by first | omega | (simp <;> omega)) _ | refine Below.alloc ?_ (by first | omega | (simp <;> omega)) _)))

/-- A number with a sign handed back, in new memory. -/
def RetZF (w : World) (z : Int) (e : Ending) (w' : World) : Prop :=
  ∃ a c, e = .returned (.agg #[.bool (decide (z < 0)), .slice a (dig 18446744073709551616 z.natAbs).length c]) ∧ NAt w' w'.heap.size a c z.natAbs ∧ Below w.heap.size w w' ∧ Fresh w.heap.size a
theorem RetZ.fresh {w w' : World} {z : Int} {b : Bool} {a : Option Addr} {n c : Nat} (h : RetZ w z (.returned (.agg #[.bool b, .slice a n c])) w') (hf : Fresh w.heap.size a) : RetZF w z (.returned (.agg #[.bool b, .slice a n c])) w' := by
  obtain ⟨a', c', he, h1, h2⟩ := h
  simp only [Ending.returned.injEq, Value.agg.injEq, Array.mk.injEq, List.cons.injEq, Value.bool.injEq, Value.slice.injEq, and_true] at he
  obtain ⟨h3, rfl, h4, rfl⟩ := he
  exact ⟨a, c, by rw [h3, h4], h1, h2, hf⟩
theorem fresh_away {w : World} {B hi : Nat} {a : Option Addr} {c m b k : Nat} {v : Value} (h : NAt w hi a c m) (hf : Fresh B a) (hb : b < B) : NAt (w.setCell ⟨b, k, none⟩ v) hi a c m := by
  have hB := (Below.refl b w).setCell (p := ⟨b, k, none⟩) (Nat.le_refl _) v
  refine ⟨⟨h.li.len, h.li.wf, fun j hj => ?_⟩, h.c1, h.c2⟩
  obtain ⟨q, off, ha, hlt, hc⟩ := h.li.cell j hj
  have hq := hf _ ha
  dsimp only at hq
  refine ⟨q, off, ha, hlt, ?_⟩
  rw [World.cell?_setCell_far _ _ _ _ (by dsimp only; omega)]
  exact hc

set_option maxHeartbeats 4000000 in
set_option maxRecDepth 100000 in
theorem zleftF_any (a : Option Addr) (c n : Nat) (x z : Int) (w : World) (h : NAt w w.heap.size a c x.natAbs) (hx : (dig 18446744073709551616 x.natAbs).length ≤ 1000000) (hn : n ≤ 60000000) (hz : x * ((2 ^ n : Nat) : Int) = z) :
    Calls Try.prog 24 #[.agg #[.bool (decide (x < 0)), .slice a (dig 18446744073709551616 x.natAbs).length c], .int .i64 n] w (RetZF w z) := by
  have HT := fun w' (hb : Below w.heap.size w w') => Lib.hid (up2F_any a c x.natAbs n w' (h.next hb) hx hn)
  have EZ := Lib.hid (sgnZ_shift x n)
  rw [hz] at EZ
  clear h hz
  generalize decide (x < 0) = s at *
  generalize dig 18446744073709551616 x.natAbs = X at *
  go_enter Try.func24, Try.ntmps24
  go_upto_region 1 with fail
  refine wp_region_held_drew (S := (fun w' => Below w.heap.size w w' ∧ w'.cell? ⟨w.heap.size, 0, none⟩ = some (.bool s) ∧ w'.cell? ⟨w.heap.size, 1, none⟩ = some (.slice a X.length c) ∧ w'.cell? ⟨w.heap.size, 0, none⟩ = some (.bool s) ∧ w'.cell? ⟨w.heap.size, 1, none⟩ = some (.slice a X.length c))) (by kernel_rfl) (⟨(by (repeat' (first | exact Below.refl _ _ | refine belowDN ?_ _ | refine Below.drew ?_ | refine Below.setCell ?_ (by first | omega | (simp <;> omega)) _ | refine Below.alloc ?_ (by first | omega | (simp <;> omega)) _))), by go_simp, by go_simp, by go_simp, by go_simp⟩) (fun hHeld => ?_)
  refine takeY (i := 0) (dst := (some 5)) (v := ?_) rfl rfl (by kernel_rfl) (by kernel_rfl) (by kernel_rfl) (fun _ _ _ h => h) (by rfl) ?hy2w0 (by assumption) ?rest2w0
  case hy2w0 => (intro w hSw; (try dsimp only at hSw); go_simp; (try with_reducible rfl))
  try simp only [Act.put, List.setIfInBounds_toArray, List.set_cons_zero, List.set_cons_succ]
  refine takeY (i := 1) (dst := (some 6)) (v := ?_) rfl rfl (by kernel_rfl) (by kernel_rfl) (by kernel_rfl) (fun _ _ _ h => h) (by rfl) ?hy2w1 (by assumption) ?rest2w1
  case hy2w1 => (intro w hSw; (try dsimp only at hSw); go_simp; (try with_reducible rfl))
  try simp only [Act.put, List.setIfInBounds_toArray, List.set_cons_zero, List.set_cons_succ]
  refine takeY (i := 2) (dst := (some 7)) (v := ?_) rfl rfl (by kernel_rfl) (by kernel_rfl) (by kernel_rfl) (fun _ _ _ h => h) (by rfl) ?hy2w2 (by assumption) ?rest2w2
  case hy2w2 => (intro w hSw; (try dsimp only at hSw); go_simp; (try with_reducible rfl))
  try simp only [Act.put, List.setIfInBounds_toArray, List.set_cons_zero, List.set_cons_succ]
  refine takeY (i := 3) (dst := (some 8)) (v := ?_) rfl rfl (by kernel_rfl) (by kernel_rfl) (by kernel_rfl) (fun _ _ _ h => h) (by rfl) ?hy2w3 (by assumption) ?rest2w3
  case hy2w3 => (intro w hSw; (try dsimp only at hSw); go_simp; (try with_reducible rfl))
  try simp only [Act.put, List.setIfInBounds_toArray, List.set_cons_zero, List.set_cons_succ]
  refine takeY (i := 4) (dst := (some 9)) (v := ?_) rfl rfl (by kernel_rfl) (by kernel_rfl) (by kernel_rfl) (fun _ _ _ h => h) (by rfl) ?hy2w4 (by assumption) ?rest2w4
  case hy2w4 => (intro w hSw; (try dsimp only at hSw); go_simp; (try with_reducible rfl))
  try simp only [Act.put, List.setIfInBounds_toArray, List.set_cons_zero, List.set_cons_succ]
  refine wpAnyH_ready (rs := [5]) (by kernel_rfl) (by simp) (AllReadyH.cons rfl (fun K hK => ?_) AllReadyH.nil)
  go_simp
  (go_at_call 56; refine (HT _ (heldZ1 (by assumption))).out.mono ?_; rintro e w5 ⟨a5, c5, rfl, hN5, hb5, hF5⟩; have X5 := NBox2.below (b := w.heap.size + 1) (v0 := .bool false) (v1 := .slice none 0 0) (by constructor <;> go_simp) hb5 (by first | omega | (simp <;> omega)); have hs5 := hb5.size; (try simp at hs5); have HF5 := Lib.hid (hF5.mono (heldZ1 (by assumption)).size); clear hF5; have HM := made_at s a5 c5 _ w5 hN5; rw [EZ.out] at HM; have HM2 := Lib.hid HM; clear HM hN5)
  (try go_wp2_with fail)
  refine hK.out _ _ (heldZ4 (by assumption) (by assumption)) (fun hHeld => ?_)
  clear hK K
  try simp only [Act.put, List.setIfInBounds_toArray, List.set_cons_zero, List.set_cons_succ]
  refine wpAnyH_ready (rs := [6]) (by kernel_rfl) (by simp) (AllReadyH.cons rfl (fun K hK => ?_) AllReadyH.nil)
  go_simp
  (go_at_call 43; refine HM2.out.mono ?_; rintro e w6 ⟨rfl, hN6, hb6⟩; have HN6 := Lib.hid hN6; have X6 := X5.below hb6 (by first | omega | (simp <;> omega)); have hs6 := hb6.size; clear hN6 X5; have HX6 := Lib.hid X6; obtain ⟨x0, x1, x2, x3⟩ := X6)
  (try go_wp2_with fail)
  refine hK.out _ _ (heldZ4 (by assumption) (by assumption)) (fun hHeld => ?_)
  clear hK K
  try simp only [Act.put, List.setIfInBounds_toArray, List.set_cons_zero, List.set_cons_succ]
  refine wpAnyH_ready (rs := [7]) (by kernel_rfl) (by simp) (AllReadyH.cons rfl (fun K hK => ?_) AllReadyH.nil)
  go_simp
  skip
  (try go_wp2_with fail)
  refine hK.out _ _ (heldZset (by assumption) (by omega) (by omega) (by omega)) (fun hHeld => ?_)
  clear hK K
  try simp only [Act.put, List.setIfInBounds_toArray, List.set_cons_zero, List.set_cons_succ]
  refine wpAnyH_done (by kernel_rfl) ?_ _
  go_wp2_with fail
  refine bodyPost_ret (v := .agg #[.bool (decide ((z) < 0)), .slice a5 (dig 18446744073709551616 (z).natAbs).length c5]) (by rw [nres_c1 rfl]; go_simp) rfl ?_
  exact RetZ.fresh (retZ_box (by omega) HN6.out HX6.out (by intro z h; cases h) (by intro z h; cases h) (Below.trans (Below.trans (by (repeat' (first | exact Below.refl _ _ | refine belowDN ?_ _ | refine Below.drew ?_ | refine Below.setCell ?_ (by first | omega | (simp <;> omega)) _ | refine Below.alloc ?_ (by first | omega | (simp <;> omega)) _))) (hb5.mono (by first | omega | (simp <;> omega)))) (hb6.mono (by first | omega | (simp <;> omega)))) _ _) HF5.out
theorem left_bad (h l n : Int) (w : World) (hn : n < 0 ∨ 126 < n) : Calls Try.prog 30 #[.agg #[.int .i64 h, .int .u64 l], .int .i64 n] w (RetWE w 0 0 1) := by
  rcases hn with hn | hn
  · go_enter Try.func30, Try.ntmps30
    go_wp2
    refine bodyPost_ret (v := .tuple #[.agg #[.int .i64 0, .int .u64 0], .int .i64 1]) (by first | (rw [results_c1 rfl]; go_simp) | (rw [results_ct rfl]; go_simp) | go_simp) rfl ⟨rfl, ?_⟩
    exact (by (repeat' (first | exact Below.refl _ _ | refine belowDN ?_ _ | refine Below.drew ?_ | refine Below.setCell ?_ (by first | omega | (simp <;> omega)) _ | refine Below.alloc ?_ (by first | omega | (simp <;> omega)) _)))
  · have hn0 : ¬ n < 0 := by omega
    go_enter Try.func30, Try.ntmps30
    go_wp2
    refine bodyPost_ret (v := .tuple #[.agg #[.int .i64 0, .int .u64 0], .int .i64 1]) (by first | (rw [results_c1 rfl]; go_simp) | (rw [results_ct rfl]; go_simp) | go_simp) rfl ⟨rfl, ?_⟩
    exact (by (repeat' (first | exact Below.refl _ _ | refine belowDN ?_ _ | refine Below.drew ?_ | refine Below.setCell ?_ (by first | omega | (simp <;> omega)) _ | refine Below.alloc ?_ (by first | omega | (simp <;> omega)) _)))
end Go.Proofs.Ytlbmpdidmckgkaa
