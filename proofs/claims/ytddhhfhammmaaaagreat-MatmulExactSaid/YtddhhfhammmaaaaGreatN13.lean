/- Walks of the references' whole numbers with a sign. -/
import Derived.Test.YtddhhfhammmaaaaGreatNRes
import Derived.BigQuiet
import Derived.WalkMore
import Derived.Deep.RegionHeld3
import Derived.Deep.RegionWith
import Derived.BigRegion
import Derived.Deep.Cut
import Derived.Deep.CutBlock
import Derived.Deep.CutRange
import Derived.Test.YtddhhfhammmaaaaGreatMTake
set_option linter.unusedVariables false
set_option linter.unusedSimpArgs false
namespace Go.Proofs.YtddhhfhammmaaaaGreat
open Go.RowKit Go.Rt

/-- A size with a sign. -/
def sgnZ (neg : Bool) (m : Nat) : Int := if neg = true then -(m : Int) else (m : Int)
theorem sgnZ_abs (neg : Bool) (m : Nat) : (sgnZ neg m).natAbs = m := by unfold sgnZ; split <;> omega
theorem sgnZ_neg (neg : Bool) (m : Nat) : decide (sgnZ neg m < 0) = (neg && decide (0 < m)) := by
  unfold sgnZ
  cases neg
  · simp <;> omega
  · by_cases h : m = 0
    · subst h; simp
    · simp <;> omega
theorem sgnZ_self (z : Int) : sgnZ (decide (z < 0)) z.natAbs = z := by
  unfold sgnZ
  by_cases h : z < 0
  · simp [h]; omega
  · simp [h]; omega
/-- A number with a sign handed back. -/
def RetZ (w : World) (z : Int) (e : Ending) (w' : World) : Prop :=
  ∃ a c, e = .returned (.agg #[.bool (decide (z < 0)), .slice a (dig 18446744073709551616 z.natAbs).length c]) ∧ NAt w' w'.heap.size a c z.natAbs ∧ Below w.heap.size w w'
theorem sgnZ_eq {neg s : Bool} {m : Nat} (hs : (neg && decide (0 < m)) = s) {w w' : World} {a : Option Addr} {c : Nat} (hN : NAt w' w'.heap.size a c m) (hb : Below w.heap.size w w') : RetZ w (sgnZ neg m) (.returned (.agg #[.bool s, .slice a (dig 18446744073709551616 m).length c])) w' := by
  refine ⟨a, c, ?_, ?_, hb⟩
  · rw [sgnZ_neg, sgnZ_abs, hs]
  · rw [sgnZ_abs]; exact hN

set_option maxHeartbeats 1000000 in
theorem made_any (neg : Bool) (a : Option Addr) (c m : Nat) (w : World) (h : NAt w w.heap.size a c m) :
    Calls Tryz.prog 48 #[.bool neg, .slice a (dig 18446744073709551616 m).length c] w (RetZ w (sgnZ neg m)) := by
  have H := Lib.hid h
  have hl := dig_len_zero (B := 18446744073709551616) (m := m) (by decide)
  have hmx := h.c1
  have hmx2 := h.c2
  clear h
  cases neg with
  | false =>
    go_enter Tryz.func48, Tryz.ntmps48
    go_wp2
    refine bodyPost_ret (v := .agg #[.bool false, .slice a (dig 18446744073709551616 m).length c]) (by rw [nres_c1 rfl]; go_simp) rfl ?_
    exact sgnZ_eq rfl (H.out.next (by (repeat' (first | exact Below.refl _ _ | refine Below.drew ?_ | refine Below.setCell ?_ (by first | omega | (simp <;> omega)) _ | refine Below.alloc ?_ (by first | omega | (simp <;> omega)) _)))) (by (repeat' (first | exact Below.refl _ _ | refine Below.drew ?_ | refine Below.setCell ?_ (by first | omega | (simp <;> omega)) _ | refine Below.alloc ?_ (by first | omega | (simp <;> omega)) _)))
  | true =>
    have HS := Lib.hid (show (true && decide (0 < m)) = decide (0 < (dig 18446744073709551616 m).length) by
      rw [Bool.true_and]
      exact decide_eq_decide.2 (by omega))
    clear hl
    go_enter Tryz.func48, Tryz.ntmps48
    go_wp2
    refine bodyPost_ret (v := .agg #[.bool (decide (0 < (dig 18446744073709551616 m).length)), .slice a (dig 18446744073709551616 m).length c]) (by rw [nres_c1 rfl]; go_simp) rfl ?_
    exact sgnZ_eq HS.out (H.out.next (by (repeat' (first | exact Below.refl _ _ | refine Below.drew ?_ | refine Below.setCell ?_ (by first | omega | (simp <;> omega)) _ | refine Below.alloc ?_ (by first | omega | (simp <;> omega)) _)))) (by (repeat' (first | exact Below.refl _ _ | refine Below.drew ?_ | refine Below.setCell ?_ (by first | omega | (simp <;> omega)) _ | refine Below.alloc ?_ (by first | omega | (simp <;> omega)) _)))

theorem zsize_any (n : Int) (w : World) (h0 : -9223372036854775808 ≤ n) (h1 : n ≤ 9223372036854775807) :
    Calls Tryz.prog 49 #[.int .i64 n] w fun e w' => e = .returned (.int .u64 (n.natAbs : Int)) ∧ w = w' := by
  by_cases hn : n < 0
  · obtain ⟨s, hs, es⟩ : ∃ s : Int, s = n % 18446744073709551616 ∧ ∀ [Inhabited Unit], IntKind.u64.wrap n = s := ⟨_, rfl, fun {_} => by simp [IntKind.wrap, IntKind.bits, IntKind.signed]⟩
    have e2 : ∀ [Inhabited Unit], IntKind.u64.wrap (0 - s) = (n.natAbs : Int) := by intro _; simp [IntKind.wrap, IntKind.bits, IntKind.signed]; omega
    have e3 : ∀ [Inhabited Unit], IntKind.u64.wrap (-s) = (n.natAbs : Int) := by intro _; simp [IntKind.wrap, IntKind.bits, IntKind.signed]; omega
    have hb : 9223372036854775808 ≤ s ∧ s < 18446744073709551616 := by omega
    have HN := Lib.hid hs
    clear hs
    generalize (n.natAbs : Int) = N at *
    go_enter Tryz.func49, Tryz.ntmps49
    go_wp2
    go_ret
    exact ⟨rfl, rfl⟩
  · have e2 : ∀ [Inhabited Unit], IntKind.u64.wrap n = n := by intro _; exact u64_same _ (by omega) (by omega)
    have HN : Hid ((n.natAbs : Int) = n) := Lib.hid (by omega)
    rw [HN.out]
    go_enter Tryz.func49, Tryz.ntmps49
    go_wp2
    go_ret
    exact ⟨rfl, rfl⟩

theorem nat_set {w : World} {a : Option Addr} {c m q o : Nat} {v v' : Value} (h : NAt w w.heap.size a c m) (hc : w.cell? ⟨q, o, none⟩ = some v) (hv : ∀ x, v ≠ .int .u64 x) : NAt (w.setCell ⟨q, o, none⟩ v') (w.setCell ⟨q, o, none⟩ v').heap.size a c m := by
  have hs : (w.setCell ⟨q, o, none⟩ v').heap.size = w.heap.size := by simp
  rw [hs]
  exact ⟨ints_setOtherN h.li hc hv, h.c1, h.c2⟩

theorem retZ_box {w w3 : World} {z : Int} {q c : Nat} {a : Option Addr} {v0 v1 : Value} (hq : w.heap.size ≤ q) (hN : NAt w3 w3.heap.size a c z.natAbs) (hX : NBox2 w3 q v0 v1) (h0 : ∀ x, v0 ≠ .int .u64 x) (h1 : ∀ x, v1 ≠ .int .u64 x) (hb : Below w.heap.size w w3) (y0 y1 : Value) :
    RetZ w z (.returned (.agg #[.bool (decide (z < 0)), .slice a (dig 18446744073709551616 z.natAbs).length c])) ((w3.setCell ⟨q, 0, none⟩ y0).setCell ⟨q, 1, none⟩ y1) := by
  refine ⟨a, c, rfl, nat_set (v := v1) (nat_set hN hX.c0 h0) ?_ h1, (hb.setCell hq _).setCell hq _⟩
  obtain ⟨c0, c1, f0, f1⟩ := hX
  go_simp

set_option maxHeartbeats 1000000 in
theorem zfrom_any (n : Int) (w : World) (h0 : -9223372036854775808 ≤ n) (h1 : n ≤ 9223372036854775807) : Calls Tryz.prog 20 #[.int .i64 n] w (RetZ w n) := by
  have H1 := fun w => Lib.hid (zsize_any n w h0 h1)
  have H2 := fun w => Lib.hid (nof_any (n.natAbs : Int) ⟨by omega, by omega⟩ w)
  have H3 := fun a c w h => Lib.hid (made_any (decide (n < 0)) a c n.natAbs w h)
  rw [sgnZ_self] at H3
  rw [Int.toNat_natCast] at H2
  have HA := Lib.hid (show (n.natAbs : Int).toNat = n.natAbs from Int.toNat_natCast _)
  go_enter Tryz.func20, Tryz.ntmps20
  go_wp2_with (first | (go_at_call 49; refine (H1 _).out.mono ?_; rintro e w1 ⟨rfl, rfl⟩) | (go_at_call 28; refine (H2 _).out.mono ?_; rintro e w2 ⟨a2, c2, rfl, hN2, hb2⟩; have HN2 := Lib.hid hN2; have HB2 := Lib.hid hb2; have X2 := NBox2.below (b := w.heap.size) (v0 := .bool false) (v1 := .slice none 0 0) (by constructor <;> go_simp) hb2 (by simp); obtain ⟨x0, x1, x2, x3⟩ := X2; have hs2 := hb2.size; clear hN2 hb2) | (go_at_call 48; refine (H3 a2 c2 w2 HN2.out).out.mono ?_; rintro e w3 ⟨a3, c3, rfl, hN3, hb3⟩; have HN3 := Lib.hid hN3; have HB3 := Lib.hid hb3; have X3 := NBox2.below (b := w.heap.size) (v0 := .bool false) (v1 := .slice none 0 0) ⟨x0, x1, x2, x3⟩ hb3 (by simp at hs2; omega); clear x0 x1 x2 x3; obtain ⟨x0, x1, x2, x3⟩ := X3; have hs3 := hb3.size; clear hN3 hb3))
  refine bodyPost_ret (v := .agg #[.bool (decide (n < 0)), .slice a3 (dig 18446744073709551616 n.natAbs).length c3]) (by rw [nres_c1 rfl]; go_simp) rfl ?_
  simp at hs2
  exact retZ_box (Nat.le_refl _) HN3.out ⟨x0, x1, x2, x3⟩ (by intro z h; cases h) (by intro z h; cases h) (((Below.refl w.heap.size w).alloc (Nat.le_refl _) _).trans ((HB2.out.mono (by simp)).trans (HB3.out.mono (by omega)))) _ _
end Go.Proofs.YtddhhfhammmaaaaGreat
/- Walks of the references' whole numbers with a sign: what is done with them. -/
set_option linter.unusedVariables false
set_option linter.unusedSimpArgs false
namespace Go.Proofs.YtddhhfhammmaaaaGreat
open Go.RowKit Go.Rt

theorem sgnZ_not (z : Int) : sgnZ (!decide (z < 0)) z.natAbs = -z := by
  unfold sgnZ
  by_cases h : z < 0
  · simp [h]; omega
  · simp [h]; omega
theorem sgnZ_mul (x y : Int) : sgnZ (decide (x < 0) != decide (y < 0)) (x.natAbs * y.natAbs) = x * y := by
  obtain ⟨m, hm⟩ : ∃ m : Nat, x.natAbs = m := ⟨_, rfl⟩
  obtain ⟨n, hn⟩ : ∃ n : Nat, y.natAbs = n := ⟨_, rfl⟩
  unfold sgnZ
  rw [hm, hn, Int.natCast_mul]
  by_cases h1 : x < 0
  · have ex : x = -(m : Int) := by omega
    by_cases h2 : y < 0
    · have ey : y = -(n : Int) := by omega
      have e : x * y = (m : Int) * n := by rw [ex, ey, Int.neg_mul_neg]
      rw [e, decide_eq_true h1, decide_eq_true h2]
      simp
    · have ey : y = (n : Int) := by omega
      have e : x * y = -((m : Int) * n) := by rw [ex, ey, Int.neg_mul]
      rw [e, decide_eq_true h1, decide_eq_false h2]
      simp
  · have ex : x = (m : Int) := by omega
    by_cases h2 : y < 0
    · have ey : y = -(n : Int) := by omega
      have e : x * y = -((m : Int) * n) := by rw [ex, ey, Int.mul_neg]
      rw [e, decide_eq_false h1, decide_eq_true h2]
      simp
    · have ey : y = (n : Int) := by omega
      have e : x * y = (m : Int) * n := by rw [ex, ey]
      rw [e, decide_eq_false h1, decide_eq_false h2]
      simp
theorem heldZ4 {w0 W W2 : World} {a1 a2 a3 a4 : Addr} {v1 v2 v3 v4 : Value} (h : Below w0.heap.size w0 W ∧ W.cell? a1 = some v1 ∧ W.cell? a2 = some v2 ∧ W.cell? a3 = some v3 ∧ W.cell? a4 = some v4) (hb : Below W.heap.size W W2) : Below w0.heap.size w0 W2 ∧ W2.cell? a1 = some v1 ∧ W2.cell? a2 = some v2 ∧ W2.cell? a3 = some v3 ∧ W2.cell? a4 = some v4 := by
  obtain ⟨h0, h1, h2, h3, h4⟩ := h
  exact ⟨h0.trans (hb.mono h0.size), (hb.cell (World.block_lt_of_cell? W _ h1)).trans h1, (hb.cell (World.block_lt_of_cell? W _ h2)).trans h2, (hb.cell (World.block_lt_of_cell? W _ h3)).trans h3, (hb.cell (World.block_lt_of_cell? W _ h4)).trans h4⟩
theorem heldZ1 {w0 W : World} {p : Prop} (h : Below w0.heap.size w0 W ∧ p) : Below w0.heap.size w0 W := h.1
theorem heldZset {w0 W : World} {b1 b2 r o1 o2 o3 o4 o5 o6 : Nat} {v1 v2 v3 v4 y z : Value} (h : Below w0.heap.size w0 W ∧ W.cell? ⟨b1, o1, none⟩ = some v1 ∧ W.cell? ⟨b1, o2, none⟩ = some v2 ∧ W.cell? ⟨b2, o3, none⟩ = some v3 ∧ W.cell? ⟨b2, o4, none⟩ = some v4) (hr : w0.heap.size ≤ r) (n1 : r ≠ b1) (n2 : r ≠ b2) :
    Below w0.heap.size w0 ((W.setCell ⟨r, o5, none⟩ y).setCell ⟨r, o6, none⟩ z) ∧ ((W.setCell ⟨r, o5, none⟩ y).setCell ⟨r, o6, none⟩ z).cell? ⟨b1, o1, none⟩ = some v1 ∧ ((W.setCell ⟨r, o5, none⟩ y).setCell ⟨r, o6, none⟩ z).cell? ⟨b1, o2, none⟩ = some v2 ∧ ((W.setCell ⟨r, o5, none⟩ y).setCell ⟨r, o6, none⟩ z).cell? ⟨b2, o3, none⟩ = some v3 ∧ ((W.setCell ⟨r, o5, none⟩ y).setCell ⟨r, o6, none⟩ z).cell? ⟨b2, o4, none⟩ = some v4 := by
  obtain ⟨h0, h1, h2, h3, h4⟩ := h
  refine ⟨(h0.setCell hr _).setCell hr _, ?_, ?_, ?_, ?_⟩
  · rw [World.cell?_setCell_far _ _ _ _ n1, World.cell?_setCell_far _ _ _ _ n1]; exact h1
  · rw [World.cell?_setCell_far _ _ _ _ n1, World.cell?_setCell_far _ _ _ _ n1]; exact h2
  · rw [World.cell?_setCell_far _ _ _ _ n2, World.cell?_setCell_far _ _ _ _ n2]; exact h3
  · rw [World.cell?_setCell_far _ _ _ _ n2, World.cell?_setCell_far _ _ _ _ n2]; exact h4

set_option maxHeartbeats 1000000 in
theorem zneg_any (a : Option Addr) (c : Nat) (x : Int) (w : World) (h : NAt w w.heap.size a c x.natAbs) : Calls Tryz.prog 108 #[.agg #[.bool (decide (x < 0)), .slice a (dig 18446744073709551616 x.natAbs).length c]] w (RetZ w (-x)) := by
  have HM := fun w' (hb : Below w.heap.size w w') => Lib.hid (made_any (!decide (x < 0)) a c x.natAbs w' (h.next hb))
  rw [sgnZ_not] at HM
  clear h
  generalize decide (x < 0) = s at *
  generalize dig 18446744073709551616 x.natAbs = X at *
  go_enter Tryz.func108, Tryz.ntmps108
  go_wp2_with (first | (go_at_call 48; refine (HM _ (by (repeat' (first | exact Below.refl _ _ | refine Below.drew ?_ | refine Below.setCell ?_ (by first | omega | (simp <;> omega)) _ | refine Below.alloc ?_ (by first | omega | (simp <;> omega)) _)))).out.mono ?_; rintro e w3 ⟨a3, c3, rfl, hN3, hb3⟩; have HN3 := Lib.hid hN3; have HB3 := Lib.hid hb3; have X3 := NBox2.below (b := w.heap.size + 1) (v0 := .bool false) (v1 := .slice none 0 0) (by constructor <;> go_simp) hb3 (by first | omega | (simp <;> omega)); obtain ⟨x0, x1, x2, x3⟩ := X3; have hs3 := hb3.size; (try simp at hs3); clear hN3 hb3))
  refine bodyPost_ret (v := .agg #[.bool (decide ((-x) < 0)), .slice a3 (dig 18446744073709551616 (-x).natAbs).length c3]) (by rw [nres_c1 rfl]; go_simp) rfl ?_
  exact retZ_box (by omega) HN3.out ⟨x0, x1, x2, x3⟩ (by intro z h; cases h) (by intro z h; cases h) (Below.trans (by (repeat' (first | exact Below.refl _ _ | refine Below.drew ?_ | refine Below.setCell ?_ (by first | omega | (simp <;> omega)) _ | refine Below.alloc ?_ (by first | omega | (simp <;> omega)) _))) (HB3.out.mono (by first | omega | (simp <;> omega)))) _ _

set_option maxHeartbeats 4000000 in
set_option maxRecDepth 100000 in
theorem ztimes_any (a b : Option Addr) (c d : Nat) (x y : Int) (w : World) (h : NAt w w.heap.size a c x.natAbs) (h' : NAt w w.heap.size b d y.natAbs) (hx : (dig 18446744073709551616 x.natAbs).length ≤ 1000000) (hy : (dig 18446744073709551616 y.natAbs).length ≤ 1000000) :
    Calls Tryz.prog 24 #[.agg #[.bool (decide (x < 0)), .slice a (dig 18446744073709551616 x.natAbs).length c], .agg #[.bool (decide (y < 0)), .slice b (dig 18446744073709551616 y.natAbs).length d]] w (RetZ w (x * y)) := by
  have HT := fun w' (hb : Below w.heap.size w w') => Lib.hid (ntimes_any a b c d x.natAbs y.natAbs w' (h.next hb) (h'.next hb) hx hy)
  have EZ := Lib.hid (sgnZ_mul x y)
  have EM := Lib.hid (show (x * y).natAbs = x.natAbs * y.natAbs from Int.natAbs_mul x y)
  clear h h'
  generalize decide (x < 0) = s at *
  generalize decide (y < 0) = t at *
  generalize dig 18446744073709551616 x.natAbs = X at *
  generalize dig 18446744073709551616 y.natAbs = Y at *
  go_enter Tryz.func24, Tryz.ntmps24
  go_upto_region 1 with fail
  refine wp_region_held_drew (S := (fun w' => Below w.heap.size w w' ∧ w'.cell? ⟨w.heap.size, 0, none⟩ = some (.bool s) ∧ w'.cell? ⟨w.heap.size, 1, none⟩ = some (.slice a X.length c) ∧ w'.cell? ⟨w.heap.size + 1, 0, none⟩ = some (.bool t) ∧ w'.cell? ⟨w.heap.size + 1, 1, none⟩ = some (.slice b Y.length d))) (by kernel_rfl) (⟨(by (repeat' (first | exact Below.refl _ _ | refine Below.drew ?_ | refine Below.setCell ?_ (by first | omega | (simp <;> omega)) _ | refine Below.alloc ?_ (by first | omega | (simp <;> omega)) _))), by go_simp, by go_simp, by go_simp, by go_simp⟩) (fun hHeld => ?_)
  refine takeY (i := 0) (dst := (some 5)) (v := ?_) rfl rfl (by kernel_rfl) (by kernel_rfl) (by kernel_rfl) (fun _ _ _ h => h) (by rfl) ?hy1w0 (by assumption) ?rest1w0
  case hy1w0 => (intro w hSw; (try dsimp only at hSw); go_simp; (try with_reducible rfl))
  try simp only [Act.put, List.setIfInBounds_toArray, List.set_cons_zero, List.set_cons_succ]
  refine takeY (i := 1) (dst := (some 6)) (v := ?_) rfl rfl (by kernel_rfl) (by kernel_rfl) (by kernel_rfl) (fun _ _ _ h => h) (by rfl) ?hy1w1 (by assumption) ?rest1w1
  case hy1w1 => (intro w hSw; (try dsimp only at hSw); go_simp; (try with_reducible rfl))
  try simp only [Act.put, List.setIfInBounds_toArray, List.set_cons_zero, List.set_cons_succ]
  refine takeY (i := 2) (dst := (some 7)) (v := ?_) rfl rfl (by kernel_rfl) (by kernel_rfl) (by kernel_rfl) (fun _ _ _ h => h) (by rfl) ?hy1w2 (by assumption) ?rest1w2
  case hy1w2 => (intro w hSw; (try dsimp only at hSw); go_simp; (try with_reducible rfl))
  try simp only [Act.put, List.setIfInBounds_toArray, List.set_cons_zero, List.set_cons_succ]
  refine takeY (i := 3) (dst := (some 8)) (v := ?_) rfl rfl (by kernel_rfl) (by kernel_rfl) (by kernel_rfl) (fun _ _ _ h => h) (by rfl) ?hy1w3 (by assumption) ?rest1w3
  case hy1w3 => (intro w hSw; (try dsimp only at hSw); go_simp; (try with_reducible rfl))
  try simp only [Act.put, List.setIfInBounds_toArray, List.set_cons_zero, List.set_cons_succ]
  refine takeY (i := 4) (dst := (some 9)) (v := ?_) rfl rfl (by kernel_rfl) (by kernel_rfl) (by kernel_rfl) (fun _ _ _ h => h) (by rfl) ?hy1w4 (by assumption) ?rest1w4
  case hy1w4 => (intro w hSw; (try dsimp only at hSw); go_simp; (try with_reducible rfl))
  try simp only [Act.put, List.setIfInBounds_toArray, List.set_cons_zero, List.set_cons_succ]
  refine takeY (i := 5) (dst := (some 10)) (v := ?_) rfl rfl (by kernel_rfl) (by kernel_rfl) (by kernel_rfl) (fun _ _ _ h => h) (by rfl) ?hy1w5 (by assumption) ?rest1w5
  case hy1w5 => (intro w hSw; (try dsimp only at hSw); go_simp; (try with_reducible rfl))
  try simp only [Act.put, List.setIfInBounds_toArray, List.set_cons_zero, List.set_cons_succ]
  refine takeY (i := 6) (dst := (some 11)) (v := ?_) rfl rfl (by kernel_rfl) (by kernel_rfl) (by kernel_rfl) (fun _ _ _ h => h) (by rfl) ?hy1w6 (by assumption) ?rest1w6
  case hy1w6 => (intro w hSw; (try dsimp only at hSw); go_simp; (try with_reducible rfl))
  try simp only [Act.put, List.setIfInBounds_toArray, List.set_cons_zero, List.set_cons_succ]
  refine takeY (i := 7) (dst := (some 12)) (v := ?_) rfl rfl (by kernel_rfl) (by kernel_rfl) (by kernel_rfl) (fun _ _ _ h => h) (by rfl) ?hy1w7 (by assumption) ?rest1w7
  case hy1w7 => (intro w hSw; (try dsimp only at hSw); go_simp; (try with_reducible rfl))
  try simp only [Act.put, List.setIfInBounds_toArray, List.set_cons_zero, List.set_cons_succ]
  refine takeY (i := 8) (dst := (some 13)) (v := ?_) rfl rfl (by kernel_rfl) (by kernel_rfl) (by kernel_rfl) (fun _ _ _ h => h) (by rfl) ?hy1w8 (by assumption) ?rest1w8
  case hy1w8 => (intro w hSw; (try dsimp only at hSw); go_simp; (try with_reducible rfl))
  try simp only [Act.put, List.setIfInBounds_toArray, List.set_cons_zero, List.set_cons_succ]
  refine wpAnyH_ready (rs := [9]) (by kernel_rfl) (by simp) (AllReadyH.cons rfl (fun K hK => ?_) AllReadyH.nil)
  go_simp
  (go_at_call 55; refine (HT _ (heldZ1 (by assumption))).out.mono ?_; rintro e w5 ⟨a5, c5, rfl, hN5, hb5⟩; have X5 := NBox2.below (b := w.heap.size + 1 + 1) (v0 := .bool false) (v1 := .slice none 0 0) (by constructor <;> go_simp) hb5 (by first | omega | (simp <;> omega)); have hs5 := hb5.size; (try simp at hs5); have HM := made_any (s != t) a5 c5 _ w5 hN5; rw [EZ.out] at HM; have HM2 := Lib.hid HM; clear HM hN5)
  (try go_wp2_with fail)
  refine hK.out _ _ (heldZ4 (by assumption) (by assumption)) (fun hHeld => ?_)
  clear hK K
  try simp only [Act.put, List.setIfInBounds_toArray, List.set_cons_zero, List.set_cons_succ]
  refine wpAnyH_ready (rs := [10]) (by kernel_rfl) (by simp) (AllReadyH.cons rfl (fun K hK => ?_) AllReadyH.nil)
  go_simp
  (go_at_call 48; refine HM2.out.mono ?_; rintro e w6 ⟨a6, c6, rfl, hN6, hb6⟩; have HN6 := Lib.hid hN6; have X6 := X5.below hb6 (by first | omega | (simp <;> omega)); have hs6 := hb6.size; clear hN6 X5; have HX6 := Lib.hid X6; obtain ⟨x0, x1, x2, x3⟩ := X6)
  (try go_wp2_with fail)
  refine hK.out _ _ (heldZ4 (by assumption) (by assumption)) (fun hHeld => ?_)
  clear hK K
  try simp only [Act.put, List.setIfInBounds_toArray, List.set_cons_zero, List.set_cons_succ]
  refine wpAnyH_ready (rs := [11]) (by kernel_rfl) (by simp) (AllReadyH.cons rfl (fun K hK => ?_) AllReadyH.nil)
  go_simp
  skip
  (try go_wp2_with fail)
  refine hK.out _ _ (heldZset (by assumption) (by omega) (by omega) (by omega)) (fun hHeld => ?_)
  clear hK K
  try simp only [Act.put, List.setIfInBounds_toArray, List.set_cons_zero, List.set_cons_succ]
  refine wpAnyH_done (by kernel_rfl) ?_ _
  go_wp2_with fail
  refine bodyPost_ret (v := .agg #[.bool (decide ((x * y) < 0)), .slice a6 (dig 18446744073709551616 (x * y).natAbs).length c6]) (by rw [nres_c1 rfl]; go_simp) rfl ?_
  exact retZ_box (by omega) HN6.out HX6.out (by intro z h; cases h) (by intro z h; cases h) (Below.trans (Below.trans (by (repeat' (first | exact Below.refl _ _ | refine Below.drew ?_ | refine Below.setCell ?_ (by first | omega | (simp <;> omega)) _ | refine Below.alloc ?_ (by first | omega | (simp <;> omega)) _))) (hb5.mono (by first | omega | (simp <;> omega)))) (hb6.mono (by first | omega | (simp <;> omega)))) _ _
end Go.Proofs.YtddhhfhammmaaaaGreat
/- Walks of the references' whole numbers with a sign: sums, shifts. -/
set_option linter.unusedVariables false
set_option linter.unusedSimpArgs false
namespace Go.Proofs.YtddhhfhammmaaaaGreat
open Go.RowKit Go.Rt

theorem belowDN {B : Nat} {w W : World} (h : Below B w W) (q : Nat) : Below B w (W.drewN q) := ⟨h.os, h.tape, h.output, h.size, h.block⟩
theorem sgnZ_shift (x : Int) (n : Nat) : sgnZ (decide (x < 0)) (x.natAbs * 2 ^ n) = x * ((2 ^ n : Nat) : Int) := by
  obtain ⟨m, hm⟩ : ∃ m : Nat, x.natAbs = m := ⟨_, rfl⟩
  unfold sgnZ
  rw [hm, Int.natCast_mul]
  by_cases h1 : x < 0
  · have ex : x = -(m : Int) := by omega
    rw [decide_eq_true h1, if_pos rfl, ex, Int.neg_mul]
  · have ex : x = (m : Int) := by omega
    rw [decide_eq_false h1, if_neg (by decide), ex]
theorem sgnZ_add (x y : Int) (h : decide (x < 0) = decide (y < 0)) : sgnZ (decide (x < 0)) (x.natAbs + y.natAbs) = x + y := by
  have h2 : (x < 0) ↔ (y < 0) := decide_eq_decide.1 h
  unfold sgnZ
  by_cases h1 : x < 0
  · rw [decide_eq_true h1, if_pos rfl]; omega
  · rw [decide_eq_false h1, if_neg (by decide)]; omega
theorem sgnZ_sub (x y : Int) (h : decide (x < 0) ≠ decide (y < 0)) (hc : y.natAbs ≤ x.natAbs) : sgnZ (decide (x < 0)) (x.natAbs - y.natAbs) = x + y := by
  have h2 : ¬ ((x < 0) ↔ (y < 0)) := fun e => h (decide_eq_decide.2 e)
  unfold sgnZ
  by_cases h1 : x < 0
  · rw [decide_eq_true h1, if_pos rfl]; omega
  · rw [decide_eq_false h1, if_neg (by decide)]; omega

set_option maxHeartbeats 4000000 in
set_option maxRecDepth 100000 in
theorem zleft_any (a : Option Addr) (c n : Nat) (x z : Int) (w : World) (h : NAt w w.heap.size a c x.natAbs) (hx : (dig 18446744073709551616 x.natAbs).length ≤ 1000000) (hn : n ≤ 60000000) (hz : x * ((2 ^ n : Nat) : Int) = z) :
    Calls Tryz.prog 81 #[.agg #[.bool (decide (x < 0)), .slice a (dig 18446744073709551616 x.natAbs).length c], .int .i64 n] w (RetZ w z) := by
  have HT := fun w' (hb : Below w.heap.size w w') => Lib.hid (up2_any a c x.natAbs n w' (h.next hb) hx hn)
  have EZ := Lib.hid (sgnZ_shift x n)
  rw [hz] at EZ
  clear h hz
  generalize decide (x < 0) = s at *
  generalize dig 18446744073709551616 x.natAbs = X at *
  go_enter Tryz.func81, Tryz.ntmps81
  go_upto_region 1 with fail
  refine wp_region_held_drew (S := (fun w' => Below w.heap.size w w' ∧ w'.cell? ⟨w.heap.size, 0, none⟩ = some (.bool s) ∧ w'.cell? ⟨w.heap.size, 1, none⟩ = some (.slice a X.length c) ∧ w'.cell? ⟨w.heap.size, 0, none⟩ = some (.bool s) ∧ w'.cell? ⟨w.heap.size, 1, none⟩ = some (.slice a X.length c))) (by kernel_rfl) (⟨(by (repeat' (first | exact Below.refl _ _ | refine belowDN ?_ _ | refine Below.drew ?_ | refine Below.setCell ?_ (by first | omega | (simp <;> omega)) _ | refine Below.alloc ?_ (by first | omega | (simp <;> omega)) _))), by go_simp, by go_simp, by go_simp, by go_simp⟩) (fun hHeld => ?_)
  refine takeY (i := 0) (dst := (some 5)) (v := ?_) rfl rfl (by kernel_rfl) (by kernel_rfl) (by kernel_rfl) (fun _ _ _ h => h) (by rfl) ?hy2w0 (by assumption) ?rest2w0
  case hy2w0 => (intro w hSw; (try dsimp only at hSw); go_simp; (try with_reducible rfl))
  try simp only [Act.put, List.setIfInBounds_toArray, List.set_cons_zero, List.set_cons_succ]
  refine takeY (i := 1) (dst := (some 6)) (v := ?_) rfl rfl (by kernel_rfl) (by kernel_rfl) (by kernel_rfl) (fun _ _ _ h => h) (by rfl) ?hy2w1 (by assumption) ?rest2w1
  case hy2w1 => (intro w hSw; (try dsimp only at hSw); go_simp; (try with_reducible rfl))
  try simp only [Act.put, List.setIfInBounds_toArray, List.set_cons_zero, List.set_cons_succ]
  refine takeY (i := 2) (dst := (some 7)) (v := ?_) rfl rfl (by kernel_rfl) (by kernel_rfl) (by kernel_rfl) (fun _ _ _ h => h) (by rfl) ?hy2w2 (by assumption) ?rest2w2
  case hy2w2 => (intro w hSw; (try dsimp only at hSw); go_simp; (try with_reducible rfl))
  try simp only [Act.put, List.setIfInBounds_toArray, List.set_cons_zero, List.set_cons_succ]
  refine takeY (i := 3) (dst := (some 8)) (v := ?_) rfl rfl (by kernel_rfl) (by kernel_rfl) (by kernel_rfl) (fun _ _ _ h => h) (by rfl) ?hy2w3 (by assumption) ?rest2w3
  case hy2w3 => (intro w hSw; (try dsimp only at hSw); go_simp; (try with_reducible rfl))
  try simp only [Act.put, List.setIfInBounds_toArray, List.set_cons_zero, List.set_cons_succ]
  refine takeY (i := 4) (dst := (some 9)) (v := ?_) rfl rfl (by kernel_rfl) (by kernel_rfl) (by kernel_rfl) (fun _ _ _ h => h) (by rfl) ?hy2w4 (by assumption) ?rest2w4
  case hy2w4 => (intro w hSw; (try dsimp only at hSw); go_simp; (try with_reducible rfl))
  try simp only [Act.put, List.setIfInBounds_toArray, List.set_cons_zero, List.set_cons_succ]
  refine wpAnyH_ready (rs := [5]) (by kernel_rfl) (by simp) (AllReadyH.cons rfl (fun K hK => ?_) AllReadyH.nil)
  go_simp
  (go_at_call 27; refine (HT _ (heldZ1 (by assumption))).out.mono ?_; rintro e w5 ⟨a5, c5, rfl, hN5, hb5⟩; have X5 := NBox2.below (b := w.heap.size + 1) (v0 := .bool false) (v1 := .slice none 0 0) (by constructor <;> go_simp) hb5 (by first | omega | (simp <;> omega)); have hs5 := hb5.size; (try simp at hs5); have HM := made_any s a5 c5 _ w5 hN5; rw [EZ.out] at HM; have HM2 := Lib.hid HM; clear HM hN5)
  (try go_wp2_with fail)
  refine hK.out _ _ (heldZ4 (by assumption) (by assumption)) (fun hHeld => ?_)
  clear hK K
  try simp only [Act.put, List.setIfInBounds_toArray, List.set_cons_zero, List.set_cons_succ]
  refine wpAnyH_ready (rs := [6]) (by kernel_rfl) (by simp) (AllReadyH.cons rfl (fun K hK => ?_) AllReadyH.nil)
  go_simp
  (go_at_call 48; refine HM2.out.mono ?_; rintro e w6 ⟨a6, c6, rfl, hN6, hb6⟩; have HN6 := Lib.hid hN6; have X6 := X5.below hb6 (by first | omega | (simp <;> omega)); have hs6 := hb6.size; clear hN6 X5; have HX6 := Lib.hid X6; obtain ⟨x0, x1, x2, x3⟩ := X6)
  (try go_wp2_with fail)
  refine hK.out _ _ (heldZ4 (by assumption) (by assumption)) (fun hHeld => ?_)
  clear hK K
  try simp only [Act.put, List.setIfInBounds_toArray, List.set_cons_zero, List.set_cons_succ]
  refine wpAnyH_ready (rs := [7]) (by kernel_rfl) (by simp) (AllReadyH.cons rfl (fun K hK => ?_) AllReadyH.nil)
  go_simp
  skip
  (try go_wp2_with fail)
  refine hK.out _ _ (heldZset (by assumption) (by omega) (by omega) (by omega)) (fun hHeld => ?_)
  clear hK K
  try simp only [Act.put, List.setIfInBounds_toArray, List.set_cons_zero, List.set_cons_succ]
  refine wpAnyH_done (by kernel_rfl) ?_ _
  go_wp2_with fail
  refine bodyPost_ret (v := .agg #[.bool (decide ((z) < 0)), .slice a6 (dig 18446744073709551616 (z).natAbs).length c6]) (by rw [nres_c1 rfl]; go_simp) rfl ?_
  exact retZ_box (by omega) HN6.out HX6.out (by intro z h; cases h) (by intro z h; cases h) (Below.trans (Below.trans (by (repeat' (first | exact Below.refl _ _ | refine belowDN ?_ _ | refine Below.drew ?_ | refine Below.setCell ?_ (by first | omega | (simp <;> omega)) _ | refine Below.alloc ?_ (by first | omega | (simp <;> omega)) _))) (hb5.mono (by first | omega | (simp <;> omega)))) (hb6.mono (by first | omega | (simp <;> omega)))) _ _
set_option maxHeartbeats 8000000 in
set_option maxRecDepth 100000 in
theorem zplus_any (a b : Option Addr) (c d : Nat) (x y z : Int) (w : World) (h : NAt w w.heap.size a c x.natAbs) (h' : NAt w w.heap.size b d y.natAbs) (hx : (dig 18446744073709551616 x.natAbs).length ≤ 1000000) (hy : (dig 18446744073709551616 y.natAbs).length ≤ 1000000) (hz : x + y = z) :
    Calls Tryz.prog 23 #[.agg #[.bool (decide (x < 0)), .slice a (dig 18446744073709551616 x.natAbs).length c], .agg #[.bool (decide (y < 0)), .slice b (dig 18446744073709551616 y.natAbs).length d]] w (RetZ w z) := by
  have HP := fun w' (hb : Below w.heap.size w w') => Lib.hid (nplus_any a b c d x.natAbs y.natAbs w' (h.next hb) (h'.next hb) hx hy)
  have H4 := fun w' (hb : Below w.heap.size w w') hc => Lib.hid (nless_any a b c d x.natAbs y.natAbs w' (h.next hb) (h'.next hb) hx hy hc)
  have H5 := fun w' (hb : Below w.heap.size w w') hc => Lib.hid (nless_any b a d c y.natAbs x.natAbs w' (h'.next hb) (h.next hb) hy hx hc)
  have HC := fun w' (hb : Below w.heap.size w w') => Lib.hid (ncmp_any a b c d x.natAbs y.natAbs w'.heap.size w' (h.next hb) (h'.next hb))
  have hadd : (decide (x < 0) == decide (y < 0)) = true → sgnZ (decide (x < 0)) (x.natAbs + y.natAbs) = z := fun e => by rw [sgnZ_add x y (by simpa using e), hz]
  have hsub : (decide (x < 0) == decide (y < 0)) = false → y.natAbs ≤ x.natAbs → sgnZ (decide (x < 0)) (x.natAbs - y.natAbs) = z := fun e hc => by rw [sgnZ_sub x y (by simpa using e) hc, hz]
  have hsub2 : (decide (x < 0) == decide (y < 0)) = false → x.natAbs ≤ y.natAbs → sgnZ (decide (y < 0)) (y.natAbs - x.natAbs) = z := fun e hc => by rw [sgnZ_sub y x (fun h => by simp [h] at e) hc, Int.add_comm, hz]
  clear h h' hz
  generalize dig 18446744073709551616 x.natAbs = X at *
  generalize dig 18446744073709551616 y.natAbs = Y at *
  generalize decide (x < 0) = s at *
  generalize decide (y < 0) = t at *
  generalize x.natAbs = m at *
  generalize y.natAbs = n at *
  cases hst : (s == t) with
  | true =>
    have EZ := Lib.hid (hadd hst)
    have EQ := Lib.hid hst
    clear hadd hsub hsub2
    as_aux_lemma =>
      go_enter Tryz.func23, Tryz.ntmps23
      go_upto_region 2 with fail
      refine wp_region_held_drew (S := (fun w' => Below w.heap.size w w' ∧ w'.cell? ⟨w.heap.size, 0, none⟩ = some (.bool s) ∧ w'.cell? ⟨w.heap.size, 1, none⟩ = some (.slice a X.length c) ∧ w'.cell? ⟨w.heap.size + 1, 0, none⟩ = some (.bool t) ∧ w'.cell? ⟨w.heap.size + 1, 1, none⟩ = some (.slice b Y.length d))) (by kernel_rfl) (⟨(by (repeat' (first | exact Below.refl _ _ | refine belowDN ?_ _ | refine Below.drew ?_ | refine Below.setCell ?_ (by first | omega | (simp <;> omega)) _ | refine Below.alloc ?_ (by first | omega | (simp <;> omega)) _))), by go_simp, by go_simp, by go_simp, by go_simp⟩) (fun hHeld => ?_)
      refine takeY (i := 0) (dst := (some 10)) (v := ?_) rfl rfl (by kernel_rfl) (by kernel_rfl) (by kernel_rfl) (fun _ _ _ h => h) (by rfl) ?hy3w0 (by assumption) ?rest3w0
      case hy3w0 => (intro w hSw; (try dsimp only at hSw); go_simp; (try with_reducible rfl))
      try simp only [Act.put, List.setIfInBounds_toArray, List.set_cons_zero, List.set_cons_succ]
      refine takeY (i := 1) (dst := (some 11)) (v := ?_) rfl rfl (by kernel_rfl) (by kernel_rfl) (by kernel_rfl) (fun _ _ _ h => h) (by rfl) ?hy3w1 (by assumption) ?rest3w1
      case hy3w1 => (intro w hSw; (try dsimp only at hSw); go_simp; (try with_reducible rfl))
      try simp only [Act.put, List.setIfInBounds_toArray, List.set_cons_zero, List.set_cons_succ]
      refine takeY (i := 2) (dst := (some 12)) (v := ?_) rfl rfl (by kernel_rfl) (by kernel_rfl) (by kernel_rfl) (fun _ _ _ h => h) (by rfl) ?hy3w2 (by assumption) ?rest3w2
      case hy3w2 => (intro w hSw; (try dsimp only at hSw); go_simp; (try with_reducible rfl))
      try simp only [Act.put, List.setIfInBounds_toArray, List.set_cons_zero, List.set_cons_succ]
      refine takeY (i := 3) (dst := (some 13)) (v := ?_) rfl rfl (by kernel_rfl) (by kernel_rfl) (by kernel_rfl) (fun _ _ _ h => h) (by rfl) ?hy3w3 (by assumption) ?rest3w3
      case hy3w3 => (intro w hSw; (try dsimp only at hSw); go_simp; (try with_reducible rfl))
      try simp only [Act.put, List.setIfInBounds_toArray, List.set_cons_zero, List.set_cons_succ]
      refine takeY (i := 4) (dst := (some 14)) (v := ?_) rfl rfl (by kernel_rfl) (by kernel_rfl) (by kernel_rfl) (fun _ _ _ h => h) (by rfl) ?hy3w4 (by assumption) ?rest3w4
      case hy3w4 => (intro w hSw; (try dsimp only at hSw); go_simp; (try with_reducible rfl))
      try simp only [Act.put, List.setIfInBounds_toArray, List.set_cons_zero, List.set_cons_succ]
      refine takeY (i := 5) (dst := (some 15)) (v := ?_) rfl rfl (by kernel_rfl) (by kernel_rfl) (by kernel_rfl) (fun _ _ _ h => h) (by rfl) ?hy3w5 (by assumption) ?rest3w5
      case hy3w5 => (intro w hSw; (try dsimp only at hSw); go_simp; (try with_reducible rfl))
      try simp only [Act.put, List.setIfInBounds_toArray, List.set_cons_zero, List.set_cons_succ]
      refine wpAnyH_ready (rs := [6]) (by kernel_rfl) (by simp) (AllReadyH.cons rfl (fun K hK => ?_) AllReadyH.nil)
      go_simp
      (go_at_call 52; refine (HP _ (heldZ1 (by assumption))).out.mono ?_; rintro e w5 ⟨a5, c5, rfl, hN5, hb5⟩; have X5 := NBox2.below (b := w.heap.size + 1 + 1) (v0 := .bool false) (v1 := .slice none 0 0) (by constructor <;> go_simp) hb5 (by first | omega | (simp <;> omega)); have hs5 := hb5.size; (try simp at hs5); have HM := made_any s a5 c5 _ w5 hN5; rw [EZ.out] at HM; have HM2 := Lib.hid HM; clear HM hN5)
      (try go_wp2_with fail)
      refine hK.out _ _ (heldZ4 (by assumption) (by assumption)) (fun hHeld => ?_)
      clear hK K
      try simp only [Act.put, List.setIfInBounds_toArray, List.set_cons_zero, List.set_cons_succ]
      refine wpAnyH_ready (rs := [7]) (by kernel_rfl) (by simp) (AllReadyH.cons rfl (fun K hK => ?_) AllReadyH.nil)
      go_simp
      (go_at_call 48; refine HM2.out.mono ?_; rintro e w6 ⟨a6, c6, rfl, hN6, hb6⟩; have HN6 := Lib.hid hN6; have X6 := X5.below hb6 (by first | omega | (simp <;> omega)); have hs6 := hb6.size; clear hN6 X5; have HX6 := Lib.hid X6; obtain ⟨x0, x1, x2, x3⟩ := X6)
      (try go_wp2_with fail)
      refine hK.out _ _ (heldZ4 (by assumption) (by assumption)) (fun hHeld => ?_)
      clear hK K
      try simp only [Act.put, List.setIfInBounds_toArray, List.set_cons_zero, List.set_cons_succ]
      refine wpAnyH_ready (rs := [8]) (by kernel_rfl) (by simp) (AllReadyH.cons rfl (fun K hK => ?_) AllReadyH.nil)
      go_simp
      skip
      (try go_wp2_with fail)
      refine hK.out _ _ (heldZset (by assumption) (by omega) (by omega) (by omega)) (fun hHeld => ?_)
      clear hK K
      try simp only [Act.put, List.setIfInBounds_toArray, List.set_cons_zero, List.set_cons_succ]
      refine wpAnyH_done (by kernel_rfl) ?_ _
      go_wp2_with fail
      refine bodyPost_ret (v := .agg #[.bool (decide ((z) < 0)), .slice a6 (dig 18446744073709551616 (z).natAbs).length c6]) (by rw [nres_c1 rfl]; go_simp) rfl ?_
      exact retZ_box (by omega) HN6.out HX6.out (by intro z h; cases h) (by intro z h; cases h) (Below.trans (Below.trans (by (repeat' (first | exact Below.refl _ _ | refine belowDN ?_ _ | refine Below.drew ?_ | refine Below.setCell ?_ (by first | omega | (simp <;> omega)) _ | refine Below.alloc ?_ (by first | omega | (simp <;> omega)) _))) (hb5.mono (by first | omega | (simp <;> omega)))) (hb6.mono (by first | omega | (simp <;> omega)))) _ _
  | false =>
    by_cases hc : n ≤ m
    · have EZ := Lib.hid (hsub hst hc)
      have HU := (fun w' hb => H4 w' hb hc)
      have eC : (0 : Int) ≤ cmpN m n := by
        unfold cmpN
        rw [if_neg (by omega)]
        split <;> decide
      clear hadd hsub hsub2 hc
      generalize cmpN m n = C at *
      as_aux_lemma =>
        go_enter Tryz.func23, Tryz.ntmps23
        go_upto_region 4 with (go_at_call 53; refine (HC _ (by (repeat' (first | exact Below.refl _ _ | refine belowDN ?_ _ | refine Below.drew ?_ | refine Below.setCell ?_ (by first | omega | (simp <;> omega)) _ | refine Below.alloc ?_ (by first | omega | (simp <;> omega)) _)))).out.mono ?_; rintro e w4 ⟨rfl, q, rfl⟩)
        refine wp_region_held_drew (S := (fun w' => Below w.heap.size w w' ∧ w'.cell? ⟨w.heap.size, 0, none⟩ = some (.bool s) ∧ w'.cell? ⟨w.heap.size, 1, none⟩ = some (.slice a X.length c) ∧ w'.cell? ⟨w.heap.size + 1, 0, none⟩ = some (.bool t) ∧ w'.cell? ⟨w.heap.size + 1, 1, none⟩ = some (.slice b Y.length d))) (by kernel_rfl) (⟨(by (repeat' (first | exact Below.refl _ _ | refine belowDN ?_ _ | refine Below.drew ?_ | refine Below.setCell ?_ (by first | omega | (simp <;> omega)) _ | refine Below.alloc ?_ (by first | omega | (simp <;> omega)) _))), by go_simp, by go_simp, by go_simp, by go_simp⟩) (fun hHeld => ?_)
        refine takeY (i := 0) (dst := (some 24)) (v := ?_) rfl rfl (by kernel_rfl) (by kernel_rfl) (by kernel_rfl) (fun _ _ _ h => h) (by rfl) ?hy4w0 (by assumption) ?rest4w0
        case hy4w0 => (intro w hSw; (try dsimp only at hSw); go_simp; (try with_reducible rfl))
        try simp only [Act.put, List.setIfInBounds_toArray, List.set_cons_zero, List.set_cons_succ]
        refine takeY (i := 1) (dst := (some 25)) (v := ?_) rfl rfl (by kernel_rfl) (by kernel_rfl) (by kernel_rfl) (fun _ _ _ h => h) (by rfl) ?hy4w1 (by assumption) ?rest4w1
        case hy4w1 => (intro w hSw; (try dsimp only at hSw); go_simp; (try with_reducible rfl))
        try simp only [Act.put, List.setIfInBounds_toArray, List.set_cons_zero, List.set_cons_succ]
        refine takeY (i := 2) (dst := (some 26)) (v := ?_) rfl rfl (by kernel_rfl) (by kernel_rfl) (by kernel_rfl) (fun _ _ _ h => h) (by rfl) ?hy4w2 (by assumption) ?rest4w2
        case hy4w2 => (intro w hSw; (try dsimp only at hSw); go_simp; (try with_reducible rfl))
        try simp only [Act.put, List.setIfInBounds_toArray, List.set_cons_zero, List.set_cons_succ]
        refine takeY (i := 3) (dst := (some 27)) (v := ?_) rfl rfl (by kernel_rfl) (by kernel_rfl) (by kernel_rfl) (fun _ _ _ h => h) (by rfl) ?hy4w3 (by assumption) ?rest4w3
        case hy4w3 => (intro w hSw; (try dsimp only at hSw); go_simp; (try with_reducible rfl))
        try simp only [Act.put, List.setIfInBounds_toArray, List.set_cons_zero, List.set_cons_succ]
        refine takeY (i := 4) (dst := (some 28)) (v := ?_) rfl rfl (by kernel_rfl) (by kernel_rfl) (by kernel_rfl) (fun _ _ _ h => h) (by rfl) ?hy4w4 (by assumption) ?rest4w4
        case hy4w4 => (intro w hSw; (try dsimp only at hSw); go_simp; (try with_reducible rfl))
        try simp only [Act.put, List.setIfInBounds_toArray, List.set_cons_zero, List.set_cons_succ]
        refine takeY (i := 5) (dst := (some 29)) (v := ?_) rfl rfl (by kernel_rfl) (by kernel_rfl) (by kernel_rfl) (fun _ _ _ h => h) (by rfl) ?hy4w5 (by assumption) ?rest4w5
        case hy4w5 => (intro w hSw; (try dsimp only at hSw); go_simp; (try with_reducible rfl))
        try simp only [Act.put, List.setIfInBounds_toArray, List.set_cons_zero, List.set_cons_succ]
        refine wpAnyH_ready (rs := [6]) (by kernel_rfl) (by simp) (AllReadyH.cons rfl (fun K hK => ?_) AllReadyH.nil)
        go_simp
        (go_at_call 54; refine (HU _ (heldZ1 (by assumption))).out.mono ?_; rintro e w5 ⟨a5, c5, rfl, hN5, hb5⟩; have X5 := NBox2.below (b := w.heap.size + 1 + 1) (v0 := .bool false) (v1 := .slice none 0 0) (by constructor <;> go_simp) hb5 (by first | omega | (simp <;> omega)); have hs5 := hb5.size; (try simp at hs5); have HM := made_any s a5 c5 _ w5 hN5; rw [EZ.out] at HM; have HM2 := Lib.hid HM; clear HM hN5)
        (try go_wp2_with fail)
        refine hK.out _ _ (heldZ4 (by assumption) (by assumption)) (fun hHeld => ?_)
        clear hK K
        try simp only [Act.put, List.setIfInBounds_toArray, List.set_cons_zero, List.set_cons_succ]
        refine wpAnyH_ready (rs := [7]) (by kernel_rfl) (by simp) (AllReadyH.cons rfl (fun K hK => ?_) AllReadyH.nil)
        go_simp
        (go_at_call 48; refine HM2.out.mono ?_; rintro e w6 ⟨a6, c6, rfl, hN6, hb6⟩; have HN6 := Lib.hid hN6; have X6 := X5.below hb6 (by first | omega | (simp <;> omega)); have hs6 := hb6.size; clear hN6 X5; have HX6 := Lib.hid X6; obtain ⟨x0, x1, x2, x3⟩ := X6)
        (try go_wp2_with fail)
        refine hK.out _ _ (heldZ4 (by assumption) (by assumption)) (fun hHeld => ?_)
        clear hK K
        try simp only [Act.put, List.setIfInBounds_toArray, List.set_cons_zero, List.set_cons_succ]
        refine wpAnyH_ready (rs := [8]) (by kernel_rfl) (by simp) (AllReadyH.cons rfl (fun K hK => ?_) AllReadyH.nil)
        go_simp
        skip
        (try go_wp2_with fail)
        refine hK.out _ _ (heldZset (by assumption) (by omega) (by omega) (by omega)) (fun hHeld => ?_)
        clear hK K
        try simp only [Act.put, List.setIfInBounds_toArray, List.set_cons_zero, List.set_cons_succ]
        refine wpAnyH_done (by kernel_rfl) ?_ _
        go_wp2_with fail
        refine bodyPost_ret (v := .agg #[.bool (decide ((z) < 0)), .slice a6 (dig 18446744073709551616 (z).natAbs).length c6]) (by rw [nres_c1 rfl]; go_simp) rfl ?_
        exact retZ_box (by omega) HN6.out HX6.out (by intro z h; cases h) (by intro z h; cases h) (Below.trans (Below.trans (by (repeat' (first | exact Below.refl _ _ | refine belowDN ?_ _ | refine Below.drew ?_ | refine Below.setCell ?_ (by first | omega | (simp <;> omega)) _ | refine Below.alloc ?_ (by first | omega | (simp <;> omega)) _))) (hb5.mono (by first | omega | (simp <;> omega)))) (hb6.mono (by first | omega | (simp <;> omega)))) _ _
    · have EZ := Lib.hid (hsub2 hst (by omega))
      have HU := (fun w' hb => H5 w' hb (by omega))
      have eC : ¬ (0 : Int) ≤ cmpN m n := by
        rw [cmpN_lt (by omega)]
        decide
      clear hadd hsub hsub2 hc
      generalize cmpN m n = C at *
      as_aux_lemma =>
        go_enter Tryz.func23, Tryz.ntmps23
        go_upto_region 5 with (go_at_call 53; refine (HC _ (by (repeat' (first | exact Below.refl _ _ | refine belowDN ?_ _ | refine Below.drew ?_ | refine Below.setCell ?_ (by first | omega | (simp <;> omega)) _ | refine Below.alloc ?_ (by first | omega | (simp <;> omega)) _)))).out.mono ?_; rintro e w4 ⟨rfl, q, rfl⟩)
        refine wp_region_held_drew (S := (fun w' => Below w.heap.size w w' ∧ w'.cell? ⟨w.heap.size, 0, none⟩ = some (.bool s) ∧ w'.cell? ⟨w.heap.size, 1, none⟩ = some (.slice a X.length c) ∧ w'.cell? ⟨w.heap.size + 1, 0, none⟩ = some (.bool t) ∧ w'.cell? ⟨w.heap.size + 1, 1, none⟩ = some (.slice b Y.length d))) (by kernel_rfl) (⟨(by (repeat' (first | exact Below.refl _ _ | refine belowDN ?_ _ | refine Below.drew ?_ | refine Below.setCell ?_ (by first | omega | (simp <;> omega)) _ | refine Below.alloc ?_ (by first | omega | (simp <;> omega)) _))), by go_simp, by go_simp, by go_simp, by go_simp⟩) (fun hHeld => ?_)
        refine takeY (i := 0) (dst := (some 32)) (v := ?_) rfl rfl (by kernel_rfl) (by kernel_rfl) (by kernel_rfl) (fun _ _ _ h => h) (by rfl) ?hy5w0 (by assumption) ?rest5w0
        case hy5w0 => (intro w hSw; (try dsimp only at hSw); go_simp; (try with_reducible rfl))
        try simp only [Act.put, List.setIfInBounds_toArray, List.set_cons_zero, List.set_cons_succ]
        refine takeY (i := 1) (dst := (some 33)) (v := ?_) rfl rfl (by kernel_rfl) (by kernel_rfl) (by kernel_rfl) (fun _ _ _ h => h) (by rfl) ?hy5w1 (by assumption) ?rest5w1
        case hy5w1 => (intro w hSw; (try dsimp only at hSw); go_simp; (try with_reducible rfl))
        try simp only [Act.put, List.setIfInBounds_toArray, List.set_cons_zero, List.set_cons_succ]
        refine takeY (i := 2) (dst := (some 34)) (v := ?_) rfl rfl (by kernel_rfl) (by kernel_rfl) (by kernel_rfl) (fun _ _ _ h => h) (by rfl) ?hy5w2 (by assumption) ?rest5w2
        case hy5w2 => (intro w hSw; (try dsimp only at hSw); go_simp; (try with_reducible rfl))
        try simp only [Act.put, List.setIfInBounds_toArray, List.set_cons_zero, List.set_cons_succ]
        refine takeY (i := 3) (dst := (some 35)) (v := ?_) rfl rfl (by kernel_rfl) (by kernel_rfl) (by kernel_rfl) (fun _ _ _ h => h) (by rfl) ?hy5w3 (by assumption) ?rest5w3
        case hy5w3 => (intro w hSw; (try dsimp only at hSw); go_simp; (try with_reducible rfl))
        try simp only [Act.put, List.setIfInBounds_toArray, List.set_cons_zero, List.set_cons_succ]
        refine takeY (i := 4) (dst := (some 36)) (v := ?_) rfl rfl (by kernel_rfl) (by kernel_rfl) (by kernel_rfl) (fun _ _ _ h => h) (by rfl) ?hy5w4 (by assumption) ?rest5w4
        case hy5w4 => (intro w hSw; (try dsimp only at hSw); go_simp; (try with_reducible rfl))
        try simp only [Act.put, List.setIfInBounds_toArray, List.set_cons_zero, List.set_cons_succ]
        refine takeY (i := 5) (dst := (some 37)) (v := ?_) rfl rfl (by kernel_rfl) (by kernel_rfl) (by kernel_rfl) (fun _ _ _ h => h) (by rfl) ?hy5w5 (by assumption) ?rest5w5
        case hy5w5 => (intro w hSw; (try dsimp only at hSw); go_simp; (try with_reducible rfl))
        try simp only [Act.put, List.setIfInBounds_toArray, List.set_cons_zero, List.set_cons_succ]
        refine wpAnyH_ready (rs := [6]) (by kernel_rfl) (by simp) (AllReadyH.cons rfl (fun K hK => ?_) AllReadyH.nil)
        go_simp
        (go_at_call 54; refine (HU _ (heldZ1 (by assumption))).out.mono ?_; rintro e w5 ⟨a5, c5, rfl, hN5, hb5⟩; have X5 := NBox2.below (b := w.heap.size + 1 + 1) (v0 := .bool false) (v1 := .slice none 0 0) (by constructor <;> go_simp) hb5 (by first | omega | (simp <;> omega)); have hs5 := hb5.size; (try simp at hs5); have HM := made_any t a5 c5 _ w5 hN5; rw [EZ.out] at HM; have HM2 := Lib.hid HM; clear HM hN5)
        (try go_wp2_with fail)
        refine hK.out _ _ (heldZ4 (by assumption) (by assumption)) (fun hHeld => ?_)
        clear hK K
        try simp only [Act.put, List.setIfInBounds_toArray, List.set_cons_zero, List.set_cons_succ]
        refine wpAnyH_ready (rs := [7]) (by kernel_rfl) (by simp) (AllReadyH.cons rfl (fun K hK => ?_) AllReadyH.nil)
        go_simp
        (go_at_call 48; refine HM2.out.mono ?_; rintro e w6 ⟨a6, c6, rfl, hN6, hb6⟩; have HN6 := Lib.hid hN6; have X6 := X5.below hb6 (by first | omega | (simp <;> omega)); have hs6 := hb6.size; clear hN6 X5; have HX6 := Lib.hid X6; obtain ⟨x0, x1, x2, x3⟩ := X6)
        (try go_wp2_with fail)
        refine hK.out _ _ (heldZ4 (by assumption) (by assumption)) (fun hHeld => ?_)
        clear hK K
        try simp only [Act.put, List.setIfInBounds_toArray, List.set_cons_zero, List.set_cons_succ]
        refine wpAnyH_ready (rs := [8]) (by kernel_rfl) (by simp) (AllReadyH.cons rfl (fun K hK => ?_) AllReadyH.nil)
        go_simp
        skip
        (try go_wp2_with fail)
        refine hK.out _ _ (heldZset (by assumption) (by omega) (by omega) (by omega)) (fun hHeld => ?_)
        clear hK K
        try simp only [Act.put, List.setIfInBounds_toArray, List.set_cons_zero, List.set_cons_succ]
        refine wpAnyH_done (by kernel_rfl) ?_ _
        go_wp2_with fail
        refine bodyPost_ret (v := .agg #[.bool (decide ((z) < 0)), .slice a6 (dig 18446744073709551616 (z).natAbs).length c6]) (by rw [nres_c1 rfl]; go_simp) rfl ?_
        exact retZ_box (by omega) HN6.out HX6.out (by intro z h; cases h) (by intro z h; cases h) (Below.trans (Below.trans (by (repeat' (first | exact Below.refl _ _ | refine belowDN ?_ _ | refine Below.drew ?_ | refine Below.setCell ?_ (by first | omega | (simp <;> omega)) _ | refine Below.alloc ?_ (by first | omega | (simp <;> omega)) _))) (hb5.mono (by first | omega | (simp <;> omega)))) (hb6.mono (by first | omega | (simp <;> omega)))) _ _
end Go.Proofs.YtddhhfhammmaaaaGreat
/- Walks of the references' whole numbers with a sign: signs, differences, order. -/
set_option linter.unusedVariables false
set_option linter.unusedSimpArgs false
namespace Go.Proofs.YtddhhfhammmaaaaGreat
open Go.RowKit Go.Rt

def sgnI (x : Int) : Int := if x < 0 then -1 else if x = 0 then 0 else 1
theorem abs_len0 (x : Int) : (dig 18446744073709551616 x.natAbs).length = 0 ↔ x = 0 := by rw [dig_len_zero (by decide)]; omega
theorem zsign_any (a : Option Addr) (c : Nat) (x : Int) (w : World) : Calls Tryz.prog 104 #[.agg #[.bool (decide (x < 0)), .slice a (dig 18446744073709551616 x.natAbs).length c]] w fun e w' => e = .returned (.int .i64 (sgnI x)) ∧ Below w.heap.size w w' := by
  have hl := abs_len0 x
  by_cases h : x < 0
  · have HS := Lib.hid (show sgnI x = -1 by unfold sgnI; rw [if_pos h])
    rw [decide_eq_true h]
    clear h hl
    go_enter Tryz.func104, Tryz.ntmps104
    go_wp2
    go_ret
    exact ⟨by rw [HS.out]; rfl, (by (repeat' (first | exact Below.refl _ _ | refine Below.drew ?_ | refine Below.setCell ?_ (by first | omega | (simp <;> omega)) _ | refine Below.alloc ?_ (by first | omega | (simp <;> omega)) _)))⟩
  · rw [decide_eq_false h]
    by_cases h0 : x = 0
    · have HS := Lib.hid (show sgnI x = 0 by subst h0; rfl)
      have e1 : ¬ (0 : Int) < ((dig 18446744073709551616 x.natAbs).length : Int) := by have := hl.2 h0; omega
      clear h hl h0
      go_enter Tryz.func104, Tryz.ntmps104
      go_wp2
      go_ret
      exact ⟨by rw [HS.out]; rfl, (by (repeat' (first | exact Below.refl _ _ | refine Below.drew ?_ | refine Below.setCell ?_ (by first | omega | (simp <;> omega)) _ | refine Below.alloc ?_ (by first | omega | (simp <;> omega)) _)))⟩
    · have HS := Lib.hid (show sgnI x = 1 by unfold sgnI; rw [if_neg h, if_neg h0])
      have e1 : (0 : Int) < ((dig 18446744073709551616 x.natAbs).length : Int) := by have := fun h => h0 (hl.1 h); omega
      clear h hl h0
      go_enter Tryz.func104, Tryz.ntmps104
      go_wp2
      go_ret
      exact ⟨by rw [HS.out]; rfl, (by (repeat' (first | exact Below.refl _ _ | refine Below.drew ?_ | refine Below.setCell ?_ (by first | omega | (simp <;> omega)) _ | refine Below.alloc ?_ (by first | omega | (simp <;> omega)) _)))⟩
theorem zzero_any (a : Option Addr) (c : Nat) (x : Int) (w : World) : Calls Tryz.prog 84 #[.agg #[.bool (decide (x < 0)), .slice a (dig 18446744073709551616 x.natAbs).length c]] w fun e w' => e = .returned (.bool (decide (x = 0))) ∧ Below w.heap.size w w' := by
  have hl := abs_len0 x
  have HS := Lib.hid (show (((dig 18446744073709551616 x.natAbs).length : Int) == 0) = decide (x = 0) by
    rw [Bool.eq_iff_iff]
    simp only [beq_iff_eq, decide_eq_true_eq]
    rw [← hl]
    omega)
  clear hl
  generalize decide (x = 0) = z at *
  generalize decide (x < 0) = s at *
  generalize dig 18446744073709551616 x.natAbs = X at *
  have hs := HS.out
  clear HS
  go_enter Tryz.func84, Tryz.ntmps84
  go_wp2
  go_ret
  exact ⟨by first | rfl | simp, (by (repeat' (first | exact Below.refl _ _ | refine Below.drew ?_ | refine Below.setCell ?_ (by first | omega | (simp <;> omega)) _ | refine Below.alloc ?_ (by first | omega | (simp <;> omega)) _)))⟩

set_option maxHeartbeats 4000000 in
set_option maxRecDepth 100000 in
theorem zless_any (a b : Option Addr) (c d : Nat) (x y z : Int) (w : World) (h : NAt w w.heap.size a c x.natAbs) (h' : NAt w w.heap.size b d y.natAbs) (hx : (dig 18446744073709551616 x.natAbs).length ≤ 1000000) (hy : (dig 18446744073709551616 y.natAbs).length ≤ 1000000) (hz : x - y = z) :
    Calls Tryz.prog 103 #[.agg #[.bool (decide (x < 0)), .slice a (dig 18446744073709551616 x.natAbs).length c], .agg #[.bool (decide (y < 0)), .slice b (dig 18446744073709551616 y.natAbs).length d]] w (RetZ w z) := by
  obtain ⟨y', hy'⟩ : ∃ y', -y = y' := ⟨_, rfl⟩
  have hab : y'.natAbs = y.natAbs := by rw [← hy']; exact Int.natAbs_neg _
  have HG := fun w' (hb : Below w.heap.size w w') => Lib.hid (zneg_any b d y w' (h'.next hb))
  rw [hy'] at HG
  have HP := fun a5 c5 w' (hb : Below w.heap.size w w') (h5 : NAt w' w'.heap.size a5 c5 y'.natAbs) => zplus_any a a5 c c5 x y' z w' (h.next hb) h5 hx (by rw [hab]; exact hy) (by omega)
  clear h h' hz hab hy'
  generalize decide (x < 0) = s at *
  generalize decide (y < 0) = t at *
  generalize dig 18446744073709551616 x.natAbs = X at *
  generalize dig 18446744073709551616 y.natAbs = Y at *
  go_enter Tryz.func103, Tryz.ntmps103
  go_upto_region 1 with fail
  refine wp_region_held_drew (S := (fun w' => Below w.heap.size w w' ∧ w'.cell? ⟨w.heap.size, 0, none⟩ = some (.bool s) ∧ w'.cell? ⟨w.heap.size, 1, none⟩ = some (.slice a X.length c) ∧ w'.cell? ⟨w.heap.size + 1, 0, none⟩ = some (.bool t) ∧ w'.cell? ⟨w.heap.size + 1, 1, none⟩ = some (.slice b Y.length d))) (by kernel_rfl) (⟨(by (repeat' (first | exact Below.refl _ _ | refine Below.drew ?_ | refine Below.setCell ?_ (by first | omega | (simp <;> omega)) _ | refine Below.alloc ?_ (by first | omega | (simp <;> omega)) _))), by go_simp, by go_simp, by go_simp, by go_simp⟩) (fun hHeld => ?_)
  refine takeY (i := 0) (dst := (some 5)) (v := ?_) rfl rfl (by kernel_rfl) (by kernel_rfl) (by kernel_rfl) (fun _ _ _ h => h) (by rfl) ?hy2w0 (by assumption) ?rest2w0
  case hy2w0 => (intro w hSw; (try dsimp only at hSw); go_simp; (try with_reducible rfl))
  try simp only [Act.put, List.setIfInBounds_toArray, List.set_cons_zero, List.set_cons_succ]
  refine takeY (i := 1) (dst := (some 6)) (v := ?_) rfl rfl (by kernel_rfl) (by kernel_rfl) (by kernel_rfl) (fun _ _ _ h => h) (by rfl) ?hy2w1 (by assumption) ?rest2w1
  case hy2w1 => (intro w hSw; (try dsimp only at hSw); go_simp; (try with_reducible rfl))
  try simp only [Act.put, List.setIfInBounds_toArray, List.set_cons_zero, List.set_cons_succ]
  refine wpAnyH_ready (rs := [2]) (by kernel_rfl) (by simp) (AllReadyH.cons rfl (fun K hK => ?_) AllReadyH.nil)
  go_simp
  (go_at_call 108; refine (HG _ (heldZ1 (by assumption))).out.mono ?_; rintro e w5 ⟨a5, c5, rfl, hN5, hb5⟩; have X5 := NBox2.below (b := w.heap.size + 1 + 1) (v0 := .bool false) (v1 := .slice none 0 0) (by constructor <;> go_simp) hb5 (by first | omega | (simp <;> omega)); have hs5 := hb5.size; (try simp at hs5); have hBw : Below w.heap.size w w5 := (heldZ1 hHeld).trans (hb5.mono (heldZ1 hHeld).size); have HM := Lib.hid (HP a5 c5 w5 hBw hN5); clear hN5 hBw)
  (try go_wp2_with fail)
  refine hK.out _ _ (heldZ4 (by assumption) (by assumption)) (fun hHeld => ?_)
  clear hK K
  try simp only [Act.put, List.setIfInBounds_toArray, List.set_cons_zero, List.set_cons_succ]
  refine wpAnyH_ready (rs := [3]) (by kernel_rfl) (by simp) (AllReadyH.cons rfl (fun K hK => ?_) AllReadyH.nil)
  go_simp
  (go_at_call 23; refine HM.out.mono ?_; rintro e w6 ⟨a6, c6, rfl, hN6, hb6⟩; have HN6 := Lib.hid hN6; have X6 := X5.below hb6 (by first | omega | (simp <;> omega)); have hs6 := hb6.size; clear hN6 X5 HM; have HX6 := Lib.hid X6; obtain ⟨x0, x1, x2, x3⟩ := X6)
  (try go_wp2_with fail)
  refine hK.out _ _ (heldZ4 (by assumption) (by assumption)) (fun hHeld => ?_)
  clear hK K
  try simp only [Act.put, List.setIfInBounds_toArray, List.set_cons_zero, List.set_cons_succ]
  refine wpAnyH_ready (rs := [4]) (by kernel_rfl) (by simp) (AllReadyH.cons rfl (fun K hK => ?_) AllReadyH.nil)
  go_simp
  skip
  (try go_wp2_with fail)
  refine hK.out _ _ (heldZset (by assumption) (by omega) (by omega) (by omega)) (fun hHeld => ?_)
  clear hK K
  try simp only [Act.put, List.setIfInBounds_toArray, List.set_cons_zero, List.set_cons_succ]
  refine wpAnyH_done (by kernel_rfl) ?_ _
  go_wp2_with fail
  refine bodyPost_ret (v := .agg #[.bool (decide ((z) < 0)), .slice a6 (dig 18446744073709551616 (z).natAbs).length c6]) (by rw [nres_c1 rfl]; go_simp) rfl ?_
  exact retZ_box (by omega) HN6.out HX6.out (by intro z h; cases h) (by intro z h; cases h) (Below.trans (Below.trans (by (repeat' (first | exact Below.refl _ _ | refine Below.drew ?_ | refine Below.setCell ?_ (by first | omega | (simp <;> omega)) _ | refine Below.alloc ?_ (by first | omega | (simp <;> omega)) _))) (hb5.mono (by first | omega | (simp <;> omega)))) (hb6.mono (by first | omega | (simp <;> omega)))) _ _
set_option maxHeartbeats 1000000 in
theorem zcmp_any (a b : Option Addr) (c d : Nat) (x y z : Int) (w : World) (h : NAt w w.heap.size a c x.natAbs) (h' : NAt w w.heap.size b d y.natAbs) (hx : (dig 18446744073709551616 x.natAbs).length ≤ 1000000) (hy : (dig 18446744073709551616 y.natAbs).length ≤ 1000000) (hz : x - y = z) :
    Calls Tryz.prog 83 #[.agg #[.bool (decide (x < 0)), .slice a (dig 18446744073709551616 x.natAbs).length c], .agg #[.bool (decide (y < 0)), .slice b (dig 18446744073709551616 y.natAbs).length d]] w fun e w' => e = .returned (.int .i64 (sgnI z)) ∧ Below w.heap.size w w' := by
  have HL := fun w' (hb : Below w.heap.size w w') => Lib.hid (zless_any a b c d x y z w' (h.next hb) (h'.next hb) hx hy hz)
  have HS := fun a c w' => Lib.hid (zsign_any a c z w')
  clear h h' hz
  generalize decide (x < 0) = s at *
  generalize decide (y < 0) = t at *
  generalize sgnI z = g at *
  generalize dig 18446744073709551616 x.natAbs = X at *
  generalize dig 18446744073709551616 y.natAbs = Y at *
  go_enter Tryz.func83, Tryz.ntmps83
  go_wp2_with (first | (go_at_call 103; refine (HL _ (by (repeat' (first | exact Below.refl _ _ | refine Below.drew ?_ | refine Below.setCell ?_ (by first | omega | (simp <;> omega)) _ | refine Below.alloc ?_ (by first | omega | (simp <;> omega)) _)))).out.mono ?_; rintro e w5 ⟨a5, c5, rfl, _, hb5⟩) | (go_at_call 104; refine (HS _ _ _).out.mono ?_; rintro e w6 ⟨rfl, hb6⟩))
  go_ret
  exact ⟨rfl, Below.trans (Below.trans (by (repeat' (first | exact Below.refl _ _ | refine Below.drew ?_ | refine Below.setCell ?_ (by first | omega | (simp <;> omega)) _ | refine Below.alloc ?_ (by first | omega | (simp <;> omega)) _))) (hb5.mono (by first | omega | (simp <;> omega)))) (hb6.mono (by have h5 := hb5.size; (try simp at h5); omega))⟩
end Go.Proofs.YtddhhfhammmaaaaGreat
