/- Walks of layer 1's reference: quotients, whole numbers of wide ones. -/
import Derived.Test.YtlbmpdidmckgkaaRat2
import Derived.BigQuiet
import Derived.WalkMore
import Derived.Deep.RegionHeld3
import Derived.Deep.RegionWith
import Derived.BigRegion
import Derived.Deep.Cut
import Derived.Deep.CutBlock
import Derived.Deep.CutRange
set_option linter.unusedVariables false
set_option linter.unusedSimpArgs false
namespace Go.Proofs.Ytlbmpdidmckgkaa
open Go.RowKit Go.Rt

def ratX (x y : Int) : Int := if y < 0 then -x else x
def ratQ (x y : Int) : Int := sgnZ (decide (ratX x y < 0)) ((ratX x y).natAbs / Nat.gcd (ratX x y).natAbs y.natAbs)
def ratK (x y : Int) : Nat := y.natAbs / Nat.gcd (ratX x y).natAbs y.natAbs
theorem ratX_abs (x y : Int) : (ratX x y).natAbs = x.natAbs := by unfold ratX; split <;> omega
theorem nres_c3 {fn : Func} {p : Tmp} {ty : TypeId} (h : fn.results = #[.cell p ty]) (tmps : Array Value) (P : Program) (w : World) : (results fn tmps).run P w = ((asAddr (tmps.getD p undef)).run P w).andThen fun a w₁ => (loadVar ty a).run P w₁ := nres_c1 h tmps P w

set_option maxHeartbeats 8000000 in
set_option maxRecDepth 100000 in
theorem rat_neg (a b : Option Addr) (c d K : Nat) (x y : Int) (w : World) (h : NAt w w.heap.size a c x.natAbs) (h' : NAt w w.heap.size b d y.natAbs) (hK : K ≤ 1000000) (hx : x.natAbs < 2 ^ K) (hy : y.natAbs < 2 ^ K) (hy0 : y ≠ 0) (hneg : y < 0) :
    Calls Try.prog 46 #[.agg #[.bool (decide (x < 0)), .slice a (dig 18446744073709551616 x.natAbs).length c], .agg #[.bool (decide (y < 0)), .slice b (dig 18446744073709551616 y.natAbs).length d]] w (RetR w (ratQ x y) (ratK x y)) := by
  have hy0' : y.natAbs ≠ 0 := by omega
  rw [decide_eq_true hneg]
  have eX : ratX x y = -x := by unfold ratX; rw [if_pos hneg]
  obtain ⟨X0, hX0⟩ : ∃ z, ratX x y = z := ⟨_, rfl⟩
  have hXa := ratX_abs x y
  rw [hX0] at hXa eX
  have hq1 : sgnZ (decide (X0 < 0)) (X0.natAbs / Nat.gcd X0.natAbs y.natAbs) = ratQ x y := by unfold ratQ; rw [hX0]
  have hk1 : y.natAbs / Nat.gcd X0.natAbs y.natAbs = ratK x y := by unfold ratK; rw [hX0]
  obtain ⟨q, hq⟩ : ∃ q, ratQ x y = q := ⟨_, rfl⟩
  obtain ⟨k, hk⟩ : ∃ k, ratK x y = k := ⟨_, rfl⟩
  rw [hq] at hq1 ⊢
  rw [hk] at hk1 ⊢
  have HMK := fun a b c d w hN hM => Lib.hid (rmake_any a b c d y.natAbs K X0 q k w hN hM hK (by rw [hXa]; exact hx) hy (by omega) hq1 hk1)
  have HNG := fun w' (hb : Below w.heap.size w w') => Lib.hid (zneg_any a c x w' (h.next hb))
  rw [← eX] at HNG
  have HA := Lib.hid h
  have HB := Lib.hid h'
  clear hy0' hXa hq1 hk1 hq hk hX0 hneg hy0 hK hx hy h h' eX
  generalize hsx : decide (x < 0) = sx at *
  generalize hX : dig 18446744073709551616 x.natAbs = X at *
  generalize hY : dig 18446744073709551616 y.natAbs = Y at *
  have HSX := Lib.hid hsx
  have HXE := Lib.hid hX
  have HYE := Lib.hid hY
  clear hsx hX hY
  go_enter Try.func46, Try.ntmps46
  go_upto_region 3 with (go_at_call 38; refine (HNG _ (by (repeat' (first | exact Below.refl _ _ | refine Below.drew ?_ | refine Below.setCell ?_ (by first | omega | (simp <;> omega)) _ | refine Below.alloc ?_ (by first | omega | (simp <;> omega)) _)))).out.mono ?_; rintro e w4 ⟨a4, c4, rfl, hN4, hb4⟩; have X0b := NBox2.below (b := w.heap.size) (v0 := .bool sx) (v1 := .slice a X.length c) (by constructor <;> go_simp) hb4 (by first | omega | (simp <;> omega)); have X1b := NBox2.below (b := w.heap.size + 1) (v0 := .bool true) (v1 := .slice b Y.length d) (by constructor <;> go_simp) hb4 (by first | omega | (simp <;> omega)); have R3 := NBox3.below (b := w.heap.size + 1 + 1) (v0 := .bool false) (v1 := .slice none 0 0) (v2 := .slice none 0 0) (by constructor <;> go_simp) hb4 (by first | omega | (simp <;> omega)); have RL : w.heap.size + 1 + 1 < w4.heap.size := (by have := hb4.size; (try simp at this); omega); have hB4 : Below w.heap.size w w4 := Below.trans (by (repeat' (first | exact Below.refl _ _ | refine Below.drew ?_ | refine Below.setCell ?_ (by first | omega | (simp <;> omega)) _ | refine Below.alloc ?_ (by first | omega | (simp <;> omega)) _))) (hb4.mono (by first | omega | (simp <;> omega))); have HN4 := Lib.hid hN4; have HNY := Lib.hid (HB.out.next hB4); have HB4 := Lib.hid hB4; clear hN4 hb4 hB4; obtain ⟨k0, k1, k2, k3⟩ := X0b; obtain ⟨m0, m1, m2, m3⟩ := X1b; obtain ⟨r0, r1, r2, r3, r4, r5⟩ := R3)
  have X0c : NBox2 w4 w.heap.size (.bool sx) (.slice a X.length c) := ⟨k0, k1, k2, k3⟩
  have HN5 := Lib.hid (nat_set (v := .slice a X.length c) (nat_set HN4.out k0 bool_int) (by go_simp) slice_int : NAt ((w4.setCell ⟨w.heap.size, 0, none⟩ (.bool (decide (X0 < 0)))).setCell ⟨w.heap.size, 1, none⟩ (.slice a4 (dig 18446744073709551616 X0.natAbs).length c4)) _ a4 c4 X0.natAbs)
  have HY5 := Lib.hid (nat_set (v := .slice a X.length c) (nat_set HNY.out k0 bool_int) (by go_simp) slice_int : NAt ((w4.setCell ⟨w.heap.size, 0, none⟩ (.bool (decide (X0 < 0)))).setCell ⟨w.heap.size, 1, none⟩ (.slice a4 (dig 18446744073709551616 X0.natAbs).length c4)) _ b d y.natAbs)
  skip
  go_wp2_with (go_at_call 71; refine (HMK _ _ _ _ _ HN5.out HY5.out).out.mono ?_; rintro e w5 ⟨a5, c5, b5, d5, rfl, hN5, hM5, hb5⟩; have R5 := NBox3.below (b := w.heap.size + 1 + 1) (v0 := .bool false) (v1 := .slice none 0 0) (v2 := .slice none 0 0) (by constructor <;> go_simp) hb5 (by simp; omega); have HB5 : Hid (Below w.heap.size w w5) := Lib.hid (((HB4.out.setCell (p := ⟨w.heap.size, 0, none⟩) (Nat.le_refl _) _).setCell (p := ⟨w.heap.size, 1, none⟩) (Nat.le_refl _) _).trans (hb5.mono (by simp; omega))); clear r0 r1 r2 r3 r4 r5; obtain ⟨r0, r1, r2, r3, r4, r5⟩ := R5)
  have R6 : NBox3 w5 (w.heap.size + 1 + 1) (.bool false) (.slice none 0 0) (.slice none 0 0) := ⟨r0, r1, r2, r3, r4, r5⟩
  refine bodyPost_ret (v := .agg #[.bool (decide (q < 0)), .slice a5 (dig 18446744073709551616 q.natAbs).length c5, .slice b5 (dig 18446744073709551616 k).length d5]) (by rw [nres_c1 rfl]; go_simp) rfl ?_
  exact ⟨a5, c5, b5, d5, rfl, nat_set3 hN5 R6 bool_int slice_int slice_int, nat_set3 hM5 R6 bool_int slice_int slice_int, ((HB5.out.setCell (by simp; omega) _).setCell (by simp; omega) _).setCell (by simp; omega) _⟩
set_option maxHeartbeats 8000000 in
set_option maxRecDepth 100000 in
theorem rat_pos (a b : Option Addr) (c d K : Nat) (x y : Int) (w : World) (h : NAt w w.heap.size a c x.natAbs) (h' : NAt w w.heap.size b d y.natAbs) (hK : K ≤ 1000000) (hx : x.natAbs < 2 ^ K) (hy : y.natAbs < 2 ^ K) (hy0 : y ≠ 0) (hneg : ¬ y < 0) :
    Calls Try.prog 46 #[.agg #[.bool (decide (x < 0)), .slice a (dig 18446744073709551616 x.natAbs).length c], .agg #[.bool (decide (y < 0)), .slice b (dig 18446744073709551616 y.natAbs).length d]] w (RetR w (ratQ x y) (ratK x y)) := by
  have hy0' : y.natAbs ≠ 0 := by omega
  rw [decide_eq_false hneg]
  have eX : ratX x y = x := by unfold ratX; rw [if_neg hneg]
  obtain ⟨X0, hX0⟩ : ∃ z, ratX x y = z := ⟨_, rfl⟩
  have hXa := ratX_abs x y
  rw [hX0] at hXa eX
  have hq1 : sgnZ (decide (X0 < 0)) (X0.natAbs / Nat.gcd X0.natAbs y.natAbs) = ratQ x y := by unfold ratQ; rw [hX0]
  have hk1 : y.natAbs / Nat.gcd X0.natAbs y.natAbs = ratK x y := by unfold ratK; rw [hX0]
  obtain ⟨q, hq⟩ : ∃ q, ratQ x y = q := ⟨_, rfl⟩
  obtain ⟨k, hk⟩ : ∃ k, ratK x y = k := ⟨_, rfl⟩
  rw [hq] at hq1 ⊢
  rw [hk] at hk1 ⊢
  have HMK := fun a b c d w hN hM => Lib.hid (rmake_any a b c d y.natAbs K X0 q k w hN hM hK (by rw [hXa]; exact hx) hy (by omega) hq1 hk1)
  have HNG := fun w' (hb : Below w.heap.size w w') => Lib.hid (zneg_any a c x w' (h.next hb))
  subst eX
  have HA := Lib.hid h
  have HB := Lib.hid h'
  clear hy0' hXa hq1 hk1 hq hk hX0 hneg hy0 hK hx hy h h'
  generalize hsx : decide (X0 < 0) = sx at *
  generalize hX : dig 18446744073709551616 X0.natAbs = X at *
  generalize hY : dig 18446744073709551616 y.natAbs = Y at *
  have HSX := Lib.hid hsx
  have HXE := Lib.hid hX
  have HYE := Lib.hid hY
  clear hsx hX hY
  go_enter Try.func46, Try.ntmps46
  go_wp2_with (go_at_call 71; refine (HMK _ _ _ _ _ (HA.out.next (by (repeat' (first | exact Below.refl _ _ | refine Below.drew ?_ | refine Below.setCell ?_ (by first | omega | (simp <;> omega)) _ | refine Below.alloc ?_ (by first | omega | (simp <;> omega)) _)))) (HB.out.next (by (repeat' (first | exact Below.refl _ _ | refine Below.drew ?_ | refine Below.setCell ?_ (by first | omega | (simp <;> omega)) _ | refine Below.alloc ?_ (by first | omega | (simp <;> omega)) _))))).out.mono ?_; rintro e w5 ⟨a5, c5, b5, d5, rfl, hN5, hM5, hb5⟩; have R5 := NBox3.below (b := w.heap.size + 1 + 1) (v0 := .bool false) (v1 := .slice none 0 0) (v2 := .slice none 0 0) (by constructor <;> go_simp) hb5 (by first | omega | (simp <;> omega)); have HB5 : Hid (Below w.heap.size w w5) := Lib.hid (Below.trans (by (repeat' (first | exact Below.refl _ _ | refine Below.drew ?_ | refine Below.setCell ?_ (by first | omega | (simp <;> omega)) _ | refine Below.alloc ?_ (by first | omega | (simp <;> omega)) _))) (hb5.mono (by first | omega | (simp <;> omega)))); obtain ⟨r0, r1, r2, r3, r4, r5⟩ := R5)
  have R6 : NBox3 w5 (w.heap.size + 1 + 1) (.bool false) (.slice none 0 0) (.slice none 0 0) := ⟨r0, r1, r2, r3, r4, r5⟩
  refine bodyPost_ret (v := .agg #[.bool (decide (q < 0)), .slice a5 (dig 18446744073709551616 q.natAbs).length c5, .slice b5 (dig 18446744073709551616 k).length d5]) (by rw [nres_c1 rfl]; go_simp) rfl ?_
  exact ⟨a5, c5, b5, d5, rfl, nat_set3 hN5 R6 bool_int slice_int slice_int, nat_set3 hM5 R6 bool_int slice_int slice_int, ((HB5.out.setCell (by simp; omega) _).setCell (by simp; omega) _).setCell (by simp; omega) _⟩
theorem rat_any (a b : Option Addr) (c d K : Nat) (x y : Int) (w : World) (h : NAt w w.heap.size a c x.natAbs) (h' : NAt w w.heap.size b d y.natAbs) (hK : K ≤ 1000000) (hx : x.natAbs < 2 ^ K) (hy : y.natAbs < 2 ^ K) (hy0 : y ≠ 0) :
    Calls Try.prog 46 #[.agg #[.bool (decide (x < 0)), .slice a (dig 18446744073709551616 x.natAbs).length c], .agg #[.bool (decide (y < 0)), .slice b (dig 18446744073709551616 y.natAbs).length d]] w (RetR w (ratQ x y) (ratK x y)) := by
  by_cases hneg : y < 0
  · exact rat_neg a b c d K x y w h h' hK hx hy hy0 hneg
  · exact rat_pos a b c d K x y w h h' hK hx hy hy0 hneg
theorem ratQ_abs (x y : Int) : (ratQ x y).natAbs ≤ x.natAbs := by
  unfold ratQ
  rw [sgnZ_abs]
  exact Nat.le_trans (Nat.div_le_self _ _) (by rw [ratX_abs]; exact Nat.le_refl _)
theorem ratK_le (x y : Int) : ratK x y ≤ y.natAbs := Nat.div_le_self _ _
theorem ratK_pos {x y : Int} (hy : y ≠ 0) : 0 < ratK x y := Nat.div_pos (Nat.gcd_le_right _ (by omega)) (Nat.gcd_pos_of_pos_right _ (by omega))
set_option maxHeartbeats 8000000 in
set_option maxRecDepth 100000 in
theorem ref1Round_any (a b : Option Addr) (c d K : Nat) (x y z : Int) (w : World) (h : NAt w w.heap.size a c x.natAbs) (h' : NAt w w.heap.size b d y.natAbs) (hK : K ≤ 1000000 - 8) (hx : x.natAbs < 2 ^ K) (hy : y.natAbs < 2 ^ K) (hy0 : y ≠ 0) (hz : nearZ (ratQ x y) (ratK x y) = z) :
    Calls Try.prog 12 #[.agg #[.bool (decide (x < 0)), .slice a (dig 18446744073709551616 x.natAbs).length c], .agg #[.bool (decide (y < 0)), .slice b (dig 18446744073709551616 y.natAbs).length d]] w (RetZ w z) := by
  have hqa := ratQ_abs x y
  have hka := ratK_le x y
  have hkp := ratK_pos (x := x) hy0
  have HRT := fun w' (hb : Below w.heap.size w w') => Lib.hid (rat_any a b c d K x y w' (h.next hb) (h'.next hb) (by omega) hx hy hy0)
  obtain ⟨q, hq⟩ : ∃ q, ratQ x y = q := ⟨_, rfl⟩
  obtain ⟨k, hk⟩ : ∃ k, ratK x y = k := ⟨_, rfl⟩
  rw [hq, hk] at HRT hz
  rw [hq] at hqa
  rw [hk] at hka hkp
  have HNR := fun a b c d w hN hM => Lib.hid (near_any a b c d k K q z w hN hM hK (Nat.lt_of_le_of_lt hqa hx) (Nat.lt_of_le_of_lt hka hy) hkp hz)
  clear hqa hka hkp hq hk hz hx hy hy0 hK h h'
  generalize hsx : decide (x < 0) = sx at *
  generalize hX : dig 18446744073709551616 x.natAbs = X at *
  have HSX := Lib.hid hsx
  have HXE := Lib.hid hX
  clear hsx hX
  generalize hsy : decide (y < 0) = sy at *
  generalize hY : dig 18446744073709551616 y.natAbs = Y at *
  have HSY := Lib.hid hsy
  have HYE := Lib.hid hY
  clear hsy hY
  go_enter Try.func12, Try.ntmps12
  go_wp2_with (first | (go_at_call 46; refine (HRT _ (by (repeat' (first | exact Below.refl _ _ | refine Below.drew ?_ | refine Below.setCell ?_ (by first | omega | (simp <;> omega)) _ | refine Below.alloc ?_ (by first | omega | (simp <;> omega)) _)))).out.mono ?_; rintro e w4 ⟨a4, c4, b4, d4, rfl, hN4, hM4, hb4⟩; have X4 := NBox2.below (b := w.heap.size + 1 + 1) (v0 := .bool false) (v1 := .slice none 0 0) (by constructor <;> go_simp) hb4 (by first | omega | (simp <;> omega)); have HB4 : Hid (Below w.heap.size w w4) := Lib.hid (Below.trans (by (repeat' (first | exact Below.refl _ _ | refine Below.drew ?_ | refine Below.setCell ?_ (by first | omega | (simp <;> omega)) _ | refine Below.alloc ?_ (by first | omega | (simp <;> omega)) _))) (hb4.mono (by first | omega | (simp <;> omega)))); have hs4 := hb4.size; (try simp at hs4); obtain ⟨k0, k1, k2, k3⟩ := X4) | (go_at_call 45; refine (HNR _ _ _ _ _ hN4 hM4).out.mono ?_; rintro e w5 ⟨a5, c5, rfl, hN5, hb5⟩; have X5 := NBox2.below (b := w.heap.size + 1 + 1) (v0 := .bool false) (v1 := .slice none 0 0) ⟨k0, k1, k2, k3⟩ hb5 (by omega); have HB9 := Lib.hid (HB4.out.trans (hb5.mono HB4.out.size)); have HN9 := Lib.hid hN5; have HX9 := Lib.hid X5; clear k0 k1 k2 k3; obtain ⟨k0, k1, k2, k3⟩ := X5))
  refine bodyPost_ret (v := .agg #[.bool (decide ((z) < 0)), .slice a5 (dig 18446744073709551616 (z).natAbs).length c5]) (by rw [nres_c1 rfl]; go_simp) rfl ?_
  exact retZ_box (by omega) HN9.out HX9.out (by intro z h; cases h) (by intro z h; cases h) HB9.out _ _
set_option maxHeartbeats 8000000 in
set_option maxRecDepth 100000 in
theorem ref1Down_any (a b : Option Addr) (c d K : Nat) (x y z : Int) (w : World) (h : NAt w w.heap.size a c x.natAbs) (h' : NAt w w.heap.size b d y.natAbs) (hK : K ≤ 1000000) (hx : x.natAbs < 2 ^ K) (hy : y.natAbs < 2 ^ K) (hy0 : y ≠ 0) (hz : floorZ x y = z) :
    Calls Try.prog 13 #[.agg #[.bool (decide (x < 0)), .slice a (dig 18446744073709551616 x.natAbs).length c], .agg #[.bool (decide (y < 0)), .slice b (dig 18446744073709551616 y.natAbs).length d]] w (RetZ w z) := by
  obtain ⟨r, hr⟩ : ∃ r, x - z * y = r := ⟨_, rfl⟩
  have HDV := fun w' (hb : Below w.heap.size w w') => Lib.hid (zdivide_any a b c d K x y z r w' (h.next hb) (h'.next hb) hK hx hy hy0 hz hr)
  clear hr hz hx hy hy0 hK h h'
  generalize hsx : decide (x < 0) = sx at *
  generalize hX : dig 18446744073709551616 x.natAbs = X at *
  have HSX := Lib.hid hsx
  have HXE := Lib.hid hX
  clear hsx hX
  generalize hsy : decide (y < 0) = sy at *
  generalize hY : dig 18446744073709551616 y.natAbs = Y at *
  have HSY := Lib.hid hsy
  have HYE := Lib.hid hY
  clear hsy hY
  go_enter Try.func13, Try.ntmps13
  go_upto_region 2 with (go_at_call 47; refine (HDV _ (by (repeat' (first | exact Below.refl _ _ | refine Below.drew ?_ | refine Below.setCell ?_ (by first | omega | (simp <;> omega)) _ | refine Below.alloc ?_ (by first | omega | (simp <;> omega)) _)))).out.mono ?_; rintro e w4 ⟨a4, c4, b4, d4, rfl, hN4, hM4, hb4⟩; have X4 := NBox2.below (b := w.heap.size + 1 + 1) (v0 := .bool false) (v1 := .slice none 0 0) (by constructor <;> go_simp) hb4 (by first | omega | (simp <;> omega)); have HB4 : Hid (Below w.heap.size w w4) := Lib.hid (Below.trans (by (repeat' (first | exact Below.refl _ _ | refine Below.drew ?_ | refine Below.setCell ?_ (by first | omega | (simp <;> omega)) _ | refine Below.alloc ?_ (by first | omega | (simp <;> omega)) _))) (hb4.mono (by first | omega | (simp <;> omega)))); have hs4 := hb4.size; (try simp at hs4); have HN4 := Lib.hid hN4; have HX4 := Lib.hid X4; obtain ⟨k0, k1, k2, k3⟩ := X4)
  clear k0 k1 k2 k3
  have hb9 : Below w4.heap.size w4 ((w4.alloc (.cells #[.bool (decide (z < 0)), .slice a4 (dig 18446744073709551616 z.natAbs).length c4] 31)).alloc (.cells #[.bool (decide (r < 0)), .slice b4 (dig 18446744073709551616 r.natAbs).length d4] 31)) := ((Below.refl _ _).alloc (Nat.le_refl _) _).alloc (by simp) _
  have Y9 := (by constructor <;> go_simp : NBox2 ((w4.alloc (.cells #[.bool (decide (z < 0)), .slice a4 (dig 18446744073709551616 z.natAbs).length c4] 31)).alloc (.cells #[.bool (decide (r < 0)), .slice b4 (dig 18446744073709551616 r.natAbs).length d4] 31)) w4.heap.size (.bool (decide (z < 0))) (.slice a4 (dig 18446744073709551616 z.natAbs).length c4))
  have X9 := HX4.out.below hb9 (by omega)
  have HN9 := Lib.hid (HN4.out.next hb9)
  have HB9 := Lib.hid (HB4.out.trans (hb9.mono HB4.out.size))
  clear hb9
  generalize (w4.alloc (.cells #[.bool (decide (z < 0)), .slice a4 (dig 18446744073709551616 z.natAbs).length c4] 31)).alloc (.cells #[.bool (decide (r < 0)), .slice b4 (dig 18446744073709551616 r.natAbs).length d4] 31) = W9 at Y9 X9 HN9 HB9 ⊢
  have HX9 := Lib.hid X9
  obtain ⟨k0, k1, k2, k3⟩ := X9
  obtain ⟨m0, m1, m2, m3⟩ := Y9
  go_wp2
  refine bodyPost_ret (v := .agg #[.bool (decide ((z) < 0)), .slice a4 (dig 18446744073709551616 (z).natAbs).length c4]) (by rw [nres_c1 rfl]; go_simp) rfl ?_
  exact retZ_box (by omega) HN9.out HX9.out (by intro z h; cases h) (by intro z h; cases h) HB9.out _ _
set_option maxHeartbeats 8000000 in
set_option maxRecDepth 100000 in
theorem ref1Int_any (ah al : Int) (w : World) (hA : WR ah al) : Calls Try.prog 10 #[.agg #[.int .i64 ah, .int .u64 al]] w (RetZ w (V ah al)) := by
  obtain ⟨A0, A1, A2, A3⟩ := hA
  have HF := fun w => Lib.hid (zfrom_any ah w A0 A1)
  obtain ⟨L0, hL0⟩ : ∃ z : Int, ah * ((2 ^ 64 : Nat) : Int) = z := ⟨_, rfl⟩
  have hL1 : L0 = ah * 18446744073709551616 := by rw [← hL0]; rfl
  have HL := fun a c w hN => Lib.hid (zleft_any a c 64 ah L0 w hN (dig_word (by omega)) (by decide) hL0)
  have HO := fun w => Lib.hid (nof_any al ⟨A2, by omega⟩ w)
  have HM := fun a c w hN => Lib.hid (made_any false a c al.toNat w hN)
  have esg : sgnZ false al.toNat = al := by unfold sgnZ; rw [if_neg (by decide)]; omega
  rw [esg] at HM
  obtain ⟨z, hz⟩ : ∃ z, V ah al = z := ⟨_, rfl⟩
  have hz2 : L0 + al = z := by rw [← hz, hL1]; rfl
  rw [hz]
  have HP := fun a b c d w hN hM => Lib.hid (zplus_any a b c d L0 al z w hN hM (dig_word (by omega)) (dig_word (by omega)) hz2)
  clear hL0 hL1 esg hz hz2 A0 A1 A2 A3
  go_enter Try.func10, Try.ntmps10
  go_upto_region 1 with fail
  have Y0 := (by constructor <;> go_simp : NBox2 ((w.alloc (.cells #[.int .i64 ah, .int .u64 al] 25)).alloc (.cells #[.bool false, .slice none 0 0] 31)) w.heap.size (.int .i64 ah) (.int .u64 al))
  have X0 := (by constructor <;> go_simp : NBox2 ((w.alloc (.cells #[.int .i64 ah, .int .u64 al] 25)).alloc (.cells #[.bool false, .slice none 0 0] 31)) (w.heap.size + 1) (.bool false) (.slice none 0 0))
  have hB1 : Below w.heap.size w ((w.alloc (.cells #[.int .i64 ah, .int .u64 al] 25)).alloc (.cells #[.bool false, .slice none 0 0] 31)) := (by (repeat' (first | exact Below.refl _ _ | refine Below.drew ?_ | refine Below.setCell ?_ (by first | omega | (simp <;> omega)) _ | refine Below.alloc ?_ (by first | omega | (simp <;> omega)) _)))
  have hS1 : ((w.alloc (.cells #[.int .i64 ah, .int .u64 al] 25)).alloc (.cells #[.bool false, .slice none 0 0] 31)).heap.size = w.heap.size + 1 + 1 := by simp
  generalize hW1 : (w.alloc (.cells #[.int .i64 ah, .int .u64 al] 25)).alloc (.cells #[.bool false, .slice none 0 0] 31) = W1 at Y0 X0 hB1 hS1 ⊢
  clear hW1
  have HB1 := Lib.hid hB1
  clear hB1
  refine wp_region_parts2 (w := W1) 9 1 none [] [(fun u _ => u = .pointer (some ⟨w.heap.size, 0, none⟩)), (fun u _ => u = .int .i64 ah), ((IsZ (ah))), ((IsZ (L0))), (fun u _ => u = .pointer (some ⟨w.heap.size, 1, none⟩)), (fun u _ => u = .int .u64 al), ((IsN al.toNat)), ((IsZ (al))), ((IsZ (z)))] [some 3, some 4, some 5, some 6, some 7, some 8, some 9, some 10, some 11, none] #[true, true, true, true, true, true, true, true, true, false] #[true, true, true, true, true, true, true, true, true, false] (by kernel_rfl) rfl (by kernel_rfl) (by kernel_rfl) rfl (by kernel_rfl) (by kernel_rfl) (.cons (carries_eq _) (.cons (carries_eq _) (.cons (isZ_carries _) (.cons (isZ_carries _) (.cons (carries_eq _) (.cons (carries_eq _) (.cons (isN_carries _) (.cons (isZ_carries _) (.cons (isZ_carries _) .nil))))))))) (fun vs b hvl hvb => ?_)
  obtain ⟨x0, x1, x2, x3, x4, x5, x6, x7, x8, x9, rfl⟩ : ∃ x0 x1 x2 x3 x4 x5 x6 x7 x8 x9, vs = [x0, x1, x2, x3, x4, x5, x6, x7, x8, x9] := lst10 hvl
  clear hvl
  simp only [putAll, Act.put, List.setIfInBounds_toArray, List.set_cons_zero, List.set_cons_succ] at hvb
  subst hvb
  refine ⟨(.snoc (.snoc (.snoc (.snoc (.snoc (.snoc (.snoc (.snoc (.snoc .zero (PartOb.intro (d := (some 3)) (r := fun u _ => u = .pointer (some ⟨w.heap.size, 0, none⟩)) rfl rfl rfl rfl ?po1x0)) (PartOb.intro (d := (some 4)) (r := fun u _ => u = .int .i64 ah) rfl rfl rfl rfl ?po1x1)) (PartOb.intro (d := (some 5)) (r := (IsZ (ah))) rfl rfl rfl rfl ?po1x2)) (PartOb.intro (d := (some 6)) (r := (IsZ (L0))) rfl rfl rfl rfl ?po1x3)) (PartOb.intro (d := (some 7)) (r := fun u _ => u = .pointer (some ⟨w.heap.size, 1, none⟩)) rfl rfl rfl rfl ?po1x4)) (PartOb.intro (d := (some 8)) (r := fun u _ => u = .int .u64 al) rfl rfl rfl rfl ?po1x5)) (PartOb.intro (d := (some 9)) (r := (IsN al.toNat)) rfl rfl rfl rfl ?po1x6)) (PartOb.intro (d := (some 10)) (r := (IsZ (al))) rfl rfl rfl rfl ?po1x7)) (PartOb.intro (d := (some 11)) (r := (IsZ (z))) rfl rfl rfl rfl ?po1x8)), ?pend1, ?pfl1⟩
  case po1x0 =>
    intro w1 hb1 hd KK hK
    clear hd
    simp only [Act.put, List.setIfInBounds_toArray, List.set_cons_zero, List.set_cons_succ] at hK
    go_simp
    first | exact hK.out _ _ (Below.refl _ _) rfl | (have hk := hK.out _ _ (Below.refl _ _) rfl; revert hk; go_simp)
  case po1x1 =>
    intro w1 hb1 hd KK hK
    have d0 : x0 = .pointer (some ⟨w.heap.size, 0, none⟩) := hd 0 (by kernel_rfl)
    clear hd
    subst d0
    obtain ⟨q0, q1, q2, q3⟩ := Y0.below hb1 (by omega)
    simp only [Act.put, List.setIfInBounds_toArray, List.set_cons_zero, List.set_cons_succ] at hK
    go_simp
    first | exact hK.out _ _ (Below.refl _ _) rfl | (have hk := hK.out _ _ (Below.refl _ _) rfl; revert hk; go_simp)
  case po1x2 =>
    intro w1 hb1 hd KK hK
    have d1 : x1 = .int .i64 ah := hd 1 (by kernel_rfl)
    clear hd
    subst d1
    simp only [Act.put, List.setIfInBounds_toArray, List.set_cons_zero, List.set_cons_succ] at hK
    go_simp
    go_at_call 22
    refine (HF _).out.mono ?_
    rintro e w2 ⟨a2, c2, rfl, hN2, hb2⟩
    (try go_wp2_with fail)
    first | exact hK.out _ _ hb2 ⟨a2, c2, rfl, hN2⟩ | (have hk := hK.out _ _ hb2 ⟨a2, c2, rfl, hN2⟩; revert hk; go_simp)
  case po1x3 =>
    intro w1 hb1 hd KK hK
    have d2 : (IsZ (ah)) x2 w1 := hd 2 (by kernel_rfl)
    clear hd
    obtain ⟨a2x, e2x, rfl, hN2⟩ := d2
    simp only [Act.put, List.setIfInBounds_toArray, List.set_cons_zero, List.set_cons_succ] at hK
    go_simp
    go_at_call 24
    refine (HL _ _ w1 hN2).out.mono ?_
    rintro e w2 ⟨a2, c2, rfl, hN2, hb2⟩
    (try go_wp2_with fail)
    first | exact hK.out _ _ hb2 ⟨a2, c2, rfl, hN2⟩ | (have hk := hK.out _ _ hb2 ⟨a2, c2, rfl, hN2⟩; revert hk; go_simp)
  case po1x4 =>
    intro w1 hb1 hd KK hK
    clear hd
    simp only [Act.put, List.setIfInBounds_toArray, List.set_cons_zero, List.set_cons_succ] at hK
    go_simp
    first | exact hK.out _ _ (Below.refl _ _) rfl | (have hk := hK.out _ _ (Below.refl _ _) rfl; revert hk; go_simp)
  case po1x5 =>
    intro w1 hb1 hd KK hK
    have d4 : x4 = .pointer (some ⟨w.heap.size, 1, none⟩) := hd 4 (by kernel_rfl)
    clear hd
    subst d4
    obtain ⟨q0, q1, q2, q3⟩ := Y0.below hb1 (by omega)
    simp only [Act.put, List.setIfInBounds_toArray, List.set_cons_zero, List.set_cons_succ] at hK
    go_simp
    first | exact hK.out _ _ (Below.refl _ _) rfl | (have hk := hK.out _ _ (Below.refl _ _) rfl; revert hk; go_simp)
  case po1x6 =>
    intro w1 hb1 hd KK hK
    have d3 : (IsZ (L0)) x3 w1 := hd 3 (by kernel_rfl)
    have d5 : x5 = .int .u64 al := hd 5 (by kernel_rfl)
    clear hd
    obtain ⟨a3x, e3x, rfl, hN3⟩ := d3
    subst d5
    simp only [Act.put, List.setIfInBounds_toArray, List.set_cons_zero, List.set_cons_succ] at hK
    go_simp
    go_at_call 44
    refine (HO _).out.mono ?_
    rintro e w2 ⟨a2, c2, rfl, hN2, hb2⟩
    (try go_wp2_with fail)
    first | exact hK.out _ _ hb2 ⟨a2, c2, rfl, hN2⟩ | (have hk := hK.out _ _ hb2 ⟨a2, c2, rfl, hN2⟩; revert hk; go_simp)
  case po1x7 =>
    intro w1 hb1 hd KK hK
    have d6 : (IsN al.toNat) x6 w1 := hd 6 (by kernel_rfl)
    clear hd
    obtain ⟨a6x, e6x, rfl, hN6⟩ := d6
    simp only [Act.put, List.setIfInBounds_toArray, List.set_cons_zero, List.set_cons_succ] at hK
    go_simp
    go_at_call 43
    refine (HM _ _ w1 hN6).out.mono ?_
    rintro e w2 ⟨a2, c2, rfl, hN2, hb2⟩
    (try go_wp2_with fail)
    first | exact hK.out _ _ hb2 ⟨a2, c2, rfl, hN2⟩ | (have hk := hK.out _ _ hb2 ⟨a2, c2, rfl, hN2⟩; revert hk; go_simp)
  case po1x8 =>
    intro w1 hb1 hd KK hK
    have d3 : (IsZ (L0)) x3 w1 := hd 3 (by kernel_rfl)
    have d7 : (IsZ (al)) x7 w1 := hd 7 (by kernel_rfl)
    clear hd
    obtain ⟨a3x, e3x, rfl, hN3⟩ := d3
    obtain ⟨a7x, e7x, rfl, hN7⟩ := d7
    simp only [Act.put, List.setIfInBounds_toArray, List.set_cons_zero, List.set_cons_succ] at hK
    go_simp
    go_at_call 37
    refine (HP _ _ _ _ w1 hN3 hN7).out.mono ?_
    rintro e w2 ⟨a2, c2, rfl, hN2, hb2⟩
    (try go_wp2_with fail)
    first | exact hK.out _ _ hb2 ⟨a2, c2, rfl, hN2⟩ | (have hk := hK.out _ _ hb2 ⟨a2, c2, rfl, hN2⟩; revert hk; go_simp)
  case pfl1 => (intro f hf; cases hf)
  case pend1 =>
  intro w1 hb1 hR hD
  have d0 : x0 = .pointer (some ⟨w.heap.size, 0, none⟩) := hR 0 (by decide)
  have d1 : x1 = .int .i64 ah := hR 1 (by decide)
  have d2 : (IsZ (ah)) x2 w1 := hR 2 (by decide)
  have d3 : (IsZ (L0)) x3 w1 := hR 3 (by decide)
  have d4 : x4 = .pointer (some ⟨w.heap.size, 1, none⟩) := hR 4 (by decide)
  have d5 : x5 = .int .u64 al := hR 5 (by decide)
  have d6 : (IsN al.toNat) x6 w1 := hR 6 (by decide)
  have d7 : (IsZ (al)) x7 w1 := hR 7 (by decide)
  have d8 : (IsZ (z)) x8 w1 := hR 8 (by decide)
  clear hR hD
  subst d0
  subst d1
  obtain ⟨a2x, e2x, rfl, hN2⟩ := d2
  obtain ⟨a3x, e3x, rfl, hN3⟩ := d3
  subst d4
  subst d5
  obtain ⟨a6x, e6x, rfl, hN6⟩ := d6
  obtain ⟨a7x, e7x, rfl, hN7⟩ := d7
  obtain ⟨a8x, e8x, rfl, hN8⟩ := d8
  refine wpAny_ready (rs := [9]) (by kernel_rfl) (by simp) (AllReady.cons rfl (fun KK hK => ?_) AllReady.nil)
  have HX9 := Lib.hid (X0.below hb1 (by omega))
  obtain ⟨m0, m1, m2, m3⟩ := HX9.out
  go_simp
  refine hK _ _ ?_
  clear hK KK
  try simp only [putAll, Act.put, List.setIfInBounds_toArray, List.set_cons_zero, List.set_cons_succ]
  refine wpAny_done (by kernel_rfl) ?_ _
  have HN9 := Lib.hid hN8
  have HB9 := Lib.hid (HB1.out.trans (hb1.mono HB1.out.size))
  go_wp2
  refine bodyPost_ret (v := .agg #[.bool (decide ((z) < 0)), .slice a8x (dig 18446744073709551616 (z).natAbs).length e8x]) (by rw [nres_c1 rfl]; go_simp) rfl ?_
  exact retZ_box (by omega) HN9.out HX9.out (by intro z h; cases h) (by intro z h; cases h) HB9.out _ _
end Go.Proofs.Ytlbmpdidmckgkaa
