/- Walks: wide.Mul. -/
import Derived.Test.YtlbmpdidmckgkaaWide8
set_option linter.unusedVariables false
set_option linter.unusedSimpArgs false
namespace Go.Proofs.Ytlbmpdidmckgkaa
open Go.RowKit Go.Rt

theorem abs_mul (x y : Int) : (if (decide (x < 0) != decide (y < 0)) = true then -(absI x * absI y) else absI x * absI y) = x * y := by
  unfold absI
  by_cases hx : x < 0 <;> by_cases hy : y < 0 <;> simp [hx, hy, Int.neg_mul, Int.mul_neg]
theorem abs_bounds (x : Int) (h0 : -9223372036854775808 ≤ x) (h1 : x ≤ 9223372036854775807) : 0 ≤ absI x ∧ absI x ≤ 9223372036854775808 := by unfold absI; split <;> omega
theorem abs_mul_bounds (x y : Int) (h0 : -9223372036854775808 ≤ x) (h1 : x ≤ 9223372036854775807) (k0 : -9223372036854775808 ≤ y) (k1 : y ≤ 9223372036854775807) :
    0 ≤ absI x * absI y ∧ absI x * absI y ≤ 85070591730234615865843651857942052864 := by
  obtain ⟨a, b⟩ := abs_bounds x h0 h1
  obtain ⟨c, d⟩ := abs_bounds y k0 k1
  exact ⟨Int.mul_nonneg a c, Int.le_trans (Int.mul_le_mul b d c (by omega)) (by omega)⟩
theorem mul_inR (x y : Int) (h0 : -9223372036854775808 ≤ x) (h1 : x ≤ 9223372036854775807) (k0 : -9223372036854775808 ≤ y) (k1 : y ≤ 9223372036854775807) :
    -85070591730234615865843651857942052864 ≤ x * y ∧ x * y ≤ 85070591730234615865843651857942052864 := by
  have h := abs_mul_bounds x y h0 h1 k0 k1
  have e := abs_mul x y
  split at e <;> omega

theorem mul_any (x y : Int) (w : World) (h0 : -9223372036854775808 ≤ x) (h1 : x ≤ 9223372036854775807) (k0 : -9223372036854775808 ≤ y) (k1 : y ≤ 9223372036854775807) :
    Calls Try.prog 36 #[.int .i64 x, .int .i64 y] w (RetW w (x * y / 18446744073709551616) (x * y % 18446744073709551616)) := by
  have hb := abs_mul_bounds x y h0 h1 k0 k1
  have hx := abs_bounds x h0 h1
  have hy := abs_bounds y k0 k1
  have hax := fun w => Lib.hid (abs_any x w h0 h1)
  have hay := fun w => Lib.hid (abs_any y w k0 k1)
  have hm := fun w => Lib.hid (mul64_any (absI x) (absI y) w hx.1 (by omega) hy.1 (by omega))
  have ht := fun w => Lib.hid (told_in (decide (x < 0) != decide (y < 0)) (absI x * absI y) w hb.1 (by split <;> omega))
  rw [abs_mul] at ht
  obtain ⟨AX, hAX⟩ : ∃ q, absI x = q := ⟨_, rfl⟩
  obtain ⟨AY, hAY⟩ : ∃ q, absI y = q := ⟨_, rfl⟩
  rw [hAX, hAY] at hm ht
  rw [hAX] at hax
  rw [hAY] at hay
  obtain ⟨P1, hP1⟩ : ∃ q, AX * AY / 18446744073709551616 = q := ⟨_, rfl⟩
  obtain ⟨P2, hP2⟩ : ∃ q, AX * AY % 18446744073709551616 = q := ⟨_, rfl⟩
  obtain ⟨H, hH⟩ : ∃ q, x * y / 18446744073709551616 = q := ⟨_, rfl⟩
  obtain ⟨L, hL⟩ : ∃ q, x * y % 18446744073709551616 = q := ⟨_, rfl⟩
  rw [hP1, hP2] at hm ht
  rw [hH, hL] at ht
  rw [hH, hL]
  clear hb hx hy hAX hAY hP1 hP2 hH hL
  obtain ⟨NG, hNG⟩ : ∃ q, (decide (x < 0) != decide (y < 0)) = q := ⟨_, rfl⟩
  rw [hNG] at ht
  obtain ⟨n1, hn1⟩ : ∃ q, decide (x < 0) = q := ⟨_, rfl⟩
  obtain ⟨n2, hn2⟩ : ∃ q, decide (y < 0) = q := ⟨_, rfl⟩
  rw [hn1, hn2] at hNG
  have hNG2 : (!(n1 == n2)) = NG := hNG
  have M1 := True.intro
  go_enter Try.func36, Try.ntmps36
  go_wp2_with (first
    | (go_at_call 63; have hmk := M1; clear hmk M1; go_loud (refine (hax _).out.mono ?_; rintro e w1 ⟨rfl, hb⟩; have HB1 := Lib.hid hb; have hs1 := hb.size; (try simp at hs1); have X := Box2.below (b := w.heap.size) (v0 := .int .i64 0) (v1 := .int .u64 0) (by constructor <;> go_simp) hb (by first | omega | (simp <;> omega)); have HX1 := Lib.hid X; clear hb X))
    | (go_at_call 63; go_loud (refine (hay _).out.mono ?_; rintro e w2 ⟨rfl, hb⟩; have HB2 := Lib.hid hb; have hs2 := hb.size; (try simp at hs2); have HX2 := Lib.hid (HX1.out.below hb (by first | omega | (simp <;> omega))); clear hb))
    | (go_at_call 62; go_loud (refine (hm _).out.mono ?_; rintro e w3 ⟨rfl, hb⟩; have HB3 := Lib.hid hb; have hs3 := hb.size; (try simp at hs3); have HX3 := Lib.hid (HX2.out.below hb (by first | omega | (simp <;> omega))); clear hb))
    | (go_at_call 60; go_loud (refine (ht _).out.mono ?_; rintro e w4 ⟨rfl, hb⟩; have HB4 := Lib.hid hb; have hs4 := hb.size; (try simp at hs4); have X := HX3.out.below hb (by first | omega | (simp <;> omega)); obtain ⟨xc0, xc1, xf0, xf1⟩ := X; have hl : w.heap.size < w4.heap.size := (by omega); have hl2 : ¬ w.heap.size = w4.heap.size := (by omega); have hl3 : ¬ w4.heap.size = w.heap.size := (by omega); clear hb)))
  (try simp only [Exit.inBlock, Exit.then])
  refine bodyPost_ret (v := .agg #[.int .i64 H, .int .u64 L]) (by rw [results_c1 rfl]; go_simp) rfl ⟨rfl, ?_⟩
  have hT : Below w.heap.size w w4 := Below.trans (by (repeat' (first | exact Below.refl _ _ | refine Below.drew ?_ | refine Below.setCell ?_ (by first | omega | (simp <;> omega)) _ | refine Below.alloc ?_ (by first | omega | (simp <;> omega)) _))) (Below.trans (HB1.out.mono (B' := w.heap.size) (by first | omega | (simp <;> omega))) (Below.trans (HB2.out.mono (B' := w.heap.size) (by first | omega | (simp <;> omega))) (Below.trans (HB3.out.mono (B' := w.heap.size) (by first | omega | (simp <;> omega))) (HB4.out.mono (B' := w.heap.size) (by first | omega | (simp <;> omega))))))
  repeat' (first | exact hT | refine Below.setCell ?_ (by first | omega | (simp <;> omega)) _ | refine Below.alloc ?_ (by first | omega | (simp <;> omega)) _)
end Go.Proofs.Ytlbmpdidmckgkaa
