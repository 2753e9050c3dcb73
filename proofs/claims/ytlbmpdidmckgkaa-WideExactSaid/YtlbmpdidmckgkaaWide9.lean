/- Walks: products of words. -/
import Derived.Test.YtlbmpdidmckgkaaWide7
set_option linter.unusedVariables false
set_option linter.unusedSimpArgs false
namespace Go.Proofs.Ytlbmpdidmckgkaa
open Go.RowKit Go.Rt

def absI (x : Int) : Int := if x < 0 then -x else x
theorem abs_any (x : Int) (w : World) (h0 : -9223372036854775808 ≤ x) (h1 : x ≤ 9223372036854775807) :
    Calls Try.prog 63 #[.int .i64 x] w fun e w' => e = .returned (.int .u64 (absI x)) ∧ Below w.heap.size w w' := by
  by_cases hx : x < 0
  · have e1 : IntKind.u64.wrap x = x + 18446744073709551616 := by rw [wrapU]; omega
    have e2 : IntKind.u64.wrap (-(x + 18446744073709551616)) = -x := by rw [wrapU]; omega
    have e3 : absI x = -x := by unfold absI; rw [if_pos hx]
    rw [e3]
    go_enter Try.func63, Try.ntmps63
    go_wp2
    go_ret
    exact ⟨ret_int (by omega), Below.refl _ _⟩
  · have e1 : IntKind.u64.wrap x = x := by rw [wrapU]; omega
    have e3 : absI x = x := by unfold absI; rw [if_neg hx]
    rw [e3]
    go_enter Try.func63, Try.ntmps63
    go_wp2
    go_ret
    exact ⟨ret_int (by omega), Below.refl _ _⟩

/-- The arithmetic of Mul64: halves of 32 bits. -/
theorem mul_halves (a b c d : Int) (ha : 0 ≤ a ∧ a ≤ 4294967295) (hb : 0 ≤ b ∧ b ≤ 4294967295) (hc : 0 ≤ c ∧ c ≤ 4294967295) (hd : 0 ≤ d ∧ d ≤ 4294967295) :
    (0 ≤ a * c ∧ a * c ≤ 18446744065119617025) ∧ (0 ≤ a * d ∧ a * d ≤ 18446744065119617025) ∧ (0 ≤ b * c ∧ b * c ≤ 18446744065119617025) ∧ (0 ≤ b * d ∧ b * d ≤ 18446744065119617025) := by
  have h : ∀ x y : Int, (0 ≤ x ∧ x ≤ 4294967295) → (0 ≤ y ∧ y ≤ 4294967295) → 0 ≤ x * y ∧ x * y ≤ 18446744065119617025 := fun x y hx hy =>
    ⟨Int.mul_nonneg hx.1 hy.1, Int.le_trans (Int.mul_le_mul hx.2 hy.2 hy.1 (by omega)) (by omega)⟩
  exact ⟨h a c ha hc, h a d ha hd, h b c hb hc, h b d hb hd⟩

theorem mul64_any (x y : Int) (w : World) (x0 : 0 ≤ x) (x1 : x ≤ 18446744073709551615) (y0 : 0 ≤ y) (y1 : y ≤ 18446744073709551615) :
    Calls Try.prog 62 #[.int .u64 x, .int .u64 y] w fun e w' => e = .returned (.tuple #[.int .u64 (x * y / 18446744073709551616), .int .u64 (x * y % 18446744073709551616)]) ∧ Below w.heap.size w w' := by
  have m1 : bits BinOp.and IntKind.u64 x 4294967295 = x % 4294967296 := bits_mask IntKind.u64 64 (by decide) (fun n h0 h1 => by rw [wrapU]; omega) 32 (by omega) x x0 (by omega)
  have m2 : bits BinOp.and IntKind.u64 y 4294967295 = y % 4294967296 := bits_mask IntKind.u64 64 (by decide) (fun n h0 h1 => by rw [wrapU]; omega) 32 (by omega) y y0 (by omega)
  obtain ⟨a, ha⟩ : ∃ q, x % 4294967296 = q := ⟨_, rfl⟩
  obtain ⟨b, hb⟩ : ∃ q, x / 4294967296 = q := ⟨_, rfl⟩
  obtain ⟨c, hc⟩ : ∃ q, y % 4294967296 = q := ⟨_, rfl⟩
  obtain ⟨d, hd⟩ : ∃ q, y / 4294967296 = q := ⟨_, rfl⟩
  rw [ha] at m1
  rw [hc] at m2
  have hxa : x = b * 4294967296 + a := by omega
  have hyc : y = d * 4294967296 + c := by omega
  have hxy : x * y = b * d * 18446744073709551616 + (a * d + b * c) * 4294967296 + a * c := by
    rw [hxa, hyc, Int.add_mul, Int.mul_add, Int.mul_add]
    have e1 : b * 4294967296 * (d * 4294967296) = b * d * 18446744073709551616 := by rw [Int.mul_assoc, Int.mul_left_comm 4294967296, ← Int.mul_assoc]; rfl
    have e2 : b * 4294967296 * c = b * c * 4294967296 := by rw [Int.mul_assoc, Int.mul_comm 4294967296, ← Int.mul_assoc]
    have e3 : a * (d * 4294967296) = a * d * 4294967296 := by rw [Int.mul_assoc]
    rw [e1, e2, e3]
    omega
  obtain ⟨⟨ac0, ac1⟩, ⟨ad0, ad1⟩, ⟨bc0, bc1⟩, ⟨bd0, bd1⟩⟩ := mul_halves a b c d (by omega) (by omega) (by omega) (by omega)
  obtain ⟨P, hP⟩ : ∃ q, x * y = q := ⟨_, rfl⟩
  rw [hP] at hxy
  obtain ⟨AC, hAC⟩ : ∃ q, a * c = q := ⟨_, rfl⟩
  obtain ⟨AD, hAD⟩ : ∃ q, a * d = q := ⟨_, rfl⟩
  obtain ⟨BC, hBC⟩ : ∃ q, b * c = q := ⟨_, rfl⟩
  obtain ⟨BD, hBD⟩ : ∃ q, b * d = q := ⟨_, rfl⟩
  rw [hAC] at hxy ac0 ac1
  rw [hAD] at hxy ad0 ad1
  rw [hBC] at hxy bc0 bc1
  rw [hBD] at hxy bd0 bd1
  rw [hP]
  have w1 : IntKind.u64.wrap AC = AC := by rw [wrapU]; omega
  have w2 : IntKind.u64.wrap BC = BC := by rw [wrapU]; omega
  have w3 : IntKind.u64.wrap AD = AD := by rw [wrapU]; omega
  have w4 : IntKind.u64.wrap BD = BD := by rw [wrapU]; omega
  obtain ⟨T, hT⟩ : ∃ q, BC + AC / 4294967296 = q := ⟨_, rfl⟩
  have w5 : IntKind.u64.wrap T = T := by rw [wrapU]; omega
  have t0 : 0 ≤ T := by omega
  have m3 : bits BinOp.and IntKind.u64 T 4294967295 = T % 4294967296 := bits_mask IntKind.u64 64 (by decide) (fun n h0 h1 => by rw [wrapU]; omega) 32 (by omega) T t0 (by omega)
  obtain ⟨W1, hW1⟩ : ∃ q, T % 4294967296 + AD = q := ⟨_, rfl⟩
  have w6 : IntKind.u64.wrap W1 = W1 := by rw [wrapU]; omega
  have v0 : 0 ≤ W1 := by omega
  have w7 : IntKind.u64.wrap (BD + T / 4294967296) = BD + T / 4294967296 := by rw [wrapU]; omega
  have w8 : IntKind.u64.wrap (BD + T / 4294967296 + W1 / 4294967296) = P / 18446744073709551616 := by rw [wrapU]; omega
  have w9 : IntKind.u64.wrap P = P % 18446744073709551616 := wrapU P
  clear ha hc hxa hyc hxy
  go_enter Try.func62, Try.ntmps62
  go_wp2
  exact bodyPost_ret (by rw [results_tmp2 rfl]; go_simp <;> omega) rfl ⟨rfl, Below.refl _ _⟩
end Go.Proofs.Ytlbmpdidmckgkaa
/- Walks: wide.Mul. -/
set_option linter.unusedVariables false
set_option linter.unusedSimpArgs false
namespace Go.Proofs.Ytlbmpdidmckgkaa
open Go.RowKit Go.Rt

theorem abs_mul (x y : Int) : (if (decide (x < 0) != decide (y < 0)) = true then -(absI x * absI y) else absI x * absI y) = x * y := by
  unfold absI
  by_cases hx : x < 0 <;> by_cases hy : y < 0 <;> simp [hx, hy, Int.neg_mul, Int.mul_neg]
theorem abs_bounds (x : Int) (h0 : -9223372036854775808 ≤ x) (h1 : x ≤ 9223372036854775807) : 0 ≤ absI x ∧ absI x ≤ 9223372036854775808 := by unfold absI; split <;> omega
theorem abs_mul_bounds (x y : Int) (h0 : -9223372036854775808 ≤ x) (h1 : x ≤ 9223372036854775807) (k0 : -9223372036854775808 ≤ y) (k1 : y ≤ 9223372036854775807) :
    0 ≤ absI x * absI y ∧ absI x * absI y ≤ 85070591730234615865843651857942052864 := by
  obtain ⟨a, b⟩ := abs_bounds x h0 h1
  obtain ⟨c, d⟩ := abs_bounds y k0 k1
  exact ⟨Int.mul_nonneg a c, Int.le_trans (Int.mul_le_mul b d c (by omega)) (by omega)⟩
theorem mul_inR (x y : Int) (h0 : -9223372036854775808 ≤ x) (h1 : x ≤ 9223372036854775807) (k0 : -9223372036854775808 ≤ y) (k1 : y ≤ 9223372036854775807) :
    -85070591730234615865843651857942052864 ≤ x * y ∧ x * y ≤ 85070591730234615865843651857942052864 := by
  have h := abs_mul_bounds x y h0 h1 k0 k1
  have e := abs_mul x y
  split at e <;> omega

theorem mul_any (x y : Int) (w : World) (h0 : -9223372036854775808 ≤ x) (h1 : x ≤ 9223372036854775807) (k0 : -9223372036854775808 ≤ y) (k1 : y ≤ 9223372036854775807) :
    Calls Try.prog 36 #[.int .i64 x, .int .i64 y] w (RetW w (x * y / 18446744073709551616) (x * y % 18446744073709551616)) := by
  have hb := abs_mul_bounds x y h0 h1 k0 k1
  have hx := abs_bounds x h0 h1
  have hy := abs_bounds y k0 k1
  have hax := fun w => Lib.hid (abs_any x w h0 h1)
  have hay := fun w => Lib.hid (abs_any y w k0 k1)
  have hm := fun w => Lib.hid (mul64_any (absI x) (absI y) w hx.1 (by omega) hy.1 (by omega))
  have ht := fun w => Lib.hid (told_in (decide (x < 0) != decide (y < 0)) (absI x * absI y) w hb.1 (by split <;> omega))
  rw [abs_mul] at ht
  obtain ⟨AX, hAX⟩ : ∃ q, absI x = q := ⟨_, rfl⟩
  obtain ⟨AY, hAY⟩ : ∃ q, absI y = q := ⟨_, rfl⟩
  rw [hAX, hAY] at hm ht
  rw [hAX] at hax
  rw [hAY] at hay
  obtain ⟨P1, hP1⟩ : ∃ q, AX * AY / 18446744073709551616 = q := ⟨_, rfl⟩
  obtain ⟨P2, hP2⟩ : ∃ q, AX * AY % 18446744073709551616 = q := ⟨_, rfl⟩
  obtain ⟨H, hH⟩ : ∃ q, x * y / 18446744073709551616 = q := ⟨_, rfl⟩
  obtain ⟨L, hL⟩ : ∃ q, x * y % 18446744073709551616 = q := ⟨_, rfl⟩
  rw [hP1, hP2] at hm ht
  rw [hH, hL] at ht
  rw [hH, hL]
  clear hb hx hy hAX hAY hP1 hP2 hH hL
  obtain ⟨NG, hNG⟩ : ∃ q, (decide (x < 0) != decide (y < 0)) = q := ⟨_, rfl⟩
  rw [hNG] at ht
  obtain ⟨n1, hn1⟩ : ∃ q, decide (x < 0) = q := ⟨_, rfl⟩
  obtain ⟨n2, hn2⟩ : ∃ q, decide (y < 0) = q := ⟨_, rfl⟩
  rw [hn1, hn2] at hNG
  have hNG2 : (!(n1 == n2)) = NG := hNG
  have M1 := True.intro
  go_enter Try.func36, Try.ntmps36
  go_wp2_with (first
    | (go_at_call 63; have hmk := M1; clear hmk M1; go_loud (refine (hax _).out.mono ?_; rintro e w1 ⟨rfl, hb⟩; have HB1 := Lib.hid hb; have hs1 := hb.size; (try simp at hs1); have X := Box2.below (b := w.heap.size) (v0 := .int .i64 0) (v1 := .int .u64 0) (by constructor <;> go_simp) hb (by first | omega | (simp <;> omega)); have HX1 := Lib.hid X; clear hb X))
    | (go_at_call 63; go_loud (refine (hay _).out.mono ?_; rintro e w2 ⟨rfl, hb⟩; have HB2 := Lib.hid hb; have hs2 := hb.size; (try simp at hs2); have HX2 := Lib.hid (HX1.out.below hb (by first | omega | (simp <;> omega))); clear hb))
    | (go_at_call 62; go_loud (refine (hm _).out.mono ?_; rintro e w3 ⟨rfl, hb⟩; have HB3 := Lib.hid hb; have hs3 := hb.size; (try simp at hs3); have HX3 := Lib.hid (HX2.out.below hb (by first | omega | (simp <;> omega))); clear hb))
    | (go_at_call 60; go_loud (refine (ht _).out.mono ?_; rintro e w4 ⟨rfl, hb⟩; have HB4 := Lib.hid hb; have hs4 := hb.size; (try simp at hs4); have X := HX3.out.below hb (by first | omega | (simp <;> omega)); obtain ⟨xc0, xc1, xf0, xf1⟩ := X; have hl : w.heap.size < w4.heap.size := (by omega); have hl2 : ¬ w.heap.size = w4.heap.size := (by omega); have hl3 : ¬ w4.heap.size = w.heap.size := (by omega); clear hb)))
  (try simp only [Exit.inBlock, Exit.then])
  refine bodyPost_ret (v := .agg #[.int .i64 H, .int .u64 L]) (by rw [results_c1 rfl]; go_simp) rfl ⟨rfl, ?_⟩
  have hT : Below w.heap.size w w4 := Below.trans (by (repeat' (first | exact Below.refl _ _ | refine Below.drew ?_ | refine Below.setCell ?_ (by first | omega | (simp <;> omega)) _ | refine Below.alloc ?_ (by first | omega | (simp <;> omega)) _))) (Below.trans (HB1.out.mono (B' := w.heap.size) (by first | omega | (simp <;> omega))) (Below.trans (HB2.out.mono (B' := w.heap.size) (by first | omega | (simp <;> omega))) (Below.trans (HB3.out.mono (B' := w.heap.size) (by first | omega | (simp <;> omega))) (HB4.out.mono (B' := w.heap.size) (by first | omega | (simp <;> omega))))))
  repeat' (first | exact hT | refine Below.setCell ?_ (by first | omega | (simp <;> omega)) _ | refine Below.alloc ?_ (by first | omega | (simp <;> omega)) _)
end Go.Proofs.Ytlbmpdidmckgkaa
