/- Walks: products of words. -/
import Derived.Test.YtlbmpdidmckgkaaWide7
set_option linter.unusedVariables false
set_option linter.unusedSimpArgs false
namespace Go.Proofs.Ytlbmpdidmckgkaa
open Go.RowKit Go.Rt

def absI (x : Int) : Int := if x < 0 then -x else x
theorem abs_any (x : Int) (w : World) (h0 : -9223372036854775808 ≤ x) (h1 : x ≤ 9223372036854775807) :
    Calls Try.prog 63 #[.int .i64 x] w fun e w' => e = .returned (.int .u64 (absI x)) ∧ Below w.heap.size w w' := by
  by_cases hx : x < 0
  · have e1 : IntKind.u64.wrap x = x + 18446744073709551616 := by rw [wrapU]; omega
    have e2 : IntKind.u64.wrap (-(x + 18446744073709551616)) = -x := by rw [wrapU]; omega
    have e3 : absI x = -x := by unfold absI; rw [if_pos hx]
    rw [e3]
    go_enter Try.func63, Try.ntmps63
    go_wp2
    go_ret
    exact ⟨ret_int (by omega), Below.refl _ _⟩
  · have e1 : IntKind.u64.wrap x = x := by rw [wrapU]; omega
    have e3 : absI x = x := by unfold absI; rw [if_neg hx]
    rw [e3]
    go_enter Try.func63, Try.ntmps63
    go_wp2
    go_ret
    exact ⟨ret_int (by omega), Below.refl _ _⟩

/-- The arithmetic of Mul64: halves of 32 bits. -/
theorem mul_halves (a b c d : Int) (ha : 0 ≤ a ∧ a ≤ 4294967295) (hb : 0 ≤ b ∧ b ≤ 4294967295) (hc : 0 ≤ c ∧ c ≤ 4294967295) (hd : 0 ≤ d ∧ d ≤ 4294967295) :
    (0 ≤ a * c ∧ a * c ≤ 18446744065119617025) ∧ (0 ≤ a * d ∧ a * d ≤ 18446744065119617025) ∧ (0 ≤ b * c ∧ b * c ≤ 18446744065119617025) ∧ (0 ≤ b * d ∧ b * d ≤ 18446744065119617025) := by
  have h : ∀ x y : Int, (0 ≤ x ∧ x ≤ 4294967295) → (0 ≤ y ∧ y ≤ 4294967295) → 0 ≤ x * y ∧ x * y ≤ 18446744065119617025 := fun x y hx hy =>
    ⟨Int.mul_nonneg hx.1 hy.1, Int.le_trans (Int.mul_le_mul hx.2 hy.2 hy.1 (by omega)) (by omega)⟩
  exact ⟨h a c ha hc, h a d ha hd, h b c hb hc, h b d hb hd⟩

theorem mul64_any (x y : Int) (w : World) (x0 : 0 ≤ x) (x1 : x ≤ 18446744073709551615) (y0 : 0 ≤ y) (y1 : y ≤ 18446744073709551615) :
    Calls Try.prog 62 #[.int .u64 x, .int .u64 y] w fun e w' => e = .returned (.tuple #[.int .u64 (x * y / 18446744073709551616), .int .u64 (x * y % 18446744073709551616)]) ∧ Below w.heap.size w w' := by
  have m1 : bits BinOp.and IntKind.u64 x 4294967295 = x % 4294967296 := bits_mask IntKind.u64 64 (by decide) (fun n h0 h1 => by rw [wrapU]; omega) 32 (by omega) x x0 (by omega)
  have m2 : bits BinOp.and IntKind.u64 y 4294967295 = y % 4294967296 := bits_mask IntKind.u64 64 (by decide) (fun n h0 h1 => by rw [wrapU]; omega) 32 (by omega) y y0 (by omega)
  obtain ⟨a, ha⟩ : ∃ q, x % 4294967296 = q := ⟨_, rfl⟩
  obtain ⟨b, hb⟩ : ∃ q, x / 4294967296 = q := ⟨_, rfl⟩
  obtain ⟨c, hc⟩ : ∃ q, y % 4294967296 = q := ⟨_, rfl⟩
  obtain ⟨d, hd⟩ : ∃ q, y / 4294967296 = q := ⟨_, rfl⟩
  rw [ha] at m1
  rw [hc] at m2
  have hxa : x = b * 4294967296 + a := by omega
  have hyc : y = d * 4294967296 + c := by omega
  have hxy : x * y = b * d * 18446744073709551616 + (a * d + b * c) * 4294967296 + a * c := by
    rw [hxa, hyc, Int.add_mul, Int.mul_add, Int.mul_add]
    have e1 : b * 4294967296 * (d * 4294967296) = b * d * 18446744073709551616 := by rw [Int.mul_assoc, Int.mul_left_comm 4294967296, ← Int.mul_assoc]; rfl
    have e2 : b * 4294967296 * c = b * c * 4294967296 := by rw [Int.mul_assoc, Int.mul_comm 4294967296, ← Int.mul_assoc]
    have e3 : a * (d * 4294967296) = a * d * 4294967296 := by rw [Int.mul_assoc]
    rw [e1, e2, e3]
    omega
  obtain ⟨⟨ac0, ac1⟩, ⟨ad0, ad1⟩, ⟨bc0, bc1⟩, ⟨bd0, bd1⟩⟩ := mul_halves a b c d (by omega) (by omega) (by omega) (by omega)
  obtain ⟨P, hP⟩ : ∃ q, x * y = q := ⟨_, rfl⟩
  rw [hP] at hxy
  obtain ⟨AC, hAC⟩ : ∃ q, a * c = q := ⟨_, rfl⟩
  obtain ⟨AD, hAD⟩ : ∃ q, a * d = q := ⟨_, rfl⟩
  obtain ⟨BC, hBC⟩ : ∃ q, b * c = q := ⟨_, rfl⟩
  obtain ⟨BD, hBD⟩ : ∃ q, b * d = q := ⟨_, rfl⟩
  rw [hAC] at hxy ac0 ac1
  rw [hAD] at hxy ad0 ad1
  rw [hBC] at hxy bc0 bc1
  rw [hBD] at hxy bd0 bd1
  rw [hP]
  have w1 : IntKind.u64.wrap AC = AC := by rw [wrapU]; omega
  have w2 : IntKind.u64.wrap BC = BC := by rw [wrapU]; omega
  have w3 : IntKind.u64.wrap AD = AD := by rw [wrapU]; omega
  have w4 : IntKind.u64.wrap BD = BD := by rw [wrapU]; omega
  obtain ⟨T, hT⟩ : ∃ q, BC + AC / 4294967296 = q := ⟨_, rfl⟩
  have w5 : IntKind.u64.wrap T = T := by rw [wrapU]; omega
  have t0 : 0 ≤ T := by omega
  have m3 : bits BinOp.and IntKind.u64 T 4294967295 = T % 4294967296 := bits_mask IntKind.u64 64 (by decide) (fun n h0 h1 => by rw [wrapU]; omega) 32 (by omega) T t0 (by omega)
  obtain ⟨W1, hW1⟩ : ∃ q, T % 4294967296 + AD = q := ⟨_, rfl⟩
  have w6 : IntKind.u64.wrap W1 = W1 := by rw [wrapU]; omega
  have v0 : 0 ≤ W1 := by omega
  have w7 : IntKind.u64.wrap (BD + T / 4294967296) = BD + T / 4294967296 := by rw [wrapU]; omega
  have w8 : IntKind.u64.wrap (BD + T / 4294967296 + W1 / 4294967296) = P / 18446744073709551616 := by rw [wrapU]; omega
  have w9 : IntKind.u64.wrap P = P % 18446744073709551616 := wrapU P
  clear ha hc hxa hyc hxy
  go_enter Try.func62, Try.ntmps62
  go_wp2
  exact bodyPost_ret (by rw [results_tmp2 rfl]; go_simp <;> omega) rfl ⟨rfl, Below.refl _ _⟩
end Go.Proofs.Ytlbmpdidmckgkaa
