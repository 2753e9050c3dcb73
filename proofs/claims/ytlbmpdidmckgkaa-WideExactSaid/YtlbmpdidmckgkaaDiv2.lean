/- How many bits a word has: math/bits.Len64, LeadingZeros64, walked; and what powers of 2 say of it. -/
import Derived.Test.YtlbmpdidmckgkaaWide9
import Derived.Lib.BitFns
import Derived.Lib.Strings
import Derived.Lib.Slices
import Derived.Lib.Small
import Derived.Lib.Walk
import Derived.Laws.BitsLemmas
set_option linter.unusedVariables false
set_option linter.unusedSimpArgs false
namespace Go.Proofs.Ytlbmpdidmckgkaa
open Go.RowKit Go.Rt

theorem bitLenAux_bounds : ∀ (f x : Nat), x < 2 ^ f → x < 2 ^ Lib.bitLenAux f x ∧ (x ≠ 0 → 1 ≤ Lib.bitLenAux f x ∧ 2 ^ (Lib.bitLenAux f x - 1) ≤ x)
  | 0, x, h => by
    have : x = 0 := by simpa using h
    subst this
    exact ⟨by simp [Lib.bitLenAux], fun h => absurd rfl h⟩
  | f + 1, x, h => by
    simp only [Lib.bitLenAux]
    split
    · rename_i h0
      subst h0
      exact ⟨by simp, fun h => absurd rfl h⟩
    · rename_i h0
      obtain ⟨i1, i2⟩ := bitLenAux_bounds f (x / 2) (by rw [Nat.pow_succ] at h; omega)
      refine ⟨by rw [Nat.add_comm, Nat.pow_succ]; omega, fun _ => ⟨by omega, ?_⟩⟩
      by_cases h1 : x / 2 = 0
      · have : x = 1 := by omega
        subst this
        have : Lib.bitLenAux f (1 / 2) = 0 := by cases f <;> simp [Lib.bitLenAux]
        rw [this]
        decide
      · obtain ⟨j1, j2⟩ := i2 h1
        have e : 1 + Lib.bitLenAux f (x / 2) - 1 = (Lib.bitLenAux f (x / 2) - 1) + 1 := by omega
        rw [e, Nat.pow_succ]
        omega

theorem bitLen_bounds (x : Nat) (h : x < 18446744073709551616) : x < 2 ^ Lib.bitLen x ∧ (x ≠ 0 → 1 ≤ Lib.bitLen x ∧ 2 ^ (Lib.bitLen x - 1) ≤ x) := bitLenAux_bounds 64 x h
theorem bitLen_64 (x : Int) (h0 : 0 ≤ x) (h1 : x ≤ 18446744073709551615) : Lib.bitLen x.toNat ≤ 64 := Lib.bitLen_le x.toNat 64 (by omega) (by omega)

theorem tab_at (i : Int) (h0 : 0 ≤ i) (h1 : i ≤ 255) (h : i.toNat < Lib.len8tab.size) : ((Lib.len8tab[i.toNat]'h).toNat : Int) = (Lib.bitLen i.toNat : Int) := by
  rw [← Lib.len8_of i h0 h1]
  simp only [Lib.len8, ByteArray.getElem?_lt' _ _ h, Option.getD_some]

set_option maxHeartbeats 4000000 in
set_option maxRecDepth 100000 in
theorem len64_any (x : Int) (w : World) (h0 : 0 ≤ x) (h1 : x ≤ 18446744073709551615) :
    Calls Try.prog 59 #[.int .u64 x] w fun e w' => e = .returned (.int .i64 (Lib.bitLen x.toNat)) ∧ w' = w := by
  go_enter Try.func59, Try.ntmps59
  go_wp2
  all_goals first
    | (exfalso; rename_i hbad; rw [Lib.len8tab_size] at hbad; omega)
    | (go_ret; refine ⟨congrArg Ending.returned (congrArg (Value.int IntKind.i64) ?_), rfl⟩)
  · rw [tab_at (x / 4294967296 / 65536 / 256) (by omega) (by omega)]
    have e : (x / 4294967296 / 65536 / 256).toNat = x.toNat / 72057594037927936 := by omega
    have l := Lib.bitLen_le8' (x / 4294967296 / 65536 / 256) (by omega) (by omega)
    have s := Lib.bitLen_shift56 x.toNat (by omega) (by omega)
    rw [e] at l ⊢
    rw [s]
    generalize Lib.bitLen (x.toNat / 72057594037927936) = B at l ⊢
    clear e s
    unfold RowKit.wrap64
    omega
  · rw [tab_at (x / 4294967296 / 65536) (by omega) (by omega)]
    have e : (x / 4294967296 / 65536).toNat = x.toNat / 281474976710656 := by omega
    have l := Lib.bitLen_le8' (x / 4294967296 / 65536) (by omega) (by omega)
    have s := Lib.bitLen_shift48 x.toNat (by omega) (by omega)
    rw [e] at l ⊢
    rw [s]
    generalize Lib.bitLen (x.toNat / 281474976710656) = B at l ⊢
    clear e s
    unfold RowKit.wrap64
    omega
  · rw [tab_at (x / 4294967296 / 256) (by omega) (by omega)]
    have e : (x / 4294967296 / 256).toNat = x.toNat / 1099511627776 := by omega
    have l := Lib.bitLen_le8' (x / 4294967296 / 256) (by omega) (by omega)
    have s := Lib.bitLen_shift40 x.toNat (by omega) (by omega)
    rw [e] at l ⊢
    rw [s]
    generalize Lib.bitLen (x.toNat / 1099511627776) = B at l ⊢
    clear e s
    unfold RowKit.wrap64
    omega
  · rw [tab_at (x / 4294967296) (by omega) (by omega)]
    have e : (x / 4294967296).toNat = x.toNat / 4294967296 := by omega
    have l := Lib.bitLen_le8' (x / 4294967296) (by omega) (by omega)
    have s := Lib.bitLen_shift32 x.toNat (by omega) (by omega)
    rw [e] at l ⊢
    rw [s]
    generalize Lib.bitLen (x.toNat / 4294967296) = B at l ⊢
    clear e s
    unfold RowKit.wrap64
    omega
  · rw [tab_at (x / 65536 / 256) (by omega) (by omega)]
    have e : (x / 65536 / 256).toNat = x.toNat / 16777216 := by omega
    have l := Lib.bitLen_le8' (x / 65536 / 256) (by omega) (by omega)
    have s := Lib.bitLen_shift24 x.toNat (by omega) (by omega)
    rw [e] at l ⊢
    rw [s]
    generalize Lib.bitLen (x.toNat / 16777216) = B at l ⊢
    clear e s
    unfold RowKit.wrap64
    omega
  · rw [tab_at (x / 65536) (by omega) (by omega)]
    have e : (x / 65536).toNat = x.toNat / 65536 := by omega
    have l := Lib.bitLen_le8' (x / 65536) (by omega) (by omega)
    have s := Lib.bitLen_shift16 x.toNat (by omega) (by omega)
    rw [e] at l ⊢
    rw [s]
    generalize Lib.bitLen (x.toNat / 65536) = B at l ⊢
    clear e s
    unfold RowKit.wrap64
    omega
  · rw [tab_at (x / 256) (by omega) (by omega)]
    have e : (x / 256).toNat = x.toNat / 256 := by omega
    have l := Lib.bitLen_le8' (x / 256) (by omega) (by omega)
    have s := Lib.bitLen_shift8 x.toNat (by omega) (by omega)
    rw [e] at l ⊢
    rw [s]
    generalize Lib.bitLen (x.toNat / 256) = B at l ⊢
    clear e s
    unfold RowKit.wrap64
    omega
  · rw [tab_at (x) (by omega) (by omega)]
    have e : (x).toNat = x.toNat := by omega
    have l := Lib.bitLen_le8' (x) (by omega) (by omega)
    rw [e] at l ⊢
    generalize Lib.bitLen x.toNat = B at l ⊢
    clear e
    unfold RowKit.wrap64
    omega

theorem lz64_any (x : Int) (w : World) (h0 : 0 ≤ x) (h1 : x ≤ 18446744073709551615) :
    Calls Try.prog 83 #[.int .u64 x] w fun e w' => e = .returned (.int .i64 (64 - (Lib.bitLen x.toNat : Int))) ∧ w' = w := by
  have l := bitLen_64 x h0 h1
  have e8 : RowKit.wrap64 (64 - (Lib.bitLen x.toNat : Int)) = 64 - (Lib.bitLen x.toNat : Int) := by unfold RowKit.wrap64; omega
  go_enter Try.func83, Try.ntmps83
  go_wp2_with (go_at_call 59; refine (len64_any x _ h0 h1).mono ?_; rintro e w' ⟨rfl, rfl⟩)
  go_ret
  refine ⟨?_, rfl⟩
  rw [← e8]
  rfl
end Go.Proofs.Ytlbmpdidmckgkaa
/- Division of two words by one, as Knuth has it: the plain laws. -/
set_option linter.unusedVariables false
set_option linter.unusedSimpArgs false
namespace Go.Proofs.Ytlbmpdidmckgkaa
open Go.RowKit Go.Rt

theorem castPow (k : Nat) : ((2 ^ k : Nat) : Int) = (2 : Int) ^ k := by simp

/-- The divisor, shifted till its highest bit is set. -/
theorem norm_facts (y : Int) (S : Nat) (y0 : 1 ≤ y) (y1 : y ≤ 18446744073709551615) (hS : 64 - (Lib.bitLen y.toNat : Int) = S) :
    S ≤ 63 ∧ (2 : Int) ^ S * (2 : Int) ^ (64 - S) = 18446744073709551616 ∧ 1 ≤ (2 : Int) ^ S ∧ 1 ≤ (2 : Int) ^ (64 - S) ∧ 9223372036854775808 ≤ y * (2 : Int) ^ S ∧ y * (2 : Int) ^ S < 18446744073709551616 := by
  obtain ⟨h1, h2⟩ := bitLen_bounds y.toNat (by omega)
  obtain ⟨h3, h4⟩ := h2 (by omega)
  have h64 := bitLen_64 y (by omega) y1
  generalize Lib.bitLen y.toNat = B at *
  have e : B = 64 - S := by omega
  have hS63 : S ≤ 63 := by omega
  have p1 : 2 ^ S * 2 ^ (64 - S) = 18446744073709551616 := by rw [← Nat.pow_add, Nat.add_sub_cancel' (by omega)]
  have p2 : 2 ^ S * 2 ^ (64 - S - 1) = 9223372036854775808 := by
    have : S + (64 - S - 1) = 63 := by omega
    rw [← Nat.pow_add, this]
  subst e
  have a1 : y.toNat * 2 ^ S < 18446744073709551616 := by rw [← p1, Nat.mul_comm (2 ^ S)]; exact Nat.mul_lt_mul_of_pos_right h1 (Nat.two_pow_pos S)
  have a2 : 9223372036854775808 ≤ y.toNat * 2 ^ S := by rw [← p2, Nat.mul_comm (2 ^ S)]; exact Nat.mul_le_mul_right _ h4
  have c1 := castPow S
  have c2 := castPow (64 - S)
  have ey : y = (y.toNat : Int) := by omega
  refine ⟨hS63, ?_, ?_, ?_, ?_, ?_⟩
  · rw [← c1, ← c2, ← Int.natCast_mul, p1]; rfl
  · rw [← c1]; have := Nat.two_pow_pos S; omega
  · rw [← c2]; have := Nat.two_pow_pos (64 - S); omega
  · rw [ey, ← c1, ← Int.natCast_mul]; exact Int.ofNat_le.mpr a2
  · rw [ey, ← c1, ← Int.natCast_mul]; exact Int.ofNat_lt.mpr a1

/-- The number, shifted as the divisor. -/
theorem norm_num (hi lo y p p' : Int) (k0 : 0 ≤ hi) (k1 : hi < y) (l0 : 0 ≤ lo) (l1 : lo ≤ 18446744073709551615) (pp : p * p' = 18446744073709551616) (hp : 1 ≤ p) (hp' : 1 ≤ p') (hy : y * p < 18446744073709551616) :
    0 ≤ hi * p ∧ hi * p < 18446744073709551616 ∧ 0 ≤ lo / p' ∧ lo / p' < p ∧ hi * p + lo / p' < y * p ∧ (hi * 18446744073709551616 + lo) * p = (hi * p + lo / p') * 18446744073709551616 + lo * p % 18446744073709551616 := by
  have h1 : 0 ≤ hi * p := Int.mul_nonneg k0 (by omega)
  have h2 : hi * p + p ≤ y * p := by
    have := Int.mul_le_mul_of_nonneg_right (show hi + 1 ≤ y by omega) (show 0 ≤ p by omega)
    rw [Int.add_mul, Int.one_mul] at this
    exact this
  have h3 : 0 ≤ lo / p' := Int.ediv_nonneg l0 (by omega)
  have h4 : lo / p' < p := Int.ediv_lt_of_lt_mul (by omega) (by rw [pp]; omega)
  refine ⟨h1, by omega, h3, h4, by omega, ?_⟩
  have h5 := Int.mul_ediv_add_emod lo p'
  have h6 : 0 ≤ lo % p' := Int.emod_nonneg _ (by omega)
  have h7 : lo % p' < p' := Int.emod_lt_of_pos _ (by omega)
  have h8 : lo * p = lo / p' * 18446744073709551616 + lo % p' * p := by
    rw [← pp]
    conv => lhs; rw [← h5]
    rw [Int.add_mul, Int.mul_comm p' (lo / p'), Int.mul_assoc (lo / p') p' p, Int.mul_comm p' p]
  have h9 : 0 ≤ lo % p' * p := Int.mul_nonneg h6 (by omega)
  have ha : lo % p' * p < 18446744073709551616 := by
    rw [← pp, Int.mul_comm p p']
    exact Int.mul_lt_mul_of_pos_right h7 (by omega)
  have hb : lo * p % 18446744073709551616 = lo % p' * p := by rw [h8]; omega
  rw [hb, Int.add_mul, Int.add_mul, h8, Int.mul_assoc hi, Int.mul_assoc hi, Int.mul_comm 18446744073709551616 p]
  omega

/-- What the two steps tell, put together. -/
theorem norm_told (N y p Q r : Int) (hp : 1 ≤ p) (h : N * p = Q * (y * p) + r) (r0 : 0 ≤ r) (r1 : r < y * p) : Q = N / y ∧ r / p = N % y := by
  have e : r = (N - Q * y) * p := by rw [Int.sub_mul, Int.mul_assoc Q]; omega
  have t0 : 0 ≤ N - Q * y := by
    rcases Int.lt_or_le (N - Q * y) 0 with h0 | h0
    · have := Int.mul_le_mul_of_nonneg_right (show N - Q * y ≤ -1 by omega) (show 0 ≤ p by omega)
      omega
    · exact h0
  have t1 : N - Q * y < y := by
    rcases Int.lt_or_le (N - Q * y) y with h0 | h0
    · exact h0
    · have := Int.mul_le_mul_of_nonneg_right h0 (show 0 ≤ p by omega)
      omega
  have eq : N / y = Q := by
    have : N = (N - Q * y) + Q * y := by omega
    rw [this, Int.add_mul_ediv_right _ _ (by omega), Int.ediv_eq_zero_of_lt t0 t1]
    omega
  refine ⟨eq.symm, ?_⟩
  rw [e, Int.mul_ediv_cancel _ (by omega)]
  have := Int.mul_ediv_add_emod N y
  rw [eq, Int.mul_comm y Q] at this
  omega

section
variable (a b u d Y q r : Int)
/-- A digit's bounds. -/
theorem digit_lt (hY : 0 < Y) (u1 : u < Y) (d1 : d < 4294967296) : (u * 4294967296 + d) / Y < 4294967296 :=
  Int.ediv_lt_of_lt_mul hY (by omega)
theorem digit_first (hY : Y = a * 4294967296 + b) (a0 : 1 ≤ a) (b0 : 0 ≤ b) (u0 : 0 ≤ u) (d0 : 0 ≤ d) (d1 : d < 4294967296) : (u * 4294967296 + d) / Y ≤ u / a := by
  have hYp : 0 < Y := by omega
  have hQ0 : 0 ≤ (u * 4294967296 + d) / Y := Int.ediv_nonneg (by omega) (by omega)
  have h := Int.ediv_mul_le (u * 4294967296 + d) (show Y ≠ 0 by omega)
  generalize (u * 4294967296 + d) / Y = Q at *
  rw [hY, Int.mul_add, ← Int.mul_assoc] at h
  have hb := Int.mul_nonneg hQ0 b0
  exact Int.le_ediv_of_mul_le (by omega) (by omega)
theorem digit_done (hY : Y = a * 4294967296 + b) (hYp : 0 < Y) (hu : q * a + r = u) (hQ : (u * 4294967296 + d) / Y ≤ q) (h : q * b ≤ 4294967296 * r + d) : (u * 4294967296 + d) / Y = q := by
  have : q ≤ (u * 4294967296 + d) / Y := by
    refine Int.le_ediv_of_mul_le hYp ?_
    rw [hY, Int.mul_add, ← Int.mul_assoc]
    omega
  omega
theorem digit_down (hY : Y = a * 4294967296 + b) (hYp : 0 < Y) (u1 : u < Y) (d1 : d < 4294967296) (hu : q * a + r = u) (hQ : (u * 4294967296 + d) / Y ≤ q) (h : 4294967296 ≤ q ∨ 4294967296 * r + d < q * b) : (u * 4294967296 + d) / Y ≤ q - 1 := by
  have h1 := digit_lt u d Y hYp u1 d1
  rcases h with h | h
  · omega
  · have h2 := Int.ediv_mul_le (u * 4294967296 + d) (show Y ≠ 0 by omega)
    rcases Int.lt_or_le ((u * 4294967296 + d) / Y) q with h3 | h3
    · omega
    · have e : (u * 4294967296 + d) / Y = q := by omega
      rw [e, hY, Int.mul_add, ← Int.mul_assoc] at h2
      omega
theorem digit_break (hY : Y = a * 4294967296 + b) (a0 : 1 ≤ a) (b0 : 0 ≤ b) (b1 : b < 4294967296) (u1 : u < Y) (d0 : 0 ≤ d) (q0 : 0 ≤ q) (hu : q * a + r = u) (hQ : (u * 4294967296 + d) / Y ≤ q) (h : 4294967296 ≤ r) : (u * 4294967296 + d) / Y = q := by
  refine digit_done a b u d Y q r hY (by omega) hu hQ ?_
  have hq : q < 4294967296 := by
    rcases Int.lt_or_le q 4294967296 with h0 | h0
    · exact h0
    · have := Int.mul_le_mul_of_nonneg_right h0 (show 0 ≤ a by omega)
      omega
  have := Int.mul_le_mul (show q ≤ 4294967295 by omega) (show b ≤ 4294967295 by omega) b0 (by omega)
  omega
end
end Go.Proofs.Ytlbmpdidmckgkaa
