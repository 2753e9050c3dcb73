/- Numbers times powers of 2: the plain laws. -/
import Derived.Test.YtlbmpdidmckgkaaDiv5
set_option linter.unusedVariables false
set_option linter.unusedSimpArgs false
namespace Go.Proofs.Ytlbmpdidmckgkaa
open Go.RowKit Go.Rt

theorem pow_split (n : Nat) (h : n ≤ 64) : (2 : Int) ^ n * (2 : Int) ^ (64 - n) = 18446744073709551616 := by
  rw [← castPow, ← castPow, ← Int.natCast_mul, ← Nat.pow_add, Nat.add_sub_cancel' h]
  rfl
theorem pow_pos (n : Nat) : 1 ≤ (2 : Int) ^ n := by rw [← castPow]; have := Nat.two_pow_pos n; omega

/-- How many bits a size has. -/
def lenI (HI LO : Int) : Int := if HI = 0 then (Lib.bitLen LO.toNat : Int) else 64 + (Lib.bitLen HI.toNat : Int)

theorem len_pow (S L n : Nat) (h1 : S < 2 ^ L) (h2 : S ≠ 0 → 1 ≤ L ∧ 2 ^ (L - 1) ≤ S) (h3 : S = 0 → L = 0) (hn : n ≤ 128) : L + n ≤ 128 ↔ S * 2 ^ n < 340282366920938463463374607431768211456 := by
  have e128 : (340282366920938463463374607431768211456 : Nat) = 2 ^ 128 := rfl
  constructor
  · intro h
    have : S * 2 ^ n < 2 ^ L * 2 ^ n := Nat.mul_lt_mul_of_pos_right h1 (Nat.two_pow_pos n)
    rw [← Nat.pow_add] at this
    exact Nat.lt_of_lt_of_le this (by rw [e128]; exact Nat.pow_le_pow_right (by decide) h)
  · intro h
    by_cases h0 : S = 0
    · have := h3 h0; omega
    · obtain ⟨k1, k2⟩ := h2 h0
      rcases Nat.lt_or_ge 128 (L + n) with hc | hc
      · have : 2 ^ (L - 1) * 2 ^ n ≤ S * 2 ^ n := Nat.mul_le_mul_right _ k2
        rw [← Nat.pow_add] at this
        have h5 : 2 ^ 128 ≤ 2 ^ (L - 1 + n) := Nat.pow_le_pow_right (by decide) (by omega)
        rw [e128] at h
        omega
      · exact hc

theorem len_of (HI LO : Int) (n : Nat) (h0 : 0 ≤ HI) (h1 : HI ≤ 18446744073709551615) (l0 : 0 ≤ LO) (l1 : LO ≤ 18446744073709551615) (hn : n ≤ 128) :
    lenI HI LO + n ≤ 128 ↔ (HI * 18446744073709551616 + LO) * (2 : Int) ^ n < 340282366920938463463374607431768211456 := by
  obtain ⟨a, rfl⟩ := Int.eq_ofNat_of_zero_le h0
  obtain ⟨b, rfl⟩ := Int.eq_ofNat_of_zero_le l0
  obtain ⟨b1, b2⟩ := bitLen_bounds a (by omega)
  obtain ⟨c1, c2⟩ := bitLen_bounds b (by omega)
  have key : ∀ L : Nat, lenI a b = L → (a * 18446744073709551616 + b < 2 ^ L) → (a * 18446744073709551616 + b ≠ 0 → 1 ≤ L ∧ 2 ^ (L - 1) ≤ a * 18446744073709551616 + b) → (a * 18446744073709551616 + b = 0 → L = 0) →
      (lenI a b + n ≤ 128 ↔ ((a : Int) * 18446744073709551616 + b) * (2 : Int) ^ n < 340282366920938463463374607431768211456) := by
    intro L hL k1 k2 k3
    have := len_pow (a * 18446744073709551616 + b) L n k1 k2 k3 hn
    rw [hL, ← castPow]
    have e : ((a : Int) * 18446744073709551616 + b) * ((2 ^ n : Nat) : Int) = (((a * 18446744073709551616 + b) * 2 ^ n : Nat) : Int) := by
      rw [Int.natCast_mul (a * 18446744073709551616 + b) (2 ^ n)]
      rfl
    rw [e]
    generalize (a * 18446744073709551616 + b) * 2 ^ n = T at this
    omega
  by_cases ha : a = 0
  · subst ha
    have e : lenI ((0 : Nat) : Int) b = (Lib.bitLen b : Nat) := by simp [lenI]
    refine key _ e ?_ ?_ ?_
    · simpa using c1
    · intro h; simpa using c2 (by simpa using h)
    · intro h
      have : b = 0 := by simpa using h
      subst this
      decide
  · have e : lenI (a : Int) b = ((64 + Lib.bitLen a : Nat) : Int) := by
      unfold lenI
      rw [if_neg (by omega)]
      simp
    obtain ⟨d1, d2⟩ := b2 ha
    have p64 : (2 : Nat) ^ (64 + Lib.bitLen a) = 18446744073709551616 * 2 ^ Lib.bitLen a := by rw [Nat.pow_add]
    have q64 : (2 : Nat) ^ (64 + Lib.bitLen a - 1) = 18446744073709551616 * 2 ^ (Lib.bitLen a - 1) := by
      have : 64 + Lib.bitLen a - 1 = 64 + (Lib.bitLen a - 1) := by omega
      rw [this, Nat.pow_add]
    refine key _ e ?_ ?_ ?_
    · rw [p64]
      generalize 2 ^ Lib.bitLen a = X at b1
      omega
    · intro _
      rw [q64]
      generalize 2 ^ (Lib.bitLen a - 1) = X at d2
      exact ⟨by omega, by omega⟩
    · intro h; omega

/-- A size, shifted by less than a word. -/
theorem left_short (HI LO : Int) (n : Nat) (h0 : 0 ≤ HI) (l0 : 0 ≤ LO) (l1 : LO ≤ 18446744073709551615) (hn : n ≤ 63) (hlt : (HI * 18446744073709551616 + LO) * (2 : Int) ^ n < 340282366920938463463374607431768211456) :
    0 ≤ HI * 2 ^ n ∧ HI * 2 ^ n < 18446744073709551616 ∧ 0 ≤ LO / 2 ^ (64 - n) ∧ LO / 2 ^ (64 - n) < 2 ^ n ∧ HI * 2 ^ n + LO / 2 ^ (64 - n) < 18446744073709551616 ∧
      (HI * 18446744073709551616 + LO) * 2 ^ n / 18446744073709551616 = HI * 2 ^ n + LO / 2 ^ (64 - n) ∧ (HI * 18446744073709551616 + LO) * 2 ^ n % 18446744073709551616 = LO * 2 ^ n % 18446744073709551616 := by
  have pp := pow_split n (by omega)
  have hp := pow_pos n
  have hp' := pow_pos (64 - n)
  generalize (2 : Int) ^ n = p at *
  generalize (2 : Int) ^ (64 - n) = p' at *
  have hHp : 0 ≤ HI * p := Int.mul_nonneg h0 (by omega)
  have h3 : 0 ≤ LO / p' := Int.ediv_nonneg l0 (by omega)
  have h4 : LO / p' < p := Int.ediv_lt_of_lt_mul (by omega) (by rw [pp]; omega)
  have h5 := Int.mul_ediv_add_emod LO p'
  have h6 : 0 ≤ LO % p' := Int.emod_nonneg _ (by omega)
  have h7 : LO % p' < p' := Int.emod_lt_of_pos _ (by omega)
  have h8 : LO * p = LO / p' * 18446744073709551616 + LO % p' * p := by
    rw [← pp]
    conv => lhs; rw [← h5]
    rw [Int.add_mul, Int.mul_comm p' (LO / p'), Int.mul_assoc (LO / p') p' p, Int.mul_comm p' p]
  have h9 : 0 ≤ LO % p' * p := Int.mul_nonneg h6 (by omega)
  have ha : LO % p' * p < 18446744073709551616 := by
    rw [← pp, Int.mul_comm p p']
    exact Int.mul_lt_mul_of_pos_right h7 (by omega)
  have hX : (HI * 18446744073709551616 + LO) * p = (HI * p + LO / p') * 18446744073709551616 + LO % p' * p := by
    rw [Int.add_mul, h8, Int.mul_right_comm, Int.add_mul]
    omega
  rw [hX] at hlt ⊢
  have hlt2 : HI * p + LO / p' < 18446744073709551616 := by omega
  exact ⟨hHp, by omega, h3, h4, hlt2, by omega, by omega⟩

/-- A size of one word, shifted by more than a word. -/
theorem left_long (LO : Int) (n : Nat) (l0 : 0 ≤ LO) (hn : 64 ≤ n) (hlt : LO * (2 : Int) ^ n < 340282366920938463463374607431768211456) :
    0 ≤ LO * 2 ^ (n - 64) ∧ LO * 2 ^ (n - 64) < 18446744073709551616 ∧ LO * 2 ^ n / 18446744073709551616 = LO * 2 ^ (n - 64) ∧ LO * 2 ^ n % 18446744073709551616 = 0 := by
  have e : (2 : Int) ^ n = 2 ^ (n - 64) * 18446744073709551616 := by
    have : n = (n - 64) + 64 := by omega
    conv => lhs; rw [this, Int.pow_add]
    rfl
  have hp := pow_pos (n - 64)
  rw [e, ← Int.mul_assoc] at hlt ⊢
  have : 0 ≤ LO * 2 ^ (n - 64) := Int.mul_nonneg l0 (by omega)
  generalize LO * 2 ^ (n - 64) = T at *
  omega
/-- .. which is one of one word. -/
theorem left_one (HI LO : Int) (n : Nat) (h0 : 0 ≤ HI) (l0 : 0 ≤ LO) (hn : 64 ≤ n) (hlt : (HI * 18446744073709551616 + LO) * (2 : Int) ^ n < 340282366920938463463374607431768211456) : HI = 0 := by
  have e : (2 : Int) ^ n = 2 ^ (n - 64) * 18446744073709551616 := by
    have : n = (n - 64) + 64 := by omega
    conv => lhs; rw [this, Int.pow_add]
    rfl
  have hp := pow_pos (n - 64)
  rcases Int.lt_or_le 0 HI with h | h
  · have h1 := Int.mul_le_mul (show 18446744073709551616 ≤ HI * 18446744073709551616 + LO by omega) (show 18446744073709551616 ≤ (2 : Int) ^ n by rw [e]; omega) (by omega) (by omega)
    omega
  · omega
end Go.Proofs.Ytlbmpdidmckgkaa
