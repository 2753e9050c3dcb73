/- Counting the places of a slice. No program in sight. -/
import Derived.Test.YtnafbgkfhojamaaViewP
set_option linter.unusedVariables false
set_option linter.unusedSimpArgs false
namespace Go.Rt
/-- Of the numbers below n: how many have the digit k, between R lower and d values. -/
def slC (R d k n : Nat) : Nat := (n / (d * R)) * R + min (n % (d * R) - k * R) R
theorem slC_zero (R d k : Nat) : slC R d k 0 = 0 := by simp [slC]
theorem digit_iff {R d k n : Nat} (hR : 0 < R) (hk : k < d) : (n / R) % d = k ↔ k * R ≤ n % (d * R) ∧ n % (d * R) < k * R + R := by
  have h1 : n % (R * d) / R = n / R % d := Nat.mod_mul_right_div_self n R d
  rw [Nat.mul_comm R d] at h1
  rw [← h1]
  have h2 := Nat.le_div_iff_mul_le hR (x := k) (y := n % (d * R))
  have h3 := Nat.div_lt_iff_lt_mul hR (x := n % (d * R)) (y := k + 1)
  rw [Nat.succ_mul] at h3
  constructor
  · intro h
    exact ⟨h2.1 (by omega), h3.1 (by omega)⟩
  · rintro ⟨g1, g2⟩
    have := h2.2 g1
    have := h3.2 g2
    omega
theorem slC_at {R d k n : Nat} (hR : 0 < R) (hk : k < d) (h : (n / R) % d = k) : slC R d k n = n / (d * R) * R + n % R := by
  obtain ⟨h1, h2⟩ := (digit_iff hR hk).1 h
  have h3 : n % (d * R) % R = n % R := Nat.mod_mul_left_mod n d R
  have h4 : (n % (d * R) - k * R) % R = n % R := by
    rw [← h3]
    have : n % (d * R) = (n % (d * R) - k * R) + k * R := by omega
    rw [this, Nat.add_mul_mod_self_right]
    simp
  have h6 : n % (d * R) - k * R < R := by omega
  have h5 : n % (d * R) - k * R = n % R := (Nat.mod_eq_of_lt h6).symm.trans h4
  unfold slC
  rw [h5, Nat.min_eq_left (Nat.le_of_lt (Nat.mod_lt _ hR))]
theorem slC_succ {R d k n : Nat} (hR : 0 < R) (hk : k < d) : slC R d k (n + 1) = slC R d k n + if (n / R) % d = k then 1 else 0 := by
  have hD : k * R + R ≤ d * R := by rw [← Nat.succ_mul]; exact Nat.mul_le_mul_right R hk
  have hdig := digit_iff (n := n) hR hk
  have hlt := Nat.mod_lt n (show 0 < d * R by omega)
  have hdm := Nat.div_add_mod n (d * R)
  unfold slC
  by_cases hw : n % (d * R) + 1 < d * R
  · have e1 : (n + 1) / (d * R) = n / (d * R) := by
      rw [Nat.div_eq_of_lt_le] <;> (first | (rw [Nat.mul_comm]; omega) | (rw [Nat.succ_mul, Nat.mul_comm]; omega))
    have e2 : (n + 1) % (d * R) = n % (d * R) + 1 := by
      have h9 := Nat.div_add_mod (n + 1) (d * R)
      rw [e1] at h9
      omega
    rw [e1, e2]
    generalize n % (d * R) = q at *
    generalize k * R = K at *
    generalize d * R = D at *
    split
    · next h => have := hdig.1 h; omega
    · next h => have := fun g => h (hdig.2 g); omega
  · have hq : n % (d * R) + 1 = d * R := by omega
    have e0 : n + 1 = d * R * (n / (d * R) + 1) := by rw [Nat.mul_succ]; omega
    have e1 : (n + 1) / (d * R) = n / (d * R) + 1 := by
      rw [e0, Nat.mul_div_cancel_left _ (by omega)]
    have e2 : (n + 1) % (d * R) = 0 := by rw [e0, Nat.mul_mod_right]
    rw [e1, e2, Nat.succ_mul]
    generalize n % (d * R) = q at *
    generalize k * R = K at *
    generalize d * R = D at *
    generalize n / D * R = I at *
    split
    · next h => have := hdig.1 h; omega
    · next h => have := fun g => h (hdig.2 g); omega
end Go.Rt
