/- A slice's words, counted. No program in sight. -/
import Derived.Test.YtnafbgkfhojamaaViewBQ
import Derived.Test.YtnafbgkfhojamaaViewBR
set_option linter.unusedVariables false
set_option linter.unusedSimpArgs false
namespace Go.Rt
theorem at_slice (sh st : List Int) (a : Nat) (n k off : Int) (ha : a < sh.length) (hD : Dims sh) (h0 : 0 ≤ n) (h1 : n < prodI sh) (hk : (n / prodI (sh.drop (a + 1))) % sh[a] = k) :
    atV (sh.set a 1) st (off + k * (st[a]?.getD 0)) (slI (prodI (sh.drop (a + 1))) sh[a] n) = atV sh st off n := by
  have h := dot_slice sh st a n ha hD h0 h1
  rw [hk] at h
  unfold atV
  omega
theorem slI_nat (R d n : Nat) : slI (R : Int) (d : Int) (n : Int) = ((n / (d * R) * R + n % R : Nat) : Int) := by
  unfold slI
  simp
theorem slC_slI {R d k n : Nat} (hR : 0 < R) (hk : k < d) (h : (n / R) % d = k) : slI (R : Int) (d : Int) (n : Int) = ((slC R d k n : Nat) : Int) := by rw [slI_nat, slC_at hR hk h]
theorem slC_all {R d k P1 : Nat} (hR : 0 < R) (hk : k < d) : slC R d k (P1 * (d * R)) = P1 * R := by
  have hd : 0 < d * R := Nat.mul_pos (by omega) hR
  unfold slC
  rw [Nat.mul_div_cancel _ hd, Nat.mul_mod_left]
  simp
end Go.Rt
