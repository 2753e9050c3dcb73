/- Where a slice's words stand. No program in sight. -/
import Derived.Test.YtnafbgkfhojamaaViewP
set_option linter.unusedVariables false
set_option linter.unusedSimpArgs false
namespace Go.Rt
theorem prodI_set_one : ∀ (sh : List Int) (a : Nat) (ha : a < sh.length), prodI (sh.set a 1) = prodI (sh.take a) * prodI (sh.drop (a + 1))
  | d :: r, 0, _ => by simp [prodI]
  | d :: r, a + 1, h => by
    have := prodI_set_one r a (by simpa using h)
    simp only [List.set_cons_succ, prodI, List.take_succ_cons, List.drop_succ_cons, this, Int.mul_assoc]
/-- The slice's number of a place. -/
def slI (R d n : Int) : Int := n / (d * R) * R + n % R
theorem slI_split {R d n P1 : Int} (hR : 0 < R) (hd : 0 < d) (n0 n1 : Int) (h : n = n0 * (P1 * (d * R)) + n1) : slI R d n = n0 * (P1 * R) + slI R d n1 := by
  have h1 : n / (d * R) = n0 * P1 + n1 / (d * R) := by
    have e : n = n1 + (n0 * P1) * (d * R) := by rw [h, Int.mul_assoc n0 P1 (d * R)]; omega
    rw [e, Int.add_mul_ediv_right _ _ (Int.ne_of_gt (Int.mul_pos hd hR)), Int.add_comm]
  have h2 : n % R = n1 % R := by
    have e : n = n1 + (n0 * (P1 * d)) * R := by rw [h, Int.mul_assoc n0 (P1 * d) R, Int.mul_assoc P1 d R]; omega
    rw [e, Int.add_mul_emod_self_right]
  unfold slI
  rw [h1, h2, Int.add_mul, Int.mul_assoc n0 P1 R]
  omega
theorem dims_set {sh : List Int} (h : Dims sh) (a : Nat) : Dims (sh.set a 1) := fun d hd => by
  rcases List.mem_or_eq_of_mem_set hd with h1 | h1
  · exact h d h1
  · rw [h1]; decide
theorem slI_bound {R d n P1 : Int} (hR : 0 < R) (hd : 0 < d) (h0 : 0 ≤ n) (h1 : n < P1 * (d * R)) : 0 ≤ slI R d n ∧ slI R d n < P1 * R := by
  have hdR := Int.mul_pos hd hR
  have h2 : n / (d * R) < P1 := Int.ediv_lt_of_lt_mul hdR h1
  have h3 : 0 ≤ n / (d * R) := Int.ediv_nonneg h0 (Int.le_of_lt hdR)
  have h4 := Int.emod_nonneg n (Int.ne_of_gt hR)
  have h5 := Int.emod_lt_of_pos n hR
  have h6 : 0 ≤ n / (d * R) * R := Int.mul_nonneg h3 (Int.le_of_lt hR)
  have h7 : (n / (d * R) + 1) * R ≤ P1 * R := Int.mul_le_mul_of_nonneg_right (by omega) (Int.le_of_lt hR)
  rw [Int.add_mul] at h7
  unfold slI
  omega
theorem dotI_nil (xs : List Int) : dotI xs [] = 0 := by cases xs <;> rfl
theorem dot_slice : ∀ (sh st : List Int) (a : Nat) (n : Int) (ha : a < sh.length), Dims sh → 0 ≤ n → n < prodI sh →
    dotI (standsI (sh.set a 1) (slI (prodI (sh.drop (a + 1))) sh[a] n)) st + ((n / prodI (sh.drop (a + 1))) % sh[a]) * (st[a]?.getD 0) = dotI (standsI sh n) st
  | sh, [], a, n, ha, _, _, _ => by simp [dotI_nil]
  | d :: r, y :: ys, 0, n, ha, hD, h0, h1 => by
    have hP := hD.tail.pos
    have hd := hD.head.1
    have e1 : slI (prodI r) d n = n % prodI r := by
      unfold slI
      have h9 : n < d * prodI r := h1
      rw [Int.ediv_eq_zero_of_lt h0 h9, Int.zero_mul, Int.zero_add]
    have e2 : standsI r (n % prodI r) = standsI r n := standsI_congr r _ _ hD.tail (Int.emod_emod_of_dvd n (Int.dvd_refl _))
    show dotI (standsI (1 :: r) (slI (prodI r) d n)) (y :: ys) + (n / prodI r) % d * y = dotI (standsI (d :: r) n) (y :: ys)
    rw [e1]
    simp only [standsI, dotI, e2, Int.emod_one, Int.zero_mul]
    omega
  | d :: r, y :: ys, a + 1, n, ha, hD, h0, h1 => by
    have ha2 : a < r.length := by simpa using ha
    have hDr := hD.tail
    have hP := hDr.pos
    have hd := hD.head.1
    have hR := (hDr.drop (a + 1)).pos
    have hdd := (hDr.at ha2).1
    have hPs : prodI r = prodI (r.take a) * (r[a] * prodI (r.drop (a + 1))) := by rw [← prodI_drop_succ r a ha2]; exact prodI_split r a
    have hP2 := prodI_set_one r a ha2
    have hn := Int.mul_ediv_add_emod n (prodI r)
    have hn0 := Int.emod_nonneg n (show prodI r ≠ 0 by omega)
    have hn1 := Int.emod_lt_of_pos n (show 0 < prodI r by omega)
    have ih := dot_slice r ys a (n % prodI r) ha2 hDr hn0 hn1
    have hsp := slI_split (R := prodI (r.drop (a + 1))) (d := r[a]) (n := n) (P1 := prodI (r.take a)) (by omega) (by omega) (n / prodI r) (n % prodI r) (by rw [← hPs, Int.mul_comm]; exact hn.symm)
    have hbd := slI_bound (R := prodI (r.drop (a + 1))) (d := r[a]) (n := n % prodI r) (P1 := prodI (r.take a)) (by omega) (by omega) hn0 (by rw [← hPs]; exact hn1)
    rw [← hP2] at hsp hbd
    have hP3 : 0 < prodI (r.set a 1) := by have := (dims_set hDr a).pos; omega
    have q1 : slI (prodI (r.drop (a + 1))) r[a] n / prodI (r.set a 1) = n / prodI r := by
      rw [hsp, Int.add_comm, Int.add_mul_ediv_right _ _ (by omega), Int.ediv_eq_zero_of_lt hbd.1 hbd.2, Int.zero_add]
    have q2 : standsI (r.set a 1) (slI (prodI (r.drop (a + 1))) r[a] n) = standsI (r.set a 1) (slI (prodI (r.drop (a + 1))) r[a] (n % prodI r)) :=
      standsI_congr _ _ _ (dims_set hDr a) (by rw [hsp, Int.add_comm, Int.add_mul_emod_self_right])
    have q3 : standsI r (n % prodI r) = standsI r n := standsI_congr r _ _ hDr (Int.emod_emod_of_dvd n (Int.dvd_refl _))
    have q4 : (n % prodI r / prodI (r.drop (a + 1))) % r[a] = (n / prodI (r.drop (a + 1))) % r[a] := by
      have e : n = n % prodI r + (n / prodI r * prodI (r.take a) * r[a]) * prodI (r.drop (a + 1)) := by
        rw [Int.mul_assoc, Int.mul_assoc, ← hPs, Int.mul_comm (n / prodI r)]; omega
      have e2 : n / prodI (r.drop (a + 1)) = n % prodI r / prodI (r.drop (a + 1)) + n / prodI r * prodI (r.take a) * r[a] := by
        conv => lhs; rw [e]
        rw [Int.add_mul_ediv_right _ _ (by omega)]
      rw [e2, Int.add_mul_emod_self_right]
    rw [q3, q4] at ih
    show dotI (standsI (d :: r.set a 1) (slI (prodI (r.drop (a + 1))) r[a] n)) (y :: ys) + (n / prodI (r.drop (a + 1))) % r[a] * (ys[a]?.getD 0) = dotI (standsI (d :: r) n) (y :: ys)
    simp only [standsI, dotI, q1, q2]
    omega
end Go.Rt
