/- A rounded quotient is at most half of the divisor away, in plain numbers. No walk. -/
import Derived.Test.YtlbmpdidmckgkaaDiv5
set_option linter.unusedVariables false
set_option linter.unusedSimpArgs false
namespace Go.Proofs.Ytlbmpdidmckgkaa
open Go.RowKit Go.Rt

theorem absI_pos {d : Int} (hd : d ≠ 0) : 1 ≤ absI d := by unfold absI; split <;> omega
theorem absI_nn (x : Int) : 0 ≤ absI x := by unfold absI; split <;> omega
/-- By sizes: K times D is at most half of D away from N. -/
theorem half_size {N D q r K : Int} (hD : 1 ≤ D) (hN : N = q * D + r) (h0 : 0 ≤ r) (h1 : r < D) (hK : K = if upR q r D = true then q + 1 else q) : 2 * absI (N - K * D) ≤ D ∧ (2 * absI (N - K * D) = D → K % 2 = 0) := by
  by_cases hu : upR q r D = true
  · rw [if_pos hu] at hK
    have e : N - K * D = r - D := by rw [hN, hK, Int.add_mul]; omega
    rw [e]
    unfold upR at hu
    simp only [Bool.or_eq_true, Bool.and_eq_true, decide_eq_true_eq] at hu
    unfold absI
    split <;> omega
  · rw [if_neg hu] at hK
    have e : N - K * D = r := by rw [hN, hK]; omega
    rw [e]
    unfold upR at hu
    simp only [Bool.or_eq_true, Bool.and_eq_true, decide_eq_true_eq, not_or, not_and] at hu
    unfold absI
    split <;> omega
theorem round_half (x d : Int) (hd : d ≠ 0) : 2 * absI (x - roundI x d * d) ≤ absI d ∧ (2 * absI (x - roundI x d * d) = absI d → roundI x d % 2 = 0) := by
  have hD := absI_pos hd
  have hN := Int.mul_ediv_add_emod (absI x) (absI d)
  have h0 := Int.emod_nonneg (absI x) (show absI d ≠ 0 by omega)
  have h1 := Int.emod_lt_of_pos (absI x) (show 0 < absI d by omega)
  obtain ⟨K, hK⟩ : ∃ K, K = if upR (absI x / absI d) (absI x % absI d) (absI d) = true then absI x / absI d + 1 else absI x / absI d := ⟨_, rfl⟩
  have hs := half_size hD (q := absI x / absI d) (r := absI x % absI d) (N := absI x) (by rw [Int.mul_comm]; exact hN.symm) h0 h1 hK
  have hR : roundI x d = if (decide (x < 0) != decide (d < 0)) = true then -K else K := by unfold roundI; rw [← hK]
  obtain ⟨D, hDe⟩ : ∃ D, absI d = D := ⟨_, rfl⟩
  obtain ⟨N, hNe⟩ : ∃ N, absI x = N := ⟨_, rfl⟩
  rw [hDe, hNe] at hs
  rw [hDe]
  have key : absI (x - roundI x d * d) = absI (N - K * D) := by
    by_cases a : x < 0
    · have ex : x = -N := by rw [← hNe]; unfold absI; rw [if_pos a]; omega
      by_cases b : d < 0
      · have ed : d = -D := by rw [← hDe]; unfold absI; rw [if_pos b]; omega
        rw [hR, decide_eq_true a, decide_eq_true b, if_neg (by decide)]
        have e : x - K * d = -(N - K * D) := by rw [ex, ed, Int.mul_neg]; omega
        rw [e]
        unfold absI
        split <;> split <;> omega
      · have ed : d = D := by rw [← hDe]; unfold absI; rw [if_neg b]
        rw [hR, decide_eq_true a, decide_eq_false b, if_pos (by decide)]
        have e : x - -K * d = -(N - K * D) := by rw [ex, ed, Int.neg_mul]; omega
        rw [e]
        unfold absI
        split <;> split <;> omega
    · have ex : x = N := by rw [← hNe]; unfold absI; rw [if_neg a]
      by_cases b : d < 0
      · have ed : d = -D := by rw [← hDe]; unfold absI; rw [if_pos b]; omega
        rw [hR, decide_eq_false a, decide_eq_true b, if_pos (by decide)]
        have e : x - -K * d = N - K * D := by rw [ex, ed, Int.neg_mul_neg]
        rw [e]
      · have ed : d = D := by rw [← hDe]; unfold absI; rw [if_neg b]
        rw [hR, decide_eq_false a, decide_eq_false b, if_neg (by decide)]
        rw [← ex, ← ed]
  rw [key]
  refine ⟨hs.1, fun h => ?_⟩
  have := hs.2 h
  rw [hR]
  split <;> omega
theorem absI_neg' (s : Int) : absI (-s) = absI s := by unfold absI; split <;> split <;> omega
theorem round_zero (d : Int) (hd : d ≠ 0) : roundI 0 d = 0 := by
  have hD := absI_pos hd
  have e1 : (0 : Int) / absI d = 0 := Int.zero_ediv _
  have e2 : (0 : Int) % absI d = 0 := Int.zero_emod _
  have eu : upR 0 0 (absI d) = false := by
    unfold upR
    simp
    omega
  unfold roundI
  rw [show absI 0 = 0 from rfl, e1, e2, eu]
  simp
theorem round_neg (x d : Int) (hd : d ≠ 0) : roundI (-x) d = -roundI x d := by
  by_cases h0 : x = 0
  · subst h0
    rw [Int.neg_zero, round_zero d hd]
    rfl
  · unfold roundI
    rw [absI_neg']
    generalize (if upR (absI x / absI d) (absI x % absI d) (absI d) = true then absI x / absI d + 1 else absI x / absI d) = X
    by_cases h : x < 0
    · rw [decide_eq_true h, decide_eq_false (show ¬ -x < 0 by omega)]
      cases decide (d < 0) <;> simp
    · rw [decide_eq_false h, decide_eq_true (show -x < 0 by omega)]
      cases decide (d < 0) <;> simp
end Go.Proofs.Ytlbmpdidmckgkaa
