/- Plain laws of means. No walk. -/
import Derived.Test.YtmjcpgfekpedkaaRdP
import Derived.Test.YtmjcpgfekpedkaaRdW
set_option linter.unusedVariables false
set_option linter.unusedSimpArgs false
namespace Go.Proofs.Ytmjcpgfekpedkaa
open Go.RowKit Go.Rt
theorem mean_near (s n : Int) (hn : 1 ≤ n) : -n ≤ 2 * (roundI s n * n - s) ∧ 2 * (roundI s n * n - s) ≤ n := by
  have h := (round_half s n (by omega)).1
  unfold absI at h
  generalize roundI s n * n = q at h ⊢
  split at h <;> split at h <;> omega
theorem mean_ge {lo s n : Int} (hn : 1 ≤ n) (h : lo * n ≤ s) : lo ≤ roundI s n := by
  have h1 := mean_near s n hn
  by_cases hc : lo ≤ roundI s n
  · exact hc
  · exfalso
    have h2 : (roundI s n + 1) * n ≤ lo * n := Int.mul_le_mul_of_nonneg_right (by omega) (by omega)
    rw [Int.add_mul, Int.one_mul] at h2
    generalize roundI s n * n = q at h1 h2
    generalize lo * n = p at h h2
    omega
theorem mean_le {hi s n : Int} (hn : 1 ≤ n) (h : s ≤ hi * n) : roundI s n ≤ hi := by
  have h1 := mean_near s n hn
  by_cases hc : roundI s n ≤ hi
  · exact hc
  · exfalso
    have h2 : (hi + 1) * n ≤ roundI s n * n := Int.mul_le_mul_of_nonneg_right (by omega) (by omega)
    rw [Int.add_mul, Int.one_mul] at h2
    generalize roundI s n * n = q at h1 h2
    generalize hi * n = p at h h2
    omega
end Go.Proofs.Ytmjcpgfekpedkaa
