/- Plain laws of means. No walk. -/
import Derived.Test.YtinboddfmojodaaGreatRdP
import Derived.Test.YtinboddfmojodaaGreatRdW
set_option linter.unusedVariables false
set_option linter.unusedSimpArgs false
namespace Go.Proofs.YtinboddfmojodaaGreat
open Go.RowKit Go.Rt
theorem mean_near (s n : Int) (hn : 1 ≤ n) : -n ≤ 2 * (roundI s n * n - s) ∧ 2 * (roundI s n * n - s) ≤ n := by
  have h := (round_half s n (by omega)).1
  unfold absI at h
  generalize roundI s n * n = q at h ⊢
  split at h <;> split at h <;> omega
theorem mean_ge {lo s n : Int} (hn : 1 ≤ n) (h : lo * n ≤ s) : lo ≤ roundI s n := by
  have h1 := mean_near s n hn
  by_cases hc : lo ≤ roundI s n
  · exact hc
  · exfalso
    have h2 : (roundI s n + 1) * n ≤ lo * n := Int.mul_le_mul_of_nonneg_right (by omega) (by omega)
    rw [Int.add_mul, Int.one_mul] at h2
    generalize roundI s n * n = q at h1 h2
    generalize lo * n = p at h h2
    omega
theorem mean_le {hi s n : Int} (hn : 1 ≤ n) (h : s ≤ hi * n) : roundI s n ≤ hi := by
  have h1 := mean_near s n hn
  by_cases hc : roundI s n ≤ hi
  · exact hc
  · exfalso
    have h2 : (hi + 1) * n ≤ roundI s n * n := Int.mul_le_mul_of_nonneg_right (by omega) (by omega)
    rw [Int.add_mul, Int.one_mul] at h2
    generalize roundI s n * n = q at h1 h2
    generalize hi * n = p at h h2
    omega
theorem round_one (s : Int) : roundI s 1 = s := by
  have h := mean_near s 1 (Int.le_refl _)
  omega
/-- The least and the greatest of the first n words, from the word 0 on. -/
def loN (ys : List Int) : Nat → Int
  | 0 => ys[0]?.getD 0
  | n + 1 => min (loN ys n) (ys[n]?.getD 0)
def hiN (ys : List Int) : Nat → Int
  | 0 => ys[0]?.getD 0
  | n + 1 => max (hiN ys n) (ys[n]?.getD 0)
def sumN (ys : List Int) : Nat → Int
  | 0 => 0
  | n + 1 => sumN ys n + ys[n]?.getD 0
theorem loN_le (ys : List Int) : ∀ n i, i < n → loN ys n ≤ ys[i]?.getD 0
  | n + 1, i, h => by
    rw [loN]
    by_cases hi : i < n
    · have := loN_le ys n i hi; omega
    · obtain rfl : i = n := by omega
      omega
theorem le_hiN (ys : List Int) : ∀ n i, i < n → ys[i]?.getD 0 ≤ hiN ys n
  | n + 1, i, h => by
    rw [hiN]
    by_cases hi : i < n
    · have := le_hiN ys n i hi; omega
    · obtain rfl : i = n := by omega
      omega
theorem sumN_ge (ys : List Int) (lo : Int) : ∀ n : Nat, (∀ i, i < n → lo ≤ ys[i]?.getD 0) → lo * n ≤ sumN ys n
  | 0, _ => by simp [sumN]
  | n + 1, h => by
    have ih := sumN_ge ys lo n fun i hi => h i (by omega)
    have h1 := h n (by omega)
    rw [sumN, Int.natCast_add, Int.mul_add, Int.natCast_one, Int.mul_one]
    generalize lo * (n : Int) = q at ih ⊢
    omega
theorem sumN_le (ys : List Int) (hi : Int) : ∀ n : Nat, (∀ i, i < n → ys[i]?.getD 0 ≤ hi) → sumN ys n ≤ hi * n
  | 0, _ => by simp [sumN]
  | n + 1, h => by
    have ih := sumN_le ys hi n fun i hi => h i (by omega)
    have h1 := h n (by omega)
    rw [sumN, Int.natCast_add, Int.mul_add, Int.natCast_one, Int.mul_one]
    generalize hi * (n : Int) = q at ih ⊢
    omega
theorem sumK_all {g : Nat → Nat} {ys : List Int} : ∀ n, (∀ i, i < n → g i = 0) → sumK g ys 0 n = sumN ys n
  | 0, _ => rfl
  | n + 1, h => by
    rw [sumK, if_pos (h n (by omega)), sumN, sumK_all n fun i hi => h i (by omega)]
theorem loN_isW {ys : List Int} (h : ∀ y ∈ ys, isW y = true) : ∀ n, n ≤ ys.length → 0 < ys.length → isW (loN ys n) = true
  | 0, _, h0 => by rw [loN, List.getElem?_eq_getElem h0]; exact h _ (List.getElem_mem h0)
  | n + 1, hn, h0 => by
    have ih := isW_iff.1 (loN_isW h n (by omega) h0)
    have h1 : isW (ys[n]?.getD 0) = true := by rw [List.getElem?_eq_getElem (show n < ys.length by omega)]; exact h _ (List.getElem_mem _)
    have h2 := isW_iff.1 h1
    rw [loN]
    exact isW_iff.2 (by omega)
theorem hiN_isW {ys : List Int} (h : ∀ y ∈ ys, isW y = true) : ∀ n, n ≤ ys.length → 0 < ys.length → isW (hiN ys n) = true
  | 0, _, h0 => by rw [hiN, List.getElem?_eq_getElem h0]; exact h _ (List.getElem_mem h0)
  | n + 1, hn, h0 => by
    have ih := isW_iff.1 (hiN_isW h n (by omega) h0)
    have h1 : isW (ys[n]?.getD 0) = true := by rw [List.getElem?_eq_getElem (show n < ys.length by omega)]; exact h _ (List.getElem_mem _)
    have h2 := isW_iff.1 h1
    rw [hiN]
    exact isW_iff.2 (by omega)
/-- The mean of all words. -/
theorem mean_all {ys : List Int} (h : ∀ y ∈ ys, isW y = true) (h0 : 0 < ys.length) :
    loN ys ys.length ≤ roundI (sumN ys ys.length) ys.length ∧ roundI (sumN ys ys.length) ys.length ≤ hiN ys ys.length ∧ isW (roundI (sumN ys ys.length) ys.length) = true := by
  have h1 := mean_ge (s := sumN ys ys.length) (n := ys.length) (by omega) (sumN_ge ys _ _ fun i hi => loN_le ys _ i hi)
  have h2 := mean_le (s := sumN ys ys.length) (n := ys.length) (by omega) (sumN_le ys _ _ fun i hi => le_hiN ys _ i hi)
  have h3 := isW_iff.1 (loN_isW h _ (Nat.le_refl _) h0)
  have h4 := isW_iff.1 (hiN_isW h _ (Nat.le_refl _) h0)
  exact ⟨h1, h2, isW_iff.2 (by omega)⟩
/-- All axes. -/
def axN (n : Nat) : List Int := (List.range n).map fun (i : Nat) => (i : Int)
theorem axN_succ (n : Nat) : axN (n + 1) = axN n ++ [(n : Int)] := by simp [axN, List.range_succ]
theorem axN_len (n : Nat) : (axN n).length = n := by simp [axN]
theorem axN_in (n i : Nat) (h : i < n) : inB (axN n) (i : Int) = true := by
  simp only [inB, axN, List.contains_iff_mem, List.mem_map, List.mem_range]
  exact ⟨i, h, rfl⟩
theorem rest_axN {s : List Int} {n : Nat} (h : s.length ≤ n) : restL s (axN n) = [] := by
  have : ∀ j, j ≤ n → restJ s (axN n) j = [] := by
    intro j
    induction j with
    | zero => intro _; rfl
    | succ j ih => intro hj; rw [restJ_in (axN_in n j (by omega)), ih (by omega)]
  exact this _ h
theorem axB_axN (r : Nat) : ∀ (k j : Nat), j + k = r → axB ((j : Int) - 1) r ((List.range' j k).map fun (i : Nat) => (i : Int)) = true
  | 0, j, h => rfl
  | k + 1, j, h => by
    rw [List.range'_succ, List.map_cons, axB]
    have ih := axB_axN r k (j + 1) (by omega)
    rw [show (((j + 1 : Nat) : Int) - 1) = (j : Int) by omega] at ih
    rw [ih, Bool.and_true, Bool.and_eq_true, decide_eq_true_eq, decide_eq_true_eq]
    omega
theorem axB_all (r : Nat) : axB (-1) r (axN r) = true := by
  have h := axB_axN r r 0 (by omega)
  rw [← List.range_eq_range'] at h
  simpa [axN] using h
end Go.Proofs.YtinboddfmojodaaGreat
