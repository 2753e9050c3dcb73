/- Plain: each example is folded alone, and by each kernel alone. No program in sight. -/
import Derived.Test.YtadlnmckcnfacaaCoP
set_option linter.unusedVariables false
set_option linter.unusedSimpArgs false
namespace Go.Proofs.Ytadlnmckcnfacaa
open Go.RowKit Go.Rt
/-- A part of a list. -/
def cutL (ys : List Int) (a n : Nat) : List Int := (ys.drop (a * n)).take n
theorem cutL_len {ys : List Int} {a n R : Nat} (h : ys.length = R * n) (ha : a < R) : (cutL ys a n).length = n := by
  have := Nat.mul_le_mul_right n (show a + 1 ≤ R by omega)
  rw [Nat.succ_mul] at this
  simp [cutL]
  omega
theorem cutL_get {ys : List Int} {a n i : Nat} (hi : i < n) : (cutL ys a n)[i]? = ys[a * n + i]? := by
  unfold cutL
  rw [List.getElem?_take, if_pos hi, List.getElem?_drop]
theorem cutL_mem {ys : List Int} {a n : Nat} {y : Int} (h : y ∈ cutL ys a n) : y ∈ ys := List.mem_of_mem_drop (List.mem_of_mem_take h)
end Go.Proofs.Ytadlnmckcnfacaa
