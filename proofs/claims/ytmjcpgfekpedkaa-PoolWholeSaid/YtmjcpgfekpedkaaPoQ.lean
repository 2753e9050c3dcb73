/- Plain: sums and means over windows. No program in sight. -/
import Derived.Test.YtmjcpgfekpedkaaPoP
import Derived.Test.YtmjcpgfekpedkaaRdL
set_option linter.unusedVariables false
set_option linter.unusedSimpArgs false
namespace Go.Proofs.Ytmjcpgfekpedkaa
open Go.RowKit Go.Rt
def sumP (ys l : List Int) : Int := l.foldl (fun s p => s + yAt ys p) 0
theorem sum_snoc (ys l : List Int) (a : Int) : sumP ys (l ++ [a]) = sumP ys l + yAt ys a := by
  unfold sumP
  rw [List.foldl_append]
  rfl
theorem yAt_word {ys : List Int} (hy : ∀ y ∈ ys, isW y = true) (a : Int) : -140737488355328 < yAt ys a ∧ yAt ys a < 140737488355328 := by
  unfold yAt
  cases h : ys[a.toNat]? with
  | none => simp
  | some y => exact isW_iff.1 (hy y (List.mem_of_getElem? h))
theorem sum_ge {ys : List Int} {lo : Int} (l : List Int) (h : ∀ p ∈ l, lo ≤ yAt ys p) : lo * (l.length : Int) ≤ sumP ys l := by
  refine list_snoc_induction (P := fun l => (∀ p ∈ l, lo ≤ yAt ys p) → lo * (l.length : Int) ≤ sumP ys l) (fun _ => by simp [sumP]) (fun l a ih h => ?_) l h
  have h1 := ih (fun p hp => h p (List.mem_append_left _ hp))
  have h2 := h a (by simp)
  rw [sum_snoc, List.length_append, List.length_singleton, Int.natCast_add, Int.mul_add]
  omega
theorem sum_le {ys : List Int} {hi : Int} (l : List Int) (h : ∀ p ∈ l, yAt ys p ≤ hi) : sumP ys l ≤ hi * (l.length : Int) := by
  refine list_snoc_induction (P := fun l => (∀ p ∈ l, yAt ys p ≤ hi) → sumP ys l ≤ hi * (l.length : Int)) (fun _ => by simp [sumP]) (fun l a ih h => ?_) l h
  have h1 := ih (fun p hp => h p (List.mem_append_left _ hp))
  have h2 := h a (by simp)
  rw [sum_snoc, List.length_append, List.length_singleton, Int.natCast_add, Int.mul_add]
  omega
theorem sum_bound {ys : List Int} (hy : ∀ y ∈ ys, isW y = true) {l : List Int} (hl : l.length ≤ 65536) : (sumP ys l).natAbs ≤ 65536 * 140737488355328 := by
  have h1 := sum_ge (ys := ys) (lo := -140737488355328) l (fun p _ => by have := yAt_word hy p; omega)
  have h2 := sum_le (ys := ys) (hi := 140737488355328) l (fun p _ => by have := yAt_word hy p; omega)
  omega
theorem plcs_len (wv : WinV) (N M n t : Nat) : (wv.plcs N M n t).length ≤ t := by
  induction t with
  | zero => simp [WinV.plcs_zero]
  | succ t ih =>
    rw [WinV.plcs_succ]
    split
    · simp; omega
    · omega
/-- The n-th word's mean. -/
def avI (wv : WinV) (N M T : Nat) (ys : List Int) (n : Nat) : Int := roundI (sumP ys (wv.plcs N M n T)) ((wv.plcs N M n T).length : Int)
theorem av_ge {wv : WinV} {N M T n : Nat} {ys : List Int} {lo : Int} (h1 : wv.plcs N M n T ≠ []) (h : ∀ p ∈ wv.plcs N M n T, lo ≤ yAt ys p) : lo ≤ avI wv N M T ys n :=
  mean_ge (by have := List.length_pos_iff.2 h1; omega) (sum_ge _ h)
theorem av_le {wv : WinV} {N M T n : Nat} {ys : List Int} {hi : Int} (h1 : wv.plcs N M n T ≠ []) (h : ∀ p ∈ wv.plcs N M n T, yAt ys p ≤ hi) : avI wv N M T ys n ≤ hi :=
  mean_le (by have := List.length_pos_iff.2 h1; omega) (sum_le _ h)
theorem av_word {wv : WinV} {N M T n : Nat} {ys : List Int} (hy : ∀ y ∈ ys, isW y = true) (h1 : wv.plcs N M n T ≠ []) : isW (avI wv N M T ys n) = true := by
  have a := av_ge (ys := ys) (lo := -140737488355327) h1 (fun p _ => by have := yAt_word hy p; omega)
  have b := av_le (ys := ys) (hi := 140737488355327) h1 (fun p _ => by have := yAt_word hy p; omega)
  exact isW_iff.2 ⟨by omega, by omega⟩
/-- Words of a pool's means. -/
def poA (ys : List Int) (wv : WinV) : Nat → Int := avI wv (prodI wv.O).toNat (prodI wv.L).toNat (prodI wv.K).toNat ys
end Go.Proofs.Ytmjcpgfekpedkaa
