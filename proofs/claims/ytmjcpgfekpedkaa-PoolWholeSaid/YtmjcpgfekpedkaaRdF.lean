/- Plain laws of sums and maxima along fibres. No walk. -/
import Derived.Test.YtmjcpgfekpedkaaRdP
set_option linter.unusedVariables false
set_option linter.unusedSimpArgs false
namespace Go.Proofs.Ytmjcpgfekpedkaa
open Go.RowKit Go.Rt
/-- The greatest word of those that go to k, among the first n, and where it stands first. -/
def mxS (v h : Int) (st : Int × Int) : Int × Int := if h = 0 ∨ st.1 < v then (v, h) else st
def mxK (g : Nat → Nat) (hr : Nat → Int) (ys : List Int) (k : Nat) : Nat → Int × Int
  | 0 => (0, 0)
  | n + 1 => if g n = k then mxS (ys[n]?.getD 0) (hr n) (mxK g hr ys k n) else mxK g hr ys k n
/-- The words that go to k, in order. -/
def fibL (g : Nat → Nat) (k n : Nat) : List Nat := (List.range n).filter fun (i : Nat) => decide (g i = k)
theorem fibL_succ (g : Nat → Nat) (k n : Nat) : fibL g k (n + 1) = if g n = k then fibL g k n ++ [n] else fibL g k n := by
  unfold fibL
  rw [List.range_succ, List.filter_append]
  split
  · next h => simp [h]
  · next h => simp [h]
def lsum : List Int → Int
  | [] => 0
  | x :: t => x + lsum t
theorem lsum_snoc : ∀ (l : List Int) (x : Int), lsum (l ++ [x]) = lsum l + x
  | [], x => by simp [lsum]
  | y :: t, x => by rw [List.cons_append, lsum, lsum, lsum_snoc t x]; omega
theorem sumK_fib (g : Nat → Nat) (ys : List Int) (k : Nat) : ∀ n, sumK g ys k n = lsum ((fibL g k n).map fun (i : Nat) => ys[i]?.getD 0)
  | 0 => rfl
  | n + 1 => by
    rw [sumK, fibL_succ]
    split
    · rw [List.map_append, List.map_cons, List.map_nil, lsum_snoc, sumK_fib g ys k n]
    · exact sumK_fib g ys k n
theorem mxK_fib (g : Nat → Nat) (hr : Nat → Int) (ys : List Int) (k : Nat) : ∀ n, mxK g hr ys k n = ((fibL g k n).map fun (i : Nat) => (ys[i]?.getD 0, hr i)).foldl (fun st p => mxS p.1 p.2 st) (0, 0)
  | 0 => rfl
  | n + 1 => by
    rw [mxK, fibL_succ]
    split
    · rw [List.map_append, List.foldl_append, ← mxK_fib g hr ys k n]; rfl
    · exact mxK_fib g hr ys k n
theorem fib_row (R k : Nat) (hR : 0 < R) : ∀ C, fibL (fun n => n / R) k (C * R) = if k < C then (List.range R).map fun (r : Nat) => k * R + r else []
  | 0 => by simp [fibL]
  | C + 1 => by
    have ih := fib_row R k hR C
    unfold fibL at ih ⊢
    rw [Nat.succ_mul, List.range_add, List.filter_append, ih, List.filter_map]
    have e : ∀ i, i < R → (C * R + i) / R = C := fun i hi => by
      rw [Nat.mul_comm C R, Nat.mul_add_div hR, Nat.div_eq_of_lt hi, Nat.add_zero]
    by_cases hk : k = C
    · subst hk
      rw [if_neg (by omega), if_pos (by omega), List.nil_append]
      have : List.filter ((fun (i : Nat) => decide (i / R = k)) ∘ fun x => k * R + x) (List.range R) = List.range R := by
        rw [List.filter_eq_self]
        intro i hi
        simp only [Function.comp, e i (List.mem_range.1 hi), decide_true]
      rw [this]
    · have : List.filter ((fun (i : Nat) => decide (i / R = k)) ∘ fun x => C * R + x) (List.range R) = [] := by
        rw [List.filter_eq_nil_iff]
        intro i hi
        simp only [Function.comp, e i (List.mem_range.1 hi), decide_eq_true_eq]
        omega
      rw [this, List.map_nil, List.append_nil]
      by_cases h : k < C
      · rw [if_pos h, if_pos (by omega)]
      · rw [if_neg h, if_neg (by omega)]
end Go.Proofs.Ytmjcpgfekpedkaa
