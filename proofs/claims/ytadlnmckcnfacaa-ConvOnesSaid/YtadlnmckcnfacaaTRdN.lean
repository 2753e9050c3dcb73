/- Walks: the reference adds words. -/
import Derived.Test.YtadlnmckcnfacaaRows
import Derived.Test.YtadlnmckcnfacaaTRdB
import Derived.BigQuiet
import Derived.BigRegion
import Derived.Deep.Cut
import Derived.Deep.CutBlock
import Derived.Deep.CutRange
import Derived.Deep.RegionHeld3
import Derived.Deep.RegionWith
import Derived.WalkMore
set_option linter.unusedVariables false
set_option linter.unusedSimpArgs false
namespace Go.Proofs.Ytadlnmckcnfacaa
open Go.RowKit Go.Rt
/-- None of 0 on top. -/
def Top (xs : List Int) : Prop := xs = [] ∨ xs[xs.length - 1]?.getD 0 ≠ 0
theorem Top.tail {x : Int} {r : List Int} (h : Top (x :: r)) (hr : r ≠ []) : Top r := by
  have hl : 0 < r.length := List.length_pos_iff.2 hr
  rcases h with h | h
  · cases h
  · refine .inr ?_
    have e : (x :: r).length - 1 = (r.length - 1) + 1 := by simp; omega
    rw [e, List.getElem?_cons_succ] at h
    exact h
theorem Rng.take {B : Nat} {xs : List Int} (h : Rng B xs) (k : Nat) : Rng B (xs.take k) := fun x hx => h x (List.mem_of_mem_take hx)
theorem Rng.append {B : Nat} {xs ys : List Int} (h : Rng B xs) (h2 : Rng B ys) : Rng B (xs ++ ys) := fun x hx => by
  rcases List.mem_append.1 hx with hx | hx
  · exact h x hx
  · exact h2 x hx
/-- A number handed back. -/
def RetN (w : World) (m : Nat) (e : Ending) (w' : World) : Prop :=
  ∃ a c, e = .returned (.slice a (dig 18446744073709551616 m).length c) ∧ NAt w' w'.heap.size a c m ∧ Below w.heap.size w w'
/-- A number handed back, in new memory. -/
def RetNF (w : World) (m : Nat) (e : Ending) (w' : World) : Prop :=
  ∃ a c, e = .returned (.slice a (dig 18446744073709551616 m).length c) ∧ NAt w' w'.heap.size a c m ∧ Below w.heap.size w w' ∧ Fresh w.heap.size a
theorem RetNF.ret {w : World} {m : Nat} {e : Ending} {w' : World} (h : RetNF w m e w') : RetN w m e w' := by
  obtain ⟨a, c, h1, h2, h3, _⟩ := h
  exact ⟨a, c, h1, h2, h3⟩
end Go.Proofs.Ytadlnmckcnfacaa
namespace Go.Proofs.Ytadlnmckcnfacaa
open Go.RowKit Go.Rt
set_option maxRecDepth 100000
end Go.Proofs.Ytadlnmckcnfacaa
