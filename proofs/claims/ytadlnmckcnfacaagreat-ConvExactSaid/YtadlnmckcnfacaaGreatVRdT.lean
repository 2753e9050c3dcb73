import Derived.Test.YtadlnmckcnfacaaGreatRows
import Derived.Test.YtadlnmckcnfacaaGreatVRdV
import Derived.Deep.Cut
import Derived.Deep.RegionHeld3
set_option linter.unusedVariables false
set_option linter.unusedSimpArgs false
namespace Go.Proofs.YtadlnmckcnfacaaGreat
open Go.RowKit Go.Rt
theorem tenB_iff {xs ys : List Int} : tenB xs ys = true ↔ goodB xs = true ∧ (ys.length : Int) = prodI xs ∧ ∀ y ∈ ys, isW y = true := by
 simp [tenB]
end Go.Proofs.YtadlnmckcnfacaaGreat
