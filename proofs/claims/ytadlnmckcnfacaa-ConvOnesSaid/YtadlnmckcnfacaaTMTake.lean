/- A drawn region taken operation by operation: one that runs, one whose guard is false. -/
import Derived.Deep.RegionHeld3
set_option linter.unusedVariables false
namespace Go
section
variable {P : Program} {md : Region.Mode} {ops : Array Oper} {Q : Exit → Act → World → Prop} {S : World → Prop}
end
end Go
