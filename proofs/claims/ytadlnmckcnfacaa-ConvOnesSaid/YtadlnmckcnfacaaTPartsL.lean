/- XParts, with several late operations: values that are known, which the later ones need not wait for. -/
import Derived.Test.YtadlnmckcnfacaaTParts
set_option linter.unusedVariables false
set_option linter.unusedSimpArgs false
namespace Go
open Go.RowKit
section
variable {P : Program} {ops : Array Oper} {Q : Exit → Act → World → Prop} {md : Region.Mode}
end
end Go
