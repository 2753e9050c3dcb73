/- Plain: each example is folded alone, and by each kernel alone. No program in sight. -/
import Derived.Test.YtadlnmckcnfacaaTCoP
set_option linter.unusedVariables false
set_option linter.unusedSimpArgs false
namespace Go.Proofs.Ytadlnmckcnfacaa
open Go.RowKit Go.Rt
end Go.Proofs.Ytadlnmckcnfacaa
