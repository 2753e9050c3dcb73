import Derived.Test.YtadlnmckcnfacaaGreatVCoA
import Derived.Test.YtadlnmckcnfacaaGreatVCoJ
import Derived.Test.YtadlnmckcnfacaaGreatVRdV
set_option linter.unusedVariables false
set_option linter.unusedSimpArgs false
namespace Go.Proofs.YtadlnmckcnfacaaGreat
open Go.RowKit Go.Rt
attribute [local go_sem] Oper.semAt_some
end Go.Proofs.YtadlnmckcnfacaaGreat
