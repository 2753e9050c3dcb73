import Derived.Test.YtadlnmckcnfacaaGreatVCoP
set_option linter.unusedVariables false
set_option linter.unusedSimpArgs false
namespace Go.Proofs.YtadlnmckcnfacaaGreat
open Go.RowKit Go.Rt
end Go.Proofs.YtadlnmckcnfacaaGreat
