import Derived.Test.YtadlnmckcnfacaaUCoP
set_option linter.unusedVariables false
set_option linter.unusedSimpArgs false
namespace Go.Proofs.Ytadlnmckcnfacaa
open Go.RowKit Go.Rt
end Go.Proofs.Ytadlnmckcnfacaa
