/- Plain laws of sums and maxima along fibres. No walk. -/
import Derived.Test.YtmjcpgfekpedkaaRdP
set_option linter.unusedVariables false
set_option linter.unusedSimpArgs false
namespace Go.Proofs.Ytmjcpgfekpedkaa
open Go.RowKit Go.Rt
end Go.Proofs.Ytmjcpgfekpedkaa
