/- Plain laws of indexes without axes. No walk. -/
import Derived.Test.YtmjcpgfekpedkaaRdF
set_option linter.unusedVariables false
set_option linter.unusedSimpArgs false
namespace Go.Proofs.Ytmjcpgfekpedkaa
open Go.RowKit Go.Rt
end Go.Proofs.Ytmjcpgfekpedkaa
