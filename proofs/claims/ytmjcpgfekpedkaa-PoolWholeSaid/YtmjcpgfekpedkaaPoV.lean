/- Plain: windows of one tap. No program in sight. -/
import Derived.Test.YtmjcpgfekpedkaaPoU
set_option linter.unusedVariables false
set_option linter.unusedSimpArgs false
namespace Go.Proofs.Ytmjcpgfekpedkaa
open Go.RowKit Go.Rt
end Go.Proofs.Ytmjcpgfekpedkaa
