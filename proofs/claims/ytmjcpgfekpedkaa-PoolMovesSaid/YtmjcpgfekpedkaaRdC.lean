/- Walks: slices.Contains, reduce.Axes, Rest, check. -/
import Derived.Test.YtmjcpgfekpedkaaRdB
import Derived.Test.YtmjcpgfekpedkaaRdI
set_option linter.unusedVariables false
set_option linter.unusedSimpArgs false
namespace Go.Proofs.Ytmjcpgfekpedkaa
open Go.RowKit Go.Rt
end Go.Proofs.Ytmjcpgfekpedkaa
