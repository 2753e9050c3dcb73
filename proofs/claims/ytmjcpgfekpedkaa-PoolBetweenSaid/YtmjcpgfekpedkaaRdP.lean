/- Plain laws of reducing: axes that rise, what is left of a list, where an index goes, sums. No walk. -/
import Derived.Test.YtmjcpgfekpedkaaShape
set_option linter.unusedVariables false
set_option linter.unusedSimpArgs false
namespace Go.Proofs.Ytmjcpgfekpedkaa
open Go.RowKit Go.Rt
def inB (l : List Int) (n : Int) : Bool := l.contains n
end Go.Proofs.Ytmjcpgfekpedkaa
