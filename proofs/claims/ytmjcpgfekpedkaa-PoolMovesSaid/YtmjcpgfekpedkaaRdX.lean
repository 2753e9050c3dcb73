/- Walks: reduce.Max in all cases. -/
import Derived.Test.YtmjcpgfekpedkaaRdM
import Derived.Test.YtmjcpgfekpedkaaRdU
import Derived.Test.YtmjcpgfekpedkaaRdV
import Derived.Sort.BigQuietIn
set_option linter.unusedVariables false
set_option linter.unusedSimpArgs false
namespace Go.Proofs.Ytmjcpgfekpedkaa
open Go.RowKit Go.Rt
attribute [local go_sem] Oper.semAt_some
end Go.Proofs.Ytmjcpgfekpedkaa
