/- Walks: reduce.sums. -/
import Derived.Test.YtmjcpgfekpedkaaRdC
import Derived.Test.YtmjcpgfekpedkaaRdT
import Derived.Test.YtmjcpgfekpedkaaPartsIn
import Derived.Test.YtmjcpgfekpedkaaInv
import Derived.Test.YtmjcpgfekpedkaaInvIn
import Derived.Deep.CutBlock
set_option linter.unusedVariables false
set_option linter.unusedSimpArgs false
namespace Go.Rt
end Go.Rt
namespace Go.Proofs.Ytmjcpgfekpedkaa
open Go.RowKit Go.Rt
theorem V_split (S : Int) : V (S / 18446744073709551616) (S % 18446744073709551616) = S := by unfold V; omega
theorem WR_split {S : Int} (h : inR S) : WR (S / 18446744073709551616) (S % 18446744073709551616) := by
  unfold inR at h
  exact ⟨by omega, by omega, by omega, by omega⟩
theorem V_from {y : Int} (h0 : -9223372036854775808 ≤ y) (h1 : y ≤ 9223372036854775807) : V (y / 9223372036854775808) (y % 18446744073709551616) = y ∧ WR (y / 9223372036854775808) (y % 18446744073709551616) := by
  unfold V
  exact ⟨by omega, by omega, by omega, by omega, by omega⟩
attribute [local go_sem] Oper.semAt_some
end Go.Proofs.Ytmjcpgfekpedkaa
