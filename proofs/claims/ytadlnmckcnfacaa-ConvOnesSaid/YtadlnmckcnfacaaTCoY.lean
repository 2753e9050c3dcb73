/- Small things for the laws of layer 11. -/
import Derived.Test.YtadlnmckcnfacaaTCoA
import Derived.Test.YtadlnmckcnfacaaTCoJ
import Derived.Test.YtadlnmckcnfacaaTRdV
set_option linter.unusedVariables false
set_option linter.unusedSimpArgs false
namespace Go.Proofs.Ytadlnmckcnfacaa
open Go.RowKit Go.Rt
attribute [local go_sem] Oper.semAt_some
theorem f_any (i : Int) (w : World) (hi : -9223372036854775808 ≤ i ∧ i ≤ 9223372036854775807) : Calls Try.prog 9 #[.int .i64 i] w fun e w' => e = .returned (.int .i64 (8 + withinN i 25)) ∧ w = w' := by
  have hb := withinN_bound i 25 (by decide)
  have hw := fun w => Lib.hid (within0_any i 25 w hi (by decide) (by decide))
  generalize withinN i 25 = N at *
  have e1 : RowKit.wrap64 (8 + N) = 8 + N := by unfold RowKit.wrap64; omega
  go_enter Try.func9, Try.ntmps9
  go_wp2_with (first | (go_at_call 30; refine (hw _).out.mono ?_; rintro e w' ⟨rfl, rfl⟩))
  go_ret
  exact ⟨ret_int (by first | rfl | omega), rfl⟩
theorem row_cap {W : World} {base : Nat} {e : TypeId} {g n c m : Nat} {xs : List Value} (h : W.ownsRow base e 1 (.slice (some ⟨g, 0, none⟩) n c) m xs) : n ≤ c ∧ c ≤ 9223372036854775807 := by
  rcases h.2 with ⟨h1, _⟩ | ⟨g', cap, cur, h1, _, _, h2, h3, _⟩
  · cases h1
  · cases h1
    exact ⟨h2, by unfold maxLen at h3; omega⟩
end Go.Proofs.Ytadlnmckcnfacaa
