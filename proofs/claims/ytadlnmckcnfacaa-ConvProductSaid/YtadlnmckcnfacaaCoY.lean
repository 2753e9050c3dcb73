/- Small things for the laws of layer 11. -/
import Derived.Test.YtadlnmckcnfacaaCoA
import Derived.Test.YtadlnmckcnfacaaCoJ
import Derived.Test.YtadlnmckcnfacaaRdV
set_option linter.unusedVariables false
set_option linter.unusedSimpArgs false
namespace Go.Proofs.Ytadlnmckcnfacaa
open Go.RowKit Go.Rt
attribute [local go_sem] Oper.semAt_some
theorem f_any (i : Int) (w : World) (hi : -9223372036854775808 ≤ i ∧ i ≤ 9223372036854775807) : Calls Try.prog 9 #[.int .i64 i] w fun e w' => e = .returned (.int .i64 (8 + withinN i 25)) ∧ w = w' := by
  have hb := withinN_bound i 25 (by decide)
  have hw := fun w => Lib.hid (within0_any i 25 w hi (by decide) (by decide))
  generalize withinN i 25 = N at *
  have e1 : RowKit.wrap64 (8 + N) = 8 + N := by unfold RowKit.wrap64; omega
  go_enter Try.func9, Try.ntmps9
  go_wp2_with (first | (go_at_call 30; refine (hw _).out.mono ?_; rintro e w' ⟨rfl, rfl⟩))
  go_ret
  exact ⟨ret_int (by first | rfl | omega), rfl⟩
theorem row_cap {W : World} {base : Nat} {e : TypeId} {g n c m : Nat} {xs : List Value} (h : W.ownsRow base e 1 (.slice (some ⟨g, 0, none⟩) n c) m xs) : n ≤ c ∧ c ≤ 9223372036854775807 := by
  rcases h.2 with ⟨h1, _⟩ | ⟨g', cap, cur, h1, _, _, h2, h3, _⟩
  · cases h1
  · cases h1
    exact ⟨h2, by unfold maxLen at h3; omega⟩
theorem ints_cut {k : IntKind} {w : World} {hi b o : Nat} {xs : List Int} (h : Ints k w hi (some ⟨b, o, none⟩) xs) (m l : Nat) : Ints k w hi (some ⟨b, o + m, none⟩) ((xs.drop m).take l) := by
  have h2 := ints_drop h m
  refine ⟨Nat.le_trans (List.length_take_le' _ _) h2.len, fun x hx => h2.wf x (List.mem_of_mem_take hx), fun i hi => ?_⟩
  have hl : i < l ∧ i < (xs.drop m).length := by rw [List.length_take] at hi; omega
  obtain ⟨b9, o9, he, h3, h4⟩ := h2.cell i hl.2
  exact ⟨b9, o9, he, h3, by rw [h4, List.getElem?_take, if_pos hl.1]⟩
end Go.Proofs.Ytadlnmckcnfacaa
