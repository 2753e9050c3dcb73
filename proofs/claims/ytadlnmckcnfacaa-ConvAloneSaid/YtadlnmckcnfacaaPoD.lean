/- Walks: (conv.Window).Full. -/
import Derived.Test.YtadlnmckcnfacaaPoC
set_option linter.unusedVariables false
set_option linter.unusedSimpArgs false
namespace Go.Proofs.Ytadlnmckcnfacaa
open Go.RowKit Go.Rt
attribute [local go_sem] Oper.semAt_some
theorem lw25 {α : Type} {l0 : List α} (h0 : l0.length = 25) : ∃ x0 x1 x2 x3 x4 x5 x6 x7 x8 x9 x10 x11 x12 x13 x14 x15 x16 x17 x18 x19 x20 x21 x22 x23 x24, l0 = [x0, x1, x2, x3, x4, x5, x6, x7, x8, x9, x10, x11, x12, x13, x14, x15, x16, x17, x18, x19, x20, x21, x22, x23, x24] := by
  obtain ⟨x0, l1, rfl, h1⟩ := lwC h0
  obtain ⟨x1, l2, rfl, h2⟩ := lwC h1
  obtain ⟨x2, l3, rfl, h3⟩ := lwC h2
  obtain ⟨x3, l4, rfl, h4⟩ := lwC h3
  obtain ⟨x4, l5, rfl, h5⟩ := lwC h4
  obtain ⟨x5, l6, rfl, h6⟩ := lwC h5
  obtain ⟨x6, l7, rfl, h7⟩ := lwC h6
  obtain ⟨x7, l8, rfl, h8⟩ := lwC h7
  obtain ⟨x8, l9, rfl, h9⟩ := lwC h8
  obtain ⟨x9, l10, rfl, h10⟩ := lwC h9
  obtain ⟨x10, l11, rfl, h11⟩ := lwC h10
  obtain ⟨x11, l12, rfl, h12⟩ := lwC h11
  obtain ⟨x12, l13, rfl, h13⟩ := lwC h12
  obtain ⟨x13, l14, rfl, h14⟩ := lwC h13
  obtain ⟨x14, l15, rfl, h15⟩ := lwC h14
  obtain ⟨x15, l16, rfl, h16⟩ := lwC h15
  obtain ⟨x16, l17, rfl, h17⟩ := lwC h16
  obtain ⟨x17, l18, rfl, h18⟩ := lwC h17
  obtain ⟨x18, l19, rfl, h19⟩ := lwC h18
  obtain ⟨x19, l20, rfl, h20⟩ := lwC h19
  obtain ⟨x20, l21, rfl, h21⟩ := lwC h20
  obtain ⟨x21, l22, rfl, h22⟩ := lwC h21
  obtain ⟨x22, l23, rfl, h23⟩ := lwC h22
  obtain ⟨x23, l24, rfl, h24⟩ := lwC h23
  obtain ⟨x24, l25, rfl, h25⟩ := lwC h24
  obtain rfl := List.length_eq_zero_iff.1 h25
  exact ⟨x0, x1, x2, x3, x4, x5, x6, x7, x8, x9, x10, x11, x12, x13, x14, x15, x16, x17, x18, x19, x20, x21, x22, x23, x24, rfl⟩

/-- Does tap t of place p stand within, along dimension i? -/
def inT (wv : WinV) (i p t : Nat) : Bool := decide (0 ≤ (p : Int) * (wv.S[i]?.getD 0) + (t : Int) * (wv.D[i]?.getD 0) - wv.P[i]?.getD 0) && decide ((p : Int) * (wv.S[i]?.getD 0) + (t : Int) * (wv.D[i]?.getD 0) - wv.P[i]?.getD 0 < wv.L[i]?.getD 0)
def anyP (wv : WinV) (i p : Nat) : Bool := (List.range (wv.K[i]?.getD 0).toNat).any (inT wv i p)
theorem full_iff {wv : WinV} : wv.fullB = true ↔ ∀ i, i < wv.L.length → ∀ p, p < (wv.out i).toNat → anyP wv i p = true := by
  unfold WinV.fullB
  rw [List.all_eq_true]
  constructor
  · intro h i hi p hp
    exact List.all_eq_true.1 (h i (List.mem_range.2 hi)) p (List.mem_range.2 hp)
  · intro h i hi
    exact List.all_eq_true.2 fun p hp => h i (List.mem_range.1 hi) p (List.mem_range.1 hp)
theorem any_succ (f : Nat → Bool) (t : Nat) : (List.range (t + 1)).any f = ((List.range t).any f || f t) := by
  rw [List.range_succ, List.any_append]
  simp
end Go.Proofs.Ytadlnmckcnfacaa
