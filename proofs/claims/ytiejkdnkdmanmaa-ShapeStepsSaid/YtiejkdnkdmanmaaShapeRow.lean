/- Layer 6's argument, opened: out of the reading of a list of shapes to what the walks want. -/
import Derived.Test.YtiejkdnkdmanmaaOpen
import Derived.Test.YtiejkdnkdmanmaaShapeWA
import Derived.Test.YtiejkdnkdmanmaaShapeTwo
set_option linter.unusedVariables false
set_option linter.unusedSimpArgs false
namespace Go.Proofs.Ytiejkdnkdmanmaa
open Go.ChangeShapes Go.WideShapes Go.RowKit Go.Rt

theorem own : ownKnob Try.prog.godebug = none := by kernel_rfl
theorem laidOut : laidOutB Try.prog = true := by kernel_rfl
theorem cellsInt : Try.prog.cellsOf 3 = 1 := by kernel_rfl
theorem cellsInts : Try.prog.cellsOf 46 = 1 := by kernel_rfl
theorem cellsTwo : Try.prog.cellsOf 48 = 4 := by kernel_rfl

theorem twos_of_trod {H : Type} {enc : TypeId × Value → H} {W : World} {spare : Nat → Bool} {held : Bool} {a : Option Addr} {n c : Nat} {d : DataW H} {ps : List MemPlace}
    (h : DataW.Trod enc Try.prog W 0 spare held 45 (.slice a n c) d ps) : TwosAt W W.heap.size a n := by
  obtain ⟨fuel, hf⟩ := h
  simp only [Value.cells] at hf
  obtain ⟨a', len, cap, he, hlen, hat⟩ := trod_elems Try.underlying45 (by rw [cellsTwo]; omega) hf
  injection he with e1 e2 e3
  subst e1; subst e2; subst e3
  refine ⟨hlen, fun i hi => ?_⟩
  obtain ⟨b, off, cs, m, y, rfl, hb, hcl, hcell, hy⟩ := hat i hi
  rw [cellsTwo] at hcl hcell
  obtain ⟨n0, y0, v0, hv0, ht0⟩ := trod_field1 Try.underlying48 hy 0 _ rfl cellsInts (by show 0 < cs.length; omega)
  obtain ⟨n1, y1, v1, hv1, ht1⟩ := trod_field1 Try.underlying48 hy 1 _ rfl cellsInts (by show 1 < cs.length; omega)
  obtain ⟨n2, y2, v2, hv2, ht2⟩ := trod_field1 Try.underlying48 hy 2 _ rfl cellsInts (by show 2 < cs.length; omega)
  obtain ⟨n3, y3, v3, hv3, ht3⟩ := trod_field1 Try.underlying48 hy 3 _ rfl cellsInt (by show 3 < cs.length; omega)
  obtain ⟨aS, S, cS, rfl, iS⟩ := trod_ints Try.underlying46 Try.underlying3 cellsInt ht0
  obtain ⟨aT, T, cT, rfl, iT⟩ := trod_ints Try.underlying46 Try.underlying3 cellsInt ht1
  obtain ⟨aI, I, cI, rfl, iI⟩ := trod_ints Try.underlying46 Try.underlying3 cellsInt ht2
  obtain ⟨k, hk, _, hwf⟩ := DataW.trod_int Try.underlying3 ht3
  simp at hk
  subst hk
  obtain ⟨w0, w1⟩ := wf_i64_iff.1 hwf
  exact ⟨b, off, aS, aT, aI, S, T, I, cS, cT, cI, k, rfl, hb, (hcell 0 (by omega)).trans hv0, (hcell 1 (by omega)).trans hv1, (hcell 2 (by omega)).trans hv2, (hcell 3 (by omega)).trans hv3, iS, iT, iI, w0, w1⟩
end Go.Proofs.Ytiejkdnkdmanmaa
