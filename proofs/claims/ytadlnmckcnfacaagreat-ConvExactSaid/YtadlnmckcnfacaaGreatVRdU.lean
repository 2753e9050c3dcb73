import Derived.Test.YtadlnmckcnfacaaGreatRows
import Derived.Test.YtadlnmckcnfacaaGreatVRdT
import Derived.WalkMore
set_option linter.unusedVariables false
set_option linter.unusedSimpArgs false
namespace Go.Rt
open Go.RowKit Go.ChangeShapes Go.WideShapes Go.Deep
variable {H : Type} {enc : TypeId × Value → H} {P : Program} {w : World} {spare : Nat → Bool} {held : Bool}
theorem trod_ints_cap {t e : TypeId} {k : IntKind} {fuel : Nat} {v : Value} {x : DataW H × List MemPlace} (ht : P.underlying t = some (.slice e)) (he : P.underlying e = some (.int k)) (hc : P.cellsOf e = 1)
    (h : DataW.trod enc P w 0 spare held fuel t [v] = some x) : ∃ a xs c, v = .slice a xs.length c ∧ Ints k w w.heap.size a xs ∧ xs.length ≤ c ∧ c ≤ 9223372036854775807 := by
  obtain ⟨a, xs, c, rfl, hI⟩ := trod_ints ht he hc h
  refine ⟨a, xs, c, rfl, hI, ?_⟩
  rcases open_ints ht he hc h with ⟨hcs, _⟩ | ⟨a, len, cap, zs, hcs, _, hl, hm, hz, _, hcell, hwf⟩
  · simp at hcs
    obtain ⟨_, h1, h2⟩ := hcs
    rw [h1, h2]
    simp
  · simp at hcs
    obtain ⟨_, h1, h2⟩ := hcs
    unfold maxLen at hm
    omega
end Go.Rt
namespace Go.Proofs.YtadlnmckcnfacaaGreat
open Go.ChangeShapes Go.WideShapes Go.RowKit Go.Rt
variable {H : Type} {enc : TypeId × Value → H} {P : Program} {w : World} {spare : Nat → Bool} {held : Bool}
structure TenV where
  a : Option Addr
  c : Nat
  b : Option Addr
  d : Nat
  xs : List Int
  ys : List Int
end Go.Proofs.YtadlnmckcnfacaaGreat
namespace Go.Proofs.YtadlnmckcnfacaaGreat
open Go.ChangeShapes Go.WideShapes Go.RowKit Go.Rt
theorem own1 : ownKnob Tryz.prog.godebug = none := by kernel_rfl
theorem laidOut1 : laidOutB Tryz.prog = true := by kernel_rfl
theorem cellsI1 : Tryz.prog.cellsOf 2 = 1 := by kernel_rfl
theorem cellsN1 : Tryz.prog.cellsOf 3 = 1 := by kernel_rfl
theorem cellsSl1 : Tryz.prog.cellsOf 23 = 1 := by kernel_rfl
theorem cellsSl2 : Tryz.prog.cellsOf 24 = 1 := by kernel_rfl
theorem cellsT1 : Tryz.prog.cellsOf 26 = 2 := by kernel_rfl
theorem ten_of_trod {H : Type} {enc : TypeId × Value → H} {W : World} {spare : Nat → Bool} {held : Bool} {fuel : Nat} {v0 v1 : Value} {x : DataW H × List MemPlace}
    (h : DataW.trod enc Tryz.prog W 0 spare held fuel 26 [v0, v1] = some x) : ∃ p : TenV, v0 = .slice p.a p.xs.length p.c ∧ v1 = .slice p.b p.ys.length p.d ∧ Ten W W.heap.size p.a p.c p.b p.d p.xs p.ys := by
  obtain ⟨n0, y0, u0, hu0, ht0⟩ := trod_field1 Tryz.underlying26 h 0 _ rfl cellsSl1 (by show 0 < 2; omega)
  obtain ⟨n1, y1, u1, hu1, ht1⟩ := trod_field1 Tryz.underlying26 h 1 _ rfl cellsSl2 (by show 1 < 2; omega)
  have e0 : v0 = u0 := by simpa using hu0
  have e1 : v1 = u1 := by simpa using hu1
  subst e0; subst e1
  obtain ⟨a, xs, c, rfl, hI, hc, hc2⟩ := trod_ints_cap Tryz.underlying23 Tryz.underlying3 cellsN1 ht0
  obtain ⟨b, ys, d, rfl, hI2, hd, hd2⟩ := trod_ints_cap Tryz.underlying24 Tryz.underlying2 cellsI1 ht1
  exact ⟨⟨a, c, b, d, xs, ys⟩, rfl, rfl, hI, hI2, hc, hc2, hd, hd2⟩
end Go.Proofs.YtadlnmckcnfacaaGreat
namespace Go.Proofs.YtadlnmckcnfacaaGreat
open Go.RowKit Go.Rt
theorem ints_of_box {W : World} {b n : Nat} {xs : List Int} (h : BoxL W b (xs.map (Value.int .i64))) (hb : b < n) (hl : xs.length ≤ 1000) (hwf : ∀ x ∈ xs, (Lit.int .i64 x).wf = true) : Ints .i64 W n (some ⟨b, 0, none⟩) xs :=
  ⟨by omega, hwf, fun i hi => ⟨b, 0, rfl, hb, by rw [Nat.zero_add]; exact h.cell i _ (by rw [List.getElem?_map, List.getElem?_eq_getElem hi]; rfl)⟩⟩
theorem dig_word {z : Int} (h : -340282366920938463463374607431768211456 ≤ z ∧ z ≤ 340282366920938463463374607431768211456) : (dig 18446744073709551616 z.natAbs).length ≤ 1000000 :=
  Nat.le_trans (dig_len_le (by decide) 3 _ (by have : z.natAbs < 18446744073709551616 ^ 3 := by rw [show (18446744073709551616 : Nat) ^ 3 = 6277101735386680763835789423207666416102355444464034512896 by decide]; omega
                                               exact this)) (by decide)
end Go.Proofs.YtadlnmckcnfacaaGreat
