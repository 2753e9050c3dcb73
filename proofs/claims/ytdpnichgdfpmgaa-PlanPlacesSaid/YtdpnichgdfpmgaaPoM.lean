/- Plain: a loop whose rounds each hold a range over a function: the marks that such rounds leave among the deferred calls. No program in sight. -/
import Derived.Test.YtdpnichgdfpmgaaKept
set_option linter.unusedVariables false
set_option linter.unusedSimpArgs false
namespace Go.Rt
open Go.RowKit
def mkM (Ds : List Nat) : List (Nat × Obj) := Ds.map fun D => (D, .deferred (some []))
def mkD (Ds : List Nat) : List Deferred := Ds.map fun D => { target := .collected D, args := #[] }
theorem Fr.frontM {lo : Nat} {w wr : World} {B : List (Nat × List Value)} {I : List (IntKind × Option Addr × List Int)} {O : List Row} {M : List (Nat × Obj)} {p : Nat × Obj} (h : Fr lo w wr B I O (M ++ [p])) : Fr lo w wr B I O (p :: M) := by
  refine ⟨h.hlo, h.bel, h.box, h.apart, h.ints, h.row, h.apB, h.apO, fun q hq => h.obj q ?_, ?_⟩
  · rcases List.mem_cons.1 hq with rfl | hq
    · simp
    · exact List.mem_append_left _ hq
  · have h1 := List.pairwise_append.1 h.apM
    refine List.pairwise_cons.2 ⟨fun q hq e => h1.2.2 q hq p (by simp) e.symm, h1.1⟩
theorem leaves_marks {F : Fence} {n : Nat} {P : Program} {fn : Func} {tmps : Array Value} {R : Ending → World → Prop} {lo : Nat} {w : World} {B : List (Nat × List Value)} {I : List (IntKind × Option Addr × List Int)} {O : List Row} {u : FrameMode} (hu : u ≠ .run) :
    ∀ (Ds : List Nat) (wr : World), Fr lo w wr B I O (mkM Ds) → (∀ w', Fr lo w w' B I O [] → LeavesInM F n P fn tmps R [] u w') → LeavesInM F n P fn tmps R (mkD Ds) u wr
  | [], wr, h, hk => hk wr h
  | D :: Ds, wr, h, hk => by
    refine ⟨hu, .inl ⟨D, _, rfl, run_takeDeferred (h.m 0 rfl), ?_⟩⟩
    refine leaves_marks hu Ds _ ?_ hk
    have h2 := h.putM 0 rfl (.deferred none) rfl
    exact h2.less (.refl _) (.refl _) (.refl _) (List.sublist_cons_self _ _)
def slotsOf (a : Act) : Nat → Value := fun i => a.tmps.getD i undef
/-- A loop whose rounds leave marks among the deferred calls: the slots as one function. -/
theorem wp_loopF {P : Program} {c : Code} {Q : Exit → Act → World → Prop} {a : Act} {w : World} (I : (Nat → Value) → World → List Deferred → Prop) (fr : (Nat → Value) → Array Value) (μ : (Nat → Value) → Nat)
    (hI : I (slotsOf a) w a.defers) (hf : a.tmps = fr (slotsOf a))
    (round : ∀ (s : Nat → Value) (wr : World) (ds : List Deferred), I s wr ds → c.wp P (Exit.then (fun a' w' => (I (slotsOf a') w' a'.defers ∧ a'.tmps = fr (slotsOf a')) ∧ μ (slotsOf a') < μ s) Q) { tmps := fr s, defers := ds } wr) :
    (Code.loop c).wp P Q a w := by
  refine wp_loop (fun a' w' => ∃ s ds, I s w' ds ∧ a' = { tmps := fr s, defers := ds } ∧ μ (slotsOf a') = μ s) (fun a' _ => μ (slotsOf a')) ?_ ?_
  · refine ⟨slotsOf a, a.defers, hI, ?_, rfl⟩
    cases a
    simp only at hf ⊢
    rw [← hf]
  · rintro a' w' ⟨s, ds, h1, rfl, h3⟩
    have h := round s w' ds h1
    rw [h3]
    refine wp_mono h ?_
    rintro e a2 w2 hq
    cases e with
    | normal =>
      obtain ⟨⟨g1, g2⟩, g3⟩ := hq
      refine ⟨⟨slotsOf a2, a2.defers, g1, ?_, rfl⟩, g3⟩
      cases a2
      simp only at g2 ⊢
      rw [← g2]
    | exit id => exact hq
    | goto l => exact hq
    | ret => exact hq
    | panic ch => exact hq
    | outgrown => exact hq
end Go.Rt
