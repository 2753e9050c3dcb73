/- A range over a function, whatever its rounds' ends: the statement; the caller keeps its own word on the world (Idn: no round has ended the loop; Ix: a round has). No program in sight. -/
import Derived.Test.YtdpnichgdfpmgaaRangeStop
set_option linter.unusedVariables false
set_option linter.unusedSimpArgs false
namespace Go.Rt
open Go.RowKit
variable {F : Fence} {n : Nat} {P : Program}

theorem wpIn_rangeFunc_any {g : Operand} {ps : Array Tmp} {assign body : Code} {Q : Exit → Act → World → Prop} {a : Act} {w : World}
    (hro : F.round = none) (h1 : 1 ≤ n) {gf : Nat} {lb : Array Value} (hg : a.eval g = .func (.func gf) #[] lb) (hFg : F.fn gf) (eg : ∀ args w, (callFunc gf args).run P w = .ok (.enter gf args) w)
    (D : Nat) (hD : w.heap.size = D) (Idn : World → Prop) (Ix : Code → World → Prop)
    (hcall : ∀ fn (R : LoopState → Option Code → Loop), F.fn fn → R = rangeRec fn a.tmps ps assign body D → CallsIn F (n - 1) P gf (#[.func (.yield (D + 1)) #[] #[]] ++ lb) ((w.alloc (.deferred (some []))).alloc (.loop (R .ready none)))
      fun e W2 => (∃ v, e = .returned v) ∧ ((Idn W2 ∧ W2.heap[D + 1]? = some (.loop (R .ready none))) ∨ ∃ c, Ix c W2 ∧ W2.heap[D + 1]? = some (.loop (R .done (some c)))))
    (hdone : ∀ W2 (o : Obj), o.isCells = false → Idn W2 → Q .normal { a with defers := { target := .collected D, args := #[] } :: a.defers } (W2.putObj (D + 1) o))
    (hstop : ∀ c W2 (o : Obj), o.isCells = false → Ix c W2 → c.wpIn F n P Q { a with defers := { target := .collected D, args := #[] } :: a.defers } (W2.putObj (D + 1) o)) :
    (Code.rangeFunc g ps assign body).wpIn F n P Q a w := by
  subst hD
  refine wpIn_rangeFunc ?_
  intro fn hfn
  rw [hro]
  obtain ⟨W1, hW1⟩ : ∃ W1, (w.alloc (.deferred (some []))).alloc (.loop (rangeRec fn a.tmps ps assign body w.heap.size .ready none)) = W1 := ⟨_, rfl⟩
  have hc := hcall fn _ hfn rfl
  rw [hW1] at hc
  refine ⟨w.heap.size + 1, [{ target := .collected w.heap.size, args := #[] }], W1, { target := .fn (.func gf) lb, args := #[.func (.yield (w.heap.size + 1)) #[] #[]] }, W1, gf,
    #[.func (.yield (w.heap.size + 1)) #[] #[]] ++ lb, W1, ?_, ?_, ?_, ?_, fun _ => h1, ?_⟩
  · rw [← hW1]; exact run_enterLoop_outer _ _ _ _ _
  · simp only [resolve, hg]
    simp [go_sem]
  · intro f' hf'
    simp [Target.leads] at hf'
    subst hf'
    exact hFg
  · simp [invoke, go_sem, eg]
  · refine hc.mono ?_
    rintro e W2 ⟨⟨v, rfl⟩, ⟨hi, hl⟩ | ⟨c, hi, hl⟩⟩
    · exact ⟨none, _, run_endLoop (P := P) hl (by simp [rangeRec]), hdone W2 _ rfl hi⟩
    · exact ⟨some c, _, run_endLoop (P := P) hl (by simp [rangeRec]), hstop c W2 _ rfl hi⟩
end Go.Rt
