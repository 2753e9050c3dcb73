/- A range over a function whose rounds end by a jump: the statement, and one round of it; the caller keeps its own word on the world. No program in sight. -/
import Derived.RangeFuncNested
import Derived.RangeFuncBound
import Derived.RangeFuncCalls
import Derived.RangeFuncLeaves
set_option linter.unusedVariables false
set_option linter.unusedSimpArgs false
namespace Go.Rt
open Go.RowKit
variable {F : Fence} {n : Nat} {P : Program}

/-- The record of the loop. -/
def rangeRec (fn : FuncId) (tmps : Array Value) (ps : Array Tmp) (assign body : Code) (D : Nat) (st : LoopState) (pe : Option Code) : Loop :=
  { state := st, pending := pe, fn, tmps, params := ps, assign, body, defers := D }

theorem wpIn_rangeFunc_stop {g : Operand} {ps : Array Tmp} {assign body : Code} {Q : Exit → Act → World → Prop} {a : Act} {w : World}
    (hro : F.round = none) (h1 : 1 ≤ n) {gf : Nat} {lb : Array Value} (hg : a.eval g = .func (.func gf) #[] lb) (hFg : F.fn gf) (eg : ∀ args w, (callFunc gf args).run P w = .ok (.enter gf args) w)
    (D : Nat) (hD : w.heap.size = D) (Ix : Code → World → Prop)
    (hcall : ∀ fn (R : LoopState → Option Code → Loop), F.fn fn → R = rangeRec fn a.tmps ps assign body D → CallsIn F (n - 1) P gf (#[.func (.yield (D + 1)) #[] #[]] ++ lb) ((w.alloc (.deferred (some []))).alloc (.loop (R .ready none)))
      fun e W2 => (∃ v, e = .returned v) ∧ ∃ c, Ix c W2 ∧ W2.heap[D + 1]? = some (.loop (R .done (some c))))
    (hstop : ∀ c W2 o, Ix c W2 → c.wpIn F n P Q { a with defers := { target := .collected D, args := #[] } :: a.defers } (W2.putObj (D + 1) o)) :
    (Code.rangeFunc g ps assign body).wpIn F n P Q a w := by
  subst hD
  refine wpIn_rangeFunc ?_
  intro fn hfn
  rw [hro]
  obtain ⟨W1, hW1⟩ : ∃ W1, (w.alloc (.deferred (some []))).alloc (.loop (rangeRec fn a.tmps ps assign body w.heap.size .ready none)) = W1 := ⟨_, rfl⟩
  have hc := hcall fn _ hfn rfl
  rw [hW1] at hc
  refine ⟨w.heap.size + 1, [{ target := .collected w.heap.size, args := #[] }], W1, { target := .fn (.func gf) lb, args := #[.func (.yield (w.heap.size + 1)) #[] #[]] }, W1, gf,
    #[.func (.yield (w.heap.size + 1)) #[] #[]] ++ lb, W1, ?_, ?_, ?_, ?_, fun _ => h1, ?_⟩
  · rw [← hW1]; exact run_enterLoop_outer _ _ _ _ _
  · simp only [resolve, hg]
    simp [go_sem]
  · intro f' hf'
    simp [Target.leads] at hf'
    subst hf'
    exact hFg
  · simp [invoke, go_sem, eg]
  · refine hc.mono ?_
    rintro e W2 ⟨⟨v, rfl⟩, c, hi, hl⟩
    exact ⟨some c, _, run_endLoop (P := P) hl (by simp [rangeRec]), hstop c W2 _ hi⟩

/-- ONE ROUND: the call of yield, where the record is ready. post: what the body's ways out leave. -/
theorem yieldAt_round {fn : FuncId} {tmps : Array Value} {ps : Array Tmp} {assign body : Code} {l D : Nat} {W : World} {args : Array Value} {R : Ending → World → Prop} {rc : LoopState → Option Code → Loop} (hfn : F.fn fn) (hrc : rc = rangeRec fn tmps ps assign body D)
    (hl : W.heap[l]? = some (.loop (rc .ready none))) (hs : args.size = ps.size)
    (h : assign.wpIn (F.inRound l) n P (Exit.then (fun a₁ w₁ => w₁.heap[l]? = some (.loop (rc .ready none)) ∧
        body.wpIn (F.inRound l) n P (fun e a₂ w₂ => match e with
          | .normal => w₂.heap[l]? = some (.loop (rc .busy none)) ∧ R (.returned (.bool true)) (w₂.putObj l (.loop (rc .ready none)))
          | .exit id => w₂.heap[l]? = some (.loop (rc .busy none)) ∧ R (.returned (.bool false)) (w₂.putObj l (.loop (rc .done (some (.exit id)))))
          | _ => False) a₁ (w₁.putObj l (.loop (rc .busy none)))) (fun _ _ _ => False))
      { tmps := (ps.zip args).foldl (fun t (p, v) => t.setIfInBounds p v) tmps, defers := [] } W) :
    YieldAt F n P l args W R := by
  subst hrc
  refine ⟨fn, _, assign, body, run_yield hl hs, roundIn_of_wpIn hfn (wpIn_mono h ?_)⟩
  intro e a₁ w₁ hp
  cases e with
  | normal =>
    obtain ⟨hl1, hb⟩ := hp
    refine ⟨_, run_beginRound hl1 rfl, wpIn_mono hb ?_⟩
    intro e2 a₂ w₂ hp2
    cases e2 with
    | normal =>
      obtain ⟨hl2, hr⟩ := hp2
      exact ⟨_, _, run_endRound (P := P) none hl2, hr⟩
    | exit id =>
      obtain ⟨hl2, hr⟩ := hp2
      exact ⟨_, _, run_endRound (P := P) (some (.exit id)) hl2, hr⟩
    | ret => exact hp2.elim
    | goto t => exact hp2.elim
    | panic ch => exact hp2.elim
    | outgrown => exact hp2.elim
  | ret => exact hp.elim
  | exit id => exact hp.elim
  | goto t => exact hp.elim
  | panic ch => exact hp.elim
  | outgrown => exact hp.elim
end Go.Rt
