/- A range over a function whose body may leave its function; worlds that are the same from a block on; what a walk carries below a block. No program in sight. -/
import Derived.Test.YtdpnichgdfpmgaaRangeAny
import Derived.Test.YtdpnichgdfpmgaaFrJ
set_option linter.unusedVariables false
set_option linter.unusedSimpArgs false
namespace Go.Rt
open Go.RowKit
/-- From block S on nothing has turned that was there. -/
def Kept (S : Nat) (W W' : World) : Prop := W.heap.size ≤ W'.heap.size ∧ ∀ b, S ≤ b → b < W.heap.size → W'.heap[b]? = W.heap[b]?
theorem Kept.refl (S : Nat) (W : World) : Kept S W W := ⟨Nat.le_refl _, fun _ _ _ => rfl⟩
theorem Kept.trans {S : Nat} {W W' W'' : World} (h : Kept S W W') (k : Kept S W' W'') : Kept S W W'' :=
  ⟨Nat.le_trans h.1 k.1, fun b h1 h2 => (k.2 b h1 (Nat.lt_of_lt_of_le h2 h.1)).trans (h.2 b h1 h2)⟩
theorem Kept.mono {S S' : Nat} {W W' : World} (h : Kept S W W') (hS : S ≤ S') : Kept S' W W' := ⟨h.1, fun b h1 h2 => h.2 b (Nat.le_trans hS h1) h2⟩
theorem Kept.of_below {S : Nat} {W W' : World} (h : Below W.heap.size W W') : Kept S W W' := ⟨h.size, fun b _ h2 => h.block b h2⟩
theorem Kept.of_grown {S : Nat} {W W' : World} {row : Option Nat} (h : W.grownBy W' row) (hr : ∀ g, row = some g → g < S) : Kept S W W' :=
  ⟨h.size, fun b h1 h2 => h.block b h2 (fun e => by have := hr b e.symm; omega)⟩
theorem Kept.putObj (S : Nat) (W : World) (l : Nat) (o : Obj) (hl : l < S) : Kept S W (W.putObj l o) := Kept.of_grown (grownBy_putObj' W l o) (fun g e => by injection e; omega)
theorem Kept.cell {S : Nat} {W W' : World} (h : Kept S W W') {p : Addr} {v : Value} (hc : W.cell? p = some v) (hS : S ≤ p.block) (hl : p.block < W.heap.size) : W'.cell? p = some v := by
  have := h.2 p.block hS hl
  unfold World.cell? at hc ⊢
  rw [this]
  exact hc
theorem Kept.ints {S : Nat} {k : IntKind} {W W' : World} {hi : Nat} {a : Option Addr} {xs : List Int} (h : Kept S W W') (hI : Ints k W hi a xs) (hh : hi ≤ W.heap.size) (hS : ∀ b off, a = some ⟨b, off, none⟩ → S ≤ b) : Ints k W' hi a xs :=
  ⟨hI.len, hI.wf, fun i hi' => by
    obtain ⟨b, off, ha, hlt, hc⟩ := hI.cell i hi'
    exact ⟨b, off, ha, hlt, h.cell hc (hS b off ha) (Nat.lt_of_lt_of_le hlt hh)⟩⟩
/-- What a walk carries, all of it below block S. -/
structure FrS (S lo : Nat) (w wr : World) (B : List (Nat × List Value)) (I : List (IntKind × Option Addr × List Int)) (O : List Row) (M : List (Nat × Obj)) : Prop where
  fr : Fr lo w wr B I O M
  lS : lo ≤ S
  sz : S ≤ wr.heap.size
  bB : ∀ p ∈ B, p.1 < S
  bO : ∀ q ∈ O, ∀ g, q.v.ownBlock = some g → g < S
  bM : ∀ p ∈ M, p.1 < S
section
variable {S lo : Nat} {w wr wr' : World} {B : List (Nat × List Value)} {I : List (IntKind × Option Addr × List Int)} {O : List Row} {M : List (Nat × Obj)}
theorem FrS.of (h : Fr lo w wr B I O M) (hM : ∀ p ∈ M, p.1 < wr.heap.size) : FrS wr.heap.size lo w wr B I O M :=
  ⟨h, h.hlo, Nat.le_refl _, fun p hp => (h.box p hp).2.2, fun q hq g hg => ((h.row q hq).lt g hg).2, hM⟩
theorem BoxL.below {W W' : World} {b n : Nat} {vs : List Value} (h : BoxL W b vs) (hb : Below n W W') (hn : b < n) : BoxL W' b vs :=
  ⟨fun j v hv => (hb.cell (p := ⟨b, j, none⟩) hn).trans (h.cell j v hv), fun j hj => (hb.frozen (p := ⟨b, j, none⟩) hn).trans (h.free j hj)⟩
theorem own_belowS {W W' : World} {base n : Nat} {e : TypeId} {v : Value} {k : Nat} {xs : List Value} (h : W.ownsRow base e 1 v k xs) (hb : Below n W W') (hg : ∀ g, v.ownBlock = some g → g < n) : W'.ownsRow base e 1 v k xs := by
  refine ⟨h.1, ?_⟩
  rcases h.2 with hn | ⟨g, cap, cur, rfl, hb2, hgg, rest⟩
  · exact .inl hn
  · refine .inr ⟨g, cap, cur, rfl, hb2, ?_, rest⟩
    rw [hb.block g (hg g rfl)]
    exact hgg
theorem FrS.below (h : FrS S lo w wr B I O M) (hb : Below S wr wr') : FrS S lo w wr' B I O M := by
  have hs := hb.size
  refine ⟨⟨Nat.le_trans h.fr.hlo hs, h.fr.bel.trans (hb.mono h.lS), fun p hp => ?_, h.fr.apart, fun p hp => (h.fr.ints p hp).below hb h.lS, fun q hq => own_belowS (h.fr.row q hq) hb (h.bO q hq), h.fr.apB, h.fr.apO, fun p hp => ?_, h.fr.apM⟩, h.lS, Nat.le_trans h.sz hs, h.bB, h.bO, h.bM⟩
  · obtain ⟨a, b, c⟩ := h.fr.box p hp
    exact ⟨a.below hb (h.bB p hp), b, by omega⟩
  · obtain ⟨a, b, c⟩ := h.fr.obj p hp
    exact ⟨(hb.block p.1 (h.bM p hp)).trans a, b, c⟩
end
theorem BoxL.of_block {W W' : World} {b : Nat} {vs : List Value} (h : BoxL W b vs) (e : W'.heap[b]? = W.heap[b]?) : BoxL W' b vs :=
  ⟨fun j v hv => (World.cell?_of_block (a := ⟨b, j, none⟩) e).trans (h.cell j v hv), fun j hj => (World.frozen?_of_block (a := ⟨b, j, none⟩) e).trans (h.free j hj)⟩
theorem own_of_block {W W' : World} {base : Nat} {e : TypeId} {v : Value} {k : Nat} {xs : List Value} (h : W.ownsRow base e 1 v k xs) (he : ∀ g, v.ownBlock = some g → W'.heap[g]? = W.heap[g]?) : W'.ownsRow base e 1 v k xs := by
  refine ⟨h.1, ?_⟩
  rcases h.2 with hn | ⟨g, cap, cur, rfl, hb2, hgg, rest⟩
  · exact .inl hn
  · refine .inr ⟨g, cap, cur, rfl, hb2, ?_, rest⟩
    rw [he g rfl]
    exact hgg
/-- What lies from block S on, in a world in which nothing has turned from there on. -/
theorem Fr.keptS {S : Nat} {w V V' : World} {B : List (Nat × List Value)} {O : List Row} {M : List (Nat × Obj)} (h : Fr S w V B [] O M) (k : Kept S V V') : Fr S V' V' B [] O M := by
  refine ⟨Nat.le_trans h.hlo k.1, Below.refl _ _, fun p hp => ?_, h.apart, by simp, fun q hq => own_of_block (h.row q hq) (fun g hg => ?_), h.apB, h.apO, fun p hp => ?_, h.apM⟩
  · obtain ⟨a, b, c⟩ := h.box p hp
    exact ⟨a.of_block (k.2 p.1 b c), b, Nat.lt_of_lt_of_le c k.1⟩
  · obtain ⟨a, b⟩ := (h.row q hq).lt g hg
    exact k.2 g a b
  · obtain ⟨a, b, c⟩ := h.obj p hp
    exact ⟨(k.2 p.1 c (Array.getElem?_eq_some_iff.1 a).1).trans a, b, c⟩
theorem Fr.re {lo : Nat} {w V : World} {B : List (Nat × List Value)} {I : List (IntKind × Option Addr × List Int)} {O : List Row} {M : List (Nat × Obj)} (h : Fr lo w V B I O M) : Fr lo V V B I O M :=
  ⟨h.hlo, Below.refl _ _, h.box, h.apart, h.ints, h.row, h.apB, h.apO, h.obj, h.apM⟩
theorem below_putObj (S : Nat) (W : World) (l : Nat) (o : Obj) (hl : S ≤ l) (hS : S ≤ W.heap.size) : Below S W (W.putObj l o) := by
  have hg := grownBy_putObj' W l o
  exact ⟨hg.os, hg.tape, hg.output, hg.size, fun k hk => hg.block k (by omega) (fun e => by injection e; omega)⟩
theorem Ints.putObj {k : IntKind} {W : World} {hi : Nat} {a : Option Addr} {xs : List Int} (h : Ints k W hi a xs) {l : Nat} {o : Obj} (ho : W.heap[l]? = some o) (hc : o.isCells = false) (o' : Obj) : Ints k (W.putObj l o') hi a xs := by
  have hg := grownBy_putObj' W l o'
  refine ⟨h.len, h.wf, fun i hi' => ?_⟩
  obtain ⟨b, off, ha, hlt, hcell⟩ := h.cell i hi'
  refine ⟨b, off, ha, hlt, hg.cell hcell (fun e => ?_)⟩
  injection e with e
  subst e
  have := cells_block hcell ho
  rw [hc] at this
  cases this
section
variable {F : Fence} {n : Nat} {P : Program}
/-- ONE ROUND, where the body may also leave its function ('return' in the body: the jump that is pending is '.ret'). -/
theorem yieldAt_roundR {fn : FuncId} {tmps : Array Value} {ps : Array Tmp} {assign body : Code} {l D : Nat} {W : World} {args : Array Value} {R : Ending → World → Prop} {rc : LoopState → Option Code → Loop} (hfn : F.fn fn) (hrc : rc = rangeRec fn tmps ps assign body D)
    (hl : W.heap[l]? = some (.loop (rc .ready none))) (hs : args.size = ps.size)
    (h : assign.wpIn (F.inRound l) n P (Exit.then (fun a₁ w₁ => w₁.heap[l]? = some (.loop (rc .ready none)) ∧
        body.wpIn (F.inRound l) n P (fun e a₂ w₂ => match e with
          | .normal => w₂.heap[l]? = some (.loop (rc .busy none)) ∧ R (.returned (.bool true)) (w₂.putObj l (.loop (rc .ready none)))
          | .ret => w₂.heap[l]? = some (.loop (rc .busy none)) ∧ R (.returned (.bool false)) (w₂.putObj l (.loop (rc .done (some .ret))))
          | .exit id => w₂.heap[l]? = some (.loop (rc .busy none)) ∧ R (.returned (.bool false)) (w₂.putObj l (.loop (rc .done (some (.exit id)))))
          | _ => False) a₁ (w₁.putObj l (.loop (rc .busy none)))) (fun _ _ _ => False))
      { tmps := (ps.zip args).foldl (fun t (p, v) => t.setIfInBounds p v) tmps, defers := [] } W) :
    YieldAt F n P l args W R := by
  subst hrc
  refine ⟨fn, _, assign, body, run_yield hl hs, roundIn_of_wpIn hfn (wpIn_mono h ?_)⟩
  intro e a₁ w₁ hp
  cases e with
  | normal =>
    obtain ⟨hl1, hb⟩ := hp
    refine ⟨_, run_beginRound hl1 rfl, wpIn_mono hb ?_⟩
    intro e2 a₂ w₂ hp2
    cases e2 with
    | normal =>
      obtain ⟨hl2, hr⟩ := hp2
      exact ⟨_, _, run_endRound (P := P) none hl2, hr⟩
    | exit id =>
      obtain ⟨hl2, hr⟩ := hp2
      exact ⟨_, _, run_endRound (P := P) (some (.exit id)) hl2, hr⟩
    | ret =>
      obtain ⟨hl2, hr⟩ := hp2
      exact ⟨_, _, run_endRound (P := P) (some .ret) hl2, hr⟩
    | goto t => exact hp2.elim
    | panic ch => exact hp2.elim
    | outgrown => exact hp2.elim
  | ret => exact hp.elim
  | exit id => exact hp.elim
  | goto t => exact hp.elim
  | panic ch => exact hp.elim
  | outgrown => exact hp.elim
end
end Go.Rt
namespace Go.Rt
open Go.RowKit
/-- A box and two rows, all of different kinds, made in a drawn region. -/
theorem Fr.boxRows {W w1 : World} (hb : Below W.heap.size W w1) {b1 n n2 : Nat} {vs1 xs xs2 : List Value} {T1 e e2 : TypeId} {v v2 : Value} (h1 : W.heap.size ≤ b1) (o1 : w1.heap[b1]? = some (.cells vs1.toArray T1))
    (hr : w1.ownsRow W.heap.size e 1 v n xs) (hr2 : w1.ownsRow W.heap.size e2 1 v2 n2 xs2) (he1 : e ≠ T1) (he2 : e2 ≠ T1) (he : e ≠ e2) : Fr W.heap.size W w1 [(b1, vs1)] [] [⟨e, v, n, xs⟩, ⟨e2, v2, n2, xs2⟩] [] := by
  have hd : ∀ (e : TypeId) (v : Value) (n : Nat) (xs : List Value), w1.ownsRow W.heap.size e 1 v n xs → ∀ b vs T, w1.heap[b]? = some (.cells vs T) → e ≠ T → v.ownBlock ≠ some b := fun e v n xs hr b vs T ho hT hv => by
    rcases hr.2 with ⟨rfl, _⟩ | ⟨g, cap, cur, rfl, _, hg, _⟩
    · cases hv
    · simp only [Value.ownBlock, Option.some.injEq] at hv
      subst hv
      rw [ho] at hg
      simp only [Option.some.injEq, Obj.cells.injEq] at hg
      exact hT hg.2.1.symm
  refine ⟨hb.size, hb, fun p hp => ?_, List.pairwise_singleton _ _, by simp, fun q hq => ?_, fun p hp q hq => ?_, ?_, by simp, .nil⟩
  · obtain rfl := List.mem_singleton.1 hp
    exact ⟨BoxL.of_obj o1, h1, (Array.getElem?_eq_some_iff.1 o1).1⟩
  · simp only [List.mem_cons, List.not_mem_nil, or_false] at hq
    rcases hq with rfl | rfl
    · exact hr
    · exact hr2
  · obtain rfl := List.mem_singleton.1 hp
    simp only [List.mem_cons, List.not_mem_nil, or_false] at hq
    rcases hq with rfl | rfl
    · exact hd _ _ _ _ hr _ _ _ o1 he1
    · exact hd _ _ _ _ hr2 _ _ _ o1 he2
  · simp only [List.pairwise_cons, List.mem_singleton, forall_eq, List.not_mem_nil, false_implies, implies_true, List.Pairwise.nil, and_true]
    intro g hg hg2
    rcases hr.2 with ⟨rfl, _⟩ | ⟨g1, cap, cur, rfl, _, hgg, _⟩
    · cases hg
    · simp only [Value.ownBlock, Option.some.injEq] at hg
      subst hg
      exact hd _ _ _ _ hr2 _ _ _ hgg (fun e0 => he e0.symm) hg2
end Go.Rt
