import Derived.Test.YtadlnmckcnfacaaGreatVRangeAny
import Derived.Test.YtadlnmckcnfacaaGreatVFrJ
set_option linter.unusedVariables false
set_option linter.unusedSimpArgs false
namespace Go.Rt
open Go.RowKit
def Kept (S : Nat) (W W' : World) : Prop := W.heap.size ≤ W'.heap.size ∧ ∀ b, S ≤ b → b < W.heap.size → W'.heap[b]? = W.heap[b]?
theorem Kept.refl (S : Nat) (W : World) : Kept S W W := ⟨Nat.le_refl _, fun _ _ _ => rfl⟩
theorem Kept.trans {S : Nat} {W W' W'' : World} (h : Kept S W W') (k : Kept S W' W'') : Kept S W W'' :=
 ⟨Nat.le_trans h.1 k.1, fun b h1 h2 => (k.2 b h1 (Nat.lt_of_lt_of_le h2 h.1)).trans (h.2 b h1 h2)⟩
theorem Kept.mono {S S' : Nat} {W W' : World} (h : Kept S W W') (hS : S ≤ S') : Kept S' W W' := ⟨h.1, fun b h1 h2 => h.2 b (Nat.le_trans hS h1) h2⟩
theorem Kept.of_below {S : Nat} {W W' : World} (h : Below W.heap.size W W') : Kept S W W' := ⟨h.size, fun b _ h2 => h.block b h2⟩
theorem Kept.of_grown {S : Nat} {W W' : World} {row : Option Nat} (h : W.grownBy W' row) (hr : ∀ g, row = some g → g < S) : Kept S W W' :=
 ⟨h.size, fun b h1 h2 => h.block b h2 (fun e => by have := hr b e.symm; omega)⟩
theorem Kept.putObj (S : Nat) (W : World) (l : Nat) (o : Obj) (hl : l < S) : Kept S W (W.putObj l o) := Kept.of_grown (grownBy_putObj' W l o) (fun g e => by injection e; omega)
theorem Kept.cell {S : Nat} {W W' : World} (h : Kept S W W') {p : Addr} {v : Value} (hc : W.cell? p = some v) (hS : S ≤ p.block) (hl : p.block < W.heap.size) : W'.cell? p = some v := by
 have := h.2 p.block hS hl
 unfold World.cell? at hc ⊢
 rw [this]
 exact hc
theorem Kept.ints {S : Nat} {k : IntKind} {W W' : World} {hi : Nat} {a : Option Addr} {xs : List Int} (h : Kept S W W') (hI : Ints k W hi a xs) (hh : hi ≤ W.heap.size) (hS : ∀ b off, a = some ⟨b, off, none⟩ → S ≤ b) : Ints k W' hi a xs :=
 ⟨hI.len, hI.wf, fun i hi' => by
  obtain ⟨b, off, ha, hlt, hc⟩ := hI.cell i hi'
  exact ⟨b, off, ha, hlt, h.cell hc (hS b off ha) (Nat.lt_of_lt_of_le hlt hh)⟩⟩
structure FrS (S lo : Nat) (w wr : World) (B : List (Nat × List Value)) (I : List (IntKind × Option Addr × List Int)) (O : List Row) (M : List (Nat × Obj)) : Prop where
 fr : Fr lo w wr B I O M
 lS : lo ≤ S
 sz : S ≤ wr.heap.size
 bB : ∀ p ∈ B, p.1 < S
 bO : ∀ q ∈ O, ∀ g, q.v.ownBlock = some g → g < S
 bM : ∀ p ∈ M, p.1 < S
section
variable {S lo : Nat} {w wr wr' : World} {B : List (Nat × List Value)} {I : List (IntKind × Option Addr × List Int)} {O : List Row} {M : List (Nat × Obj)}
theorem FrS.of (h : Fr lo w wr B I O M) (hM : ∀ p ∈ M, p.1 < wr.heap.size) : FrS wr.heap.size lo w wr B I O M :=
 ⟨h, h.hlo, Nat.le_refl _, fun p hp => (h.box p hp).2.2, fun q hq g hg => ((h.row q hq).lt g hg).2, hM⟩
theorem BoxL.below {W W' : World} {b n : Nat} {vs : List Value} (h : BoxL W b vs) (hb : Below n W W') (hn : b < n) : BoxL W' b vs :=
 ⟨fun j v hv => (hb.cell (p := ⟨b, j, none⟩) hn).trans (h.cell j v hv), fun j hj => (hb.frozen (p := ⟨b, j, none⟩) hn).trans (h.free j hj)⟩
theorem own_belowS {W W' : World} {base n : Nat} {e : TypeId} {v : Value} {k : Nat} {xs : List Value} (h : W.ownsRow base e 1 v k xs) (hb : Below n W W') (hg : ∀ g, v.ownBlock = some g → g < n) : W'.ownsRow base e 1 v k xs := by
 refine ⟨h.1, ?_⟩
 rcases h.2 with hn | ⟨g, cap, cur, rfl, hb2, hgg, rest⟩
 ·exact .inl hn
 ·refine .inr ⟨g, cap, cur, rfl, hb2, ?_, rest⟩
  rw [hb.block g (hg g rfl)]
  exact hgg
theorem FrS.below (h : FrS S lo w wr B I O M) (hb : Below S wr wr') : FrS S lo w wr' B I O M := by
 have hs := hb.size
 refine ⟨⟨Nat.le_trans h.fr.hlo hs, h.fr.bel.trans (hb.mono h.lS), fun p hp => ?_, h.fr.apart, fun p hp => (h.fr.ints p hp).below hb h.lS, fun q hq => own_belowS (h.fr.row q hq) hb (h.bO q hq), h.fr.apB, h.fr.apO, fun p hp => ?_, h.fr.apM⟩, h.lS, Nat.le_trans h.sz hs, h.bB, h.bO, h.bM⟩
 ·obtain ⟨a, b, c⟩ := h.fr.box p hp
  exact ⟨a.below hb (h.bB p hp), b, by omega⟩
 ·obtain ⟨a, b, c⟩ := h.fr.obj p hp
  exact ⟨(hb.block p.1 (h.bM p hp)).trans a, b, c⟩
end
theorem Ints.putObj {k : IntKind} {W : World} {hi : Nat} {a : Option Addr} {xs : List Int} (h : Ints k W hi a xs) {l : Nat} {o : Obj} (ho : W.heap[l]? = some o) (hc : o.isCells = false) (o' : Obj) : Ints k (W.putObj l o') hi a xs := by
 have hg := grownBy_putObj' W l o'
 refine ⟨h.len, h.wf, fun i hi' => ?_⟩
 obtain ⟨b, off, ha, hlt, hcell⟩ := h.cell i hi'
 refine ⟨b, off, ha, hlt, hg.cell hcell (fun e => ?_)⟩
 injection e with e
 subst e
 have := cells_block hcell ho
 rw [hc] at this
 cases this
section
variable {F : Fence} {n : Nat} {P : Program}
theorem yieldAt_roundR {fn : FuncId} {tmps : Array Value} {ps : Array Tmp} {assign body : Code} {l D : Nat} {W : World} {args : Array Value} {R : Ending → World → Prop} {rc : LoopState → Option Code → Loop} (hfn : F.fn fn) (hrc : rc = rangeRec fn tmps ps assign body D)
  (hl : W.heap[l]? = some (.loop (rc .ready none))) (hs : args.size = ps.size)
  (h : assign.wpIn (F.inRound l) n P (Exit.then (fun a₁ w₁ => w₁.heap[l]? = some (.loop (rc .ready none)) ∧
    body.wpIn (F.inRound l) n P (fun e a₂ w₂ => match e with
     | .normal => w₂.heap[l]? = some (.loop (rc .busy none)) ∧ R (.returned (.bool true)) (w₂.putObj l (.loop (rc .ready none)))
     | .ret => w₂.heap[l]? = some (.loop (rc .busy none)) ∧ R (.returned (.bool false)) (w₂.putObj l (.loop (rc .done (some .ret))))
     | .exit id => w₂.heap[l]? = some (.loop (rc .busy none)) ∧ R (.returned (.bool false)) (w₂.putObj l (.loop (rc .done (some (.exit id)))))
     | _ => False) a₁ (w₁.putObj l (.loop (rc .busy none)))) (fun _ _ _ => False))
   { tmps := (ps.zip args).foldl (fun t (p, v) => t.setIfInBounds p v) tmps, defers := [] } W) :
  YieldAt F n P l args W R := by
 subst hrc
 refine ⟨fn, _, assign, body, run_yield hl hs, roundIn_of_wpIn hfn (wpIn_mono h ?_)⟩
 intro e a₁ w₁ hp
 cases e with
 | normal =>
  obtain ⟨hl1, hb⟩ := hp
  refine ⟨_, run_beginRound hl1 rfl, wpIn_mono hb ?_⟩
  intro e2 a₂ w₂ hp2
  cases e2 with
  | normal =>
   obtain ⟨hl2, hr⟩ := hp2
   exact ⟨_, _, run_endRound (P := P) none hl2, hr⟩
  | exit id =>
   obtain ⟨hl2, hr⟩ := hp2
   exact ⟨_, _, run_endRound (P := P) (some (.exit id)) hl2, hr⟩
  | ret =>
   obtain ⟨hl2, hr⟩ := hp2
   exact ⟨_, _, run_endRound (P := P) (some .ret) hl2, hr⟩
  | goto t => exact hp2.elim
  | panic ch => exact hp2.elim
  | outgrown => exact hp2.elim
 | ret => exact hp.elim
 | exit id => exact hp.elim
 | goto t => exact hp.elim
 | panic ch => exact hp.elim
 | outgrown => exact hp.elim
end
end Go.Rt
namespace Go.Rt
open Go.RowKit
end Go.Rt
