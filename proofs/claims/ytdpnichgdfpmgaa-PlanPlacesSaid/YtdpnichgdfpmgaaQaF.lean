/- What a sort's walk carries: a row of numbers in a block, the keys beside it. No program in sight. -/
import Derived.Test.YtdpnichgdfpmgaaFr
import Derived.Test.YtdpnichgdfpmgaaQaP
set_option linter.unusedVariables false
set_option linter.unusedSimpArgs false
namespace Go.Rt
open Go.RowKit

/-- In wr, reached from w by writes into block b: the numbers f 0 .. f (n - 1). -/
structure SF (w wr : World) (b n : Nat) (f : Nat → Nat) : Prop where
  grown : w.grownBy wr (some b)
  val : ∀ i, i < n → wr.cell? ⟨b, i, none⟩ = some (.int .i64 (f i : Nat))
  free : ∀ i, i < n → wr.frozen? ⟨b, i, none⟩ = false
theorem grown_refl (w : World) (r : Option Nat) : w.grownBy w r := ⟨rfl, rfl, rfl, Nat.le_refl _, fun _ _ _ => rfl⟩
theorem below_grown {w w' : World} (hb : Below w.heap.size w w') (r : Option Nat) : w.grownBy w' r := ⟨hb.os, hb.tape, hb.output, hb.size, fun k hk _ => hb.block k hk⟩
section
variable {w wr wr' : World} {b n : Nat} {f g : Nat → Nat}
theorem SF.start (hv : ∀ i, i < n → w.cell? ⟨b, i, none⟩ = some (.int .i64 (f i : Nat))) (hf : ∀ i, i < n → w.frozen? ⟨b, i, none⟩ = false) : SF w w b n f := ⟨grown_refl _ _, hv, hf⟩
theorem SF.next (h : SF w wr b n f) (hb : Below wr.heap.size wr wr') : SF w wr' b n f :=
  ⟨grown_trans h.grown (below_grown hb _), fun i hi => by
    have h1 := h.val i hi
    exact (hb.cell (p := ⟨b, i, none⟩) (World.block_lt_of_cell? wr _ h1)).trans h1, fun i hi => by
    have h1 := h.val i hi
    exact (hb.frozen (p := ⟨b, i, none⟩) (World.block_lt_of_cell? wr _ h1)).trans (h.free i hi)⟩
theorem SF.drew (h : SF w wr b n f) : SF w wr.drew b n f := h.next (Below.drew (Below.refl _ _))
theorem SF.here (h : SF w wr b n f) : SF wr wr b n f := ⟨grown_refl _ _, h.val, h.free⟩
theorem SF.join (h : SF w wr b n f) (k : SF wr wr' b n g) : SF w wr' b n g := ⟨grown_trans h.grown k.grown, k.val, k.free⟩
theorem SF.put (h : SF w wr b n f) (i v : Nat) : SF w (wr.setCell ⟨b, i, none⟩ (.int .i64 (v : Nat))) b n (upd f i v) := by
  refine ⟨grown_trans h.grown (Go.Lib.grownBy_setCell wr b i _), fun k hk => ?_, fun k hk => ?_⟩
  · unfold upd
    by_cases e : k = i
    · subst e
      rw [if_pos rfl]
      have h1 := h.val k hk
      exact BoxL.setCell.BoxL_setCell_same wr b k _ _ h1
    · rw [if_neg e, BoxL.setCell.BoxL_setCell_other wr b i k _ (fun e2 => e e2.symm)]
      exact h.val k hk
  · rw [BoxL.setCell.BoxL_setCell_frozen]
    exact h.free k hk
theorem SF.cast (h : SF w wr b n f) (e : f = g) : SF w wr b n g := by rw [← e]; exact h
end
/-- The keys: the first field of the structs (of four cells each) of a list that lies elsewhere. -/
structure KA (w : World) (b q n : Nat) (al : Option Addr) (lc : Nat) (key : Nat → Int) : Prop where
  qb : q ≠ b
  box : w.cell? ⟨q, 0, none⟩ = some (.slice al n lc)
  kcell : ∀ i, i < n → ∃ lb lo, al = some ⟨lb, lo, none⟩ ∧ lb ≠ b ∧ w.cell? ⟨lb, lo + i * 4, none⟩ = some (.int .i64 (key i))
  kb : ∀ i, i < n → 0 ≤ key i ∧ key i ≤ 100000
  nb : n ≤ 1000000
section
variable {w w' : World} {b q n : Nat} {al : Option Addr} {lc : Nat} {key : Nat → Int}
theorem KA.grown (h : KA w b q n al lc key) (hg : w.grownBy w' (some b)) : KA w' b q n al lc key := by
  refine ⟨h.qb, (hg.cell_far ⟨q, 0, none⟩ (World.block_lt_of_cell? w _ h.box) (fun e => h.qb (by injection e))).trans h.box, fun i hi => ?_, h.kb, h.nb⟩
  obtain ⟨lb, lo, h1, h2, h3⟩ := h.kcell i hi
  exact ⟨lb, lo, h1, h2, (hg.cell_far ⟨lb, lo + i * 4, none⟩ (World.block_lt_of_cell? w _ h3) (fun e => h2 (by injection e))).trans h3⟩
theorem KA.next (h : KA w b q n al lc key) (hb : Below w.heap.size w w') : KA w' b q n al lc key := h.grown (below_grown hb _)
end
end Go.Rt
