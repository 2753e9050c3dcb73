/- What a function's walk carries: variables (boxes), lists that it reads, rows of its own, records of loops. No program in sight. -/
import Derived.Test.YtdpnichgdfpmgaaBase
import Derived.RangeFuncNested
import Derived.Lib.BufferWrite
import Derived.WalkSmall
import Derived.Deep.AppendLies
set_option linter.unusedVariables false
set_option linter.unusedSimpArgs false
namespace Go.Rt
open Go.RowKit

/-- A variable of several cells. -/
structure BoxL (w : World) (b : Nat) (vs : List Value) : Prop where
  cell : ∀ j v, vs[j]? = some v → w.cell? ⟨b, j, none⟩ = some v
  free : ∀ j, j < vs.length → w.frozen? ⟨b, j, none⟩ = false
/-- Values laid into a variable, one by one. -/
def setL (w : World) (b : Nat) : Nat → List Value → World
  | _, [] => w
  | j, v :: vs => setL (w.setCell ⟨b, j, none⟩ v) b (j + 1) vs
theorem BoxL.kept {w w' : World} {b : Nat} {vs : List Value} {row : Option Nat} (h : BoxL w b vs) (hg : w.grownBy w' row) (hb : b < w.heap.size) (hne : some b ≠ row) : BoxL w' b vs :=
  ⟨fun j v hv => (hg.cell_far ⟨b, j, none⟩ hb hne).trans (h.cell j v hv), fun j hj => (hg.frozen_far ⟨b, j, none⟩ hb hne).trans (h.free j hj)⟩
theorem BoxL.lt {w : World} {b : Nat} {vs : List Value} (h : BoxL w b vs) (hv : vs ≠ []) : b < w.heap.size := by
  cases vs with
  | nil => exact absurd rfl hv
  | cons v r => exact World.block_lt_of_cell? w _ (h.cell 0 v rfl)
theorem BoxL.new (w : World) (vs : List Value) (T : TypeId) : BoxL (w.alloc (.cells vs.toArray T)) w.heap.size vs := by
  have hn := World.alloc_heap_new w (.cells vs.toArray T)
  refine ⟨fun j v hv => ?_, fun j hj => ?_⟩
  · unfold World.cell?
    rw [show (w.alloc (.cells vs.toArray T)).heap[(⟨w.heap.size, j, none⟩ : Addr).block]? = _ from hn]
    simpa using hv
  · unfold World.frozen?
    rw [show (w.alloc (.cells vs.toArray T)).heap[(⟨w.heap.size, j, none⟩ : Addr).block]? = _ from hn]
    simp
theorem BoxL.setCell {w : World} {b : Nat} {vs : List Value} (h : BoxL w b vs) (j : Nat) (v : Value) : BoxL (w.setCell ⟨b, j, none⟩ v) b (vs.set j v) := by
  by_cases hj : j < vs.length
  · have hc := h.cell j vs[j] (List.getElem?_eq_getElem hj)
    have hf := h.free j hj
    refine ⟨fun i u hu => ?_, fun i hi => ?_⟩
    · by_cases hij : j = i
      · subst hij
        rw [List.getElem?_set_self hj] at hu
        injection hu with hu
        subst hu
        have h2 := BoxL_setCell_same w b j vs[j] v hc
        exact h2
      · rw [List.getElem?_set_ne hij] at hu
        have := h.cell i u hu
        rw [BoxL_setCell_other w b j i v hij]
        exact this
    · rw [BoxL_setCell_frozen]
      exact h.free i (by simpa using hi)
  · have he : vs.set j v = vs := List.set_eq_of_length_le (by omega)
    rw [he]
    refine ⟨fun i u hu => ?_, fun i hi => ?_⟩
    · have hi : i < vs.length := (List.getElem?_eq_some_iff.1 hu).1
      rw [BoxL_setCell_other w b j i v (by omega)]
      exact h.cell i u hu
    · rw [BoxL_setCell_frozen]
      exact h.free i hi
where
  BoxL_setCell_same (w : World) (b j : Nat) (u v : Value) (h : w.cell? ⟨b, j, none⟩ = some u) : (w.setCell ⟨b, j, none⟩ v).cell? ⟨b, j, none⟩ = some v := by
    simp [go_sem, h]
  BoxL_setCell_other (w : World) (b j i : Nat) (v : Value) (h : j ≠ i) : (w.setCell ⟨b, j, none⟩ v).cell? ⟨b, i, none⟩ = w.cell? ⟨b, i, none⟩ := by
    have h2 : ¬ i = j := fun e => h e.symm
    simp [go_sem, h, h2]
  BoxL_setCell_frozen (w : World) (b j i : Nat) (v : Value) : (w.setCell ⟨b, j, none⟩ v).frozen? ⟨b, i, none⟩ = w.frozen? ⟨b, i, none⟩ := by
    simp [go_sem]
theorem setL_grown (b : Nat) : ∀ (vs : List Value) (j : Nat) (w : World), w.grownBy (setL w b j vs) (some b)
  | [], _, w => ⟨rfl, rfl, rfl, Nat.le_refl _, fun _ _ _ => rfl⟩
  | v :: vs, j, w => grown_trans (Go.Lib.grownBy_setCell w b j v) (setL_grown b vs (j + 1) (w.setCell ⟨b, j, none⟩ v))
theorem setL_box (b : Nat) : ∀ (vs pre us : List Value) (w : World), BoxL w b (pre ++ us) → vs.length = us.length → BoxL (setL w b pre.length vs) b (pre ++ vs)
  | [], pre, us, w, h, hl => by
    have : us = [] := List.eq_nil_of_length_eq_zero hl.symm
    subst this
    exact h
  | v :: vs, pre, u :: us, w, h, hl => by
    have h1 := h.setCell pre.length v
    have e1 : (pre ++ u :: us).set pre.length v = (pre ++ [v]) ++ us := by
      rw [List.set_append_right _ _ (Nat.le_refl _)]
      simp
    rw [e1] at h1
    have h2 := setL_box b vs (pre ++ [v]) us _ h1 (by simpa using hl)
    have e2 : (pre ++ [v]) ++ vs = pre ++ v :: vs := by simp
    rw [e2] at h2
    have e3 : (pre ++ [v]).length = pre.length + 1 := by simp
    rw [e3] at h2
    exact h2
  | _ :: _, _, [], _, _, hl => by simp at hl
theorem BoxL.set {w : World} {b : Nat} {us : List Value} (h : BoxL w b us) (vs : List Value) (hl : vs.length = us.length) : BoxL (setL w b 0 vs) b vs := setL_box b vs [] us w h hl

/-- A row of the function's own. -/
structure Row where
  e : TypeId
  v : Value
  n : Nat
  xs : List Value

/-- In wr, reached from w: the variables B, lists I that lie below lo, rows O and records M; below lo nothing has turned. -/
structure Fr (lo : Nat) (w wr : World) (B : List (Nat × List Value)) (I : List (IntKind × Option Addr × List Int)) (O : List Row) (M : List (Nat × Obj)) : Prop where
  hlo : lo ≤ wr.heap.size
  bel : Below lo w wr
  box : ∀ p ∈ B, BoxL wr p.1 p.2 ∧ lo ≤ p.1 ∧ p.1 < wr.heap.size
  apart : B.Pairwise fun p q => p.1 ≠ q.1
  ints : ∀ p ∈ I, Ints p.1 wr lo p.2.1 p.2.2
  row : ∀ q ∈ O, wr.ownsRow lo q.e 1 q.v q.n q.xs
  apB : ∀ p ∈ B, ∀ q ∈ O, q.v.ownBlock ≠ some p.1
  apO : O.Pairwise fun q r => ∀ g, q.v.ownBlock = some g → r.v.ownBlock ≠ some g
  obj : ∀ p ∈ M, wr.heap[p.1]? = some p.2 ∧ p.2.isCells = false ∧ lo ≤ p.1
  apM : M.Pairwise fun p q => p.1 ≠ q.1

theorem Fr.start {w : World} {I : List (IntKind × Option Addr × List Int)} (h : ∀ p ∈ I, Ints p.1 w w.heap.size p.2.1 p.2.2) : Fr w.heap.size w w [] I [] [] :=
  ⟨Nat.le_refl _, Below.refl _ _, by simp, .nil, h, by simp, by simp, .nil, by simp, .nil⟩
section
variable {lo : Nat} {w wr wr' : World} {B : List (Nat × List Value)} {I : List (IntKind × Option Addr × List Int)} {O : List Row} {M : List (Nat × Obj)}

theorem row_lt {W : World} {base : Nat} {e : TypeId} {v : Value} {n g : Nat} {xs : List Value} (h : W.ownsRow base e 1 v n xs) (hg : v.ownBlock = some g) : base ≤ g ∧ g < W.heap.size := h.lt g hg
theorem cells_block {W : World} {b j : Nat} {v : Value} (h : W.cell? ⟨b, j, none⟩ = some v) {o : Obj} (ho : W.heap[b]? = some o) : o.isCells = true := by
  simp only [World.cell?, ho] at h
  cases o <;> simp_all [Obj.isCells]
theorem row_block {W : World} {base : Nat} {e : TypeId} {v : Value} {n g : Nat} {xs : List Value} (h : W.ownsRow base e 1 v n xs) (hg : v.ownBlock = some g) {o : Obj} (ho : W.heap[g]? = some o) : o.isCells = true := by
  rcases h.2 with ⟨rfl, _⟩ | ⟨g', cap, cur, rfl, _, hb, _⟩
  · simp [Value.ownBlock] at hg
  · simp only [Value.ownBlock, Option.some.injEq] at hg
    subst hg
    rw [hb] at ho
    injection ho with ho
    subst ho
    rfl
/-- Growth that touches none of what is carried. -/
theorem Fr.keep (h : Fr lo w wr B I O M) {r : Option Nat} (hg : wr.grownBy wr' r) (h1 : ∀ g, r = some g → lo ≤ g) (h2 : ∀ p ∈ B, some p.1 ≠ r) (h3 : ∀ q ∈ O, q.v.ownBlock = none ∨ q.v.ownBlock ≠ r) (h4 : ∀ p ∈ M, some p.1 ≠ r) : Fr lo w wr' B I O M := by
  have hs := hg.size
  refine ⟨Nat.le_trans h.hlo hs, h.bel.grown hg h.hlo h1, fun p hp => ?_, h.apart, fun p hp => ?_, fun q hq => ?_, h.apB, h.apO, fun p hp => ?_, h.apM⟩
  · obtain ⟨a, b, c⟩ := h.box p hp
    exact ⟨a.kept hg c (h2 p hp), b, by omega⟩
  · have hi := h.ints p hp
    exact ⟨hi.len, hi.wf, fun i hi' => by
      obtain ⟨b, off, ha, hb, hc⟩ := hi.cell i hi'
      exact ⟨b, off, ha, hb, (hg.cell_far ⟨b, off + i, none⟩ (by have := h.hlo; show b < _; omega) (fun e => by have := h1 b e.symm; omega)).trans hc⟩⟩
  · exact (h.row q hq).kept hg (by
      rcases h3 q hq with e | e
      · exact .inl e
      · exact .inr e)
  · obtain ⟨a, b, c⟩ := h.obj p hp
    exact ⟨(hg.block p.1 (Array.getElem?_eq_some_iff.1 a).1 (h4 p hp)).trans a, b, c⟩
theorem Fr.grown (h : Fr lo w wr B I O M) {r : Option Nat} (hg : wr.grownBy wr' r) (hr : ∀ g, r = some g → wr.heap.size ≤ g) : Fr lo w wr' B I O M :=
  h.keep hg (fun g e => Nat.le_trans h.hlo (hr g e)) (fun p hp e => by have := hr p.1 e.symm; have := (h.box p hp).2.2; omega)
    (fun q hq => by
      cases hv : q.v.ownBlock with
      | none => exact .inl rfl
      | some g => exact .inr fun e => by have h1 := (h.row q hq).lt g hv; have := hr g e.symm; omega)
    (fun p hp e => by have := hr p.1 e.symm; have := (Array.getElem?_eq_some_iff.1 (h.obj p hp).1).1; omega)
theorem Fr.next (h : Fr lo w wr B I O M) (hb : Below wr.heap.size wr wr') : Fr lo w wr' B I O M :=
  h.grown (r := none) ⟨hb.os, hb.tape, hb.output, hb.size, fun k hk _ => hb.block k hk⟩ (fun g e => by cases e)
theorem Fr.drewN (h : Fr lo w wr B I O M) (q : Nat) : Fr lo w (wr.drewN q) B I O M := h.next (below_drewN (Below.refl _ _) q)
theorem Fr.drew (h : Fr lo w wr B I O M) : Fr lo w wr.drew B I O M := h.next (Below.drew (Below.refl _ _))

/-- A new variable. -/
theorem Fr.alloc (h : Fr lo w wr B I O M) (vs : List Value) (T : TypeId) : Fr lo w (wr.alloc (.cells vs.toArray T)) (B ++ [(wr.heap.size, vs)]) I O M := by
  have h1 := h.next ((Below.refl wr.heap.size wr).alloc (Nat.le_refl _) (.cells vs.toArray T))
  refine ⟨h1.hlo, h1.bel, fun p hp => ?_, ?_, h1.ints, h1.row, fun p hp q hq e => ?_, h1.apO, h1.obj, h1.apM⟩
  · rcases List.mem_append.1 hp with hp | hp
    · exact h1.box p hp
    · obtain rfl := List.mem_singleton.1 hp
      exact ⟨BoxL.new wr vs T, h.hlo, by simp⟩
  · refine List.pairwise_append.2 ⟨h.apart, List.pairwise_singleton _ _, fun p hp q hq => ?_⟩
    obtain rfl := List.mem_singleton.1 hq
    have := (h.box p hp).2.2
    show p.1 ≠ wr.heap.size
    omega
  · rcases List.mem_append.1 hp with hp | hp
    · exact h.apB p hp q hq e
    · obtain rfl := List.mem_singleton.1 hp
      have := ((h.row q hq).lt _ e).2
      omega
theorem Fr.box1 (h : Fr lo w wr B I O M) {b : Nat} (hs : wr.heap.size = b) (vs : List Value) (T : TypeId) : Fr lo w (wr.alloc (.cells vs.toArray T)) (B ++ [(b, vs)]) I O M := by
  subst hs; exact h.alloc vs T
/-- A new record. -/
theorem Fr.allocM (h : Fr lo w wr B I O M) (o : Obj) (ho : o.isCells = false) : Fr lo w (wr.alloc o) B I O (M ++ [(wr.heap.size, o)]) := by
  have h1 := h.next ((Below.refl wr.heap.size wr).alloc (Nat.le_refl _) o)
  refine ⟨h1.hlo, h1.bel, h1.box, h1.apart, h1.ints, h1.row, h1.apB, h1.apO, fun p hp => ?_, ?_⟩
  · rcases List.mem_append.1 hp with hp | hp
    · exact h1.obj p hp
    · obtain rfl := List.mem_singleton.1 hp
      exact ⟨World.alloc_heap_new wr o, ho, h.hlo⟩
  · refine List.pairwise_append.2 ⟨h.apM, List.pairwise_singleton _ _, fun p hp q hq => ?_⟩
    obtain rfl := List.mem_singleton.1 hq
    have := (Array.getElem?_eq_some_iff.1 (h.obj p hp).1).1
    show p.1 ≠ wr.heap.size
    omega
theorem Fr.recM (h : Fr lo w wr B I O M) {b : Nat} (hs : wr.heap.size = b) (o : Obj) (ho : o.isCells = false) : Fr lo w (wr.alloc o) B I O (M ++ [(b, o)]) := by
  subst hs; exact h.allocM o ho
theorem pair_ne {α β : Type} {f : α → β} {L : List α} (h : L.Pairwise fun p q => f p ≠ f q) {i : Nat} {x : α} (hx : L[i]? = some x) {y : α} (hy : y ∈ L) (he : f y = f x) : y = x := by
  obtain ⟨hi, rfl⟩ := List.getElem?_eq_some_iff.1 hx
  obtain ⟨j, hj, rfl⟩ := List.getElem_of_mem hy
  have hp := List.pairwise_iff_getElem.1 h
  rcases Nat.lt_trichotomy i j with hl | hl | hl
  · exact absurd he.symm (hp i j hi hj hl)
  · subst hl; rfl
  · exact absurd he (hp j i hj hi hl)
theorem pair_set {α β : Type} {f : α → β} {L : List α} (h : L.Pairwise fun p q => f p ≠ f q) {i : Nat} {x y : α} (hx : L[i]? = some x) (hf : f y = f x) : (L.set i y).Pairwise fun p q => f p ≠ f q := by
  have e : (L.set i y).map f = L.map f := by
    rw [List.map_set]
    apply List.ext_getElem?
    intro k
    by_cases hk : i = k
    · subst hk
      obtain ⟨hi, hx2⟩ := List.getElem?_eq_some_iff.1 hx
      rw [List.getElem?_set_self (by simpa using hi), List.getElem?_map, hx, hf]
      rfl
    · rw [List.getElem?_set_ne hk]
  have h1 : (L.map f).Pairwise (· ≠ ·) := List.pairwise_map.2 h
  rw [← e] at h1
  exact List.pairwise_map.1 h1
theorem mem_set_cases {α : Type} {L : List α} {i : Nat} {y p : α} (h : p ∈ L.set i y) : p = y ∨ ∃ j, j ≠ i ∧ L[j]? = some p := by
  obtain ⟨j, hj, he⟩ := List.getElem_of_mem h
  by_cases hij : i = j
  · subst hij
    rw [List.getElem_set_self] at he
    exact .inl he.symm
  · rw [List.getElem_set_ne hij] at he
    exact .inr ⟨j, Ne.symm hij, by rw [List.getElem?_eq_getElem (by simpa using hj), he]⟩
/-- A record that is written anew. -/
theorem Fr.putM (h : Fr lo w wr B I O M) (i : Nat) {b : Nat} {o : Obj} (hi : M[i]? = some (b, o)) (o' : Obj) (ho : o'.isCells = false) : Fr lo w (wr.putObj b o') B I O (M.set i (b, o')) := by
  have hm := h.obj _ (List.mem_of_getElem? hi)
  have hlt := (Array.getElem?_eq_some_iff.1 hm.1).1
  have hg := grownBy_putObj' wr b o'
  have hB : ∀ p ∈ B, p.2 ≠ [] → p.1 ≠ b := fun p hp hne e => by
    obtain ⟨hbx, _, _⟩ := h.box p hp
    cases hv : p.2 with
    | nil => exact hne hv
    | cons v r =>
      have hc := hbx.cell 0 v (by rw [hv]; rfl)
      rw [e] at hc
      have := cells_block hc hm.1
      rw [hm.2.1] at this
      cases this
  have hs := hg.size
  have hnb : ∀ b2, b2 < lo → some b2 ≠ some b := fun b2 hb2 e => by
    have e2 : b2 = b := by injection e
    have h3 : lo ≤ b := hm.2.2
    omega
  refine ⟨Nat.le_trans h.hlo hs, h.bel.grown hg h.hlo (fun g e => by injection e with e; subst e; exact hm.2.2), fun p hp => ?_, h.apart, fun p hp => ?_, fun q hq => ?_, h.apB, h.apO, fun p hp => ?_, pair_set (f := Prod.fst) h.apM hi rfl⟩
  · obtain ⟨a1, a2, a3⟩ := h.box p hp
    refine ⟨?_, a2, by omega⟩
    by_cases hne : p.2 = []
    · rw [hne]; exact ⟨by simp, by simp⟩
    · exact a1.kept hg a3 (fun e => hB p hp hne (by injection e))
  · have hi' := h.ints p hp
    exact ⟨hi'.len, hi'.wf, fun i hi2 => by
      obtain ⟨b2, off, ha, hb, hc⟩ := hi'.cell i hi2
      exact ⟨b2, off, ha, hb, (hg.cell_far ⟨b2, off + i, none⟩ (by have := h.hlo; show b2 < _; omega) (hnb b2 hb)).trans hc⟩⟩
  · refine (h.row q hq).kept hg ?_
    cases hv : q.v.ownBlock with
    | none => exact .inl rfl
    | some g =>
      refine .inr fun e => ?_
      injection e with e
      subst e
      have := row_block (h.row q hq) hv hm.1
      rw [hm.2.1] at this
      cases this
  · rcases mem_set_cases hp with rfl | ⟨j, hj, hjp⟩
    · exact ⟨World.putObj_heap_same hlt, ho, hm.2.2⟩
    · obtain ⟨a1, a2, a3⟩ := h.obj p (List.mem_of_getElem? hjp)
      have hne : p.1 ≠ b := fun e => by
        have hp2 := List.pairwise_iff_getElem.1 h.apM
        obtain ⟨q1, q2⟩ := List.getElem?_eq_some_iff.1 hjp
        obtain ⟨q3, q4⟩ := List.getElem?_eq_some_iff.1 hi
        rcases Nat.lt_trichotomy j i with hl | hl | hl
        · exact hp2 j i q1 q3 hl (by rw [q2, q4]; exact e)
        · exact hj hl
        · exact hp2 i j q3 q1 hl (by rw [q2, q4]; exact e.symm)
      exact ⟨(hg.block p.1 (Array.getElem?_eq_some_iff.1 a1).1 (fun e => hne (by injection e))).trans a1, a2, a3⟩
/-- Variable i: something of it is written. -/
theorem Fr.wrote (h : Fr lo w wr B I O M) (i : Nat) {b : Nat} {us vs : List Value} (hi : B[i]? = some (b, us)) (hus : us ≠ []) (hg : wr.grownBy wr' (some b)) (hb : BoxL wr' b vs) : Fr lo w wr' (B.set i (b, vs)) I O M := by
  have hm := h.box _ (List.mem_of_getElem? hi)
  have hs := hg.size
  have hnb : ∀ b2, b2 < lo → some b2 ≠ some b := fun b2 hb2 e => by
    have e2 : b2 = b := by injection e
    have h3 : lo ≤ b := hm.2.1
    omega
  refine ⟨Nat.le_trans h.hlo hs, h.bel.grown hg h.hlo (fun g e => by injection e with e; subst e; exact hm.2.1), fun p hp => ?_, pair_set (f := Prod.fst) h.apart hi rfl, fun p hp => ?_, fun q hq => ?_, fun p hp q hq => ?_, h.apO, fun p hp => ?_, h.apM⟩
  · rcases mem_set_cases hp with rfl | ⟨j, hj, hjp⟩
    · have := hm.2.2
      exact ⟨hb, hm.2.1, by show b < _; simp only at this; omega⟩
    · obtain ⟨a1, a2, a3⟩ := h.box p (List.mem_of_getElem? hjp)
      have hne : p.1 ≠ b := fun e => by
        have hp2 := List.pairwise_iff_getElem.1 h.apart
        obtain ⟨q1, q2⟩ := List.getElem?_eq_some_iff.1 hjp
        obtain ⟨q3, q4⟩ := List.getElem?_eq_some_iff.1 hi
        rcases Nat.lt_trichotomy j i with hl | hl | hl
        · exact hp2 j i q1 q3 hl (by rw [q2, q4]; exact e)
        · exact hj hl
        · exact hp2 i j q3 q1 hl (by rw [q2, q4]; exact e.symm)
      exact ⟨a1.kept hg a3 (fun e => hne (by injection e)), a2, by omega⟩
  · have hi' := h.ints p hp
    exact ⟨hi'.len, hi'.wf, fun i hi2 => by
      obtain ⟨b2, off, ha, hb2, hc⟩ := hi'.cell i hi2
      exact ⟨b2, off, ha, hb2, (hg.cell_far ⟨b2, off + i, none⟩ (by have := h.hlo; show b2 < _; omega) (hnb b2 hb2)).trans hc⟩⟩
  · refine (h.row q hq).kept hg ?_
    cases hv : q.v.ownBlock with
    | none => exact .inl rfl
    | some g => exact .inr fun e => h.apB _ (List.mem_of_getElem? hi) q hq (by rw [hv]; exact e)
  · rcases mem_set_cases hp with rfl | ⟨j, _, hjp⟩
    · exact h.apB _ (List.mem_of_getElem? hi) q hq
    · exact h.apB p (List.mem_of_getElem? hjp) q hq
  · obtain ⟨a1, a2, a3⟩ := h.obj p hp
    refine ⟨(hg.block p.1 (Array.getElem?_eq_some_iff.1 a1).1 (fun e => ?_)).trans a1, a2, a3⟩
    injection e with e
    cases us with
    | nil => exact hus rfl
    | cons u r =>
      have hc := hm.1.cell 0 u rfl
      simp only at hc
      rw [← e] at hc
      have := cells_block hc a1
      rw [a2] at this
      cases this
theorem Fr.set (h : Fr lo w wr B I O M) (i : Nat) {b : Nat} {us : List Value} (hi : B[i]? = some (b, us)) (hus : us ≠ []) (vs : List Value) (hl : vs.length = us.length) : Fr lo w (setL wr b 0 vs) (B.set i (b, vs)) I O M :=
  h.wrote i hi hus (setL_grown b vs 0 wr) ((h.box _ (List.mem_of_getElem? hi)).1.set vs hl)
theorem Fr.setC (h : Fr lo w wr B I O M) (i j : Nat) {b : Nat} {us : List Value} (hi : B[i]? = some (b, us)) (hus : us ≠ []) (v : Value) : Fr lo w (wr.setCell ⟨b, j, none⟩ v) (B.set i (b, us.set j v)) I O M :=
  h.wrote i hi hus (Go.Lib.grownBy_setCell wr b j v) ((h.box _ (List.mem_of_getElem? hi)).1.setCell j v)
/-- A call that made a row. -/
theorem Fr.addO (h : Fr lo w wr B I O M) (hb : Below wr.heap.size wr wr') {e : TypeId} {v : Value} {n : Nat} {xs : List Value} (ho : wr'.ownsRow wr.heap.size e 1 v n xs) : Fr lo w wr' B I (O ++ [⟨e, v, n, xs⟩]) M := by
  have h1 := h.next hb
  have hlt := ho.lt
  refine ⟨h1.hlo, h1.bel, h1.box, h1.apart, h1.ints, fun q hq => ?_, fun p hp q hq e => ?_, ?_, h1.obj, h1.apM⟩
  · rcases List.mem_append.1 hq with hq | hq
    · exact h1.row q hq
    · obtain rfl := List.mem_singleton.1 hq
      exact own_mono ho h.hlo
  · rcases List.mem_append.1 hq with hq | hq
    · exact h.apB p hp q hq e
    · obtain rfl := List.mem_singleton.1 hq
      have h1 := (hlt _ e).1
      have h2 := (h.box p hp).2.2
      omega
  · refine List.pairwise_append.2 ⟨h.apO, List.pairwise_singleton _ _, fun q hq r hr g hg e => ?_⟩
    obtain rfl := List.mem_singleton.1 hr
    have h1 := (hlt _ e).1
    have h2 := ((h.row q hq).lt g hg).2
    omega
theorem Fr.addI (h : Fr lo w wr B I O M) {k : IntKind} {a : Option Addr} {xs : List Int} (hi : Ints k wr lo a xs) : Fr lo w wr B (I ++ [(k, a, xs)]) O M :=
  ⟨h.hlo, h.bel, h.box, h.apart, fun p hp => by
    rcases List.mem_append.1 hp with hp | hp
    · exact h.ints p hp
    · obtain rfl := List.mem_singleton.1 hp
      exact hi, h.row, h.apB, h.apO, h.obj, h.apM⟩
/-- A row of none. -/
theorem Fr.addNil (h : Fr lo w wr B I O M) (e : TypeId) : Fr lo w wr B I (O ++ [⟨e, .slice none 0 0, 0, []⟩]) M := by
  refine ⟨h.hlo, h.bel, h.box, h.apart, h.ints, fun q hq => ?_, fun p hp q hq => ?_, ?_, h.obj, h.apM⟩
  · rcases List.mem_append.1 hq with hq | hq
    · exact h.row q hq
    · obtain rfl := List.mem_singleton.1 hq
      exact World.ownsRow_nil _ _ _ _
  · rcases List.mem_append.1 hq with hq | hq
    · exact h.apB p hp q hq
    · obtain rfl := List.mem_singleton.1 hq
      simp [Value.ownBlock]
  · refine List.pairwise_append.2 ⟨h.apO, List.pairwise_singleton _ _, fun q hq r hr g hg e => ?_⟩
    obtain rfl := List.mem_singleton.1 hr
    simp [Value.ownBlock] at e
/-- Row i has been written or has grown. -/
theorem Fr.wroteO (h : Fr lo w wr B I O M) (i : Nat) {e : TypeId} {v : Value} {n : Nat} {xs : List Value} (hi : O[i]? = some ⟨e, v, n, xs⟩) (hg : wr.grownBy wr' v.ownBlock) {v' : Value} {n' : Nat} {xs' : List Value} (ho : wr'.ownsRow lo e 1 v' n' xs') (hv : ∀ g, v'.ownBlock = some g → v.ownBlock = some g ∨ wr.heap.size ≤ g) : Fr lo w wr' B I (O.set i ⟨e, v', n', xs'⟩) M := by
  have hm := h.row _ (List.mem_of_getElem? hi)
  simp only at hm
  have hs := hg.size
  have hpo := List.pairwise_iff_getElem.1 h.apO
  have hoth : ∀ j q, j ≠ i → O[j]? = some q → ∀ g, q.v.ownBlock = some g → v.ownBlock ≠ some g := fun j q hj hq g hqg e => by
    obtain ⟨q1, q2⟩ := List.getElem?_eq_some_iff.1 hq
    obtain ⟨q3, q4⟩ := List.getElem?_eq_some_iff.1 hi
    rcases Nat.lt_trichotomy j i with hl | hl | hl
    · exact hpo j i q1 q3 hl g (by rw [q2]; exact hqg) (by rw [q4]; exact e)
    · exact hj hl
    · exact hpo i j q3 q1 hl g (by rw [q4]; exact e) (by rw [q2]; exact hqg)
  refine ⟨Nat.le_trans h.hlo hs, h.bel.grown hg h.hlo (fun g e => (hm.lt g e).1), fun p hp => ?_, h.apart, fun p hp => ?_, fun q hq => ?_, fun p hp q hq => ?_, ?_, fun p hp => ?_, h.apM⟩
  · obtain ⟨a1, a2, a3⟩ := h.box p hp
    exact ⟨a1.kept hg a3 (fun e => h.apB p hp _ (List.mem_of_getElem? hi) e.symm), a2, by omega⟩
  · have hi' := h.ints p hp
    exact ⟨hi'.len, hi'.wf, fun k hk => by
      obtain ⟨b2, off, ha, hb2, hc⟩ := hi'.cell k hk
      exact ⟨b2, off, ha, hb2, (hg.cell_far ⟨b2, off + k, none⟩ (by have := h.hlo; show b2 < _; omega) (fun e => by have := (hm.lt b2 e.symm).1; omega)).trans hc⟩⟩
  · rcases mem_set_cases hq with rfl | ⟨j, hj, hjq⟩
    · exact ho
    · refine (h.row q (List.mem_of_getElem? hjq)).kept hg ?_
      cases hv2 : q.v.ownBlock with
      | none => exact .inl rfl
      | some g => exact .inr fun e => hoth j q hj hjq g hv2 e.symm
  · rcases mem_set_cases hq with rfl | ⟨j, hj, hjq⟩
    · intro e
      rcases hv _ e with e2 | e2
      · exact h.apB p hp _ (List.mem_of_getElem? hi) e2
      · have := (h.box p hp).2.2; omega
    · exact h.apB p hp q (List.mem_of_getElem? hjq)
  · refine List.pairwise_iff_getElem.2 fun a b ha hb hab g hga hgb => ?_
    have ha' : a < O.length := by simpa using ha
    have hb' : b < O.length := by simpa using hb
    by_cases hai : i = a
    · subst hai
      have hib : i ≠ b := by omega
      rw [List.getElem_set_self] at hga
      rw [List.getElem_set_ne hib] at hgb
      rcases hv g hga with e2 | e2
      · exact hoth b _ (Ne.symm hib) (List.getElem?_eq_getElem hb') g hgb e2
      · have := ((h.row _ (List.getElem_mem hb')).lt g hgb).2; omega
    · rw [List.getElem_set_ne hai] at hga
      by_cases hbi : i = b
      · subst hbi
        rw [List.getElem_set_self] at hgb
        rcases hv g hgb with e2 | e2
        · exact hoth a _ (by omega) (List.getElem?_eq_getElem ha') g hga e2
        · have := ((h.row _ (List.getElem_mem ha')).lt g hga).2; omega
      · rw [List.getElem_set_ne hbi] at hgb
        exact hpo a b ha' hb' hab g hga hgb
  · obtain ⟨a1, a2, a3⟩ := h.obj p hp
    refine ⟨(hg.block p.1 (Array.getElem?_eq_some_iff.1 a1).1 (fun e => ?_)).trans a1, a2, a3⟩
    have := row_block hm e.symm a1
    rw [a2] at this
    cases this
/-- Less is carried. -/
theorem Fr.less (h : Fr lo w wr B I O M) {B' : List (Nat × List Value)} {I' : List (IntKind × Option Addr × List Int)} {O' : List Row} {M' : List (Nat × Obj)} (hB : B'.Sublist B) (hI : I'.Sublist I) (hO : O'.Sublist O) (hM : M'.Sublist M) : Fr lo w wr B' I' O' M' :=
  ⟨h.hlo, h.bel, fun p hp => h.box p (hB.subset hp), h.apart.sublist hB, fun p hp => h.ints p (hI.subset hp), fun q hq => h.row q (hO.subset hq), fun p hp q hq => h.apB p (hB.subset hp) q (hO.subset hq), h.apO.sublist hO, fun p hp => h.obj p (hM.subset hp), h.apM.sublist hM⟩
/-- Row i has been written over, nobody knows how: it is carried no more. -/
theorem Fr.spoil (h : Fr lo w wr B I O M) (i : Nat) {q : Row} (hi : O[i]? = some q) (hg : wr.grownBy wr' q.v.ownBlock) : Fr lo w wr' B I (O.eraseIdx i) M := by
  have hm := h.row _ (List.mem_of_getElem? hi)
  have hpo := List.pairwise_iff_getElem.1 h.apO
  refine (h.less (O' := O.eraseIdx i) (List.Sublist.refl _) (List.Sublist.refl _) (List.eraseIdx_sublist ..) (List.Sublist.refl _)).keep hg (fun g e => (hm.lt g e).1) (fun p hp e => h.apB p hp _ (List.mem_of_getElem? hi) e.symm) (fun r hr => ?_) (fun p hp e => ?_)
  · obtain ⟨j, hj, hjr⟩ := List.mem_eraseIdx_iff_getElem?.1 hr
    cases hv : r.v.ownBlock with
    | none => exact .inl rfl
    | some g =>
      refine .inr fun e => ?_
      obtain ⟨q1, q2⟩ := List.getElem?_eq_some_iff.1 hjr
      obtain ⟨q3, q4⟩ := List.getElem?_eq_some_iff.1 hi
      rcases Nat.lt_trichotomy j i with hl | hl | hl
      · exact hpo j i q1 q3 hl g (by rw [q2]; exact hv) (by rw [q4]; exact e.symm)
      · exact hj hl
      · exact hpo i j q3 q1 hl g (by rw [q4]; exact e.symm) (by rw [q2]; exact hv)
  · obtain ⟨a1, a2, a3⟩ := h.obj p hp
    have := row_block hm e.symm a1
    rw [a2] at this
    cases this
/-- An element of row i is written. -/
theorem Fr.put (h : Fr lo w wr B I O M) (i j : Nat) {e : TypeId} {g n cap : Nat} {xs : List Value} (hi : O[i]? = some ⟨e, .slice (some ⟨g, 0, none⟩) n cap, n, xs⟩) (u : Value) : Fr lo w (wr.setCell ⟨g, j, none⟩ u) B I (O.set i ⟨e, .slice (some ⟨g, 0, none⟩) n cap, n, xs.set j u⟩) M := by
  have hm := h.row _ (List.mem_of_getElem? hi)
  obtain ⟨h1, h2⟩ := World.ownsRow.stored hm j u
  exact h.wroteO i hi h2 h1 (fun g e => .inl e)
theorem Fr.c (h : Fr lo w wr B I O M) (i j : Nat) {b : Nat} {vs : List Value} {v : Value} (hi : B[i]? = some (b, vs)) (hj : vs[j]? = some v) : wr.cell? ⟨b, j, none⟩ = some v := (h.box _ (List.mem_of_getElem? hi)).1.cell j v hj
theorem Fr.f (h : Fr lo w wr B I O M) (i j : Nat) {b : Nat} {vs : List Value} {v : Value} (hi : B[i]? = some (b, vs)) (hj : vs[j]? = some v) : wr.frozen? ⟨b, j, none⟩ = false := (h.box _ (List.mem_of_getElem? hi)).1.free j (List.getElem?_eq_some_iff.1 hj).1
theorem Fr.bl (h : Fr lo w wr B I O M) (i : Nat) {b : Nat} {vs : List Value} (hi : B[i]? = some (b, vs)) : lo ≤ b ∧ b < wr.heap.size := (h.box _ (List.mem_of_getElem? hi)).2
theorem Fr.m (h : Fr lo w wr B I O M) (i : Nat) {b : Nat} {o : Obj} (hi : M[i]? = some (b, o)) : wr.heap[b]? = some o := (h.obj _ (List.mem_of_getElem? hi)).1
theorem Fr.r (h : Fr lo w wr B I O M) (i : Nat) {q : Row} (hi : O[i]? = some q) : wr.ownsRow lo q.e 1 q.v q.n q.xs := h.row _ (List.mem_of_getElem? hi)
theorem Fr.l (h : Fr lo w wr B I O M) (i : Nat) {k : IntKind} {a : Option Addr} {xs : List Int} (hi : I[i]? = some (k, a, xs)) : Ints k wr lo a xs := h.ints _ (List.mem_of_getElem? hi)
theorem Fr.lw (h : Fr lo w wr B I O M) (i : Nat) {k : IntKind} {a : Option Addr} {xs : List Int} (hi : I[i]? = some (k, a, xs)) : Ints k wr wr.heap.size a xs := (h.l i hi).mono h.hlo
/-- A row of integers, as a list that is read. -/
theorem Fr.li (h : Fr lo w wr B I O M) (i : Nat) {k : IntKind} {e : TypeId} {a : Option Addr} {n c : Nat} {xs : List Int} (hi : O[i]? = some ⟨e, .slice a n c, n, xs.map (Value.int k)⟩) (hwf : ∀ x ∈ xs, (Lit.int k x).wf = true) : Ints k wr wr.heap.size a xs := by
  obtain ⟨a', c', he, h'⟩ := own_ints (k := k) (xs := xs) (h.r i hi) hwf
  simp only [Value.slice.injEq] at he
  obtain ⟨rfl, _, _⟩ := he
  exact h'
/-- A cell of row i. -/
theorem Fr.rc (h : Fr lo w wr B I O M) (i j : Nat) {e : TypeId} {g n cap : Nat} {xs : List Value} {u : Value} (hi : O[i]? = some ⟨e, .slice (some ⟨g, 0, none⟩) n cap, n, xs⟩) (hj : xs[j]? = some u) : wr.cell? ⟨g, j, none⟩ = some u ∧ wr.frozen? ⟨g, j, none⟩ = false := by
  have hm := h.r i hi
  simp only at hm
  have hl : j < n * 1 := by rw [← hm.1]; exact (List.getElem?_eq_some_iff.1 hj).1
  exact ⟨(World.ownsRow.cellAt hm j hl).trans hj, World.ownsRow.frozenAt hm j⟩
theorem Fr.rb (h : Fr lo w wr B I O M) (i : Nat) {e : TypeId} {g n m cap : Nat} {xs : List Value} (hi : O[i]? = some ⟨e, .slice (some ⟨g, 0, none⟩) m cap, n, xs⟩) : lo ≤ g ∧ g < wr.heap.size := (h.r i hi).lt g rfl
/-- Behind a call that tells of rows. -/
theorem Fr.join (h : Fr lo w wr B I O M) {O2 : List Row} (k : Fr wr.heap.size wr wr' [] [] O2 []) : Fr lo w wr' B I (O ++ O2) M := by
  have h1 := h.next k.bel
  refine ⟨h1.hlo, h1.bel, h1.box, h1.apart, h1.ints, fun q hq => ?_, fun p hp q hq e => ?_, ?_, h1.obj, h1.apM⟩
  · rcases List.mem_append.1 hq with hq | hq
    · exact h1.row q hq
    · exact own_mono (k.row q hq) h.hlo
  · rcases List.mem_append.1 hq with hq | hq
    · exact h.apB p hp q hq e
    · have h1 := ((k.row q hq).lt _ e).1
      have h2 := (h.box p hp).2.2
      omega
  · refine List.pairwise_append.2 ⟨h.apO, k.apO, fun q hq r hr g hg e => ?_⟩
    have h1 := ((k.row r hr).lt _ e).1
    have h2 := ((h.row q hq).lt g hg).2
    omega
theorem Fr.rows (h : Fr lo w wr B I O M) : Fr lo w wr [] [] O [] := ⟨h.hlo, h.bel, by simp, .nil, by simp, h.row, by simp, h.apO, by simp, .nil⟩
/-- A part of a row of integers, as a list that is read. -/
theorem Fr.sub (h : Fr lo w wr B I O M) (i : Nat) {k : IntKind} {e : TypeId} {g n c : Nat} {xs : List Int} (hi : O[i]? = some ⟨e, .slice (some ⟨g, 0, none⟩) n c, n, xs.map (Value.int k)⟩) (hwf : ∀ x ∈ xs, (Lit.int k x).wf = true) (m l : Nat) (hml : m + l ≤ n) : Ints k wr wr.heap.size (some ⟨g, 0 + m, none⟩) ((xs.drop m).take l) := by
  have hf := h.li i hi hwf
  have hr := h.r i hi
  have hn : xs.length = n := by have := hr.1; simpa using this
  have hl := hf.len
  refine ⟨by simp; omega, fun x hx => hwf x (List.mem_of_mem_drop (List.mem_of_mem_take hx)), fun j hj => ?_⟩
  have hj2 : m + j < xs.length := by simp at hj; omega
  have hjl : j < l := by simp at hj; omega
  obtain ⟨b, off, e1, hlt, hc⟩ := hf.cell (m + j) hj2
  simp only [Option.some.injEq, Addr.mk.injEq, and_true] at e1
  obtain ⟨rfl, rfl⟩ := e1
  refine ⟨g, 0 + m, rfl, hlt, ?_⟩
  rw [Nat.add_assoc, hc, List.getElem?_take, if_pos hjl, List.getElem?_drop]
/-- A row that a call has made, as a value in a drawn region. -/
def IsRow (base : Nat) (e : TypeId) (n : Nat) (xs : List Value) (u : Value) (W : World) : Prop := ∃ a c, u = .slice a n c ∧ W.ownsRow base e 1 (.slice a n c) n xs
end
end Go.Rt
