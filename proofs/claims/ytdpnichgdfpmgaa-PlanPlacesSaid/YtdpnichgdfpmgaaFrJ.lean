/- XFr: what a drawn region makes, taken up: boxes, a row. -/
import Derived.Test.YtdpnichgdfpmgaaFr
import Derived.Test.YtdpnichgdfpmgaaParts
set_option linter.unusedVariables false
set_option linter.unusedSimpArgs false
namespace Go.Rt
open Go.RowKit
theorem BoxL.of_obj {w : World} {b : Nat} {vs : List Value} {T : TypeId} (h : w.heap[b]? = some (.cells vs.toArray T)) : BoxL w b vs := by
  refine ⟨fun j v hv => ?_, fun j hj => ?_⟩
  · simp [World.cell?, h, hv]
  · simp [World.frozen?, h]
section
variable {lo : Nat} {w wr wr' : World} {B : List (Nat × List Value)} {I : List (IntKind × Option Addr × List Int)} {O : List Row} {M : List (Nat × Obj)}
theorem Fr.join2 (h : Fr lo w wr B I O M) {B2 : List (Nat × List Value)} {O2 : List Row} {M2 : List (Nat × Obj)} (k : Fr wr.heap.size wr wr' B2 [] O2 M2) : Fr lo w wr' (B ++ B2) I (O ++ O2) (M ++ M2) := by
  have h1 := h.next k.bel
  have hM : ∀ p ∈ M, p.1 < wr.heap.size := fun p hp => (Array.getElem?_eq_some_iff.1 (h.obj p hp).1).1
  refine ⟨h1.hlo, h1.bel, fun p hp => ?_, ?_, h1.ints, fun q hq => ?_, fun p hp q hq e => ?_, ?_, fun p hp => ?_, ?_⟩
  · rcases List.mem_append.1 hp with hp | hp
    · exact h1.box p hp
    · obtain ⟨k1, k2, k3⟩ := k.box p hp
      exact ⟨k1, Nat.le_trans h.hlo k2, k3⟩
  · refine List.pairwise_append.2 ⟨h.apart, k.apart, fun p hp q hq e => ?_⟩
    have h2 := (h.box p hp).2.2
    have h3 := (k.box q hq).2.1
    omega
  · rcases List.mem_append.1 hq with hq | hq
    · exact h1.row q hq
    · exact own_mono (k.row q hq) h.hlo
  · rcases List.mem_append.1 hp with hp | hp
    · rcases List.mem_append.1 hq with hq | hq
      · exact h.apB p hp q hq e
      · have h1 := ((k.row q hq).lt _ e).1
        have h2 := (h.box p hp).2.2
        omega
    · rcases List.mem_append.1 hq with hq | hq
      · have h1 := ((h.row q hq).lt _ e).2
        have h2 := (k.box p hp).2.1
        omega
      · exact k.apB p hp q hq e
  · refine List.pairwise_append.2 ⟨h.apO, k.apO, fun q hq r hr g hg e => ?_⟩
    have h1 := ((k.row r hr).lt _ e).1
    have h2 := ((h.row q hq).lt g hg).2
    omega
  · rcases List.mem_append.1 hp with hp | hp
    · exact h1.obj p hp
    · obtain ⟨k1, k2, k3⟩ := k.obj p hp
      exact ⟨k1, k2, Nat.le_trans h.hlo k3⟩
  · refine List.pairwise_append.2 ⟨h.apM, k.apM, fun p hp q hq e => ?_⟩
    have h2 := hM p hp
    have h3 := (k.obj q hq).2.2
    omega
end
/-- A box that an operation of a drawn region has made. -/
def IsObj (base : Nat) (vs : List Value) (T : TypeId) (u : Value) (W : World) : Prop := ∃ b, u = .pointer (some ⟨b, 0, none⟩) ∧ base ≤ b ∧ W.heap[b]? = some (.cells vs.toArray T)
theorem isObj_carries (base : Nat) (vs : List Value) (T : TypeId) : Carries (IsObj base vs T) := fun u w w' ⟨b, h1, h2, h3⟩ hb =>
  ⟨b, h1, h2, by rw [hb.block b (Array.getElem?_eq_some_iff.1 h3).1]; exact h3⟩
theorem isObj_new (base : Nat) (vs : List Value) (T : TypeId) (w : World) (hb : base ≤ w.heap.size) : IsObj base vs T (.pointer (some ⟨w.heap.size, 0, none⟩)) (w.alloc (.cells vs.toArray T)) :=
  ⟨w.heap.size, rfl, hb, World.alloc_heap_new w _⟩
theorem isRow_carries (base : Nat) (e : TypeId) (n : Nat) (xs : List Value) : Carries (IsRow base e n xs) := fun u w w' ⟨a, c, h1, h2⟩ hb => ⟨a, c, h1, own_below h2 hb (Nat.le_refl _)⟩
/-- Two boxes and a row of another kind, made in a drawn region. -/
theorem Fr.two {W w1 : World} (hb : Below W.heap.size W w1) {b1 b2 n : Nat} {vs1 vs2 xs : List Value} {T1 T2 e : TypeId} {v : Value} (h1 : W.heap.size ≤ b1) (o1 : w1.heap[b1]? = some (.cells vs1.toArray T1)) (h2 : W.heap.size ≤ b2) (o2 : w1.heap[b2]? = some (.cells vs2.toArray T2)) (hne : b1 ≠ b2)
    (hr : w1.ownsRow W.heap.size e 1 v n xs) (he1 : e ≠ T1) (he2 : e ≠ T2) : Fr W.heap.size W w1 [(b1, vs1), (b2, vs2)] [] [⟨e, v, n, xs⟩] [] := by
  have hd : ∀ b vs T, w1.heap[b]? = some (.cells vs T) → e ≠ T → v.ownBlock ≠ some b := fun b vs T ho hT hv => by
    rcases hr.2 with ⟨rfl, _⟩ | ⟨g, cap, cur, rfl, _, hg, _⟩
    · cases hv
    · simp only [Value.ownBlock, Option.some.injEq] at hv
      subst hv
      rw [ho] at hg
      simp only [Option.some.injEq, Obj.cells.injEq] at hg
      exact hT hg.2.1.symm
  refine ⟨hb.size, hb, fun p hp => ?_, ?_, by simp, fun q hq => ?_, fun p hp q hq => ?_, List.pairwise_singleton _ _, by simp, .nil⟩
  · simp only [List.mem_cons, List.not_mem_nil, or_false] at hp
    rcases hp with rfl | rfl
    · exact ⟨BoxL.of_obj o1, h1, (Array.getElem?_eq_some_iff.1 o1).1⟩
    · exact ⟨BoxL.of_obj o2, h2, (Array.getElem?_eq_some_iff.1 o2).1⟩
  · simp [hne]
  · obtain rfl := List.mem_singleton.1 hq
    exact hr
  · obtain rfl := List.mem_singleton.1 hq
    simp only [List.mem_cons, List.not_mem_nil, or_false] at hp
    rcases hp with rfl | rfl
    · exact hd _ _ _ o1 he1
    · exact hd _ _ _ o2 he2
end Go.Rt
