/- What is read of an argument, with the form's own reach: no slice that is met takes more than an address space. No program in sight. -/
import Derived.Test.YtnafbgkfhojamaaOpen
import Derived.SizedLaws
set_option linter.unusedVariables false
set_option linter.unusedSimpArgs false
namespace Go.Rt
open Go.RowKit Go.ChangeShapes Go.WideShapes Go.Deep
section
variable {H : Type} {enc : TypeId × Value → H} {P : Program} {w : World} {spare : Nat → Bool} {held : Bool}
/-- No slice, string or map in it is above the reach. -/
def WB (P : Program) (t : TypeId) (d : DataW H) : Prop := ∀ n ∈ d.weights P t, n ≤ reachBytes
theorem weightsAll_mem {e : TypeId} : ∀ {ds : List (DataW H)} {d : DataW H}, d ∈ ds → ∀ n ∈ d.weights P e, n ∈ DataW.weightsAll P e ds
  | d0 :: r, d, h, n, hn => by
    simp only [DataW.weightsAll, List.mem_append]
    rcases List.mem_cons.1 h with rfl | h
    · exact .inl hn
    · exact .inr (weightsAll_mem h n hn)
theorem trod_fieldS {t : TypeId} {fs : Array Field} {fuel : Nat} {cs : List Value} {x : DataW H × List MemPlace} (ht : P.underlying t = some (.struct fs))
    (h : DataW.trod enc P w 0 spare held fuel t cs = some x) (hw : WB P t x.1) (i : Nat) (f : Field) (hf : fs[i]? = some f) :
    ∃ n y, DataW.trod enc P w 0 spare held n f.type ((cs.drop f.offset).take (P.cellsOf f.type)) = some y ∧ WB P f.type y.1 := by
  obtain ⟨xs, n, _, rfl, _, hlen, hg⟩ := DataW.trod_struct ht h
  have hi : i < fs.size := (Array.getElem?_eq_some_iff.1 hf).1
  refine ⟨n, xs[i]'(by omega), ?_, fun m hm => ?_⟩
  · rw [hg i f hf, List.getElem?_eq_getElem (by omega)]
  · refine hw m ?_
    show m ∈ DataW.weights P t (.agg (xs.map (·.1)))
    unfold DataW.weights
    rw [ht]
    refine DataW.weights_mem_each (j := i) (t := f.type) (d := (xs[i]'(by omega)).1) ?_ ?_ m hm
    · rw [List.getElem?_map, Array.getElem?_toList, hf]; rfl
    · rw [List.getElem?_map, List.getElem?_eq_getElem (by omega)]; rfl
theorem trod_field1S {t : TypeId} {fs : Array Field} {fuel : Nat} {cs : List Value} {x : DataW H × List MemPlace} (ht : P.underlying t = some (.struct fs))
    (h : DataW.trod enc P w 0 spare held fuel t cs = some x) (hw : WB P t x.1) (i : Nat) (f : Field) (hf : fs[i]? = some f) (h1 : P.cellsOf f.type = 1) (ho : f.offset < cs.length) :
    ∃ n y v, cs[f.offset]? = some v ∧ DataW.trod enc P w 0 spare held n f.type [v] = some y ∧ WB P f.type y.1 := by
  obtain ⟨n, y, hy, hb⟩ := trod_fieldS ht h hw i f hf
  refine ⟨n, y, cs[f.offset], List.getElem?_eq_getElem ho, ?_, hb⟩
  have : (cs.drop f.offset).take (P.cellsOf f.type) = [cs[f.offset]] := by
    rw [h1, List.drop_eq_getElem_cons ho]
    rfl
  rw [← this]
  exact hy
theorem trod_elemsS {t e : TypeId} {fuel : Nat} {v : Value} {x : DataW H × List MemPlace} (ht : P.underlying t = some (.slice e)) (hpos : 0 < P.cellsOf e)
    (h : DataW.trod enc P w 0 spare held fuel t [v] = some x) (hw : WB P t x.1) :
    ∃ a len cap, v = .slice a len cap ∧ len ≤ 9223372036854775807 ∧ ∀ i, i < len → ∃ b off cs' n y, a = some ⟨b, off, none⟩ ∧ b < w.heap.size ∧ cs'.length = P.cellsOf e ∧
      (∀ j, j < P.cellsOf e → w.cell? ⟨b, off + i * P.cellsOf e + j, none⟩ = cs'[j]?) ∧ DataW.trod enc P w 0 spare held n e cs' = some y ∧ WB P e y.1 := by
  rcases DataW.trod_slice ht h with ⟨hcs, _⟩ | ⟨a, len, cap, elems, rest, n, _, hcs, rfl, _, hl, hm, hel, hi, _⟩
  · simp at hcs
    subst hcs
    exact ⟨none, 0, 0, rfl, by omega, by simp⟩
  · simp at hcs
    subst hcs
    refine ⟨some a, len, cap, rfl, by unfold maxLen at hm; omega, fun i hil => ?_⟩
    have get : ∀ k, k < len → ∃ cs' y, w.cells? 0 (a.add (k * P.cellsOf e)) (P.cellsOf e) = some cs' ∧ DataW.trod enc P w 0 spare held n e cs' = some y ∧ elems[k]? = some y := by
      intro k hk
      have hb := hi k hk
      rw [List.getElem?_eq_getElem (by omega)] at hb
      obtain ⟨cs', h1, h2⟩ := Option.bind_eq_some_iff.1 hb
      exact ⟨cs', _, h1, h2, List.getElem?_eq_getElem (by omega)⟩
    obtain ⟨cs', y, hc, hy, hye⟩ := get i hil
    obtain ⟨_, hcl, hat⟩ := World.cells?_some hc
    obtain ⟨b, off, spot⟩ := a
    have hsp : spot = none := by
      obtain ⟨cs0, _, hc0, _, _⟩ := get 0 (by omega)
      obtain ⟨_, hcl0, hat0⟩ := World.cells?_some hc0
      have h0 := hat0 0 hpos
      rw [List.getElem?_eq_getElem (by omega)] at h0
      have := World.cell?_spot h0
      simpa [Addr.add] using this
    subst hsp
    have hcell : ∀ j, j < P.cellsOf e → w.cell? ⟨b, off + i * P.cellsOf e + j, none⟩ = cs'[j]? := by
      intro j hj
      have := hat j hj
      rwa [Addr.add_lit, Addr.add_lit] at this
    have h0 := hcell 0 hpos
    rw [List.getElem?_eq_getElem (by omega)] at h0
    refine ⟨b, off, cs', n, y, rfl, World.block_lt_of_cell? w _ h0, hcl, hcell, hy, fun m hm => hw m ?_⟩
    show m ∈ DataW.weights P t (.slice (elems.map (·.1)) (rest.map (·.1)))
    unfold DataW.weights
    rw [ht]
    simp only [List.mem_cons, List.mem_append]
    exact .inr (.inl (weightsAll_mem (List.mem_map.2 ⟨y, List.mem_of_getElem? hye, rfl⟩) m hm))
theorem trod_intsS {t e : TypeId} {k : IntKind} {fuel : Nat} {v : Value} {x : DataW H × List MemPlace} (ht : P.underlying t = some (.slice e)) (he : P.underlying e = some (.int k)) (hc : P.cellsOf e = 1) (hb : P.bytesOf e = 8)
    (h : DataW.trod enc P w 0 spare held fuel t [v] = some x) (hw : WB P t x.1) : ∃ a xs c, v = .slice a xs.length c ∧ Ints k w w.heap.size a xs ∧ xs.length ≤ c ∧ c ≤ 9223372036854775807 ∧ xs.length ≤ 17592186043904 := by
  obtain ⟨a, xs, c, rfl, hI⟩ := trod_ints ht he hc h
  refine ⟨a, xs, c, rfl, hI, ?_⟩
  rcases open_ints ht he hc h with ⟨hcs, _⟩ | ⟨a, len, cap, zs, hcs, _, hl, hm, hz, hx, hcell, hwf⟩
  · simp at hcs
    obtain ⟨_, h1, h2⟩ := hcs
    rw [h1, h2]
    simp
  · simp at hcs
    obtain ⟨_, h1, h2⟩ := hcs
    have hbd := hw ((zs.take len).length + (zs.drop len).length |> (· * 8)) (by
      rw [hx]
      show _ ∈ DataW.weights P t (.slice (lits k (zs.take len)) (lits k (zs.drop len)))
      unfold DataW.weights
      rw [ht]
      simp only [List.mem_cons, hb]
      exact .inl (by simp [lits]))
    have hlz : len ≤ zs.length := by rw [hz]; split <;> omega
    simp only [List.length_take, List.length_drop] at hbd
    have hr : reachBytes = 140737488351232 := by decide
    rw [hr] at hbd
    unfold maxLen at hm
    omega
end
end Go.Rt
