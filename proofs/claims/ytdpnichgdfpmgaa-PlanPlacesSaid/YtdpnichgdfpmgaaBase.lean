/- Words for memory that several walks share: a slice of integers that reads as a list, a row of the call's own. No program in sight. -/
import Derived.WalkKit
import Derived.Lib.Hide
set_option linter.unusedVariables false
set_option linter.unusedSimpArgs false
namespace Go.Rt
open Go.RowKit

/-- Slice address a leads to the integers xs of kind k, in blocks below hi. -/
structure Ints (k : IntKind) (w : World) (hi : Nat) (a : Option Addr) (xs : List Int) : Prop where
  len : xs.length ≤ 9223372036854775807
  wf : ∀ x ∈ xs, (Lit.int k x).wf = true
  cell : ∀ i, i < xs.length → ∃ b off, a = some ⟨b, off, none⟩ ∧ b < hi ∧ w.cell? ⟨b, off + i, none⟩ = some (.int k (xs[i]?.getD 0))

theorem Ints.nil (k : IntKind) (w : World) (hi : Nat) (a : Option Addr) : Ints k w hi a [] := ⟨by simp, by simp, by simp⟩

theorem Ints.below {k : IntKind} {w w' : World} {hi B : Nat} {a : Option Addr} {xs : List Int} (h : Ints k w hi a xs) (hb : Below B w w') (hB : hi ≤ B) : Ints k w' hi a xs :=
  ⟨h.len, h.wf, fun i hi' => by
    obtain ⟨b, off, ha, hlt, hc⟩ := h.cell i hi'
    exact ⟨b, off, ha, hlt, (hb.cell (p := ⟨b, off + i, none⟩) (Nat.lt_of_lt_of_le hlt hB)).trans hc⟩⟩

theorem Ints.mono {k : IntKind} {w : World} {hi hi' : Nat} {a : Option Addr} {xs : List Int} (h : Ints k w hi a xs) (hh : hi ≤ hi') : Ints k w hi' a xs :=
  ⟨h.len, h.wf, fun i hi' => by
    obtain ⟨b, off, ha, hlt, hc⟩ := h.cell i hi'
    exact ⟨b, off, ha, by omega, hc⟩⟩

theorem wf_i64_iff {x : Int} : (Lit.int .i64 x).wf = true ↔ -9223372036854775808 ≤ x ∧ x ≤ 9223372036854775807 := by
  simp [Lit.wf, IntKind.min, IntKind.max, IntKind.signed, IntKind.bits]
theorem wf_u64_iff {x : Int} : (Lit.int .u64 x).wf = true ↔ 0 ≤ x ∧ x ≤ 18446744073709551615 := by
  simp [Lit.wf, IntKind.min, IntKind.max, IntKind.signed, IntKind.bits]

/-- A value that owns a row of integers: what it reads as, and where. -/
theorem own_cell {k : IntKind} {w : World} {base : Nat} {e : TypeId} {g n cap : Nat} {xs : List Int}
    (h : w.ownsRow base e 1 (.slice (some ⟨g, 0, none⟩) n cap) n (xs.map (Value.int k))) {j : Nat} (hj : j < n) :
    w.cell? ⟨g, j, none⟩ = some (.int k (xs[j]?.getD 0)) := by
  rw [h.cellAt j (by omega)]
  have hl : xs.length = n := by have := h.1; simpa using this
  simp [List.getElem?_map, hl, hj]

theorem own_len {k : IntKind} {w : World} {base : Nat} {e : TypeId} {v : Value} {n : Nat} {xs : List Int}
    (h : w.ownsRow base e 1 v n (xs.map (Value.int k))) : xs.length = n := by have := h.1; simpa using this

/-- A row of the call's own reads as its list. -/
theorem own_ints {k : IntKind} {w : World} {base : Nat} {e : TypeId} {v : Value} {n : Nat} {xs : List Int}
    (h : w.ownsRow base e 1 v n (xs.map (Value.int k))) (hwf : ∀ x ∈ xs, (Lit.int k x).wf = true) :
    ∃ a c, v = .slice a xs.length c ∧ Ints k w w.heap.size a xs := by
  have hl := own_len h
  rcases h.2 with ⟨rfl, rfl⟩ | ⟨g, cap, cur, rfl, hb, hg, hnc, hcm, hcs, _⟩
  · obtain rfl := List.eq_nil_of_length_eq_zero hl
    exact ⟨none, 0, rfl, Ints.nil _ _ _ _⟩
  · subst hl
    refine ⟨_, cap, rfl, by unfold maxLen at hcm; omega, hwf, fun i hi => ⟨g, 0, rfl, (Array.getElem?_eq_some_iff.1 hg).1, ?_⟩⟩
    rw [Nat.zero_add]
    exact own_cell h hi

/-- The same, with the row's first block: where something stands in it. -/
theorem own_shape {w : World} {base : Nat} {e : TypeId} {v : Value} {n : Nat} {xs : List Value}
    (h : w.ownsRow base e 1 v n xs) : ∃ a c, v = .slice a n c ∧ (n = 0 ∨ ∃ g, a = some ⟨g, 0, none⟩ ∧ base ≤ g ∧ g < w.heap.size) := by
  rcases h.2 with ⟨rfl, rfl⟩ | ⟨g, cap, cur, rfl, hb, hg, _⟩
  · exact ⟨none, 0, rfl, .inl rfl⟩
  · exact ⟨_, cap, rfl, .inr ⟨g, rfl, hb, (Array.getElem?_eq_some_iff.1 hg).1⟩⟩

theorem own_below {w w' : World} {base B : Nat} {e : TypeId} {v : Value} {n : Nat} {xs : List Value}
    (h : w.ownsRow base e 1 v n xs) (hb : Below B w w') (hB : w.heap.size ≤ B) : w'.ownsRow base e 1 v n xs :=
  h.kept (row := none) ⟨hb.os, hb.tape, hb.output, hb.size, fun k hk _ => hb.block k (by omega)⟩ (by cases hv : v.ownBlock <;> simp)

theorem own_mono {w : World} {base base' : Nat} {e : TypeId} {v : Value} {n : Nat} {xs : List Value}
    (h : w.ownsRow base e 1 v n xs) (hb : base' ≤ base) : w.ownsRow base' e 1 v n xs := by
  refine ⟨h.1, h.2.imp id ?_⟩
  rintro ⟨g, cap, cur, h1, h2, h3⟩
  exact ⟨g, cap, cur, h1, Nat.le_trans hb h2, h3⟩

theorem ret_int {k : IntKind} {a b : Int} (h : a = b) : Ending.returned (.int k a) = .returned (.int k b) := by rw [h]
theorem ret_bool {a b : Bool} (h : a = b) : Ending.returned (.bool a) = .returned (.bool b) := by rw [h]

theorem bcell {B : Nat} {W w1 : World} (hb : Below B W w1) : (∀ b o, b < B → w1.cell? ⟨b, o, none⟩ = W.cell? ⟨b, o, none⟩) ∧ (∀ b o, b < B → w1.frozen? ⟨b, o, none⟩ = W.frozen? ⟨b, o, none⟩) :=
  ⟨fun b o h => hb.cell (p := ⟨b, o, none⟩) h, fun b o h => hb.frozen (p := ⟨b, o, none⟩) h⟩

/-- The cells of a fresh row 'make' laid: noughts. -/
theorem made_zeros (k : IntKind) (n : Nat) : (madeCells #[Value.int k 0] n).toList = (List.replicate n (0 : Int)).map (Value.int k) := by
  rw [toList_madeCells_one, List.map_replicate]

theorem map_set {k : IntKind} (xs : List Int) (j : Nat) (x : Int) : (xs.map (Value.int k)).set j (.int k x) = (xs.set j x).map (Value.int k) := by
  rw [List.map_set]

theorem cell_one_new (w : World) (v : Value) (t : TypeId) : ∀ j u, [v][j]? = some u → (w.alloc (.cells #[v] t)).cell? ((⟨w.heap.size, 0, none⟩ : Addr).add j) = some u := by
  intro j u hj
  match j, hj with
  | 0, hj =>
    simp at hj
    subst hj
    simp [Addr.add]
theorem grown_trans {w w1 w2 : World} {row : Option Nat} (h : w.grownBy w1 row) (k : w1.grownBy w2 row) : w.grownBy w2 row :=
  ⟨k.os.trans h.os, k.tape.trans h.tape, k.output.trans h.output, Nat.le_trans h.size k.size, fun j hj hne => (k.block j (Nat.lt_of_lt_of_le hj h.size) hne).trans (h.block j hj hne)⟩

/-- A row of ours stays while another, older row of ours is written. -/
theorem own_other {W W' : World} {bx n : Nat} {e : TypeId} {vt vx : Value} {xs : List Value}
    (hx : W.ownsRow bx e 1 vx n xs) (hdis : ∀ g, vt.ownBlock = some g → g < bx) (hg : W.grownBy W' vt.ownBlock) : W'.ownsRow bx e 1 vx n xs := by
  refine hx.kept hg ?_
  cases hv : vx.ownBlock with
  | none => exact .inl rfl
  | some j =>
    refine .inr ?_
    intro e
    have h1 := (hx.lt j hv).1
    have h2 := hdis j e.symm
    omega

/-! ### Laws of the walk, for rows of integers: 'make' and 'append' of one element -/
section
variable {P : Program}

theorem wpl_make {w : World} {ops : Array Oper} {rest : List Oper} {o : Oper} {a : Act} {Q : Exit → Act → World → Prop} (T E : TypeId) (k : IntKind)
    (hinf : (P.info? E).map (fun i => (i.zero, i.size, i.bytes)) = some (some (.int k 0), 1, 8)) (hu : P.underlying T = some (.slice E))
    (base : Nat) (n : Nat) (L C : Int) (l c : Operand) (hg : o.guard = none) (hop : o.op = Op.makeSlice T l c) (hl : a.eval l = .int .i64 L) (hc : a.eval c = .int .i64 C) (hL : L = (n : Int)) (hC : C = (n : Int))
    (hn : n ≤ 17592186044416) (hb : base ≤ w.heap.size)
    (hK : ∀ w', w'.ownsRow base E 1 (.slice (some ⟨w.heap.size, 0, none⟩) n n) n ((List.replicate n (0 : Int)).map (Value.int k)) → (∀ B, B ≤ w.heap.size → Below B w w') → w'.heap.size = w.heap.size + 1 →
      wpList P ops Q rest (a.put o.dst (.slice (some ⟨w.heap.size, 0, none⟩) n n)) w') : wpList P ops Q (o :: rest) a w := by
  obtain ⟨i, hi, hz0, hz1, hz2⟩ := info_parts hinf
  refine wpList_plain hg fun K hK' => ?_
  subst hL; subst hC
  have hr := run_make (P := P) w T E i (.int k 0) hu hi hz0 .i64 .i64 n n (by omega) (Int.le_refl _) (by rw [hz2]; omega) (by omega)
  simp only [Int.toNat_natCast, hz1, Nat.mul_one, Value.cells] at hr
  unfold Oper.wp
  simp [execOp, hop, hl, hc, hr, Result.andThen]
  refine hK' _ _ (hK _ ?_ (fun B hB => (Below.refl _ _).alloc hB _) (by simp))
  rw [← made_zeros]
  exact World.ownsRow_lit w _ n hb (by unfold maxLen; omega) (by rw [size_madeCells, Nat.mul_one])

theorem wpl_append1 {w : World} {ops : Array Oper} {rest : List Oper} {o : Oper} {a : Act} {Q : Exit → Act → World → Prop} (T E : TypeId) (k : IntKind)
    (hinf : (P.info? E).map (fun i => (i.zero, i.size, i.bytes)) = some (some (.int k 0), 1, 8)) (hu : P.underlying T = some (.slice E))
    (base : Nat) (v : Value) (n : Nat) (xs : List Int) (y : Int) (cap : Nat) (s x : Operand) (hg : o.guard = none) (ho : o.op = .call { callee := .builtin .append, args := #[s, x], argTypes := #[T, T] })
    (hs : a.eval s = v) (hown : w.ownsRow base E 1 v n (xs.map (Value.int k))) (hx : a.eval x = .slice (some ⟨w.heap.size, 0, none⟩) 1 cap) (hn : n ≤ 17592186044415) (hb : base ≤ w.heap.size)
    (hK : ∀ v' w', w'.ownsRow base E 1 v' (n + 1) ((xs ++ [y]).map (Value.int k)) → (∀ B W0, B ≤ base → Below B W0 w → Below B W0 w') → w.grownBy w' v.ownBlock →
      wpList P ops Q rest (a.put o.dst v') w') : wpList P ops Q (o :: rest) a (w.alloc (.cells #[.int k y] E)) := by
  obtain ⟨i, hi, hz0, hz1, hz2⟩ := info_parts hinf
  refine wpList_append_own _ hg s x T ho base E i (.int k 0) 1 8 hu hi hz0 hz1 hz2 rfl (by decide) v n _ hs (hown.alloc _) ⟨w.heap.size, 0, none⟩ 1 cap [.int k y] hx rfl (cell_one_new _ _ _)
    (by simp [Value.oneCell']) (by unfold maxLen; omega) (by omega) (by simp; omega) ?_
  intro v' w' hown' hgrow _
  refine hK v' w' (by simpa using hown') (fun B W0 hB hbel => ?_) (grown_trans (World.grownBy_alloc w _ _) hgrow)
  have hlt := hown.lt
  refine (hbel.alloc (Nat.le_trans hB hb) _).grown hgrow (by simp; omega) (fun j hj => ?_)
  have := hlt j hj
  omega
end
end Go.Rt
