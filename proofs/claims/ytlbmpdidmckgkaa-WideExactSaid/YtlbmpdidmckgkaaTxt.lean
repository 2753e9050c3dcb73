/- Texts: bytes in memory, decimals, what a conversion to a string tells. -/
import Derived.Test.YtlbmpdidmckgkaaN15F
import Derived.Maps.AppendAt
import Derived.Laws.IdiomStrings
set_option linter.unusedVariables false
set_option linter.unusedSimpArgs false
namespace Go.Proofs.Ytlbmpdidmckgkaa
open Go.RowKit Go.Rt

theorem infoU8n : (Try.prog.info? 5).map (fun i => (i.zero, i.size, i.bytes)) = some (some (.int .u8 0), 1, 1) := by kernel_rfl
theorem wf_u8_iff {x : Int} : (Lit.int .u8 x).wf = true ↔ 0 ≤ x ∧ x ≤ 255 := by
  simp [Lit.wf, IntKind.min, IntKind.max, IntKind.signed, IntKind.bits]
/-- The text of these bytes. -/
def txt (xs : List Int) : Value := .string ⟨(xs.map (fun x => UInt8.ofNat x.toNat)).toArray⟩
theorem run_txt {w : World} {hi : Nat} {a : Option Addr} {c : Nat} {xs : List Int} (h : Ints .u8 w hi a xs) (hne : xs ≠ []) : (convert 88 9 (.slice a xs.length c)).run Try.prog w = .ok (txt xs) w := by
  have hl : 0 < xs.length := List.length_pos_iff.2 hne
  obtain ⟨b, off, ha, _, _⟩ := h.cell 0 hl
  subst ha
  have hr : ∀ x ∈ xs, 0 ≤ x ∧ x ≤ 255 := fun x hx => wf_u8_iff.1 (h.wf x hx)
  have := run_convert_bytes_back (P := Try.prog) w 88 9 5 ⟨b, off, none⟩ c (xs.map (fun x => UInt8.ofNat x.toNat)) Try.underlying88 Try.underlying5 Try.underlying9 (fun j hj => by
    have hj2 : j < xs.length := by simpa using hj
    obtain ⟨b', off', hb, _, hc⟩ := h.cell j hj2
    cases hb
    have e : (Addr.add ⟨b, off, none⟩ j) = ⟨b, off + j, none⟩ := by
      unfold Addr.add
      split
      · rename_i h0; subst h0; rfl
      · rfl
    rw [e, hc]
    have hx := hr xs[j] (List.getElem_mem hj2)
    have e2 : xs[j]?.getD 0 = xs[j] := by rw [List.getElem?_eq_getElem hj2]; rfl
    rw [e2]
    simp only [List.getElem_map]
    congr 2
    have e3 : (UInt8.ofNat xs[j].toNat).toNat = xs[j].toNat := by
      rw [UInt8.toNat_ofNat']
      exact Nat.mod_eq_of_lt (by omega)
    rw [e3]
    omega)
  rw [List.length_map] at this
  exact this
def txtN (m : Nat) : List Int := if m = 0 then [48] else ((dig 10 m).map (fun d => 48 + d)).reverse
def txtZ (z : Int) : List Int := if z < 0 then 45 :: txtN z.natAbs else txtN z.natAbs
/-- append of a byte to a row of one's own; where the row lies behind it. -/
theorem append8 {w : World} {ops : Array Oper} {rest : List Oper} {o : Oper} {a : Act} {Q : Exit → Act → World → Prop}
    (base : Nat) (v : Value) (n : Nat) (xs : List Int) (y : Int) (cap : Nat) (s x : Operand) (hg : o.guard = none) (ho : o.op = .call { callee := .builtin .append, args := #[s, x], argTypes := #[88, 88] })
    (hs : a.eval s = v) (hown : w.ownsRow base 5 1 v n (xs.map (Value.int .u8))) (hx : a.eval x = .slice (some ⟨w.heap.size, 0, none⟩) 1 cap) (hn : n ≤ 17592186044415) (hb : base ≤ w.heap.size)
    (hK : ∀ v' w', w'.ownsRow base 5 1 v' (n + 1) ((xs ++ [y]).map (Value.int .u8)) → (∀ B W0, B ≤ base → Below B W0 w → Below B W0 w') → w.grownBy w' v.ownBlock → (v'.ownBlock = v.ownBlock ∨ v'.ownBlock = some (w.heap.size + 1)) →
      wpList Try.prog ops Q rest (a.put o.dst v') w') : wpList Try.prog ops Q (o :: rest) a (w.alloc (.cells #[.int .u8 y] 5)) := by
  obtain ⟨i, hi, hz0, hz1, hz2⟩ := info_parts infoU8n
  refine wpList_append_own_at _ hg s x _ ho base 5 i (.int .u8 0) 1 1 Try.underlying88 hi hz0 hz1 hz2 rfl (by decide) v n _ hs (hown.alloc _) ⟨w.heap.size, 0, none⟩ 1 cap [.int .u8 y] hx rfl (cell_one_new _ _ _)
    (by simp [Value.oneCell']) (by unfold maxLen; omega) (by omega) (by simp; omega) ?_
  intro v' w' hown' hgrow _ hob
  refine hK v' w' (by simpa using hown') (fun B W0 hB hbel => ?_) (grown_trans (World.grownBy_alloc w _ _) hgrow) (by simpa using hob)
  have hlt := hown.lt
  refine (hbel.alloc (Nat.le_trans hB hb) _).grown hgrow (by simp; omega) (fun j hj => ?_)
  have := hlt j hj
  omega
/-- A list that lies off a row. -/
def Off (v : Value) (a : Option Addr) (n : Nat) : Prop := n = 0 ∨ ∀ x, a = some x → v.ownBlock ≠ some x.block
theorem ints_grown {k : IntKind} {w w' : World} {a : Option Addr} {xs : List Int} {v : Value} (h : Ints k w w.heap.size a xs) (hg : w.grownBy w' v.ownBlock) (ho : Off v a xs.length) : Ints k w' w'.heap.size a xs :=
  ⟨h.len, h.wf, fun i hi => by
    obtain ⟨b, off, e, hlt, hc⟩ := h.cell i hi
    rcases ho with h0 | h0
    · omega
    · refine ⟨b, off, e, Nat.lt_of_lt_of_le hlt hg.size, ?_⟩
      rw [← hc]
      exact World.cell?_of_block (a := ⟨b, off + i, none⟩) (hg.block b hlt (fun hh => h0 _ e hh.symm))⟩
theorem Off.next {k : IntKind} {w : World} {v v' : Value} {a : Option Addr} {xs : List Int} (h : Off v a xs.length) (hi : Ints k w w.heap.size a xs) (ho : v'.ownBlock = v.ownBlock ∨ v'.ownBlock = some (w.heap.size + 1)) : Off v' a xs.length := by
  rcases h with h | h
  · exact .inl h
  · by_cases hl : xs.length = 0
    · exact .inl hl
    · refine .inr fun x hx he => ?_
      rcases ho with h1 | h1
      · exact h x hx (h1.symm.trans he)
      · obtain ⟨b, off, e, hlt, _⟩ := hi.cell 0 (by omega)
        rw [e] at hx
        injection hx with hx
        subst hx
        rw [h1] at he
        injection he with he
        dsimp only at he
        omega
theorem off_fresh {w : World} {base n B : Nat} {v : Value} {xs : List Value} {a : Option Addr} {m : Nat} (h : w.ownsRow base 5 1 v n xs) (hB : w.heap.size ≤ B) (ha : Fresh B a) : Off v a m := by
  refine .inr fun x hx he => ?_
  have h1 := h.lt x.block he
  have := ha x hx
  omega
theorem hat_grown {w w' : World} {a : Option Addr} {c m : Nat} {v : Value} (h : HAt w w.heap.size a c m) (hg : w.grownBy w' v.ownBlock) (ho : Off v a (dig 4294967296 m).length) : HAt w' w'.heap.size a c m := ⟨ints_grown h.li hg ho, h.c1, h.c2⟩

/-- The digits of a number, least first, with zeros above. -/
theorem dec_trim {D : List Int} {m n : Nat} (hr : Rng 10 D) (hv : valB 10 D = m) (hn : n ≤ D.length) (h0 : ∀ i, n ≤ i → D[i]?.getD 0 = 0) (ht : n = 0 ∨ D[n - 1]?.getD 0 ≠ 0) : D.take n = dig 10 m := by rw [← hv]; exact trim_dig (by decide) hr hn h0 ht
theorem dec_step {D : List Int} {m R r : Nat} (h : valB 10 D + 10 ^ D.length * R = m) (hr : r = R % 10) : valB 10 (D ++ [(r : Int)]) + 10 ^ (D.length + 1) * (R / 10) = m := by
  rw [valB_snoc 10 D _ D.length rfl, Int.toNat_natCast, Nat.pow_succ, Nat.mul_assoc, Nat.add_assoc, ← Nat.mul_add, hr, Nat.mod_add_div]
  exact h
end Go.Proofs.Ytlbmpdidmckgkaa
