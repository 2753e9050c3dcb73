/- Plain: there is a least free place, and how far the places go; what a list of those in the way holds. No program in sight. -/
import Derived.Test.YtdpnichgdfpmgaaQbP
import Derived.Test.YtdpnichgdfpmgaaFr
import Derived.Deep.AppendLies
set_option linter.unusedVariables false
set_option linter.unusedSimpArgs false
namespace Go.Rt
open Go.RowKit
theorem least_nat {S : Buf → Prop} {z : Int} : ∀ (M : Nat), FreeAt S z (M : Int) → ∃ p, Least S z p ∧ p ≤ (M : Int) := by
  intro M
  induction M using Nat.strongRecOn with
  | ind M ih =>
    intro h
    by_cases hx : ∃ r, r < M ∧ FreeAt S z (r : Int)
    · obtain ⟨r, hr, hf⟩ := hx
      obtain ⟨p, hp, hb⟩ := ih r hr hf
      exact ⟨p, hp, by omega⟩
    · refine ⟨M, ⟨by omega, h, fun r r1 r2 hf => hx ⟨r.toNat, by omega, ?_⟩⟩, Int.le_refl _⟩
      rw [Int.toNat_of_nonneg r1]; exact hf
section
variable {L : Nat → Buf} {key : Nat → Int} {g : Nat → Nat} {n : Nat}
theorem tkn_eq (h : Ord key g n) {k : Nat} (hk : k ≤ n) (b c : Buf) : Tkn (PS L g k) g k b c ↔ ∃ m, m < k ∧ c = (L (g m)).put (plK L g m) ∧ meets c b = true := by
  unfold Tkn
  constructor
  · rintro ⟨m, h1, h2, h3⟩; exact ⟨m, h1, by rw [h2, PS_stays h k h1 hk], h3⟩
  · rintro ⟨m, h1, h2, h3⟩; exact ⟨m, h1, by rw [h2, PS_stays h k h1 hk], h3⟩
theorem pl_all (h : Ord key g n) (ok : BufsOk L n) : ∀ k, k < n → Least (Tkn (PS L g k) g k (L (g k))) (L (g k)).sz (plK L g k) ∧ plK L g k ≤ (k : Int) * 65536 := by
  intro k
  induction k using Nat.strongRecOn with
  | ind k ih =>
    intro hk
    have hf : FreeAt (Tkn (PS L g k) g k (L (g k))) (L (g k)).sz ((k * 65536 : Nat) : Int) := fun c hc ho => by
      obtain ⟨m, hm, rfl, _⟩ := (tkn_eq h (by omega) _ _).1 hc
      have h1 := (ih m hm (by omega)).2
      have h2 := (bufOk_iff.1 (ok.2 (g m) (h.lt m (by omega)))).2.2.2.2
      unfold ovl Buf.put at ho
      simp only at ho
      have h3 : ((m + 1 : Nat) : Int) * 65536 ≤ (k : Int) * 65536 := Int.mul_le_mul_of_nonneg_right (by omega) (by decide)
      have h4 : ((k * 65536 : Nat) : Int) = (k : Int) * 65536 := Int.natCast_mul k 65536
      have h5 : ((m + 1 : Nat) : Int) * 65536 = (m : Int) * 65536 + 65536 := by push_cast; rw [Int.add_mul]; rfl
      omega
    obtain ⟨p, hp, hb⟩ := least_nat _ hf
    have e : plK L g k = p := hp.is
    rw [e]
    refine ⟨hp, ?_⟩
    have h4 : ((k * 65536 : Nat) : Int) = (k : Int) * 65536 := Int.natCast_mul k 65536
    omega
theorem plK_bd (h : Ord key g n) (ok : BufsOk L n) {k : Nat} (hk : k < n) : 0 ≤ plK L g k ∧ plK L g k ≤ 67108864 := by
  have h1 := pl_all h ok k hk
  have h2 := ok.1
  have h3 := h1.1.nn
  have h4 : (k : Int) * 65536 ≤ 1024 * 65536 := Int.mul_le_mul_of_nonneg_right (by omega) (by decide)
  omega
theorem pkK_bd (h : Ord key g n) (ok : BufsOk L n) : ∀ k, k ≤ n → 0 ≤ pkK L g k ∧ pkK L g k ≤ 67174400
  | 0, _ => by unfold pkK; omega
  | k + 1, hk => by
    have h1 := pkK_bd h ok k (by omega)
    have h2 := plK_bd h ok (k := k) (by omega)
    have h3 := bufOk_iff.1 (ok.2 (g k) (h.lt k (by omega)))
    rw [pkK]
    split <;> omega
/-- The place that a pass finds is the place of this round. -/
theorem plK_found (h : Ord key g n) {k : Nat} (hk : k < n) {m : Nat} {T T2 : Nat → Buf} {p : Int} (hT : ∀ c, (∃ i, i < m ∧ c = T i) ↔ Tkn (PS L g k) g k (L (g k)) c) (hT2 : ∀ c, (∃ i, i < m ∧ c = T2 i) ↔ ∃ i, i < m ∧ c = T i) (hl : Least (fun c => ∃ i, i < m ∧ c = T2 i) (L (g k)).sz p) : plK L g k = p :=
  (hl.congr fun c => (hT2 c).trans (hT c)).is
end
/-! Those that are in the way, one by one -/
/-- How many of the first j rounds meet b, and which. -/
def tkc (P : Nat → Buf) (g : Nat → Nat) (b : Buf) : Nat → Nat
  | 0 => 0
  | j + 1 => if meets (P (g j)) b = true then tkc P g b j + 1 else tkc P g b j
def tkf (P : Nat → Buf) (g : Nat → Nat) (b : Buf) : Nat → Nat → Buf
  | 0, _ => default
  | j + 1, i => if meets (P (g j)) b = true ∧ i = tkc P g b j then P (g j) else tkf P g b j i
theorem tkc_le (P : Nat → Buf) (g : Nat → Nat) (b : Buf) : ∀ j, tkc P g b j ≤ j
  | 0 => Nat.le_refl _
  | j + 1 => by have := tkc_le P g b j; rw [tkc]; split <;> omega
theorem tkf_old (P : Nat → Buf) (g : Nat → Nat) (b : Buf) (j i : Nat) (h : i < tkc P g b j) : tkf P g b (j + 1) i = tkf P g b j i := by
  rw [tkf, if_neg (fun e => by have := e.2; omega)]
theorem tk_yes {P : Nat → Buf} {g : Nat → Nat} {b : Buf} {j : Nat} (h : meets (P (g j)) b = true) : tkc P g b (j + 1) = tkc P g b j + 1 ∧ flatB4 (tkf P g b (j + 1)) (tkc P g b j + 1) = flatB4 (tkf P g b j) (tkc P g b j) ++ (P (g j)).c := by
  refine ⟨by rw [tkc, if_pos h], ?_⟩
  rw [flatB4, flatB4_cong (M := tkf P g b j) _ (fun i hi => tkf_old P g b j i hi)]
  rw [tkf, if_pos ⟨h, rfl⟩]
theorem tk_no {P : Nat → Buf} {g : Nat → Nat} {b : Buf} {j : Nat} (h : meets (P (g j)) b = false) : tkc P g b (j + 1) = tkc P g b j ∧ tkf P g b (j + 1) = tkf P g b j := by
  refine ⟨by rw [tkc, if_neg (by rw [h]; decide)], ?_⟩
  funext i
  rw [tkf, if_neg (fun e => by rw [h] at e; cases e.1)]
theorem tk_mem (P : Nat → Buf) (g : Nat → Nat) (b : Buf) : ∀ j c, (∃ i, i < tkc P g b j ∧ c = tkf P g b j i) ↔ Tkn P g j b c
  | 0, c => ⟨fun ⟨i, h, _⟩ => absurd h (by rw [tkc]; omega), fun ⟨m, h, _⟩ => absurd h (by omega)⟩
  | j + 1, c => by
    have ih := tk_mem P g b j c
    cases hm : meets (P (g j)) b with
    | false =>
      obtain ⟨h1, h2⟩ := tk_no (P := P) (g := g) (b := b) (j := j) hm
      rw [h1, h2, ih]
      unfold Tkn
      constructor
      · rintro ⟨m, a, e, f⟩; exact ⟨m, by omega, e, f⟩
      · rintro ⟨m, a, e, f⟩
        refine ⟨m, ?_, e, f⟩
        by_cases e2 : m = j
        · rw [e2] at e; rw [e, hm] at f; cases f
        · omega
    | true =>
      have h1 := (tk_yes (P := P) (g := g) (b := b) (j := j) hm).1
      rw [h1]
      unfold Tkn at ih ⊢
      constructor
      · rintro ⟨i, a, e⟩
        by_cases e2 : i = tkc P g b j
        · rw [tkf, if_pos ⟨hm, e2⟩] at e
          exact ⟨j, by omega, e, by rw [e]; exact hm⟩
        · rw [tkf_old P g b j i (by omega)] at e
          obtain ⟨m, a2, e3, f⟩ := ih.1 ⟨i, by omega, e⟩
          exact ⟨m, by omega, e3, f⟩
      · rintro ⟨m, a, e, f⟩
        by_cases e2 : m = j
        · exact ⟨tkc P g b j, by omega, by rw [tkf, if_pos ⟨hm, rfl⟩, e, e2]⟩
        · obtain ⟨i, a2, e3⟩ := ih.2 ⟨m, by omega, e, f⟩
          exact ⟨i, by omega, by rw [tkf_old P g b j i a2]; exact e3⟩
/-- A place written in the flat row. -/
theorem flatB4_put (P : Nat → Buf) {n k : Nat} (v : Int) (hk : k < n) : (flatB4 P n).set (k * 4 + 3) (.int .i64 v) = flatB4 (fun i => if i = k then (P i).put v else P i) n := by
  apply List.ext_getElem?
  intro j
  by_cases hj : j < n * 4
  · have hl : (flatB4 P n).length = n * 4 := flatB4_len P n
    have hl2 := flatB4_len (fun i => if i = k then (P i).put v else P i) n
    obtain ⟨v1, h1⟩ : ∃ v1, (flatB4 P n)[j]? = some v1 := ⟨_, List.getElem?_eq_getElem (by omega)⟩
    obtain ⟨v2, h2⟩ : ∃ v2, (flatB4 (fun i => if i = k then (P i).put v else P i) n)[j]? = some v2 := ⟨_, List.getElem?_eq_getElem (by omega)⟩
    obtain ⟨a1, b1⟩ := flatB4_at _ _ _ _ h1
    obtain ⟨a2, b2⟩ := flatB4_at _ _ _ _ h2
    have hm : j % 4 < 4 := Nat.mod_lt _ (by decide)
    by_cases e : j = k * 4 + 3
    · subst e
      rw [List.getElem?_set_self (by omega), h2]
      rw [show (k * 4 + 3) / 4 = k by omega, show (k * 4 + 3) % 4 = 3 by omega, if_pos rfl] at b2
      exact b2
    · rw [List.getElem?_set_ne (fun e2 => e e2.symm), h1, h2]
      by_cases e2 : j / 4 = k
      · rw [if_pos e2] at b2
        have h3 : j % 4 < 3 := by omega
        have : (P (j / 4)).c[j % 4]? = ((P (j / 4)).put v).c[j % 4]? := by
          rcases Nat.lt_trichotomy (j % 4) 1 with c | c | c
          · rw [show j % 4 = 0 by omega]; rfl
          · rw [c]; rfl
          · rw [show j % 4 = 2 by omega]; rfl
        rw [← b1, ← b2, this]
      · rw [if_neg e2] at b2
        rw [← b1, ← b2]
  · rw [List.getElem?_eq_none (by rw [List.length_set, flatB4_len]; omega), List.getElem?_eq_none (by rw [flatB4_len]; omega)]
theorem PS_next (L : Nat → Buf) (g : Nat → Nat) (k : Nat) : (fun i => if i = g k then (PS L g k i).put (plK L g k) else PS L g k i) = PS L g (k + 1) := by
  funext i
  rw [PS]
  rfl

/-! What the walk carries beside a list of structs that grows -/
theorem box_of_own {W : World} {base g m cap size : Nat} {e : TypeId} {xs : List Value} (h : W.ownsRow base e size (.slice (some ⟨g, 0, none⟩) m cap) m xs) : BoxL W g xs := by
  rcases h.2 with ⟨hv, _⟩ | ⟨g2, cap2, cur, hv, hb, ho, h1, h2, h3, h4⟩
  · cases hv
  · simp only [Value.slice.injEq, Option.some.injEq, Addr.mk.injEq] at hv
    obtain ⟨⟨rfl, _⟩, _, rfl⟩ := hv
    refine ⟨fun j v hj => ?_, fun j hj => ?_⟩
    · unfold World.cell?
      rw [ho]
      have hlt := (List.getElem?_eq_some_iff.1 hj).1
      rw [← h4] at hj hlt
      rw [List.length_take] at hlt
      rw [List.getElem?_take_of_lt (by omega)] at hj
      simpa using hj
    · unfold World.frozen?
      rw [ho]
      simp
structure FrT (lo : Nat) (w wr : World) (B : List (Nat × List Value)) (M : List (Nat × Obj)) (e : TypeId) (size : Nat) (v : Value) (n : Nat) (xs : List Value) : Prop where
  fr : Fr lo w wr B [] [] M
  own : wr.ownsRow lo e size v n xs
  nB : ∀ p ∈ B, v.ownBlock ≠ some p.1
  nM : ∀ p ∈ M, v.ownBlock ≠ some p.1
section
variable {lo : Nat} {w wr wr' : World} {B : List (Nat × List Value)} {M : List (Nat × Obj)} {e : TypeId} {size : Nat} {v : Value} {n : Nat} {xs : List Value}
theorem FrT.start (h : Fr lo w wr B [] [] M) : FrT lo w wr B M e size (.slice none 0 0) 0 [] :=
  ⟨h, ⟨by simp, .inl ⟨rfl, rfl⟩⟩, fun p hp => by simp [Value.ownBlock], fun p hp => by simp [Value.ownBlock]⟩
theorem FrT.lt (h : FrT lo w wr B M e size v n xs) {g : Nat} (hg : v.ownBlock = some g) : g < wr.heap.size := (h.own.lt g hg).2
theorem FrT.next (h : FrT lo w wr B M e size v n xs) (hb : Below wr.heap.size wr wr') : FrT lo w wr' B M e size v n xs :=
  ⟨h.fr.next hb, h.own.kept (row := none) ⟨hb.os, hb.tape, hb.output, hb.size, fun k hk _ => hb.block k hk⟩ (by cases hv : v.ownBlock <;> simp), h.nB, h.nM⟩
theorem FrT.box1 (h : FrT lo w wr B M e size v n xs) {b : Nat} (hs : wr.heap.size = b) (vs : List Value) (T : TypeId) : FrT lo w (wr.alloc (.cells vs.toArray T)) (B ++ [(b, vs)]) M e size v n xs := by
  have hb : Below wr.heap.size wr (wr.alloc (.cells vs.toArray T)) := (Below.refl _ _).alloc (Nat.le_refl _) _
  have h1 := h.next hb
  refine ⟨h.fr.box1 hs vs T, h1.own, fun p hp e2 => ?_, h.nM⟩
  rcases List.mem_append.1 hp with hp | hp
  · exact h.nB p hp e2
  · rw [List.mem_singleton.1 hp] at e2
    have := h.lt e2
    simp only at this
    omega
theorem FrT.less (h : FrT lo w wr B M e size v n xs) {B' : List (Nat × List Value)} (hB : B'.Sublist B) : FrT lo w wr B' M e size v n xs :=
  ⟨h.fr.less hB (.refl _) (.refl _) (.refl _), h.own, fun p hp => h.nB p (hB.subset hp), h.nM⟩
/-- The list's block has been written, or the list has grown: the rest stands. -/
theorem FrT.keep (h : FrT lo w wr B M e size v n xs) (hg : wr.grownBy wr' v.ownBlock) : Fr lo w wr' B [] [] M :=
  h.fr.keep hg (fun g e => (h.own.lt g e).1) (fun p hp e => h.nB p hp e.symm) (fun q hq => by simp at hq) (fun p hp e => h.nM p hp e.symm)
theorem FrT.grew (h : FrT lo w wr B M e size v n xs) (hg : wr.grownBy wr' v.ownBlock) {v' : Value} {n' : Nat} {xs' : List Value} (ho : wr'.ownsRow lo e size v' n' xs') (hv : ∀ g, v'.ownBlock = some g → v.ownBlock = some g ∨ wr.heap.size ≤ g) : FrT lo w wr' B M e size v' n' xs' := by
  refine ⟨h.keep hg, ho, fun p hp e => ?_, fun p hp e => ?_⟩
  · rcases hv _ e with e2 | e2
    · exact h.nB p hp e2
    · have := (h.fr.box p hp).2.2; omega
  · rcases hv _ e with e2 | e2
    · exact h.nM p hp e2
    · have := (Array.getElem?_eq_some_iff.1 (h.fr.obj p hp).1).1; omega
end
end Go.Rt
