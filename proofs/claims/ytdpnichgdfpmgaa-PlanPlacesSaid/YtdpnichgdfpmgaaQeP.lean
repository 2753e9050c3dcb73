/- Plain: the reference's way to a place: the next buffer, and the least of the ends that are free. No program in sight. -/
import Derived.Test.YtdpnichgdfpmgaaQdP
import Derived.Test.YtdpnichgdfpmgaaQbV
set_option linter.unusedVariables false
set_option linter.unusedSimpArgs false
namespace Go.Rt
open Go.RowKit Go.Proofs.Ytdpnichgdfpmgaa
def boolV (D : Nat → Bool) (n : Nat) : List Value := (List.range n).map fun i => .bool (D i)
theorem boolV_len (D : Nat → Bool) (n : Nat) : (boolV D n).length = n := by simp [boolV]
theorem boolV_get (D : Nat → Bool) {n i : Nat} (h : i < n) : (boolV D n)[i]? = some (.bool (D i)) := by simp [boolV, h]
theorem boolV_zero (n : Nat) : List.replicate n (Value.bool false) = boolV (fun _ => false) n := by
  apply List.ext_getElem?
  intro j
  by_cases hj : j < n
  · rw [boolV_get _ hj]; simp [hj]
  · rw [List.getElem?_eq_none (by simp; omega), List.getElem?_eq_none (by rw [boolV_len]; omega)]
/-- Has i a place ahead of round r? -/
def dn (g : Nat → Nat) (r : Nat) : Nat → Bool := fun i => (List.range r).any fun m => g m == i
theorem dn_iff {g : Nat → Nat} {r i : Nat} : dn g r i = true ↔ ∃ m, m < r ∧ g m = i := by simp [dn]
theorem dn_set (g : Nat → Nat) (r n : Nat) {i : Nat} (h : i < n) (hi : g r = i) : (boolV (dn g r) n).set i (.bool true) = boolV (dn g (r + 1)) n := by
  apply List.ext_getElem?
  intro j
  by_cases hj : j < n
  · rw [boolV_get _ hj]
    by_cases e : i = j
    · subst e
      rw [List.getElem?_set_self (by rw [boolV_len]; exact hj), show dn g (r + 1) i = true from dn_iff.2 ⟨r, by omega, hi⟩]
    · rw [List.getElem?_set_ne e, boolV_get _ hj]
      congr 2
      rw [Bool.eq_iff_iff, dn_iff, dn_iff]
      constructor
      · rintro ⟨m, h1, h2⟩; exact ⟨m, by omega, h2⟩
      · rintro ⟨m, h1, h2⟩
        refine ⟨m, ?_, h2⟩
        by_cases e2 : m = r
        · rw [e2, hi] at h2; exact absurd h2 e
        · omega
  · rw [List.getElem?_eq_none (by rw [List.length_set, boolV_len]; omega), List.getElem?_eq_none (by rw [boolV_len]; omega)]
theorem boolV_ne (D : Nat → Bool) {n : Nat} (h : 1 ≤ n) : boolV D n ≠ [] := fun e => by
  have := boolV_len D n
  rw [e] at this
  simp at this
  omega
theorem bl_ofbox {W : World} {p n hi : Nat} {P : Nat → Buf} (h : BoxL W p (flatB4 P n)) (hp : p < hi) (hn : n ≤ 1000000) : BL W hi (some ⟨p, 0, none⟩) n P :=
  ⟨by omega, fun i hi2 => ⟨p, 0, rfl, hp, fun j v hv => by rw [Nat.zero_add]; exact h.cell _ _ (flatB4_get P n i j v hi2 hv)⟩⟩
theorem dl_ofbox {W : World} {p n hi : Nat} {D : Nat → Bool} (h : BoxL W p (boolV D n)) (hp : p < hi) : DL W hi (some ⟨p, 0, none⟩) n D :=
  fun i hi2 => ⟨p, 0, rfl, hp, by rw [Nat.zero_add]; exact h.cell _ _ (boolV_get D hi2)⟩
section
variable {L : Nat → Buf} {g : Nat → Nat} {n r : Nat}
/-- What the search of the next one claims ahead of number k. -/
def NextAt (L : Nat → Buf) (g : Nat → Nat) (r k : Nat) (at_ : Int) : Prop :=
  (at_ = -1 ∧ ∀ i, i < k → dn g r i = true) ∨ ∃ a : Nat, at_ = (a : Int) ∧ a < k ∧ dn g r a = false ∧ ∀ i, i < k → dn g r i = false → i = a ∨ ltk (fun i => (L i).fr) a i
theorem NextAt.start : NextAt L g r 0 (-1) := .inl ⟨rfl, fun i h => absurd h (by omega)⟩
theorem NextAt.skip {k : Nat} {at_ : Int} (h : NextAt L g r k at_) (hd : dn g r k = true) : NextAt L g r (k + 1) at_ := by
  rcases h with ⟨h1, h2⟩ | ⟨a, h1, h2, h3, h4⟩
  · refine .inl ⟨h1, fun i hi => ?_⟩
    by_cases e : i = k
    · rw [e]; exact hd
    · exact h2 i (by omega)
  · refine .inr ⟨a, h1, by omega, h3, fun i hi hi2 => ?_⟩
    by_cases e : i = k
    · rw [e, hd] at hi2; cases hi2
    · exact h4 i (by omega) hi2
theorem NextAt.first {k : Nat} {at_ : Int} (h : NextAt L g r k at_) (hd : dn g r k = false) (ha : at_ = -1) : NextAt L g r (k + 1) (k : Int) := by
  rcases h with ⟨h1, h2⟩ | ⟨a, h1, h2, h3, h4⟩
  · refine .inr ⟨k, rfl, by omega, hd, fun i hi hi2 => ?_⟩
    by_cases e : i = k
    · exact .inl e
    · rw [h2 i (by omega)] at hi2; cases hi2
  · omega
theorem NextAt.less {k a : Nat} (h : NextAt L g r k (a : Int)) (hd : dn g r k = false) (hl : (L k).fr < (L a).fr) : NextAt L g r (k + 1) (k : Int) := by
  rcases h with ⟨h1, h2⟩ | ⟨a2, h1, h2, h3, h4⟩
  · omega
  · obtain rfl : a = a2 := by omega
    refine .inr ⟨k, rfl, by omega, hd, fun i hi hi2 => ?_⟩
    by_cases e : i = k
    · exact .inl e
    · have hk : ltk (fun i => (L i).fr) k a := .inl hl
      rcases h4 i (by omega) hi2 with rfl | h5
      · exact .inr hk
      · exact .inr (hk.trans h5)
theorem NextAt.keep {k a : Nat} (h : NextAt L g r k (a : Int)) (hd : dn g r k = false) (hl : ¬ (L k).fr < (L a).fr) : NextAt L g r (k + 1) (a : Int) := by
  rcases h with ⟨h1, h2⟩ | ⟨a2, h1, h2, h3, h4⟩
  · omega
  · obtain rfl : a = a2 := by omega
    refine .inr ⟨a, rfl, by omega, h3, fun i hi hi2 => ?_⟩
    by_cases e : i = k
    · rw [e]
      refine .inr ?_
      show (L a).fr < (L k).fr ∨ ((L a).fr = (L k).fr ∧ a < k)
      omega
    · exact h4 i (by omega) hi2
theorem NextAt.done (og : Ord (fun i => (L i).fr) g n) (hr : r < n) {at_ : Int} (h : NextAt L g r n at_) : at_ = (g r : Int) := by
  have hgr := og.lt r hr
  have hno : dn g r (g r) = false := by
    cases hd : dn g r (g r) with
    | false => rfl
    | true =>
      obtain ⟨m, h1, h2⟩ := dn_iff.1 hd
      have := og.inj (by omega) hr h2
      omega
  rcases h with ⟨h1, h2⟩ | ⟨a, h1, h2, h3, h4⟩
  · rw [h2 _ hgr] at hno; cases hno
  · obtain ⟨q, hq, rfl⟩ := og.onto h2
    have hqr : ¬ q < r := fun c => by
      rw [dn_iff.2 ⟨q, c, rfl⟩] at h3; cases h3
    by_cases e : q = r
    · rw [h1, e]
    · have s1 := og.srt r q (Nat.zero_le _) (by omega) hq
      rcases h4 (g r) hgr hno with e2 | h5
      · rw [h1, ← e2]
      · exact (ltk.irrefl (s1.trans h5)).elim
theorem NextAt.nat {k : Nat} {at_ : Int} (h : NextAt L g r k at_) : at_ = -1 ∨ ∃ a : Nat, at_ = (a : Int) ∧ a < k := by
  rcases h with ⟨h1, _⟩ | ⟨a, h1, h2, _⟩
  · exact .inl h1
  · exact .inr ⟨a, h1, h2⟩
/-- Free, by the marks. -/
theorem freeD_iff (og : Ord (fun i => (L i).fr) g n) (hr : r ≤ n) (y : Buf) (p : Int) : FreeD (PS L g r) (dn g r) n y p ↔ FreeAt (Tkn (PS L g r) g r y) y.sz p := by
  unfold FreeD FreeAt Tkn
  constructor
  · rintro h c ⟨m, h1, rfl, h3⟩
    exact h (g m) (og.lt m (by omega)) (dn_iff.2 ⟨m, h1, rfl⟩) h3
  · intro h i hi hd hm
    obtain ⟨m, h1, rfl⟩ := dn_iff.1 hd
    exact h _ ⟨m, h1, rfl, hm⟩
/-- A place that is looked at ahead of step j: 0, or an end. -/
def CandL (P : Nat → Buf) (D : Nat → Bool) (j : Nat) (p : Int) : Prop := (0 < j ∧ p = 0) ∨ ∃ i, i + 1 < j ∧ D i = true ∧ p = (P i).pl + (P i).sz
/-- What the search of the place claims ahead of step j. -/
def BestAt (P : Nat → Buf) (D : Nat → Bool) (n : Nat) (y : Buf) (j : Nat) (b : Int) : Prop :=
  (b = -1 ∧ ∀ p, CandL P D j p → ¬ FreeD P D n y p) ∨ (0 ≤ b ∧ FreeD P D n y b ∧ ∀ p, CandL P D j p → FreeD P D n y p → b ≤ p)
variable {P : Nat → Buf} {D : Nat → Bool} {y : Buf}
theorem BestAt.start : BestAt P D n y 0 (-1) := .inl ⟨rfl, fun p h => by
  rcases h with ⟨h, _⟩ | ⟨i, h, _⟩ <;> omega⟩
theorem BestAt.range {j : Nat} {b : Int} (h : BestAt P D n y j b) : b = -1 ∨ 0 ≤ b := by
  rcases h with ⟨h, _⟩ | ⟨h, _⟩
  · exact .inl h
  · exact .inr h
/-- The next one is none, or not free, or no less. -/
theorem BestAt.keep {j : Nat} {b : Int} (h : BestAt P D n y j b) (hc : ∀ p, CandL P D (j + 1) p → CandL P D j p ∨ ¬ FreeD P D n y p ∨ (0 ≤ b ∧ b ≤ p)) : BestAt P D n y (j + 1) b := by
  rcases h with ⟨h1, h2⟩ | ⟨h1, h2, h3⟩
  · refine .inl ⟨h1, fun p hp hf => ?_⟩
    rcases hc p hp with h | h | h
    · exact h2 p h hf
    · exact h hf
    · omega
  · refine .inr ⟨h1, h2, fun p hp hf => ?_⟩
    rcases hc p hp with h | h | h
    · exact h3 p h hf
    · exact absurd hf h
    · exact h.2
/-- The next one is taken. -/
theorem BestAt.take {j : Nat} {b q : Int} (h : BestAt P D n y j b) (hq : 0 ≤ q) (hf : FreeD P D n y q) (hl : b = -1 ∨ q < b) (hc : ∀ p, CandL P D (j + 1) p → CandL P D j p ∨ p = q) : BestAt P D n y (j + 1) q := by
  refine .inr ⟨hq, hf, fun p hp hpf => ?_⟩
  rcases hc p hp with h9 | rfl
  · rcases h with ⟨h1, h2⟩ | ⟨h1, h2, h3⟩
    · exact absurd hpf (h2 p h9)
    · have := h3 p h9 hpf; omega
  · exact Int.le_refl _
theorem cand_zero {p : Int} (h : CandL P D 1 p) : p = 0 := by
  rcases h with ⟨_, h⟩ | ⟨i, h, _⟩
  · exact h
  · omega
theorem cand_no {j : Nat} {p : Int} (hj : 1 ≤ j) (hd : D (j - 1) = false) (h : CandL P D (j + 1) p) : CandL P D j p := by
  rcases h with ⟨_, h⟩ | ⟨i, h1, h2, h3⟩
  · exact .inl ⟨by omega, h⟩
  · refine .inr ⟨i, ?_, h2, h3⟩
    by_cases e : i = j - 1
    · rw [e, hd] at h2; cases h2
    · omega
theorem cand_yes {j : Nat} {p : Int} (hj : 1 ≤ j) (h : CandL P D (j + 1) p) : CandL P D j p ∨ p = (P (j - 1)).pl + (P (j - 1)).sz := by
  rcases h with ⟨_, h⟩ | ⟨i, h1, h2, h3⟩
  · exact .inl (.inl ⟨by omega, h⟩)
  · by_cases e : i = j - 1
    · rw [e] at h3; exact .inr h3
    · exact .inl (.inr ⟨i, by omega, h2, h3⟩)
theorem BestAt.done {L : Nat → Buf} (og : Ord (fun i => (L i).fr) g n) (ok : BufsOk L n) (hr : r < n) {b : Int} (h : BestAt (PS L g r) (dn g r) n (L (g r)) (n + 1) b) : b = plK L g r := by
  have hl := (pl_all og ok r hr).1
  have hz := (bufOk_iff.1 (ok.2 (g r) (og.lt r hr))).2.2.2.1
  have hfr : FreeD (PS L g r) (dn g r) n (L (g r)) (plK L g r) := (freeD_iff og (by omega) _ _).2 hl.free
  have hcand : CandL (PS L g r) (dn g r) (n + 1) (plK L g r) := by
    rcases hl.end_ hz with h1 | ⟨c, ⟨m, h2, h3, h4⟩, h5⟩
    · exact .inl ⟨by omega, h1⟩
    · refine .inr ⟨g m, by have := og.lt m (by omega); omega, dn_iff.2 ⟨m, h2, rfl⟩, ?_⟩
      rw [h5, h3]
  rcases h with ⟨h1, h2⟩ | ⟨h1, h2, h3⟩
  · exact absurd hfr (h2 _ hcand)
  · have h4 := h3 _ hcand hfr
    have h5 : ¬ b < plK L g r := fun c => hl.low b h1 c ((freeD_iff og (by omega) _ _).1 h2)
    omega
end
end Go.Rt
