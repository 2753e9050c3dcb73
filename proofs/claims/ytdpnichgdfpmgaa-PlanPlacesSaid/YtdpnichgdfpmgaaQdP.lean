/- Plain: rows of numbers as variables; what the walk of placing carries. No program in sight. -/
import Derived.Test.YtdpnichgdfpmgaaQcP
import Derived.Test.YtdpnichgdfpmgaaQaF
import Derived.Test.YtdpnichgdfpmgaaFrJ
set_option linter.unusedVariables false
set_option linter.unusedSimpArgs false
namespace Go.Rt
open Go.RowKit
def ordV (f : Nat → Nat) (n : Nat) : List Value := (List.range n).map fun i => .int .i64 (f i : Nat)
theorem ordV_len (f : Nat → Nat) (n : Nat) : (ordV f n).length = n := by simp [ordV]
theorem ordV_get (f : Nat → Nat) {n i : Nat} (h : i < n) : (ordV f n)[i]? = some (.int .i64 (f i : Nat)) := by simp [ordV, h]
theorem ordV_set (f : Nat → Nat) {n i : Nat} (v : Nat) (h : i < n) : (ordV f n).set i (.int .i64 (v : Nat)) = ordV (upd f i v) n := by
  apply List.ext_getElem?
  intro j
  by_cases e : i = j
  · subst e
    rw [List.getElem?_set_self (by rw [ordV_len]; exact h), ordV_get _ h]
    simp [upd]
  · rw [List.getElem?_set_ne e]
    by_cases hj : j < n
    · rw [ordV_get _ hj, ordV_get _ hj]
      have : ¬ j = i := fun e2 => e e2.symm
      simp [upd, this]
    · rw [List.getElem?_eq_none (by rw [ordV_len]; omega), List.getElem?_eq_none (by rw [ordV_len]; omega)]
theorem ordV_cong {f g : Nat → Nat} {n : Nat} (h : ∀ i, i < n → f i = g i) : ordV f n = ordV g n := by
  unfold ordV
  apply List.map_congr_left
  intro i hi
  rw [h i (List.mem_range.1 hi)]
theorem ordV_zero (n : Nat) : (List.replicate n (0 : Int)).map (Value.int .i64) = ordV (fun _ => 0) n := by
  apply List.ext_getElem?
  intro j
  by_cases hj : j < n
  · rw [ordV_get _ hj]; simp [hj]
  · rw [List.getElem?_eq_none (by simp; omega), List.getElem?_eq_none (by rw [ordV_len]; omega)]
/-- 0, 1, .., k - 1, then 0. -/
def fillO (k : Nat) : Nat → Nat := fun i => if i < k then i else 0
theorem fillO_step (k : Nat) : upd (fillO k) k k = fillO (k + 1) := by
  funext i
  unfold upd fillO
  by_cases h : i = k
  · rw [if_pos h, if_pos (by omega), h]
  · rw [if_neg h]
    by_cases h2 : i < k
    · rw [if_pos h2, if_pos (by omega)]
    · rw [if_neg h2, if_neg (by omega)]
theorem fillO_zero : fillO 0 = fun _ => 0 := by
  funext i; unfold fillO; rw [if_neg (by omega)]
theorem SF.of_box {W : World} {b n : Nat} {f : Nat → Nat} (h : BoxL W b (ordV f n)) : SF W W b n f :=
  SF.start (fun i hi => h.cell i _ (ordV_get f hi)) (fun i hi => h.free i (by rw [ordV_len]; exact hi))
theorem SF.box {w W : World} {b n : Nat} {f : Nat → Nat} (h : SF w W b n f) : BoxL W b (ordV f n) :=
  ⟨fun j v hv => by
    have hj : j < n := by have := (List.getElem?_eq_some_iff.1 hv).1; rwa [ordV_len] at this
    rw [ordV_get f hj] at hv
    injection hv with hv
    rw [← hv]; exact h.val j hj, fun j hj => h.free j (by rwa [ordV_len] at hj)⟩
/-- A row of one's own, taken up as a variable. -/
theorem fr_of_own {W W' : World} {g m cap size : Nat} {e : TypeId} {xs : List Value} (hb : Below W.heap.size W W') (h : W'.ownsRow W.heap.size e size (.slice (some ⟨g, 0, none⟩) m cap) m xs) : Fr W.heap.size W W' [(g, xs)] [] [] [] :=
  ⟨hb.size, hb, fun p hp => by
    rw [List.mem_singleton.1 hp]
    exact ⟨box_of_own h, h.lt g rfl⟩, List.pairwise_singleton _ _, by simp, by simp, by simp, .nil, by simp, .nil⟩
/-- The taken, as they read. -/
theorem bl_of_box {W : World} {g m : Nat} {T : Nat → Buf} (hm : m ≤ 1000000) (h : ∀ i, i < m → ∀ j v, (T i).c[j]? = some v → W.cell? ⟨g, i * 4 + j, none⟩ = some v ∧ W.frozen? ⟨g, i * 4 + j, none⟩ = false) (hl : m = 0 ∨ g < W.heap.size) : ∀ hi, g < hi → ∀ i, i < m → ∃ b o, (some ⟨g, 0, none⟩ : Option Addr) = some ⟨b, o, none⟩ ∧ b < hi ∧ ∀ j v, (T i).c[j]? = some v → W.cell? ⟨b, o + i * 4 + j, none⟩ = some v :=
  fun hi hg i hi2 => ⟨g, 0, rfl, hg, fun j v hv => by rw [Nat.zero_add]; exact (h i hi2 j v hv).1⟩
theorem Fr.grownOther {lo : Nat} {w wr wr' : World} {B : List (Nat × List Value)} {M : List (Nat × Obj)} (h : Fr lo w wr B [] [] M) {g : Nat} (hg : wr.grownBy wr' (some g)) (h1 : lo ≤ g) (h2 : ∀ p ∈ B, g ≠ p.1) (h3 : ∀ p ∈ M, g ≠ p.1) : Fr lo w wr' B [] [] M :=
  h.keep hg (fun g2 e => by injection e with e; omega) (fun p hp e => by injection e with e; exact h2 p hp e.symm) (fun q hq => by simp at hq) (fun p hp e => by injection e with e; exact h3 p hp e.symm)
theorem flat_four (P : Nat → Buf) {n i : Nat} (h : i < n) : (flatB4 P n)[i * 4]? = some (.int .i64 (P i).fr) ∧ (flatB4 P n)[i * 4 + 1]? = some (.int .i64 (P i).tt) ∧ (flatB4 P n)[i * 4 + 2]? = some (.int .i64 (P i).sz) ∧ (flatB4 P n)[i * 4 + 3]? = some (.int .i64 (P i).pl) :=
  ⟨by have := flatB4_get P n i 0 _ h rfl; rwa [Nat.add_zero] at this, flatB4_get P n i 1 _ h rfl, flatB4_get P n i 2 _ h rfl, flatB4_get P n i 3 _ h rfl⟩
theorem flatB4_ne (P : Nat → Buf) {n : Nat} (h : 1 ≤ n) : flatB4 P n ≠ [] := fun e => by
  have := flatB4_len P n
  rw [e] at this
  simp at this
  omega
theorem ordV_ne (f : Nat → Nat) {n : Nat} (h : 1 ≤ n) : ordV f n ≠ [] := fun e => by
  have := ordV_len f n
  rw [e] at this
  simp at this
  omega
end Go.Rt
