/- Plain: sorting by parts (insertion, rotation, merging), numbers in a row as a function of their places. No program in sight. -/
import Derived.Test.YtdpnichgdfpmgaaBase
set_option linter.unusedVariables false
set_option linter.unusedSimpArgs false
namespace Go.Rt

/-- The order by a key, then by the number itself. -/
def ltk (key : Nat → Int) (x y : Nat) : Prop := key x < key y ∨ (key x = key y ∧ x < y)
theorem ltk.trans {key : Nat → Int} {x y z : Nat} (h : ltk key x y) (h2 : ltk key y z) : ltk key x z := by
  unfold ltk at *; omega
theorem ltk.irrefl {key : Nat → Int} {x : Nat} (h : ltk key x x) : False := by
  unfold ltk at h; omega
theorem ltk_total (key : Nat → Int) (x y : Nat) : ltk key x y ∨ x = y ∨ ltk key y x := by
  unfold ltk; omega
/-- Sorted between two places. -/
def Srt (key : Nat → Int) (f : Nat → Nat) (a b : Nat) : Prop := ∀ i j, a ≤ i → i < j → j < b → ltk key (f i) (f j)
/-- Only the places between a and b are written, and there lie the same numbers. -/
def Within (f g : Nat → Nat) (a b : Nat) : Prop := (∀ i, ¬ (a ≤ i ∧ i < b) → g i = f i) ∧ ∀ i, a ≤ i → i < b → ∃ j, a ≤ j ∧ j < b ∧ g i = f j
theorem Within.refl (f : Nat → Nat) (a b : Nat) : Within f f a b := ⟨fun _ _ => rfl, fun i h1 h2 => ⟨i, h1, h2, rfl⟩⟩
theorem Within.trans {f g h : Nat → Nat} {a b : Nat} (h1 : Within f g a b) (h2 : Within g h a b) : Within f h a b :=
  ⟨fun i hi => (h2.1 i hi).trans (h1.1 i hi), fun i ha hb => by
    obtain ⟨j, ja, jb, e⟩ := h2.2 i ha hb
    obtain ⟨k, ka, kb, e2⟩ := h1.2 j ja jb
    exact ⟨k, ka, kb, e.trans e2⟩⟩
theorem Within.wide {f g : Nat → Nat} {a b c d : Nat} (h : Within f g a b) (hc : c ≤ a) (hd : b ≤ d) : Within f g c d :=
  ⟨fun i hi => h.1 i (fun e => hi ⟨by omega, by omega⟩), fun i hi1 hi2 => by
    by_cases hi : a ≤ i ∧ i < b
    · obtain ⟨j, ja, jb, e⟩ := h.2 i hi.1 hi.2
      exact ⟨j, by omega, by omega, e⟩
    · exact ⟨i, hi1, hi2, h.1 i hi⟩⟩
/-- One place written. -/
def upd (f : Nat → Nat) (i v : Nat) : Nat → Nat := fun k => if k = i then v else f k

/-! Insertion -/
/-- The number at place i, moved down to place j. -/
def insJ (f : Nat → Nat) (i j : Nat) : Nat → Nat := fun k => if k < j then f k else if k = j then f i else if k ≤ i then f (k - 1) else f k
theorem insJ_self (f : Nat → Nat) (i : Nat) : insJ f i i = f := by
  funext k; unfold insJ
  by_cases h1 : k < i
  · rw [if_pos h1]
  · rw [if_neg h1]
    by_cases h2 : k = i
    · rw [if_pos h2, h2]
    · rw [if_neg h2, if_neg (by omega)]
theorem insJ_at (f : Nat → Nat) (i j : Nat) : insJ f i j j = f i := by
  unfold insJ; rw [if_neg (by omega), if_pos rfl]
theorem insJ_below (f : Nat → Nat) {i j k : Nat} (h : k < j) : insJ f i j k = f k := by
  unfold insJ; rw [if_pos h]
theorem insJ_step (f : Nat → Nat) {i j : Nat} (hj : j ≤ i) (h0 : 0 < j) : upd (upd (insJ f i j) j (insJ f i j (j - 1))) (j - 1) (insJ f i j j) = insJ f i (j - 1) := by
  funext k
  rw [insJ_at, insJ_below f (show j - 1 < j by omega)]
  unfold upd
  by_cases h1 : k = j - 1
  · rw [if_pos h1, h1, insJ_at]
  · rw [if_neg h1]
    by_cases h2 : k = j
    · subst h2
      rw [if_pos rfl]
      unfold insJ
      rw [if_neg (by omega), if_neg (by omega), if_pos (by omega)]
    · rw [if_neg h2]
      unfold insJ
      by_cases h3 : k < j
      · rw [if_pos h3, if_pos (by omega)]
      · rw [if_neg h3, if_neg h2, if_neg (show ¬ k < j - 1 by omega), if_neg h1]
/-- What the rounds of the insertion of the number at i claim. -/
structure InsAt (key : Nat → Int) (f : Nat → Nat) (a i j : Nat) : Prop where
  ai : a ≤ j
  ji : j ≤ i
  srt : Srt key f a i
  low : ∀ k, j ≤ k → k < i → ltk key (f i) (f k)
theorem InsAt.start {key : Nat → Int} {f : Nat → Nat} {a i : Nat} (h : a ≤ i) (hs : Srt key f a i) : InsAt key f a i i := ⟨h, Nat.le_refl _, hs, fun k h1 h2 => by omega⟩
theorem InsAt.next {key : Nat → Int} {f : Nat → Nat} {a i j : Nat} (h : InsAt key f a i j) (hj : a < j) (hl : ltk key (f i) (f (j - 1))) : InsAt key f a i (j - 1) :=
  ⟨by omega, by have := h.ji; omega, h.srt, fun k h1 h2 => by
    by_cases e : k = j - 1
    · rw [e]; exact hl
    · exact h.low k (by omega) h2⟩
/-- The number lies where it belongs. -/
theorem InsAt.done {key : Nat → Int} {f : Nat → Nat} {a i j : Nat} (h : InsAt key f a i j) (hj : a < j → ltk key (f (j - 1)) (f i)) : Srt key (insJ f i j) a (i + 1) ∧ Within f (insJ f i j) a (i + 1) := by
  have h1 := h.ai
  have h2 := h.ji
  have hlow : ∀ k, a ≤ k → k < j → ltk key (f k) (f i) := fun k k1 k2 => by
    have h3 := hj (by omega)
    by_cases e : k = j - 1
    · rw [e]; exact h3
    · exact (h.srt k (j - 1) k1 (by omega) (by omega)).trans h3
  refine ⟨fun p q hp hpq hq => ?_, fun k hk => ?_, fun k hk1 hk2 => ?_⟩
  · unfold insJ
    by_cases p1 : p < j
    · rw [if_pos p1]
      by_cases q1 : q < j
      · rw [if_pos q1]; exact h.srt p q hp hpq (by omega)
      · rw [if_neg q1]
        by_cases q2 : q = j
        · rw [if_pos q2]; exact hlow p hp p1
        · rw [if_neg q2, if_pos (by omega)]
          by_cases e : p = q - 1
          · omega
          · exact h.srt p (q - 1) hp (by omega) (by omega)
    · rw [if_neg p1, if_neg (show ¬ q < j by omega), if_neg (show ¬ q = j by omega), if_pos (show q ≤ i by omega)]
      by_cases p2 : p = j
      · rw [if_pos p2]; exact h.low (q - 1) (by omega) (by omega)
      · rw [if_neg p2, if_pos (by omega)]
        exact h.srt (p - 1) (q - 1) (by omega) (by omega) (by omega)
  · unfold insJ
    by_cases k1 : k < j
    · rw [if_pos k1]
    · rw [if_neg k1, if_neg (by omega), if_neg (by omega)]
  · unfold insJ
    by_cases k1 : k < j
    · rw [if_pos k1]; exact ⟨k, hk1, hk2, rfl⟩
    · rw [if_neg k1]
      by_cases k2 : k = j
      · rw [if_pos k2]; exact ⟨i, by omega, by omega, rfl⟩
      · rw [if_neg k2, if_pos (by omega)]; exact ⟨k - 1, by omega, by omega, rfl⟩

/-! Rotation -/
def swpR (f : Nat → Nat) (a b n : Nat) : Nat → Nat := fun k => if a ≤ k ∧ k < a + n then f (b + (k - a)) else if b ≤ k ∧ k < b + n then f (a + (k - b)) else f k
theorem swpR_zero (f : Nat → Nat) (a b : Nat) : swpR f a b 0 = f := by
  funext k; unfold swpR
  rw [if_neg (by omega), if_neg (by omega)]
theorem swpR_step (f : Nat → Nat) {a b n i : Nat} (hab : a + n ≤ b) (hi : i < n) : upd (upd (swpR f a b i) (a + i) (swpR f a b i (b + i))) (b + i) (swpR f a b i (a + i)) = swpR f a b (i + 1) := by
  funext k
  unfold upd swpR
  rw [if_neg (show ¬ (a ≤ b + i ∧ b + i < a + i) by omega), if_neg (show ¬ (b ≤ b + i ∧ b + i < b + i) by omega), if_neg (show ¬ (a ≤ a + i ∧ a + i < a + i) by omega), if_neg (show ¬ (b ≤ a + i ∧ a + i < b + i) by omega)]
  by_cases h1 : k = b + i
  · rw [if_pos h1, if_neg (by omega), if_pos (by omega)]
    congr 1; omega
  · rw [if_neg h1]
    by_cases h2 : k = a + i
    · rw [if_pos h2, if_pos (by omega)]
      congr 1; omega
    · rw [if_neg h2]
      by_cases h3 : a ≤ k ∧ k < a + i
      · rw [if_pos h3, if_pos (by omega)]
      · rw [if_neg h3, if_neg (show ¬ (a ≤ k ∧ k < a + (i + 1)) by omega)]
        by_cases h4 : b ≤ k ∧ k < b + i
        · rw [if_pos h4, if_pos (by omega)]
        · rw [if_neg h4, if_neg (by omega)]
/-- The two blocks [s, s + i) and [s + i, s + i + j) change places. -/
def rotR (f : Nat → Nat) (s i j : Nat) : Nat → Nat := fun k => if s ≤ k ∧ k < s + j then f (k + i) else if s + j ≤ k ∧ k < s + j + i then f (k - j) else f k
theorem rotR_same (f : Nat → Nat) {s m i : Nat} (h : s + i = m) : swpR f s m i = rotR f s i i := by
  subst h
  funext k; unfold swpR rotR
  by_cases h1 : s ≤ k ∧ k < s + i
  · rw [if_pos h1, if_pos h1]; congr 1; omega
  · rw [if_neg h1, if_neg h1]
    by_cases h2 : s + i ≤ k ∧ k < s + i + i
    · rw [if_pos h2, if_pos h2]; congr 1; omega
    · rw [if_neg h2, if_neg h2]
theorem rotR_more (f : Nat → Nat) {s m i j : Nat} (h : s + i = m) (hij : j < i) : rotR (swpR f s m j) (s + j) (i - j) j = rotR f s i j := by
  subst h
  funext k; unfold rotR
  by_cases h1 : s + j ≤ k ∧ k < s + j + j
  · rw [if_pos h1]
    by_cases h2 : s ≤ k ∧ k < s + j
    · omega
    · rw [if_neg h2, if_pos (by omega)]
      unfold swpR
      rw [if_neg (by omega), if_pos (by omega)]
      congr 1; omega
  · rw [if_neg h1]
    by_cases h2 : s + j + j ≤ k ∧ k < s + j + j + (i - j)
    · rw [if_pos h2, if_neg (by omega), if_pos (by omega)]
      unfold swpR
      rw [if_neg (by omega), if_neg (by omega)]
    · rw [if_neg h2]
      unfold swpR
      by_cases h3 : s ≤ k ∧ k < s + j
      · rw [if_pos h3, if_pos h3]; congr 1; omega
      · rw [if_neg h3, if_neg h3, if_neg (by omega), if_neg (by omega)]
theorem rotR_less (f : Nat → Nat) {s m i j : Nat} (h : s + i = m) (hij : i < j) : rotR (swpR f s (m + j - i) i) s i (j - i) = rotR f s i j := by
  subst h
  funext k; unfold rotR
  by_cases h1 : s ≤ k ∧ k < s + (j - i)
  · rw [if_pos h1, if_pos (by omega)]
    unfold swpR
    by_cases h2 : k < s
    · omega
    · by_cases h3 : k + i < s + i
      · omega
      · rw [if_neg (by omega), if_neg (by omega)]
  · rw [if_neg h1]
    by_cases h2 : s + (j - i) ≤ k ∧ k < s + (j - i) + i
    · rw [if_pos h2, if_pos (by omega)]
      unfold swpR
      rw [if_pos (by omega)]
      congr 1; omega
    · rw [if_neg h2]
      unfold swpR
      by_cases h3 : s + i + j - i ≤ k ∧ k < s + i + j - i + i
      · rw [if_neg (by omega), if_pos h3, if_neg (by omega), if_pos (by omega)]
        congr 1; omega
      · rw [if_neg (by omega), if_neg h3, if_neg (by omega), if_neg (by omega)]
theorem rotR_within (f : Nat → Nat) {s i j a b : Nat} (ha : a ≤ s) (hb : s + i + j ≤ b) : Within f (rotR f s i j) a b := by
  refine ⟨fun k hk => ?_, fun k h1 h2 => ?_⟩
  · unfold rotR; rw [if_neg (by omega), if_neg (by omega)]
  · unfold rotR
    by_cases h3 : s ≤ k ∧ k < s + j
    · rw [if_pos h3]; exact ⟨k + i, by omega, by omega, rfl⟩
    · rw [if_neg h3]
      by_cases h4 : s + j ≤ k ∧ k < s + j + i
      · rw [if_pos h4]; exact ⟨k - j, by omega, by omega, rfl⟩
      · rw [if_neg h4]; exact ⟨k, h1, h2, rfl⟩

theorem rotR_none (f : Nat → Nat) {s i j : Nat} (h : i = 0 ∨ j = 0) : rotR f s i j = f := by
  funext k; unfold rotR
  rcases h with rfl | rfl
  · by_cases h1 : s ≤ k ∧ k < s + j
    · rw [if_pos h1]; rfl
    · rw [if_neg h1, if_neg (by omega)]
  · rw [if_neg (by omega)]
    by_cases h1 : s + 0 ≤ k ∧ k < s + 0 + i
    · rw [if_pos h1]; rfl
    · rw [if_neg h1]

/-! Merging -/
/-- Two sorted runs [a, m), [m, b); the numbers of the first one lie below those of the second one. -/
structure Runs (key : Nat → Int) (f : Nat → Nat) (a m b : Nat) : Prop where
  l : Srt key f a m
  r : Srt key f m b
  lo : ∀ i j, a ≤ i → i < m → m ≤ j → j < b → f i < f j
/-- A number of the second run is below one of the first one where its key is. -/
theorem Runs.lt {key : Nat → Int} {f : Nat → Nat} {a m b : Nat} (h : Runs key f a m b) {i j : Nat} (h1 : a ≤ i) (h2 : i < m) (h3 : m ≤ j) (h4 : j < b) : ltk key (f j) (f i) ↔ key (f j) < key (f i) := by
  have := h.lo i j h1 h2 h3 h4
  unfold ltk; omega
theorem Runs.ge {key : Nat → Int} {f : Nat → Nat} {a m b : Nat} (h : Runs key f a m b) {i j : Nat} (h1 : a ≤ i) (h2 : i < m) (h3 : m ≤ j) (h4 : j < b) : ltk key (f i) (f j) ↔ ¬ key (f j) < key (f i) := by
  have := h.lo i j h1 h2 h3 h4
  unfold ltk; omega
/-- The first run is one number, x = f a: it is moved up to place i - 1. -/
def upJ (f : Nat → Nat) (a k : Nat) : Nat → Nat := fun p => if a ≤ p ∧ p < k then f (p + 1) else if p = k then f a else f p
theorem upJ_self (f : Nat → Nat) (a : Nat) : upJ f a a = f := by
  funext p; unfold upJ
  rw [if_neg (by omega)]
  by_cases h : p = a
  · rw [if_pos h, h]
  · rw [if_neg h]
theorem upJ_step (f : Nat → Nat) {a k : Nat} (h : a ≤ k) : upd (upd (upJ f a k) k (upJ f a k (k + 1))) (k + 1) (upJ f a k k) = upJ f a (k + 1) := by
  funext p
  have e1 : upJ f a k (k + 1) = f (k + 1) := by unfold upJ; rw [if_neg (by omega), if_neg (by omega)]
  have e2 : upJ f a k k = f a := by unfold upJ; rw [if_neg (by omega), if_pos rfl]
  rw [e1, e2]
  unfold upd
  by_cases h1 : p = k + 1
  · rw [if_pos h1]; unfold upJ; rw [if_neg (by omega), if_pos h1]
  · rw [if_neg h1]
    by_cases h2 : p = k
    · rw [if_pos h2]; unfold upJ; rw [if_pos (by omega), h2]
    · rw [if_neg h2]; unfold upJ
      by_cases h3 : a ≤ p ∧ p < k
      · rw [if_pos h3, if_pos (by omega)]
      · rw [if_neg h3, if_neg h2, if_neg (by omega), if_neg h1]
/-- The second run is one number: it is moved down to place i. -/
theorem downJ_step (f : Nat → Nat) {m k : Nat} (h : k ≤ m) (h0 : 0 < k) : upd (upd (insJ f m k) k (insJ f m k (k - 1))) (k - 1) (insJ f m k k) = insJ f m (k - 1) := insJ_step f h h0
theorem merge_one_left {key : Nat → Int} {f : Nat → Nat} {a b i : Nat} (h : Runs key f a (a + 1) b) (hi : a + 1 ≤ i) (hb : i ≤ b) (hl : ∀ p, a + 1 ≤ p → p < i → ltk key (f p) (f a)) (hr : ∀ p, i ≤ p → p < b → ltk key (f a) (f p)) : Srt key (upJ f a (i - 1)) a b ∧ Within f (upJ f a (i - 1)) a b := by
  refine ⟨fun p q hp hpq hq => ?_, fun k hk => ?_, fun k h1 h2 => ?_⟩
  · unfold upJ
    by_cases p1 : a ≤ p ∧ p < i - 1
    · rw [if_pos p1]
      by_cases q1 : a ≤ q ∧ q < i - 1
      · rw [if_pos q1]; exact h.r (p + 1) (q + 1) (by omega) (by omega) (by omega)
      · rw [if_neg q1]
        by_cases q2 : q = i - 1
        · rw [if_pos q2]; exact hl (p + 1) (by omega) (by omega)
        · rw [if_neg q2]; exact h.r (p + 1) q (by omega) (by omega) (by omega)
    · rw [if_neg p1, if_neg (show ¬ (a ≤ q ∧ q < i - 1) by omega), if_neg (show ¬ q = i - 1 by omega)]
      by_cases p2 : p = i - 1
      · rw [if_pos p2]; exact hr q (by omega) hq
      · rw [if_neg p2]; exact h.r p q (by omega) hpq hq
  · unfold upJ; rw [if_neg (by omega), if_neg (by omega)]
  · unfold upJ
    by_cases k1 : a ≤ k ∧ k < i - 1
    · rw [if_pos k1]; exact ⟨k + 1, by omega, by omega, rfl⟩
    · rw [if_neg k1]
      by_cases k2 : k = i - 1
      · rw [if_pos k2]; exact ⟨a, by omega, by omega, rfl⟩
      · rw [if_neg k2]; exact ⟨k, h1, h2, rfl⟩
theorem merge_one_right {key : Nat → Int} {f : Nat → Nat} {a m i : Nat} (h : Runs key f a m (m + 1)) (hi : a ≤ i) (hb : i ≤ m) (hl : ∀ p, a ≤ p → p < i → ltk key (f p) (f m)) (hr : ∀ p, i ≤ p → p < m → ltk key (f m) (f p)) : Srt key (insJ f m i) a (m + 1) ∧ Within f (insJ f m i) a (m + 1) :=
  InsAt.done ⟨hi, hb, h.l, hr⟩ (fun h9 => hl (i - 1) (by omega) (by omega))
/-- The cut of a merge: [start, m) and [m, e) change places, then both halves are runs again. -/
structure CutAt (key : Nat → Int) (f : Nat → Nat) (a m b mid start e : Nat) : Prop where
  as : a ≤ start
  sm : start ≤ m
  me : m ≤ e
  eb : e ≤ b
  sum : start + e = mid + m
  c1 : ∀ i j, a ≤ i → i < start → e ≤ j → j < b → ltk key (f i) (f j)
  c2 : ∀ i j, start ≤ i → i < m → m ≤ j → j < e → ltk key (f j) (f i)
section
variable {key : Nat → Int} {f : Nat → Nat} {a m b mid start e : Nat}
/-- The places behind the change: which old place each has. -/
def oldP (start m e k : Nat) : Nat := if start ≤ k ∧ k < start + (e - m) then k + (m - start) else if start + (e - m) ≤ k ∧ k < start + (e - m) + (m - start) then k - (e - m) else k
theorem rotR_old (f : Nat → Nat) (start m e k : Nat) : rotR f start (m - start) (e - m) k = f (oldP start m e k) := by
  unfold rotR oldP
  by_cases h1 : start ≤ k ∧ k < start + (e - m)
  · rw [if_pos h1, if_pos h1]
  · rw [if_neg h1, if_neg h1]
    by_cases h2 : start + (e - m) ≤ k ∧ k < start + (e - m) + (m - start)
    · rw [if_pos h2, if_pos h2]
    · rw [if_neg h2, if_neg h2]
theorem CutAt.left (c : CutAt key f a m b mid start e) (h : Runs key f a m b) : Runs key (rotR f start (m - start) (e - m)) a start mid := by
  obtain ⟨h1, h2, h3, h4, h5, h6, h7⟩ := c
  refine ⟨fun i j hi hij hj => ?_, fun i j hi hij hj => ?_, fun i j hi1 hi2 hj1 hj2 => ?_⟩
  · rw [rotR_old, rotR_old]; unfold oldP
    rw [if_neg (by omega), if_neg (by omega), if_neg (by omega), if_neg (by omega)]
    exact h.l i j hi hij (by omega)
  · rw [rotR_old, rotR_old]; unfold oldP
    rw [if_pos (by omega), if_pos (by omega)]
    exact h.r _ _ (by omega) (by omega) (by omega)
  · rw [rotR_old, rotR_old]; unfold oldP
    rw [if_neg (by omega), if_neg (by omega), if_pos (by omega)]
    exact h.lo _ _ hi1 (by omega) (by omega) (by omega)
theorem CutAt.right (c : CutAt key f a m b mid start e) (h : Runs key f a m b) : Runs key (rotR f start (m - start) (e - m)) mid e b := by
  obtain ⟨h1, h2, h3, h4, h5, h6, h7⟩ := c
  refine ⟨fun i j hi hij hj => ?_, fun i j hi hij hj => ?_, fun i j hi1 hi2 hj1 hj2 => ?_⟩
  · rw [rotR_old, rotR_old]; unfold oldP
    rw [if_neg (by omega), if_pos (by omega), if_neg (by omega), if_pos (by omega)]
    exact h.l _ _ (by omega) (by omega) (by omega)
  · rw [rotR_old, rotR_old]; unfold oldP
    rw [if_neg (by omega), if_neg (by omega), if_neg (by omega), if_neg (by omega)]
    exact h.r i j (by omega) hij hj
  · rw [rotR_old, rotR_old]; unfold oldP
    rw [if_neg (by omega), if_pos (by omega), if_neg (by omega), if_neg (by omega)]
    exact h.lo _ _ (by omega) (by omega) (by omega) (by omega)
/-- What lies in the lower half lies below what lies in the upper one. -/
theorem CutAt.cross (c : CutAt key f a m b mid start e) (h : Runs key f a m b) {i j : Nat} (hi : a ≤ i) (hi2 : i < mid) (hj : mid ≤ j) (hj2 : j < b) : ltk key (rotR f start (m - start) (e - m) i) (rotR f start (m - start) (e - m) j) := by
  obtain ⟨h1, h2, h3, h4, h5, h6, h7⟩ := c
  rw [rotR_old, rotR_old]; unfold oldP
  by_cases i1 : i < start
  · rw [if_neg (show ¬ (start ≤ i ∧ i < start + (e - m)) by omega), if_neg (show ¬ (start + (e - m) ≤ i ∧ i < start + (e - m) + (m - start)) by omega), if_neg (show ¬ (start ≤ j ∧ j < start + (e - m)) by omega)]
    by_cases j1 : j < e
    · rw [if_pos (by omega)]; exact h.l _ _ hi (by omega) (by omega)
    · rw [if_neg (by omega)]; exact h6 i j hi i1 (by omega) hj2
  · rw [if_pos (show start ≤ i ∧ i < start + (e - m) by omega), if_neg (show ¬ (start ≤ j ∧ j < start + (e - m)) by omega)]
    by_cases j1 : j < e
    · rw [if_pos (by omega)]; exact h7 _ _ (by omega) (by omega) (by omega) (by omega)
    · rw [if_neg (by omega)]; exact h.r _ _ (by omega) (by omega) (by omega)
end
/-- Two sorted halves of which the lower one lies below the upper one. -/
theorem Srt.join {key : Nat → Int} {f g : Nat → Nat} {a mid b : Nat} (h1 : Srt key g a mid) (h2 : Srt key g mid b) (hx : ∀ i j, a ≤ i → i < mid → mid ≤ j → j < b → ltk key (g i) (g j)) : Srt key g a b := fun i j hi hij hj => by
  by_cases c1 : j < mid
  · exact h1 i j hi hij c1
  · by_cases c2 : mid ≤ i
    · exact h2 i j c2 hij hj
    · exact hx i j hi (by omega) (by omega) hj
/-- After both halves are merged the whole is sorted. -/
theorem merge_join {key : Nat → Int} {f g h : Nat → Nat} {a mid b : Nat} (ham : a ≤ mid) (hmb : mid ≤ b) (hx : ∀ i j, a ≤ i → i < mid → mid ≤ j → j < b → ltk key (f i) (f j)) (h1 : Srt key g a mid) (w1 : Within f g a mid) (h2 : Srt key h mid b) (w2 : Within g h mid b) : Srt key h a b ∧ Within f h a b := by
  have hg : ∀ i, a ≤ i → i < mid → h i = g i := fun i _ h4 => w2.1 i (by omega)
  refine ⟨Srt.join (f := f) (fun i j hi hij hj => ?_) h2 (fun i j hi1 hi2 hj1 hj2 => ?_), (w1.wide (Nat.le_refl _) hmb).trans (w2.wide ham (Nat.le_refl _))⟩
  · rw [hg i hi (by omega), hg j (by omega) hj]; exact h1 i j hi hij hj
  · rw [hg i hi1 hi2]
    obtain ⟨p, p1, p2, e1⟩ := w1.2 i hi1 hi2
    obtain ⟨q, q1, q2, e2⟩ := w2.2 j hj1 hj2
    rw [e1, e2, w1.1 q (by omega)]
    exact hx p q p1 p2 q1 q2
/-- The search of the cut ends between the bounds. -/
structure Seek (key : Nat → Int) (f : Nat → Nat) (p s0 r0 s r : Nat) : Prop where
  h0 : s0 ≤ s
  h1 : s ≤ r
  h2 : r ≤ r0
  lo : ∀ c, s0 ≤ c → c < s → ltk key (f c) (f (p - c))
  hi : ∀ c, r ≤ c → c < r0 → ltk key (f (p - c)) (f c)
theorem Seek.up {key : Nat → Int} {f : Nat → Nat} {p s0 r0 s r c : Nat} (h : Seek key f p s0 r0 s r) (h1 : s ≤ c) (h2 : c < r) (hc : ltk key (f c) (f (p - c))) (hm : ∀ d, s0 ≤ d → d < c → ltk key (f d) (f c) ∧ ltk key (f (p - c)) (f (p - d))) : Seek key f p s0 r0 (c + 1) r :=
  ⟨by have := h.h0; omega, by omega, h.h2, fun d d1 d2 => by
    by_cases e : d = c
    · rw [e]; exact hc
    · obtain ⟨e1, e2⟩ := hm d d1 (by omega)
      exact (e1.trans hc).trans e2, h.hi⟩
theorem Seek.down {key : Nat → Int} {f : Nat → Nat} {p s0 r0 s r c : Nat} (h : Seek key f p s0 r0 s r) (h1 : s ≤ c) (h2 : c < r) (hc : ltk key (f (p - c)) (f c)) (hm : ∀ d, c < d → d < r0 → ltk key (f c) (f d) ∧ ltk key (f (p - d)) (f (p - c))) : Seek key f p s0 r0 s c :=
  ⟨h.h0, h1, by have := h.h2; omega, h.lo, fun d d1 d2 => by
    by_cases e : d = c
    · rw [e]; exact hc
    · obtain ⟨e1, e2⟩ := hm d (by omega) d2
      exact (e2.trans hc).trans e1⟩
/-- The bounds of the search of a merge. -/
structure SeekB (a m b mid p s0 r0 : Nat) : Prop where
  am : a < m
  mb : m < b
  m1 : mid = (a + b) / 2
  pe : p + 1 = mid + m
  s0 : s0 = if mid < m then mid + m - b else a
  r0 : r0 = if mid < m then mid else m
theorem SeekB.facts {a m b mid p s0 r0 : Nat} (h : SeekB a m b mid p s0 r0) : a ≤ s0 ∧ s0 ≤ r0 ∧ r0 ≤ m ∧ r0 ≤ mid ∧ mid + m - b ≤ s0 ∧ ∀ c, s0 ≤ c → c < r0 → a ≤ c ∧ c < m ∧ m ≤ p - c ∧ p - c < b ∧ c ≤ p := by
  obtain ⟨h1, h2, h3, h4, h5, h6⟩ := h
  by_cases hc : mid < m
  · rw [if_pos hc] at h5 h6
    refine ⟨by omega, by omega, by omega, by omega, by omega, fun c c1 c2 => ⟨by omega, by omega, by omega, by omega, by omega⟩⟩
  · rw [if_neg hc] at h5 h6
    refine ⟨by omega, by omega, by omega, by omega, by omega, fun c c1 c2 => ⟨by omega, by omega, by omega, by omega, by omega⟩⟩
section
variable {key : Nat → Int} {f : Nat → Nat} {a m b mid p s0 r0 s r : Nat}
/-- One step of the search, to whichever side. -/
theorem seek_up (hB : SeekB a m b mid p s0 r0) (hR : Runs key f a m b) (h : Seek key f p s0 r0 s r) {c : Nat} (h1 : s ≤ c) (h2 : c < r) (hk : ¬ key (f (p - c)) < key (f c)) : Seek key f p s0 r0 (c + 1) r := by
  have H := hB.facts.2.2.2.2.2
  have g := H c (by have := h.h0; omega) (by have := h.h2; omega)
  refine h.up h1 h2 ((hR.ge g.1 g.2.1 g.2.2.1 g.2.2.2.1).2 hk) fun d d1 d2 => ?_
  have g2 := H d d1 (by have := h.h2; omega)
  exact ⟨hR.l d c g2.1 d2 g.2.1, hR.r (p - c) (p - d) g.2.2.1 (by omega) g2.2.2.2.1⟩
theorem seek_down (hB : SeekB a m b mid p s0 r0) (hR : Runs key f a m b) (h : Seek key f p s0 r0 s r) {c : Nat} (h1 : s ≤ c) (h2 : c < r) (hk : key (f (p - c)) < key (f c)) : Seek key f p s0 r0 s c := by
  have H := hB.facts.2.2.2.2.2
  have g := H c (by have := h.h0; omega) (by have := h.h2; omega)
  refine h.down h1 h2 ((hR.lt g.1 g.2.1 g.2.2.1 g.2.2.2.1).2 hk) fun d d1 d2 => ?_
  have g2 := H d (by have := h.h0; omega) d2
  exact ⟨hR.l c d g.1 d1 g2.2.1, hR.r (p - d) (p - c) g2.2.2.1 (by omega) g.2.2.2.1⟩
/-- Where the search has ended, the cut is right. -/
theorem seek_done (hB : SeekB a m b mid p s0 r0) (hR : Runs key f a m b) (h : Seek key f p s0 r0 s s) : CutAt key f a m b mid s (mid + m - s) := by
  have H := hB.facts
  obtain ⟨g1, g2, g3, g4, g5, H⟩ := H
  have e1 := h.h0
  have e2 := h.h2
  have ep := hB.pe
  have hb := hB.mb
  have hm1 := hB.m1
  have ha := hB.am
  refine ⟨by omega, by omega, by omega, by omega, by omega, fun i j hi hi2 hj hj2 => ?_, fun i j hi hi2 hj hj2 => ?_⟩
  · by_cases c1 : s0 < s
    · have k1 := h.lo (s - 1) (by omega) (by omega)
      have k0 := H (s - 1) (by omega) (by omega)
      have k2 : ltk key (f i) (f (p - (s - 1))) := by
        by_cases e : i = s - 1
        · rw [e]; exact k1
        · exact (hR.l i (s - 1) hi (by omega) (by omega)).trans k1
      by_cases e : j = p - (s - 1)
      · rw [e]; exact k2
      · exact k2.trans (hR.r (p - (s - 1)) j (by omega) (by omega) hj2)
    · have hs : s = s0 := by omega
      have h5 := hB.s0
      by_cases hc : mid < m
      · rw [if_pos hc] at h5; omega
      · rw [if_neg hc] at h5; omega
  · by_cases c1 : s < r0
    · have k1 := h.hi s (Nat.le_refl _) c1
      have k0 := H s (by omega) c1
      have k2 : ltk key (f j) (f s) := by
        by_cases e : j = p - s
        · rw [e]; exact k1
        · exact (hR.r j (p - s) hj (by omega) (by omega)).trans k1
      by_cases e : i = s
      · rw [e]; exact k2
      · exact k2.trans (hR.l s i (by omega) (by omega) hi2)
    · have hs : s = r0 := by omega
      have h6 := hB.r0
      by_cases hc : mid < m
      · rw [if_pos hc] at h6; omega
      · rw [if_neg hc] at h6; omega
end

/-! Blocks -/
/-- Each block of so many places is sorted, and holds its own numbers. -/
structure Blk (key : Nat → Int) (f : Nat → Nat) (n bs : Nat) : Prop where
  own : ∀ i, i < n → f i / bs = i / bs ∧ f i < n
  srt : ∀ i j, i < j → j < n → i / bs = j / bs → ltk key (f i) (f j)
theorem Blk.all {key : Nat → Int} {f : Nat → Nat} {n bs : Nat} (h : Blk key f n bs) (hb : n ≤ bs) : Srt key f 0 n ∧ ∀ i, i < n → f i < n :=
  ⟨fun i j _ hij hj => h.srt i j hij hj (by rw [Nat.div_eq_of_lt (by omega), Nat.div_eq_of_lt (by omega)]), fun i hi => (h.own i hi).2⟩
theorem div_at {bs q j : Nat} (h : 0 < bs) (h1 : bs * q ≤ j) (h2 : j < bs * q + bs) : j / bs = q := by
  rw [show j = bs * q + (j - bs * q) by omega, Nat.mul_add_div h, Nat.div_eq_of_lt (by omega), Nat.add_zero]
theorem div_lt_at {bs q j : Nat} (h : 0 < bs) (h1 : j < bs * q) : j / bs < q := (Nat.div_lt_iff_lt_mul h).2 (by rw [Nat.mul_comm]; exact h1)
/-- The blocks below a are sorted, the others hold what they held. -/
structure Stg (key : Nat → Int) (f : Nat → Nat) (n bs a : Nat) : Prop where
  own : ∀ i, i < n → f i / bs = i / bs ∧ f i < n
  rest : ∀ i, a ≤ i → i < n → f i = i
  srt : ∀ i j, i < j → j < a → i / bs = j / bs → ltk key (f i) (f j)
theorem Stg.start (key : Nat → Int) {f : Nat → Nat} {n : Nat} (bs : Nat) (h : ∀ i, i < n → f i = i) : Stg key f n bs 0 :=
  ⟨fun i hi => by rw [h i hi]; exact ⟨rfl, hi⟩, fun i _ hi => h i hi, fun i j _ hj => absurd hj (by omega)⟩
theorem Stg.step {key : Nat → Int} {f g : Nat → Nat} {n bs q b : Nat} (h : Stg key f n bs (bs * q)) (h0 : 0 < bs) (hab : bs * q ≤ b) (hb : b ≤ bs * q + bs) (hn : b ≤ n) (hs : Srt key g (bs * q) b) (hw : Within f g (bs * q) b) : Stg key g n bs b := by
  refine ⟨fun i hi => ?_, fun i h1 h2 => ?_, fun i j hij hj he => ?_⟩
  · by_cases hc : bs * q ≤ i ∧ i < b
    · obtain ⟨j, j1, j2, e⟩ := hw.2 i hc.1 hc.2
      rw [e, (h.own j (by omega)).1, div_at h0 j1 (by omega), div_at h0 hc.1 (by omega)]
      exact ⟨rfl, (h.own j (by omega)).2⟩
    · rw [hw.1 i hc]; exact h.own i hi
  · rw [hw.1 i (by omega)]; exact h.rest i (by omega) h2
  · by_cases c1 : j < bs * q
    · rw [hw.1 i (by omega), hw.1 j (by omega)]; exact h.srt i j hij c1 he
    · have e1 := div_at (bs := bs) (q := q) (j := j) h0 (by omega) (by omega)
      by_cases c2 : i < bs * q
      · have := div_lt_at h0 c2; omega
      · exact hs i j (by omega) hij hj
theorem Stg.blk {key : Nat → Int} {f : Nat → Nat} {n bs : Nat} (h : Stg key f n bs n) : Blk key f n bs := ⟨h.own, h.srt⟩
/-- The pairs of blocks below a are merged. -/
structure MSt (key : Nat → Int) (f : Nat → Nat) (n bs a : Nat) : Prop where
  own : ∀ i, i < n → f i / (2 * bs) = i / (2 * bs) ∧ f i < n
  fin : ∀ i j, i < j → j < a → i / (2 * bs) = j / (2 * bs) → ltk key (f i) (f j)
  oR : ∀ i, a ≤ i → i < n → f i / bs = i / bs
  rest : ∀ i j, a ≤ i → i < j → j < n → i / bs = j / bs → ltk key (f i) (f j)
theorem div_two (x bs : Nat) : x / (2 * bs) = x / bs / 2 := by rw [Nat.div_div_eq_div_mul, Nat.mul_comm]
theorem MSt.start {key : Nat → Int} {f : Nat → Nat} {n bs : Nat} (h : Blk key f n bs) : MSt key f n bs 0 :=
  ⟨fun i hi => by rw [div_two, div_two, (h.own i hi).1]; exact ⟨rfl, (h.own i hi).2⟩, fun i j _ hj => absurd hj (by omega), fun i _ hi => (h.own i hi).1, fun i j _ hij hj he => h.srt i j hij hj he⟩
section
variable {key : Nat → Int} {f g : Nat → Nat} {n bs q b : Nat}
theorem MSt.runs (h : MSt key f n bs (2 * bs * q)) (h0 : 0 < bs) (hm : 2 * bs * q + bs ≤ b) (hb : b ≤ 2 * bs * q + 2 * bs) (hn : b ≤ n) : Runs key f (2 * bs * q) (2 * bs * q + bs) b := by
  have e0 : 2 * bs * q = bs * (2 * q) := by rw [Nat.mul_comm 2 bs, Nat.mul_assoc]
  have e1 : bs * (2 * q + 1) = bs * (2 * q) + bs := Nat.mul_succ _ _
  have L : ∀ i, 2 * bs * q ≤ i → i < 2 * bs * q + bs → i / bs = 2 * q := fun i h1 h2 => div_at h0 (by omega) (by omega)
  have R : ∀ i, 2 * bs * q + bs ≤ i → i < b → i / bs = 2 * q + 1 := fun i h1 h2 => div_at h0 (by omega) (by omega)
  refine ⟨fun i j hi hij hj => h.rest i j hi hij (by omega) (by rw [L i hi (by omega), L j (by omega) hj]), fun i j hi hij hj => h.rest i j (by omega) hij (by omega) (by rw [R i hi (by omega), R j (by omega) hj]), fun i j h1 h2 h3 h4 => ?_⟩
  have f1 := h.oR i h1 (by omega)
  have f2 := h.oR j (by omega) (by omega)
  rw [L i h1 h2] at f1
  rw [R j h3 h4] at f2
  have g1 : f i < bs * (2 * q + 1) := by
    have := (Nat.div_lt_iff_lt_mul (x := f i) (y := 2 * q + 1) h0).1 (by omega)
    rw [Nat.mul_comm]; exact this
  have g2 : bs * (2 * q + 1) ≤ f j := by
    have := (Nat.le_div_iff_mul_le (x := 2 * q + 1) (y := f j) h0).1 (by omega)
    rw [Nat.mul_comm]; exact this
  omega
theorem MSt.step (h : MSt key f n bs (2 * bs * q)) (h0 : 0 < bs) (hab : 2 * bs * q ≤ b) (hb : b ≤ 2 * bs * q + 2 * bs) (hn : b ≤ n) (hs : Srt key g (2 * bs * q) b) (hw : Within f g (2 * bs * q) b) : MSt key g n bs b := by
  have h02 : 0 < 2 * bs := by omega
  refine ⟨fun i hi => ?_, fun i j hij hj he => ?_, fun i h1 h2 => ?_, fun i j h1 hij hj he => ?_⟩
  · by_cases hc : 2 * bs * q ≤ i ∧ i < b
    · obtain ⟨j, j1, j2, e⟩ := hw.2 i hc.1 hc.2
      rw [e, (h.own j (by omega)).1, div_at h02 j1 (by omega), div_at h02 hc.1 (by omega)]
      exact ⟨rfl, (h.own j (by omega)).2⟩
    · rw [hw.1 i hc]; exact h.own i hi
  · by_cases c1 : j < 2 * bs * q
    · rw [hw.1 i (by omega), hw.1 j (by omega)]; exact h.fin i j hij c1 he
    · have e1 := div_at (bs := 2 * bs) (q := q) (j := j) h02 (by omega) (by omega)
      by_cases c2 : i < 2 * bs * q
      · have := div_lt_at h02 c2; omega
      · exact hs i j (by omega) hij hj
  · rw [hw.1 i (by omega)]; exact h.oR i (by omega) h2
  · rw [hw.1 i (by omega), hw.1 j (by omega)]; exact h.rest i j (by omega) hij hj he
/-- What is left behind the last pair is one block. -/
theorem MSt.blk (h : MSt key f n bs (2 * bs * q)) (h0 : 0 < bs) (hn : n ≤ 2 * bs * q + bs) : Blk key f n (2 * bs) := by
  have h02 : 0 < 2 * bs := by omega
  have e0 : 2 * bs * q = bs * (2 * q) := by rw [Nat.mul_comm 2 bs, Nat.mul_assoc]
  refine ⟨h.own, fun i j hij hj he => ?_⟩
  by_cases c1 : j < 2 * bs * q
  · exact h.fin i j hij c1 he
  · have e1 := div_at (bs := 2 * bs) (q := q) (j := j) h02 (by omega) (by omega)
    by_cases c2 : i < 2 * bs * q
    · have := div_lt_at h02 c2; omega
    · exact h.rest i j (by omega) hij hj (by rw [div_at (bs := bs) (q := 2 * q) h0 (by omega) (by omega), div_at (bs := bs) (q := 2 * q) h0 (by omega) (by omega)])
theorem MSt.blk_all (h : MSt key f n bs n) : Blk key f n (2 * bs) := ⟨h.own, h.fin⟩
end
end Go.Rt
