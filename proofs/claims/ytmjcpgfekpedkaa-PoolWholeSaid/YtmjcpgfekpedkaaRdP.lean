/- Plain laws of reducing: axes that rise, what is left of a list, where an index goes, sums. No walk. -/
import Derived.Test.YtmjcpgfekpedkaaShape
set_option linter.unusedVariables false
set_option linter.unusedSimpArgs false
namespace Go.Proofs.Ytmjcpgfekpedkaa
open Go.RowKit Go.Rt
/-- Axes rise, from above `last` on, and lie below r. -/
def axB (last r : Int) : List Int → Bool
  | [] => true
  | a :: t => (decide (last < a) && decide (a < r)) && axB a r t
def inB (l : List Int) (n : Int) : Bool := l.contains n
/-- What is left of the first j of s without the axes. -/
def restJ (s axes : List Int) (j : Nat) : List Int := ((List.range j).filter fun (i : Nat) => !inB axes (i : Int)).map fun (i : Nat) => s[i]?.getD 0
def restL (s axes : List Int) : List Int := restJ s axes s.length
theorem restJ_in {s axes : List Int} {j : Nat} (h : inB axes (j : Int) = true) : restJ s axes (j + 1) = restJ s axes j := by
  unfold restJ
  rw [List.range_succ, List.filter_append]
  simp [h]
theorem restJ_out {s axes : List Int} {j : Nat} (h : inB axes (j : Int) = false) : restJ s axes (j + 1) = restJ s axes j ++ [s[j]?.getD 0] := by
  unfold restJ
  rw [List.range_succ, List.filter_append]
  simp [h]
theorem restJ_len (s axes : List Int) (j : Nat) : (restJ s axes j).length ≤ j := by
  unfold restJ
  rw [List.length_map]
  exact Nat.le_trans (List.length_filter_le _ _) (by simp)
theorem restL_len (s axes : List Int) : (restL s axes).length ≤ s.length := restJ_len s axes _
theorem range_self (s : List Int) : (List.range s.length).map (fun i => s[i]?.getD 0) = s := by
  refine List.ext_getElem (by simp) fun i h1 h2 => ?_
  simp [List.getElem?_eq_getElem h2]
theorem restL_sub (s axes : List Int) : (restL s axes).Sublist s := by
  have h := (List.filter_sublist (p := fun i => !inB axes ((i : Nat) : Int)) (l := List.range s.length)).map (fun i => s[i]?.getD 0)
  rw [range_self] at h
  exact h
theorem restL_mem {s axes : List Int} {x : Int} (h : x ∈ restL s axes) : x ∈ s := (restL_sub s axes).subset h
theorem prodI_sub {a b : List Int} (h : a.Sublist b) (hb : ∀ d ∈ b, 1 ≤ d) : prodI a ≤ prodI b := by
  induction h with
  | slnil => exact Int.le_refl _
  | cons d h ih =>
    have h1 := ih fun x hx => hb x (List.mem_cons_of_mem _ hx)
    have h2 := hb d (List.mem_cons_self ..)
    have h3 := prodI_pos _ fun x hx => hb x (List.mem_cons_of_mem _ hx)
    have h4 := Int.mul_le_mul_of_nonneg_right h2 (Int.le_trans (by decide) h3)
    rw [Int.one_mul] at h4
    exact Int.le_trans h1 h4
  | cons_cons d h ih =>
    have h1 := ih fun x hx => hb x (List.mem_cons_of_mem _ hx)
    have h2 := hb d (List.mem_cons_self ..)
    exact Int.mul_le_mul_of_nonneg_left h1 (by omega)
theorem restL_good {s axes : List Int} (h : goodB s = true) : goodB (restL s axes) = true := by
  have hd := goodB_dims h
  refine goodB_iff.2 ⟨Nat.le_trans (restL_len s axes) (goodB_iff.1 h).1, fun d hm => hd d (restL_mem hm), ?_⟩
  exact Int.le_trans (prodI_sub (restL_sub s axes) fun d hm => (hd d hm).1) (goodB_prod h).2
theorem restL_within {s i axes : List Int} (h : withinB s i = true) : withinB (restL s axes) (restL i axes) = true := by
  obtain ⟨hl, hw⟩ := withinB_iff.1 h
  have e : restL i axes = ((List.range s.length).filter fun (k : Nat) => !inB axes (k : Int)).map fun (k : Nat) => i[k]?.getD 0 := by unfold restL restJ; rw [hl]
  rw [e]
  unfold restL restJ
  have : ∀ L : List Nat, (∀ k ∈ L, k < s.length) → withinB (L.map fun k => s[k]?.getD 0) (L.map fun k => i[k]?.getD 0) = true := by
    intro L
    induction L with
    | nil => intro _; rfl
    | cons k L ih =>
      intro hk
      have h1 := hw k (hk k (List.mem_cons_self ..))
      have h2 := ih fun x hx => hk x (List.mem_cons_of_mem _ hx)
      simp only [List.map_cons, withinB, Bool.and_eq_true, decide_eq_true_eq]
      exact ⟨h1, h2⟩
  exact this _ fun k hk => List.mem_range.1 (List.mem_filter.1 hk).1
/-- Where the word n goes. -/
def intoI (s axes : List Int) (n : Int) : Int := placeI (restL s axes) (restL (standsI s n) axes)
theorem into_bound {s : List Int} (axes : List Int) (n : Int) (h : goodB s = true) : 0 ≤ intoI s axes n ∧ intoI s axes n < prodI (restL s axes) :=
  placeI_bound _ _ (goodB_dims (restL_good h)) (restL_within (standsI_within s n (goodB_dims h)))
/-- The sum of the first n words that go to k. -/
def sumK (g : Nat → Nat) (ys : List Int) (k : Nat) : Nat → Int
  | 0 => 0
  | n + 1 => if g n = k then sumK g ys k n + ys[n]?.getD 0 else sumK g ys k n
theorem sumK_at {g : Nat → Nat} {ys : List Int} {n : Nat} : sumK g ys (g n) (n + 1) = sumK g ys (g n) n + ys[n]?.getD 0 := by
  rw [sumK, if_pos rfl]
theorem sumK_ne {g : Nat → Nat} {ys : List Int} {k n : Nat} (h : g n ≠ k) : sumK g ys k (n + 1) = sumK g ys k n := by
  rw [sumK, if_neg h]
theorem sumK_bound (g : Nat → Nat) {ys : List Int} {B : Nat} (h : ∀ y ∈ ys, y.natAbs ≤ B) (k : Nat) : ∀ n, (sumK g ys k n).natAbs ≤ n * B
  | 0 => by simp [sumK]
  | n + 1 => by
    have ih := sumK_bound g h k n
    rw [Nat.succ_mul, sumK]
    split
    · have : (ys[n]?.getD 0).natAbs ≤ B := by
        by_cases hn : n < ys.length
        · rw [List.getElem?_eq_getElem hn]; exact h _ (List.getElem_mem hn)
        · rw [List.getElem?_eq_none (by omega)]; simp
      generalize n * B = q at ih ⊢
      omega
    · generalize n * B = q at ih ⊢
      omega
/-- Cells of wide numbers, one after the other. -/
def wcells (S : Nat → Int) : Nat → List Value
  | 0 => []
  | n + 1 => wcells S n ++ [.int .i64 (S n / 18446744073709551616), .int .u64 (S n % 18446744073709551616)]
theorem wcells_len (S : Nat → Int) : ∀ n, (wcells S n).length = n * 2
  | 0 => rfl
  | n + 1 => by rw [wcells, List.length_append, wcells_len S n]; simp; omega
theorem wcells_hi (S : Nat → Int) : ∀ (n k : Nat), k < n → (wcells S n)[k * 2]? = some (.int .i64 (S k / 18446744073709551616))
  | n + 1, k, h => by
    rw [wcells]
    by_cases hk : k < n
    · rw [List.getElem?_append_left (by rw [wcells_len]; omega)]
      exact wcells_hi S n k hk
    · obtain rfl : k = n := by omega
      rw [List.getElem?_append_right (by rw [wcells_len]; omega), wcells_len]
      simp
theorem wcells_lo (S : Nat → Int) : ∀ (n k : Nat), k < n → (wcells S n)[k * 2 + 1]? = some (.int .u64 (S k % 18446744073709551616))
  | n + 1, k, h => by
    rw [wcells]
    by_cases hk : k < n
    · rw [List.getElem?_append_left (by rw [wcells_len]; omega)]
      exact wcells_lo S n k hk
    · obtain rfl : k = n := by omega
      rw [List.getElem?_append_right (by rw [wcells_len]; omega), wcells_len]
      simp [show k * 2 + 1 - k * 2 = 1 by omega]
theorem wcells_congr {S T : Nat → Int} : ∀ (n : Nat), (∀ k, k < n → S k = T k) → wcells S n = wcells T n
  | 0, _ => rfl
  | n + 1, h => by rw [wcells, wcells, wcells_congr n fun k hk => h k (by omega), h n (by omega)]
theorem wcells_set {S T : Nat → Int} (k : Nat) : ∀ (n : Nat), k < n → (∀ j, j < n → j ≠ k → T j = S j) → ((wcells S n).set (k * 2) (.int .i64 (T k / 18446744073709551616))).set (k * 2 + 1) (.int .u64 (T k % 18446744073709551616)) = wcells T n
  | n + 1, h, hT => by
    rw [wcells, wcells]
    by_cases hk : k < n
    · rw [List.set_append_left _ _ (by rw [wcells_len]; omega), List.set_append_left _ _ (by rw [List.length_set, wcells_len]; omega), wcells_set k n hk fun j hj => hT j (by omega), hT n (by omega) (by omega)]
    · obtain rfl : k = n := by omega
      rw [List.set_append_right _ _ (by rw [wcells_len]; omega), List.set_append_right _ _ (by rw [wcells_len]; omega), wcells_len, wcells_congr (S := S) (T := T) k fun j hj => (hT j (by omega) (by omega)).symm]
      simp [show k * 2 + 1 - k * 2 = 1 by omega]
theorem wcells_get {S : Nat → Int} {n i : Nat} (h : i < n * 2) : (wcells S n)[i]? = some (if i % 2 = 0 then .int .i64 (S (i / 2) / 18446744073709551616) else .int .u64 (S (i / 2) % 18446744073709551616)) := by
  split
  · next he =>
    have := wcells_hi S n (i / 2) (by omega)
    rwa [show i / 2 * 2 = i by omega] at this
  · next he =>
    have := wcells_lo S n (i / 2) (by omega)
    rwa [show i / 2 * 2 + 1 = i by omega] at this
end Go.Proofs.Ytmjcpgfekpedkaa
