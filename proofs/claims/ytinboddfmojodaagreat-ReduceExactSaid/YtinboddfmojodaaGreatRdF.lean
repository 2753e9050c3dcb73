/- Plain laws of sums and maxima along fibres. No walk. -/
import Derived.Test.YtinboddfmojodaaGreatRdP
set_option linter.unusedVariables false
set_option linter.unusedSimpArgs false
namespace Go.Proofs.YtinboddfmojodaaGreat
open Go.RowKit Go.Rt
/-- The greatest word of those that go to k, among the first n, and where it stands first. -/
def mxS (v h : Int) (st : Int × Int) : Int × Int := if h = 0 ∨ st.1 < v then (v, h) else st
def mxK (g : Nat → Nat) (hr : Nat → Int) (ys : List Int) (k : Nat) : Nat → Int × Int
  | 0 => (0, 0)
  | n + 1 => if g n = k then mxS (ys[n]?.getD 0) (hr n) (mxK g hr ys k n) else mxK g hr ys k n
/-- The words that go to k, in order. -/
def fibL (g : Nat → Nat) (k n : Nat) : List Nat := (List.range n).filter fun (i : Nat) => decide (g i = k)
theorem fibL_succ (g : Nat → Nat) (k n : Nat) : fibL g k (n + 1) = if g n = k then fibL g k n ++ [n] else fibL g k n := by
  unfold fibL
  rw [List.range_succ, List.filter_append]
  split
  · next h => simp [h]
  · next h => simp [h]
def lsum : List Int → Int
  | [] => 0
  | x :: t => x + lsum t
theorem lsum_snoc : ∀ (l : List Int) (x : Int), lsum (l ++ [x]) = lsum l + x
  | [], x => by simp [lsum]
  | y :: t, x => by rw [List.cons_append, lsum, lsum, lsum_snoc t x]; omega
theorem sumK_fib (g : Nat → Nat) (ys : List Int) (k : Nat) : ∀ n, sumK g ys k n = lsum ((fibL g k n).map fun (i : Nat) => ys[i]?.getD 0)
  | 0 => rfl
  | n + 1 => by
    rw [sumK, fibL_succ]
    split
    · rw [List.map_append, List.map_cons, List.map_nil, lsum_snoc, sumK_fib g ys k n]
    · exact sumK_fib g ys k n
theorem mxK_fib (g : Nat → Nat) (hr : Nat → Int) (ys : List Int) (k : Nat) : ∀ n, mxK g hr ys k n = ((fibL g k n).map fun (i : Nat) => (ys[i]?.getD 0, hr i)).foldl (fun st p => mxS p.1 p.2 st) (0, 0)
  | 0 => rfl
  | n + 1 => by
    rw [mxK, fibL_succ]
    split
    · rw [List.map_append, List.foldl_append, ← mxK_fib g hr ys k n]; rfl
    · exact mxK_fib g hr ys k n
theorem filter_one (k : Nat) : ∀ C, k < C → (List.range C).filter (fun (i : Nat) => decide (i = k)) = [k]
  | C + 1, h => by
    rw [List.range_succ, List.filter_append]
    by_cases hk : k < C
    · rw [filter_one k C hk]; simp; omega
    · obtain rfl : k = C := by omega
      rw [List.filter_eq_nil_iff.2 fun i hi => by have := List.mem_range.1 hi; simp; omega]
      simp
theorem fib_col (C k : Nat) (hk : k < C) : ∀ R, fibL (fun n => n % C) k (R * C) = (List.range R).map fun (r : Nat) => r * C + k
  | 0 => by simp [fibL]
  | R + 1 => by
    have ih := fib_col C k hk R
    unfold fibL at ih ⊢
    rw [Nat.succ_mul, List.range_add, List.filter_append, ih, List.range_succ, List.map_append, List.filter_map]
    congr 1
    have : List.filter ((fun (i : Nat) => decide (i % C = k)) ∘ fun x => R * C + x) (List.range C) = List.filter (fun (i : Nat) => decide (i = k)) (List.range C) := by
      refine List.filter_congr fun i hi => ?_
      have := List.mem_range.1 hi
      simp only [Function.comp]
      rw [Nat.mul_comm R C, Nat.mul_add_mod, Nat.mod_eq_of_lt this]
    rw [this, filter_one k C hk]
    rfl
theorem fib_row (R k : Nat) (hR : 0 < R) : ∀ C, fibL (fun n => n / R) k (C * R) = if k < C then (List.range R).map fun (r : Nat) => k * R + r else []
  | 0 => by simp [fibL]
  | C + 1 => by
    have ih := fib_row R k hR C
    unfold fibL at ih ⊢
    rw [Nat.succ_mul, List.range_add, List.filter_append, ih, List.filter_map]
    have e : ∀ i, i < R → (C * R + i) / R = C := fun i hi => by
      rw [Nat.mul_comm C R, Nat.mul_add_div hR, Nat.div_eq_of_lt hi, Nat.add_zero]
    by_cases hk : k = C
    · subst hk
      rw [if_neg (by omega), if_pos (by omega), List.nil_append]
      have : List.filter ((fun (i : Nat) => decide (i / R = k)) ∘ fun x => k * R + x) (List.range R) = List.range R := by
        rw [List.filter_eq_self]
        intro i hi
        simp only [Function.comp, e i (List.mem_range.1 hi), decide_true]
      rw [this]
    · have : List.filter ((fun (i : Nat) => decide (i / R = k)) ∘ fun x => C * R + x) (List.range R) = [] := by
        rw [List.filter_eq_nil_iff]
        intro i hi
        simp only [Function.comp, e i (List.mem_range.1 hi), decide_eq_true_eq]
        omega
      rw [this, List.map_nil, List.append_nil]
      by_cases h : k < C
      · rw [if_pos h, if_pos (by omega)]
      · rw [if_neg h, if_neg (by omega)]
/-- Sums of sums. -/
def sumF (g : Nat → Nat) (f : Nat → Int) (k : Nat) : Nat → Int
  | 0 => 0
  | n + 1 => if g n = k then sumF g f k n + f n else sumF g f k n
theorem sumK_F (g : Nat → Nat) (ys : List Int) (k : Nat) : ∀ n, sumK g ys k n = sumF g (fun i => ys[i]?.getD 0) k n
  | 0 => rfl
  | n + 1 => by rw [sumK, sumF, sumK_F g ys k n]
theorem sumF_congr {g : Nat → Nat} {f f' : Nat → Int} {k : Nat} : ∀ n, (∀ i, i < n → f i = f' i) → sumF g f k n = sumF g f' k n
  | 0, _ => rfl
  | n + 1, h => by rw [sumF, sumF, sumF_congr n fun i hi => h i (by omega), h n (by omega)]
theorem sumF_congrG {g g' : Nat → Nat} {f : Nat → Int} {k : Nat} : ∀ n, (∀ i, i < n → g i = g' i) → sumF g f k n = sumF g' f k n
  | 0, _ => rfl
  | n + 1, h => by rw [sumF, sumF, sumF_congrG n fun i hi => h i (by omega), h n (by omega)]
theorem sumF_add {g : Nat → Nat} {f : Nat → Int} {k m : Nat} {v : Int} : ∀ n, sumF g (fun i => if m = i then f i + v else f i) k n = sumF g f k n + (if m < n ∧ g m = k then v else 0)
  | 0 => by simp [sumF]
  | n + 1 => by
    rw [sumF, sumF, sumF_add n]
    by_cases hm : m = n
    · subst hm
      by_cases hg : g m = k
      · rw [if_pos hg, if_pos hg, if_pos rfl, if_neg (by omega), if_pos ⟨by omega, hg⟩]; omega
      · rw [if_neg hg, if_neg hg, if_neg (by omega), if_neg (by omega)]
    · rw [if_neg hm]
      have : (m < n + 1 ∧ g m = k) ↔ (m < n ∧ g m = k) := by omega
      simp only [this]
      split <;> omega
theorem sum_sum {g1 g2 : Nat → Nat} {f : Nat → Int} {k M : Nat} : ∀ N, (∀ n, n < N → g1 n < M) → sumF g2 (fun m => sumF g1 f m N) k M = sumF (fun n => g2 (g1 n)) f k N
  | 0, _ => by
    have : ∀ M, sumF g2 (fun m => sumF g1 f m 0) k M = 0 := fun M => by
      induction M with
      | zero => rfl
      | succ M ih => rw [sumF, ih]; split <;> rfl
    exact this M
  | N + 1, h => by
    have ih := sum_sum (g2 := g2) (f := f) (k := k) N fun n hn => h n (by omega)
    have e : sumF g2 (fun m => sumF g1 f m (N + 1)) k M = sumF g2 (fun m => if g1 N = m then sumF g1 f m N + f N else sumF g1 f m N) k M := sumF_congr M fun i hi => by rw [sumF]
    rw [e, sumF_add, ih, sumF]
    have := h N (by omega)
    by_cases hg : g2 (g1 N) = k
    · rw [if_pos ⟨this, hg⟩, if_pos hg]
    · rw [if_neg (by omega), if_neg hg, Int.add_zero]
/-- What a greatest word is. -/
theorem mx_inv {g : Nat → Nat} {hr : Nat → Int} {ys : List Int} {N : Nat} (hA : ∀ n, n < N → hr n ≠ 0 → ∃ m, m < n ∧ g m = g n) (hB : ∀ m n, m < n → n < N → g m = g n → hr m < hr n) (h0 : ∀ n, n < N → 0 ≤ hr n) (k : Nat) :
    ∀ n, n ≤ N → (∀ m, m < n → g m = k → ys[m]?.getD 0 ≤ (mxK g hr ys k n).1 ∧ (ys[m]?.getD 0 = (mxK g hr ys k n).1 → (mxK g hr ys k n).2 ≤ hr m) ∧ (hr m = (mxK g hr ys k n).2 → ys[m]?.getD 0 = (mxK g hr ys k n).1)) ∧
      ((∃ m, m < n ∧ g m = k) → ∃ m, m < n ∧ g m = k ∧ hr m = (mxK g hr ys k n).2 ∧ ys[m]?.getD 0 = (mxK g hr ys k n).1)
  | 0, _ => ⟨fun m hm => absurd hm (by omega), fun ⟨m, hm, _⟩ => absurd hm (by omega)⟩
  | n + 1, hn => by
    obtain ⟨i1, i2⟩ := mx_inv (ys := ys) hA hB h0 k n (by omega)
    rw [mxK]
    by_cases hg : g n = k
    · rw [if_pos hg]
      unfold mxS
      by_cases hc : hr n = 0 ∨ (mxK g hr ys k n).1 < ys[n]?.getD 0
      · rw [if_pos hc]
        refine ⟨fun m hm hk => ?_, fun _ => ⟨n, by omega, hg, rfl, rfl⟩⟩
        by_cases hmn : m = n
        · subst hmn
          exact ⟨Int.le_refl _, fun _ => Int.le_refl _, fun _ => rfl⟩
        · have hB1 := hB m n (by omega) (by omega) (by rw [hk, hg])
          have hm0 := h0 m (by omega)
          rcases hc with hc | hc
          · omega
          · have := (i1 m (by omega) hk).1
            exact ⟨by show _ ≤ ys[n]?.getD 0; omega, fun h => by have h' : ys[m]?.getD 0 = ys[n]?.getD 0 := h; omega, fun h => by have h' : hr m = hr n := h; omega⟩
      · rw [if_neg hc]
        have hc1 : hr n ≠ 0 := fun h => hc (.inl h)
        have hc2 : ys[n]?.getD 0 ≤ (mxK g hr ys k n).1 := by
          by_cases h : ys[n]?.getD 0 ≤ (mxK g hr ys k n).1
          · exact h
          · exact absurd (.inr (by omega)) hc
        obtain ⟨m0, hm0, hg0⟩ := hA n (by omega) hc1
        obtain ⟨m1, hm1, hg1, e1, e2⟩ := i2 ⟨m0, hm0, by rw [hg0, hg]⟩
        have hB1 := hB m1 n hm1 (by omega) (by rw [hg1, hg])
        refine ⟨fun m hm hk => ?_, fun _ => ⟨m1, by omega, hg1, e1, e2⟩⟩
        by_cases hmn : m = n
        · subst hmn
          exact ⟨hc2, fun _ => by omega, fun h => by omega⟩
        · exact i1 m (by omega) hk
    · rw [if_neg hg]
      refine ⟨fun m hm hk => ?_, fun ⟨m, hm, hk⟩ => ?_⟩
      · have hmn : m ≠ n := fun h => hg (h ▸ hk)
        exact i1 m (by omega) hk
      · have hmn : m ≠ n := fun h => hg (h ▸ hk)
        obtain ⟨m1, a1, a2, a3, a4⟩ := i2 ⟨m, by omega, hk⟩
        exact ⟨m1, by omega, a2, a3, a4⟩
end Go.Proofs.YtinboddfmojodaaGreat
