/- Digits of natural numbers, to whatever base: the lists in which whole numbers stand. No walk. -/
import Derived.Test.YtddhhfhammmaaaaGreatBase
set_option linter.unusedVariables false
set_option linter.unusedSimpArgs false
namespace Go.Proofs.YtddhhfhammmaaaaGreat
open Go.RowKit Go.Rt

/-- What digits tell, the lowest first. -/
def valB (B : Nat) : List Int → Nat
  | [] => 0
  | x :: r => x.toNat + B * valB B r
def digF (B : Nat) : Nat → Nat → List Int
  | 0, _ => []
  | f + 1, m => if m = 0 then [] else ((m % B : Nat) : Int) :: digF B f (m / B)
/-- The digits of a number, none of 0 on top. -/
def dig (B m : Nat) : List Int := digF B m m
/-- Digits, each in its range. -/
def Rng (B : Nat) (xs : List Int) : Prop := ∀ x ∈ xs, 0 ≤ x ∧ x < B

theorem digF_fuel {B : Nat} (hB : 2 ≤ B) : ∀ (f g m : Nat), m ≤ f → m ≤ g → digF B f m = digF B g m
  | 0, 0, _, _, _ => rfl
  | 0, g + 1, m, h, _ => by
    have : m = 0 := by omega
    subst this
    rfl
  | f + 1, 0, m, _, h => by
    have : m = 0 := by omega
    subst this
    rfl
  | f + 1, g + 1, m, h, h2 => by
    rw [digF, digF]
    by_cases h0 : m = 0
    · rw [if_pos h0, if_pos h0]
    · have h3 : m / B < m := Nat.div_lt_self (by omega) hB
      rw [if_neg h0, if_neg h0, digF_fuel hB f g (m / B) (by omega) (by omega)]
theorem dig_zero (B : Nat) : dig B 0 = [] := rfl
theorem dig_pos {B m : Nat} (hB : 2 ≤ B) (h : m ≠ 0) : dig B m = ((m % B : Nat) : Int) :: dig B (m / B) := by
  obtain ⟨k, rfl⟩ : ∃ k, m = k + 1 := ⟨m - 1, by omega⟩
  have h3 : (k + 1) / B < k + 1 := Nat.div_lt_self (by omega) hB
  unfold dig
  rw [digF, if_neg h, digF_fuel hB k ((k + 1) / B) ((k + 1) / B) (by omega) (Nat.le_refl _)]
theorem val_dig {B : Nat} (hB : 2 ≤ B) (m : Nat) : valB B (dig B m) = m := by
  induction m using Nat.strongRecOn with
  | ind m ih =>
    by_cases h : m = 0
    · subst h; rfl
    · rw [dig_pos hB h, valB, ih _ (Nat.div_lt_self (by omega) hB)]
      rw [Int.toNat_natCast]
      exact Nat.mod_add_div m B
theorem dig_rng {B : Nat} (hB : 2 ≤ B) (m : Nat) : Rng B (dig B m) := by
  induction m using Nat.strongRecOn with
  | ind m ih =>
    by_cases h : m = 0
    · subst h
      intro x hx
      cases hx
    · rw [dig_pos hB h]
      intro x hx
      rcases List.mem_cons.1 hx with rfl | hx
      · have := Nat.mod_lt m (show 0 < B by omega)
        omega
      · exact ih _ (Nat.div_lt_self (by omega) hB) x hx
theorem dig_ne_nil {B m : Nat} (hB : 2 ≤ B) (h : m ≠ 0) : dig B m ≠ [] := by
  rw [dig_pos hB h]
  simp
theorem dig_len_zero {B m : Nat} (hB : 2 ≤ B) : (dig B m).length = 0 ↔ m = 0 := by
  constructor
  · intro h
    by_cases h0 : m = 0
    · exact h0
    · exact absurd (List.length_eq_zero_iff.1 h) (dig_ne_nil hB h0)
  · rintro rfl; rfl

/-- None of 0 on top. -/
def Top (xs : List Int) : Prop := xs = [] ∨ xs[xs.length - 1]?.getD 0 ≠ 0
theorem Top.tail {x : Int} {r : List Int} (h : Top (x :: r)) (hr : r ≠ []) : Top r := by
  have hl : 0 < r.length := List.length_pos_iff.2 hr
  rcases h with h | h
  · cases h
  · refine .inr ?_
    have e : (x :: r).length - 1 = (r.length - 1) + 1 := by simp; omega
    rw [e, List.getElem?_cons_succ] at h
    exact h
theorem valB_zero {B : Nat} (hB : 2 ≤ B) : ∀ {xs : List Int}, Rng B xs → Top xs → valB B xs = 0 → xs = []
  | [], _, _, _ => rfl
  | x :: r, hr, ht, h => by
    rw [valB] at h
    have h1 : x.toNat = 0 := by omega
    have h2 : valB B r = 0 := by
      have : B * valB B r = 0 := by omega
      rcases Nat.mul_eq_zero.1 this with h | h
      · omega
      · exact h
    have hx := hr x (by simp)
    have x0 : x = 0 := by omega
    by_cases hrn : r = []
    · subst hrn
      rcases ht with h | h
      · cases h
      · exact absurd (by simp [x0]) h
    · exact absurd (valB_zero hB (fun y hy => hr y (by simp [hy])) (ht.tail hrn) h2) hrn
theorem dig_unique {B : Nat} (hB : 2 ≤ B) : ∀ {xs : List Int}, Rng B xs → Top xs → dig B (valB B xs) = xs
  | [], _, _ => rfl
  | x :: r, hr, ht => by
    have hx := hr x (by simp)
    have hne : valB B (x :: r) ≠ 0 := fun h => by cases valB_zero hB hr ht h
    rw [dig_pos hB hne, valB]
    have hxB : x.toNat < B := by omega
    have e1 : (x.toNat + B * valB B r) % B = x.toNat := by rw [Nat.add_mul_mod_self_left, Nat.mod_eq_of_lt hxB]
    have e2 : (x.toNat + B * valB B r) / B = valB B r := by rw [Nat.add_mul_div_left _ _ (by omega), Nat.div_eq_of_lt hxB, Nat.zero_add]
    rw [e1, e2]
    by_cases hrn : r = []
    · subst hrn
      simp [valB, dig_zero]
      omega
    · rw [dig_unique hB (fun y hy => hr y (by simp [hy])) (ht.tail hrn)]
      congr 1
      omega
theorem dig_top {B : Nat} (hB : 2 ≤ B) (m : Nat) : Top (dig B m) := by
  induction m using Nat.strongRecOn with
  | ind m ih =>
    by_cases h : m = 0
    · subst h; exact .inl rfl
    · rw [dig_pos hB h]
      refine .inr ?_
      by_cases h2 : m / B = 0
      · rw [h2, dig_zero]
        have h3 : m < B := by
          rcases Nat.div_eq_zero_iff.1 h2 with h | h
          · omega
          · exact h
        simp [Nat.mod_eq_of_lt h3]
        omega
      · have hr := dig_ne_nil hB h2
        have hl : 0 < (dig B (m / B)).length := List.length_pos_iff.2 hr
        have e : (((m % B : Nat) : Int) :: dig B (m / B)).length - 1 = ((dig B (m / B)).length - 1) + 1 := by simp; omega
        rw [e, List.getElem?_cons_succ]
        rcases ih _ (Nat.div_lt_self (by omega) hB) with h4 | h4
        · exact absurd h4 hr
        · exact h4

theorem valB_append (B : Nat) : ∀ xs ys : List Int, valB B (xs ++ ys) = valB B xs + B ^ xs.length * valB B ys
  | [], ys => by simp [valB]
  | x :: r, ys => by
    rw [List.cons_append, valB, valB, valB_append B r ys, List.length_cons, Nat.pow_succ, Nat.mul_add, Nat.mul_comm (B ^ r.length) B, Nat.mul_assoc, Nat.add_assoc]
theorem valB_take_succ (B : Nat) (xs : List Int) (k : Nat) (h : k < xs.length) : valB B (xs.take (k + 1)) = valB B (xs.take k) + B ^ k * (xs[k]?.getD 0).toNat := by
  have hl : (xs.take k).length = k := by simp; omega
  rw [List.take_succ_eq_append_getElem h, valB_append, hl, List.getElem?_eq_getElem h]
  simp [valB]
theorem valB_take_ge (B : Nat) (xs : List Int) (k : Nat) (h : xs.length ≤ k) : valB B (xs.take k) = valB B xs := by rw [List.take_of_length_le h]
theorem valB_lt {B : Nat} (hB : 2 ≤ B) : ∀ {xs : List Int}, Rng B xs → valB B xs < B ^ xs.length
  | [], _ => by simp [valB]
  | x :: r, hr => by
    have hx := hr x (by simp)
    have ih := valB_lt hB (xs := r) (fun y hy => hr y (by simp [hy]))
    rw [valB, List.length_cons, Nat.pow_succ, Nat.mul_comm (B ^ r.length) B]
    have h1 : B * (valB B r + 1) ≤ B * B ^ r.length := Nat.mul_le_mul (Nat.le_refl _) ih
    rw [Nat.mul_add, Nat.mul_one] at h1
    omega
theorem Rng.take {B : Nat} {xs : List Int} (h : Rng B xs) (k : Nat) : Rng B (xs.take k) := fun x hx => h x (List.mem_of_mem_take hx)
theorem Rng.append {B : Nat} {xs ys : List Int} (h : Rng B xs) (h2 : Rng B ys) : Rng B (xs ++ ys) := fun x hx => by
  rcases List.mem_append.1 hx with hx | hx
  · exact h x hx
  · exact h2 x hx
theorem Rng.getD {B : Nat} {xs : List Int} (h : Rng B xs) (hB : 1 ≤ B) (k : Nat) : 0 ≤ xs[k]?.getD 0 ∧ xs[k]?.getD 0 < B := by
  by_cases hk : k < xs.length
  · rw [List.getElem?_eq_getElem hk]
    exact h _ (List.getElem_mem hk)
  · rw [List.getElem?_eq_none (by omega)]
    simp only [Option.getD_none]
    omega
theorem valB_drop_zero {B : Nat} : ∀ (xs : List Int) (n : Nat), (∀ i, n ≤ i → xs[i]?.getD 0 = 0) → valB B (xs.take n) = valB B xs
  | [], n, _ => by simp
  | x :: r, 0, h => by
    have hx : x = 0 := by simpa using h 0 (Nat.le_refl _)
    have ih := valB_drop_zero (B := B) r 0 (fun i _ => by simpa using h (i + 1) (by omega))
    rw [List.take_zero] at ih ⊢
    rw [valB, valB, ← ih, hx]
    simp [valB]
  | x :: r, n + 1, h => by
    have ih := valB_drop_zero (B := B) r n (fun i hi => by simpa using h (i + 1) (by omega))
    rw [List.take_succ_cons, valB, valB, ih]
/-- What is left when noughts on top are taken off. -/
theorem trim_dig {B : Nat} (hB : 2 ≤ B) {xs : List Int} {n : Nat} (hr : Rng B xs) (hn : n ≤ xs.length) (h0 : ∀ i, n ≤ i → xs[i]?.getD 0 = 0) (ht : n = 0 ∨ xs[n - 1]?.getD 0 ≠ 0) : xs.take n = dig B (valB B xs) := by
  have e := valB_drop_zero (B := B) xs n h0
  have hl : (xs.take n).length = n := by simp; omega
  rw [← e]
  refine (dig_unique hB (hr.take n) ?_).symm
  rcases ht with rfl | ht
  · exact .inl (by simp)
  · by_cases hz : n = 0
    · subst hz; exact .inl (by simp)
    · refine .inr ?_
      rw [hl, List.getElem?_take, if_pos (by omega)]
      exact ht
theorem dig_len_le {B : Nat} (hB : 2 ≤ B) (k : Nat) : ∀ m, m < B ^ k → (dig B m).length ≤ k := by
  induction k with
  | zero =>
    intro m h
    have : m = 0 := by simpa using h
    subst this
    exact Nat.le_refl _
  | succ k ih =>
    intro m h
    by_cases h0 : m = 0
    · subst h0; exact Nat.zero_le _
    · rw [dig_pos hB h0, List.length_cons]
      have h2 : m / B < B ^ k := by
        rw [Nat.pow_succ] at h
        exact Nat.div_lt_of_lt_mul (by rw [Nat.mul_comm]; exact h)
      exact Nat.succ_le_succ (ih _ h2)
theorem lt_dig_len {B : Nat} (hB : 2 ≤ B) (m : Nat) : m < B ^ (dig B m).length := by
  have := valB_lt hB (dig_rng hB m)
  rwa [val_dig hB] at this
theorem dig_len_ge {B : Nat} (hB : 2 ≤ B) : ∀ m, m ≠ 0 → B ^ ((dig B m).length - 1) ≤ m := by
  intro m
  induction m using Nat.strongRecOn with
  | ind m ih =>
    intro h
    rw [dig_pos hB h, List.length_cons]
    by_cases h2 : m / B = 0
    · rw [h2, dig_zero]
      simp
      omega
    · have i1 := ih _ (Nat.div_lt_self (by omega) hB) h2
      have hl : 0 < (dig B (m / B)).length := List.length_pos_iff.2 (dig_ne_nil hB h2)
      have e : (dig B (m / B)).length + 1 - 1 = ((dig B (m / B)).length - 1) + 1 := by omega
      rw [e, Nat.pow_succ]
      have h3 : m / B * B ≤ m := Nat.div_mul_le_self m B
      exact Nat.le_trans (Nat.mul_le_mul i1 (Nat.le_refl _)) h3
theorem dig_len_mono {B : Nat} (hB : 2 ≤ B) {m n : Nat} (h : m ≤ n) : (dig B m).length ≤ (dig B n).length :=
  dig_len_le hB _ m (Nat.lt_of_le_of_lt h (lt_dig_len hB n))
theorem dig_inj {B : Nat} (hB : 2 ≤ B) {m n : Nat} (h : dig B m = dig B n) : m = n := by rw [← val_dig hB m, h, val_dig hB]

/-- Two digits for each. -/
def half2 (xs : List Int) : List Int := xs.flatMap fun x => [x % 4294967296, x / 4294967296]
theorem half2_rng {xs : List Int} (h : Rng 18446744073709551616 xs) : Rng 4294967296 (half2 xs) := by
  intro y hy
  obtain ⟨x, hx, hy⟩ := List.mem_flatMap.1 hy
  have := h x hx
  simp at hy
  rcases hy with rfl | rfl <;> omega
theorem half2_val : ∀ {xs : List Int}, Rng 18446744073709551616 xs → valB 4294967296 (half2 xs) = valB 18446744073709551616 xs
  | [], _ => rfl
  | x :: r, h => by
    have hx := h x (by simp)
    have ih := half2_val (xs := r) (fun y hy => h y (by simp [hy]))
    have e : half2 (x :: r) = x % 4294967296 :: x / 4294967296 :: half2 r := rfl
    rw [e, valB, valB, valB, ih]
    omega
theorem half2_take (xs : List Int) (k : Nat) (h : k < xs.length) : half2 (xs.take (k + 1)) = half2 (xs.take k) ++ [xs[k] % 4294967296, xs[k] / 4294967296] := by
  rw [List.take_succ_eq_append_getElem h]
  unfold half2
  rw [List.flatMap_append]
  rfl
theorem half2_len : ∀ (xs : List Int), (half2 xs).length = 2 * xs.length
  | [] => rfl
  | x :: r => by
    have e : half2 (x :: r) = x % 4294967296 :: x / 4294967296 :: half2 r := rfl
    rw [e, List.length_cons, List.length_cons, half2_len r, List.length_cons]
    omega
end Go.Proofs.YtddhhfhammmaaaaGreat
