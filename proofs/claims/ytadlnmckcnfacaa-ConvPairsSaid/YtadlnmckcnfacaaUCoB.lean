import Derived.Test.YtadlnmckcnfacaaUCoM
set_option linter.unusedVariables false
set_option linter.unusedSimpArgs false
namespace Go.Proofs.Ytadlnmckcnfacaa
open Go.RowKit Go.Rt
def sumB (f : Nat → Int) : Nat → Int
 | 0 => 0
 | n + 1 => sumB f n + f n
theorem sumB_congr {f g : Nat → Int} : ∀ n, (∀ i, i < n → f i = g i) → sumB f n = sumB g n
 | 0, _ => rfl
 | n + 1, h => by rw [sumB, sumB, sumB_congr n (fun i hi => h i (by omega)), h n (by omega)]
theorem sumB_zero : ∀ n, sumB (fun _ => 0) n = 0
 | 0 => rfl
 | n + 1 => by rw [sumB, sumB_zero n]; rfl
theorem sumB_one {f g : Nat → Int} {c : Nat} : ∀ n, c < n → (∀ i, i < n → i ≠ c → f i = g i) → sumB f n = sumB g n + (f c - g c)
 | 0, h, _ => absurd h (Nat.not_lt_zero _)
 | n + 1, h, he => by
  rw [sumB, sumB]
  by_cases hc : c = n
  ·subst hc
   rw [sumB_congr c (fun i hi => he i (by omega) (by omega))]
   omega
  ·rw [sumB_one n (by omega) (fun i hi hne => he i (by omega) hne), he n (by omega) (by omega)]
   omega
theorem sumB_abs {f : Nat → Int} {B : Nat} : ∀ n, (∀ i, i < n → (f i).natAbs ≤ B) → (sumB f n).natAbs ≤ n * B
 | 0, _ => by simp [sumB]
 | n + 1, h => by
  have h1 := sumB_abs n (fun i hi => h i (by omega))
  have h2 := h n (by omega)
  rw [sumB, Nat.succ_mul]
  omega
def bkT (wv : WinV) (N T M n : Nat) : Nat := (n / N / T) * M + (wv.wI (n % N) (n / N % T)).toNat
def bkI (wv : WinV) (N T n : Nat) : Bool := wv.wB (n % N) (n / N % T)
def bkS (zs : List Int) (wv : WinV) (N T M NN m p t j : Nat) : Int :=
 sumB (fun n => if doneB N T m p t n = true ∧ bkI wv N T n = true ∧ bkT wv N T M n = j then zs[n]?.getD 0 else 0) NN
def bkA (zs : List Int) (wv : WinV) (N T M NN j : Nat) : Int :=
 sumB (fun n => if bkI wv N T n = true ∧ bkT wv N T M n = j then zs[n]?.getD 0 else 0) NN
theorem bkS_ext {zs : List Int} {wv : WinV} {N T M NN m p t m2 p2 t2 j : Nat} (h : ∀ n, n < NN → (doneB N T m p t n = true ↔ doneB N T m2 p2 t2 n = true)) : bkS zs wv N T M NN m p t j = bkS zs wv N T M NN m2 p2 t2 j := by
 refine sumB_congr NN fun n hn => ?_
 have := h n hn
 by_cases h1 : doneB N T m p t n = true
 ·have h2 := this.1 h1
  simp only [h1, h2]
 ·have h2 : ¬ doneB N T m2 p2 t2 n = true := fun q => h1 (this.2 q)
  rw [if_neg (fun q => h1 q.1), if_neg (fun q => h2 q.1)]
theorem bk_0 (zs : List Int) (wv : WinV) (N T M NN j : Nat) : bkS zs wv N T M NN 0 0 0 j = 0 := by
 unfold bkS
 rw [sumB_congr NN (g := fun _ => 0) (fun n _ => by
  rw [if_neg]
  rintro ⟨h, _⟩
  rw [doneB_iff] at h
  rcases h with h | ⟨_, h | ⟨_, h⟩⟩ <;> exact absurd h (Nat.not_lt_zero _))]
 exact sumB_zero NN
theorem done_col {N T m p t : Nat} (hp : p < N) (ht : t < T) : ¬ doneB N T m p t ((m * T + t) * N + p) = true := by
 obtain ⟨c1, c2, c3⟩ := col_parts (m := m) hp ht
 rw [doneB_iff, c1, c2, c3]
 omega
theorem done_other {N T m p t n : Nat} (hp : p < N) (ht : t < T) (hn : n ≠ (m * T + t) * N + p) : doneB N T m p (t + 1) n = true ↔ doneB N T m p t n = true := by
 rw [done_step]
 constructor
 ·rintro (h | ⟨h1, h2, h3⟩)
  ·exact h
  ·exact absurd (col_eq h1 h2 h3) hn
 ·exact .inl
theorem bk_step (zs : List Int) (wv : WinV) {N T M NN m p t j : Nat} (hp : p < N) (ht : t < T) (hc : (m * T + t) * N + p < NN) (hB : wv.wB p t = true) :
  bkS zs wv N T M NN m p (t + 1) j = bkS zs wv N T M NN m p t j + (if m * M + (wv.wI p t).toNat = j then zs[(m * T + t) * N + p]?.getD 0 else 0) := by
 obtain ⟨c1, c2, c3⟩ := col_parts (m := m) hp ht
 unfold bkS
 rw [sumB_one NN hc (g := fun n => if doneB N T m p t n = true ∧ bkI wv N T n = true ∧ bkT wv N T M n = j then zs[n]?.getD 0 else 0) (fun n _ hne => by simp only [done_other hp ht hne])]
 congr 1
 have e1 : bkI wv N T ((m * T + t) * N + p) = true := by unfold bkI; rw [c1, c3]; exact hB
 have e2 : bkT wv N T M ((m * T + t) * N + p) = m * M + (wv.wI p t).toNat := by unfold bkT; rw [c1, c2, c3]
 have e3 : doneB N T m p (t + 1) ((m * T + t) * N + p) = true := done_step.2 (.inr ⟨c2, c1, c3⟩)
 simp only [e1, e2, e3, true_and]
 rw [if_neg (c := doneB N T m p t ((m * T + t) * N + p) = true ∧ m * M + (wv.wI p t).toNat = j) (fun q => done_col hp ht q.1)]
 omega
theorem bk_skip (zs : List Int) (wv : WinV) {N T M NN m p t j : Nat} (hp : p < N) (ht : t < T) (hB : wv.wB p t = false) : bkS zs wv N T M NN m p (t + 1) j = bkS zs wv N T M NN m p t j := by
 refine sumB_congr NN fun n _ => ?_
 by_cases hne : n = (m * T + t) * N + p
 ·obtain ⟨c1, c2, c3⟩ := col_parts (m := m) hp ht
  have e1 : bkI wv N T n = false := by unfold bkI; rw [hne, c1, c3]; exact hB
  rw [if_neg (fun q => by rw [e1] at q; exact absurd q.2.1 (by decide)), if_neg (fun q => by rw [e1] at q; exact absurd q.2.1 (by decide))]
 ·simp only [done_other hp ht hne]
theorem bk_next (zs : List Int) (wv : WinV) {N T M NN m p j : Nat} (hT : 0 < T) : bkS zs wv N T M NN m p T j = bkS zs wv N T M NN m (p + 1) 0 j := by
 refine bkS_ext fun n _ => ?_
 have := Nat.mod_lt (n / N) hT
 rw [doneB_iff, doneB_iff]; omega
theorem bk_row (zs : List Int) (wv : WinV) {N T M NN m j : Nat} (hN : 0 < N) : bkS zs wv N T M NN m N 0 j = bkS zs wv N T M NN (m + 1) 0 0 j := by
 refine bkS_ext fun n _ => ?_
 have := Nat.mod_lt n hN
 rw [doneB_iff, doneB_iff]; omega
theorem bk_all (zs : List Int) (wv : WinV) {N T M NN m j : Nat} (hN : 0 < N) (hT : 0 < T) (h : NN = m * T * N) : bkS zs wv N T M NN m 0 0 j = bkA zs wv N T M NN j := by
 refine sumB_congr NN fun n hn => ?_
 have e : doneB N T m 0 0 n = true := by
  rw [doneB_iff]
  refine .inl ?_
  rw [Nat.div_div_eq_div_mul, Nat.div_lt_iff_lt_mul (Nat.mul_pos hN hT), Nat.mul_comm N T, ← Nat.mul_assoc]
  omega
 simp only [e, true_and]
theorem bk_word {zs : List Int} (hz : ∀ y ∈ zs, isW y = true) (n : Nat) : (zs[n]?.getD 0).natAbs ≤ 140737488355328 := by
 have := get_word hz n; omega
theorem bk_bound {zs : List Int} (hz : ∀ y ∈ zs, isW y = true) (wv : WinV) (N T M NN m p t j : Nat) (h : NN ≤ 65536) : inR (bkS zs wv N T M NN m p t j) := by
 have h1 := sumB_abs (f := fun n => if doneB N T m p t n = true ∧ bkI wv N T n = true ∧ bkT wv N T M n = j then zs[n]?.getD 0 else 0) (B := 140737488355328) NN (fun n _ => by
  have := bk_word hz n
  split <;> omega)
 have h2 := Nat.mul_le_mul_right 140737488355328 h
 unfold inR bkS
 generalize sumB (fun n => if doneB N T m p t n = true ∧ bkI wv N T n = true ∧ bkT wv N T M n = j then zs[n]?.getD 0 else 0) NN = q at *
 omega
def flatB (f : Nat → Int) (X : Nat) : List Value := (List.range (2 * X)).map fun i => if i % 2 = 0 then .int .i64 (f (i / 2) / 18446744073709551616) else .int .u64 (f (i / 2) % 18446744073709551616)
theorem flatB_len (f : Nat → Int) (X : Nat) : (flatB f X).length = 2 * X := by simp [flatB]
theorem flatB_0 (f : Nat → Int) {X j : Nat} (h : j < X) : (flatB f X)[j * 2]? = some (.int .i64 (f j / 18446744073709551616)) := by
 unfold flatB
 rw [List.getElem?_map, List.getElem?_range (by omega), Option.map_some, if_pos (by omega), show j * 2 / 2 = j by omega]
theorem flatB_1 (f : Nat → Int) {X j : Nat} (h : j < X) : (flatB f X)[j * 2 + 1]? = some (.int .u64 (f j % 18446744073709551616)) := by
 unfold flatB
 rw [List.getElem?_map, List.getElem?_range (by omega), Option.map_some, if_neg (by omega), show (j * 2 + 1) / 2 = j by omega]
theorem flatB_set (f g : Nat → Int) {X j : Nat} (h : j < X) (hg : ∀ i, i ≠ j → g i = f i) : ((flatB f X).set (j * 2) (.int .i64 (g j / 18446744073709551616))).set (j * 2 + 1) (.int .u64 (g j % 18446744073709551616)) = flatB g X := by
 refine List.ext_getElem? fun i => ?_
 by_cases hi : i < 2 * X
 ·by_cases h1 : j * 2 + 1 = i
  ·subst h1
   rw [List.getElem?_set_self (by rw [List.length_set, flatB_len]; exact hi), flatB_1 g h]
  ·rw [List.getElem?_set_ne h1]
   by_cases h2 : j * 2 = i
   ·subst h2
    rw [List.getElem?_set_self (by rw [flatB_len]; exact hi), flatB_0 g h]
   ·rw [List.getElem?_set_ne h2]
    unfold flatB
    rw [List.getElem?_map, List.getElem?_range hi, List.getElem?_map, List.getElem?_range hi, Option.map_some, Option.map_some, hg (i / 2) (by omega)]
 ·rw [List.getElem?_eq_none (by rw [List.length_set, List.length_set, flatB_len]; omega), List.getElem?_eq_none (by rw [flatB_len]; omega)]
def bkWs (xs zs : List Int) (wv : WinV) : List Int := (List.range (prodI xs).toNat).map (bkA zs wv (prodI wv.O).toNat (prodI wv.K).toNat (prodI wv.L).toNat (prodI (colS xs wv)).toNat)
theorem flatB_zero (X : Nat) : flatB (fun _ => 0) X = (List.range (2 * X)).map fun i => if i % 2 = 0 then .int .i64 0 else .int .u64 0 := rfl
end Go.Proofs.Ytadlnmckcnfacaa
