import Derived.Test.YtadlnmckcnfacaaUCoL
set_option linter.unusedVariables false
set_option linter.unusedSimpArgs false
namespace Go.Proofs.Ytadlnmckcnfacaa
open Go.RowKit Go.Rt
structure ColsOK (xs : List Int) (wv : WinV) (N M T C R : Nat) : Prop where
 hR : wv.R
 hr : 1 ≤ wv.L.length
 hok : wv.okB = true
 gX : goodB xs = true
 gO : goodB wv.O = true
 gL : goodB wv.L = true
 gK : goodB wv.K = true
 gS : goodB (colS xs wv) = true
 hN : prodI wv.O = (N : Int)
 hM : prodI wv.L = (M : Int)
 hT : prodI wv.K = (T : Int)
 hC : xs[1]?.getD 0 = (C : Int)
 hRe : xs[0]?.getD 0 = (R : Int)
 n1 : 1 ≤ N
 m1 : 1 ≤ M
 t1 : 1 ≤ T
 c1 : 1 ≤ C
 r1 : 1 ≤ R
 lx : xs.length = 2 + wv.L.length
 px : prodI xs = ((R * (C * M) : Nat) : Int)
 pS : prodI (colS xs wv) = ((R * (C * T) * N : Nat) : Int)
 bS : R * (C * T) * N ≤ 65536
 bX : R * (C * M) ≤ 65536
 bR : R ≤ 4096
 bC : C ≤ 4096
 bCT : C * T ≤ 4096
 bN : N ≤ 4096
 bRC : R * C ≤ 65536
theorem good_small {xs : List Int} (hs : Small2 xs) (h1 : ∀ x ∈ xs, 1 ≤ x) (hp : prodI xs ≤ 4096) : goodB xs = true := by
 obtain ⟨hl, h2⟩ := hs
 match xs, hl, h1, hp with
 | [], _, _, _ => decide
 | [x], _, h1, hp =>
  have hx := h1 x (by simp)
  have e : prodI [x] = x := by simp [prodI]
  rw [e] at hp
  exact goodB_iff.2 ⟨by simp, (fun z hz => by simp at hz; subst hz; omega), by rw [e]; omega⟩
 | [x, y], _, h1, hp =>
  have hx := h1 x (by simp)
  have hy := h1 y (by simp)
  have e : prodI [x, y] = x * y := by simp [prodI]
  rw [e] at hp
  have h3 := Int.mul_le_mul_of_nonneg_left (show (1 : Int) ≤ y by omega) (show 0 ≤ x by omega)
  have h4 := Int.mul_le_mul_of_nonneg_right (show (1 : Int) ≤ x by omega) (show 0 ≤ y by omega)
  exact goodB_iff.2 ⟨by simp, (fun z hz => by simp at hz; rcases hz with rfl | rfl <;> omega), by rw [e]; omega⟩
theorem colZ_ok {xs ks : List Int} {wv : WinV} (h : colZ xs ks wv = 0) : xs.length = 2 + wv.S.length ∧ ks.length = wv.S.length ∧ wv.okB = true ∧ goodB (colS xs wv) = true := by
 unfold colZ at h
 split at h
 ·next h1 =>
  split at h
  ·next h2 =>
   split at h
   ·next h3 => exact ⟨h1.1, h1.2, h2, h3⟩
   ·cases h
  ·cases h
 ·cases h
theorem colsK_ok {xs ks Q : List Int} {wv : WinV} (hL : wv.L = xs.drop 2) (hK : wv.K = ks) (hg : goodB xs = true) (hk : ks.all (okI 1) = true) (hn : numB false Q wv.S wv.P wv.D = true) (hz : colZ xs ks wv = 0) :
  ∃ N M T C R, ColsOK xs wv N M T C R := by
 obtain ⟨e1, e2, e3, e4⟩ := colZ_ok hz
 obtain ⟨hR, hr⟩ := cols_R hL hK hg hk hn e1 e2
 have hdS := goodB_dims e4
 have hdx := goodB_dims hg
 have hx2 : 2 ≤ xs.length := by omega
 have x0 := hdx _ (getD_mem (l := xs) (i := 0) (by omega))
 have x1 := hdx _ (getD_mem (l := xs) (i := 1) (by omega))
 have s1 := hdS (xs[1]?.getD 0 * prodI wv.K) (by unfold colS; simp)
 have s2 := hdS (prodI wv.O) (by unfold colS; simp)
 have sK := small_K hR
 have sO := small_O hR e3
 have pK := small2_pref sK 2
 rw [List.take_of_length_le sK.1] at pK
 have hKd : ∀ x ∈ wv.K, 1 ≤ x := fun x hx => by
  obtain ⟨i, hi, rfl⟩ := List.getElem_of_mem hx
  have h3 := hR.dk i (by have := hR.k; omega)
  rw [List.getElem?_eq_getElem hi] at h3
  simp only [Option.getD_some] at h3
  omega
 have hOd : ∀ x ∈ wv.O, 1 ≤ x := fun x hx => by
  obtain ⟨i, hi, rfl⟩ := List.mem_map.1 hx
  have hi2 := List.mem_range.1 hi
  have := hR.out_pos hi2 (WinV.ok_room e3 hi2)
  omega
 have hle := Int.mul_le_mul_of_nonneg_right (show (1 : Int) ≤ xs[1]?.getD 0 by omega) pK.1
 have gK : goodB wv.K = true := good_small sK hKd (by omega)
 have gO : goodB wv.O = true := good_small sO hOd (by omega)
 have gL : goodB wv.L = true := by rw [hL]; exact good_drop hg 2
 have qO := goodB_prod gO
 have qL := goodB_prod gL
 have qK := goodB_prod gK
 have qS := goodB_prod e4
 have qX := goodB_prod hg
 have hpx := prod_two hx2
 rw [← hL] at hpx
 have hpS : prodI (colS xs wv) = xs[0]?.getD 0 * (xs[1]?.getD 0 * prodI wv.K * prodI wv.O) := by unfold colS; simp [prodI]
 have hLl : wv.L.length = wv.S.length := by rw [hL, List.length_drop]; omega
 obtain ⟨N, hN⟩ : ∃ n : Nat, prodI wv.O = (n : Int) := ⟨_, (Int.toNat_of_nonneg (by omega)).symm⟩
 obtain ⟨M, hM⟩ : ∃ n : Nat, prodI wv.L = (n : Int) := ⟨_, (Int.toNat_of_nonneg (by omega)).symm⟩
 obtain ⟨T, hT⟩ : ∃ n : Nat, prodI wv.K = (n : Int) := ⟨_, (Int.toNat_of_nonneg (by omega)).symm⟩
 obtain ⟨C, hC⟩ : ∃ n : Nat, xs[1]?.getD 0 = (n : Int) := ⟨_, (Int.toNat_of_nonneg (by omega)).symm⟩
 obtain ⟨R, hRe⟩ : ∃ n : Nat, xs[0]?.getD 0 = (n : Int) := ⟨_, (Int.toNat_of_nonneg (by omega)).symm⟩
 have hpx2 : prodI xs = ((R * (C * M) : Nat) : Int) := by rw [hpx, hRe, hC, hM]; simp only [Int.natCast_mul]
 have hpS2 : prodI (colS xs wv) = ((R * (C * T) * N : Nat) : Int) := by rw [hpS, hRe, hC, hT, hN]; simp only [Int.natCast_mul, Int.mul_assoc]
 rw [hC, hT] at s1
 rw [hN] at s2
 rw [hRe] at x0
 rw [hC] at x1
 rw [hpx2] at qX
 rw [hpS2] at qS
 rw [hM] at qL
 rw [hT] at qK
 have hM1 : 1 ≤ M := by omega
 have hCT : C * T ≤ 4096 := by have : ((C * T : Nat) : Int) = (C : Int) * (T : Int) := Int.natCast_mul _ _; omega
 have hb1 : R * C ≤ R * (C * M) := Nat.mul_le_mul_left R (Nat.le_mul_of_pos_right C (by omega))
 exact ⟨N, M, T, C, R, hR, hr, e3, hg, gO, gL, gK, e4, hN, hM, hT, hC, hRe, by omega, hM1, by omega, by omega, by omega, by omega, hpx2, hpS2, by omega, by omega, by omega, by omega, hCT, by omega, by omega⟩
def clW (ys : List Int) (wv : WinV) (N T M : Nat) (n : Nat) : Int :=
 if wv.wB (n % N) (n / N % T) = true then ys[(n / N / T) * M + (wv.wI (n % N) (n / N % T)).toNat]?.getD 0 else 0
def doneB (N T m p t n : Nat) : Bool := decide (n / N / T < m) || (decide (n / N / T = m) && (decide (n % N < p) || (decide (n % N = p) && decide (n / N % T < t))))
theorem doneB_iff {N T m p t n : Nat} : doneB N T m p t n = true ↔ n / N / T < m ∨ (n / N / T = m ∧ (n % N < p ∨ (n % N = p ∧ n / N % T < t))) := by
 unfold doneB; simp
def fillC (F : Nat → Int) (N T NN m p t : Nat) : List Int := (List.range NN).map fun n => if doneB N T m p t n = true then F n else 0
theorem fillC_len (F : Nat → Int) (N T NN m p t : Nat) : (fillC F N T NN m p t).length = NN := by simp [fillC]
theorem fillC_ext {F : Nat → Int} {N T NN m p t m2 p2 t2 : Nat} (h : ∀ n, n < NN → (doneB N T m p t n = true ↔ doneB N T m2 p2 t2 n = true)) : fillC F N T NN m p t = fillC F N T NN m2 p2 t2 := by
 refine List.map_congr_left fun n hn => ?_
 have := h n (List.mem_range.1 hn)
 by_cases h1 : doneB N T m p t n = true
 ·rw [if_pos h1, if_pos (this.1 h1)]
 ·rw [if_neg h1, if_neg (fun h2 => h1 (this.2 h2))]
theorem col_parts {N T m p t : Nat} (hp : p < N) (ht : t < T) : ((m * T + t) * N + p) % N = p ∧ ((m * T + t) * N + p) / N / T = m ∧ ((m * T + t) * N + p) / N % T = t := by
 have h1 : ((m * T + t) * N + p) / N = m * T + t := by
  rw [Nat.mul_comm, Nat.mul_add_div (by omega), Nat.div_eq_of_lt hp, Nat.add_zero]
 refine ⟨?_, ?_, ?_⟩
 ·rw [Nat.mul_comm, Nat.mul_add_mod, Nat.mod_eq_of_lt hp]
 ·rw [h1, Nat.mul_comm, Nat.mul_add_div (by omega), Nat.div_eq_of_lt ht, Nat.add_zero]
 ·rw [h1, Nat.mul_comm, Nat.mul_add_mod, Nat.mod_eq_of_lt ht]
theorem col_eq {N T m p t n : Nat} (h1 : n / N / T = m) (h2 : n % N = p) (h3 : n / N % T = t) : n = (m * T + t) * N + p := by
 have e1 := Nat.div_add_mod n N
 have e2 := Nat.div_add_mod (n / N) T
 rw [h2] at e1
 rw [h1, h3] at e2
 rw [← e1, ← e2, Nat.mul_comm N, Nat.mul_comm T]
theorem done_step {N T m p t n : Nat} : doneB N T m p (t + 1) n = true ↔ doneB N T m p t n = true ∨ (n / N / T = m ∧ n % N = p ∧ n / N % T = t) := by
 rw [doneB_iff, doneB_iff]; omega
theorem fill_set (F : Nat → Int) {N T NN m p t : Nat} (hp : p < N) (ht : t < T) : fillC F N T NN m p (t + 1) = (fillC F N T NN m p t).set ((m * T + t) * N + p) (F ((m * T + t) * N + p)) := by
 obtain ⟨c1, c2, c3⟩ := col_parts (m := m) hp ht
 refine List.ext_getElem? fun n => ?_
 by_cases hn : n < NN
 ·by_cases he : (m * T + t) * N + p = n
  ·rw [he] at c1 c2 c3 ⊢
   rw [List.getElem?_set_self (by rw [fillC_len]; exact hn)]
   unfold fillC
   rw [List.getElem?_map, List.getElem?_range hn, Option.map_some, if_pos (done_step.2 (.inr ⟨c2, c1, c3⟩))]
  ·rw [List.getElem?_set_ne he]
   unfold fillC
   rw [List.getElem?_map, List.getElem?_range hn, List.getElem?_map, List.getElem?_range hn, Option.map_some, Option.map_some]
   by_cases hd : doneB N T m p t n = true
   ·rw [if_pos hd, if_pos (done_step.2 (.inl hd))]
   ·rw [if_neg hd, if_neg]
    intro h
    rcases done_step.1 h with h | ⟨h1, h2, h3⟩
    ·exact hd h
    ·exact he (col_eq h1 h2 h3).symm
 ·rw [List.getElem?_eq_none (by rw [fillC_len]; omega), List.getElem?_eq_none (by rw [List.length_set, fillC_len]; omega)]
theorem fill_skip (F : Nat → Int) {N T NN m p t : Nat} (hp : p < N) (ht : t < T) (h0 : F ((m * T + t) * N + p) = 0) : fillC F N T NN m p (t + 1) = fillC F N T NN m p t := by
 refine List.map_congr_left fun n hn => ?_
 by_cases hd : doneB N T m p t n = true
 ·rw [if_pos hd, if_pos (done_step.2 (.inl hd))]
 ·rw [if_neg hd]
  by_cases h2 : doneB N T m p (t + 1) n = true
  ·rw [if_pos h2]
   rcases done_step.1 h2 with h | ⟨h3, h4, h5⟩
   ·exact absurd h hd
   ·rw [col_eq h3 h4 h5]; exact h0
  ·rw [if_neg h2]
theorem fill_next (F : Nat → Int) {N T NN m p : Nat} (hT : 0 < T) : fillC F N T NN m p T = fillC F N T NN m (p + 1) 0 := by
 refine fillC_ext fun n _ => ?_
 have := Nat.mod_lt (n / N) hT
 rw [doneB_iff, doneB_iff]; omega
theorem fill_row (F : Nat → Int) {N T NN m : Nat} (hN : 0 < N) : fillC F N T NN m N 0 = fillC F N T NN (m + 1) 0 0 := by
 refine fillC_ext fun n _ => ?_
 have := Nat.mod_lt n hN
 rw [doneB_iff, doneB_iff]; omega
theorem fill_0 (F : Nat → Int) (N T NN : Nat) : fillC F N T NN 0 0 0 = List.replicate NN 0 := by
 unfold fillC
 rw [show (fun n => if doneB N T 0 0 0 n = true then F n else 0) = fun _ => (0 : Int) from funext fun n => by
  rw [if_neg]
  rw [doneB_iff]
  rintro (h | ⟨_, h | ⟨_, h⟩⟩) <;> exact absurd h (Nat.not_lt_zero _)]
 rw [List.map_const', List.length_range]
theorem fill_all (F : Nat → Int) {N T NN m : Nat} (hN : 0 < N) (hT : 0 < T) (h : NN = m * T * N) : fillC F N T NN m 0 0 = (List.range NN).map F := by
 refine List.map_congr_left fun n hn => ?_
 have hn := List.mem_range.1 hn
 rw [if_pos]
 rw [doneB_iff]
 refine .inl ?_
 rw [Nat.div_div_eq_div_mul, Nat.div_lt_iff_lt_mul (Nat.mul_pos hN hT), Nat.mul_comm N T, ← Nat.mul_assoc]
 omega
theorem col_lt {R C T N m p t : Nat} (hm : m < R * C) (hp : p < N) (ht : t < T) : (m * T + t) * N + p < R * (C * T) * N := by
 have e1 : m * T + t + 1 ≤ R * C * T := by have := Nat.mul_le_mul_right T (show m + 1 ≤ R * C by omega); rw [Nat.succ_mul] at this; omega
 have e2 := Nat.mul_le_mul_right N e1
 rw [Nat.succ_mul, Nat.mul_assoc R C T] at e2
 omega
theorem at_lt {R C M m z : Nat} (hm : m < R * C) (hz : z < M) : m * M + z < R * (C * M) := by
 have := Nat.mul_le_mul_right M (show m + 1 ≤ R * C by omega)
 rw [Nat.succ_mul, Nat.mul_assoc R C M] at this
 omega
theorem clW_at (ys : List Int) (wv : WinV) {N T M m p t : Nat} (hp : p < N) (ht : t < T) : clW ys wv N T M ((m * T + t) * N + p) = if wv.wB p t = true then ys[m * M + (wv.wI p t).toNat]?.getD 0 else 0 := by
 obtain ⟨c1, c2, c3⟩ := col_parts (m := m) hp ht
 unfold clW
 rw [c1, c2, c3]
theorem ints_rowS {W : World} {base S : Nat} {e : TypeId} {a : Option Addr} {n c : Nat} {xs : List Int} (h : W.ownsRow base e 1 (.slice a n c) n (xs.map (Value.int .i64))) (hl : xs.length = n) (hwf : ∀ x ∈ xs, (Lit.int .i64 x).wf = true) (hb : ∀ g, (Value.slice a n c).ownBlock = some g → g < S) : Ints .i64 W S a xs := by
 have h0 := ints_row h hl hwf
 refine ⟨h0.len, h0.wf, fun i hi => ?_⟩
 obtain ⟨b, o, e1, _, hc⟩ := h0.cell i hi
 exact ⟨b, o, e1, hb b (by rw [e1]; rfl), hc⟩
end Go.Proofs.Ytadlnmckcnfacaa
