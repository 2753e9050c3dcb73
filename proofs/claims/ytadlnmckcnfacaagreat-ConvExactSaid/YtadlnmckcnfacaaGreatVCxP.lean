import Derived.Test.YtadlnmckcnfacaaGreatVCoP
set_option linter.unusedVariables false
set_option linter.unusedSimpArgs false
namespace Go.Proofs.YtadlnmckcnfacaaGreat
open Go.RowKit Go.Rt
def sumQ (f : Nat → Int) : Nat → Int
 | 0 => 0
 | n + 1 => sumQ f n + f n
theorem sumQ_congr {f g : Nat → Int} : ∀ n, (∀ i, i < n → f i = g i) → sumQ f n = sumQ g n
 | 0, _ => rfl
 | n + 1, h => by rw [sumQ, sumQ, sumQ_congr n (fun i hi => h i (by omega)), h n (by omega)]
theorem sumQ_zero : ∀ n, sumQ (fun _ => 0) n = 0
 | 0 => rfl
 | n + 1 => by rw [sumQ, sumQ_zero n]; rfl
theorem sumQ_add (f g : Nat → Int) : ∀ n, sumQ (fun i => f i + g i) n = sumQ f n + sumQ g n
 | 0 => rfl
 | n + 1 => by rw [sumQ, sumQ, sumQ, sumQ_add f g n]; omega
theorem sumQ_swap (F : Nat → Nat → Int) (n : Nat) : ∀ l, sumQ (fun j => sumQ (fun i => F j i) n) l = sumQ (fun i => sumQ (fun j => F j i) l) n
 | 0 => by
  rw [sumQ]
  exact (sumQ_zero n).symm
 | l + 1 => by
  rw [sumQ, sumQ_swap F n l]
  rw [show (fun i => sumQ (fun j => F j i) (l + 1)) = fun i => sumQ (fun j => F j i) l + F l i from rfl, sumQ_add]
theorem sumQ_more (f : Nat → Int) (n : Nat) : ∀ m, sumQ f (n + m) = sumQ f n + sumQ (fun i => f (n + i)) m
 | 0 => by simp [sumQ]
 | m + 1 => by rw [← Nat.add_assoc, sumQ, sumQ, sumQ_more f n m]; omega
theorem sumQ_split (F : Nat → Nat → Int) {T : Nat} (hT : 0 < T) : ∀ C, sumQ (fun b => F (b / T) (b % T)) (C * T) = sumQ (fun k => sumQ (fun t => F k t) T) C
 | 0 => by simp [sumQ]
 | C + 1 => by
  rw [Nat.succ_mul, sumQ_more, sumQ_split F hT C, sumQ]
  congr 1
  refine sumQ_congr T fun t ht => ?_
  have e1 : (C * T + t) / T = C := by rw [Nat.mul_comm, Nat.mul_add_div hT, Nat.div_eq_of_lt ht, Nat.add_zero]
  have e2 : (C * T + t) % T = t := by rw [Nat.mul_comm, Nat.mul_add_mod, Nat.mod_eq_of_lt ht]
  rw [e1, e2]
abbrev TapN := Nat × Nat × Nat
def tapB (wv : WinV) (N T a b : Nat) : Bool := wv.wB (a % N) (b % T)
def tapX (wv : WinV) (N M T C o a b : Nat) : Nat := (a / N / o * C + b / T) * M + (wv.wI (a % N) (b % T)).toNat
def tapK (N T C o a b : Nat) : Nat := a / N % o * (C * T) + b
def rowT (wv : WinV) (N M T C o a : Nat) : Nat → List TapN
 | 0 => []
 | b + 1 => rowT wv N M T C o a b ++ (if tapB wv N T a b = true then [(tapX wv N M T C o a b, tapK N T C o a b, a)] else [])
def allT (wv : WinV) (N M T C o : Nat) : Nat → List TapN
 | 0 => []
 | a + 1 => allT wv N M T C o a ++ rowT wv N M T C o a (C * T)
def tapS (ys vs : List Int) (j : Nat) : List TapN → Int
 | [] => 0
 | p :: l => (if p.2.2 = j then ys[p.1]?.getD 0 * vs[p.2.1]?.getD 0 else 0) + tapS ys vs j l
theorem tapS_append (ys vs : List Int) (j : Nat) : ∀ l m : List TapN, tapS ys vs j (l ++ m) = tapS ys vs j l + tapS ys vs j m
 | [], m => by simp [tapS]
 | p :: l, m => by rw [List.cons_append, tapS, tapS, tapS_append ys vs j l m]; omega
theorem tapS_row (ys vs : List Int) (wv : WinV) (N M T C o a j : Nat) : ∀ b, tapS ys vs j (rowT wv N M T C o a b) = if a = j then sumQ (fun b => if tapB wv N T a b = true then ys[tapX wv N M T C o a b]?.getD 0 * vs[tapK N T C o a b]?.getD 0 else 0) b else 0
 | 0 => by simp [rowT, tapS, sumQ]
 | b + 1 => by
  rw [rowT, tapS_append, tapS_row ys vs wv N M T C o a j b]
  by_cases hB : tapB wv N T a b = true
  ·rw [if_pos hB]
   by_cases hj : a = j
   ·subst hj
    rw [if_pos rfl, if_pos rfl, sumQ, if_pos hB, tapS, tapS, if_pos rfl]
    dsimp only
    omega
   ·simp [hj, tapS]
  ·rw [if_neg hB]
   by_cases hj : a = j
   ·rw [if_pos hj, if_pos hj, sumQ, if_neg hB]; simp [tapS]
   ·simp [hj, tapS]
theorem tapS_all (ys vs : List Int) (wv : WinV) (N M T C o j : Nat) : ∀ n, tapS ys vs j (allT wv N M T C o n) = if j < n then sumQ (fun b => if tapB wv N T j b = true then ys[tapX wv N M T C o j b]?.getD 0 * vs[tapK N T C o j b]?.getD 0 else 0) (C * T) else 0
 | 0 => by simp [allT, tapS]
 | n + 1 => by
  rw [allT, tapS_append, tapS_all ys vs wv N M T C o j n, tapS_row]
  by_cases h : j < n
  ·rw [if_pos h, if_neg (show ¬ n = j by omega), if_pos (show j < n + 1 by omega), Int.add_zero]
  ·by_cases h2 : n = j
   ·subst h2
    rw [if_neg h, if_pos rfl, if_pos (show n < n + 1 by omega), Int.zero_add]
   ·rw [if_neg h, if_neg h2, if_neg (show ¬ j < n + 1 by omega), Int.add_zero]
theorem cvIn_sum (ys vs : List Int) (C M T one out p t : Nat) : ∀ k, cvIn ys vs C M T one out p t k = sumQ (fun k => ys[(one * C + k) * M + p]?.getD 0 * vs[(out * C + k) * T + t]?.getD 0) k
 | 0 => rfl
 | k + 1 => by rw [cvIn, sumQ, cvIn_sum ys vs C M T one out p t k]
theorem cvSum_sum (wv : WinV) (ys vs : List Int) (C M T pl one out : Nat) : ∀ t, cvSum wv ys vs C M T pl one out t = sumQ (fun t => if wv.wB pl t = true then cvIn ys vs C M T one out (wv.wI pl t).toNat t C else 0) t
 | 0 => rfl
 | t + 1 => by
  rw [cvSum, sumQ, cvSum_sum wv ys vs C M T pl one out t]
  by_cases h : wv.wB pl t = true
  ·rw [if_pos h, if_pos h]
  ·rw [if_neg h, if_neg h]; omega
theorem taps_sum (ys vs : List Int) (wv : WinV) {N M T C o n j : Nat} (hT : 0 < T) (hj : j < n) : tapS ys vs j (allT wv N M T C o n) = cvSum wv ys vs C M T (j % N) (j / N / o) (j / N % o) T := by
 rw [tapS_all, if_pos hj, cvSum_sum]
 have e1 : sumQ (fun b => if tapB wv N T j b = true then ys[tapX wv N M T C o j b]?.getD 0 * vs[tapK N T C o j b]?.getD 0 else 0) (C * T) = sumQ (fun b => (fun k t => if wv.wB (j % N) t = true then ys[(j / N / o * C + k) * M + (wv.wI (j % N) t).toNat]?.getD 0 * vs[(j / N % o * C + k) * T + t]?.getD 0 else 0) (b / T) (b % T)) (C * T) :=
  sumQ_congr _ fun b _ => by
   have e : j / N % o * (C * T) + b = (j / N % o * C + b / T) * T + b % T := by
    have := Nat.div_add_mod b T
    rw [Nat.add_mul, Nat.mul_assoc, Nat.add_assoc, Nat.mul_comm (b / T) T, this]
   unfold tapB tapX tapK
   rw [e]
 refine (e1.trans (sumQ_split (fun k t => if wv.wB (j % N) t = true then ys[(j / N / o * C + k) * M + (wv.wI (j % N) t).toNat]?.getD 0 * vs[(j / N % o * C + k) * T + t]?.getD 0 else 0) hT C)).trans ?_
 rw [sumQ_swap]
 refine sumQ_congr _ fun t _ => ?_
 by_cases h : wv.wB (j % N) t = true
 ·rw [if_pos h, cvIn_sum]
  exact sumQ_congr _ fun k _ => if_pos h
 ·rw [if_neg h]
  exact (sumQ_congr _ fun k _ => if_neg h).trans (sumQ_zero _)
theorem tapS_take (ys vs : List Int) (j : Nat) (l : List TapN) (i : Nat) (h : i < l.length) : tapS ys vs j (l.take (i + 1)) = tapS ys vs j (l.take i) + (if l[i].2.2 = j then ys[l[i].1]?.getD 0 * vs[l[i].2.1]?.getD 0 else 0) := by
 rw [List.take_succ_eq_append_getElem h, tapS_append, tapS, tapS, Int.add_zero]
theorem tapS_bound {ys vs : List Int} (hy : ∀ y ∈ ys, isW y = true) (hv : ∀ y ∈ vs, isW y = true) (j : Nat) : ∀ l : List TapN, (tapS ys vs j l).natAbs ≤ l.length * 19807040628566084398385987584
 | [] => by simp [tapS]
 | p :: l => by
  have ih := tapS_bound hy hv j l
  have hm := mul_word (get_word hy p.1) (get_word hv p.2.1)
  rw [tapS, List.length_cons, Nat.succ_mul]
  generalize l.length * 19807040628566084398385987584 = q at ih ⊢
  generalize ys[p.1]?.getD 0 * vs[p.2.1]?.getD 0 = m at hm ⊢
  split <;> omega
theorem tap_facts {xs ys ws vs : List Int} {wv : WinV} {N M T C o R NN : Nat} (K : ConvOK xs ys ws vs wv N M T C o R NN) (hL : wv.L = xs.drop 2) (hK : wv.K = ws.drop 2) {a b : Nat} (ha : a < NN) (hb : b < C * T) :
  standsI (coS xs ws wv) (a : Int) = ((a / N / o : Nat) : Int) :: ((a / N % o : Nat) : Int) :: standsI wv.O ((a % N : Nat) : Int) ∧
  standsI (ws.drop 1) (b : Int) = ((b / T : Nat) : Int) :: standsI wv.K ((b % T : Nat) : Int) ∧
  placeI ws (((a / N % o : Nat) : Int) :: ((b / T : Nat) : Int) :: standsI wv.K ((b % T : Nat) : Int)) = (tapK N T C o a b : Int) ∧ tapK N T C o a b < vs.length ∧
  (tapB wv N T a b = true → placeI xs (((a / N / o : Nat) : Int) :: ((b / T : Nat) : Int) :: wv.xs (standsI wv.O ((a % N : Nat) : Int)) (standsI wv.K ((b % T : Nat) : Int))) = (tapX wv N M T C o a b : Int) ∧ tapX wv N M T C o a b < ys.length ∧ withinB xs (((a / N / o : Nat) : Int) :: ((b / T : Nat) : Int) :: wv.xs (standsI wv.O ((a % N : Nat) : Int)) (standsI wv.K ((b % T : Nat) : Int))) = true) ∧
  withinB ws (((a / N % o : Nat) : Int) :: ((b / T : Nat) : Int) :: standsI wv.K ((b % T : Nat) : Int)) = true := by
 have hlx := K.lx
 have hlw := K.lw
 have hr := K.hr
 have hn1 := K.n1
 have ht1 := K.t1
 have ho1 := K.o1
 have hc1 := K.c1
 have hxe : xs = (R : Int) :: (C : Int) :: wv.L := by
  have h := two_front (xs := xs) (by omega)
  rw [K.hRe, K.hC, ← hL] at h
  exact h
 have hwe : ws = (o : Int) :: (C : Int) :: wv.K := by
  have h := two_front (xs := ws) (by omega)
  rw [K.ho, K.hC2, ← hK] at h
  exact h
 have hdO := goodB_dims K.gO
 have hdK := goodB_dims K.gK
 have hdL := goodB_dims K.gL
 have hda : a / N / o < R := by
  have h1 := K.nn
  rw [Nat.div_div_eq_div_mul]
  refine Nat.div_lt_of_lt_mul ?_
  rw [Nat.mul_comm N o, Nat.mul_comm (o * N) R, ← Nat.mul_assoc, ← h1]
  exact ha
 have hdk : b / T < C := Nat.div_lt_of_lt_mul (by rw [Nat.mul_comm]; exact hb)
 have hmo : a / N % o < o := Nat.mod_lt _ (by omega)
 have eO : standsI wv.O (a : Int) = standsI wv.O ((a % N : Nat) : Int) := standsI_congr _ _ _ hdO (by rw [K.hN]; simp)
 have eK : standsI wv.K (b : Int) = standsI wv.K ((b % T : Nat) : Int) := standsI_congr _ _ _ hdK (by rw [K.hT]; simp)
 refine ⟨?_, ?_, ?_, ?_, fun hB => ?_, ?_⟩
 ·unfold coS
  rw [K.hRe, K.ho]
  simp only [List.cons_append, List.nil_append, standsI, prodI, K.hN]
  rw [eO]
  congr 1
  ·rw [show ((o : Int) * (N : Int)) = ((o * N : Nat) : Int) by simp, ← Int.natCast_ediv, ← Int.natCast_emod, Nat.mul_comm o N, ← Nat.div_div_eq_div_mul, Nat.mod_eq_of_lt hda]
 ·rw [hwe]
  simp only [List.drop_succ_cons, List.drop_zero, standsI, K.hT]
  rw [eK]
  congr 1
  rw [← Int.natCast_ediv, ← Int.natCast_emod, Nat.mod_eq_of_lt hdk]
 ·rw [hwe]
  simp only [placeI, prodI, K.hT]
  rw [placeI_stands _ _ hdK, K.hT]
  unfold tapK
  have h1 := Nat.div_add_mod b T
  have h2 : ((b % T : Nat) : Int) % (T : Int) = ((b % T : Nat) : Int) := by rw [← Int.natCast_emod, Nat.mod_mod]
  rw [h2]
  have h3 : ((b / T : Nat) : Int) * (T : Int) + ((b % T : Nat) : Int) = (b : Int) := by
   rw [← Int.natCast_mul, ← Int.natCast_add, Nat.mul_comm, h1]
  rw [Int.natCast_add, h3, Int.natCast_mul, Int.natCast_mul]
 ·unfold tapK
  rw [K.vl]
  have := Nat.mul_le_mul_right (C * T) (show a / N % o + 1 ≤ o from hmo)
  rw [Nat.succ_mul] at this
  omega
 ·have hst : wv.stB (standsI wv.O ((a % N : Nat) : Int)) (standsI wv.K ((b % T : Nat) : Int)) = true := hB
  have hbd := WinV.st_bound K.hR hst
  rw [K.hM] at hbd
  have hw : wv.wI (a % N) (b % T) = placeI wv.L (wv.xs (standsI wv.O ((a % N : Nat) : Int)) (standsI wv.K ((b % T : Nat) : Int))) := rfl
  have hbd2 : 0 ≤ wv.wI (a % N) (b % T) ∧ wv.wI (a % N) (b % T) < (M : Int) := hbd
  obtain ⟨q, hq⟩ : ∃ q : Nat, wv.wI (a % N) (b % T) = (q : Int) := ⟨(wv.wI (a % N) (b % T)).toNat, by omega⟩
  refine ⟨?_, ?_, ?_⟩
  ·rw [hxe]
   simp only [placeI, prodI, K.hM]
   rw [← hw]
   unfold tapX
   rw [hq, Int.toNat_natCast]
   simp only [Int.natCast_add, Int.natCast_mul, Int.add_mul, Int.mul_assoc]
   omega
  ·unfold tapX
   rw [hq, Int.toNat_natCast, K.yl]
   have h1 := Nat.mul_le_mul_right C (show a / N / o + 1 ≤ R from hda)
   rw [Nat.succ_mul] at h1
   have h2 := Nat.mul_le_mul_right M (show a / N / o * C + b / T + 1 ≤ R * C by omega)
   rw [Nat.succ_mul, Nat.mul_assoc R C M] at h2
   omega
  ·rw [hxe]
   have h5 := WinV.st_within hst
   simp only [withinB, Bool.and_eq_true, decide_eq_true_eq]
   exact ⟨⟨Int.natCast_nonneg _, Int.ofNat_lt.2 hda⟩, ⟨Int.natCast_nonneg _, Int.ofNat_lt.2 hdk⟩, h5⟩
 ·rw [hwe]
  have h5 := standsI_within wv.K ((b % T : Nat) : Int) hdK
  simp only [withinB, Bool.and_eq_true, decide_eq_true_eq]
  exact ⟨⟨Int.natCast_nonneg _, Int.ofNat_lt.2 hmo⟩, ⟨Int.natCast_nonneg _, Int.ofNat_lt.2 hdk⟩, h5⟩
def cellsT (l : List TapN) : List Value := l.flatMap fun p => [.int .i64 (p.1 : Int), .int .i64 (p.2.1 : Int), .int .i64 (p.2.2 : Int)]
theorem cellsT_append (l m : List TapN) : cellsT (l ++ m) = cellsT l ++ cellsT m := by simp [cellsT]
theorem cellsT_get : ∀ (l : List TapN) (i : Nat) (h : i < l.length), (cellsT l)[i * 3]? = some (.int .i64 (l[i].1 : Int)) ∧ (cellsT l)[i * 3 + 1]? = some (.int .i64 (l[i].2.1 : Int)) ∧ (cellsT l)[i * 3 + 2]? = some (.int .i64 (l[i].2.2 : Int))
 | [], i, h => absurd h (by simp)
 | p :: l, 0, h => ⟨rfl, rfl, rfl⟩
 | p :: l, i + 1, h => by
  have ih := cellsT_get l i (by simpa using h)
  have e : (i + 1) * 3 = i * 3 + 3 := by omega
  have e2 : cellsT (p :: l) = [.int .i64 (p.1 : Int), .int .i64 (p.2.1 : Int), .int .i64 (p.2.2 : Int)] ++ cellsT l := rfl
  have hg : ∀ j, (cellsT (p :: l))[j + 3]? = (cellsT l)[j]? := fun j => by
   rw [e2, List.getElem?_append_right (by simp)]; simp
  rw [e]
  refine ⟨?_, ?_, ?_⟩
  ·rw [hg]; exact ih.1
  ·rw [show i * 3 + 3 + 1 = (i * 3 + 1) + 3 by omega, hg]; exact ih.2.1
  ·rw [show i * 3 + 3 + 2 = (i * 3 + 2) + 3 by omega, hg]; exact ih.2.2
theorem rowT_le (wv : WinV) (N M T C o a : Nat) : ∀ b, (rowT wv N M T C o a b).length ≤ b
 | 0 => by simp [rowT]
 | b + 1 => by
  have := rowT_le wv N M T C o a b
  rw [rowT, List.length_append]
  split
  ·simp; omega
  ·simp; omega
theorem allT_le (wv : WinV) (N M T C o : Nat) : ∀ a, (allT wv N M T C o a).length ≤ a * (C * T)
 | 0 => by simp [allT]
 | a + 1 => by
  have := allT_le wv N M T C o a
  have h2 := rowT_le wv N M T C o a (C * T)
  rw [allT, List.length_append, Nat.succ_mul]
  omega
theorem rowT_mem {wv : WinV} {N M T C o a : Nat} : ∀ b, ∀ p ∈ rowT wv N M T C o a b, ∃ b', b' < b ∧ tapB wv N T a b' = true ∧ p = (tapX wv N M T C o a b', tapK N T C o a b', a)
 | 0, p, h => by cases h
 | b + 1, p, h => by
  rw [rowT] at h
  rcases List.mem_append.1 h with h | h
  ·obtain ⟨b', h1, h2, h3⟩ := rowT_mem b p h
   exact ⟨b', by omega, h2, h3⟩
  ·by_cases hB : tapB wv N T a b = true
   ·rw [if_pos hB] at h
    exact ⟨b, by omega, hB, by simpa using h⟩
   ·rw [if_neg hB] at h; cases h
theorem allT_mem {wv : WinV} {N M T C o : Nat} : ∀ n, ∀ p ∈ allT wv N M T C o n, ∃ a b, a < n ∧ b < C * T ∧ tapB wv N T a b = true ∧ p = (tapX wv N M T C o a b, tapK N T C o a b, a)
 | 0, p, h => by cases h
 | n + 1, p, h => by
  rw [allT] at h
  rcases List.mem_append.1 h with h | h
  ·obtain ⟨a, b, h1, h2, h3⟩ := allT_mem n p h
   exact ⟨a, b, by omega, h2, h3⟩
  ·obtain ⟨b, h1, h2, h3⟩ := rowT_mem _ p h
   exact ⟨n, b, by omega, h1, h2, h3⟩
end Go.Proofs.YtadlnmckcnfacaaGreat
