/- Plain: a convolution as a product of the kernels and the columns. No program in sight. -/
import Derived.Test.YtadlnmckcnfacaaCoS
import Derived.Test.YtadlnmckcnfacaaCoA
set_option linter.unusedVariables false
set_option linter.unusedSimpArgs false
namespace Go.Proofs.Ytadlnmckcnfacaa
open Go.RowKit Go.Rt
def sumTo (f : Nat → Int) : Nat → Int
  | 0 => 0
  | n + 1 => sumTo f n + f n
theorem sumTo_congr {f g : Nat → Int} : ∀ n, (∀ i, i < n → f i = g i) → sumTo f n = sumTo g n
  | 0, _ => rfl
  | n + 1, h => by rw [sumTo, sumTo, sumTo_congr n (fun i hi => h i (by omega)), h n (by omega)]
theorem sumTo_zero : ∀ n, sumTo (fun _ => 0) n = 0
  | 0 => rfl
  | n + 1 => by rw [sumTo, sumTo_zero n]; rfl
theorem sumTo_add (f g : Nat → Int) : ∀ n, sumTo (fun i => f i + g i) n = sumTo f n + sumTo g n
  | 0 => rfl
  | n + 1 => by rw [sumTo, sumTo, sumTo, sumTo_add f g n]; omega
theorem sumTo_split (f : Nat → Int) (m : Nat) : ∀ n, sumTo f (m + n) = sumTo f m + sumTo (fun i => f (m + i)) n
  | 0 => by simp [sumTo]
  | n + 1 => by rw [← Nat.add_assoc, sumTo, sumTo_split f m n, sumTo]; omega
theorem sumTo_mul (f : Nat → Int) (T : Nat) : ∀ k, sumTo f (k * T) = sumTo (fun i => sumTo (fun t => f (i * T + t)) T) k
  | 0 => by rw [Nat.zero_mul]; rfl
  | k + 1 => by rw [Nat.succ_mul, sumTo_split, sumTo_mul f T k, sumTo]
theorem sumTo_swap (g : Nat → Nat → Int) (T : Nat) : ∀ k, sumTo (fun i => sumTo (fun t => g i t) T) k = sumTo (fun t => sumTo (fun i => g i t) k) T
  | 0 => by rw [sumTo]; exact (sumTo_zero T).symm
  | k + 1 => by
    rw [sumTo, sumTo_swap g T k, ← sumTo_add]
    exact sumTo_congr T fun t _ => by rw [sumTo]
theorem cvIn_sum (ys vs : List Int) (C M T one out p t : Nat) : ∀ k, cvIn ys vs C M T one out p t k = sumTo (fun k => (ys[(one * C + k) * M + p]?.getD 0) * (vs[(out * C + k) * T + t]?.getD 0)) k
  | 0 => rfl
  | k + 1 => by rw [cvIn, sumTo, cvIn_sum ys vs C M T one out p t k]
theorem cvSum_sum (wv : WinV) (ys vs : List Int) (C M T pl one out : Nat) : ∀ t, cvSum wv ys vs C M T pl one out t = sumTo (fun t => if wv.wB pl t = true then cvIn ys vs C M T one out (wv.wI pl t).toNat t C else 0) t
  | 0 => rfl
  | t + 1 => by
    rw [cvSum, sumTo, ← cvSum_sum wv ys vs C M T pl one out t]
    by_cases h : wv.wB pl t = true
    · rw [if_pos h, if_pos h]
    · rw [if_neg h, if_neg h]; omega
theorem sumAt_sum (xs ys : List Int) (o p st : Nat) : ∀ n, sumAt xs ys o p st n = sumTo (fun j => xs[o + j]?.getD 0 * ys[p + j * st]?.getD 0) n
  | 0 => rfl
  | n + 1 => by rw [sumAt, sumTo, sumAt_sum xs ys o p st n]
/-- The columns' words. -/
def colW (ys : List Int) (wv : WinV) (N T M C R : Nat) : List Int := (List.range (R * (C * T) * N)).map (clW ys wv N T M)
theorem colW_get (ys : List Int) (wv : WinV) {N T M C R n : Nat} (h : n < R * (C * T) * N) : (colW ys wv N T M C R)[n]? = some (clW ys wv N T M n) := by
  unfold colW
  rw [List.getElem?_map, List.getElem?_range h, Option.map_some]
theorem prod_sum {ys vs : List Int} {wv : WinV} {N T M C R a out pl : Nat} (ha : a < R) (hp : pl < N) :
    sumAt vs (cutL (colW ys wv N T M C R) a (C * T * N)) (out * (C * T)) pl N (C * T) = cvSum wv ys vs C M T pl a out T := by
  rw [sumAt_sum, sumTo_mul, sumTo_swap, cvSum_sum]
  refine sumTo_congr T fun t ht => ?_
  have h1 : ∀ k, k < C → vs[out * (C * T) + (k * T + t)]?.getD 0 * (cutL (colW ys wv N T M C R) a (C * T * N))[pl + (k * T + t) * N]?.getD 0 = (if wv.wB pl t = true then ys[(a * C + k) * M + (wv.wI pl t).toNat]?.getD 0 else 0) * vs[(out * C + k) * T + t]?.getD 0 := fun k hk => by
    have hq : (k * T + t) < C * T := by
      have := Nat.mul_le_mul_right T (show k + 1 ≤ C by omega)
      rw [Nat.succ_mul] at this; omega
    have hqN : (k * T + t) * N + N ≤ C * T * N := by
      have := Nat.mul_le_mul_right N (show k * T + t + 1 ≤ C * T by omega)
      rw [Nat.succ_mul] at this; exact this
    have haN : a * (C * T * N) + C * T * N ≤ R * (C * T) * N := by
      have := Nat.mul_le_mul_right (C * T * N) (show a + 1 ≤ R by omega)
      rw [Nat.succ_mul, ← Nat.mul_assoc R] at this; exact this
    have e0 : ((a * C + k) * T + t) * N = a * (C * T * N) + (k * T + t) * N := by
      rw [Nat.add_mul (a * C) k T, Nat.add_assoc, Nat.add_mul]
      simp only [Nat.mul_assoc]
    have e1 : a * (C * T * N) + (pl + (k * T + t) * N) = ((a * C + k) * T + t) * N + pl := by omega
    have e2 : out * (C * T) + (k * T + t) = (out * C + k) * T + t := by
      rw [Nat.add_mul, Nat.mul_assoc]; omega
    rw [cutL_get (by omega), e1, colW_get ys wv (by rw [← e1]; omega), Option.getD_some, clW_at ys wv hp ht, e2, Int.mul_comm]
  rw [sumTo_congr C h1]
  by_cases h : wv.wB pl t = true
  · rw [if_pos h, cvIn_sum]
    exact sumTo_congr C fun k _ => by rw [if_pos h]
  · rw [if_neg h]
    rw [sumTo_congr C (g := fun _ => 0) (fun k _ => by rw [if_neg h, Int.zero_mul])]
    exact sumTo_zero C
theorem good_pair {x y : Nat} (h1 : 1 ≤ x) (h2 : x ≤ 4096) (h3 : 1 ≤ y) (h4 : y ≤ 4096) (h5 : x * y ≤ 65536) : goodB [(x : Int), (y : Int)] = true := by
  have e : prodI [(x : Int), (y : Int)] = ((x * y : Nat) : Int) := by simp [prodI]
  exact goodB_iff.2 ⟨by simp, (fun z hz => by simp at hz; rcases hz with rfl | rfl <;> omega), by rw [e]; omega⟩
theorem isW_zero : isW 0 = true := by decide
theorem clW_isW {ys : List Int} (hy : ∀ y ∈ ys, isW y = true) (wv : WinV) (N T M n : Nat) : isW (clW ys wv N T M n) = true := by
  unfold clW
  split
  · cases h : ys[(n / N / T) * M + (wv.wI (n % N) (n / N % T)).toNat]? with
    | none => exact isW_zero
    | some y => exact hy y (List.mem_of_getElem? h)
  · exact isW_zero
/-- All that ConvProduct asks of one example. -/
theorem prod_all {xs ys ws vs Q : List Int} {wv : WinV} {f N M T C o R NN a : Nat} (K : ConvOK xs ys ws vs wv N M T C o R NN) (L : ColsOK xs wv N M T C R) (hw : allW xs ys ws vs wv f = true) (hNN : cvN xs ws wv = NN) (ha : a < R) :
    tenB [(o : Int), ((C * T : Nat) : Int)] vs = true ∧ tenB [((C * T : Nat) : Int), (N : Int)] (cutL (colW ys wv N T M C R) a (C * T * N)) = true ∧ outE [(o : Int), ((C * T : Nat) : Int)] [((C * T : Nat) : Int), (N : Int)] = 0 ∧
    mulE [(o : Int), ((C * T : Nat) : Int)] vs [((C * T : Nat) : Int), (N : Int)] (cutL (colW ys wv N T M C R) a (C * T * N)) f = 0 ∧
    mulY [(o : Int), ((C * T : Nat) : Int)] vs [((C * T : Nat) : Int), (N : Int)] (cutL (colW ys wv N T M C R) a (C * T * N)) f = cutL ((List.range NN).map (cvW xs ys ws vs wv f)) a (o * N) := by
  obtain ⟨bR, bo, bC, bN, bM, bT, bNN, bn1, by1, bv1⟩ := K.bounds
  have hCT1 : 1 ≤ C * T := Nat.mul_pos K.c1 K.t1
  have hvl : vs.length = o * (C * T) := K.vl
  have tx := tenB_iff.1 K.tx
  have tw := tenB_iff.1 K.tw
  have hCTN : R * (C * T * N) ≤ 65536 := by have := L.bS; rw [Nat.mul_assoc] at this; exact this
  have hCTN1 : C * T * N ≤ 65536 := Nat.le_trans (Nat.le_mul_of_pos_left _ K.r1) hCTN
  have hoN : R * (o * N) = NN := by rw [K.nn, Nat.mul_assoc]
  have hoN1 : o * N ≤ 65536 := by have := Nat.le_mul_of_pos_left (o * N) (show 0 < R from K.r1); omega
  have ho1 := K.o1
  have hn1 := K.n1
  have hLN := L.bN
  have hLC := L.bCT
  have g1 : goodB [(o : Int), ((C * T : Nat) : Int)] = true := good_pair ho1 bo hCT1 hLC (by omega)
  have g2 : goodB [((C * T : Nat) : Int), (N : Int)] = true := good_pair hCT1 hLC hn1 hLN hCTN1
  have g3 : goodB [(o : Int), (N : Int)] = true := good_pair ho1 bo hn1 hLN hoN1
  have hcl : (colW ys wv N T M C R).length = R * (C * T * N) := by unfold colW; rw [List.length_map, List.length_range, Nat.mul_assoc]
  have hcut := cutL_len hcl ha
  have t1 : tenB [(o : Int), ((C * T : Nat) : Int)] vs = true := tenB_iff.2 ⟨g1, by rw [hvl]; simp [prodI], tw.2.2⟩
  have t2 : tenB [((C * T : Nat) : Int), (N : Int)] (cutL (colW ys wv N T M C R) a (C * T * N)) = true := tenB_iff.2 ⟨g2, by rw [hcut]; simp [prodI], fun y hy => by
    have h9 := cutL_mem hy
    unfold colW at h9
    obtain ⟨n, _, rfl⟩ := List.mem_map.1 h9
    exact clW_isW tx.2.2 wv N T M n⟩
  have hoL : outL [(o : Int), ((C * T : Nat) : Int)] [((C * T : Nat) : Int), (N : Int)] = [(o : Int), (N : Int)] := rfl
  have hfit : fitsB [(o : Int), ((C * T : Nat) : Int)] [((C * T : Nat) : Int), (N : Int)] = true := by simp [fitsB]
  have hE : outE [(o : Int), ((C * T : Nat) : Int)] [((C * T : Nat) : Int), (N : Int)] = 0 := by unfold outE; rw [hfit, hoL, g3]; rfl
  have hmN : mulN [(o : Int), ((C * T : Nat) : Int)] [((C * T : Nat) : Int), (N : Int)] = o * N := by
    unfold mulN
    rw [hoL, show prodI [(o : Int), (N : Int)] = ((o * N : Nat) : Int) by simp [prodI], Int.toNat_natCast]
  have hW : ∀ j, j < o * N → mulW [(o : Int), ((C * T : Nat) : Int)] vs [((C * T : Nat) : Int), (N : Int)] (cutL (colW ys wv N T M C R) a (C * T * N)) f j = cvW xs ys ws vs wv f (a * (o * N) + j) := fun j hj => by
    have hp : j % N < N := Nat.mod_lt _ (by omega)
    have hjo : j / N < o := by rw [Nat.div_lt_iff_lt_mul (by omega)]; exact hj
    have hd : a * (o * N) + j = (a * o + j / N) * N + j % N := by
      have h9 := Nat.div_add_mod j N
      rw [Nat.add_mul, Nat.mul_assoc, Nat.mul_comm (j / N) N]; omega
    have q1 : ((a * o + j / N) * N + j % N) % N = j % N := by rw [Nat.mul_comm, Nat.mul_add_mod, Nat.mod_eq_of_lt hp]
    have q2 : ((a * o + j / N) * N + j % N) / N = a * o + j / N := by rw [Nat.mul_comm, Nat.mul_add_div (by omega), Nat.div_eq_of_lt hp, Nat.add_zero]
    have q3 : (a * o + j / N) / o = a := by rw [Nat.mul_comm, Nat.mul_add_div (by omega), Nat.div_eq_of_lt hjo, Nat.add_zero]
    have q4 : (a * o + j / N) % o = j / N := by rw [Nat.mul_comm, Nat.mul_add_mod, Nat.mod_eq_of_lt hjo]
    have q5 : j / (o * N) = 0 := Nat.div_eq_of_lt hj
    show mulG vs _ o (C * T) N true f j = _
    unfold mulG cvW cvG
    rw [K.hC, K.hM, K.hT, K.hN, K.ho]
    simp only [Int.toNat_natCast]
    rw [hd, q1, q2, q3, q4, q5, ← prod_sum ha hp]
    simp
  have hidx : ∀ j, j < o * N → a * (o * N) + j < NN := fun j hj => by
    have := Nat.mul_le_mul_right (o * N) (show a + 1 ≤ R by omega)
    rw [Nat.succ_mul, hoN] at this; omega
  have hall : (List.range (o * N)).all (fun j => isW (mulW [(o : Int), ((C * T : Nat) : Int)] vs [((C * T : Nat) : Int), (N : Int)] (cutL (colW ys wv N T M C R) a (C * T * N)) f j)) = true := by
    refine List.all_eq_true.2 fun j hj => ?_
    have hj := List.mem_range.1 hj
    rw [hW j hj]
    have h9 := List.all_eq_true.1 hw (a * (o * N) + j)
    rw [hNN] at h9
    exact h9 (List.mem_range.2 (hidx j hj))
  have hmE : mulE [(o : Int), ((C * T : Nat) : Int)] vs [((C * T : Nat) : Int), (N : Int)] (cutL (colW ys wv N T M C R) a (C * T * N)) f = 0 := by
    unfold mulE
    rw [if_pos hE, hmN, if_pos hall]
  refine ⟨t1, t2, hE, hmE, ?_⟩
  unfold mulY
  rw [if_pos hmE, hmN]
  refine List.ext_getElem? fun i => ?_
  by_cases hi : i < o * N
  · rw [cutL_get hi, List.getElem?_map, List.getElem?_range hi, List.getElem?_map, List.getElem?_range (hidx i hi)]
    exact congrArg some (hW i hi)
  · rw [List.getElem?_eq_none (by simp; omega), List.getElem?_eq_none]
    have := List.length_take_le (o * N) (((List.range NN).map (cvW xs ys ws vs wv f)).drop (a * (o * N)))
    unfold cutL
    omega
end Go.Proofs.Ytadlnmckcnfacaa
