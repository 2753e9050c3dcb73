import Derived.Test.YtadlnmckcnfacaaGreatVPoE
import Derived.Test.YtadlnmckcnfacaaGreatVCoW
set_option linter.unusedVariables false
set_option linter.unusedSimpArgs false
namespace Go.Proofs.YtadlnmckcnfacaaGreat
open Go.RowKit Go.Rt
theorem okI_iff {lo n : Int} : okI lo n = true ↔ lo ≤ n ∧ n ≤ 4096 := by unfold okI; simp
theorem num_iff {ker : Bool} {Q S P D : List Int} : numB ker Q S P D = true ↔ (1 ≤ S.length ∧ S.length ≤ 2 ∧ P.length = S.length ∧ D.length = S.length ∧ (ker = true → Q.length = S.length) ∧ (ker = false → Q.length = 0)) ∧ (∀ x ∈ S, 1 ≤ x ∧ x ≤ 4096) ∧ (∀ x ∈ D, 1 ≤ x ∧ x ≤ 4096) ∧ (∀ x ∈ P, 0 ≤ x ∧ x ≤ 4096) ∧ (∀ x ∈ Q, 1 ≤ x ∧ x ≤ 4096) := by
 have h4 : ∀ (l : List Int) (lo : Int), l.all (okI lo) = true ↔ ∀ x ∈ l, lo ≤ x ∧ x ≤ 4096 := fun l lo => by
  rw [List.all_eq_true]
  exact ⟨fun h x hx => okI_iff.1 (h x hx), fun h x hx => okI_iff.2 (h x hx)⟩
 unfold numB
 rw [Bool.and_eq_true, Bool.and_eq_true, Bool.and_eq_true, Bool.and_eq_true, h4, h4, h4, h4]
 refine and_congr ?_ Iff.rfl
 cases ker <;> simp [-List.length_eq_zero_iff] <;> omega
theorem getD_mem {l : List Int} {i : Nat} (hi : i < l.length) : l[i]?.getD 0 ∈ l := by
 rw [List.getElem?_eq_getElem hi]
 exact List.getElem_mem hi
def coS (xs ws : List Int) (wv : WinV) : List Int := [xs[0]?.getD 0, ws[0]?.getD 0] ++ wv.O
def cvIn (ys vs : List Int) (C M T one out p t : Nat) : Nat → Int
 | 0 => 0
 | k + 1 => cvIn ys vs C M T one out p t k + (ys[(one * C + k) * M + p]?.getD 0) * (vs[(out * C + k) * T + t]?.getD 0)
def cvSum (wv : WinV) (ys vs : List Int) (C M T pl one out : Nat) : Nat → Int
 | 0 => 0
 | t + 1 => if wv.wB pl t = true then cvSum wv ys vs C M T pl one out t + cvIn ys vs C M T one out (wv.wI pl t).toNat t C else cvSum wv ys vs C M T pl one out t
theorem mul_word {x y : Int} (hx : -140737488355328 < x ∧ x < 140737488355328) (hy : -140737488355328 < y ∧ y < 140737488355328) : (x * y).natAbs ≤ 19807040628566084398385987584 := by
 have h1 : x.natAbs ≤ 140737488355328 := by omega
 have h2 : y.natAbs ≤ 140737488355328 := by omega
 rw [Int.natAbs_mul]
 exact Nat.le_trans (Nat.mul_le_mul h1 h2) (by decide)
theorem get_word {ys : List Int} (hy : ∀ y ∈ ys, isW y = true) (i : Nat) : -140737488355328 < ys[i]?.getD 0 ∧ ys[i]?.getD 0 < 140737488355328 := by
 cases h : ys[i]? with
 | none => simp
 | some y => exact isW_iff.1 (hy y (List.mem_of_getElem? h))
theorem cvIn_bound {ys vs : List Int} (hy : ∀ y ∈ ys, isW y = true) (hv : ∀ y ∈ vs, isW y = true) (C M T one out p t : Nat) : ∀ k, (cvIn ys vs C M T one out p t k).natAbs ≤ k * 19807040628566084398385987584
 | 0 => by simp [cvIn]
 | k + 1 => by
  have ih := cvIn_bound hy hv C M T one out p t k
  have hm := mul_word (get_word hy ((one * C + k) * M + p)) (get_word hv ((out * C + k) * T + t))
  rw [cvIn, Nat.succ_mul]
  generalize k * 19807040628566084398385987584 = q at ih ⊢
  generalize (ys[(one * C + k) * M + p]?.getD 0) * (vs[(out * C + k) * T + t]?.getD 0) = m at hm ⊢
  omega
theorem cvSum_bound {ys vs : List Int} (hy : ∀ y ∈ ys, isW y = true) (hv : ∀ y ∈ vs, isW y = true) (wv : WinV) (C M T pl one out : Nat) : ∀ t, (cvSum wv ys vs C M T pl one out t).natAbs ≤ t * (C * 19807040628566084398385987584)
 | 0 => by simp [cvSum]
 | t + 1 => by
  have ih := cvSum_bound hy hv wv C M T pl one out t
  have hm := cvIn_bound hy hv C M T one out (wv.wI pl t).toNat t C
  rw [cvSum, Nat.succ_mul]
  generalize t * (C * 19807040628566084398385987584) = q at ih ⊢
  generalize C * 19807040628566084398385987584 = q2 at hm ⊢
  split <;> omega
def cvG (xs ys ws vs : List Int) (wv : WinV) (n : Nat) : Int :=
 cvSum wv ys vs (xs[1]?.getD 0).toNat (prodI wv.L).toNat (prodI wv.K).toNat (n % (prodI wv.O).toNat) (n / (prodI wv.O).toNat / (ws[0]?.getD 0).toNat) (n / (prodI wv.O).toNat % (ws[0]?.getD 0).toNat) (prodI wv.K).toNat
def cvW (xs ys ws vs : List Int) (wv : WinV) (f : Nat) (n : Nat) : Int := shI (cvG xs ys ws vs wv n) f
def cvN (xs ws : List Int) (wv : WinV) : Nat := (prodI (coS xs ws wv)).toNat
def formZ (xs ys ws vs Q : List Int) (wv : WinV) (f : Int) : Bool := (tenB xs ys && tenB ws vs) && (decide (8 ≤ f) && decide (f ≤ 32)) && numB false Q wv.S wv.P wv.D
def coutZ (xs ws : List Int) (wv : WinV) : Int := if xs.length = 2 + wv.S.length ∧ ws.length = xs.length ∧ xs[1]?.getD 0 = ws[1]?.getD 0 then (if wv.okB = true then (if goodB (coS xs ws wv) = true then 0 else 5) else 2) else 2
def allW (xs ys ws vs : List Int) (wv : WinV) (f : Nat) : Bool := (List.range (cvN xs ws wv)).all fun n => isW (cvW xs ys ws vs wv f n)
def cvZ (xs ys ws vs Q : List Int) (wv : WinV) (f : Int) : Int := if formZ xs ys ws vs Q wv f = true then (if coutZ xs ws wv = 0 then (if allW xs ys ws vs wv f.toNat = true then 0 else 3) else coutZ xs ws wv) else 1
theorem conv_R {xs ws Q : List Int} {wv : WinV} (hL : wv.L = xs.drop 2) (hK : wv.K = ws.drop 2) (hg : goodB xs = true) (hg2 : goodB ws = true) (hn : numB false Q wv.S wv.P wv.D = true) (hl : xs.length = 2 + wv.S.length) (hl2 : ws.length = xs.length) : wv.R ∧ 1 ≤ wv.L.length := by
 obtain ⟨⟨h1, h2, h3, h4, _, _⟩, h6, h7, h8, h9⟩ := num_iff.1 hn
 have hLl : wv.L.length = wv.S.length := by rw [hL, List.length_drop]; omega
 have hKl : wv.K.length = wv.S.length := by rw [hK, List.length_drop]; omega
 have hd := goodB_dims hg
 have hd2 := goodB_dims hg2
 refine ⟨⟨by omega, by omega, by omega, by omega, by omega, fun i hi => ?_, fun i hi => ?_, fun i hi => h6 _ (getD_mem (by omega)), fun i hi => h8 _ (getD_mem (by omega)), fun i hi => h7 _ (getD_mem (by omega))⟩, by omega⟩
 ·have := getD_mem hi
  rw [hL] at this ⊢
  exact hd _ (List.mem_of_mem_drop this)
 ·have := getD_mem (l := wv.K) (i := i) (by omega)
  rw [hK] at this ⊢
  exact hd2 _ (List.mem_of_mem_drop this)
structure ConvOK (xs ys ws vs : List Int) (wv : WinV) (N M T C o R NN : Nat) : Prop where
 tx : tenB xs ys = true
 tw : tenB ws vs = true
 hR : wv.R
 hr : 1 ≤ wv.L.length
 hok : wv.okB = true
 gO : goodB wv.O = true
 gL : goodB wv.L = true
 gK : goodB wv.K = true
 gS : goodB (coS xs ws wv) = true
 hN : prodI wv.O = (N : Int)
 hM : prodI wv.L = (M : Int)
 hT : prodI wv.K = (T : Int)
 hC : xs[1]?.getD 0 = (C : Int)
 hC2 : ws[1]?.getD 0 = (C : Int)
 ho : ws[0]?.getD 0 = (o : Int)
 hRe : xs[0]?.getD 0 = (R : Int)
 hNN : prodI (coS xs ws wv) = (NN : Int)
 nn : NN = R * o * N
 yl : ys.length = R * (C * M)
 vl : vs.length = o * (C * T)
 n1 : 1 ≤ N
 m1 : 1 ≤ M
 t1 : 1 ≤ T
 c1 : 1 ≤ C
 o1 : 1 ≤ o
 r1 : 1 ≤ R
 lx : xs.length = 2 + wv.L.length
 lw : ws.length = xs.length
theorem good_drop {xs : List Int} (hg : goodB xs = true) (k : Nat) : goodB (xs.drop k) = true := by
 obtain ⟨h1, h2, h3⟩ := goodB_iff.1 hg
 refine goodB_iff.2 ⟨by rw [List.length_drop]; omega, h2.drop k, ?_⟩
 have h4 := prodI_split xs k
 have h5 := (h2.take k).pos
 have h6 := (h2.drop k).pos
 have h7 := Int.mul_le_mul_of_nonneg_right (show (1 : Int) ≤ prodI (xs.take k) by omega) (show (0 : Int) ≤ prodI (xs.drop k) by omega)
 omega
theorem two_front {xs : List Int} (h : 2 ≤ xs.length) : xs = xs[0]?.getD 0 :: xs[1]?.getD 0 :: xs.drop 2 := by
 match xs, h with
 | a :: b :: r, _ => rfl
theorem prod_two {xs : List Int} (h : 2 ≤ xs.length) : prodI xs = xs[0]?.getD 0 * (xs[1]?.getD 0 * prodI (xs.drop 2)) := by
 match xs, h with
 | a :: b :: r, _ => rfl
theorem cout_ok {xs ws : List Int} {wv : WinV} (h : coutZ xs ws wv = 0) : xs.length = 2 + wv.S.length ∧ ws.length = xs.length ∧ xs[1]?.getD 0 = ws[1]?.getD 0 ∧ wv.okB = true ∧ goodB (coS xs ws wv) = true := by
 unfold coutZ at h
 split at h
 ·next h1 =>
  split at h
  ·next h2 =>
   split at h
   ·next h3 => exact ⟨h1.1, h1.2.1, h1.2.2, h2, h3⟩
   ·cases h
  ·cases h
 ·cases h
theorem conv_ok {xs ys ws vs Q : List Int} {wv : WinV} {f : Int} (hL : wv.L = xs.drop 2) (hK : wv.K = ws.drop 2) (hf : formZ xs ys ws vs Q wv f = true) (hz : coutZ xs ws wv = 0) :
  (8 ≤ f ∧ f ≤ 32) ∧ ∃ R, ConvOK xs ys ws vs wv (prodI wv.O).toNat (prodI wv.L).toNat (prodI wv.K).toNat (xs[1]?.getD 0).toNat (ws[0]?.getD 0).toNat R (cvN xs ws wv) := by
 simp only [formZ, Bool.and_eq_true, decide_eq_true_eq] at hf
 obtain ⟨⟨⟨tx, tw⟩, hf2⟩, hnum⟩ := hf
 obtain ⟨e1, e2, e3, e4, e5⟩ := cout_ok hz
 have gx := (tenB_iff.1 tx).1
 have gw := (tenB_iff.1 tw).1
 obtain ⟨hR, hr⟩ := conv_R hL hK gx gw hnum e1 e2
 have hdS := goodB_dims e5
 have hdx := goodB_dims gx
 have hdw := goodB_dims gw
 have gO : goodB wv.O = true := by have := good_drop e5 2; simpa [coS] using this
 have gL : goodB wv.L = true := by rw [hL]; exact good_drop gx 2
 have gK : goodB wv.K = true := by rw [hK]; exact good_drop gw 2
 have pO := goodB_prod gO
 have pL := goodB_prod gL
 have pK := goodB_prod gK
 have pS := goodB_prod e5
 have hx2 : 2 ≤ xs.length := by omega
 have hw2 : 2 ≤ ws.length := by omega
 have x0 := hdx _ (getD_mem (l := xs) (i := 0) (by omega))
 have x1 := hdx _ (getD_mem (l := xs) (i := 1) (by omega))
 have w0 := hdw _ (getD_mem (l := ws) (i := 0) (by omega))
 have hpx := prod_two hx2
 have hpw := prod_two hw2
 rw [← hL] at hpx
 rw [← hK] at hpw
 have lx := (tenB_iff.1 tx).2.1
 have lw := (tenB_iff.1 tw).2.1
 rw [hpx] at lx
 rw [hpw, ← e3] at lw
 have hpS : prodI (coS xs ws wv) = xs[0]?.getD 0 * (ws[0]?.getD 0 * prodI wv.O) := rfl
 have hLl : wv.L.length = wv.S.length := by rw [hL, List.length_drop]; omega
 unfold cvN
 obtain ⟨N, hN⟩ : ∃ n : Nat, prodI wv.O = (n : Int) := ⟨_, (Int.toNat_of_nonneg (by omega)).symm⟩
 obtain ⟨M, hM⟩ : ∃ n : Nat, prodI wv.L = (n : Int) := ⟨_, (Int.toNat_of_nonneg (by omega)).symm⟩
 obtain ⟨T, hT⟩ : ∃ n : Nat, prodI wv.K = (n : Int) := ⟨_, (Int.toNat_of_nonneg (by omega)).symm⟩
 obtain ⟨C, hC⟩ : ∃ n : Nat, xs[1]?.getD 0 = (n : Int) := ⟨_, (Int.toNat_of_nonneg (by omega)).symm⟩
 obtain ⟨o, ho⟩ : ∃ n : Nat, ws[0]?.getD 0 = (n : Int) := ⟨_, (Int.toNat_of_nonneg (by omega)).symm⟩
 obtain ⟨R, hRe⟩ : ∃ n : Nat, xs[0]?.getD 0 = (n : Int) := ⟨_, (Int.toNat_of_nonneg (by omega)).symm⟩
 obtain ⟨NN, hNN⟩ : ∃ n : Nat, prodI (coS xs ws wv) = (n : Int) := ⟨_, (Int.toNat_of_nonneg (by omega)).symm⟩
 have h3 : ((NN : Nat) : Int) = ((R * (o * N) : Nat) : Int) := by
  rw [← hNN, hpS, hRe, ho, hN]
  simp only [Int.natCast_mul]
 have h1 : (ys.length : Int) = ((R * (C * M) : Nat) : Int) := by
  rw [lx, hRe, hC, hM]
  simp only [Int.natCast_mul]
 have h2 : (vs.length : Int) = ((o * (C * T) : Nat) : Int) := by
  rw [lw, ho, hC, hT]
  simp only [Int.natCast_mul]
 refine ⟨hf2, R, ?_⟩
 rw [hNN]
 simp only [hN, hM, hT, hC, ho, Int.toNat_natCast]
 rw [hN] at pO
 rw [hM] at pL
 rw [hT] at pK
 exact ⟨tx, tw, hR, hr, e4, gO, gL, gK, e5, hN, hM, hT, hC, by rw [← e3, hC], ho, hRe, hNN, by rw [Nat.mul_assoc]; omega, by omega, by omega, by omega, by omega, by omega, by omega, by omega, by omega, by omega, e2⟩
theorem ConvOK.at {xs ys ws vs : List Int} {wv : WinV} {N M T C o R NN : Nat} (K : ConvOK xs ys ws vs wv N M T C o R NN) {n : Nat} (hn : n < NN) : n / N / o < R ∧ n / N % o < o ∧ n % N < N := by
 have h1 := K.n1
 have h2 := K.o1
 refine ⟨?_, Nat.mod_lt _ (by omega), Nat.mod_lt _ (by omega)⟩
 rw [Nat.div_div_eq_div_mul, Nat.div_lt_iff_lt_mul (Nat.mul_pos h1 h2), Nat.mul_comm N o, ← Nat.mul_assoc]
 have := K.nn
 omega
theorem in_row {a k C M p R : Nat} (ha : a < R) (hk : k < C) (hp : p < M) : (a * C + k) * M + p < R * (C * M) := by
 have h1 : a * C + k < R * C := by
  have := Nat.mul_le_mul_right C (show a + 1 ≤ R by omega)
  rw [Nat.succ_mul] at this; omega
 have h2 := Nat.mul_le_mul_right M (show a * C + k + 1 ≤ R * C by omega)
 rw [Nat.succ_mul, Nat.mul_assoc R C M] at h2
 omega
theorem ConvOK.inR {xs ys ws vs : List Int} {wv : WinV} {N M T C o R NN : Nat} (K : ConvOK xs ys ws vs wv N M T C o R NN) : C * T ≤ 65536 := by
 have h1 := goodB_prod (tenB_iff.1 K.tw).1
 have h2 := (tenB_iff.1 K.tw).2.1
 have h3 := K.vl
 have h4 := Nat.le_mul_of_pos_left (C * T) (show 0 < o from K.o1)
 omega
theorem ConvOK.bounds {xs ys ws vs : List Int} {wv : WinV} {N M T C o R NN : Nat} (K : ConvOK xs ys ws vs wv N M T C o R NN) : R ≤ 4096 ∧ o ≤ 4096 ∧ C ≤ 4096 ∧ N ≤ 65536 ∧ M ≤ 65536 ∧ T ≤ 65536 ∧ NN ≤ 65536 ∧ 1 ≤ NN ∧ ys.length ≤ 65536 ∧ vs.length ≤ 65536 := by
 have hdx := goodB_dims (tenB_iff.1 K.tx).1
 have hdw := goodB_dims (tenB_iff.1 K.tw).1
 have hx := K.lx
 have hw := K.lw
 have x0 := hdx _ (getD_mem (l := xs) (i := 0) (by omega))
 have x1 := hdx _ (getD_mem (l := xs) (i := 1) (by omega))
 have w0 := hdw _ (getD_mem (l := ws) (i := 0) (by omega))
 rw [K.hRe] at x0
 rw [K.hC] at x1
 rw [K.ho] at w0
 have a1 := goodB_prod K.gO
 have a2 := goodB_prod K.gL
 have a3 := goodB_prod K.gK
 have a4 := goodB_prod K.gS
 have a5 := goodB_prod (tenB_iff.1 K.tx).1
 have a6 := goodB_prod (tenB_iff.1 K.tw).1
 have l1 := (tenB_iff.1 K.tx).2.1
 have l2 := (tenB_iff.1 K.tw).2.1
 rw [K.hN] at a1
 rw [K.hM] at a2
 rw [K.hT] at a3
 rw [K.hNN] at a4
 omega
end Go.Proofs.YtadlnmckcnfacaaGreat
