import Derived.Test.YtadlnmckcnfacaaUCoB
import Derived.Test.YtadlnmckcnfacaaUCoQ
set_option linter.unusedVariables false
set_option linter.unusedSimpArgs false
namespace Go.Proofs.Ytadlnmckcnfacaa
open Go.RowKit Go.Rt
theorem sumB_add (f g : Nat → Int) : ∀ n, sumB (fun i => f i + g i) n = sumB f n + sumB g n
 | 0 => rfl
 | n + 1 => by rw [sumB, sumB, sumB, sumB_add f g n]; omega
theorem sumB_mul (c : Int) (f : Nat → Int) : ∀ n, sumB (fun i => c * f i) n = c * sumB f n
 | 0 => by simp [sumB]
 | n + 1 => by rw [sumB, sumB, sumB_mul c f n, Int.mul_add]
theorem sumB_swap (F : Nat → Nat → Int) (n : Nat) : ∀ l, sumB (fun j => sumB (fun i => F j i) n) l = sumB (fun i => sumB (fun j => F j i) l) n
 | 0 => by
  rw [sumB]
  exact (sumB_zero n).symm
 | l + 1 => by
  rw [sumB, sumB_swap F n l]
  rw [show (fun i => sumB (fun j => F j i) (l + 1)) = fun i => sumB (fun j => F j i) l + F l i from rfl, sumB_add]
theorem sumB_pick (g : Nat → Int) (c : Nat) : ∀ l, sumB (fun j => if c = j then g j else 0) l = if c < l then g c else 0
 | 0 => by simp [sumB]
 | l + 1 => by
  rw [sumB, sumB_pick g c l]
  by_cases h : c = l
  ·subst h; simp
  ·by_cases h2 : c < l
   ·rw [if_pos h2, if_neg h, if_pos (by omega)]; simp
   ·rw [if_neg h2, if_neg h, if_neg (by omega)]; simp
theorem pairs_swap (ys zs : List Int) (wv : WinV) (N T M NN : Nat) :
  sumB (fun n => clW ys wv N T M n * zs[n]?.getD 0) NN = sumB (fun j => ys[j]?.getD 0 * bkA zs wv N T M NN j) ys.length := by
 have e1 : sumB (fun j => ys[j]?.getD 0 * bkA zs wv N T M NN j) ys.length = sumB (fun j => sumB (fun n => ys[j]?.getD 0 * (if bkI wv N T n = true ∧ bkT wv N T M n = j then zs[n]?.getD 0 else 0)) NN) ys.length :=
  sumB_congr _ fun j _ => by rw [bkA, sumB_mul]
 rw [e1, sumB_swap]
 refine sumB_congr _ fun n _ => ?_
 have e2 : sumB (fun j => ys[j]?.getD 0 * (if bkI wv N T n = true ∧ bkT wv N T M n = j then zs[n]?.getD 0 else 0)) ys.length = sumB (fun j => if bkT wv N T M n = j then (if bkI wv N T n = true then ys[j]?.getD 0 * zs[n]?.getD 0 else 0) else 0) ys.length :=
  sumB_congr _ fun j _ => by
   by_cases h1 : bkI wv N T n = true
   ·by_cases h2 : bkT wv N T M n = j
    ·simp [h1, h2]
    ·simp [h1, h2]
   ·by_cases h2 : bkT wv N T M n = j
    ·simp [h1, h2]
    ·simp [h1, h2]
 rw [e2, sumB_pick]
 show (if wv.wB (n % N) (n / N % T) = true then ys[bkT wv N T M n]?.getD 0 else 0) * zs[n]?.getD 0 = _
 by_cases h1 : bkI wv N T n = true
 ·have h3 : wv.wB (n % N) (n / N % T) = true := h1
  rw [if_pos h3]
  by_cases h2 : bkT wv N T M n < ys.length
  ·rw [if_pos h2, if_pos h1]
  ·rw [if_neg h2, List.getElem?_eq_none (by omega)]
   simp
 ·have h3 : ¬ wv.wB (n % N) (n / N % T) = true := h1
  rw [if_neg h3, if_neg h1]
  simp
theorem get_map_range {f : Nat → Int} {n i : Nat} (h : i < n) : ((List.range n).map f)[i]?.getD 0 = f i := by
 rw [List.getElem?_map, List.getElem?_range h]; rfl
theorem pairs_law {xs ys zs : List Int} (wv : WinV) (hp : prodI xs = (ys.length : Int)) :
  sumB (fun n => (clWs xs ys wv)[n]?.getD 0 * zs[n]?.getD 0) (prodI (colS xs wv)).toNat = sumB (fun j => ys[j]?.getD 0 * (bkWs xs zs wv)[j]?.getD 0) ys.length := by
 have h1 := pairs_swap ys zs wv (prodI wv.O).toNat (prodI wv.K).toNat (prodI wv.L).toNat (prodI (colS xs wv)).toNat
 rw [sumB_congr _ (g := fun n => clW ys wv (prodI wv.O).toNat (prodI wv.K).toNat (prodI wv.L).toNat n * zs[n]?.getD 0) (fun n hn => by unfold clWs clN; rw [get_map_range hn]), h1]
 refine sumB_congr _ fun j hj => ?_
 unfold bkWs
 rw [get_map_range (by rw [hp]; omega)]
theorem clWs_len (xs ys : List Int) (wv : WinV) : (clWs xs ys wv).length = (prodI (colS xs wv)).toNat := by simp [clWs, clN]
theorem bkWs_len {xs ys zs : List Int} {wv : WinV} (hp : prodI xs = (ys.length : Int)) : (bkWs xs zs wv).length = ys.length := by unfold bkWs; rw [List.length_map, List.length_range, hp, Int.toNat_natCast]
theorem clZ_ok {xs ys Q : List Int} {wv : WinV} (h : clZ xs ys Q wv = 0) : wv.K.all (okI 1) = true ∧ numB false Q wv.S wv.P wv.D = true ∧ colZ xs wv.K wv = 0 := by
 unfold clZ clForm at h
 by_cases h1 : ((tenB xs ys && wv.K.all (okI 1)) && numB false Q wv.S wv.P wv.D) = true
 ·rw [if_pos h1] at h
  simp only [Bool.and_eq_true] at h1
  exact ⟨h1.1.2, h1.2, h⟩
 ·rw [if_neg h1] at h; cases h
def SmallW (l : List Int) (n : Nat) : Prop := l.length = n ∧ ∀ y ∈ l, -45 ≤ y ∧ y ≤ 45
theorem smallW_zero (n : Nat) : SmallW (List.replicate n 0) n := ⟨by simp, fun y hy => by rw [(List.mem_replicate.1 hy).2]; omega⟩
theorem smallW_set {l : List Int} {n : Nat} (h : SmallW l n) (i : Nat) {y : Int} (hy : -45 ≤ y ∧ y ≤ 45) : SmallW (l.set i y) n := ⟨by rw [List.length_set, h.1], fun z hz => by
 rcases List.mem_or_eq_of_mem_set hz with h2 | rfl
 ·exact h.2 z h2
 ·exact hy⟩
theorem smallW_isW {l : List Int} {n : Nat} (h : SmallW l n) : ∀ y ∈ l, isW y = true := fun y hy => by have := h.2 y hy; exact isW_iff.2 ⟨by omega, by omega⟩
theorem smallW_get {l : List Int} {n : Nat} (h : SmallW l n) (i : Nat) : (l[i]?.getD 0).natAbs ≤ 45 := by
 by_cases hi : i < l.length
 ·rw [List.getElem?_eq_getElem hi, Option.getD_some]; have := h.2 _ (List.getElem_mem hi); omega
 ·rw [List.getElem?_eq_none (by omega)]; simp
theorem back_word {xs zs : List Int} {n : Nat} (wv : WinV) (h : SmallW zs n) (hn : (prodI (colS xs wv)).toNat ≤ 65536) : ∀ y ∈ bkWs xs zs wv, isW y = true := fun y hy => by
 unfold bkWs at hy
 obtain ⟨j, _, rfl⟩ := List.mem_map.1 hy
 unfold bkA
 have h1 := sumB_abs (f := fun n => if bkI wv (prodI wv.O).toNat (prodI wv.K).toNat n = true ∧ bkT wv (prodI wv.O).toNat (prodI wv.K).toNat (prodI wv.L).toNat n = j then zs[n]?.getD 0 else 0) (B := 45) (prodI (colS xs wv)).toNat (fun n _ => by
  have := smallW_get h n
  split <;> omega)
 have h2 := Nat.mul_le_mul_right 45 hn
 generalize sumB (fun n => if bkI wv (prodI wv.O).toNat (prodI wv.K).toNat n = true ∧ bkT wv (prodI wv.O).toNat (prodI wv.K).toNat (prodI wv.L).toNat n = j then zs[n]?.getD 0 else 0) (prodI (colS xs wv)).toNat = q at h1 ⊢
 exact isW_iff.2 ⟨by omega, by omega⟩
def pairS (us vs : List Int) (k : Nat) : Int := sumB (fun n => us[n]?.getD 0 * vs[n]?.getD 0) k
theorem pairS_bound {us vs : List Int} (ha : ∀ y ∈ us, isW y = true) (hb : ∀ y ∈ vs, isW y = true) (k : Nat) : (pairS us vs k).natAbs ≤ k * (140737488355328 * 140737488355328) :=
 sumB_abs k fun i _ => by
  rw [Int.natAbs_mul]
  exact Nat.mul_le_mul (bk_word ha i) (bk_word hb i)
theorem small_rem (x : Int) : -45 ≤ Int.tmod x 31 - 15 ∧ Int.tmod x 31 - 15 ≤ 45 := by
 rcases Int.le_total 0 x with h | h
 ·rw [Int.tmod_eq_emod_of_nonneg h]
  omega
 ·have e : Int.tmod x 31 = -(Int.tmod (-x) 31) := by rw [Int.neg_tmod, Int.neg_neg]
  rw [e, Int.tmod_eq_emod_of_nonneg (by omega)]
  omega
end Go.Proofs.Ytadlnmckcnfacaa
