/- Plain: each example is folded alone, and by each kernel alone. No program in sight. -/
import Derived.Test.YtadlnmckcnfacaaCoP
set_option linter.unusedVariables false
set_option linter.unusedSimpArgs false
namespace Go.Proofs.Ytadlnmckcnfacaa
open Go.RowKit Go.Rt
/-- A part of a list. -/
def cutL (ys : List Int) (a n : Nat) : List Int := (ys.drop (a * n)).take n
theorem cutL_len {ys : List Int} {a n R : Nat} (h : ys.length = R * n) (ha : a < R) : (cutL ys a n).length = n := by
  have := Nat.mul_le_mul_right n (show a + 1 ≤ R by omega)
  rw [Nat.succ_mul] at this
  simp [cutL]
  omega
theorem cutL_get {ys : List Int} {a n i : Nat} (hi : i < n) : (cutL ys a n)[i]? = ys[a * n + i]? := by
  unfold cutL
  rw [List.getElem?_take, if_pos hi, List.getElem?_drop]
theorem cutL_mem {ys : List Int} {a n : Nat} {y : Int} (h : y ∈ cutL ys a n) : y ∈ ys := List.mem_of_mem_drop (List.mem_of_mem_take h)
theorem alone_in {ys vs : List Int} {C M T a b p t : Nat} (hp : p < M) (ht : t < T) : ∀ k, k ≤ C → cvIn (cutL ys a (C * M)) (cutL vs b (C * T)) C M T 0 0 p t k = cvIn ys vs C M T a b p t k
  | 0, _ => rfl
  | k + 1, h => by
    rw [cvIn, cvIn, alone_in hp ht k (by omega)]
    have i1 := in_row (a := 0) (R := 1) (by omega) (show k < C by omega) hp
    have i2 := in_row (a := 0) (R := 1) (by omega) (show k < C by omega) ht
    rw [Nat.one_mul] at i1 i2
    rw [cutL_get i1, cutL_get i2]
    have e1 : a * (C * M) + ((0 * C + k) * M + p) = (a * C + k) * M + p := by
      rw [Nat.zero_mul, Nat.zero_add, Nat.add_mul, Nat.mul_assoc, Nat.add_assoc]
    have e2 : b * (C * T) + ((0 * C + k) * T + t) = (b * C + k) * T + t := by
      rw [Nat.zero_mul, Nat.zero_add, Nat.add_mul, Nat.mul_assoc, Nat.add_assoc]
    rw [e1, e2]
theorem alone_sum {wv : WinV} {ys vs : List Int} {C M T a b pl : Nat} (hM : prodI wv.L = (M : Int)) (hR : wv.R) : ∀ t, t ≤ T → cvSum wv (cutL ys a (C * M)) (cutL vs b (C * T)) C M T pl 0 0 t = cvSum wv ys vs C M T pl a b t
  | 0, _ => rfl
  | t + 1, h => by
    rw [cvSum, cvSum, alone_sum hM hR t (by omega)]
    by_cases hb : wv.wB pl t = true
    · rw [if_pos hb, if_pos hb]
      have h2 := WinV.wI_bound hR hb
      rw [hM] at h2
      rw [alone_in (by omega) (by omega) C (Nat.le_refl _)]
    · rw [if_neg hb, if_neg hb]
theorem good_one {xs : List Int} (hg : goodB xs = true) (h : 1 ≤ xs.length) : goodB (1 :: xs.drop 1) = true := by
  obtain ⟨h1, h2, h3⟩ := goodB_iff.1 hg
  have hd := good_drop hg 1
  have hp := (goodB_prod hd).2
  refine goodB_iff.2 ⟨by simp; omega, fun x hx => ?_, ?_⟩
  · rcases List.mem_cons.1 hx with rfl | hx
    · omega
    · exact h2 _ (List.mem_of_mem_drop hx)
  · simp only [prodI]; omega
theorem drop_one_two (xs : List Int) : (1 :: xs.drop 1).drop 2 = xs.drop 2 := by
  rw [List.drop_succ_cons, List.drop_drop]
/-- All that ConvAlone asks. -/
theorem alone_all {xs ys ws vs Q : List Int} {wv : WinV} {f : Int} {N M T C o R NN : Nat} (hL : wv.L = xs.drop 2) (hK : wv.K = ws.drop 2) (hf : formZ xs ys ws vs Q wv f = true) (hz : coutZ xs ws wv = 0) (hw : allW xs ys ws vs wv f.toNat = true)
    (K : ConvOK xs ys ws vs wv N M T C o R NN) {a b : Nat} (ha : a < R) (hb : b < o) :
    wv.L = (1 :: xs.drop 1).drop 2 ∧ wv.K = (1 :: ws.drop 1).drop 2 ∧ cvZ (1 :: xs.drop 1) (cutL ys a (C * M)) (1 :: ws.drop 1) (cutL vs b (C * T)) Q wv f = 0 ∧ cvN (1 :: xs.drop 1) (1 :: ws.drop 1) wv = N ∧
    (List.range N).map (cvW (1 :: xs.drop 1) (cutL ys a (C * M)) (1 :: ws.drop 1) (cutL vs b (C * T)) wv f.toNat) = cutL ((List.range NN).map (cvW xs ys ws vs wv f.toNat)) (a * o + b) N := by
  have hlx := K.lx
  have hlw := K.lw
  have hr := K.hr
  obtain ⟨e1, e2, e3, e4, e5⟩ := cout_ok hz
  simp only [formZ, Bool.and_eq_true, decide_eq_true_eq] at hf
  obtain ⟨⟨_, hf2⟩, hnum⟩ := hf
  have lx := tenB_iff.1 K.tx
  have lw := tenB_iff.1 K.tw
  have x1 : (1 :: xs.drop 1)[1]?.getD 0 = xs[1]?.getD 0 := by simp
  have w1 : (1 :: ws.drop 1)[1]?.getD 0 = ws[1]?.getD 0 := by simp
  have hgx := good_one lx.1 (by omega)
  have hgw := good_one lw.1 (by omega)
  have hx2 : prodI (1 :: xs.drop 1) = ((C * M : Nat) : Int) := by
    have h := prod_two (xs := 1 :: xs.drop 1) (by simp; omega)
    rw [h, x1, drop_one_two, ← hL, K.hC, K.hM]
    simp
  have hw2 : prodI (1 :: ws.drop 1) = ((C * T : Nat) : Int) := by
    have h := prod_two (xs := 1 :: ws.drop 1) (by simp; omega)
    rw [h, w1, drop_one_two, ← hK, K.hC2, K.hT]
    simp
  have tx : tenB (1 :: xs.drop 1) (cutL ys a (C * M)) = true := tenB_iff.2 ⟨hgx, by rw [cutL_len K.yl ha, hx2], fun y hy => lx.2.2 y (cutL_mem hy)⟩
  have tw : tenB (1 :: ws.drop 1) (cutL vs b (C * T)) = true := tenB_iff.2 ⟨hgw, by rw [cutL_len K.vl hb, hw2], fun y hy => lw.2.2 y (cutL_mem hy)⟩
  have hS : coS (1 :: xs.drop 1) (1 :: ws.drop 1) wv = 1 :: 1 :: wv.O := rfl
  have hpS : prodI (coS (1 :: xs.drop 1) (1 :: ws.drop 1) wv) = (N : Int) := by
    rw [hS]; simp only [prodI]; rw [K.hN]; omega
  have hgS : goodB (coS (1 :: xs.drop 1) (1 :: ws.drop 1) wv) = true := by
    have h1 := goodB_iff.1 e5
    have h2 := goodB_iff.1 K.gO
    rw [hS]
    refine goodB_iff.2 ⟨by have := h1.1; simp [coS] at this ⊢; omega, fun x hx => ?_, ?_⟩
    · rcases List.mem_cons.1 hx with rfl | hx
      · omega
      · rcases List.mem_cons.1 hx with rfl | hx
        · omega
        · exact h2.2.1 x hx
    · simp only [prodI]; have := h2.2.2; omega
  have hN : cvN (1 :: xs.drop 1) (1 :: ws.drop 1) wv = N := by unfold cvN; rw [hpS]; simp
  have hcz : coutZ (1 :: xs.drop 1) (1 :: ws.drop 1) wv = 0 := by
    unfold coutZ
    rw [if_pos ⟨by simp; omega, by simp; omega, by rw [x1, w1]; exact e3⟩, if_pos e4, if_pos hgS]
  have hfz : formZ (1 :: xs.drop 1) (cutL ys a (C * M)) (1 :: ws.drop 1) (cutL vs b (C * T)) Q wv f = true := by
    simp only [formZ, tx, tw, hnum, Bool.and_eq_true, decide_eq_true_eq]
    exact ⟨⟨⟨trivial, trivial⟩, hf2⟩, trivial⟩
  have hval : ∀ q, q < N → cvW (1 :: xs.drop 1) (cutL ys a (C * M)) (1 :: ws.drop 1) (cutL vs b (C * T)) wv f.toNat q = cvW xs ys ws vs wv f.toNat ((a * o + b) * N + q) := fun q hq => by
    unfold cvW cvG
    have d1 : ((a * o + b) * N + q) / N = a * o + b := by rw [Nat.mul_comm, Nat.mul_add_div (by omega), Nat.div_eq_of_lt hq, Nat.add_zero]
    have d2 : ((a * o + b) * N + q) % N = q := by rw [Nat.mul_comm, Nat.mul_add_mod, Nat.mod_eq_of_lt hq]
    have d3 : (a * o + b) / o = a := by rw [Nat.mul_comm, Nat.mul_add_div (by omega), Nat.div_eq_of_lt hb, Nat.add_zero]
    have d4 : (a * o + b) % o = b := by rw [Nat.mul_comm, Nat.mul_add_mod, Nat.mod_eq_of_lt hb]
    rw [x1, K.hC, K.hM, K.hT, K.hN, K.ho]
    simp only [List.getElem?_cons_zero, Option.getD_some, Int.toNat_natCast]
    rw [d1, d2, d3, d4, Nat.mod_eq_of_lt hq, Nat.div_eq_of_lt hq]
    rw [show (0 / (1 : Int).toNat : Nat) = 0 from Nat.zero_div _, show (0 % (1 : Int).toNat : Nat) = 0 from Nat.zero_mod _]
    rw [alone_sum K.hM K.hR T (Nat.le_refl _)]
  have hat : ∀ q, q < N → (a * o + b) * N + q < NN := fun q hq => by
    have h1 : a * o + b < R * o := by
      have := Nat.mul_le_mul_right o (show a + 1 ≤ R by omega)
      rw [Nat.succ_mul] at this; omega
    have h2 := Nat.mul_le_mul_right N (show a * o + b + 1 ≤ R * o by omega)
    rw [Nat.succ_mul] at h2
    have := K.nn
    omega
  have hNN : cvN xs ws wv = NN := by unfold cvN; rw [K.hNN]; simp
  have haw : allW (1 :: xs.drop 1) (cutL ys a (C * M)) (1 :: ws.drop 1) (cutL vs b (C * T)) wv f.toNat = true := by
    refine List.all_eq_true.2 fun q hq => ?_
    rw [hN] at hq
    have hq := List.mem_range.1 hq
    rw [hval q hq]
    have := List.all_eq_true.1 hw ((a * o + b) * N + q)
    rw [hNN] at this
    exact this (List.mem_range.2 (hat q hq))
  refine ⟨by rw [drop_one_two]; exact hL, by rw [drop_one_two]; exact hK, ?_, hN, ?_⟩
  · unfold cvZ
    rw [if_pos hfz, if_pos hcz, if_pos haw]
  · refine List.ext_getElem? fun i => ?_
    by_cases hi : i < N
    · rw [cutL_get hi, List.getElem?_map, List.getElem?_range hi, List.getElem?_map, List.getElem?_range (hat i hi)]
      exact congrArg some (hval i hi)
    · rw [List.getElem?_eq_none (by simp; omega), List.getElem?_eq_none]
      have := List.length_take_le N (((List.range NN).map (cvW xs ys ws vs wv f.toNat)).drop ((a * o + b) * N))
      unfold cutL
      omega
end Go.Proofs.Ytadlnmckcnfacaa
