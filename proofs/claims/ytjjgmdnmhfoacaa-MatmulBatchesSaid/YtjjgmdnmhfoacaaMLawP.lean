/- Laws of products and of turning, in plain numbers. No walk. -/
import Derived.Test.YtjjgmdnmhfoacaaMTurnP
set_option linter.unusedVariables false
set_option linter.unusedSimpArgs false
namespace Go.Proofs.Ytjjgmdnmhfoacaa
open Go.RowKit Go.Rt

theorem getD_map (xs : List Int) (f : Int → Int) (h0 : f 0 = 0) (i : Nat) : (xs.map f)[i]?.getD 0 = f (xs[i]?.getD 0) := by
  rw [List.getElem?_map]
  cases xs[i]? <;> simp [h0]

theorem sumAt_neg (xs ys : List Int) (o p st : Nat) : ∀ k, sumAt (xs.map fun x => -x) ys o p st k = -sumAt xs ys o p st k
  | 0 => rfl
  | k + 1 => by
    rw [sumAt, sumAt, sumAt_neg xs ys o p st k, getD_map xs _ (by rfl), Int.neg_add, Int.neg_mul]

theorem sumAt_none (n : Nat) (ys : List Int) (o p st : Nat) : ∀ k, sumAt (List.replicate n 0) ys o p st k = 0
  | 0 => rfl
  | k + 1 => by
    rw [sumAt, sumAt_none n ys o p st k]
    have : (List.replicate n (0 : Int))[o + k]?.getD 0 = 0 := by
      rw [List.getElem?_replicate]
      split <;> rfl
    rw [this]
    simp

theorem absI_neg (s : Int) : absI (-s) = absI s := by unfold absI; split <;> split <;> omega
theorem roundI_zero (p : Int) (hp : 1 ≤ p) : roundI 0 p = 0 := by
  have e : absI p = p := by unfold absI; rw [if_neg (by omega)]
  have h1 : (0 : Int) / p = 0 := Int.zero_ediv _
  have h2 : (0 : Int) % p = 0 := Int.zero_emod _
  unfold roundI upR
  rw [show absI 0 = 0 from rfl, e, h1, h2]
  simp
  omega
theorem roundI_neg (s p : Int) (hp : 1 ≤ p) : roundI (-s) p = -roundI s p := by
  by_cases h0 : s = 0
  · subst h0
    rw [Int.neg_zero, roundI_zero p hp]
    rfl
  · have ep : decide (p < 0) = false := by simp; omega
    unfold roundI
    rw [absI_neg, ep]
    generalize (if upR (absI s / absI p) (absI s % absI p) (absI p) = true then absI s / absI p + 1 else absI s / absI p) = X
    by_cases h : s < 0
    · rw [decide_eq_true h, decide_eq_false (show ¬ -s < 0 by omega)]
      simp
    · rw [decide_eq_false h, decide_eq_true (show -s < 0 by omega)]
      simp
theorem pow2_pos (n : Nat) : (1 : Int) ≤ 2 ^ n := by
  have := Nat.pow_pos (n := n) (show 0 < 2 by decide)
  rw [← castPow]
  omega
theorem shI_neg (s : Int) (n : Nat) : shI (-s) n = -shI s n := roundI_neg _ _ (pow2_pos n)
theorem shI_zero (n : Nat) : shI 0 n = 0 := roundI_zero _ (pow2_pos n)
theorem isW_neg (v : Int) : isW (-v) = isW v := by
  rw [Bool.eq_iff_iff, isW_iff, isW_iff]
  omega

theorem mulW_neg (xsA ysA xsB ysB : List Int) (f j : Nat) : mulW xsA (ysA.map fun x => -x) xsB ysB f j = -mulW xsA ysA xsB ysB f j := by
  unfold mulW mulG
  rw [sumAt_neg, shI_neg]
theorem mulE_neg (xsA ysA xsB ysB : List Int) (f : Nat) : mulE xsA (ysA.map fun x => -x) xsB ysB f = mulE xsA ysA xsB ysB f := by
  unfold mulE
  simp only [mulW_neg, isW_neg]
theorem mulX_neg (xsA ysA xsB ysB : List Int) (f : Nat) : mulX xsA (ysA.map fun x => -x) xsB ysB f = mulX xsA ysA xsB ysB f := by
  unfold mulX
  rw [mulE_neg]
theorem mulY_neg (xsA ysA xsB ysB : List Int) (f : Nat) : mulY xsA (ysA.map fun x => -x) xsB ysB f = (mulY xsA ysA xsB ysB f).map fun x => -x := by
  unfold mulY
  rw [mulE_neg]
  split
  · rw [List.map_map]
    apply List.map_congr_left
    intro j _
    exact mulW_neg _ _ _ _ _ _
  · rfl
theorem mulW_none (n : Nat) (xsA xsB ysB : List Int) (f j : Nat) : mulW xsA (List.replicate n 0) xsB ysB f j = 0 := by
  unfold mulW mulG
  rw [sumAt_none, shI_zero]
theorem mulE_none (n : Nat) (xsA ysA xsB ysB : List Int) (f : Nat) (h : mulE xsA ysA xsB ysB f = 0) : mulE xsA (List.replicate n 0) xsB ysB f = 0 := by
  have hz : outE xsA xsB = 0 := by
    unfold mulE at h
    split at h
    · assumption
    · exact h
  unfold mulE
  rw [if_pos hz, if_pos]
  rw [List.all_eq_true]
  intro j _
  rw [mulW_none]
  rfl
theorem mulY_none (n : Nat) (xsA xsB ysB : List Int) (f : Nat) : ∀ y ∈ mulY xsA (List.replicate n 0) xsB ysB f, y = 0 := by
  intro y hy
  unfold mulY at hy
  split at hy
  · obtain ⟨j, _, rfl⟩ := List.mem_map.1 hy
    exact mulW_none _ _ _ _ _ _
  · simp at hy

theorem mulE_zero {xsA ysA xsB ysB : List Int} {f : Nat} (h : mulE xsA ysA xsB ysB f = 0) : outE xsA xsB = 0 ∧ ∀ j, j < mulN xsA xsB → isW (mulW xsA ysA xsB ysB f j) = true := by
  unfold mulE at h
  by_cases hz : outE xsA xsB = 0
  · rw [if_pos hz] at h
    refine ⟨hz, ?_⟩
    by_cases ha : ((List.range (mulN xsA xsB)).all fun j => isW (mulW xsA ysA xsB ysB f j)) = true
    · intro j hj
      exact List.all_eq_true.1 ha j (by simpa using hj)
    · rw [if_neg ha] at h
      exact absurd h (by decide)
  · rw [if_neg hz] at h
    exact absurd h hz
theorem mulY_isW (xsA ysA xsB ysB : List Int) (f : Nat) : ∀ y ∈ mulY xsA ysA xsB ysB f, isW y = true := by
  intro y hy
  unfold mulY at hy
  split at hy
  · rename_i h
    obtain ⟨j, hj, rfl⟩ := List.mem_map.1 hy
    exact (mulE_zero h).2 j (by simpa using hj)
  · simp at hy
theorem outE_good {xs ys : List Int} (h : outE xs ys = 0) : goodB (outL xs ys) = true := by
  unfold outE at h
  split at h
  · split at h
    · assumption
    · exact absurd h (by decide)
  · exact absurd h (by decide)
theorem mul_ten {xsA ysA xsB ysB : List Int} {f : Nat} (h : mulE xsA ysA xsB ysB f = 0) : tenB (mulX xsA ysA xsB ysB f) (mulY xsA ysA xsB ysB f) = true := by
  have hg := outE_good (mulE_zero h).1
  have hp := goodB_prod hg
  refine tenB_iff.2 ⟨?_, ?_, mulY_isW _ _ _ _ _⟩
  · unfold mulX; rw [if_pos h]; exact hg
  · unfold mulX mulY mulN
    rw [if_pos h, if_pos h]
    simp
    omega

theorem swapL_swapL {xs : List Int} (h2 : 2 ≤ xs.length) : swapL (swapL xs) = xs := by
  have hs := swapL_get h2
  have e : swapL (swapL xs) = ((swapL xs).set (xs.length - 2) (xs[xs.length - 2]?.getD 0)).set (xs.length - 1) (xs[xs.length - 1]?.getD 0) := by
    have e : ∀ L : List Int, swapL L = (L.set (L.length - 2) (L[L.length - 1]?.getD 0)).set (L.length - 1) (L[L.length - 2]?.getD 0) := fun _ => rfl
    rw [e (swapL xs), swapL_len, hs.1, hs.2]
  rw [e]
  rw [List.getElem?_eq_getElem (show xs.length - 1 < xs.length by omega), List.getElem?_eq_getElem (show xs.length - 2 < xs.length by omega)]
  simp only [Option.getD_some]
  unfold swapL
  apply List.ext_getElem
  · simp
  · intro i h1 h3
    rw [List.getElem_set, List.getElem_set, List.getElem_set, List.getElem_set]
    by_cases c1 : xs.length - 1 = i
    · subst c1; simp
    · rw [if_neg c1]
      by_cases c2 : xs.length - 2 = i
      · subst c2; simp
      · rw [if_neg c2, if_neg c1, if_neg c2]

theorem turnI_turnI (R C k : Nat) (hR : 1 ≤ R) (hC : 1 ≤ C) : turnI R C (turnI C R k) = k := by
  have hRC : 1 ≤ R * C := Nat.mul_le_mul hR hC
  have e0 : turnI C R k = k / (R * C) * (R * C) + (k % (R * C) % C * R + k % (R * C) / C) := by
    unfold turnI
    rw [Nat.mul_comm C R, Nat.add_assoc]
  have hi : k % (R * C) < R * C := Nat.mod_lt _ hRC
  have hcr : C * R = R * C := Nat.mul_comm _ _
  have h1 : k % (R * C) / C < R := Nat.div_lt_of_lt_mul (by rw [hcr]; exact hi)
  have h2 : k % (R * C) % C < C := Nat.mod_lt _ hC
  have h3 : (k % (R * C) % C + 1) * R ≤ C * R := Nat.mul_le_mul h2 (Nat.le_refl _)
  rw [Nat.add_mul, Nat.one_mul] at h3
  have h4 : k % (R * C) % C * R + k % (R * C) / C < R * C := by
    generalize k % (R * C) % C * R = u at *
    omega
  have h5 := Nat.div_add_mod (k % (R * C)) C
  have h6 := Nat.div_add_mod k (R * C)
  rw [e0]
  generalize hi' : k % (R * C) % C * R + k % (R * C) / C = i' at *
  unfold turnI
  have a1 : (k / (R * C) * (R * C) + i') / (R * C) = k / (R * C) := by
    rw [Nat.add_comm, Nat.mul_comm (k / (R * C)), Nat.add_mul_div_left _ _ hRC, Nat.div_eq_of_lt h4, Nat.zero_add]
  have a2 : (k / (R * C) * (R * C) + i') % (R * C) = i' := by
    rw [Nat.add_comm, Nat.mul_comm (k / (R * C)), Nat.add_mul_mod_self_left, Nat.mod_eq_of_lt h4]
  have a3 : i' % R = k % (R * C) / C := by
    rw [← hi', Nat.add_comm, Nat.mul_comm _ R, Nat.add_mul_mod_self_left, Nat.mod_eq_of_lt h1]
  have a4 : i' / R = k % (R * C) % C := by
    rw [← hi', Nat.add_comm, Nat.mul_comm _ R, Nat.add_mul_div_left _ _ hR, Nat.div_eq_of_lt h1, Nat.zero_add]
  rw [a1, a2, a3, a4, Nat.add_assoc, Nat.mul_comm (k % (R * C) / C) C, h5, Nat.mul_comm (k / (R * C)), h6]

theorem turn_ten {xs ys : List Int} (ht : tenB xs ys = true) (h2 : 2 ≤ xs.length) : tenB (swapL xs) (turnL xs ys) = true := by
  obtain ⟨P, R, C, hTS⟩ := turnShape_of ht h2
  obtain ⟨g, l, hw⟩ := tenB_iff.1 ht
  obtain ⟨g2, e2⟩ := swapL_good g h2
  refine tenB_iff.2 ⟨g2, ?_, ?_⟩
  · rw [e2, ← l]
    simp [turnL]
  · rw [turnL_eq hTS]
    intro y hy
    obtain ⟨k, hk, rfl⟩ := List.mem_map.1 hy
    have := (turnI_lt hTS (by simpa using hk)).1
    rw [List.getElem?_eq_getElem this]
    exact hw _ (List.getElem_mem _)

theorem turnShape_swap {xs ys : List Int} {P R C : Nat} (h : TurnShape xs ys P R C) (h2 : 2 ≤ xs.length) : TurnShape (swapL xs) (turnL xs ys) P C R := by
  have hs := swapL_get h2
  refine ⟨h.p1, h.c1, h.r1, h.c2, h.r2, ?_, ?_, ?_, ?_⟩
  · simp only [turnL, List.length_map, List.length_range]
    rw [h.len, Nat.mul_comm C R]
  · rw [Nat.mul_comm C R]; exact h.bd
  · rw [swapL_len, hs.1]; exact h.eC
  · rw [swapL_len, hs.2]; exact h.eR

theorem turn_turn {xs ys : List Int} (ht : tenB xs ys = true) (h2 : 2 ≤ xs.length) : turnL (swapL xs) (turnL xs ys) = ys := by
  obtain ⟨P, R, C, hTS⟩ := turnShape_of ht h2
  have hT2 := turnShape_swap hTS h2
  rw [turnL_eq hT2]
  have hl : (turnL xs ys).length = ys.length := by simp [turnL]
  apply List.ext_getElem
  · simp [hl]
  · intro k h1 h3
    have hk : k < (turnL xs ys).length := by rw [hl]; exact h3
    have h4 := (turnI_lt hT2 hk).1
    simp only [List.getElem_map, List.getElem_range]
    rw [turnL_eq hTS, List.getElem?_map, List.getElem?_range (by rw [← hl]; exact h4)]
    simp only [Option.map_some, Option.getD_some]
    rw [turnI_turnI _ _ _ hTS.r1 hTS.c1, List.getElem?_eq_getElem h3]
    rfl
end Go.Proofs.Ytjjgmdnmhfoacaa
