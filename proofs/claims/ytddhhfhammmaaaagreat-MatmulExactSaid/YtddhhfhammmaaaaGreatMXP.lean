/- The reference's product, in plain numbers: places of a's and b's words. No walk. -/
import Derived.Test.YtddhhfhammmaaaaGreatMMulP
set_option linter.unusedVariables false
set_option linter.unusedSimpArgs false
namespace Go.Proofs.YtddhhfhammmaaaaGreat
open Go.RowKit Go.Rt

/-- The places that the reference asks: of a index, of k. -/
def pairX (n : Nat) (is : List Int) (k : Int) : List Int := is.take (n - 1) ++ [k]
def pairY (m n : Nat) (is : List Int) (k : Int) : List Int := if 2 < m then is.take (n - 2) ++ [k, is[n - 1]?.getD 0] else [k, is[n - 1]?.getD 0]
theorem withinB_snoc : ∀ (xs is : List Int) (d i : Int), is.length = xs.length → withinB (xs ++ [d]) (is ++ [i]) = (withinB xs is && (decide (0 ≤ i) && decide (i < d)))
  | [], [], d, i, _ => by simp [withinB]
  | x :: xs, j :: is, d, i, h => by
    have := withinB_snoc xs is d i (by simpa using h)
    simp only [List.cons_append, withinB, this, Bool.and_assoc]
  | [], _ :: _, _, _, h => by simp at h
  | _ :: _, [], _, _, h => by simp at h
theorem place3 (p q : List Int) (a b x y : Int) (hl : q.length = p.length) : placeI (p ++ [a, b]) (q ++ [x, y]) = (placeI p q * a + x) * b + y := by
  rw [show p ++ [a, b] = (p ++ [a]) ++ [b] by simp, show q ++ [x, y] = (q ++ [x]) ++ [y] by simp, placeI_snoc _ _ _ _ (by simp [hl]), placeI_snoc _ _ _ _ hl]
theorem within3 (p q : List Int) (a b x y : Int) (hl : q.length = p.length) : withinB (p ++ [a, b]) (q ++ [x, y]) = true ↔ withinB p q = true ∧ (0 ≤ x ∧ x < a) ∧ (0 ≤ y ∧ y < b) := by
  rw [show p ++ [a, b] = (p ++ [a]) ++ [b] by simp, show q ++ [x, y] = (q ++ [x]) ++ [y] by simp, withinB_snoc _ _ _ _ (by simp [hl]), withinB_snoc _ _ _ _ hl]
  simp only [Bool.and_eq_true, decide_eq_true_eq, and_assoc]
theorem last2e (is : List Int) (n : Nat) (h : is.length = n) (hn : 2 ≤ n) : ∃ r c, is = is.take (n - 2) ++ [r, c] ∧ is[n - 1]?.getD 0 = c ∧ is.take (n - 1) = is.take (n - 2) ++ [r] := by
  subst h
  refine ⟨is[is.length - 2], is[is.length - 1], last2 is hn, by rw [List.getElem?_eq_getElem (by omega), Option.getD_some], ?_⟩
  have := take_snoc is (is.length - 2) (by omega)
  rwa [show is.length - 2 + 1 = is.length - 1 by omega] at this
theorem pair_law {xsA ysA xsB ysB : List Int} {P R I C : Nat} (hS : MulShape xsA ysA xsB ysB P R I C) (gA : goodB xsA = true) (gS : goodB (outL xsA xsB) = true) (hfit : fitsB xsA xsB = true) (h2 : 2 ≤ xsA.length) (h2' : 2 ≤ xsB.length)
    (hR : xsA[xsA.length - 2] = (R : Int)) (hI : xsA[xsA.length - 1] = (I : Int)) (hC : xsB[xsB.length - 1] = (C : Int)) (j k : Nat) (hj : j < P * (R * C)) (hk : k < I) :
    withinB xsA (pairX xsA.length (standsI (outL xsA xsB) j) k) = true ∧ placeI xsA (pairX xsA.length (standsI (outL xsA xsB) j) k) = ((j / C * I + k : Nat) : Int) ∧
    withinB xsB (pairY xsB.length xsA.length (standsI (outL xsA xsB) j) k) = true ∧
    placeI xsB (pairY xsB.length xsA.length (standsI (outL xsA xsB) j) k) = (((if decide (xsB.length = xsA.length) = true then j / (R * C) else 0) * (I * C) + j % C + k * C : Nat) : Int) := by
  have hdS := goodB_dims gS
  have hb := goodB_prod gS
  have eA : xsA = xsA.take (xsA.length - 2) ++ [(R : Int), (I : Int)] := by
    conv => lhs; rw [last2 xsA h2, hR, hI]
  have eS : outL xsA xsB = xsA.take (xsA.length - 2) ++ [(R : Int), (C : Int)] := by
    unfold outL
    have h3 : xsA.take (xsA.length - 1) = xsA.take (xsA.length - 2) ++ [xsA[xsA.length - 2]] := by
      have := take_snoc xsA (xsA.length - 2) (by omega)
      rwa [show xsA.length - 2 + 1 = xsA.length - 1 by omega] at this
    rw [h3, hR, List.getElem?_eq_getElem (show xsB.length - 1 < xsB.length by omega), Option.getD_some, hC]
    simp
  have eI : xsB[xsB.length - 2] = (I : Int) := by
    unfold fitsB at hfit
    simp only [Bool.and_eq_true, decide_eq_true_eq] at hfit
    have h := hfit.2.2.1
    rw [List.getElem?_eq_getElem (show xsA.length - 1 < xsA.length by omega), List.getElem?_eq_getElem (show xsB.length - 2 < xsB.length by omega)] at h
    simp only [Option.getD_some] at h
    rw [← h, hI]
  have eB : xsB = xsB.take (xsB.length - 2) ++ [(I : Int), (C : Int)] := by
    conv => lhs; rw [last2 xsB h2', eI, hC]
  have hl : xsB.length = 2 ∨ xsB.length = xsA.length := by
    unfold fitsB at hfit
    simp only [Bool.and_eq_true, Bool.or_eq_true, decide_eq_true_eq] at hfit
    exact hfit.2.1
  have ht : xsB.length ≠ xsA.length ∨ xsA.take (xsA.length - 2) = xsB.take (xsB.length - 2) := by
    unfold fitsB at hfit
    simp only [Bool.and_eq_true, Bool.or_eq_true, decide_eq_true_eq] at hfit
    exact hfit.2.2.2
  have hln : (outL xsA xsB).length = xsA.length := by rw [eS]; simp; omega
  have hpl : (xsA.take (xsA.length - 2)).length = xsA.length - 2 := by simp
  have hw := standsI_within (outL xsA xsB) (j : Int) hdS
  have hp := placeI_stands (outL xsA xsB) (j : Int) hdS
  have hsl := standsI_length (outL xsA xsB) (j : Int)
  have hprod : prodI (outL xsA xsB) = ((P * (R * C) : Nat) : Int) := by have := hS.lenT; omega
  rw [hprod, Int.emod_eq_of_lt (by omega) (by omega)] at hp
  obtain ⟨is, his⟩ : ∃ l, standsI (outL xsA xsB) (j : Int) = l := ⟨_, rfl⟩
  rw [his] at hw hp hsl ⊢
  rw [hln] at hsl
  obtain ⟨n, hn⟩ : ∃ n, xsA.length = n := ⟨_, rfl⟩
  obtain ⟨p, hpp⟩ : ∃ p, xsA.take (xsA.length - 2) = p := ⟨_, rfl⟩
  rw [hpp] at eA eS ht hpl
  rw [hn] at hsl h2 hpl hl ht ⊢
  obtain ⟨r, c, eis, hcg, htk⟩ := last2e is n hsl h2
  obtain ⟨q, hq⟩ : ∃ q, is.take (n - 2) = q := ⟨_, rfl⟩
  have hql : q.length = p.length := by rw [← hq, hpl, List.length_take]; omega
  rw [hq] at eis htk
  rw [eS, eis, within3 p q _ _ _ _ hql] at hw
  rw [eS, eis, place3 p q _ _ _ _ hql] at hp
  obtain ⟨w1, ⟨r1, r2⟩, c1, c2⟩ := hw
  obtain ⟨r, rfl⟩ : ∃ r' : Nat, r = r' := ⟨r.toNat, by omega⟩
  obtain ⟨c, rfl⟩ : ∃ c' : Nat, c = c' := ⟨c.toNat, by omega⟩
  have hpb := placeI_bound p q (by have := hdS; rw [eS] at this; exact fun x hx => this x (List.mem_append_left _ hx)) w1
  obtain ⟨m, hm⟩ : ∃ m : Nat, placeI p q = m := ⟨(placeI p q).toNat, by omega⟩
  rw [hm] at hp
  have hj2 : (m * R + r) * C + c = j := by
    have : (((m * R + r) * C + c : Nat) : Int) = (j : Int) := by rw [← hp]; simp
    omega
  have hrc : r * C + c < R * C := by
    have h1 : (r + 1) * C ≤ R * C := Nat.mul_le_mul_right C (by omega)
    rw [Nat.add_mul, Nat.one_mul] at h1
    omega
  have hj3 : m * (R * C) + (r * C + c) = j := by rw [← hj2, Nat.add_mul, Nat.mul_assoc, Nat.add_assoc]
  have hcC : c < C := by omega
  have hC1 : 0 < C := by omega
  have d1 : j / C = m * R + r := by rw [← hj2, Nat.add_comm, Nat.add_mul_div_right _ _ hC1, Nat.div_eq_of_lt hcC, Nat.zero_add]
  have d2 : j % C = c := by rw [← hj2, Nat.add_comm, Nat.add_mul_mod_self_right, Nat.mod_eq_of_lt hcC]
  have d3 : j / (R * C) = m := by rw [← hj3, Nat.mul_comm m, Nat.mul_add_div (Nat.lt_of_le_of_lt (Nat.zero_le _) hrc), Nat.div_eq_of_lt hrc, Nat.add_zero]
  refine ⟨?_, ?_, ?_, ?_⟩
  · unfold pairX
    rw [htk, eA, show q ++ [(r : Int)] ++ [(k : Int)] = q ++ [(r : Int), (k : Int)] by simp, within3 p q _ _ _ _ hql]
    exact ⟨w1, ⟨by omega, r2⟩, by omega, by omega⟩
  · unfold pairX
    rw [htk, eA, show q ++ [(r : Int)] ++ [(k : Int)] = q ++ [(r : Int), (k : Int)] by simp, place3 p q _ _ _ _ hql, hm, d1]
    simp
  all_goals
    unfold pairY
    rw [hcg, hq]
    by_cases hB : 2 < xsB.length
    · rw [if_pos hB]
      have hBn : xsB.length = n := by omega
      have hBt : xsB.take (xsB.length - 2) = p := by
        rcases ht with h | h
        · exact absurd hBn h
        · exact h.symm
      rw [hBt] at eB
      first
        | (rw [eB, within3 p q _ _ _ _ hql]; exact ⟨w1, ⟨by omega, by omega⟩, by omega, by omega⟩)
        | (rw [decide_eq_true hBn, if_pos rfl, d2, d3, eB, place3 p q _ _ _ _ hql, hm]
           have : ((m * I + k) * C + c : Nat) = m * (I * C) + c + k * C := by rw [Nat.add_mul, Nat.mul_assoc]; omega
           rw [← this]
           simp)
    · rw [if_neg hB]
      have hB2 : xsB.length = 2 := by omega
      rw [hB2] at eB
      first
        | (rw [eB]; simp [withinB]; omega)
        | (have hz : (if decide (xsB.length = n) = true then j / (R * C) else 0) = 0 := by
             split
             · rename_i h
               have h := of_decide_eq_true h
               have hp0 : p = [] := List.eq_nil_of_length_eq_zero (by omega)
               have hq0 : q = [] := List.eq_nil_of_length_eq_zero (by omega)
               rw [hp0, hq0] at hm
               rw [d3]
               have : (placeI [] [] : Int) = 0 := rfl
               omega
             · rfl
           rw [hz, d2, eB]
           simp [placeI, prodI]
           omega)

/-- Sums of products, any places. -/
def sumP (ysA ysB : List Int) (oX oY : Nat → Nat) : Nat → Int
  | 0 => 0
  | k + 1 => sumP ysA ysB oX oY k + ysA[oX k]?.getD 0 * ysB[oY k]?.getD 0
theorem sumP_bound {ysA ysB : List Int} (hA : ∀ y ∈ ysA, isW y = true) (hB : ∀ y ∈ ysB, isW y = true) (oX oY : Nat → Nat) : ∀ k, (sumP ysA ysB oX oY k).natAbs ≤ k * (140737488355328 * 140737488355328)
  | 0 => by simp [sumP]
  | k + 1 => by
    have ih := sumP_bound hA hB oX oY k
    have hw : ∀ {l : List Int}, (∀ y ∈ l, isW y = true) → ∀ i : Nat, (l[i]?.getD 0 : Int).natAbs ≤ 140737488355328 := by
      intro l hl i
      by_cases hi : i < l.length
      · rw [List.getElem?_eq_getElem hi, Option.getD_some]
        have := isW_iff.1 (hl _ (List.getElem_mem hi))
        omega
      · rw [List.getElem?_eq_none (by omega)]
        simp
    have h1 := Nat.mul_le_mul (hw hA (oX k)) (hw hB (oY k))
    rw [← Int.natAbs_mul] at h1
    have h2 := Int.natAbs_add_le (sumP ysA ysB oX oY k) (ysA[oX k]?.getD 0 * ysB[oY k]?.getD 0)
    show (sumP ysA ysB oX oY k + _).natAbs ≤ _
    rw [Nat.add_mul, Nat.one_mul]
    omega
theorem sumAt_sumP (xs ys : List Int) (o p st : Nat) : ∀ k, sumAt xs ys o p st k = sumP xs ys (fun k => o + k) (fun k => p + k * st) k
  | 0 => rfl
  | k + 1 => by rw [sumAt, sumP, sumAt_sumP xs ys o p st k]

/-- What the reference's product asks, in letters. -/
structure RMul (xsA ysA xsB ysB : List Int) (f : Nat) (I N : Nat) (oX oY : Nat → Nat → Nat) : Prop where
  n2 : 2 ≤ xsA.length
  last : xsA[xsA.length - 1]?.getD 0 = (I : Int)
  i1 : I ≤ 4096
  nb : N ≤ 65536
  gS : goodB (outL xsA xsB) = true
  pS : prodI (outL xsA xsB) = (N : Int)
  lS : (outL xsA xsB).length = xsA.length
  nN : mulN xsA xsB = N
  wX : ∀ j k : Nat, j < N → k < I → withinB xsA (pairX xsA.length (standsI (outL xsA xsB) j) k) = true
  wY : ∀ j k : Nat, j < N → k < I → withinB xsB (pairY xsB.length xsA.length (standsI (outL xsA xsB) j) k) = true
  eX : ∀ j k : Nat, j < N → k < I → placeI xsA (pairX xsA.length (standsI (outL xsA xsB) j) k) = (oX j k : Int)
  eY : ∀ j k : Nat, j < N → k < I → placeI xsB (pairY xsB.length xsA.length (standsI (outL xsA xsB) j) k) = (oY j k : Int)
  bX : ∀ j k : Nat, j < N → k < I → oX j k < ysA.length
  bY : ∀ j k : Nat, j < N → k < I → oY j k < ysB.length
  eW : ∀ j : Nat, mulW xsA ysA xsB ysB f j = shI (sumP ysA ysB (oX j) (oY j) I) f
theorem rmul_of {xsA ysA xsB ysB : List Int} (f : Nat) (tA : tenB xsA ysA = true) (tB : tenB xsB ysB = true) (hz : outE xsA xsB = 0) : ∃ I N oX oY, RMul xsA ysA xsB ysB f I N oX oY := by
  have gA := (tenB_iff.1 tA).1
  have gB := (tenB_iff.1 tB).1
  have lA := (goodB_iff.1 gA).1
  have lB := (goodB_iff.1 gB).1
  have hfit : fitsB xsA xsB = true := by
    cases h : fitsB xsA xsB with
    | true => rfl
    | false => unfold outE at hz; rw [h] at hz; simp at hz
  have hn : 2 ≤ xsA.length ∧ 2 ≤ xsB.length := by
    unfold fitsB at hfit
    simp at hfit
    omega
  have hgS : goodB (outL xsA xsB) = true := by
    unfold outE at hz
    rw [hfit, if_pos rfl] at hz
    cases h : goodB (outL xsA xsB) with
    | true => rfl
    | false => rw [h] at hz; simp at hz
  have hdR := (goodB_dims gA).at (show xsA.length - 2 < xsA.length by omega)
  have hdI := (goodB_dims gA).at (show xsA.length - 1 < xsA.length by omega)
  have hdC := (goodB_dims gB).at (show xsB.length - 1 < xsB.length by omega)
  obtain ⟨R, hRR⟩ : ∃ R : Nat, xsA[xsA.length - 2] = (R : Int) := ⟨xsA[xsA.length - 2].toNat, by omega⟩
  obtain ⟨I, hII⟩ : ∃ I : Nat, xsA[xsA.length - 1] = (I : Int) := ⟨xsA[xsA.length - 1].toNat, by omega⟩
  obtain ⟨C, hCC⟩ : ∃ C : Nat, xsB[xsB.length - 1] = (C : Int) := ⟨xsB[xsB.length - 1].toNat, by omega⟩
  obtain ⟨P, hMS⟩ := mulShape_of tA tB hz hn.1 hn.2 hRR hII hCC
  have hp := goodB_prod hgS
  have hL : (outL xsA xsB).length = xsA.length := by unfold outL; simp; omega
  have law := fun j k hj hk => pair_law hMS gA hgS hfit hn.1 hn.2 hRR hII hCC j k hj hk
  have hX := fun j k (hj : j < P * (R * C)) (hk : k < I) => placeI_bound _ _ (goodB_dims gA) (law j k hj hk).1
  have hY := fun j k (hj : j < P * (R * C)) (hk : k < I) => placeI_bound _ _ (goodB_dims gB) (law j k hj hk).2.2.1
  refine ⟨I, P * (R * C), fun j k => j / C * I + k, fun j k => (if decide (xsB.length = xsA.length) = true then j / (R * C) else 0) * (I * C) + j % C + k * C, hn.1, ?_, by omega, hMS.bT, hgS, by have := hMS.lenT; omega, hL, hMS.lenT, fun j k hj hk => (law j k hj hk).1, fun j k hj hk => (law j k hj hk).2.2.1, fun j k hj hk => (law j k hj hk).2.1, fun j k hj hk => (law j k hj hk).2.2.2, fun j k hj hk => ?_, fun j k hj hk => ?_, fun j => ?_⟩
  · rw [List.getElem?_eq_getElem (by omega), Option.getD_some, hII]
  · have h1 := hX j k hj hk
    rw [(law j k hj hk).2.1, ← (tenB_iff.1 tA).2.1] at h1
    show j / C * I + k < ysA.length
    omega
  · have h1 := hY j k hj hk
    rw [(law j k hj hk).2.2.2, ← (tenB_iff.1 tB).2.1] at h1
    show (if decide (xsB.length = xsA.length) = true then j / (R * C) else 0) * (I * C) + j % C + k * C < ysB.length
    omega
  · unfold mulW mulG
    rw [List.getElem?_eq_getElem (show xsA.length - 2 < xsA.length by omega), List.getElem?_eq_getElem (show xsA.length - 1 < xsA.length by omega), List.getElem?_eq_getElem (show xsB.length - 1 < xsB.length by omega)]
    simp only [Option.getD_some, hRR, hII, hCC, Int.toNat_natCast]
    rw [sumAt_sumP]
end Go.Proofs.YtddhhfhammmaaaaGreat
