/- The reference's turned tensor is the program's: the plain law. -/
import Derived.Test.YtddhhfhammmaaaaGreatMView
import Derived.Test.YtddhhfhammmaaaaGreatMXP
set_option linter.unusedVariables false
set_option linter.unusedSimpArgs false
namespace Go.Proofs.YtddhhfhammmaaaaGreat
open Go.RowKit Go.Rt

/-- The axes, the last two changed. -/
def axT (n : Nat) : List Int := (List.range (n - 2)).map (fun i : Nat => (i : Int)) ++ [((n - 1 : Nat) : Int), ((n - 2 : Nat) : Int)]
theorem axT_len (n : Nat) (h : 2 ≤ n) : (axT n).length = n := by unfold axT; simp; omega
theorem axT_axes (n : Nat) (h : 2 ≤ n) (h4 : n ≤ 4) : axesB (axT n) n = true := by
  rcases (show n = 2 ∨ n = 3 ∨ n = 4 by omega) with rfl | rfl | rfl <;> decide
theorem permL_axT (xs : List Int) (n : Nat) (hn : xs.length = n) (h2 : 2 ≤ n) : permL xs (axT n) = xs.take (n - 2) ++ [xs[n - 1]?.getD 0, xs[n - 2]?.getD 0] := by
  unfold permL axT
  rw [List.map_append, List.map_map]
  congr 1
  apply List.ext_getElem
  · simp; omega
  · intro i h1 h3
    simp at h1 h3
    simp [List.getElem?_eq_getElem (show i < xs.length by omega)]
theorem permL_swap (xs : List Int) (h2 : 2 ≤ xs.length) : permL xs (axT xs.length) = swapL xs := by
  rw [permL_axT xs _ rfl h2, swapL_eq xs h2, List.getElem?_eq_getElem (show xs.length - 1 < xs.length by omega), List.getElem?_eq_getElem (show xs.length - 2 < xs.length by omega)]
  rfl
theorem strI_two : ∀ (p : List Int) (a b : Int), ∃ S, strI (p ++ [a, b]) = S ++ [b, 1] ∧ S.length = p.length
  | [], a, b => ⟨[], by simp [strI, prodI], rfl⟩
  | x :: p, a, b => by
    obtain ⟨S, h1, h2⟩ := strI_two p a b
    exact ⟨prodI (p ++ [a, b]) :: S, by simp only [List.cons_append, strI, h1], by simp [h2]⟩
theorem dotI_app : ∀ (a b x y : List Int), b.length = a.length → dotI (a ++ x) (b ++ y) = dotI a b + dotI x y
  | [], [], x, y, _ => by simp [dotI]
  | u :: a, v :: b, x, y, h => by
    have := dotI_app a b x y (by simpa using h)
    simp only [List.cons_append, dotI, this]
    omega
  | [], _ :: _, _, _, h => by simp at h
  | _ :: _, [], _, _, h => by simp at h
theorem topV_app : ∀ (a b x y : List Int), b.length = a.length → topV (a ++ x) (b ++ y) = topV a b + topV x y
  | [], [], x, y, _ => by simp [topV]
  | u :: a, v :: b, x, y, h => by
    have := topV_app a b x y (by simpa using h)
    simp only [List.cons_append, topV, this]
    omega
  | [], _ :: _, _, _, h => by simp at h
  | _ :: _, [], _, _, h => by simp at h
theorem topV_str : ∀ xs : List Int, topV xs (strI xs) = prodI xs - 1
  | [] => by simp [topV, prodI]
  | d :: r => by
    have := topV_str r
    simp only [strI, topV, this, prodI]
    rw [Int.mul_sub, Int.mul_one, Int.mul_comm (prodI r) d]
    omega

/-- The turned view: shape, strides, places. -/
theorem turn_view {xs ys : List Int} (ht : tenB xs ys = true) (h2 : 2 ≤ xs.length) :
    viewB (swapL xs) (permL (strI xs) (axT xs.length)) 0 ys.length = true ∧ wordsV (swapL xs) (permL (strI xs) (axT xs.length)) 0 ys = turnL xs ys := by
  obtain ⟨P, R, C, hTS⟩ := turnShape_of ht h2
  obtain ⟨g, l, _⟩ := tenB_iff.1 ht
  have hSG := swapL_good g h2
  have d := goodB_dims g
  have h4 := (goodB_iff.1 g).1
  have hR : xs[xs.length - 2] = (R : Int) := by have := hTS.eR; rwa [List.getElem?_eq_getElem (by omega), Option.getD_some] at this
  have hC : xs[xs.length - 1] = (C : Int) := by have := hTS.eC; rwa [List.getElem?_eq_getElem (by omega), Option.getD_some] at this
  have eA : xs = xs.take (xs.length - 2) ++ [(R : Int), (C : Int)] := by
    conv => lhs; rw [last2 xs h2, hR, hC]
  have eT : swapL xs = xs.take (xs.length - 2) ++ [(C : Int), (R : Int)] := by rw [swapL_eq xs h2, hR, hC]
  obtain ⟨p, hp⟩ : ∃ p, xs.take (xs.length - 2) = p := ⟨_, rfl⟩
  have hpl : p.length = xs.length - 2 := by rw [← hp]; simp
  rw [hp] at eA eT
  obtain ⟨S, eS, hSl⟩ := strI_two p (R : Int) (C : Int)
  rw [← eA] at eS
  have hsl := strI_length xs
  have eP : permL (strI xs) (axT xs.length) = S ++ [1, (C : Int)] := by
    rw [permL_axT _ xs.length hsl h2, eS, show xs.length - 2 = S.length by omega, show xs.length - 1 = S.length + 1 by omega]
    simp
  have htop : topV (swapL xs) (S ++ [1, (C : Int)]) = (ys.length : Int) - 1 := by
    have h1 := topV_str xs
    rw [eS] at h1
    conv at h1 => lhs; rw [eA]
    rw [topV_app _ _ _ _ (by omega)] at h1
    rw [eT, topV_app _ _ _ _ (by omega), l]
    simp only [topV] at h1 ⊢
    have e : ((C : Int) - 1) * 1 + ((R : Int) - 1) * C = ((R : Int) - 1) * C + ((C : Int) - 1) * 1 := by omega
    omega
  have hyl := hTS.len
  have hyb := hTS.bd
  have hP1 := hTS.p1
  have hRC1 : 1 ≤ R * C := Nat.mul_le_mul hTS.r1 hTS.c1
  have hy1 : 1 ≤ P * (R * C) := Nat.mul_le_mul hP1 hRC1
  rw [eP]
  refine ⟨viewB_iff.2 ⟨hSG.1, ?_, Int.le_refl _, by omega, by omega, ?_, by rw [htop]; omega⟩, ?_⟩
  · rw [swapL_len, List.length_append, hSl, hpl]; simp; omega
  · intro x hx
    have hm : x ∈ strI xs := by
      rw [eS]
      simp at hx ⊢
      rcases hx with h | h | h
      · exact .inl h
      · exact .inr (.inr h)
      · exact .inr (.inl h)
    have := strI_mem d (goodB_prod g).2 x hm
    exact ⟨by omega, this.2⟩
  · unfold wordsV
    rw [turnL_eq hTS, hSG.2, ← l, Int.toNat_natCast]
    apply List.map_congr_left
    intro k hk
    rw [List.mem_range] at hk
    congr 2
    have hd := goodB_dims hSG.1
    have hw := standsI_within (swapL xs) (k : Int) hd
    have hpl2 := placeI_stands (swapL xs) (k : Int) hd
    rw [hSG.2, ← l, Int.emod_eq_of_lt (by omega) (by omega)] at hpl2
    have hln := standsI_length (swapL xs) (k : Int)
    rw [swapL_len] at hln
    unfold atV
    obtain ⟨is, his⟩ : ∃ l, standsI (swapL xs) (k : Int) = l := ⟨_, rfl⟩
    rw [his] at hw hpl2 hln ⊢
    obtain ⟨c, r, eis⟩ : ∃ c r, is = is.take (xs.length - 2) ++ [c, r] := by
      obtain ⟨c, r, h, _⟩ := last2e is xs.length hln h2
      exact ⟨c, r, h⟩
    obtain ⟨q, hq⟩ : ∃ q, is.take (xs.length - 2) = q := ⟨_, rfl⟩
    have hql : q.length = p.length := by rw [← hq, hpl, List.length_take]; omega
    rw [hq] at eis
    rw [eT, eis, within3 p q _ _ _ _ hql] at hw
    rw [eT, eis, place3 p q _ _ _ _ hql] at hpl2
    obtain ⟨w1, ⟨c1, c2⟩, r1, r2⟩ := hw
    have hpb := placeI_bound p q (fun x hx => d x (by rw [eA]; exact List.mem_append_left _ hx)) w1
    obtain ⟨c, rfl⟩ : ∃ c' : Nat, c = c' := ⟨c.toNat, by omega⟩
    obtain ⟨r, rfl⟩ : ∃ r' : Nat, r = r' := ⟨r.toNat, by omega⟩
    obtain ⟨m, hm⟩ : ∃ m : Nat, placeI p q = m := ⟨(placeI p q).toNat, by omega⟩
    have hs := dotI_str xs (q ++ [(r : Int), (c : Int)]) (by simp; omega)
    rw [eS, dotI_app _ _ _ _ (by omega)] at hs
    conv at hs => rhs; rw [eA]
    rw [place3 p q _ _ _ _ hql, hm] at hs
    rw [eis, dotI_app _ _ _ _ (by omega)]
    rw [hm] at hpl2
    simp only [dotI] at hs ⊢
    have hk2 : (m * C + c) * R + r = k := by
      have : (((m * C + c) * R + r : Nat) : Int) = (k : Int) := by rw [← hpl2]; simp
      omega
    have hrR : r < R := by omega
    have hcr : c * R + r < R * C := by
      have h1 : (c + 1) * R ≤ C * R := Nat.mul_le_mul_right R (by omega)
      rw [Nat.add_mul, Nat.one_mul, Nat.mul_comm C] at h1
      omega
    have hk4 : (m * C + c) * R = R * C * m + c * R := by rw [Nat.add_mul, Nat.mul_comm (m * C) R, Nat.mul_comm m C, Nat.mul_assoc R C m]
    have hk3 : (R * C) * m + (c * R + r) = k := by rw [← hk2, hk4, Nat.add_assoc]
    have d1 : k / (R * C) = m := by rw [← hk3, Nat.mul_add_div (by omega), Nat.div_eq_of_lt hcr, Nat.add_zero]
    have d2 : k % (R * C) = c * R + r := by rw [← hk3, Nat.mul_add_mod, Nat.mod_eq_of_lt hcr]
    have d3 : (c * R + r) % R = r := by rw [Nat.add_comm, Nat.add_mul_mod_self_right, Nat.mod_eq_of_lt hrR]
    have d4 : (c * R + r) / R = c := by rw [Nat.add_comm, Nat.add_mul_div_right _ _ (by omega), Nat.div_eq_of_lt hrR, Nat.zero_add]
    unfold turnI
    rw [d1, d2, d3, d4]
    have e1 : ((m * (R * C) + r * C + c : Nat) : Int) = ((m : Int) * R + r) * C + c := by simp [Int.add_mul, Int.mul_assoc]
    have e2 : 0 + (dotI q S + ((c : Int) * 1 + ((r : Int) * C + 0))) = ((m * (R * C) + r * C + c : Nat) : Int) := by rw [e1, ← hs]; omega
    rw [e2, Int.toNat_natCast]
end Go.Proofs.YtddhhfhammmaaaaGreat
