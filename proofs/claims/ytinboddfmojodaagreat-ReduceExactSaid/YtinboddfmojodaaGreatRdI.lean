/- Plain laws of indexes without axes. No walk. -/
import Derived.Test.YtinboddfmojodaaGreatRdF
set_option linter.unusedVariables false
set_option linter.unusedSimpArgs false
namespace Go.Proofs.YtinboddfmojodaaGreat
open Go.RowKit Go.Rt
theorem inB_iff {l : List Int} {n : Int} : inB l n = true ↔ n ∈ l := by simp [inB]
theorem restL_congr {l axes axes' : List Int} (h : ∀ i : Nat, i < l.length → inB axes (i : Int) = inB axes' (i : Int)) : restL l axes = restL l axes' := by
  unfold restL restJ
  rw [List.filter_congr fun i hi => by rw [h i (List.mem_range.1 hi)]]
theorem restL_none {l axes : List Int} (h : ∀ i : Nat, i < l.length → inB axes (i : Int) = false) : restL l axes = l := by
  unfold restL restJ
  rw [List.filter_eq_self.2 fun i hi => by rw [h i (List.mem_range.1 hi)]; rfl]
  exact range_self l
theorem restL_nil (l : List Int) : restL l [] = l := restL_none fun _ _ => rfl
theorem inB_down (axes : List Int) (i : Int) : inB (axes.map fun x => x - 1) i = inB axes (i + 1) := by
  rw [Bool.eq_iff_iff, inB_iff, inB_iff, List.mem_map]
  constructor
  · rintro ⟨x, hx, rfl⟩
    rwa [show x - 1 + 1 = x by omega]
  · intro h
    exact ⟨i + 1, h, by omega⟩
theorem restL_cons (x : Int) (t axes : List Int) : restL (x :: t) axes = if inB axes 0 = true then restL t (axes.map fun x => x - 1) else x :: restL t (axes.map fun x => x - 1) := by
  have e : ((List.range t.length).map Nat.succ).filter (fun (i : Nat) => !inB axes (i : Int)) = ((List.range t.length).filter fun (i : Nat) => !inB (axes.map fun x => x - 1) (i : Int)).map Nat.succ := by
    rw [List.filter_map]
    congr 1
    refine List.filter_congr fun i _ => ?_
    simp only [Function.comp, inB_down]
    rw [show ((Nat.succ i : Nat) : Int) = (i : Int) + 1 by omega]
  have e2 : ∀ L : List Nat, (L.map Nat.succ).map (fun (i : Nat) => (x :: t)[i]?.getD 0) = L.map fun (i : Nat) => t[i]?.getD 0 := fun L => by
    rw [List.map_map]
    refine List.map_congr_left fun i _ => ?_
    simp
  unfold restL restJ
  rw [List.length_cons, List.range_succ_eq_map, List.filter_cons]
  have h0 : ((0 : Nat) : Int) = 0 := rfl
  rw [h0]
  cases inB axes 0 with
  | true => simp only [Bool.not_true, Bool.false_eq_true, if_false, if_true, e, e2]
  | false =>
    simp only [Bool.not_false, if_true, Bool.false_eq_true, if_false, List.map_cons, e, e2]
    simp
theorem restL_rest : ∀ (l : List Int) (lo hi : Nat), lo < hi → restL (restL l [(hi : Int)]) [(lo : Int)] = restL l [(lo : Int), (hi : Int)]
  | [], _, _, _ => rfl
  | x :: t, lo, hi, h => by
    have h1 : inB [(hi : Int)] 0 = false := by simp [inB]; omega
    rw [restL_cons x t [(hi : Int)], h1]
    simp only [Bool.false_eq_true, if_false, List.map_cons, List.map_nil]
    rw [restL_cons x _ [(lo : Int)], restL_cons x t [(lo : Int), (hi : Int)]]
    obtain ⟨hi, rfl⟩ : ∃ k, hi = k + 1 := ⟨hi - 1, by omega⟩
    rw [show ((hi + 1 : Nat) : Int) - 1 = (hi : Int) by omega]
    by_cases h0 : lo = 0
    · subst h0
      have h2 : inB [((0 : Nat) : Int)] 0 = true := rfl
      have h3 : inB [((0 : Nat) : Int), ((hi + 1 : Nat) : Int)] 0 = true := by simp [inB]
      rw [if_pos h2, if_pos h3]
      simp only [List.map_cons, List.map_nil]
      rw [restL_none fun i _ => by simp [inB]]
      refine restL_congr fun i _ => ?_
      rw [Bool.eq_iff_iff, inB_iff, inB_iff]
      simp only [List.mem_cons, List.not_mem_nil, or_false]
      omega
    · obtain ⟨lo, rfl⟩ : ∃ k, lo = k + 1 := ⟨lo - 1, by omega⟩
      have h2 : ¬ inB [((lo + 1 : Nat) : Int)] 0 = true := by simp [inB]; omega
      have h3 : ¬ inB [((lo + 1 : Nat) : Int), ((hi + 1 : Nat) : Int)] 0 = true := by simp [inB]; omega
      rw [if_neg h2, if_neg h3]
      simp only [List.map_cons, List.map_nil]
      rw [show ((lo + 1 : Nat) : Int) - 1 = (lo : Int) by omega, show ((hi + 1 : Nat) : Int) - 1 = (hi : Int) by omega, restL_rest t lo hi (by omega)]
theorem into_nil {s : List Int} {n : Int} (h : goodB s = true) (h0 : 0 ≤ n) (h1 : n < prodI s) : intoI s [] n = n := by
  unfold intoI
  rw [restL_nil, restL_nil, placeI_stands s n (goodB_dims h), Int.emod_eq_of_lt h0 h1]
theorem into_stands {s : List Int} (axes : List Int) (n : Int) (h : goodB s = true) : standsI (restL s axes) (intoI s axes n) = restL (standsI s n) axes :=
  stands_place _ _ (goodB_dims (restL_good h)) (restL_within (standsI_within s n (goodB_dims h)))
theorem into_into {s : List Int} (lo hi : Nat) (n : Int) (h : goodB s = true) (hl : lo < hi) : intoI (restL s [(hi : Int)]) [(lo : Int)] (intoI s [(hi : Int)] n) = intoI s [(lo : Int), (hi : Int)] n := by
  have e := into_stands [(hi : Int)] n h
  unfold intoI at e ⊢
  rw [e, restL_rest _ _ _ hl, restL_rest _ _ _ hl]
theorem restL_one : ∀ (l : List Int) (a : Nat), restL l [(a : Int)] = l.eraseIdx a
  | [], a => rfl
  | x :: t, 0 => by
    rw [restL_cons, if_pos (by rfl)]
    simp only [List.map_cons, List.map_nil]
    rw [restL_none fun i _ => by simp [inB]]
    rfl
  | x :: t, a + 1 => by
    rw [restL_cons, if_neg (by simp [inB]; omega)]
    simp only [List.map_cons, List.map_nil]
    rw [show ((a + 1 : Nat) : Int) - 1 = (a : Int) by omega, restL_one t a]
    rfl
theorem erase_set : ∀ (l : List Int) (a : Nat) (v : Int), (l.set a v).eraseIdx a = l.eraseIdx a
  | [], _, _ => rfl
  | _ :: _, 0, _ => rfl
  | x :: t, a + 1, v => by rw [List.set_cons_succ, List.eraseIdx_cons_succ, List.eraseIdx_cons_succ, erase_set t a v]
theorem erase_inj : ∀ (l m : List Int) (a : Nat), a < l.length → l.length = m.length → l.eraseIdx a = m.eraseIdx a → m = l.set a (m[a]?.getD 0)
  | [], _, _, h, _, _ => absurd h (by simp)
  | x :: t, [], _, _, h, _ => absurd h (by simp)
  | x :: t, y :: u, 0, _, _, h => by
    simp only [List.eraseIdx_cons_zero] at h
    subst h
    simp
  | x :: t, y :: u, a + 1, h1, h2, h => by
    simp only [List.eraseIdx_cons_succ, List.cons.injEq] at h
    obtain ⟨rfl, h⟩ := h
    have := erase_inj t u a (by simpa using h1) (by simpa using h2) h
    rw [List.set_cons_succ]
    simp only [List.getElem?_cons_succ]
    rw [← this]
theorem placeI_set1 : ∀ (S L : List Int) (k : Nat) (v : Int), L.length = S.length → k < S.length → placeI S (L.set k v) = placeI S L + (v - L[k]?.getD 0) * prodI (S.drop (k + 1))
  | [], _, _, _, _, h => absurd h (by simp)
  | _ :: _, [], _, _, h, _ => absurd h (by simp)
  | d :: r, i :: s, 0, v, _, _ => by
    simp only [List.set_cons_zero, placeI, List.getElem?_cons_zero, Option.getD_some, List.drop_succ_cons, List.drop_zero]
    rw [Int.sub_mul]
    omega
  | d :: r, i :: s, k + 1, v, hl, hk => by
    have ih := placeI_set1 r s k v (by simpa using hl) (by simpa using hk)
    simp only [List.set_cons_succ, placeI, List.getElem?_cons_succ, List.drop_succ_cons]
    rw [ih]
    omega
/-- Where the word n stands on the axis a. -/
def hereI (s : List Int) (a : Nat) (n : Nat) : Int := (standsI s (n : Int))[a]?.getD 0
theorem here_bound {s : List Int} {a n : Nat} (h : goodB s = true) (ha : a < s.length) : 0 ≤ hereI s a n ∧ hereI s a n < s[a]?.getD 0 :=
  (withinB_iff.1 (standsI_within s (n : Int) (goodB_dims h))).2 a ha
theorem into_eq {s : List Int} {a m n : Nat} (h : goodB s = true) (ha : a < s.length) (hm : (m : Int) < prodI s) (hn : (n : Int) < prodI s) (he : intoI s [(a : Int)] m = intoI s [(a : Int)] n) :
    (m : Int) = n + (hereI s a m - hereI s a n) * prodI (s.drop (a + 1)) := by
  have hd := goodB_dims h
  have e1 := into_stands [(a : Int)] (m : Int) h
  have e2 := into_stands [(a : Int)] (n : Int) h
  rw [he, e2, restL_one, restL_one] at e1
  have e3 := erase_inj (standsI s (n : Int)) (standsI s (m : Int)) a (by rw [standsI_length]; exact ha) (by rw [standsI_length, standsI_length]) e1
  have e4 := placeI_set1 s (standsI s (n : Int)) a (hereI s a m) (standsI_length _ _) ha
  have e5 : (standsI s (n : Int)).set a (hereI s a m) = standsI s (m : Int) := e3.symm
  rw [e5, placeI_stands s _ hd, placeI_stands s _ hd, Int.emod_eq_of_lt (by omega) hm, Int.emod_eq_of_lt (by omega) hn] at e4
  exact e4
theorem here_lt {s : List Int} {a m n : Nat} (h : goodB s = true) (ha : a < s.length) (hmn : m < n) (hn : (n : Int) < prodI s) (he : intoI s [(a : Int)] m = intoI s [(a : Int)] n) : hereI s a m < hereI s a n := by
  have e := into_eq h ha (by omega) hn he
  have hp := ((goodB_dims h).drop (a + 1)).pos
  by_cases hc : hereI s a m < hereI s a n
  · exact hc
  · have := Int.mul_nonneg (show 0 ≤ hereI s a m - hereI s a n by omega) (show 0 ≤ prodI (s.drop (a + 1)) by omega)
    omega
theorem here_before {s : List Int} {a n : Nat} (h : goodB s = true) (ha : a < s.length) (hn : (n : Int) < prodI s) (h0 : hereI s a n ≠ 0) : ∃ m : Nat, m < n ∧ intoI s [(a : Int)] m = intoI s [(a : Int)] n := by
  have hd := goodB_dims h
  have hb := here_bound (n := n) h ha
  have hp := (hd.drop (a + 1)).pos
  have e4 := placeI_set1 s (standsI s (n : Int)) a (hereI s a n - 1) (standsI_length _ _) ha
  rw [placeI_stands s _ hd, Int.emod_eq_of_lt (by omega) hn] at e4
  have hh : (standsI s (n : Int))[a]?.getD 0 = hereI s a n := rfl
  rw [hh, show hereI s a n - 1 - hereI s a n = -1 by omega] at e4
  have hw : withinB s ((standsI s (n : Int)).set a (hereI s a n - 1)) = true := by
    have hw0 := withinB_iff.1 (standsI_within s (n : Int) hd)
    refine withinB_iff.2 ⟨by rw [List.length_set]; exact hw0.1, fun k hk => ?_⟩
    by_cases hka : k = a
    · subst hka
      rw [List.getElem?_set_self (by rw [standsI_length]; exact hk), Option.getD_some]
      omega
    · rw [List.getElem?_set_ne (by omega)]
      exact hw0.2 k hk
  have hpb := placeI_bound _ _ hd hw
  obtain ⟨P, hP⟩ : ∃ P, placeI s ((standsI s (n : Int)).set a (hereI s a n - 1)) = P := ⟨_, rfl⟩
  have hst := stands_place _ _ hd hw
  rw [hP] at e4 hpb hst
  refine ⟨P.toNat, by omega, ?_⟩
  rw [show ((P.toNat : Nat) : Int) = P by omega]
  unfold intoI
  rw [hst, restL_one (List.set _ _ _), erase_set, ← restL_one]
end Go.Proofs.YtinboddfmojodaaGreat
