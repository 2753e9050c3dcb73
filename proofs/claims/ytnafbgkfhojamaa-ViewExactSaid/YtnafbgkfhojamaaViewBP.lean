/- Views: plain laws: laid back, transposed back. No program in sight. -/
import Derived.Test.YtnafbgkfhojamaaViewA
set_option linter.unusedVariables false
set_option linter.unusedSimpArgs false
namespace Go.Proofs.Ytnafbgkfhojamaa
open Go.RowKit Go.Rt
theorem words_places (sh st : List Int) (off : Int) (data : List Int) : wordsV sh st off data = (placesV sh st off).map fun p => data[p.toNat]?.getD 0 := by simp [wordsV, placesV]
theorem set_same (l : List Int) (i : Nat) (h : i < l.length) : l.set i (l[i]?.getD 0) = l := by
  apply List.ext_getElem?
  intro j
  by_cases hj : i = j
  · subst hj
    rw [List.getElem?_set_self h, List.getElem?_eq_getElem h]; rfl
  · rw [List.getElem?_set_ne hj]
theorem layP_back (l : List Int) : ∀ ps : List Int, (∀ p ∈ ps, p.toNat < l.length) → layP l ps (ps.map fun p => l[p.toNat]?.getD 0) = l
  | [], _ => rfl
  | p :: ps, h => by
    rw [List.map_cons, layP, set_same l _ (h p (List.mem_cons_self ..))]
    exact layP_back l ps (fun q hq => h q (List.mem_cons_of_mem _ hq))
/-- What is copied out and laid in again changes nothing. -/
theorem lay_words {sh st data : List Int} {off : Int} (hv : viewB sh st off data.length = true) : layV sh st off (wordsV sh st off data) data = data := by
  unfold layV
  rw [words_places]
  refine layP_back data _ (fun p hp => ?_)
  obtain ⟨k, _, rfl⟩ := List.mem_map.1 hp
  have := atV_bound (n := (k : Int)) hv
  omega
/-- The numbers in their own order. -/
theorem permL_range (xs : List Int) : permL xs ((List.range xs.length).map fun k : Nat => (k : Int)) = xs := by
  unfold permL
  apply List.ext_getElem?
  intro i
  by_cases hi : i < xs.length
  · simp [hi]
  · rw [List.getElem?_eq_none (by simp; omega), List.getElem?_eq_none (by omega)]
theorem once_perm {n : Nat} {axs : List Int} (h : Once n axs) : axs.Perm ((List.range n).map fun k : Nat => (k : Int)) :=
  perm_of_sub _ _ h.nodup (fun x hx => by
    have := h.bnd x hx
    exact List.mem_map.2 ⟨x.toNat, List.mem_range.2 (by omega), by omega⟩) (by simp [h.len])
theorem permL_perm {xs axs : List Int} (h : Once xs.length axs) : (permL xs axs).Perm xs := by
  have := (once_perm h).map fun i : Int => xs[i.toNat]?.getD 0
  have h2 := permL_range xs
  unfold permL at h2 ⊢
  rw [h2] at this
  exact this
theorem prodI_perm : ∀ {xs ys : List Int}, xs.Perm ys → prodI xs = prodI ys
  | _, _, .nil => rfl
  | _, _, .cons x h => by simp [prodI, prodI_perm h]
  | _, _, .swap x y l => by simp only [prodI]; rw [← Int.mul_assoc, ← Int.mul_assoc, Int.mul_comm y x]
  | _, _, .trans h k => (prodI_perm h).trans (prodI_perm k)
theorem goodB_permL {xs axs : List Int} (h : Once xs.length axs) (hg : goodB xs = true) : goodB (permL xs axs) = true := by
  have hp := permL_perm h
  obtain ⟨h1, h2, h3⟩ := goodB_iff.1 hg
  exact goodB_iff.2 ⟨by rw [hp.length_eq]; exact h1, fun d hd => h2 d (hp.mem_iff.1 hd), by rw [prodI_perm hp]; exact h3⟩
/-- The last word's place as a sum over the axes. -/
def topS (xs ys axs : List Int) : Int := (axs.map fun i => ys[i.toNat]?.getD 0 * (xs[i.toNat]?.getD 0 - 1)).sum
theorem topV_permL (xs ys : List Int) : ∀ axs : List Int, topV (permL xs axs) (permL ys axs) = topS xs ys axs
  | [] => rfl
  | a :: l => by
    have h := topV_permL xs ys l
    unfold permL topS at h ⊢
    simp only [List.map_cons, topV, List.sum_cons, h]
theorem sumI_perm : ∀ {xs ys : List Int}, xs.Perm ys → xs.sum = ys.sum
  | _, _, .nil => rfl
  | _, _, .cons x h => by simp [sumI_perm h]
  | _, _, .swap x y l => by simp only [List.sum_cons]; omega
  | _, _, .trans h k => (sumI_perm h).trans (sumI_perm k)
/-- A transposed view is a view of as many words. -/
theorem viewB_permL {sh st axs : List Int} {off n : Int} (h : Once sh.length axs) (hv : viewB sh st off n = true) : viewB (permL sh axs) (permL st axs) off n = true := by
  obtain ⟨h1, h2, h3, h4, h5, h6, h7⟩ := viewB_iff.1 hv
  have ht : topV (permL sh axs) (permL st axs) = topV sh st := by
    rw [topV_permL]
    have e1 := topV_permL sh st ((List.range sh.length).map fun k : Nat => (k : Int))
    rw [permL_range sh, ← h2, permL_range st] at e1
    rw [e1, h2]
    unfold topS
    exact sumI_perm ((once_perm h).map _)
  refine viewB_iff.2 ⟨goodB_permL h h1, by rw [permL_len, permL_len], h3, h4, h5, fun x hx => ?_, by rw [ht]; exact h7⟩
  have hp : (permL st axs).Perm st := permL_perm (by rw [h2]; exact h)
  exact h6 x (hp.mem_iff.1 hx)
/-- Transposed there and back. -/
theorem permL_back {xs axs bk : List Int} (h : Once xs.length axs) (hb : bk.length = xs.length) (hbk : ∀ k (hk : k < axs.length), bk[axs[k].toNat]?.getD 0 = (k : Int)) : permL (permL xs axs) bk = xs := by
  apply List.ext_getElem?
  intro i
  by_cases hi : i < xs.length
  · have hmem : (i : Int) ∈ axs := (once_perm h).mem_iff.2 (List.mem_map.2 ⟨i, List.mem_range.2 hi, rfl⟩)
    obtain ⟨k, hk, hk2⟩ := List.getElem_of_mem hmem
    have h1 := hbk k hk
    rw [hk2, Int.toNat_natCast] at h1
    unfold permL
    rw [List.getElem?_map, List.getElem?_eq_getElem (by omega), List.getElem?_eq_getElem hi]
    rw [List.getElem?_eq_getElem (by omega), Option.getD_some] at h1
    simp only [Option.map_some, h1, Int.toNat_natCast]
    rw [List.getElem?_map, List.getElem?_eq_getElem hk, hk2]
    simp [hi]
  · rw [List.getElem?_eq_none (by rw [permL_len]; omega), List.getElem?_eq_none (by omega)]
end Go.Proofs.Ytnafbgkfhojamaa
