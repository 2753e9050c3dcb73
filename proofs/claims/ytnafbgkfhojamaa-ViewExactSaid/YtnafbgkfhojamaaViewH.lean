/- Walks: views written over; what a slice of a view is. -/
import Derived.Test.YtnafbgkfhojamaaViewG
import Derived.Test.YtnafbgkfhojamaaViewBP
import Derived.Test.YtnafbgkfhojamaaViewBS
set_option linter.unusedVariables false
set_option linter.unusedSimpArgs false
namespace Go.Proofs.Ytnafbgkfhojamaa
open Go.RowKit Go.Rt
/-- A slice of one, of a view, is a view. -/
theorem viewB_slice {sh st : List Int} {off n : Int} {a : Nat} {k : Int} (hv : viewB sh st off n = true) (ha : a < sh.length) (hk : 0 ≤ k ∧ k < sh[a]) : viewB (sh.set a 1) st (off + k * (st[a]?.getD 0)) n = true := by
  obtain ⟨h1, h2, h3, h4, h5, h6, h7⟩ := viewB_iff.1 hv
  obtain ⟨g1, g2, g3⟩ := goodB_iff.1 h1
  have ha2 : a < st.length := by omega
  have hs := h6 _ (List.getElem_mem ha2)
  have hge : st[a]?.getD 0 = st[a] := by rw [List.getElem?_eq_getElem ha2]; rfl
  have hp1 : 0 ≤ k * st[a] := Int.mul_nonneg hk.1 hs.1
  have hp2 : k * st[a] ≤ (sh[a] - 1) * st[a] := Int.mul_le_mul_of_nonneg_right (by omega) hs.1
  have ht : ∀ (xs ys : List Int) (i : Nat) (hi : i < xs.length) (hj : i < ys.length), topV (xs.set i 1) ys = topV xs ys - ys[i] * (xs[i] - 1) := by
    intro xs
    induction xs with
    | nil => intro ys i hi; simp at hi
    | cons x xs ih =>
      intro ys i hi hj
      cases ys with
      | nil => simp at hj
      | cons y ys =>
        cases i with
        | zero => simp [topV]; omega
        | succ i =>
          have := ih ys i (by simpa using hi) (by simpa using hj)
          simp only [List.set_cons_succ, topV, this, List.getElem_cons_succ]
          omega
  have ht2 := ht sh st a ha ha2
  have hc : st[a] * (sh[a] - 1) = (sh[a] - 1) * st[a] := Int.mul_comm _ _
  have hD := dims_set g2 a
  have hle : prodI (sh.set a 1) ≤ prodI sh := by
    rw [prodI_set_one sh a ha, prodI_split sh a, prodI_drop_succ sh a ha]
    have q1 := (g2.take a).pos
    have q2 := (g2.drop (a + 1)).pos
    have q3 := (g2.at ha).1
    refine Int.mul_le_mul_of_nonneg_left ?_ (by omega)
    have := Int.mul_le_mul_of_nonneg_right (show (1 : Int) ≤ sh[a] by omega) (show (0 : Int) ≤ prodI (sh.drop (a + 1)) by omega)
    omega
  rw [hge]
  have htn := topV_nonneg (sh.set a 1) st hD (fun x hx => (h6 x hx).1)
  refine viewB_iff.2 ⟨goodB_iff.2 ⟨by rw [List.length_set]; exact g1, hD, by omega⟩, by rw [List.length_set]; exact h2, by omega, h4, by omega, h6, by omega⟩
end Go.Proofs.Ytnafbgkfhojamaa
