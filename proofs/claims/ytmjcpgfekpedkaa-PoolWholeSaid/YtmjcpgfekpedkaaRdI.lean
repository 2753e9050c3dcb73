/- Plain laws of indexes without axes. No walk. -/
import Derived.Test.YtmjcpgfekpedkaaRdF
set_option linter.unusedVariables false
set_option linter.unusedSimpArgs false
namespace Go.Proofs.Ytmjcpgfekpedkaa
open Go.RowKit Go.Rt
theorem inB_iff {l : List Int} {n : Int} : inB l n = true ↔ n ∈ l := by simp [inB]
theorem restL_none {l axes : List Int} (h : ∀ i : Nat, i < l.length → inB axes (i : Int) = false) : restL l axes = l := by
  unfold restL restJ
  rw [List.filter_eq_self.2 fun i hi => by rw [h i (List.mem_range.1 hi)]; rfl]
  exact range_self l
theorem inB_down (axes : List Int) (i : Int) : inB (axes.map fun x => x - 1) i = inB axes (i + 1) := by
  rw [Bool.eq_iff_iff, inB_iff, inB_iff, List.mem_map]
  constructor
  · rintro ⟨x, hx, rfl⟩
    rwa [show x - 1 + 1 = x by omega]
  · intro h
    exact ⟨i + 1, h, by omega⟩
theorem restL_cons (x : Int) (t axes : List Int) : restL (x :: t) axes = if inB axes 0 = true then restL t (axes.map fun x => x - 1) else x :: restL t (axes.map fun x => x - 1) := by
  have e : ((List.range t.length).map Nat.succ).filter (fun (i : Nat) => !inB axes (i : Int)) = ((List.range t.length).filter fun (i : Nat) => !inB (axes.map fun x => x - 1) (i : Int)).map Nat.succ := by
    rw [List.filter_map]
    congr 1
    refine List.filter_congr fun i _ => ?_
    simp only [Function.comp, inB_down]
    rw [show ((Nat.succ i : Nat) : Int) = (i : Int) + 1 by omega]
  have e2 : ∀ L : List Nat, (L.map Nat.succ).map (fun (i : Nat) => (x :: t)[i]?.getD 0) = L.map fun (i : Nat) => t[i]?.getD 0 := fun L => by
    rw [List.map_map]
    refine List.map_congr_left fun i _ => ?_
    simp
  unfold restL restJ
  rw [List.length_cons, List.range_succ_eq_map, List.filter_cons]
  have h0 : ((0 : Nat) : Int) = 0 := rfl
  rw [h0]
  cases inB axes 0 with
  | true => simp only [Bool.not_true, Bool.false_eq_true, if_false, if_true, e, e2]
  | false =>
    simp only [Bool.not_false, if_true, Bool.false_eq_true, if_false, List.map_cons, e, e2]
    simp
theorem restL_one : ∀ (l : List Int) (a : Nat), restL l [(a : Int)] = l.eraseIdx a
  | [], a => rfl
  | x :: t, 0 => by
    rw [restL_cons, if_pos (by rfl)]
    simp only [List.map_cons, List.map_nil]
    rw [restL_none fun i _ => by simp [inB]]
    rfl
  | x :: t, a + 1 => by
    rw [restL_cons, if_neg (by simp [inB]; omega)]
    simp only [List.map_cons, List.map_nil]
    rw [show ((a + 1 : Nat) : Int) - 1 = (a : Int) by omega, restL_one t a]
    rfl
/-- Where the word n stands on the axis a. -/
def hereI (s : List Int) (a : Nat) (n : Nat) : Int := (standsI s (n : Int))[a]?.getD 0
theorem here_bound {s : List Int} {a n : Nat} (h : goodB s = true) (ha : a < s.length) : 0 ≤ hereI s a n ∧ hereI s a n < s[a]?.getD 0 :=
  (withinB_iff.1 (standsI_within s (n : Int) (goodB_dims h))).2 a ha
end Go.Proofs.Ytmjcpgfekpedkaa
