/- Strides of a widened view; two rows changed about. No program in sight. -/
import Derived.Test.YtnafbgkfhojamaaViewP
import Derived.Test.YtnafbgkfhojamaaFrJ
set_option linter.unusedVariables false
set_option linter.unusedSimpArgs false
namespace Go.Rt
open Go.RowKit
theorem Fr.swapO {lo : Nat} {w wr : World} {B : List (Nat × List Value)} {I : List (IntKind × Option Addr × List Int)} {M : List (Nat × Obj)} {p q : Row} (h : Fr lo w wr B I [p, q] M) : Fr lo w wr B I [q, p] M :=
  ⟨h.hlo, h.bel, h.box, h.apart, h.ints, fun r hr => h.row r (by simpa [or_comm] using hr), fun r hr s hs => h.apB r hr s (by simpa [or_comm] using hs), by
    have := h.apO
    simp only [List.pairwise_cons, List.mem_cons, List.not_mem_nil, or_false, forall_eq, List.Pairwise.nil, and_true, false_implies, implies_true] at this ⊢
    exact fun g hg hp => this g hp hg, h.obj, h.apM⟩
/-- The stride at place i of s, of what is widened to s. -/
def widI (sh st s : List Int) (i : Nat) : Int := if s.length - sh.length ≤ i ∧ sh[i - (s.length - sh.length)]?.getD 0 = s[i]?.getD 0 then st[i - (s.length - sh.length)]?.getD 0 else 0
/-- The strides behind k steps. -/
def widK (sh st s : List Int) (k : Nat) : List Int := (List.range s.length).map fun i => if i < s.length - sh.length + k then widI sh st s i else 0
def widL (sh st s : List Int) : List Int := widK sh st s sh.length
theorem widK_len (sh st s : List Int) (k : Nat) : (widK sh st s k).length = s.length := by simp [widK]
theorem widL_len (sh st s : List Int) : (widL sh st s).length = s.length := widK_len ..
theorem widK_zero (sh st s : List Int) : widK sh st s 0 = List.replicate s.length 0 := by
  rw [List.eq_replicate_iff]
  refine ⟨widK_len .., fun x hx => ?_⟩
  obtain ⟨i, hi, rfl⟩ := List.mem_map.1 hx
  split
  · unfold widI
    rw [if_neg (by omega)]
  · rfl
theorem widK_eq (sh st s : List Int) (k : Nat) (hl : sh.length ≤ s.length) (hk : k < sh.length) (h : sh[k]?.getD 0 = s[s.length - sh.length + k]?.getD 0) : (widK sh st s k).set (s.length - sh.length + k) (st[k]?.getD 0) = widK sh st s (k + 1) := by
  apply List.ext_getElem?
  intro i
  by_cases hi : i < s.length
  · by_cases he : s.length - sh.length + k = i
    · subst he
      rw [List.getElem?_set_self (by rw [widK_len]; omega)]
      simp only [widK, List.getElem?_map, List.getElem?_range hi, Option.map_some, Option.some.injEq]
      rw [if_pos (by omega)]
      unfold widI
      rw [show s.length - sh.length + k - (s.length - sh.length) = k by omega, if_pos ⟨by omega, h⟩]
    · rw [List.getElem?_set_ne he]
      simp only [widK, List.getElem?_map, List.getElem?_range hi, Option.map_some, Option.some.injEq]
      by_cases h1 : i < s.length - sh.length + k
      · rw [if_pos h1, if_pos (by omega)]
      · rw [if_neg h1, if_neg (by omega)]
  · rw [List.getElem?_eq_none (by rw [List.length_set, widK_len]; omega), List.getElem?_eq_none (by rw [widK_len]; omega)]
theorem widK_ne (sh st s : List Int) (k : Nat) (hl : sh.length ≤ s.length) (hk : k < sh.length) (h : ¬ sh[k]?.getD 0 = s[s.length - sh.length + k]?.getD 0) : widK sh st s (k + 1) = widK sh st s k := by
  unfold widK
  refine List.map_congr_left fun i hi => ?_
  by_cases he : i = s.length - sh.length + k
  · subst he
    rw [if_pos (by omega), if_neg (by omega)]
    unfold widI
    rw [show s.length - sh.length + k - (s.length - sh.length) = k by omega, if_neg (by simp [h])]
  · by_cases h1 : i < s.length - sh.length + k
    · rw [if_pos h1, if_pos (by omega)]
    · rw [if_neg h1, if_neg (by omega)]
theorem widL_mem {sh st s : List Int} (h : ∀ x ∈ st, 0 ≤ x ∧ x ≤ 65536) : ∀ x ∈ widL sh st s, 0 ≤ x ∧ x ≤ 65536 := by
  intro x hx
  obtain ⟨i, _, rfl⟩ := List.mem_map.1 hx
  split
  · unfold widI
    split
    · cases hg : st[i - (s.length - sh.length)]? with
      | none => simp
      | some y => exact h y (List.mem_of_getElem? hg)
    · omega
  · omega
end Go.Rt
