/- Plain: a draw below n behind rejections, a shuffle by draws; what is shuffled has each number once. No program in sight. -/
import Derived.Test.YtiejkdnkdmanmaaRngDraw
set_option linter.unusedVariables false
set_option linter.unusedSimpArgs false
namespace Go.Rt

/-- Behind how many rejections a draw below n is taken. -/
noncomputable def kOf (n : Int) (xs : List Int) (s : St) : Nat := Classical.epsilon (fun k => (∀ j, j < k → takes n (genX xs s j) = false) ∧ takes n (genX xs s k) = true)
theorem kOf_spec {n : Int} {xs : List Int} {s : St} (h : GoodS xs s) (h1 : 1 ≤ n) (h2 : n ≤ 18446744073709551615) : (∀ j, j < kOf n xs s → takes n (genX xs s j) = false) ∧ takes n (genX xs s (kOf n xs s)) = true :=
  Classical.epsilon_spec (p := fun k => (∀ j, j < k → takes n (genX xs s j) = false) ∧ takes n (genX xs s k) = true) (draw_ends h h1 h2)
noncomputable def drD (n : Int) (xs : List Int) (s : St) : Int := genX xs s (kOf n xs s) % n
noncomputable def drL (n : Int) (xs : List Int) (s : St) : List Int := (gen xs s (kOf n xs s + 1)).1
noncomputable def drS (n : Int) (xs : List Int) (s : St) : St := (gen xs s (kOf n xs s + 1)).2
theorem drD_bounds {n : Int} {xs : List Int} {s : St} (h1 : 1 ≤ n) : 0 ≤ drD n xs s ∧ drD n xs s < n := ⟨Int.emod_nonneg _ (by omega), Int.emod_lt_of_pos _ (by omega)⟩
theorem drL_good {n : Int} {xs : List Int} {s : St} (h : GoodS xs s) : GoodS (drL n xs s) (drS n xs s) := h.gen _
theorem drL_len (n : Int) (xs : List Int) (s : St) : (drL n xs s).length ≤ xs.length := by
  unfold drL
  rw [gen_len]
  omega

/-- Two places changed. -/
def swapI (l : List Int) (i d : Nat) : List Int := (l.set i (l[d]?.getD 0)).set d (l[i]?.getD 0)
theorem swapI_len (l : List Int) (i d : Nat) : (swapI l i d).length = l.length := by simp [swapI]
theorem swapI_get (l : List Int) (i d k : Nat) (hi : i < l.length) (hd : d < l.length) : (swapI l i d)[k]? = if k = d then l[i]? else if k = i then l[d]? else l[k]? := by
  unfold swapI
  by_cases h1 : k = d
  · subst h1
    rw [if_pos rfl, List.getElem?_set_self (by simpa using hd), List.getElem?_eq_getElem hi]
    rfl
  · rw [if_neg h1, List.getElem?_set_ne (Ne.symm h1)]
    by_cases h2 : k = i
    · subst h2
      rw [if_pos rfl, List.getElem?_set_self hi, List.getElem?_eq_getElem hd]
      rfl
    · rw [if_neg h2, List.getElem?_set_ne (Ne.symm h2)]

/-- The generator behind j rounds of a shuffle of N + 1 numbers. -/
noncomputable def tur (N : Nat) (xs : List Int) (s : St) : Nat → List Int × St
  | 0 => (xs, s)
  | j + 1 => (drL ((N - j + 1 : Nat) : Int) (tur N xs s j).1 (tur N xs s j).2, drS ((N - j + 1 : Nat) : Int) (tur N xs s j).1 (tur N xs s j).2)
noncomputable def turD (N : Nat) (xs : List Int) (s : St) (j : Nat) : Int := drD ((N - j + 1 : Nat) : Int) (tur N xs s j).1 (tur N xs s j).2
theorem tur_good {N : Nat} {xs : List Int} {s : St} (h : GoodS xs s) : ∀ j, GoodS (tur N xs s j).1 (tur N xs s j).2
  | 0 => h
  | j + 1 => drL_good (tur_good h j)
theorem tur_len (N : Nat) (xs : List Int) (s : St) : ∀ j, (tur N xs s j).1.length ≤ xs.length
  | 0 => Nat.le_refl _
  | j + 1 => Nat.le_trans (drL_len _ _ _) (tur_len N xs s j)
theorem turD_bounds (N : Nat) (xs : List Int) (s : St) (j : Nat) : 0 ≤ turD N xs s j ∧ turD N xs s j < ((N - j + 1 : Nat) : Int) := drD_bounds (by omega)
/-- The list behind j rounds. -/
noncomputable def lst (N : Nat) (xs : List Int) (s : St) : Nat → List Int
  | 0 => (List.range (N + 1)).map fun k : Nat => (k : Int)
  | j + 1 => swapI (lst N xs s j) (N - j) (turD N xs s j).toNat
theorem lst_len (N : Nat) (xs : List Int) (s : St) : ∀ j, (lst N xs s j).length = N + 1
  | 0 => by simp [lst]
  | j + 1 => by rw [lst, swapI_len, lst_len N xs s j]

/-- Each of the numbers below n once. -/
structure Once (n : Nat) (l : List Int) : Prop where
  len : l.length = n
  bnd : ∀ x ∈ l, 0 ≤ x ∧ x < n
  inj : ∀ i j, i < n → j < n → l[i]? = l[j]? → i = j
theorem once_range (n : Nat) : Once n ((List.range n).map fun k : Nat => (k : Int)) :=
  ⟨by simp, by simp, fun i j hi hj h => by simp [hi, hj] at h; omega⟩
theorem Once.swap {n : Nat} {l : List Int} (h : Once n l) {i d : Nat} (hi : i < n) (hd : d < n) : Once n (swapI l i d) := by
  have hil : i < l.length := by rw [h.len]; exact hi
  have hdl : d < l.length := by rw [h.len]; exact hd
  refine ⟨by rw [swapI_len, h.len], fun x hx => ?_, fun p q hp hq he => ?_⟩
  · obtain ⟨k, hk, rfl⟩ := List.getElem_of_mem hx
    have hg : (swapI l i d)[k]? = some (swapI l i d)[k] := List.getElem?_eq_getElem hk
    rw [swapI_get l i d k hil hdl] at hg
    have hm : (swapI l i d)[k] ∈ l := by
      split at hg
      · exact List.mem_of_getElem? hg
      · split at hg
        · exact List.mem_of_getElem? hg
        · exact List.mem_of_getElem? hg
    exact h.bnd _ hm
  · have hs : ∀ k, (swapI l i d)[k]? = l[if k = d then i else if k = i then d else k]? := fun k => by
      rw [swapI_get l i d k hil hdl]
      split
      · rfl
      · split <;> rfl
    rw [hs, hs] at he
    have hb : ∀ k, k < n → (if k = d then i else if k = i then d else k) < n := fun k hk => by
      split
      · exact hi
      · split <;> omega
    have := h.inj _ _ (hb p hp) (hb q hq) he
    split at this <;> split at this <;> (try split at this) <;> (try split at this) <;> omega
theorem lst_once (N : Nat) (xs : List Int) (s : St) : ∀ j, j ≤ N → Once (N + 1) (lst N xs s j)
  | 0, _ => once_range _
  | j + 1, h => by
    have hb := turD_bounds N xs s j
    exact (lst_once N xs s j (by omega)).swap (by omega) (by omega)
theorem Once.nodup {n : Nat} {l : List Int} (h : Once n l) : l.Nodup := by
  refine List.pairwise_iff_getElem.2 fun i j hi hj hij e => ?_
  have := h.inj i j (by rw [← h.len]; omega) (by rw [← h.len]; omega) (by rw [List.getElem?_eq_getElem hi, List.getElem?_eq_getElem hj, e])
  omega

/-- All numbers below n are there, and there are n of them. -/
def axesB (l : List Int) (n : Int) : Bool := decide ((l.length : Int) = n) && (List.range n.toNat).all fun k => l.contains (k : Int)
/-- One list within another one of at most as many: the same. -/
theorem perm_of_sub : ∀ (l m : List Int), l.Nodup → (∀ x ∈ l, x ∈ m) → m.length ≤ l.length → l.Perm m
  | [], m, _, _, h => by
    have : m = [] := List.eq_nil_of_length_eq_zero (by simpa using h)
    rw [this]
  | x :: l, m, hn, hs, h => by
    have hx := hs x List.mem_cons_self
    have hp := List.perm_cons_erase hx
    have hn2 := List.nodup_cons.1 hn
    have hl : (m.erase x).length + 1 = m.length := by have := hp.length_eq; simp at this; omega
    refine ((perm_of_sub l (m.erase x) hn2.2 (fun y hy => ?_) (by simp at h; omega)).cons x).trans hp.symm
    have hne : y ≠ x := fun e => hn2.1 (e ▸ hy)
    exact (List.mem_erase_of_ne hne).2 (hs y (List.mem_cons_of_mem _ hy))
theorem range_nodup (n : Nat) : ((List.range n).map fun k : Nat => (k : Int)).Nodup := (once_range n).nodup
theorem axesB_once {l : List Int} {n : Nat} : axesB l n = true ↔ Once n l := by
  unfold axesB
  simp only [Int.toNat_natCast, Bool.and_eq_true, decide_eq_true_eq, List.all_eq_true, List.mem_range, List.contains_iff_mem]
  constructor
  · rintro ⟨hl, ha⟩
    have hp := perm_of_sub ((List.range n).map fun k : Nat => (k : Int)) l (range_nodup n) (fun x hx => by
      obtain ⟨k, hk, rfl⟩ := List.mem_map.1 hx
      exact ha k (List.mem_range.1 hk)) (by simp; omega)
    refine ⟨by omega, fun x hx => ?_, fun i j hi hj e => ?_⟩
    · obtain ⟨k, hk, rfl⟩ := List.mem_map.1 (hp.mem_iff.2 hx)
      have := List.mem_range.1 hk
      omega
    · have hnd := hp.nodup_iff.1 (range_nodup n)
      have hp2 := List.pairwise_iff_getElem.1 hnd
      rw [List.getElem?_eq_getElem (by omega), List.getElem?_eq_getElem (by omega)] at e
      injection e with e
      rcases Nat.lt_trichotomy i j with h | h | h
      · exact absurd e (hp2 i j (by omega) (by omega) h)
      · exact h
      · exact absurd e.symm (hp2 j i (by omega) (by omega) h)
  · intro h
    refine ⟨by rw [h.len], fun k hk => ?_⟩
    have hp := perm_of_sub l ((List.range n).map fun k : Nat => (k : Int)) h.nodup (fun x hx => by
      have := h.bnd x hx
      exact List.mem_map.2 ⟨x.toNat, List.mem_range.2 (by omega), by omega⟩) (by simp [h.len])
    exact hp.mem_iff.2 (List.mem_map.2 ⟨k, List.mem_range.2 hk, rfl⟩)
end Go.Rt
