/- Views: plain. No program in sight. -/
import Derived.Test.YtnafbgkfhojamaaShape
set_option linter.unusedVariables false
set_option linter.unusedSimpArgs false
namespace Go.Rt
/-- How far the last word of a view lies behind its first. -/
def topV : List Int → List Int → Int
  | d :: sh, x :: st => x * (d - 1) + topV sh st
  | _, _ => 0
def strOk (x : Int) : Bool := decide (0 ≤ x) && decide (x ≤ 65536)
/-- A view of n words? -/
def viewB (sh st : List Int) (off n : Int) : Bool :=
  goodB sh && (decide (st.length = sh.length) && (decide (0 ≤ off) && (decide (n ≤ 65536) && (decide (off < n) && (st.all strOk && decide (off + topV sh st < n))))))
/-- Where the n-th word of a view stands. -/
def atV (sh st : List Int) (off n : Int) : Int := off + dotI (standsI sh n) st
theorem strOk_iff {x : Int} : strOk x = true ↔ 0 ≤ x ∧ x ≤ 65536 := by simp [strOk]
theorem viewB_iff {sh st : List Int} {off n : Int} : viewB sh st off n = true ↔ goodB sh = true ∧ st.length = sh.length ∧ 0 ≤ off ∧ n ≤ 65536 ∧ off < n ∧ (∀ x ∈ st, 0 ≤ x ∧ x ≤ 65536) ∧ off + topV sh st < n := by
  simp only [viewB, Bool.and_eq_true, decide_eq_true_eq, List.all_eq_true]
  constructor
  · rintro ⟨h1, h2, h3, h4, h5, h6, h7⟩
    exact ⟨h1, h2, h3, h4, h5, fun x hx => strOk_iff.1 (h6 x hx), h7⟩
  · rintro ⟨h1, h2, h3, h4, h5, h6, h7⟩
    exact ⟨h1, h2, h3, h4, h5, fun x hx => strOk_iff.2 (h6 x hx), h7⟩
theorem topV_nil (sh : List Int) : topV sh [] = 0 := by cases sh <;> rfl
theorem topV_snoc : ∀ (xs ys : List Int) (a b : Int), xs.length = ys.length → topV (xs ++ [a]) (ys ++ [b]) = topV xs ys + b * (a - 1)
  | [], [], a, b, _ => by simp [topV]
  | [], _ :: _, _, _, h => by simp at h
  | _ :: _, [], _, _, h => by simp at h
  | x :: xs, y :: ys, a, b, h => by
    have := topV_snoc xs ys a b (by simpa using h)
    simp only [List.cons_append, topV, this]
    omega
theorem topV_take_succ {sh st : List Int} (hl : st.length = sh.length) (k : Nat) (hk : k < sh.length) (hk2 : k < st.length) :
    topV (sh.take (k + 1)) (st.take (k + 1)) = topV (sh.take k) (st.take k) + st[k] * (sh[k] - 1) := by
  rw [take_snoc sh k hk, take_snoc st k hk2]
  exact topV_snoc _ _ _ _ (by simp; omega)
theorem topV_nonneg : ∀ (sh st : List Int), Dims sh → (∀ x ∈ st, 0 ≤ x) → 0 ≤ topV sh st
  | [], _, _, _ => by simp [topV]
  | _ :: _, [], _, _ => by simp [topV]
  | d :: sh, x :: st, h, h2 => by
    have h1 := topV_nonneg sh st h.tail (fun y hy => h2 y (List.mem_cons_of_mem _ hy))
    have h3 := h2 x (List.mem_cons_self ..)
    have h4 := h.head.1
    have h5 : 0 ≤ x * (d - 1) := Int.mul_nonneg h3 (by omega)
    show 0 ≤ x * (d - 1) + topV sh st
    omega
theorem topV_take_le : ∀ (sh st : List Int) (k : Nat), Dims sh → (∀ x ∈ st, 0 ≤ x) → topV (sh.take k) (st.take k) ≤ topV sh st
  | [], _, k, _, _ => by simp [topV]
  | d :: sh, [], k, h, h2 => by simp [topV_nil]
  | d :: sh, x :: st, 0, h, h2 => by simpa [topV] using topV_nonneg (d :: sh) (x :: st) h h2
  | d :: sh, x :: st, k + 1, h, h2 => by
    have h1 := topV_take_le sh st k h.tail (fun y hy => h2 y (List.mem_cons_of_mem _ hy))
    simp only [List.take_succ_cons, topV]
    omega
/-- An index within the shape stands between the first and the last word. -/
theorem dotI_top : ∀ (sh is st : List Int), withinB sh is = true → (∀ x ∈ st, 0 ≤ x) → 0 ≤ dotI is st ∧ dotI is st ≤ topV sh st
  | [], is, st, h, _ => by
    have := withinB_length h
    cases is with
    | nil => simp [dotI, topV]
    | cons => simp at this
  | d :: sh, [], st, h, _ => by have := withinB_length h; simp at this
  | d :: sh, i :: is, [], h, _ => by simp [dotI, topV]
  | d :: sh, i :: is, x :: st, h, h2 => by
    obtain ⟨hl, hw⟩ := withinB_iff.1 h
    have h0 := hw 0 (by simp)
    simp only [List.getElem?_cons_zero, Option.getD_some] at h0
    have ht : withinB sh is = true := withinB_iff.2 ⟨by simpa using hl, fun k hk => by have := hw (k + 1) (by simpa using hk); simpa using this⟩
    have h3 := dotI_top sh is st ht (fun y hy => h2 y (List.mem_cons_of_mem _ hy))
    have h4 := h2 x (List.mem_cons_self ..)
    have h5 : 0 ≤ i * x := Int.mul_nonneg h0.1 h4
    have h6 : i * x ≤ (d - 1) * x := Int.mul_le_mul_of_nonneg_right (by omega) h4
    have h7 : (d - 1) * x = x * (d - 1) := Int.mul_comm _ _
    simp only [dotI, topV]
    omega
theorem atV_bound {sh st : List Int} {off n N : Int} (h : viewB sh st off N = true) : 0 ≤ atV sh st off n ∧ atV sh st off n < N := by
  obtain ⟨h1, h2, h3, h4, h5, h6, h7⟩ := viewB_iff.1 h
  have := dotI_top sh (standsI sh n) st (standsI_within sh n (goodB_dims h1)) (fun x hx => (h6 x hx).1)
  unfold atV
  omega
theorem viewB_str {sh st : List Int} {off n : Int} {k : Nat} (hk : k < st.length) (h : ¬ (0 ≤ st[k] ∧ st[k] ≤ 65536)) : viewB sh st off n = false := by
  cases hv : viewB sh st off n with
  | false => rfl
  | true => exact absurd ((viewB_iff.1 hv).2.2.2.2.2.1 _ (List.getElem_mem hk)) h
theorem viewB_top {sh st : List Int} {off n : Int} (k : Nat) (h : n ≤ off + topV (sh.take k) (st.take k)) : viewB sh st off n = false := by
  cases hv : viewB sh st off n with
  | false => rfl
  | true =>
    obtain ⟨h1, h2, h3, h4, h5, h6, h7⟩ := viewB_iff.1 hv
    have := topV_take_le sh st k (goodB_dims h1) (fun x hx => (h6 x hx).1)
    omega
theorem viewB_no {sh st : List Int} {off n : Int} (h : ¬ (goodB sh = true ∧ st.length = sh.length ∧ 0 ≤ off ∧ n ≤ 65536 ∧ off < n)) : viewB sh st off n = false := by
  cases hv : viewB sh st off n with
  | false => rfl
  | true => obtain ⟨h1, h2, h3, h4, h5, _, _⟩ := viewB_iff.1 hv; exact absurd ⟨h1, h2, h3, h4, h5⟩ h
theorem viewB_yes {sh st : List Int} {off n : Int} (h1 : goodB sh = true) (h2 : st.length = sh.length) (h3 : 0 ≤ off) (h4 : n ≤ 65536) (h5 : off < n) (h6 : ∀ x ∈ st.take st.length, 0 ≤ x ∧ x ≤ 65536) (h7 : off + topV (sh.take st.length) (st.take st.length) < n) : viewB sh st off n = true := by
  rw [List.take_length] at h6 h7
  rw [List.take_of_length_le (by omega)] at h7
  exact viewB_iff.2 ⟨h1, h2, h3, h4, h5, h6, h7⟩
theorem viewB_last {sh st : List Int} {off n : Int} (h1 : goodB sh = true) (h2 : st.length = sh.length) (h3 : 0 ≤ off) (h4 : n ≤ 65536) (h5 : off < n) (h6 : ∀ x ∈ st.take st.length, 0 ≤ x ∧ x ≤ 65536) : viewB sh st off n = decide (off + topV (sh.take st.length) (st.take st.length) < n) := by
  by_cases h7 : off + topV (sh.take st.length) (st.take st.length) < n
  · rw [viewB_yes h1 h2 h3 h4 h5 h6 h7]; exact (decide_eq_true h7).symm
  · rw [viewB_top st.length (by omega)]; exact (decide_eq_false h7).symm
theorem all_take_succ {st : List Int} {k : Nat} (hk : k < st.length) (h : ∀ x ∈ st.take k, 0 ≤ x ∧ x ≤ 65536) (h2 : 0 ≤ st[k] ∧ st[k] ≤ 65536) : ∀ x ∈ st.take (k + 1), 0 ≤ x ∧ x ≤ 65536 := by
  rw [take_snoc st k hk]
  intro x hx
  rcases List.mem_append.1 hx with hx | hx
  · exact h x hx
  · rw [List.mem_singleton.1 hx]; exact h2
/-- The words of a view. -/
def wordsV (sh st : List Int) (off : Int) (data : List Int) : List Int := (List.range (prodI sh).toNat).map fun k : Nat => data[(atV sh st off k).toNat]?.getD 0
/-- The places of a view, in order. -/
def placesV (sh st : List Int) (off : Int) : List Int := (List.range (prodI sh).toNat).map fun k : Nat => atV sh st off k
/-- Words laid at places, from the front. -/
def layP (l : List Int) : List Int → List Int → List Int
  | p :: ps, y :: ys => layP (l.set p.toNat y) ps ys
  | _, _ => l
def layV (sh st : List Int) (off : Int) (ys data : List Int) : List Int := layP data (placesV sh st off) ys
def onceV (sh st : List Int) (off : Int) : Bool := decide (placesV sh st off).Nodup
theorem wordsV_len (sh st : List Int) (off : Int) (data : List Int) : (wordsV sh st off data).length = (prodI sh).toNat := by simp [wordsV]
theorem placesV_len (sh st : List Int) (off : Int) : (placesV sh st off).length = (prodI sh).toNat := by simp [placesV]
theorem wordsV_get (sh st : List Int) (off : Int) (data : List Int) {k : Nat} (hk : k < (prodI sh).toNat) : (wordsV sh st off data)[k]? = some (data[(atV sh st off k).toNat]?.getD 0) := by simp [wordsV, hk]
theorem placesV_get (sh st : List Int) (off : Int) {k : Nat} (hk : k < (prodI sh).toNat) : (placesV sh st off)[k]? = some (atV sh st off k) := by simp [placesV, hk]
theorem layP_len : ∀ (l ps ys : List Int), (layP l ps ys).length = l.length
  | l, [], ys => by simp [layP]
  | l, _ :: _, [] => by simp [layP]
  | l, p :: ps, y :: ys => by simp [layP, layP_len]
theorem layP_snoc : ∀ (l ps ys : List Int) (p y : Int), ps.length = ys.length → layP l (ps ++ [p]) (ys ++ [y]) = (layP l ps ys).set p.toNat y
  | l, [], [], p, y, _ => by simp [layP]
  | l, [], _ :: _, p, y, h => by simp at h
  | l, _ :: _, [], p, y, h => by simp at h
  | l, q :: ps, z :: ys, p, y, h => by
    simp only [List.cons_append, layP]
    exact layP_snoc _ ps ys p y (by simpa using h)
theorem layP_take_succ (l ps ys : List Int) (k : Nat) (h1 : k < ps.length) (h2 : k < ys.length) : layP l (ps.take (k + 1)) (ys.take (k + 1)) = (layP l (ps.take k) (ys.take k)).set (ps[k]).toNat ys[k] := by
  rw [take_snoc ps k h1, take_snoc ys k h2]
  exact layP_snoc _ _ _ _ _ (by simp; omega)
/-- Not once: by a place that stood already. -/
theorem not_nodup_take {ps : List Int} {k : Nat} (hk : k < ps.length) (h : ps[k] ∈ ps.take k) : ¬ ps.Nodup := by
  intro hn
  have h1 : ps = ps.take k ++ ps.drop k := (List.take_append_drop k ps).symm
  rw [h1] at hn
  obtain ⟨_, _, h3⟩ := List.nodup_append.1 hn
  exact h3 _ h _ (by rw [List.drop_eq_getElem_cons hk]; exact List.mem_cons_self ..) rfl
theorem nodup_take_succ {ps : List Int} {k : Nat} (hk : k < ps.length) (h : (ps.take k).Nodup) (h2 : ¬ ps[k] ∈ ps.take k) : (ps.take (k + 1)).Nodup := by
  rw [take_snoc ps k hk]
  refine List.nodup_append.2 ⟨h, by simp, ?_⟩
  intro a ha b hb hab
  rw [List.mem_singleton] at hb
  subst hb; subst hab
  exact h2 ha
end Go.Rt
