/- Walks: the reference's Index and At (through Strides), Numbers, Within. -/
import Derived.Test.YtiejkdnkdmanmaaShapeW3
import Derived.WalkSmall
set_option linter.unusedVariables false
set_option linter.unusedSimpArgs false
namespace Go.Proofs.Ytiejkdnkdmanmaa
open Go.RowKit Go.Rt

/-- Filled from the front. -/
def frontL (S : List Int) (k : Nat) : List Int := S.take k ++ List.replicate (S.length - k) 0
theorem frontL_zero (S : List Int) : frontL S 0 = List.replicate S.length 0 := by simp [frontL]
theorem frontL_full (S : List Int) : frontL S S.length = S := by simp [frontL]
theorem frontL_set (S : List Int) (j : Nat) (hj : j < S.length) (x : Int) (hx : S[j]? = some x) : (frontL S j).set j x = frontL S (j + 1) := by
  unfold frontL
  apply List.ext_getElem?
  intro i
  have hx' : S[j] = x := by rw [List.getElem?_eq_getElem hj] at hx; exact Option.some.inj hx
  rw [List.getElem?_set]
  by_cases hij : j = i
  · subst hij
    have h1 : j < (S.take j ++ List.replicate (S.length - j) (0 : Int)).length := by simp; omega
    simp only [if_pos h1, if_true]
    rw [List.getElem?_append_left (by simp; omega), List.getElem?_take, if_pos (by omega), hx]
  · simp only [hij, if_false]
    simp only [List.getElem?_append, List.length_take, List.getElem?_replicate, List.getElem?_take]
    have m1 : min j S.length = j := by omega
    have m2 : min (j + 1) S.length = j + 1 := by omega
    rw [m1, m2]
    by_cases h1 : i < j
    · simp [h1, show i < j + 1 by omega]
    · have h1' : ¬ i < j + 1 := by omega
      by_cases h2 : i < S.length
      · simp [h1, h1', show i - j < S.length - j by omega, show i - (j + 1) < S.length - (j + 1) by omega]
      · simp [h1, h1', show ¬ i - j < S.length - j by omega, show ¬ i - (j + 1) < S.length - (j + 1) by omega]

theorem wf_dims {xs : List Int} (h : ∀ x ∈ xs, -65537 ≤ x ∧ x ≤ 65537) : ∀ x ∈ xs, (Lit.int .i64 x).wf = true :=
  fun x hx => wf_i64_iff.2 ⟨by have := h x hx; omega, by have := h x hx; omega⟩

theorem strI_mem : ∀ {xs : List Int}, Dims xs → prodI xs ≤ 65536 → ∀ x ∈ strI xs, 1 ≤ x ∧ x ≤ 65536
  | [], _, _, x, hx => by simp [strI] at hx
  | d :: r, h, hp, x, hx => by
    have h1 := h.tail.pos
    have h2 : prodI r ≤ 65536 := by have := prodI_drop_le h 1; simp at this; omega
    simp only [strI, List.mem_cons] at hx
    rcases hx with rfl | hx
    · omega
    · exact strI_mem h.tail h2 x hx

theorem standsI_mem : ∀ {xs : List Int} {n : Int}, Dims xs → ∀ x ∈ standsI xs n, 0 ≤ x ∧ x ≤ 4096
  | [], _, _, x, hx => by simp [standsI] at hx
  | d :: r, n, h, x, hx => by
    have h1 := h.head
    simp only [standsI, List.mem_cons] at hx
    rcases hx with rfl | hx
    · have a := Int.emod_nonneg (n / prodI r) (show d ≠ 0 by omega)
      have b := Int.emod_lt_of_pos (n / prodI r) (show 0 < d by omega)
      omega
    · exact standsI_mem h.tail x hx

/-- A made list, as a slice that reads. -/
theorem RetInts.ints {w w' : World} {xs : List Int} {e : Ending} (h : RetInts w xs e w') (hwf : ∀ x ∈ xs, (Lit.int .i64 x).wf = true) :
    ∃ a c, e = .returned (.slice a xs.length c) ∧ Ints .i64 w' w'.heap.size a xs ∧ Below w.heap.size w w' ∧ w'.ownsRow w.heap.size 3 1 (.slice a xs.length c) xs.length (xs.map (Value.int .i64)) := by
  obtain ⟨v, rfl, hown, hb⟩ := h
  obtain ⟨a, c, rfl, hi⟩ := own_ints hown hwf
  exact ⟨a, c, rfl, hi, hb, hown⟩

theorem dot_bound (xs is : List Int) (hD : Dims xs) (hw : withinB xs is = true) (k : Nat) (hk : k ≤ xs.length) :
    0 ≤ dotI (is.take k) ((strI xs).take k) ∧ dotI (is.take k) ((strI xs).take k) ≤ prodI xs := by
  have hl := withinB_length hw
  have h0 : placeI xs is = dotI (is.take k) ((strI xs).take k) + placeI (xs.drop k) (is.drop k) := by
    rw [← dotI_str xs is hl]
    clear hw hD
    induction k generalizing xs is with
    | zero => simp [dotI, dotI_str xs is hl]
    | succ k ih =>
      match xs, is, hl with
      | [], _, _ => simp at hk
      | d :: r, i :: s, hl =>
        have := ih r s (by simpa using hk) (by simpa using hl)
        simp only [strI, List.take_succ_cons, dotI, List.drop_succ_cons, this]
        omega
  have hb := placeI_bound xs is hD hw
  have hw2 : withinB (xs.drop k) (is.drop k) = true := by
    rw [withinB_iff] at hw ⊢
    refine ⟨by simp; omega, fun j hj => ?_⟩
    have := hw.2 (k + j) (by simp at hj; omega)
    simpa using this
  have hb2 := placeI_bound _ _ (hD.drop k) hw2
  refine ⟨?_, by omega⟩
  clear hb hb2 hw2 h0
  induction k generalizing xs is with
  | zero => simp [dotI]
  | succ k ih =>
    match xs, is, hl with
    | [], _, _ => simp at hk
    | d :: r, i :: s, hl =>
      simp only [withinB, Bool.and_eq_true, decide_eq_true_eq] at hw
      have := ih r s hD.tail hw.2 (by simpa using hk) (by simpa using hl)
      have hm : 0 ≤ i * prodI r := Int.mul_nonneg hw.1.1 (by have := hD.tail.pos; omega)
      simp only [strI, List.take_succ_cons, dotI]
      omega

set_option maxHeartbeats 400000 in
theorem rindex_any (a a2 : Option Addr) (c c2 : Nat) (xs is : List Int) (w : World) (h : Ints .i64 w w.heap.size a xs) (h2 : Ints .i64 w w.heap.size a2 is) (hg : goodB xs = true) (hw : withinB xs is = true) :
    Calls Try.prog 40 #[.slice a xs.length c, .slice a2 is.length c2] w fun e w' => e = .returned (.int .i64 (placeI xs is)) ∧ Below w.heap.size w w' := by
  have hm := h.len
  have H := Lib.hid (rstrides_any a c xs w h hg)
  have hD := goodB_dims hg
  obtain ⟨hP1, hP⟩ := goodB_prod hg
  have HL := Lib.hid (withinB_length hw)
  have HSL := Lib.hid (strI_length xs)
  have HW := Lib.hid hw
  clear hg hw
  go_enter Try.func40, Try.ntmps40
  go_wp2_with fail
  refine H.out.mono ?_
  intro e w1 hr
  obtain ⟨a3, c3, rfl, hi3, hb1, _⟩ := hr.ints (wf_dims (fun x hx => by have := strI_mem hD hP x hx; omega))
  obtain ⟨hm3, _, hc3⟩ := hi3
  obtain ⟨_, _, hc2⟩ := h2.below hb1 (Nat.le_refl _)
  have HB := Lib.hid hb1
  clear hb1 h h2 hr H
  go_wp2
  go_loopw [6, 7] (fun n i wr => ∃ k : Nat, k ≤ xs.length ∧ i = .int .i64 k ∧ n = .int .i64 (dotI (is.take k) ((strI xs).take k)) ∧ ∃ q, wr = w1.drewN q) (fun _ i _ => xs.length - (intOf i).toNat)
  case atStart => exact ⟨0, Nat.zero_le _, rfl, by simp [dotI], 0, rfl⟩
  case round =>
    obtain ⟨k, hk, rfl, rfl, q, rfl⟩ := hrel
    by_cases hlt : k < xs.length
    · have hlt2 : k < is.length := by have := HL.out; omega
      have hlt3 : k < (strI xs).length := by have := HSL.out; omega
      obtain ⟨b2, off2, rfl, _, hcell2⟩ := hc2 k hlt2
      obtain ⟨b3, off3, rfl, _, hcell3⟩ := hc3 k hlt3
      clear hc2 hc3
      rw [List.getElem?_eq_getElem hlt2] at hcell2
      rw [List.getElem?_eq_getElem hlt3] at hcell3
      simp only [Option.getD_some] at hcell2 hcell3
      have HS := Lib.hid (dotI_take_succ is (strI xs) k hlt2 (by rw [HSL.out, HL.out]))
      have hb1 := dot_bound xs is hD HW.out k hk
      have hb2 := dot_bound xs is hD HW.out (k + 1) (by omega)
      rw [HS.out] at hb2
      obtain ⟨hb1a, hb1b⟩ := hb1
      obtain ⟨hb2a, hb2b⟩ := hb2
      have hwr1 : IntKind.i64.wrap (is[k] * (strI xs)[k]) = is[k] * (strI xs)[k] := IntWalk.i64_in _ (by omega)
      have hwr2 : IntKind.i64.wrap (dotI (is.take k) ((strI xs).take k) + is[k] * (strI xs)[k]) = dotI (is.take k) ((strI xs).take k) + is[k] * (strI xs)[k] := IntWalk.i64_in _ (by omega)
      go_wp2
      go_quiet (fail)
      clear hwr1 hwr2
      go_wp2
      go_roundw
      case rel => exact ⟨k + 1, by omega, by go_num, by rw [HS.out], _, by first | rfl | exact World.drewN_drewN _ _ _⟩
      case measure => simp [intOf]; omega
    · have hke : k = xs.length := by omega
      subst hke
      have HX : Hid (dotI (is.take xs.length) ((strI xs).take xs.length) = placeI xs is) := by
        have e1 : is.take xs.length = is := by rw [← HL.out]; exact List.take_length
        have e2 : (strI xs).take xs.length = strI xs := by rw [← HSL.out]; exact List.take_length
        rw [e1, e2, dotI_str xs is HL.out]; rfl
      go_wp2
      go_ret
      exact ⟨ret_int HX.out, below_drewN HB.out _⟩

end Go.Proofs.Ytiejkdnkdmanmaa
