/- Walks over package shape's functions that make lists: Steps, Stands, Both; and the reference's helpers CopyNumbers, Strides, At. -/
import Derived.Test.YtiejkdnkdmanmaaShapeW1
set_option linter.unusedVariables false
set_option linter.unusedSimpArgs false
namespace Go.Proofs.Ytiejkdnkdmanmaa
open Go.RowKit Go.Rt

theorem infoInt : (Try.prog.info? 3).map (fun i => (i.zero, i.size, i.bytes)) = some (some (.int .i64 0), 1, 8) := by kernel_rfl

/-- The list that is filled from behind: noughts, then the numbers from k on. -/
def backL (S : List Int) (k : Nat) : List Int := List.replicate k 0 ++ S.drop k
theorem backL_full (S : List Int) : backL S S.length = List.replicate S.length 0 := by simp [backL]
theorem backL_zero (S : List Int) : backL S 0 = S := by simp [backL]
theorem backL_set (S : List Int) (j : Nat) (hj : j < S.length) (x : Int) (hx : S[j]? = some x) : (backL S (j + 1)).set j x = backL S j := by
  unfold backL
  apply List.ext_getElem?
  intro i
  have hx' : S[j] = x := by rw [List.getElem?_eq_getElem hj] at hx; exact Option.some.inj hx
  rw [List.getElem?_set]
  by_cases hij : j = i
  · subst hij
    simp [List.getElem?_append, hj]
    exact ⟨by omega, hx'.symm⟩
  · simp only [hij, if_false]
    simp only [List.getElem?_append, List.length_replicate, List.getElem?_replicate, List.getElem?_drop]
    by_cases h1 : i < j
    · rw [if_pos (by omega), if_pos h1, if_pos (by omega), if_pos h1]
    · rw [if_neg (by omega), if_neg h1]
      congr 1
      omega

/-- What a function hands back that makes a list of integers. -/
def RetInts (w : World) (xs : List Int) (e : Ending) (w' : World) : Prop :=
  ∃ v, e = .returned v ∧ w'.ownsRow w.heap.size 3 1 v xs.length (xs.map (Value.int .i64)) ∧ Below w.heap.size w w'

set_option maxHeartbeats 400000 in
theorem steps_any (a : Option Addr) (c : Nat) (xs : List Int) (w : World) (h : Ints .i64 w w.heap.size a xs) (hg : goodB xs = true) :
    Calls Try.prog 68 #[.slice a xs.length c] w (RetInts w (strI xs)) := by
  obtain ⟨hm, _, hc⟩ := h
  have hD := goodB_dims hg
  have hP := (goodB_prod hg).2
  have h4 := (goodB_iff.1 hg).1
  have hl := Lib.hid (strI_length xs)
  clear hg
  go_enter Try.func68, Try.ntmps68
  go_wp2_with (at_make; (refine wpl_make 46 3 .i64 infoInt Try.underlying46 w.heap.size xs.length _ _ _ _ rfl rfl rfl rfl rfl rfl (by omega) (Nat.le_refl _) ?_); intro w1 hown hgrow _)
  go_loopw [4, 5] (fun n i wr => ∃ k : Nat, k ≤ xs.length ∧ i = .int .i64 ((k : Int) - 1) ∧ n = .int .i64 (prodI (xs.drop k)) ∧ wr.ownsRow w.heap.size 3 1 (.slice (some ⟨w.heap.size, 0, none⟩) xs.length xs.length) xs.length ((backL (strI xs) k).map (Value.int .i64)) ∧ Below w.heap.size w wr) (fun _ i _ => ((intOf i) + 1).toNat)
  case atStart =>
    refine ⟨xs.length, Nat.le_refl _, rfl, by simp [prodI], ?_, hgrow _ (Nat.le_refl _)⟩
    have e := backL_full (strI xs)
    rw [hl.out] at e
    rw [e]
    exact hown
  case round =>
    obtain ⟨k, hk, rfl, rfl, hown2, hbel⟩ := hrel
    clear hown hgrow
    rcases k with _ | j
    · have HO := Lib.hid hown2
      have HB := Lib.hid hbel
      clear hown2 hbel hc
      go_wp2
      go_ret
      have h0 := HO.out
      rw [backL_zero] at h0
      exact ⟨_, rfl, by rw [hl.out]; exact h0, HB.out⟩
    · rw [show (((j + 1 : Nat) : Int) - 1) = (j : Int) by omega]
      have hlt : j < xs.length := by omega
      obtain ⟨b, off, rfl, hlb, hcell⟩ := hc j hlt
      clear hc
      rw [List.getElem?_eq_getElem hlt] at hcell
      simp only [Option.getD_some] at hcell
      have hold : wr.cell? ⟨w.heap.size, j, none⟩ = some (.int .i64 ((backL (strI xs) (j + 1))[j]?.getD 0)) := own_cell hown2 hlt
      have hfr := hown2.frozenAt j
      have hcr : wr.cell? ⟨b, off + j, none⟩ = some (.int .i64 xs[j]) := (hbel.cell (p := ⟨b, off + j, none⟩) hlb).trans hcell
      have hst := hown2.stored j (.int .i64 (prodI (xs.drop (j + 1))))
      have HO : Hid ((wr.setCell ⟨w.heap.size, j, none⟩ (.int .i64 (prodI (xs.drop (j + 1))))).ownsRow w.heap.size 3 1 (.slice (some ⟨w.heap.size, 0, none⟩) xs.length xs.length) xs.length ((backL (strI xs) j).map (Value.int .i64))) := by
        have h0 := hst.1
        rw [map_set, backL_set _ j (by rw [hl.out]; exact hlt) _ (strI_get xs j hlt)] at h0
        exact h0
      have HB := Lib.hid (hbel.setCell (p := ⟨w.heap.size, j, none⟩) (Nat.le_refl _) (.int .i64 (prodI (xs.drop (j + 1)))))
      have HS := Lib.hid (prodI_drop_succ xs j hlt)
      have hp1 := (hD.drop j).pos
      have hp2 := prodI_drop_le hD j
      rw [HS.out, Int.mul_comm] at hp1 hp2
      have hne : b ≠ w.heap.size := by omega
      clear hown2 hbel hst hcell
      go_wp2
      go_roundw
      case rel => exact ⟨j, by omega, by go_num, by rw [HS.out, Int.mul_comm], HO.out, HB.out⟩
      case measure => simp [intOf]
set_option maxHeartbeats 400000 in
theorem rstrides_any (a : Option Addr) (c : Nat) (xs : List Int) (w : World) (h : Ints .i64 w w.heap.size a xs) (hg : goodB xs = true) :
    Calls Try.prog 37 #[.slice a xs.length c] w (RetInts w (strI xs)) := by
  obtain ⟨hm, _, hc⟩ := h
  have hD := goodB_dims hg
  have hP := (goodB_prod hg).2
  have h4 := (goodB_iff.1 hg).1
  have hl := Lib.hid (strI_length xs)
  clear hg
  go_enter Try.func37, Try.ntmps37
  go_wp2_with (at_make; (refine wpl_make 46 3 .i64 infoInt Try.underlying46 w.heap.size xs.length _ _ _ _ rfl rfl rfl rfl rfl rfl (by omega) (Nat.le_refl _) ?_); intro w1 hown hgrow _)
  go_loopw [4, 5] (fun n i wr => ∃ k : Nat, k ≤ xs.length ∧ i = .int .i64 ((k : Int) - 1) ∧ n = .int .i64 (prodI (xs.drop k)) ∧ wr.ownsRow w.heap.size 3 1 (.slice (some ⟨w.heap.size, 0, none⟩) xs.length xs.length) xs.length ((backL (strI xs) k).map (Value.int .i64)) ∧ Below w.heap.size w wr) (fun _ i _ => ((intOf i) + 1).toNat)
  case atStart =>
    refine ⟨xs.length, Nat.le_refl _, rfl, by simp [prodI], ?_, hgrow _ (Nat.le_refl _)⟩
    have e := backL_full (strI xs)
    rw [hl.out] at e
    rw [e]
    exact hown
  case round =>
    obtain ⟨k, hk, rfl, rfl, hown2, hbel⟩ := hrel
    clear hown hgrow
    rcases k with _ | j
    · have HO := Lib.hid hown2
      have HB := Lib.hid hbel
      clear hown2 hbel hc
      go_wp2
      go_ret
      have h0 := HO.out
      rw [backL_zero] at h0
      exact ⟨_, rfl, by rw [hl.out]; exact h0, HB.out⟩
    · rw [show (((j + 1 : Nat) : Int) - 1) = (j : Int) by omega]
      have hlt : j < xs.length := by omega
      obtain ⟨b, off, rfl, hlb, hcell⟩ := hc j hlt
      clear hc
      rw [List.getElem?_eq_getElem hlt] at hcell
      simp only [Option.getD_some] at hcell
      have hold : wr.cell? ⟨w.heap.size, j, none⟩ = some (.int .i64 ((backL (strI xs) (j + 1))[j]?.getD 0)) := own_cell hown2 hlt
      have hfr := hown2.frozenAt j
      have hcr : wr.cell? ⟨b, off + j, none⟩ = some (.int .i64 xs[j]) := (hbel.cell (p := ⟨b, off + j, none⟩) hlb).trans hcell
      have hst := hown2.stored j (.int .i64 (prodI (xs.drop (j + 1))))
      have HO : Hid ((wr.setCell ⟨w.heap.size, j, none⟩ (.int .i64 (prodI (xs.drop (j + 1))))).ownsRow w.heap.size 3 1 (.slice (some ⟨w.heap.size, 0, none⟩) xs.length xs.length) xs.length ((backL (strI xs) j).map (Value.int .i64))) := by
        have h0 := hst.1
        rw [map_set, backL_set _ j (by rw [hl.out]; exact hlt) _ (strI_get xs j hlt)] at h0
        exact h0
      have HB := Lib.hid (hbel.setCell (p := ⟨w.heap.size, j, none⟩) (Nat.le_refl _) (.int .i64 (prodI (xs.drop (j + 1)))))
      have HS := Lib.hid (prodI_drop_succ xs j hlt)
      have hp1 := (hD.drop j).pos
      have hp2 := prodI_drop_le hD j
      rw [HS.out, Int.mul_comm] at hp1 hp2
      have hne : b ≠ w.heap.size := by omega
      clear hown2 hbel hst hcell
      go_wp2
      go_roundw
      case rel => exact ⟨j, by omega, by go_num, by rw [HS.out, Int.mul_comm], HO.out, HB.out⟩
      case measure => simp [intOf]

set_option maxHeartbeats 400000 in
theorem stands_any (a : Option Addr) (c : Nat) (xs : List Int) (n : Int) (w : World) (h : Ints .i64 w w.heap.size a xs) (hg : goodB xs = true) (hn : 0 ≤ n) (hn2 : n ≤ 9223372036854775807) :
    Calls Try.prog 69 #[.slice a xs.length c, .int .i64 n] w (RetInts w (standsI xs n)) := by
  obtain ⟨hm, _, hc⟩ := h
  have hD := goodB_dims hg
  have h4 := (goodB_iff.1 hg).1
  have hl := Lib.hid (standsI_length xs n)
  clear hg
  go_enter Try.func69, Try.ntmps69
  go_wp2_with (at_make; (refine wpl_make 46 3 .i64 infoInt Try.underlying46 w.heap.size xs.length _ _ _ _ rfl rfl rfl rfl rfl rfl (by omega) (Nat.le_refl _) ?_); intro w1 hown hgrow _)
  go_loopw [1, 6] (fun m i wr => ∃ k : Nat, k ≤ xs.length ∧ i = .int .i64 ((k : Int) - 1) ∧ m = .int .i64 (n / prodI (xs.drop k)) ∧ wr.ownsRow w.heap.size 3 1 (.slice (some ⟨w.heap.size, 0, none⟩) xs.length xs.length) xs.length ((backL (standsI xs n) k).map (Value.int .i64)) ∧ Below w.heap.size w wr) (fun _ i _ => ((intOf i) + 1).toNat)
  case atStart =>
    refine ⟨xs.length, Nat.le_refl _, rfl, by simp [prodI], ?_, hgrow _ (Nat.le_refl _)⟩
    have e := backL_full (standsI xs n)
    rw [hl.out] at e
    rw [e]
    exact hown
  case round =>
    obtain ⟨k, hk, rfl, rfl, hown2, hbel⟩ := hrel
    clear hown hgrow
    rcases k with _ | j
    · have HO := Lib.hid hown2
      have HB := Lib.hid hbel
      clear hown2 hbel hc
      go_wp2
      go_ret
      have h0 := HO.out
      rw [backL_zero] at h0
      exact ⟨_, rfl, by rw [hl.out]; exact h0, HB.out⟩
    · rw [show (((j + 1 : Nat) : Int) - 1) = (j : Int) by omega]
      have hlt : j < xs.length := by omega
      obtain ⟨b, off, rfl, hlb, hcell⟩ := hc j hlt
      clear hc
      rw [List.getElem?_eq_getElem hlt] at hcell
      simp only [Option.getD_some] at hcell
      have hold : wr.cell? ⟨w.heap.size, j, none⟩ = some (.int .i64 ((backL (standsI xs n) (j + 1))[j]?.getD 0)) := own_cell hown2 hlt
      have hfr := hown2.frozenAt j
      have hcr : wr.cell? ⟨b, off + j, none⟩ = some (.int .i64 xs[j]) := (hbel.cell (p := ⟨b, off + j, none⟩) hlb).trans hcell
      have hst := hown2.stored j (.int .i64 (n / prodI (xs.drop (j + 1)) % xs[j]))
      have HO : Hid ((wr.setCell ⟨w.heap.size, j, none⟩ (.int .i64 (n / prodI (xs.drop (j + 1)) % xs[j]))).ownsRow w.heap.size 3 1 (.slice (some ⟨w.heap.size, 0, none⟩) xs.length xs.length) xs.length ((backL (standsI xs n) j).map (Value.int .i64))) := by
        have h0 := hst.1
        rw [map_set, backL_set _ j (by rw [hl.out]; exact hlt) _ (standsI_get xs n j hlt)] at h0
        exact h0
      have HB := Lib.hid (hbel.setCell (p := ⟨w.heap.size, j, none⟩) (Nat.le_refl _) (.int .i64 (n / prodI (xs.drop (j + 1)) % xs[j])))
      have HS := Lib.hid (ediv_ediv_drop xs n j hD hlt)
      have hp1 := (hD.drop (j + 1)).pos
      have hd1 := hD.at hlt
      obtain ⟨hd1, hd2⟩ := hd1
      have hq0 : 0 ≤ n / prodI (xs.drop (j + 1)) := Int.ediv_nonneg hn (by omega)
      have hq1 : n / prodI (xs.drop (j + 1)) ≤ 9223372036854775807 := Int.le_trans (Int.ediv_le_self _ hn) hn2
      have hne : b ≠ w.heap.size := by omega
      clear hown2 hbel hst hcell
      go_wp2
      go_roundw
      case rel => exact ⟨j, by omega, by go_num, by rw [HS.out], HO.out, HB.out⟩
      case measure => simp [intOf]

end Go.Proofs.Ytiejkdnkdmanmaa
