/- Walks: shape.Under; the reference's Goes, Under; law0's Numbers, Within. -/
import Derived.Test.YtiejkdnkdmanmaaShapeW8
set_option linter.unusedVariables false
set_option linter.unusedSimpArgs false
namespace Go.Proofs.Ytiejkdnkdmanmaa
open Go.RowKit Go.Rt

theorem spreadR_mem {xs ys : List Int} (hx : Dims xs) (hy : Dims ys) : ∀ x ∈ spreadR xs ys, -65537 ≤ x ∧ x ≤ 65537 := by
  intro x hm
  unfold spreadR at hm
  split at hm
  · have := spreadL_dims hx hy x hm; omega
  · simp at hm

/-- A made list beside an error, as a slice that reads. -/
theorem RetSpread.ints {w w' : World} {xs ys : List Int} {e : Ending} (h : RetSpread w xs ys e w') (hx : Dims xs) (hy : Dims ys) :
    ∃ a c, e = .returned (.tuple #[.slice a (spreadR xs ys).length c, .int .i64 (spreadE xs ys)]) ∧ Ints .i64 w' w'.heap.size a (spreadR xs ys) ∧ Below w.heap.size w w' := by
  obtain ⟨v, rfl, hown, hb⟩ := h
  obtain ⟨a, c, rfl, hi⟩ := own_ints hown (wf_dims (spreadR_mem hx hy))
  exact ⟨a, c, rfl, hi, hb⟩

set_option maxHeartbeats 400000 in
theorem goes_any (a a2 : Option Addr) (c c2 : Nat) (s t : List Int) (w : World) (h : Ints .i64 w w.heap.size a s) (h2 : Ints .i64 w w.heap.size a2 t) (hg : goodB s = true) (hg2 : goodB t = true) :
    Calls Try.prog 45 #[.slice a s.length c, .slice a2 t.length c2] w fun e w' => e = .returned (.bool (goesB s t)) ∧ Below w.heap.size w w' := by
  have H := Lib.hid (rspread_any a a2 c c2 s t w h h2 hg hg2)
  have hD := goodB_dims hg
  have hD2 := goodB_dims hg2
  clear hg hg2
  by_cases he : spreadE s t = 0
  · have he1 : (spreadE s t == 0) = true := by simp [he]
    have HE := Lib.hid he
    clear he
    go_enter Try.func45, Try.ntmps45
    go_wp2_with fail
    refine H.out.mono ?_
    intro e w1 hr
    obtain ⟨a3, c3, rfl, hi3, hb1⟩ := hr.ints hD hD2
    have H2 := Lib.hid (eqNumbers_any a3 a2 c3 c2 _ _ _ w1 hi3 ((h2.below hb1 (Nat.le_refl _)).mono hb1.size))
    have HB := Lib.hid hb1
    clear hb1 hi3 hr H h h2
    go_wp2_with (go_at_call 34; refine H2.out.mono ?_; rintro e w' ⟨rfl, q, rfl⟩)
    go_ret
    exact ⟨ret_bool (by unfold goesB; rw [HE.out]; simp), below_drewN HB.out _⟩
  · have he1 : (spreadE s t == 0) = false := by simp [he]
    have HE := Lib.hid he
    clear he
    go_enter Try.func45, Try.ntmps45
    go_wp2_with fail
    refine H.out.mono ?_
    intro e w1 hr
    obtain ⟨a3, c3, rfl, hi3, hb1⟩ := hr.ints hD hD2
    have HB := Lib.hid hb1
    clear hb1 hi3 hr H h h2
    go_wp2_with fail
    go_ret
    exact ⟨ret_bool (by unfold goesB; simp [HE.out]), HB.out⟩

set_option maxHeartbeats 400000 in
theorem under_any (a a2 a3 : Option Addr) (c c2 c3 : Nat) (s t is : List Int) (w : World) (h : Ints .i64 w w.heap.size a s) (h2 : Ints .i64 w w.heap.size a2 t) (h3 : Ints .i64 w w.heap.size a3 is) :
    Calls Try.prog 47 #[.slice a s.length c, .slice a2 t.length c2, .slice a3 is.length c3] w fun e w' => e = .returned (.tuple #[.int .i64 (underN s t is), .int .i64 (underE s t is)]) ∧ Below w.heap.size w w' := by
  have HG := Lib.hid (good_any a c _ s w h)
  have HG2 := Lib.hid (good_any a2 c2 _ t w h2)
  cases hg : goodB s
  · rw [hg] at HG
    have HE : Hid (underE s t is = 1 ∧ underN s t is = 0) := by
      have : underE s t is = 1 := by simp [underE, hg]
      exact ⟨this, by simp [underN, this]⟩
    clear h h2 h3 hg
    go_enter Try.func47, Try.ntmps47
    go_wp2_with fail
    refine HG.out.mono ?_
    rintro e w' ⟨rfl, rfl⟩
    go_wp2_with fail
    go_ret2
    exact ⟨by rw [HE.out.1, HE.out.2]; rfl, Below.refl _ _⟩
  · rw [hg] at HG
    cases hg2 : goodB t
    · rw [hg2] at HG2
      have HE : Hid (underE s t is = 1 ∧ underN s t is = 0) := by
        have : underE s t is = 1 := by simp [underE, hg2]
        exact ⟨this, by simp [underN, this]⟩
      clear h h2 h3 hg hg2
      go_enter Try.func47, Try.ntmps47
      go_wp2_with fail
      refine HG.out.mono ?_
      rintro e w' ⟨rfl, rfl⟩
      go_wp2_with fail
      refine HG2.out.mono ?_
      rintro e w' ⟨rfl, rfl⟩
      go_wp2_with fail
      go_ret2
      exact ⟨by rw [HE.out.1, HE.out.2]; rfl, Below.refl _ _⟩
    · rw [hg2] at HG2
      have HB := Lib.hid (both_any a a2 c c2 s t w h h2 hg hg2)
      have hD := goodB_dims hg
      have hD2 := goodB_dims hg2
      have hbad : ¬ (goesB s t = true ∧ withinB t is = true) → underE s t is = 2 ∧ underN s t is = 0 := by
        intro hb
        have : underE s t is = 2 := by
          simp only [underE, hg, hg2, Bool.and_self, if_true]
          rw [if_neg (by simpa [Bool.and_eq_true] using hb)]
        exact ⟨this, by simp [underN, this]⟩
      by_cases he : spreadE s t = 0
      · have he1 : (spreadE s t == 0) = true := by simp [he]
        have he2 : (spreadE s t != 0) = false := by simp [he]
        by_cases hq : spreadR s t = t
        · have hgo : goesB s t = true := by simp [goesB, he, hq]
          cases hw : withinB t is
          · have HE := Lib.hid (hbad (by rw [hw]; simp))
            have HQ := Lib.hid hq
            clear he hbad hq
            go_enter Try.func47, Try.ntmps47
            go_wp2_with fail
            refine HG.out.mono ?_
            rintro e w' ⟨rfl, rfl⟩
            go_wp2_with fail
            refine HG2.out.mono ?_
            rintro e w' ⟨rfl, rfl⟩
            go_wp2_with fail
            refine HB.out.mono ?_
            intro e w1 hr
            obtain ⟨a4, c4, rfl, hi4, hb1⟩ := hr.ints hD hD2
            have hi2 := (h2.below hb1 (Nat.le_refl _)).mono hb1.size
            have hi3 := (h3.below hb1 (Nat.le_refl _)).mono hb1.size
            have H2 := slicesEqual_any a4 a2 c4 c2 _ _ _ w1 hi4 hi2
            rw [decide_eq_true HQ.out] at H2
            have H3 : ∀ q, Calls Try.prog 70 #[.slice a2 t.length c2, .slice a3 is.length c3] (w1.drewN q) fun e w' => e = .returned (.bool (withinB t is)) ∧ w1.drewN q = w' :=
              fun q => within_any a2 a3 c2 c3 _ t is (w1.drewN q) (hi2.below (below_drewN (Below.refl _ _) q) (Nat.le_refl _)) (hi3.below (below_drewN (Below.refl _ _) q) (Nat.le_refl _))
            rw [hw] at H3
            have HH2 := Lib.hid H2
            have HH3 := Lib.hid H3
            have HB1 := Lib.hid hb1
            clear hb1 hi4 hr HB h h2 h3 hi2 hi3 H2 H3
            go_wp2_with (first | (go_at_call 74; refine HH2.out.mono ?_; rintro e w' ⟨rfl, q, rfl⟩) | (go_at_call 70; refine (HH3.out _).mono ?_; rintro e w' ⟨rfl, rfl⟩))
            go_ret2
            exact ⟨by rw [HE.out.1, HE.out.2]; rfl, below_drewN HB1.out _⟩
          · have HE : Hid (underE s t is = 0 ∧ underN s t is = placeI s (adjL s t is)) := by
              have : underE s t is = 0 := by simp [underE, hg, hg2, hgo, hw]
              exact ⟨this, by simp [underN, this]⟩
            have HQ := Lib.hid hq
            clear he hbad hq
            go_enter Try.func47, Try.ntmps47
            go_wp2_with fail
            refine HG.out.mono ?_
            rintro e w' ⟨rfl, rfl⟩
            go_wp2_with fail
            refine HG2.out.mono ?_
            rintro e w' ⟨rfl, rfl⟩
            go_wp2_with fail
            refine HB.out.mono ?_
            intro e w1 hr
            obtain ⟨a4, c4, rfl, hi4, hb1⟩ := hr.ints hD hD2
            have hi1 := (h.below hb1 (Nat.le_refl _)).mono hb1.size
            have hi2 := (h2.below hb1 (Nat.le_refl _)).mono hb1.size
            have hi3 := (h3.below hb1 (Nat.le_refl _)).mono hb1.size
            have H2 := slicesEqual_any a4 a2 c4 c2 _ _ _ w1 hi4 hi2
            rw [decide_eq_true HQ.out] at H2
            have H3 : ∀ q, Calls Try.prog 70 #[.slice a2 t.length c2, .slice a3 is.length c3] (w1.drewN q) fun e w' => e = .returned (.bool (withinB t is)) ∧ w1.drewN q = w' :=
              fun q => within_any a2 a3 c2 c3 _ t is (w1.drewN q) (hi2.below (below_drewN (Below.refl _ _) q) (Nat.le_refl _)) (hi3.below (below_drewN (Below.refl _ _) q) (Nat.le_refl _))
            rw [hw] at H3
            have H4 : ∀ q, Calls Try.prog 75 #[.slice a s.length c, .slice a2 t.length c2, .slice a3 is.length c3] (w1.drewN q) fun e w' => e = .returned (.int .i64 (placeI s (adjL s t is))) ∧ w1.drewN q = w' :=
              fun q => lies_any a a2 a3 c c2 c3 _ s t is (w1.drewN q) (hi1.below (below_drewN (Below.refl _ _) q) (Nat.le_refl _)) (hi2.below (below_drewN (Below.refl _ _) q) (Nat.le_refl _)) (hi3.below (below_drewN (Below.refl _ _) q) (Nat.le_refl _)) hg hg2 hgo hw
            have HH2 := Lib.hid H2
            have HH3 := Lib.hid H3
            have HH4 := Lib.hid H4
            have HB1 := Lib.hid hb1
            clear hb1 hi4 hr HB h h2 h3 hi1 hi2 hi3 H2 H3 H4
            go_wp2_with (first | (go_at_call 74; refine HH2.out.mono ?_; rintro e w' ⟨rfl, q, rfl⟩) | (go_at_call 70; refine (HH3.out _).mono ?_; rintro e w' ⟨rfl, rfl⟩) | (go_at_call 75; refine (HH4.out _).mono ?_; rintro e w' ⟨rfl, rfl⟩))
            go_ret2
            exact ⟨by rw [HE.out.1, HE.out.2]; rfl, below_drewN HB1.out _⟩
        · have HE := Lib.hid (hbad (by simp [goesB, hq]))
          have HQ := Lib.hid hq
          clear he hbad hq
          go_enter Try.func47, Try.ntmps47
          go_wp2_with fail
          refine HG.out.mono ?_
          rintro e w' ⟨rfl, rfl⟩
          go_wp2_with fail
          refine HG2.out.mono ?_
          rintro e w' ⟨rfl, rfl⟩
          go_wp2_with fail
          refine HB.out.mono ?_
          intro e w1 hr
          obtain ⟨a4, c4, rfl, hi4, hb1⟩ := hr.ints hD hD2
          have hi2 := (h2.below hb1 (Nat.le_refl _)).mono hb1.size
          have H2 := slicesEqual_any a4 a2 c4 c2 _ _ _ w1 hi4 hi2
          rw [decide_eq_false HQ.out] at H2
          have HH2 := Lib.hid H2
          have HB1 := Lib.hid hb1
          clear hb1 hi4 hr HB h h2 h3 hi2 H2
          go_wp2_with (first | (go_at_call 74; refine HH2.out.mono ?_; rintro e w' ⟨rfl, q, rfl⟩))
          go_ret2
          exact ⟨by rw [HE.out.1, HE.out.2]; rfl, below_drewN HB1.out _⟩
      · have he1 : (spreadE s t == 0) = false := by simp [he]
        have he2 : (spreadE s t != 0) = true := by simp [he]
        have HE := Lib.hid (hbad (by simp [goesB, he]))
        clear he hbad
        go_enter Try.func47, Try.ntmps47
        go_wp2_with fail
        refine HG.out.mono ?_
        rintro e w' ⟨rfl, rfl⟩
        go_wp2_with fail
        refine HG2.out.mono ?_
        rintro e w' ⟨rfl, rfl⟩
        go_wp2_with fail
        refine HB.out.mono ?_
        intro e w1 hr
        obtain ⟨a4, c4, rfl, hi4, hb1⟩ := hr.ints hD hD2
        have HB1 := Lib.hid hb1
        clear hb1 hi4 hr HB h h2 h3
        go_wp2_with fail
        go_ret2
        exact ⟨by rw [HE.out.1, HE.out.2]; rfl, HB1.out⟩

set_option maxHeartbeats 400000 in
theorem runder_any (a a2 a3 : Option Addr) (c c2 c3 : Nat) (s t is : List Int) (w : World) (h : Ints .i64 w w.heap.size a s) (h2 : Ints .i64 w w.heap.size a2 t) (h3 : Ints .i64 w w.heap.size a3 is)
    (hg : goodB s = true) (hg2 : goodB t = true) (hgo : goesB s t = true) (hw : withinB t is = true) :
    Calls Try.prog 46 #[.slice a s.length c, .slice a2 t.length c2, .slice a3 is.length c3] w fun e w' => e = .returned (.int .i64 (placeI s (adjL s t is))) ∧ Below w.heap.size w w' := by
  have hm := h.len
  have ht4 := (goodB_iff.1 hg2).1
  have hs4 := (goodB_iff.1 hg).1
  have hD := goodB_dims hg
  have HW := Lib.hid (adj_within hD hgo hw)
  have hle := (goes_facts hD hgo).1
  have HL := Lib.hid (withinB_length hw)
  have HAL := Lib.hid (adjL_length s t is hle HL.out)
  clear hw hg2 h2 hgo
  go_enter Try.func46, Try.ntmps46
  go_wp2_with (at_make; (refine wpl_make 46 3 .i64 infoInt Try.underlying46 w.heap.size s.length _ _ _ _ rfl rfl rfl rfl rfl rfl (by omega) (Nat.le_refl _) ?_); intro w1 hown hgrow _)
  go_loopw [8] (fun i wr => ∃ k : Nat, k ≤ s.length ∧ i = .int .i64 k ∧ wr.ownsRow w.heap.size 3 1 (.slice (some ⟨w.heap.size, 0, none⟩) s.length s.length) s.length ((frontL (adjL s t is) k).map (Value.int .i64)) ∧ Below w.heap.size w wr) (fun i _ => s.length - (intOf i).toNat)
  case atStart =>
    refine ⟨0, Nat.zero_le _, rfl, ?_, hgrow _ (Nat.le_refl _)⟩
    have e := frontL_zero (adjL s t is)
    rw [HAL.out] at e
    rw [e]
    exact hown
  case round =>
    obtain ⟨k, hk, rfl, hown2, hbel⟩ := hrel
    clear hown hgrow
    by_cases hlt : k < s.length
    · have hlt2 : k + t.length - s.length < is.length := by have := HL.out; omega
      have hidx : t.length - s.length + k = k + t.length - s.length := by omega
      have hlt3 : k < (adjL s t is).length := by have := HAL.out; omega
      have hx1 := h.below hbel (Nat.le_refl _)
      have hx3 := h3.below hbel (Nat.le_refl _)
      obtain ⟨b, off, rfl, hlb, hcell⟩ := hx1.cell k hlt
      obtain ⟨b3, off3, rfl, hlb3, hcell3⟩ := hx3.cell _ hlt2
      clear h h3 hx1 hx3
      rw [List.getElem?_eq_getElem hlt] at hcell
      rw [List.getElem?_eq_getElem hlt2] at hcell3
      simp only [Option.getD_some] at hcell hcell3
      have hget := adjL_get s t is hle HL.out k hlt
      rw [hidx, List.getElem?_eq_getElem hlt, List.getElem?_eq_getElem hlt2] at hget
      clear hidx
      simp only [Option.getD_some] at hget
      have hold : wr.cell? ⟨w.heap.size, k, none⟩ = some (.int .i64 ((frontL (adjL s t is) k)[k]?.getD 0)) := own_cell hown2 hlt
      have hfr := hown2.frozenAt k
      have hd1 := hD.at hlt
      obtain ⟨hd1, hd2⟩ := hd1
      have hne : b ≠ w.heap.size := by omega
      have hne3 : b3 ≠ w.heap.size := by omega
      have h0 : 0 ≤ (k : Int) + (t.length : Int) - (s.length : Int) := by omega
      have hlt2' : (k : Int) + (t.length : Int) - (s.length : Int) < is.length := by omega
      by_cases h1 : s[k] = 1
      · rw [if_pos h1] at hget
        have HO : Hid (wr.ownsRow w.heap.size 3 1 (.slice (some ⟨w.heap.size, 0, none⟩) s.length s.length) s.length ((frontL (adjL s t is) (k + 1)).map (Value.int .i64))) := by
          have e := frontL_set (adjL s t is) k hlt3 0 hget
          have e2 : (frontL (adjL s t is) k).set k 0 = frontL (adjL s t is) k := by
            have hz : (frontL (adjL s t is) k)[k]? = some 0 := by
              unfold frontL
              rw [List.getElem?_append_right (by simp; omega), List.getElem?_replicate]
              simp
              omega
            apply List.ext_getElem?
            intro j
            rw [List.getElem?_set]
            by_cases ej : k = j
            · subst ej
              rw [if_pos rfl, hz]
              have : k < (frontL (adjL s t is) k).length := (List.getElem?_eq_some_iff.1 hz).1
              rw [if_pos this]
            · rw [if_neg ej]
          rw [← e, e2]
          exact hown2
        have h1b : ¬ (1 < s[k]) := by omega
        have HB := Lib.hid hbel
        have H1 := Lib.hid h1
        clear hown2 hbel hget h1
        go_wp2
        go_roundw
        case rel => exact ⟨k + 1, by omega, by go_num, HO.out, HB.out⟩
        case measure => simp [intOf]; omega
      · rw [if_neg h1] at hget
        have hst := hown2.stored k (.int .i64 is[k + t.length - s.length])
        have HO : Hid ((wr.setCell ⟨w.heap.size, k, none⟩ (.int .i64 is[k + t.length - s.length])).ownsRow w.heap.size 3 1 (.slice (some ⟨w.heap.size, 0, none⟩) s.length s.length) s.length ((frontL (adjL s t is) (k + 1)).map (Value.int .i64))) := by
          have h0 := hst.1
          rw [map_set, frontL_set _ k hlt3 _ hget] at h0
          exact h0
        have h1b : 1 < s[k] := by omega
        have HB := Lib.hid (hbel.setCell (p := ⟨w.heap.size, k, none⟩) (Nat.le_refl _) (.int .i64 is[k + t.length - s.length]))
        have H1 := Lib.hid h1
        clear hown2 hbel hget hst h1
        go_wp2
        go_roundw
        case rel => exact ⟨k + 1, by omega, by go_num, HO.out, HB.out⟩
        case measure => simp [intOf]; omega
    · have hke : k = s.length := by omega
      subst hke
      have e := frontL_full (adjL s t is)
      rw [HAL.out] at e
      rw [e] at hown2
      obtain ⟨aS, cS, heS, hiS⟩ := own_ints hown2 (by
        intro x hx
        obtain ⟨j, hj, he⟩ := List.getElem_of_mem hx
        have hb := (withinB_iff.1 HW.out).2 j (by rw [HAL.out] at hj; exact hj)
        have hd := hD.at (k := j) (by rw [HAL.out] at hj; exact hj)
        rw [List.getElem?_eq_getElem hj, he, List.getElem?_eq_getElem (by rw [HAL.out] at hj; exact hj)] at hb
        simp only [Option.getD_some] at hb
        exact wf_i64_iff.2 ⟨by omega, by omega⟩)
      rw [HAL.out] at heS
      injection heS with he1 he2 he3
      subst he1; subst he3
      have HI := rindex_any a _ c s.length s (adjL s t is) wr ((h.below hbel (Nat.le_refl _)).mono hbel.size) hiS hg HW.out
      rw [HAL.out] at HI
      have HH := Lib.hid HI
      have HB := Lib.hid hbel
      have hsz := hbel.size
      clear hown2 hbel h h3 hiS HI e hg
      go_wp2_with (go_at_call 40; refine HH.out.mono ?_; rintro e w2 ⟨rfl, hb2⟩)
      go_ret
      exact ⟨rfl, HB.out.trans (hb2.mono hsz)⟩

end Go.Proofs.Ytiejkdnkdmanmaa
