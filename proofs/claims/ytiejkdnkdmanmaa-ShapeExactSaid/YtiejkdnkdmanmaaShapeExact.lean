/- The law ShapeExact, walked. -/
import Derived.Test.YtiejkdnkdmanmaaShapeWA
import Derived.Test.YtiejkdnkdmanmaaShapeTwo
set_option linter.unusedVariables false
set_option linter.unusedSimpArgs false
namespace Go.Proofs.Ytiejkdnkdmanmaa
open Go.RowKit Go.Rt

theorem at_mem {S : List Int} {n : Int} (hg : goodB S = true) : ∀ x ∈ atL S n, (Lit.int .i64 x).wf = true := by
  unfold atL
  split
  · exact wf_dims (fun x hx => by have := standsI_mem (goodB_dims hg) x hx; omega)
  · simp
theorem atE_zero {S : List Int} {n : Int} (h : atE S n = 0) : goodB S = true ∧ 0 ≤ n ∧ n < prodI S := by
  unfold atE at h
  split at h
  · split at h
    · exact ⟨by assumption, by assumption⟩
    · cases h
  · cases h

set_option maxHeartbeats 4000000 in
set_option maxRecDepth 100000 in
theorem shapeExact_any (a : Option Addr) (n c : Nat) (w : World) (h : TwosAt w w.heap.size a n) :
    Calls Try.prog 7 #[.slice a n c] w fun e w' => e = .returned (.bool true) ∧ Below w.heap.size w w' := by
  have hm := h.len
  go_enter Try.func7, Try.ntmps7
  go_wp2_with fail
  go_loopw [3] (fun i wr => ∃ k : Nat, k ≤ n ∧ i = .int .i64 k ∧ Below w.heap.size w wr) (fun i _ => n - (intOf i).toNat)
  case atStart => exact ⟨0, Nat.zero_le _, rfl, Below.refl _ _⟩
  case round =>
    obtain ⟨k, hk, rfl, hbel⟩ := hrel
    by_cases hend : k < n ∧ k < 20
    · obtain ⟨hlt, h20⟩ := hend
      obtain ⟨b, off, aS, aT, aI, S, T, I, cS, cT, cI, m, rfl, ht⟩ := h.at_ k hlt
      replace ht := ht.below hbel
      have hsz := hbel.size
      obtain ⟨hbl, c0, c1, c2, c3, iS, iT, iI, m0, m1⟩ := ht
      replace iS := iS.mono hsz
      replace iT := iT.mono hsz
      replace iI := iI.mono hsz
      have HB := Lib.hid hbel
      have hSl := iS.len
      have hTl := iT.len
      have hIl := iI.len
      have HSwf := Lib.hid iS.wf
      clear hbel h
      have E : Env .i64 3 wr.heap.size wr (wr.alloc (.cells #[.slice aS S.length cS, .slice aT T.length cT, .slice aI I.length cI, .int .i64 m] 48))
          [(aI, I), (aT, T), (aS, S)] [] [(⟨wr.heap.size, 3, none⟩, .int .i64 m), (⟨wr.heap.size, 2, none⟩, .slice aI I.length cI), (⟨wr.heap.size, 0, none⟩, .slice aS S.length cS)] :=
        (((((((Env.start .i64 3 wr).addL iS).addL iT).addL iI).alloc _).addC (by simp [go_sem])).addC (by simp [go_sem])).addC (by simp [go_sem])
      clear iS iT iI
      have HLong := Lib.hid (long_any aS aT aI S.length T.length I.length cS cT cI m (wr.alloc (.cells #[.slice aS S.length cS, .slice aT T.length cT, .slice aI I.length cI, .int .i64 m] 48)) hSl hTl hIl)
      unfold twoV at HLong
      by_cases hlong : 12 < S.length ∨ 12 < T.length ∨ 12 < I.length
      · rw [decide_eq_true hlong] at HLong
        clear hlong
        go_wp2_with fail
        refine HLong.out.mono ?_
        rintro e w1 ⟨rfl, hb⟩
        have HE := Lib.hid (E.bel.trans (hb.mono E.hB))
        clear hb E HLong
        go_wp2_with fail
        go_ret
        exact ⟨rfl, HB.out.trans (HE.out.mono hsz)⟩
      · rw [decide_eq_false hlong] at HLong
        have hS12 : S.length ≤ 12 := by omega
        clear hlong hTl hIl
        go_wp2_with fail
        refine HLong.out.mono ?_
        rintro e w1 ⟨rfl, hb⟩
        replace E := E.next hb
        clear hb HLong c0 c1 c2 c3
        have p0 := E.cell (a := ⟨wr.heap.size, 0, none⟩) (by simp; rfl)
        go_wp2_with fail
        refine (copyNumbers_any aS cS S w1 (E.live (by simp)) (by omega)).mono ?_
        rintro e w2 ⟨vs, rfl, hown, hb⟩
        obtain ⟨sa, sc, rfl, E2⟩ := E.made hb hown HSwf.out
        replace HB := Lib.hid (HB.out.trans (E2.bel.mono hsz))
        have hsz2 := E2.hB
        replace E := E2.restart
        clear E2 hown hb p0
        have p0 := E.cell (a := ⟨wr.heap.size, 0, none⟩) (by simp; rfl)
        have p2 := E.cell (a := ⟨wr.heap.size, 2, none⟩) (by simp; rfl)
        have p3 := E.cell (a := ⟨wr.heap.size, 3, none⟩) (by simp; rfl)
        have hszW : w.heap.size ≤ w2.heap.size := HB.out.size
        have HSA := Lib.hid (E.live (a := sa) (xs := S) (by simp))
        have HSP := Lib.hid (E.live (a := aS) (xs := S) (by simp))
        have HP0 := Lib.hid (E.cells (⟨wr.heap.size, 0, none⟩, .slice aS S.length cS) (by simp))
        cases hg : goodB S
        · -- no shape
          have hm1 := rmay_any aS cS _ S w2 (E.live (by simp))
          rw [hg] at hm1
          replace hm1 := Lib.hid hm1
          have hk1 := count_any sa sc _ S w2 (E.live (by simp))
          rw [hg] at hk1
          replace hk1 := Lib.hid hk1
          have hs1 := strides_any sa sc S w2 (E.live (by simp))
          rw [hg] at hs1
          replace hs1 := Lib.hid hs1
          go_wp2_with (first | (go_at_call 26; refine hm1.out.mono ?_; rintro e w' ⟨rfl, rfl⟩) | (go_at_call 27; refine hk1.out.mono ?_; rintro e w' ⟨rfl, rfl⟩))
          refine hs1.out.mono ?_
          rintro e w3 ⟨vt, rfl, ho, hb⟩
          simp only [Bool.false_eq_true, if_false] at ho
          obtain ⟨tA, tC, rfl, E2⟩ := E.made hb ho (by simp)
          replace E := E2
          clear E2 ho hb hm1 hk1 hs1 p0 p2 p3
          have p0 := E.cell (a := ⟨wr.heap.size, 0, none⟩) (by simp; rfl)
          have p2 := E.cell (a := ⟨wr.heap.size, 2, none⟩) (by simp; rfl)
          have p3 := E.cell (a := ⟨wr.heap.size, 3, none⟩) (by simp; rfl)
          have hc1 := check_any sa sc _ S w3 (E.live (by simp))
          rw [hg] at hc1
          replace hc1 := Lib.hid hc1
          have he1 : Calls Try.prog 34 #[.slice tA 0 tC, .slice none 0 0] w3 _ := eqNumbers_any tA none tC 0 _ [] [] w3 (E.live (by simp)) (Ints.nil _ _ _ _)
          replace he1 := Lib.hid he1
          go_wp2_with (first | (go_at_call 38; refine hc1.out.mono ?_; rintro e w' ⟨rfl, rfl⟩) | (go_at_call 29; refine (num6_any _ _).mono ?_; rintro e w' ⟨rfl, rfl⟩) | (go_at_call 34; refine he1.out.mono ?_; rintro e w' ⟨rfl, q1, rfl⟩))
          replace E := E.drewN q1
          clear hc1 he1
          have hi1 := index_any sa aI sc cI _ S I (w3.drewN q1) (E.live (by simp)) (E.live (by simp))
          rw [show indexE S I = 1 by simp [indexE, hg], show indexN S I = 0 by simp [indexN, indexE, hg]] at hi1
          replace hi1 := Lib.hid hi1
          have hA : atE S m = 1 := by simp [atE, hg]
          have hAL : atL S m = [] := by simp [atL, hA]
          have ha1 := at_any sa sc S m (w3.drewN q1) (E.live (by simp)) m1
          rw [hA, hAL] at ha1
          replace ha1 := Lib.hid ha1
          clear hA hAL
          go_wp2_with (go_at_call 33; refine hi1.out.mono ?_; rintro e w' ⟨rfl, rfl⟩)
          refine ha1.out.mono ?_
          rintro e w4 ⟨vx, rfl, ho, hb⟩
          have HDIS : Hid (∀ g, (Value.slice tA ([] : List Int).length tC).ownBlock = some g → g < (w3.drewN q1).heap.size) := fun g hg => ((E.own (b := w2.heap.size) (a := tA) (c := tC) (xs := []) (by simp)).lt g hg).2
          obtain ⟨xA, xC, rfl, E2⟩ := E.made hb ho (by simp)
          replace E := E2
          clear E2 ho hb hi1 ha1 p0 p2 p3
          have p0 := E.cell (a := ⟨wr.heap.size, 0, none⟩) (by simp; rfl)
          have p2 := E.cell (a := ⟨wr.heap.size, 2, none⟩) (by simp; rfl)
          have p3 := E.cell (a := ⟨wr.heap.size, 3, none⟩) (by simp; rfl)
          have he1 : Calls Try.prog 34 #[.slice xA 0 xC, .slice none 0 0] w4 _ := eqNumbers_any xA none xC 0 _ [] [] w4 (E.live (by simp)) (Ints.nil _ _ _ _)
          replace he1 := Lib.hid he1
          go_wp2_with (first | (go_at_call 29; refine (num6_any _ _).mono ?_; rintro e w' ⟨rfl, rfl⟩) | (go_at_call 34; refine he1.out.mono ?_; rintro e w' ⟨rfl, q2, rfl⟩))
          clear he1
          replace E := E.drewN q2
          have HT := numbers_any tA tC w2.heap.size [] _ (E.own (by simp)) (by simp) (E.ownLe (b := w2.heap.size) (a := tA) (c := tC) (xs := []) (by simp))
          replace HT := Lib.hid HT
          have HX := Lib.hid (E.own (b := (w3.drewN q1).heap.size) (a := xA) (c := xC) (xs := []) (by simp))
          have HXle := E.ownLe (b := (w3.drewN q1).heap.size) (a := xA) (c := xC) (xs := []) (by simp)
          have HXB := (E.owns ((w3.drewN q1).heap.size, xA, xC, []) (by simp)).2.1
          have HTB := (E.owns (w2.heap.size, tA, tC, []) (by simp)).2.1
          have HBEL := Lib.hid E.bel
          clear E p0 p2 p3
          go_wp2_with fail
          refine HT.out.mono ?_
          rintro e wT ⟨rfl, hgT, hbT⟩
          have HX2 := own_other HX.out HDIS.out hgT
          replace HX2 := Lib.hid HX2
          have HN := numbers_any xA xC (w3.drewN q1).heap.size [] wT HX2.out (by simp) (Nat.le_trans HXle hgT.size)
          replace HN := Lib.hid HN
          have hbel1 := HBEL.out.trans (hbT.mono HTB)
          have HBEL1 := Lib.hid hbel1
          clear hgT hbT HT HX HX2 hbel1 HBEL HDIS
          go_wp2_with fail
          refine HN.out.mono ?_
          rintro e wX ⟨rfl, _, hbX⟩
          have hbel2 := HBEL1.out.trans (hbX.mono HXB)
          have p0 := (hbel2.cell (p := ⟨wr.heap.size, 0, none⟩) HP0.out.2).trans HP0.out.1
          have HQ := eqNumbers_any sa aS sc cS _ S S wX (HSA.out.below hbel2 (Nat.le_refl _)) (HSP.out.below hbel2 (Nat.le_refl _))
          rw [decide_eq_true rfl] at HQ
          replace HQ := Lib.hid HQ
          replace HB := Lib.hid (HB.out.trans (hbel2.mono hszW))
          clear hbX hbel2 HN HBEL1
          go_wp2_with (go_at_call 34; refine HQ.out.mono ?_; rintro e w' ⟨rfl, q, rfl⟩)
          go_roundw
          case rel => exact ⟨k + 1, by omega, by go_num, below_drewN HB.out _⟩
          case measure => simp [intOf]; omega
        · -- a shape
          have hm1 := rmay_any aS cS _ S w2 (E.live (by simp))
          rw [hg] at hm1
          replace hm1 := Lib.hid hm1
          have hr1 := rcount_any aS cS _ S w2 (E.live (by simp)) (goodB_dims hg)
          rw [countE_good hg] at hr1
          replace hr1 := Lib.hid hr1
          have hr2 := rstrides_any aS cS S w2 (E.live (by simp)) hg
          replace hr2 := Lib.hid hr2
          go_wp2_with (first | (go_at_call 26; refine hm1.out.mono ?_; rintro e w' ⟨rfl, rfl⟩) | (go_at_call 36; refine hr1.out.mono ?_; rintro e w' ⟨rfl, rfl⟩))
          refine hr2.out.mono ?_
          rintro e w3 ⟨vr, rfl, ho, hb⟩
          obtain ⟨rA, rC, rfl, E2⟩ := E.made hb ho (wf_dims (fun x hx => by have := strI_mem (goodB_dims hg) (goodB_prod hg).2 x hx; omega))
          replace E := E2
          clear E2 ho hb hm1 hr1 hr2 p0 p2 p3
          have p0 := E.cell (a := ⟨wr.heap.size, 0, none⟩) (by simp; rfl)
          have p2 := E.cell (a := ⟨wr.heap.size, 2, none⟩) (by simp; rfl)
          have p3 := E.cell (a := ⟨wr.heap.size, 3, none⟩) (by simp; rfl)
          have hk1 := count_any sa sc _ S w3 (E.live (by simp))
          rw [hg] at hk1
          replace hk1 := Lib.hid hk1
          have hs1 := strides_any sa sc S w3 (E.live (by simp))
          rw [hg] at hs1
          replace hs1 := Lib.hid hs1
          go_wp2_with (go_at_call 27; refine hk1.out.mono ?_; rintro e w' ⟨rfl, rfl⟩)
          refine hs1.out.mono ?_
          rintro e w4 ⟨vt, rfl, ho, hb⟩
          simp only [if_true] at ho
          obtain ⟨tA, tC, rfl, E2⟩ := E.made hb ho (wf_dims (fun x hx => by have := strI_mem (goodB_dims hg) (goodB_prod hg).2 x hx; omega))
          replace E := E2
          clear E2 ho hb hk1 hs1 p0 p2 p3
          have p0 := E.cell (a := ⟨wr.heap.size, 0, none⟩) (by simp; rfl)
          have p2 := E.cell (a := ⟨wr.heap.size, 2, none⟩) (by simp; rfl)
          have p3 := E.cell (a := ⟨wr.heap.size, 3, none⟩) (by simp; rfl)
          have hc1 := check_any sa sc _ S w4 (E.live (by simp))
          rw [hg] at hc1
          replace hc1 := Lib.hid hc1
          have he1 := eqNumbers_any tA rA tC rC _ (strI S) (strI S) w4 (E.live (by simp)) (E.live (by simp))
          rw [decide_eq_true rfl] at he1
          replace he1 := Lib.hid he1
          have hpp : (prodI S != prodI S) = false := by simp
          go_wp2_with (first | (go_at_call 38; refine hc1.out.mono ?_; rintro e w' ⟨rfl, rfl⟩) | (go_at_call 29; refine (num6_any _ _).mono ?_; rintro e w' ⟨rfl, rfl⟩) | (go_at_call 34; refine he1.out.mono ?_; rintro e w' ⟨rfl, q1, rfl⟩))
          replace E := E.drewN q1
          clear hc1 he1
          have hi0 := rmayIndex_any aS aI cS cI _ S I (w4.drewN q1) (E.live (by simp)) (E.live (by simp))
          replace hi0 := Lib.hid hi0
          cases hw : withinB S I
          · rw [hw] at hi0
            go_wp2_with (go_at_call 39; refine hi0.out.mono ?_; rintro e w' ⟨rfl, q5, rfl⟩)
            have E2 := E.drewN q5
            rw [World.drewN_drewN] at E2
            replace E := E2
            clear hi0 E2
            have hi1 := index_any sa aI sc cI _ S I (w4.drewN (q1 + q5)) (E.live (by simp)) (E.live (by simp))
            rw [show indexE S I = 2 by simp [indexE, hg, hw], show indexN S I = 0 by simp [indexN, indexE, hg, hw]] at hi1
            replace hi1 := Lib.hid hi1
            by_cases hN : 0 ≤ m ∧ m < prodI S
            · obtain ⟨hN0, hN1⟩ := hN
              have hA : atE S m = 0 := by simp [atE, hg, hN0, hN1]
              have hAL : atL S m = standsI S m := by simp [atL, hA]
              have hr3 := rat_any aS cS S m (w4.drewN (q1 + q5)) (E.live (by simp)) hg hN0 hN1
              replace hr3 := Lib.hid hr3
              have ha0 := fun (X : World) hX => at_any sa sc S m X hX m1
              rw [hA, hAL] at ha0
              replace ha0 := Lib.hid ha0
              have HGD := Lib.hid (goodB_dims hg)
              clear hA hAL
              go_wp2_with (go_at_call 33; refine hi1.out.mono ?_; rintro e w' ⟨rfl, rfl⟩)
              refine hr3.out.mono ?_
              rintro e w6 ⟨vi, rfl, ho, hb⟩
              obtain ⟨iA, iC, rfl, E2⟩ := E.made hb ho (wf_dims (fun x hx => by have := standsI_mem HGD.out x hx; omega))
              replace E := E2
              clear E2 ho hb hi1 hr3 p0 p2 p3
              have p0 := E.cell (a := ⟨wr.heap.size, 0, none⟩) (by simp; rfl)
              have p2 := E.cell (a := ⟨wr.heap.size, 2, none⟩) (by simp; rfl)
              have p3 := E.cell (a := ⟨wr.heap.size, 3, none⟩) (by simp; rfl)
              have ha1 := ha0.out w6 (E.live (by simp))
              replace ha1 := Lib.hid ha1
              go_wp2_with fail
              refine ha1.out.mono ?_
              rintro e w7 ⟨vx, rfl, ho, hb⟩
              have HDIS : Hid (∀ g, (Value.slice tA (strI S).length tC).ownBlock = some g → g < w6.heap.size) := fun g hg => ((E.own (b := w3.heap.size) (a := tA) (c := tC) (xs := strI S) (by simp)).lt g hg).2
              obtain ⟨xA, xC, rfl, E2⟩ := E.made hb ho (wf_dims (fun x hx => by have := standsI_mem HGD.out x hx; omega))
              replace E := E2
              clear E2 ho hb ha1 ha0 p0 p2 p3
              have p0 := E.cell (a := ⟨wr.heap.size, 0, none⟩) (by simp; rfl)
              have p2 := E.cell (a := ⟨wr.heap.size, 2, none⟩) (by simp; rfl)
              have p3 := E.cell (a := ⟨wr.heap.size, 3, none⟩) (by simp; rfl)
              have he1 := eqNumbers_any xA iA xC iC _ (standsI S m) (standsI S m) w7 (E.live (by simp)) (E.live (by simp))
              rw [decide_eq_true rfl] at he1
              replace he1 := Lib.hid he1
              go_wp2_with (first | (go_at_call 29; refine (num6_any _ _).mono ?_; rintro e w' ⟨rfl, rfl⟩) | (go_at_call 34; refine he1.out.mono ?_; rintro e w' ⟨rfl, q2, rfl⟩))
              clear he1
              replace E := E.drewN q2
              have HT := numbers_any tA tC w3.heap.size (strI S) _ (E.own (by simp)) (by rw [strI_length]; omega) (E.ownLe (b := w3.heap.size) (a := tA) (c := tC) (xs := (strI S)) (by simp))
              replace HT := Lib.hid HT
              have HX := Lib.hid (E.own (b := w6.heap.size) (a := xA) (c := xC) (xs := (standsI S m)) (by simp))
              have HXle := E.ownLe (b := w6.heap.size) (a := xA) (c := xC) (xs := (standsI S m)) (by simp)
              have HXB := (E.owns (w6.heap.size, xA, xC, (standsI S m)) (by simp)).2.1
              have HTB := (E.owns (w3.heap.size, tA, tC, (strI S)) (by simp)).2.1
              have HBEL := Lib.hid E.bel
              clear E p0 p2 p3
              go_wp2_with fail
              refine HT.out.mono ?_
              rintro e wT ⟨rfl, hgT, hbT⟩
              have HX2 := own_other HX.out HDIS.out hgT
              replace HX2 := Lib.hid HX2
              have HN := numbers_any xA xC w6.heap.size (standsI S m) wT HX2.out (by rw [standsI_length]; omega) (Nat.le_trans HXle hgT.size)
              replace HN := Lib.hid HN
              have hbel1 := HBEL.out.trans (hbT.mono HTB)
              have HBEL1 := Lib.hid hbel1
              clear hgT hbT HT HX HX2 hbel1 HBEL HDIS
              go_wp2_with fail
              refine HN.out.mono ?_
              rintro e wX ⟨rfl, _, hbX⟩
              have hbel2 := HBEL1.out.trans (hbX.mono HXB)
              have p0 := (hbel2.cell (p := ⟨wr.heap.size, 0, none⟩) HP0.out.2).trans HP0.out.1
              have HQ := eqNumbers_any sa aS sc cS _ S S wX (HSA.out.below hbel2 (Nat.le_refl _)) (HSP.out.below hbel2 (Nat.le_refl _))
              rw [decide_eq_true rfl] at HQ
              replace HQ := Lib.hid HQ
              replace HB := Lib.hid (HB.out.trans (hbel2.mono hszW))
              clear hbX hbel2 HN HBEL1
              go_wp2_with (go_at_call 34; refine HQ.out.mono ?_; rintro e w' ⟨rfl, q, rfl⟩)
              go_roundw
              case rel => exact ⟨k + 1, by omega, by go_num, below_drewN HB.out _⟩
              case measure => simp [intOf]; omega
            · have hA : atE S m = 2 := by simp only [atE, hg, if_true]; rw [if_neg hN]
              have hAL : atL S m = [] := by simp [atL, hA]
              have ha1 := at_any sa sc S m (w4.drewN (q1 + q5)) (E.live (by simp)) m1
              rw [hA, hAL] at ha1
              replace ha1 := Lib.hid ha1
              clear hA hAL
              have hcase : (m < 0) ∨ (0 ≤ m ∧ prodI S ≤ m) := by omega
              clear hN
              rcases hcase with hc0 | ⟨hc0, hc1⟩
              all_goals
                go_wp2_with (go_at_call 33; refine hi1.out.mono ?_; rintro e w' ⟨rfl, rfl⟩)
                refine ha1.out.mono ?_
                rintro e w7 ⟨vx, rfl, ho, hb⟩
                have HDIS : Hid (∀ g, (Value.slice tA (strI S).length tC).ownBlock = some g → g < (w4.drewN (q1 + q5)).heap.size) := fun g hg => ((E.own (b := w3.heap.size) (a := tA) (c := tC) (xs := strI S) (by simp)).lt g hg).2
                obtain ⟨xA, xC, rfl, E2⟩ := E.made hb ho (by simp)
                replace E := E2
                clear E2 ho hb ha1 hi1 p0 p2 p3
                have p0 := E.cell (a := ⟨wr.heap.size, 0, none⟩) (by simp; rfl)
                have p2 := E.cell (a := ⟨wr.heap.size, 2, none⟩) (by simp; rfl)
                have p3 := E.cell (a := ⟨wr.heap.size, 3, none⟩) (by simp; rfl)
                have he1 : Calls Try.prog 34 #[.slice xA 0 xC, .slice none 0 0] w7 _ := eqNumbers_any xA none xC 0 _ [] [] w7 (E.live (by simp)) (Ints.nil _ _ _ _)
                replace he1 := Lib.hid he1
                go_wp2_with (first | (go_at_call 29; refine (num6_any _ _).mono ?_; rintro e w' ⟨rfl, rfl⟩) | (go_at_call 34; refine he1.out.mono ?_; rintro e w' ⟨rfl, q2, rfl⟩))
                clear he1
                replace E := E.drewN q2
                have HT := numbers_any tA tC w3.heap.size (strI S) _ (E.own (by simp)) (by rw [strI_length]; omega) (E.ownLe (b := w3.heap.size) (a := tA) (c := tC) (xs := (strI S)) (by simp))
                replace HT := Lib.hid HT
                have HX := Lib.hid (E.own (b := (w4.drewN (q1 + q5)).heap.size) (a := xA) (c := xC) (xs := []) (by simp))
                have HXle := E.ownLe (b := (w4.drewN (q1 + q5)).heap.size) (a := xA) (c := xC) (xs := []) (by simp)
                have HXB := (E.owns ((w4.drewN (q1 + q5)).heap.size, xA, xC, []) (by simp)).2.1
                have HTB := (E.owns (w3.heap.size, tA, tC, (strI S)) (by simp)).2.1
                have HBEL := Lib.hid E.bel
                clear E p0 p2 p3
                go_wp2_with fail
                refine HT.out.mono ?_
                rintro e wT ⟨rfl, hgT, hbT⟩
                have HX2 := own_other HX.out HDIS.out hgT
                replace HX2 := Lib.hid HX2
                have HN := numbers_any xA xC (w4.drewN (q1 + q5)).heap.size [] wT HX2.out (by simp) (Nat.le_trans HXle hgT.size)
                replace HN := Lib.hid HN
                have hbel1 := HBEL.out.trans (hbT.mono HTB)
                have HBEL1 := Lib.hid hbel1
                clear hgT hbT HT HX HX2 hbel1 HBEL HDIS
                go_wp2_with fail
                refine HN.out.mono ?_
                rintro e wX ⟨rfl, _, hbX⟩
                have hbel2 := HBEL1.out.trans (hbX.mono HXB)
                have p0 := (hbel2.cell (p := ⟨wr.heap.size, 0, none⟩) HP0.out.2).trans HP0.out.1
                have HQ := eqNumbers_any sa aS sc cS _ S S wX (HSA.out.below hbel2 (Nat.le_refl _)) (HSP.out.below hbel2 (Nat.le_refl _))
                rw [decide_eq_true rfl] at HQ
                replace HQ := Lib.hid HQ
                replace HB := Lib.hid (HB.out.trans (hbel2.mono hszW))
                clear hbX hbel2 HN HBEL1
                go_wp2_with (go_at_call 34; refine HQ.out.mono ?_; rintro e w' ⟨rfl, q, rfl⟩)
                go_roundw
                case rel => exact ⟨k + 1, by omega, by go_num, below_drewN HB.out _⟩
                case measure => simp [intOf]; omega
          · rw [hw] at hi0
            go_wp2_with (go_at_call 39; refine hi0.out.mono ?_; rintro e w' ⟨rfl, q5, rfl⟩)
            have E2 := E.drewN q5
            rw [World.drewN_drewN] at E2
            replace E := E2
            clear hi0 E2
            have hj1 := rindex_any aS aI cS cI S I (w4.drewN (q1 + q5)) (E.live (by simp)) (E.live (by simp)) hg hw
            replace hj1 := Lib.hid hj1
            refine hj1.out.mono ?_
            rintro e w5 ⟨rfl, hb⟩
            replace E := E.next hb
            clear hb hj1 p0 p2 p3
            have p0 := E.cell (a := ⟨wr.heap.size, 0, none⟩) (by simp; rfl)
            have p2 := E.cell (a := ⟨wr.heap.size, 2, none⟩) (by simp; rfl)
            have p3 := E.cell (a := ⟨wr.heap.size, 3, none⟩) (by simp; rfl)
            have hi1 := index_any sa aI sc cI _ S I w5 (E.live (by simp)) (E.live (by simp))
            rw [show indexE S I = 0 by simp [indexE, hg, hw], show indexN S I = placeI S I by simp [indexN, indexE, hg, hw]] at hi1
            replace hi1 := Lib.hid hi1
            have hpl : (placeI S I != placeI S I) = false := by simp
            by_cases hN : 0 ≤ m ∧ m < prodI S
            · obtain ⟨hN0, hN1⟩ := hN
              have hA : atE S m = 0 := by simp [atE, hg, hN0, hN1]
              have hAL : atL S m = standsI S m := by simp [atL, hA]
              have hr3 := rat_any aS cS S m w5 (E.live (by simp)) hg hN0 hN1
              replace hr3 := Lib.hid hr3
              have ha0 := fun (X : World) hX => at_any sa sc S m X hX m1
              rw [hA, hAL] at ha0
              replace ha0 := Lib.hid ha0
              have HGD := Lib.hid (goodB_dims hg)
              clear hA hAL
              go_wp2_with (go_at_call 33; refine hi1.out.mono ?_; rintro e w' ⟨rfl, rfl⟩)
              refine hr3.out.mono ?_
              rintro e w6 ⟨vi, rfl, ho, hb⟩
              obtain ⟨iA, iC, rfl, E2⟩ := E.made hb ho (wf_dims (fun x hx => by have := standsI_mem HGD.out x hx; omega))
              replace E := E2
              clear E2 ho hb hi1 hr3 p0 p2 p3
              have p0 := E.cell (a := ⟨wr.heap.size, 0, none⟩) (by simp; rfl)
              have p2 := E.cell (a := ⟨wr.heap.size, 2, none⟩) (by simp; rfl)
              have p3 := E.cell (a := ⟨wr.heap.size, 3, none⟩) (by simp; rfl)
              have ha1 := ha0.out w6 (E.live (by simp))
              replace ha1 := Lib.hid ha1
              go_wp2_with fail
              refine ha1.out.mono ?_
              rintro e w7 ⟨vx, rfl, ho, hb⟩
              have HDIS : Hid (∀ g, (Value.slice tA (strI S).length tC).ownBlock = some g → g < w6.heap.size) := fun g hg => ((E.own (b := w3.heap.size) (a := tA) (c := tC) (xs := strI S) (by simp)).lt g hg).2
              obtain ⟨xA, xC, rfl, E2⟩ := E.made hb ho (wf_dims (fun x hx => by have := standsI_mem HGD.out x hx; omega))
              replace E := E2
              clear E2 ho hb ha1 ha0 p0 p2 p3
              have p0 := E.cell (a := ⟨wr.heap.size, 0, none⟩) (by simp; rfl)
              have p2 := E.cell (a := ⟨wr.heap.size, 2, none⟩) (by simp; rfl)
              have p3 := E.cell (a := ⟨wr.heap.size, 3, none⟩) (by simp; rfl)
              have he1 := eqNumbers_any xA iA xC iC _ (standsI S m) (standsI S m) w7 (E.live (by simp)) (E.live (by simp))
              rw [decide_eq_true rfl] at he1
              replace he1 := Lib.hid he1
              go_wp2_with (first | (go_at_call 29; refine (num6_any _ _).mono ?_; rintro e w' ⟨rfl, rfl⟩) | (go_at_call 34; refine he1.out.mono ?_; rintro e w' ⟨rfl, q2, rfl⟩))
              clear he1
              replace E := E.drewN q2
              have HT := numbers_any tA tC w3.heap.size (strI S) _ (E.own (by simp)) (by rw [strI_length]; omega) (E.ownLe (b := w3.heap.size) (a := tA) (c := tC) (xs := (strI S)) (by simp))
              replace HT := Lib.hid HT
              have HX := Lib.hid (E.own (b := w6.heap.size) (a := xA) (c := xC) (xs := (standsI S m)) (by simp))
              have HXle := E.ownLe (b := w6.heap.size) (a := xA) (c := xC) (xs := (standsI S m)) (by simp)
              have HXB := (E.owns (w6.heap.size, xA, xC, (standsI S m)) (by simp)).2.1
              have HTB := (E.owns (w3.heap.size, tA, tC, (strI S)) (by simp)).2.1
              have HBEL := Lib.hid E.bel
              clear E p0 p2 p3
              go_wp2_with fail
              refine HT.out.mono ?_
              rintro e wT ⟨rfl, hgT, hbT⟩
              have HX2 := own_other HX.out HDIS.out hgT
              replace HX2 := Lib.hid HX2
              have HN := numbers_any xA xC w6.heap.size (standsI S m) wT HX2.out (by rw [standsI_length]; omega) (Nat.le_trans HXle hgT.size)
              replace HN := Lib.hid HN
              have hbel1 := HBEL.out.trans (hbT.mono HTB)
              have HBEL1 := Lib.hid hbel1
              clear hgT hbT HT HX HX2 hbel1 HBEL HDIS
              go_wp2_with fail
              refine HN.out.mono ?_
              rintro e wX ⟨rfl, _, hbX⟩
              have hbel2 := HBEL1.out.trans (hbX.mono HXB)
              have p0 := (hbel2.cell (p := ⟨wr.heap.size, 0, none⟩) HP0.out.2).trans HP0.out.1
              have HQ := eqNumbers_any sa aS sc cS _ S S wX (HSA.out.below hbel2 (Nat.le_refl _)) (HSP.out.below hbel2 (Nat.le_refl _))
              rw [decide_eq_true rfl] at HQ
              replace HQ := Lib.hid HQ
              replace HB := Lib.hid (HB.out.trans (hbel2.mono hszW))
              clear hbX hbel2 HN HBEL1
              go_wp2_with (go_at_call 34; refine HQ.out.mono ?_; rintro e w' ⟨rfl, q, rfl⟩)
              go_roundw
              case rel => exact ⟨k + 1, by omega, by go_num, below_drewN HB.out _⟩
              case measure => simp [intOf]; omega
            · have hA : atE S m = 2 := by simp only [atE, hg, if_true]; rw [if_neg hN]
              have hAL : atL S m = [] := by simp [atL, hA]
              have ha1 := at_any sa sc S m w5 (E.live (by simp)) m1
              rw [hA, hAL] at ha1
              replace ha1 := Lib.hid ha1
              clear hA hAL
              have hcase : (m < 0) ∨ (0 ≤ m ∧ prodI S ≤ m) := by omega
              clear hN
              rcases hcase with hc0 | ⟨hc0, hc1⟩
              all_goals
                go_wp2_with (go_at_call 33; refine hi1.out.mono ?_; rintro e w' ⟨rfl, rfl⟩)
                refine ha1.out.mono ?_
                rintro e w7 ⟨vx, rfl, ho, hb⟩
                have HDIS : Hid (∀ g, (Value.slice tA (strI S).length tC).ownBlock = some g → g < w5.heap.size) := fun g hg => ((E.own (b := w3.heap.size) (a := tA) (c := tC) (xs := strI S) (by simp)).lt g hg).2
                obtain ⟨xA, xC, rfl, E2⟩ := E.made hb ho (by simp)
                replace E := E2
                clear E2 ho hb ha1 hi1 p0 p2 p3
                have p0 := E.cell (a := ⟨wr.heap.size, 0, none⟩) (by simp; rfl)
                have p2 := E.cell (a := ⟨wr.heap.size, 2, none⟩) (by simp; rfl)
                have p3 := E.cell (a := ⟨wr.heap.size, 3, none⟩) (by simp; rfl)
                have he1 : Calls Try.prog 34 #[.slice xA 0 xC, .slice none 0 0] w7 _ := eqNumbers_any xA none xC 0 _ [] [] w7 (E.live (by simp)) (Ints.nil _ _ _ _)
                replace he1 := Lib.hid he1
                go_wp2_with (first | (go_at_call 29; refine (num6_any _ _).mono ?_; rintro e w' ⟨rfl, rfl⟩) | (go_at_call 34; refine he1.out.mono ?_; rintro e w' ⟨rfl, q2, rfl⟩))
                clear he1
                replace E := E.drewN q2
                have HT := numbers_any tA tC w3.heap.size (strI S) _ (E.own (by simp)) (by rw [strI_length]; omega) (E.ownLe (b := w3.heap.size) (a := tA) (c := tC) (xs := (strI S)) (by simp))
                replace HT := Lib.hid HT
                have HX := Lib.hid (E.own (b := w5.heap.size) (a := xA) (c := xC) (xs := []) (by simp))
                have HXle := E.ownLe (b := w5.heap.size) (a := xA) (c := xC) (xs := []) (by simp)
                have HXB := (E.owns (w5.heap.size, xA, xC, []) (by simp)).2.1
                have HTB := (E.owns (w3.heap.size, tA, tC, (strI S)) (by simp)).2.1
                have HBEL := Lib.hid E.bel
                clear E p0 p2 p3
                go_wp2_with fail
                refine HT.out.mono ?_
                rintro e wT ⟨rfl, hgT, hbT⟩
                have HX2 := own_other HX.out HDIS.out hgT
                replace HX2 := Lib.hid HX2
                have HN := numbers_any xA xC w5.heap.size [] wT HX2.out (by simp) (Nat.le_trans HXle hgT.size)
                replace HN := Lib.hid HN
                have hbel1 := HBEL.out.trans (hbT.mono HTB)
                have HBEL1 := Lib.hid hbel1
                clear hgT hbT HT HX HX2 hbel1 HBEL HDIS
                go_wp2_with fail
                refine HN.out.mono ?_
                rintro e wX ⟨rfl, _, hbX⟩
                have hbel2 := HBEL1.out.trans (hbX.mono HXB)
                have p0 := (hbel2.cell (p := ⟨wr.heap.size, 0, none⟩) HP0.out.2).trans HP0.out.1
                have HQ := eqNumbers_any sa aS sc cS _ S S wX (HSA.out.below hbel2 (Nat.le_refl _)) (HSP.out.below hbel2 (Nat.le_refl _))
                rw [decide_eq_true rfl] at HQ
                replace HQ := Lib.hid HQ
                replace HB := Lib.hid (HB.out.trans (hbel2.mono hszW))
                clear hbX hbel2 HN HBEL1
                go_wp2_with (go_at_call 34; refine HQ.out.mono ?_; rintro e w' ⟨rfl, q, rfl⟩)
                go_roundw
                case rel => exact ⟨k + 1, by omega, by go_num, below_drewN HB.out _⟩
                case measure => simp [intOf]; omega
    · -- the end
      have HB := Lib.hid hbel
      have hsz := hbel.size
      have HW := Lib.hid (wakes6_any wr)
      clear hbel h
      by_cases hlt : k < n
      · have h20 : ¬ k < 20 := fun h => hend ⟨hlt, h⟩
        clear hend
        go_wp2_with (go_at_call 35; refine HW.out.mono ?_; rintro e w1 ⟨rfl, hb⟩)
        go_ret
        exact ⟨rfl, HB.out.trans (hb.mono hsz)⟩
      · clear hend
        go_wp2_with (go_at_call 35; refine HW.out.mono ?_; rintro e w1 ⟨rfl, hb⟩)
        go_ret
        exact ⟨rfl, HB.out.trans (hb.mono hsz)⟩

end Go.Proofs.Ytiejkdnkdmanmaa
