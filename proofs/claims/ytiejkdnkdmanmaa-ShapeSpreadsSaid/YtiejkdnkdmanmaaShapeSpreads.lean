/- The law ShapeSpreads, walked. -/
import Derived.Test.YtiejkdnkdmanmaaShapeWA
import Derived.Test.YtiejkdnkdmanmaaShapeTwo
set_option linter.unusedVariables false
set_option linter.unusedSimpArgs false
namespace Go.Proofs.Ytiejkdnkdmanmaa
open Go.RowKit Go.Rt

set_option maxHeartbeats 4000000 in
set_option maxRecDepth 100000 in
theorem shapeSpreads_any (a : Option Addr) (n c : Nat) (w : World) (h : TwosAt w w.heap.size a n) :
    Calls Try.prog 8 #[.slice a n c] w fun e w' => e = .returned (.bool true) ∧ Below w.heap.size w w' := by
  have hm := h.len
  go_enter Try.func8, Try.ntmps8
  go_wp2_with fail
  go_loopw [3] (fun i wr => ∃ k : Nat, k ≤ n ∧ i = .int .i64 k ∧ Below w.heap.size w wr) (fun i _ => n - (intOf i).toNat)
  case atStart => exact ⟨0, Nat.zero_le _, rfl, Below.refl _ _⟩
  case round =>
    obtain ⟨k, hk, rfl, hbel⟩ := hrel
    by_cases hend : k < n ∧ k < 20
    · obtain ⟨hlt, h20⟩ := hend
      obtain ⟨b, off, aS, aT, aI, S, T, I, cS, cT, cI, m, rfl, ht⟩ := h.at_ k hlt
      replace ht := ht.below hbel
      have hsz := hbel.size
      obtain ⟨hbl, c0, c1, c2, c3, iS, iT, iI, m0, m1⟩ := ht
      replace iS := iS.mono hsz
      replace iT := iT.mono hsz
      replace iI := iI.mono hsz
      have HB := Lib.hid hbel
      have hSl := iS.len
      have hTl := iT.len
      have hIl := iI.len
      have HSwf := Lib.hid iS.wf
      clear hbel h
      have E : Env .i64 3 wr.heap.size wr (wr.alloc (.cells #[.slice aS S.length cS, .slice aT T.length cT, .slice aI I.length cI, .int .i64 m] 48))
          [(aI, I), (aT, T), (aS, S)] [] [(⟨wr.heap.size, 3, none⟩, .int .i64 m), (⟨wr.heap.size, 2, none⟩, .slice aI I.length cI), (⟨wr.heap.size, 1, none⟩, .slice aT T.length cT), (⟨wr.heap.size, 0, none⟩, .slice aS S.length cS)] :=
        ((((((((Env.start .i64 3 wr).addL iS).addL iT).addL iI).alloc _).addC (by simp [go_sem])).addC (by simp [go_sem])).addC (by simp [go_sem])).addC (by simp [go_sem])
      clear iS iT iI
      have HLong := Lib.hid (long_any aS aT aI S.length T.length I.length cS cT cI m (wr.alloc (.cells #[.slice aS S.length cS, .slice aT T.length cT, .slice aI I.length cI, .int .i64 m] 48)) hSl hTl hIl)
      unfold twoV at HLong
      by_cases hlong : 12 < S.length ∨ 12 < T.length ∨ 12 < I.length
      · rw [decide_eq_true hlong] at HLong
        clear hlong
        go_wp2_with fail
        refine HLong.out.mono ?_
        rintro e w1 ⟨rfl, hb⟩
        have HE := Lib.hid (E.bel.trans (hb.mono E.hB))
        clear hb E HLong
        go_wp2_with fail
        go_ret
        exact ⟨rfl, HB.out.trans (HE.out.mono hsz)⟩
      · rw [decide_eq_false hlong] at HLong
        have hS12 : S.length ≤ 12 := by omega
        have hT12 : T.length ≤ 12 := by omega
        clear hlong hTl hIl
        go_wp2_with fail
        refine HLong.out.mono ?_
        rintro e w1 ⟨rfl, hb⟩
        replace E := E.next hb
        clear hb HLong c0 c1 c2 c3
        have p0 := E.cell (a := ⟨wr.heap.size, 0, none⟩) (by simp; rfl)
        have p1 := E.cell (a := ⟨wr.heap.size, 1, none⟩) (by simp; rfl)
        have p2 := E.cell (a := ⟨wr.heap.size, 2, none⟩) (by simp; rfl)
        have p3 := E.cell (a := ⟨wr.heap.size, 3, none⟩) (by simp; rfl)
        have hz : Ints .i64 w1 w1.heap.size none [] := Ints.nil _ _ _ _
        by_cases hgood : goodB S = true ∧ goodB T = true
        · obtain ⟨hS, hT⟩ := hgood
          have hr1 := rspread_any aS aT cS cT S T w1 (E.live (by simp)) (E.live (by simp)) hS hT
          replace hr1 := Lib.hid hr1
          go_wp2_with (go_at_call 26; refine (rmay_any _ _ _ _ _ (E.live (by simp))).mono ?_; rintro e w' ⟨rfl, rfl⟩)
          refine hr1.out.mono ?_
          rintro e w2 ⟨v2, rfl, ho, hb⟩
          obtain ⟨rA, rC, rfl, E2⟩ := E.made hb ho (wf_dims (spreadR_mem (goodB_dims hS) (goodB_dims hT)))
          replace E := E2
          clear E2 ho hb hr1 p0 p1 p2 p3
          have p0 := E.cell (a := ⟨wr.heap.size, 0, none⟩) (by simp; rfl)
          have p1 := E.cell (a := ⟨wr.heap.size, 1, none⟩) (by simp; rfl)
          have p2 := E.cell (a := ⟨wr.heap.size, 2, none⟩) (by simp; rfl)
          have p3 := E.cell (a := ⟨wr.heap.size, 3, none⟩) (by simp; rfl)
          have hr2 := spread_any aS aT cS cT S T w2 (E.live (by simp)) (E.live (by simp))
          rw [show spreadPE S T = spreadE S T by simp [spreadPE, hS, hT], show spreadPL S T = spreadR S T by simp [spreadPL, hS, hT]] at hr2
          replace hr2 := Lib.hid hr2
          go_wp2_with fail
          refine hr2.out.mono ?_
          rintro e w3 ⟨v3, rfl, ho, hb⟩
          obtain ⟨xA, xC, rfl, E2⟩ := E.made hb ho (wf_dims (spreadR_mem (goodB_dims hS) (goodB_dims hT)))
          replace E := E2
          clear E2 ho hb hr2 p0 p1 p2 p3
          have p0 := E.cell (a := ⟨wr.heap.size, 0, none⟩) (by simp; rfl)
          have p1 := E.cell (a := ⟨wr.heap.size, 1, none⟩) (by simp; rfl)
          have p2 := E.cell (a := ⟨wr.heap.size, 2, none⟩) (by simp; rfl)
          have p3 := E.cell (a := ⟨wr.heap.size, 3, none⟩) (by simp; rfl)
          have hse : (spreadE S T != spreadE S T) = false := by simp
          have he1 := eqNumbers_any xA rA xC rC _ (spreadR S T) (spreadR S T) w3 (E.live (by simp)) (E.live (by simp))
          rw [decide_eq_true rfl] at he1
          replace he1 := Lib.hid he1
          have hg1 := fun (X : World) iS iT => goes_any aS aT cS cT S T X iS iT hS hT
          replace hg1 := Lib.hid hg1
          go_wp2_with (first | (go_at_call 29; refine (num6_any _ _).mono ?_; rintro e w' ⟨rfl, rfl⟩) | (go_at_call 34; refine he1.out.mono ?_; rintro e w' ⟨rfl, q1, rfl⟩; replace E := E.drewN q1) | (go_at_call 26; refine (rmay_any _ _ _ _ _ (E.live (by simp))).mono ?_; rintro e w' ⟨rfl, rfl⟩))
          clear he1 hse
          refine (hg1.out _ (E.live (by simp)) (E.live (by simp))).mono ?_
          rintro e w4 ⟨rfl, hb⟩
          replace E := E.next hb
          clear hb hg1 p0 p1 p2 p3
          have p0 := E.cell (a := ⟨wr.heap.size, 0, none⟩) (by simp; rfl)
          have p1 := E.cell (a := ⟨wr.heap.size, 1, none⟩) (by simp; rfl)
          have p2 := E.cell (a := ⟨wr.heap.size, 2, none⟩) (by simp; rfl)
          have p3 := E.cell (a := ⟨wr.heap.size, 3, none⟩) (by simp; rfl)
          cases hgo : goesB S T
          · have hw : True := trivial
            have hu1 := under_any aS aT aI cS cT cI S T I w4 (E.live (by simp)) (E.live (by simp)) (E.live (by simp))
            rw [show underE S T I = 2 by simp [underE, hS, hT, hgo], show underN S T I = 0 by simp [underN, underE, hS, hT, hgo]] at hu1
            replace hu1 := Lib.hid hu1
            go_wp2_with (go_at_call 47; refine hu1.out.mono ?_; rintro e w9 ⟨rfl, hb⟩)
            replace E := E.next hb
            clear hb hu1 p0 p1 p2 p3
            go_wp2_with (go_at_call 29; refine (num6_any _ _).mono ?_; rintro e w' ⟨rfl, rfl⟩)
            have HE := Lib.hid E.bel
            clear E
            go_roundw
            case rel => exact ⟨k + 1, by omega, by go_num, HB.out.trans (HE.out.mono hsz)⟩
            case measure => simp [intOf]; omega
          · cases hw : withinB T I
            · go_wp2_with (go_at_call 39; refine (rmayIndex_any _ _ _ _ _ _ _ _ (E.live (by simp)) (E.live (by simp))).mono ?_; rintro e w' ⟨rfl, q, rfl⟩; replace E := E.drewN q; try rw [World.drewN_drewN] at E)
              have hu1 := under_any aS aT aI cS cT cI S T I _ (E.live (by simp)) (E.live (by simp)) (E.live (by simp))
              rw [show underE S T I = 2 by simp [underE, hS, hT, hgo, hw], show underN S T I = 0 by simp [underN, underE, hS, hT, hgo, hw]] at hu1
              replace hu1 := Lib.hid hu1
              go_wp2_with (go_at_call 47; refine hu1.out.mono ?_; rintro e w9 ⟨rfl, hb⟩)
              replace E := E.next hb
              clear hb hu1 p0 p1 p2 p3
              go_wp2_with (go_at_call 29; refine (num6_any _ _).mono ?_; rintro e w' ⟨rfl, rfl⟩)
              have HE := Lib.hid E.bel
              clear E
              go_roundw
              case rel => exact ⟨k + 1, by omega, by go_num, HB.out.trans (HE.out.mono hsz)⟩
              case measure => simp [intOf]; omega
            · go_wp2_with (go_at_call 39; refine (rmayIndex_any _ _ _ _ _ _ _ _ (E.live (by simp)) (E.live (by simp))).mono ?_; rintro e w' ⟨rfl, q, rfl⟩; replace E := E.drewN q; try rw [World.drewN_drewN] at E)
              have hv1 := runder_any aS aT aI cS cT cI S T I _ (E.live (by simp)) (E.live (by simp)) (E.live (by simp)) hS hT hgo hw
              replace hv1 := Lib.hid hv1
              refine hv1.out.mono ?_
              rintro e w5 ⟨rfl, hb⟩
              replace E := E.next hb
              clear hb hv1 p0 p1 p2 p3
              have p0 := E.cell (a := ⟨wr.heap.size, 0, none⟩) (by simp; rfl)
              have p1 := E.cell (a := ⟨wr.heap.size, 1, none⟩) (by simp; rfl)
              have p2 := E.cell (a := ⟨wr.heap.size, 2, none⟩) (by simp; rfl)
              have p3 := E.cell (a := ⟨wr.heap.size, 3, none⟩) (by simp; rfl)
              have hu1 := under_any aS aT aI cS cT cI S T I w5 (E.live (by simp)) (E.live (by simp)) (E.live (by simp))
              rw [show underE S T I = 0 by simp [underE, hS, hT, hgo, hw], show underN S T I = placeI S (adjL S T I) by simp [underN, underE, hS, hT, hgo, hw]] at hu1
              replace hu1 := Lib.hid hu1
              go_wp2_with (go_at_call 47; refine hu1.out.mono ?_; rintro e w9 ⟨rfl, hb⟩)
              replace E := E.next hb
              clear hb hu1 p0 p1 p2 p3
              have hun : (placeI S (adjL S T I) != placeI S (adjL S T I)) = false := by simp
              go_wp2_with (go_at_call 29; refine (num6_any _ _).mono ?_; rintro e w' ⟨rfl, rfl⟩)
              have HE := Lib.hid E.bel
              clear E
              go_roundw
              case rel => exact ⟨k + 1, by omega, by go_num, HB.out.trans (HE.out.mono hsz)⟩
              case measure => simp [intOf]; omega
        · have hsp : spreadPE S T = 1 ∧ spreadPL S T = [] := by
            have : (goodB S && goodB T) = false := by
              cases h1 : goodB S <;> cases h2 : goodB T <;> simp_all
            exact ⟨by simp [spreadPE, this], by simp [spreadPL, this]⟩
          have hun : underE S T I = 1 ∧ underN S T I = 0 := by
            have : (goodB S && goodB T) = false := by
              cases h1 : goodB S <;> cases h2 : goodB T <;> simp_all
            have h1 : underE S T I = 1 := by simp only [underE, this]; rfl
            exact ⟨h1, by simp [underN, h1]⟩
          have hr2 := spread_any aS aT cS cT S T w1 (E.live (by simp)) (E.live (by simp))
          rw [hsp.1, hsp.2] at hr2
          replace hr2 := Lib.hid hr2
          have hu0 := fun (X : World) iS iT iI => under_any aS aT aI cS cT cI S T I X iS iT iI
          replace hu0 := Lib.hid hu0
          have HUN := Lib.hid hun
          clear hsp hun
          have hcase : (goodB S = false) ∨ (goodB S = true ∧ goodB T = false) := by
            cases h1 : goodB S <;> cases h2 : goodB T <;> simp_all
          clear hgood
          rcases hcase with hS | ⟨hS, hT⟩
          all_goals
            go_wp2_with (go_at_call 26; refine (rmay_any _ _ _ _ _ (E.live (by simp))).mono ?_; rintro e w' ⟨rfl, rfl⟩)
            refine hr2.out.mono ?_
            rintro e w3 ⟨v3, rfl, ho, hb⟩
            obtain ⟨xA, xC, rfl, E2⟩ := E.made hb ho (by simp)
            replace E := E2
            clear E2 ho hb hr2 p0 p1 p2 p3
            have p0 := E.cell (a := ⟨wr.heap.size, 0, none⟩) (by simp; rfl)
            have p1 := E.cell (a := ⟨wr.heap.size, 1, none⟩) (by simp; rfl)
            have p2 := E.cell (a := ⟨wr.heap.size, 2, none⟩) (by simp; rfl)
            have p3 := E.cell (a := ⟨wr.heap.size, 3, none⟩) (by simp; rfl)
            have he1 : Calls Try.prog 34 #[.slice xA 0 xC, .slice none 0 0] w3 _ := eqNumbers_any xA none xC 0 _ [] [] w3 (E.live (by simp)) (Ints.nil _ _ _ _)
            replace he1 := Lib.hid he1
            go_wp2_with (first | (go_at_call 29; refine (num6_any _ _).mono ?_; rintro e w' ⟨rfl, rfl⟩) | (go_at_call 34; refine he1.out.mono ?_; rintro e w' ⟨rfl, q1, rfl⟩; replace E := E.drewN q1) | (go_at_call 26; refine (rmay_any _ _ _ _ _ (E.live (by simp))).mono ?_; rintro e w' ⟨rfl, rfl⟩))
            clear he1
            have hu1 := hu0.out (w3.drewN q1) (E.live (by simp)) (E.live (by simp)) (E.live (by simp))
            rw [HUN.out.1, HUN.out.2] at hu1
            replace hu1 := Lib.hid hu1
            go_wp2_with (go_at_call 47; refine hu1.out.mono ?_; rintro e w9 ⟨rfl, hb⟩)
            replace E := E.next hb
            clear hb hu1 hu0 p0 p1 p2 p3
            go_wp2_with (go_at_call 29; refine (num6_any _ _).mono ?_; rintro e w' ⟨rfl, rfl⟩)
            have HE := Lib.hid E.bel
            clear E
            go_roundw
            case rel => exact ⟨k + 1, by omega, by go_num, HB.out.trans (HE.out.mono hsz)⟩
            case measure => simp [intOf]; omega
    · -- the end
      have HB := Lib.hid hbel
      have hsz := hbel.size
      have HW := Lib.hid (wakes6_any wr)
      clear hbel h
      by_cases hlt : k < n
      · have h20 : ¬ k < 20 := fun h => hend ⟨hlt, h⟩
        clear hend
        go_wp2_with (go_at_call 35; refine HW.out.mono ?_; rintro e w1 ⟨rfl, hb⟩)
        go_ret
        exact ⟨rfl, HB.out.trans (hb.mono hsz)⟩
      · clear hend
        go_wp2_with (go_at_call 35; refine HW.out.mono ?_; rintro e w1 ⟨rfl, hb⟩)
        go_ret
        exact ⟨rfl, HB.out.trans (hb.mono hsz)⟩

end Go.Proofs.Ytiejkdnkdmanmaa
