/- The law ShapeBack, walked. -/
import Derived.Test.YtiejkdnkdmanmaaShapeWA
import Derived.Test.YtiejkdnkdmanmaaShapeTwo
set_option linter.unusedVariables false
set_option linter.unusedSimpArgs false
namespace Go.Proofs.Ytiejkdnkdmanmaa
open Go.RowKit Go.Rt

theorem meetB_comm (x y : Int) : meetB x y = meetB y x := by
  unfold meetB
  by_cases h1 : x = y
  · subst h1; rfl
  · have h2 : ¬ y = x := fun e => h1 e.symm
    have e1 : (x == y) = false := by simpa using h1
    have e2 : (y == x) = false := by simpa using h2
    rw [e1, e2, Bool.false_or, Bool.false_or, Bool.or_comm]
theorem spreadL_comm (a b : List Int) : spreadL a b = spreadL b a := by
  unfold spreadL
  rw [Nat.max_comm b.length a.length]
  exact List.zipWith_comm_of_comm (fun x y => by omega)
theorem meetsB_comm (a b : List Int) : meetsB a b = meetsB b a := by
  unfold meetsB
  rw [Nat.max_comm b.length a.length, List.zipWith_comm_of_comm meetB_comm]
theorem spreadE_comm (a b : List Int) : spreadE a b = spreadE b a := by
  unfold spreadE
  rw [spreadL_comm a b, meetsB_comm a b]
theorem spreadPE_comm (a b : List Int) : spreadPE a b = spreadPE b a := by
  unfold spreadPE
  rw [spreadE_comm a b, Bool.and_comm]
theorem spreadPL_comm (a b : List Int) : spreadPL a b = spreadPL b a := by
  unfold spreadPL spreadR
  rw [spreadE_comm a b, spreadL_comm a b, Bool.and_comm]

theorem spread_self {S : List Int} (h : goodB S = true) : spreadPE S S = 0 ∧ spreadPL S S = S := by
  have hL : spreadL S S = S := by
    simp only [spreadL, Nat.max_self, padI, Nat.sub_self, List.replicate_zero, List.nil_append]
    apply List.ext_getElem?
    intro i
    rw [List.getElem?_zipWith]
    by_cases hi : i < S.length
    · rw [List.getElem?_eq_getElem hi]; simp
    · rw [List.getElem?_eq_none (by omega)]
  have hm : meetsB S S = true := (meetsB_iff S S).2 (fun k _ => by simp [meetB])
  have hE : spreadE S S = 0 := by simp [spreadE, hm, hL, h]
  exact ⟨by simp [spreadPE, h, hE], by simp [spreadPL, spreadR, h, hE, hL]⟩

theorem good_one : goodB [1] = true := by decide
theorem spread_one {S : List Int} (h : goodB S = true) : spreadPE S [1] = 0 ∧ (0 < S.length → spreadPL S [1] = S) := by
  have hD := goodB_dims h
  have hget1 : ∀ k, dimI [1] k = 1 := by
    intro k
    unfold dimI
    by_cases hk : k < [(1 : Int)].length
    · rw [if_pos hk]
      simp at hk
      subst hk
      rfl
    · rw [if_neg hk]
  have hm : meetsB S [1] = true := (meetsB_iff S [1]).2 (fun k _ => by rw [hget1]; simp [meetB])
  have hLen := spreadL_length S [1]
  have hL : 0 < S.length → spreadL S [1] = S := by
    intro hpos
    have hmx : max S.length [(1 : Int)].length = S.length := by simp; omega
    apply List.ext_getElem?
    intro k
    by_cases hk : k < S.length
    · rw [spreadL_get S [1] k (by rw [hmx]; exact hk), hget1, hmx, List.getElem?_eq_getElem hk]
      have hd := hD.at hk
      have : dimI S (S.length - 1 - k) = S[k] := by
        unfold dimI
        rw [if_pos (by omega), show S.length - 1 - (S.length - 1 - k) = k by omega, List.getElem?_eq_getElem hk]; rfl
      rw [this]
      congr 1
      omega
    · rw [List.getElem?_eq_none (by rw [hLen, hmx]; omega), List.getElem?_eq_none (by omega)]
  have hg : goodB (spreadL S [1]) = true := by
    by_cases hpos : 0 < S.length
    · rw [hL hpos]; exact h
    · obtain rfl : S = [] := List.eq_nil_of_length_eq_zero (by omega)
      decide
  have hE : spreadE S [1] = 0 := by simp [spreadE, hm, hg]
  exact ⟨by simp [spreadPE, h, good_one, hE], fun hpos => by simp [spreadPL, spreadR, h, good_one, hE, hL hpos]⟩

theorem spreadPL_mem (S T : List Int) : ∀ x ∈ spreadPL S T, (Lit.int .i64 x).wf = true := by
  unfold spreadPL
  by_cases hgt : (goodB S && goodB T) = true
  · rw [if_pos hgt]
    rw [Bool.and_eq_true] at hgt
    exact wf_dims (spreadR_mem (goodB_dims hgt.1) (goodB_dims hgt.2))
  · rw [if_neg hgt]
    intro x hx
    cases hx

theorem index_stands {S : List Int} {n : Int} (h : goodB S = true) (h0 : 0 ≤ n) (h1 : n < prodI S) : indexE S (standsI S n) = 0 ∧ indexN S (standsI S n) = n := by
  have hD := goodB_dims h
  have hE : indexE S (standsI S n) = 0 := by simp [indexE, h, standsI_within S n hD]
  exact ⟨hE, by simp only [indexN, hE, if_true]; rw [placeI_stands S n hD]; exact Int.emod_eq_of_lt h0 h1⟩

set_option maxHeartbeats 4000000 in
set_option maxRecDepth 100000 in
theorem shapeBack_any (a : Option Addr) (n c : Nat) (w : World) (h : TwosAt w w.heap.size a n) :
    Calls Try.prog 9 #[.slice a n c] w fun e w' => e = .returned (.bool true) ∧ Below w.heap.size w w' := by
  have hm := h.len
  go_enter Try.func9, Try.ntmps9
  go_wp2_with fail
  go_loopw [3] (fun i wr => ∃ k : Nat, k ≤ n ∧ i = .int .i64 k ∧ Below w.heap.size w wr) (fun i _ => n - (intOf i).toNat)
  case atStart => exact ⟨0, Nat.zero_le _, rfl, Below.refl _ _⟩
  case round =>
    obtain ⟨k, hk, rfl, hbel⟩ := hrel
    by_cases hend : k < n ∧ k < 20
    · obtain ⟨hlt, h20⟩ := hend
      obtain ⟨b, off, aS, aT, aI, S, T, I, cS, cT, cI, m, rfl, ht⟩ := h.at_ k hlt
      replace ht := ht.below hbel
      have hsz := hbel.size
      obtain ⟨hbl, c0, c1, c2, c3, iS, iT, iI, m0, m1⟩ := ht
      replace iS := iS.mono hsz
      replace iT := iT.mono hsz
      replace iI := iI.mono hsz
      have HB := Lib.hid hbel
      have hSl := iS.len
      have hTl := iT.len
      have hIl := iI.len
      have HSwf := Lib.hid iS.wf
      clear hbel h
      have E : Env .i64 3 wr.heap.size wr (wr.alloc (.cells #[.slice aS S.length cS, .slice aT T.length cT, .slice aI I.length cI, .int .i64 m] 48))
          [(aI, I), (aT, T), (aS, S)] [] [(⟨wr.heap.size, 3, none⟩, .int .i64 m), (⟨wr.heap.size, 2, none⟩, .slice aI I.length cI), (⟨wr.heap.size, 1, none⟩, .slice aT T.length cT), (⟨wr.heap.size, 0, none⟩, .slice aS S.length cS)] :=
        ((((((((Env.start .i64 3 wr).addL iS).addL iT).addL iI).alloc _).addC (by simp [go_sem])).addC (by simp [go_sem])).addC (by simp [go_sem])).addC (by simp [go_sem])
      clear iS iT iI
      have HLong := Lib.hid (long_any aS aT aI S.length T.length I.length cS cT cI m (wr.alloc (.cells #[.slice aS S.length cS, .slice aT T.length cT, .slice aI I.length cI, .int .i64 m] 48)) hSl hTl hIl)
      unfold twoV at HLong
      by_cases hlong : 12 < S.length ∨ 12 < T.length ∨ 12 < I.length
      · rw [decide_eq_true hlong] at HLong
        clear hlong
        go_wp2_with fail
        refine HLong.out.mono ?_
        rintro e w1 ⟨rfl, hb⟩
        have HE := Lib.hid (E.bel.trans (hb.mono E.hB))
        clear hb E HLong
        go_wp2_with fail
        go_ret
        exact ⟨rfl, HB.out.trans (HE.out.mono hsz)⟩
      · rw [decide_eq_false hlong] at HLong
        have hS12 : S.length ≤ 12 := by omega
        have hT12 : T.length ≤ 12 := by omega
        clear hlong hTl hIl
        go_wp2_with fail
        refine HLong.out.mono ?_
        rintro e w1 ⟨rfl, hb⟩
        replace E := E.next hb
        clear hb HLong c0 c1 c2 c3
        have p0 := E.cell (a := ⟨wr.heap.size, 0, none⟩) (by simp; rfl)
        have p1 := E.cell (a := ⟨wr.heap.size, 1, none⟩) (by simp; rfl)
        have p2 := E.cell (a := ⟨wr.heap.size, 2, none⟩) (by simp; rfl)
        have p3 := E.cell (a := ⟨wr.heap.size, 3, none⟩) (by simp; rfl)
        cases hS : goodB S
        · go_wp2_with (first | (go_at_call 38; refine (check_any _ _ _ _ _ (E.live (by simp))).mono ?_; rintro e w' ⟨rfl, rfl⟩) | (go_at_call 29; refine (num6_any _ _).mono ?_; rintro e w' ⟨rfl, rfl⟩))
          have HE := Lib.hid E.bel
          clear E
          go_roundw
          case rel => exact ⟨k + 1, by omega, by go_num, HB.out.trans (HE.out.mono hsz)⟩
          case measure => simp [intOf]; omega
        · obtain ⟨hP0, hP1⟩ := goodB_prod hS
          have HW0 := Lib.hid (within0_any m (prodI S) w1 ⟨m0, m1⟩ hP0 (by omega))
          obtain ⟨hn0, hn1⟩ := withinN_bound m (prodI S) hP0
          obtain ⟨N, hN⟩ : ∃ N, N = withinN m (prodI S) := ⟨_, rfl⟩
          rw [← hN] at HW0 hn0 hn1
          clear hN
          have hp1 : ¬ prodI S < 1 := by omega
          have hAE : atE S N = 0 ∧ atL S N = standsI S N := by
            have : atE S N = 0 := by simp [atE, hS, hn0, hn1]
            exact ⟨this, by simp [atL, this]⟩
          have ha1 := at_any aS cS S N w1 (E.live (by simp)) (by omega)
          rw [hAE.1, hAE.2] at ha1
          replace ha1 := Lib.hid ha1
          clear hAE
          have HIS := Lib.hid (index_stands hS hn0 hn1)
          have HMEM := Lib.hid (wf_dims (xs := standsI S N) (fun x hx => by have := standsI_mem (goodB_dims hS) x hx; omega))
          have HSS := Lib.hid (spread_self hS)
          have HS1 := Lib.hid (spread_one hS)
          have HS1M := Lib.hid (spreadPL_mem S [1])
          have HSTM := Lib.hid (spreadPL_mem S T)
          go_wp2_with (first | (go_at_call 38; refine (check_any _ _ _ _ _ (E.live (by simp))).mono ?_; rintro e w' ⟨rfl, rfl⟩) | (go_at_call 29; refine (num6_any _ _).mono ?_; rintro e w' ⟨rfl, rfl⟩) | (go_at_call 26; refine (rmay_any _ _ _ _ _ (E.live (by simp))).mono ?_; rintro e w' ⟨rfl, rfl⟩) | (go_at_call 27; refine (count_any _ _ _ _ _ (E.live (by simp))).mono ?_; rintro e w' ⟨rfl, rfl⟩) | (go_at_call 30; refine HW0.out.mono ?_; rintro e w' ⟨rfl, rfl⟩))
          refine ha1.out.mono ?_
          rintro e w2 ⟨v2, rfl, ho, hb⟩
          obtain ⟨xA, xC, rfl, E2⟩ := E.made hb ho HMEM.out
          replace E := E2
          clear E2 ho hb ha1 HW0 p0 p1 p2 p3
          have p0 := E.cell (a := ⟨wr.heap.size, 0, none⟩) (by simp; rfl)
          have p1 := E.cell (a := ⟨wr.heap.size, 1, none⟩) (by simp; rfl)
          have p2 := E.cell (a := ⟨wr.heap.size, 2, none⟩) (by simp; rfl)
          have p3 := E.cell (a := ⟨wr.heap.size, 3, none⟩) (by simp; rfl)
          have hi1 := index_any aS xA cS xC _ S (standsI S N) w2 (E.live (by simp)) (E.live (by simp))
          rw [HIS.out.1, HIS.out.2] at hi1
          replace hi1 := Lib.hid hi1
          have hs1 := spread_any aS aS cS cS S S w2 (E.live (by simp)) (E.live (by simp))
          rw [HSS.out.1, HSS.out.2] at hs1
          replace hs1 := Lib.hid hs1
          go_wp2_with (go_at_call 33; refine hi1.out.mono ?_; rintro e w' ⟨rfl, rfl⟩)
          refine hs1.out.mono ?_
          rintro e w3 ⟨v3, rfl, ho, hb⟩
          obtain ⟨sA, sC, rfl, E2⟩ := E.made hb ho HSwf.out
          replace E := E2
          clear E2 ho hb hi1 hs1 p0 p1 p2 p3
          have p0 := E.cell (a := ⟨wr.heap.size, 0, none⟩) (by simp; rfl)
          have p1 := E.cell (a := ⟨wr.heap.size, 1, none⟩) (by simp; rfl)
          have p2 := E.cell (a := ⟨wr.heap.size, 2, none⟩) (by simp; rfl)
          have p3 := E.cell (a := ⟨wr.heap.size, 3, none⟩) (by simp; rfl)
          go_wp2_with fail
          replace E := (E.alloc (.cells #[.int .i64 1] 3)).addL (a := some ⟨w3.heap.size, 0, none⟩) (xs := [1]) ⟨by decide, wf_dims (by decide), fun i hi => ⟨_, 0, rfl, by simp, by
            match i, hi with
            | 0, _ => simp [go_sem]⟩⟩
          have hs2 : Calls Try.prog 44 #[.slice aS S.length cS, .slice (some ⟨w3.heap.size, 0, none⟩) 1 1] (w3.alloc (.cells #[.int .i64 1] 3)) _ := spread_any aS (some ⟨w3.heap.size, 0, none⟩) cS 1 S [1] _ (E.live (by simp)) (E.live (by simp))
          rw [HS1.out.1] at hs2
          refine hs2.mono ?_
          rintro e w4 ⟨v4, rfl, ho, hb⟩
          obtain ⟨tA, tC, rfl, E2⟩ := E.made hb ho HS1M.out
          replace E := E2
          clear E2 ho hb hs2 p0 p1 p2 p3
          have p0 := E.cell (a := ⟨wr.heap.size, 0, none⟩) (by simp; rfl)
          have p1 := E.cell (a := ⟨wr.heap.size, 1, none⟩) (by simp; rfl)
          have p2 := E.cell (a := ⟨wr.heap.size, 2, none⟩) (by simp; rfl)
          have p3 := E.cell (a := ⟨wr.heap.size, 3, none⟩) (by simp; rfl)
          have he1 := eqNumbers_any sA aS sC cS _ S S w4 (E.live (by simp)) (E.live (by simp))
          rw [decide_eq_true rfl] at he1
          replace he1 := Lib.hid he1
          have hnn : (N != N) = false := by simp
          have hf1 := fun (X : World) iS iT => spread_any aS aT cS cT S T X iS iT
          replace hf1 := Lib.hid hf1
          have hf2 := fun (X : World) iT iS => spread_any aT aS cT cS T S X iT iS
          rw [spreadPE_comm T S, spreadPL_comm T S] at hf2
          replace hf2 := Lib.hid hf2
          have hee : (spreadPE S T != spreadPE S T) = false := by simp
          by_cases hpos : 0 < S.length
          · have hpl := HS1.out.2 hpos
            rw [hpl] at E ⊢
            have he2 := fun q => eqNumbers_any tA aS tC cS _ S S (w4.drewN q) ((E.drewN q).live (by simp)) ((E.drewN q).live (by simp))
            rw [decide_eq_true rfl] at he2
            replace he2 := Lib.hid he2
            clear hpl
            go_wp2_with (first | (go_at_call 29; refine (num6_any _ _).mono ?_; rintro e w' ⟨rfl, rfl⟩) | fail)
            refine he1.out.mono ?_
            rintro e w' ⟨rfl, q1, rfl⟩
            go_wp2_with fail
            refine (he2.out q1).mono ?_
            rintro e w' ⟨rfl, q2, rfl⟩
            have E2 := (E.drewN q1).drewN q2
            rw [World.drewN_drewN] at E2
            replace E := E2
            clear E2 he1 he2
            have hg1 := hf1.out (w4.drewN (q1 + q2)) (E.live (by simp)) (E.live (by simp))
            replace hg1 := Lib.hid hg1
            go_wp2_with fail
            refine hg1.out.mono ?_
            rintro e w5 ⟨v5, rfl, ho, hb⟩
            obtain ⟨uA, uC, rfl, E2⟩ := E.made hb ho HSTM.out
            replace E := E2
            clear E2 ho hb hg1 p0 p1 p2 p3
            have p0 := E.cell (a := ⟨wr.heap.size, 0, none⟩) (by simp; rfl)
            have p1 := E.cell (a := ⟨wr.heap.size, 1, none⟩) (by simp; rfl)
            have p2 := E.cell (a := ⟨wr.heap.size, 2, none⟩) (by simp; rfl)
            have p3 := E.cell (a := ⟨wr.heap.size, 3, none⟩) (by simp; rfl)
            have hg2 := hf2.out w5 (E.live (by simp)) (E.live (by simp))
            replace hg2 := Lib.hid hg2
            go_wp2_with fail
            refine hg2.out.mono ?_
            rintro e w6 ⟨v6, rfl, ho, hb⟩
            obtain ⟨vA, vC, rfl, E2⟩ := E.made hb ho HSTM.out
            replace E := E2
            clear E2 ho hb hg2 p0 p1 p2 p3
            have he3 := eqNumbers_any uA vA uC vC _ (spreadPL S T) (spreadPL S T) w6 (E.live (by simp)) (E.live (by simp))
            rw [decide_eq_true rfl] at he3
            replace he3 := Lib.hid he3
            go_wp2_with (first | (go_at_call 29; refine (num6_any _ _).mono ?_; rintro e w' ⟨rfl, rfl⟩) | (go_at_call 34; refine he3.out.mono ?_; rintro e w' ⟨rfl, q3, rfl⟩))
            replace E := E.drewN q3
            have HE := Lib.hid E.bel
            clear E
            go_roundw
            case rel => exact ⟨k + 1, by omega, by go_num, HB.out.trans (HE.out.mono hsz)⟩
            case measure => simp [intOf]; omega
          · have hlen : ¬ (0 : Int) < (S.length : Int) := by omega
            go_wp2_with (first | (go_at_call 29; refine (num6_any _ _).mono ?_; rintro e w' ⟨rfl, rfl⟩) | fail)
            refine he1.out.mono ?_
            rintro e w' ⟨rfl, q1, rfl⟩
            replace E := E.drewN q1
            clear he1
            have hg1 := hf1.out (w4.drewN q1) (E.live (by simp)) (E.live (by simp))
            replace hg1 := Lib.hid hg1
            go_wp2_with fail
            refine hg1.out.mono ?_
            rintro e w5 ⟨v5, rfl, ho, hb⟩
            obtain ⟨uA, uC, rfl, E2⟩ := E.made hb ho HSTM.out
            replace E := E2
            clear E2 ho hb hg1 p0 p1 p2 p3
            have p0 := E.cell (a := ⟨wr.heap.size, 0, none⟩) (by simp; rfl)
            have p1 := E.cell (a := ⟨wr.heap.size, 1, none⟩) (by simp; rfl)
            have p2 := E.cell (a := ⟨wr.heap.size, 2, none⟩) (by simp; rfl)
            have p3 := E.cell (a := ⟨wr.heap.size, 3, none⟩) (by simp; rfl)
            have hg2 := hf2.out w5 (E.live (by simp)) (E.live (by simp))
            replace hg2 := Lib.hid hg2
            go_wp2_with fail
            refine hg2.out.mono ?_
            rintro e w6 ⟨v6, rfl, ho, hb⟩
            obtain ⟨vA, vC, rfl, E2⟩ := E.made hb ho HSTM.out
            replace E := E2
            clear E2 ho hb hg2 p0 p1 p2 p3
            have he3 := eqNumbers_any uA vA uC vC _ (spreadPL S T) (spreadPL S T) w6 (E.live (by simp)) (E.live (by simp))
            rw [decide_eq_true rfl] at he3
            replace he3 := Lib.hid he3
            go_wp2_with (first | (go_at_call 29; refine (num6_any _ _).mono ?_; rintro e w' ⟨rfl, rfl⟩) | (go_at_call 34; refine he3.out.mono ?_; rintro e w' ⟨rfl, q3, rfl⟩))
            replace E := E.drewN q3
            have HE := Lib.hid E.bel
            clear E
            go_roundw
            case rel => exact ⟨k + 1, by omega, by go_num, HB.out.trans (HE.out.mono hsz)⟩
            case measure => simp [intOf]; omega
    · -- the end
      have HB := Lib.hid hbel
      have hsz := hbel.size
      have HW := Lib.hid (wakes6_any wr)
      clear hbel h
      by_cases hlt : k < n
      · have h20 : ¬ k < 20 := fun h => hend ⟨hlt, h⟩
        clear hend
        go_wp2_with (go_at_call 35; refine HW.out.mono ?_; rintro e w1 ⟨rfl, hb⟩)
        go_ret
        exact ⟨rfl, HB.out.trans (hb.mono hsz)⟩
      · clear hend
        go_wp2_with (go_at_call 35; refine HW.out.mono ?_; rintro e w1 ⟨rfl, hb⟩)
        go_ret
        exact ⟨rfl, HB.out.trans (hb.mono hsz)⟩

end Go.Proofs.Ytiejkdnkdmanmaa
