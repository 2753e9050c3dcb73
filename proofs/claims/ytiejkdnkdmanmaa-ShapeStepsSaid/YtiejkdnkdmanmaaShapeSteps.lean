/- The law ShapeSteps, walked. -/
import Derived.Test.YtiejkdnkdmanmaaShapeWA
import Derived.Test.YtiejkdnkdmanmaaShapeTwo
set_option linter.unusedVariables false
set_option linter.unusedSimpArgs false
namespace Go.Proofs.Ytiejkdnkdmanmaa
open Go.RowKit Go.Rt

theorem placeI_set : ∀ (S L : List Int) (k : Nat) (v : Int), L.length = S.length → k < S.length → placeI S (L.set k v) = placeI S L + (v - L[k]?.getD 0) * prodI (S.drop (k + 1))
  | [], _, k, _, _, hk => by simp at hk
  | _ :: _, [], _, _, h, _ => by simp at h
  | d :: r, i :: s, 0, v, h, _ => by
    simp only [List.set_cons_zero, placeI, List.getElem?_cons_zero, Option.getD_some, Nat.zero_add, List.drop_succ_cons, List.drop_zero, Int.sub_mul]
    omega
  | d :: r, i :: s, k + 1, v, h, hk => by
    have := placeI_set r s k v (by simpa using h) (by simpa using hk)
    simp only [List.set_cons_succ, placeI, List.getElem?_cons_succ, List.drop_succ_cons, this]
    omega
theorem within_set {S L : List Int} {k : Nat} {v : Int} (h : withinB S L = true) (h0 : 0 ≤ v) (h1 : v < S[k]?.getD 0) : withinB S (L.set k v) = true := by
  rw [withinB_iff] at h ⊢
  refine ⟨by simpa using h.1, fun j hj => ?_⟩
  rw [List.getElem?_set]
  by_cases e : k = j
  · subst e
    rw [if_pos rfl, if_pos (by omega)]
    exact ⟨h0, h1⟩
  · rw [if_neg e]
    exact h.2 j hj

/-- A step along dimension k. -/
theorem step_up {S : List Int} {n : Int} {k : Nat} (hg : goodB S = true) (h0 : 0 ≤ n) (h1 : n < prodI S) (hk : k < S.length) (hx : (standsI S n)[k]?.getD 0 + 1 < S[k]?.getD 0) :
    indexE S ((standsI S n).set k ((standsI S n)[k]?.getD 0 + 1)) = 0 ∧ indexN S ((standsI S n).set k ((standsI S n)[k]?.getD 0 + 1)) = n + (strI S)[k]?.getD 0 := by
  have hD := goodB_dims hg
  have hw := standsI_within S n hD
  have hb := (withinB_iff.1 hw).2 k hk
  have hw2 := within_set hw (v := (standsI S n)[k]?.getD 0 + 1) (by omega) hx
  have hE : indexE S ((standsI S n).set k ((standsI S n)[k]?.getD 0 + 1)) = 0 := by simp [indexE, hg, hw2]
  refine ⟨hE, ?_⟩
  simp only [indexN, hE, if_true]
  rw [placeI_set S _ k _ (standsI_length S n) hk, placeI_stands S n hD, Int.emod_eq_of_lt h0 h1, strI_get S k hk, Option.getD_some]
  rw [show (standsI S n)[k]?.getD 0 + 1 - (standsI S n)[k]?.getD 0 = 1 by omega, Int.one_mul]

/-- What holds while noughts are carried: the list, and how far it still is to the next place. -/
def Carry (S : List Int) (n : Int) (j : Nat) (L : List Int) : Prop := withinB S L = true ∧ placeI S L + prodI (S.drop j) = n + 1
theorem Carry.start {S : List Int} {n : Int} (hD : Dims S) (h0 : 0 ≤ n) (h1 : n < prodI S) : Carry S n S.length (standsI S n) :=
  ⟨standsI_within S n hD, by rw [placeI_stands S n hD, Int.emod_eq_of_lt h0 h1, List.drop_length]; rfl⟩
theorem Carry.down {S L : List Int} {n : Int} {j : Nat} (hD : Dims S) (h : Carry S n (j + 1) L) (hj : j < S.length) (hx : L[j]?.getD 0 + 1 = S[j]?.getD 0) : Carry S n j (L.set j 0) := by
  obtain ⟨hw, hp⟩ := h
  have hl := withinB_length hw
  have hd := hD.at hj
  have hsj : S[j]?.getD 0 = S[j] := by rw [List.getElem?_eq_getElem hj]; rfl
  refine ⟨within_set hw (Int.le_refl 0) (by rw [hsj]; omega), ?_⟩
  rw [placeI_set S L j 0 hl hj, prodI_drop_succ S j hj]
  rw [hsj] at hx
  have : (0 - L[j]?.getD 0) * prodI (S.drop (j + 1)) = prodI (S.drop (j + 1)) - S[j] * prodI (S.drop (j + 1)) := by
    rw [show (0 - L[j]?.getD 0) = 1 - S[j] by omega, Int.sub_mul, Int.one_mul]
  omega
theorem Carry.zero {S L : List Int} {n : Int} (hD : Dims S) (h : Carry S n 0 L) : prodI S ≤ n + 1 := by
  obtain ⟨hw, hp⟩ := h
  have := placeI_bound S L hD hw
  rw [List.drop_zero] at hp
  omega
theorem Carry.up {S L : List Int} {n : Int} {j : Nat} (hD : Dims S) (h : Carry S n (j + 1) L) (hj : j < S.length) (hx : ¬ L[j]?.getD 0 + 1 = S[j]?.getD 0) : L.set j (L[j]?.getD 0 + 1) = standsI S (n + 1) := by
  obtain ⟨hw, hp⟩ := h
  have hl := withinB_length hw
  have hb := (withinB_iff.1 hw).2 j hj
  have hw2 := within_set (k := j) (v := L[j]?.getD 0 + 1) hw (by omega) (by omega)
  have e := stands_place S _ hD hw2
  rw [placeI_set S L j _ hl hj, show (L[j]?.getD 0 + 1 - L[j]?.getD 0) = 1 by omega, Int.one_mul, hp] at e
  exact e.symm

set_option maxHeartbeats 4000000 in
set_option maxRecDepth 100000 in
theorem shapeSteps_any (a : Option Addr) (n c : Nat) (w : World) (h : TwosAt w w.heap.size a n) :
    Calls Try.prog 6 #[.slice a n c] w fun e w' => e = .returned (.bool true) ∧ Below w.heap.size w w' := by
  have hm := h.len
  go_enter Try.func6, Try.ntmps6
  go_wp2_with fail
  go_loopw [3] (fun i wr => ∃ k : Nat, k ≤ n ∧ i = .int .i64 k ∧ Below w.heap.size w wr) (fun i _ => n - (intOf i).toNat)
  case atStart => exact ⟨0, Nat.zero_le _, rfl, Below.refl _ _⟩
  case round =>
    obtain ⟨k, hk, rfl, hbel⟩ := hrel
    obtain ⟨wo, rfl⟩ : ∃ wo : World, wo = wr := ⟨_, rfl⟩
    by_cases hend : k < n ∧ k < 20
    · obtain ⟨hlt, h20⟩ := hend
      obtain ⟨b, off, aS, aT, aI, S, T, I, cS, cT, cI, m, rfl, ht⟩ := h.at_ k hlt
      replace ht := ht.below hbel
      have hsz := hbel.size
      obtain ⟨hbl, c0, c1, c2, c3, iS, iT, iI, m0, m1⟩ := ht
      replace iS := iS.mono hsz
      replace iT := iT.mono hsz
      replace iI := iI.mono hsz
      have HB := Lib.hid hbel
      have hSl := iS.len
      have hTl := iT.len
      have hIl := iI.len
      have HSwf := Lib.hid iS.wf
      clear hbel h
      have E : Env .i64 3 wo.heap.size wo (wo.alloc (.cells #[.slice aS S.length cS, .slice aT T.length cT, .slice aI I.length cI, .int .i64 m] 48))
          [(aI, I), (aT, T), (aS, S)] [] [(⟨wo.heap.size, 3, none⟩, .int .i64 m), (⟨wo.heap.size, 2, none⟩, .slice aI I.length cI), (⟨wo.heap.size, 1, none⟩, .slice aT T.length cT), (⟨wo.heap.size, 0, none⟩, .slice aS S.length cS)] :=
        ((((((((Env.start .i64 3 wo).addL iS).addL iT).addL iI).alloc _).addC (by simp [go_sem])).addC (by simp [go_sem])).addC (by simp [go_sem])).addC (by simp [go_sem])
      clear iS iT iI
      have HLong := Lib.hid (long_any aS aT aI S.length T.length I.length cS cT cI m (wo.alloc (.cells #[.slice aS S.length cS, .slice aT T.length cT, .slice aI I.length cI, .int .i64 m] 48)) hSl hTl hIl)
      unfold twoV at HLong
      by_cases hlong : 12 < S.length ∨ 12 < T.length ∨ 12 < I.length
      · rw [decide_eq_true hlong] at HLong
        clear hlong
        go_wp2_with fail
        refine HLong.out.mono ?_
        rintro e w1 ⟨rfl, hb⟩
        have HE := Lib.hid (E.bel.trans (hb.mono E.hB))
        clear hb E HLong
        go_wp2_with fail
        go_roundw
        case rel => exact ⟨k + 1, by omega, by go_num, HB.out.trans (HE.out.mono hsz)⟩
        case measure => simp [intOf]; omega
      · rw [decide_eq_false hlong] at HLong
        have hS12 : S.length ≤ 12 := by omega
        have hT12 : T.length ≤ 12 := by omega
        clear hlong hTl hIl
        go_wp2_with fail
        refine HLong.out.mono ?_
        rintro e w1 ⟨rfl, hb⟩
        replace E := E.next hb
        clear hb HLong c0 c1 c2 c3
        have p0 := E.cell (a := ⟨wo.heap.size, 0, none⟩) (by simp; rfl)
        have p1 := E.cell (a := ⟨wo.heap.size, 1, none⟩) (by simp; rfl)
        have p2 := E.cell (a := ⟨wo.heap.size, 2, none⟩) (by simp; rfl)
        have p3 := E.cell (a := ⟨wo.heap.size, 3, none⟩) (by simp; rfl)
        cases hS : goodB S
        · go_wp2_with (go_at_call 26; refine (rmay_any _ _ _ _ _ (E.live (by simp))).mono ?_; rintro e w' ⟨rfl, rfl⟩)
          have HE := Lib.hid E.bel
          clear E
          go_roundw
          case rel => exact ⟨k + 1, by omega, by go_num, HB.out.trans (HE.out.mono hsz)⟩
          case measure => simp [intOf]; omega
        · obtain ⟨hP0, hP1⟩ := goodB_prod hS
          have hs1 := strides_any aS cS S w1 (E.live (by simp))
          rw [hS] at hs1
          replace hs1 := Lib.hid hs1
          have HD := Lib.hid (goodB_dims hS)
          have HG := Lib.hid hS
          have HMS := Lib.hid (wf_dims (xs := strI S) (fun x hx => by have := strI_mem HD.out hP1 x hx; omega))
          have HLS := Lib.hid (strI_length S)
          go_wp2_with (first | (go_at_call 26; refine (rmay_any _ _ _ _ _ (E.live (by simp))).mono ?_; rintro e w' ⟨rfl, rfl⟩) | (go_at_call 27; refine (count_any _ _ _ _ _ (E.live (by simp))).mono ?_; rintro e w' ⟨rfl, rfl⟩))
          refine hs1.out.mono ?_
          rintro e w2 ⟨v2, rfl, ho, hb⟩
          simp only [if_true] at ho
          obtain ⟨tA, tC, rfl, E2⟩ := E.made hb ho HMS.out
          replace E := E2
          clear E2 ho hb hs1 p0 p1 p2 p3
          have p0 := E.cell (a := ⟨wo.heap.size, 0, none⟩) (by simp; rfl)
          have p1 := E.cell (a := ⟨wo.heap.size, 1, none⟩) (by simp; rfl)
          have p2 := E.cell (a := ⟨wo.heap.size, 2, none⟩) (by simp; rfl)
          have p3 := E.cell (a := ⟨wo.heap.size, 3, none⟩) (by simp; rfl)
          have HS2 := Lib.hid (E.live (a := aS) (xs := S) (by simp))
          have HP2 := Lib.hid (E.cells (⟨wo.heap.size, 0, none⟩, .slice aS S.length cS) (by simp))
          have HE2 := Lib.hid E.restart
          have HEB := Lib.hid E.bel
          have hsz0 := hsz
          have hsz02 : w.heap.size ≤ w2.heap.size := Nat.le_trans hsz E.hB
          have hszo := E.hB
          have HW0 := Lib.hid (within0_any m (prodI S) w2 ⟨m0, m1⟩ hP0 (by omega))
          obtain ⟨hn0, hn1⟩ := withinN_bound m (prodI S) hP0
          obtain ⟨N, hN⟩ : ∃ N, N = withinN m (prodI S) := ⟨_, rfl⟩
          rw [← hN] at HW0 hn0 hn1
          clear hN
          have hAE : atE S N = 0 ∧ atL S N = standsI S N := by
            have : atE S N = 0 := by simp [atE, HG.out, hn0, hn1]
            exact ⟨this, by simp [atL, this]⟩
          have ha1 := at_any aS cS S N w2 (E.live (by simp)) (by omega)
          rw [hAE.1, hAE.2] at ha1
          replace ha1 := Lib.hid ha1
          have HMEM := Lib.hid (wf_dims (xs := standsI S N) (fun x hx => by have := standsI_mem HD.out x hx; omega))
          have HLX := Lib.hid (standsI_length S N)
          clear hAE
          have hlt2 : (((strI S).length : Int) != (S.length : Int)) = false := by simp [HLS.out]
          go_wp2_with (first | (go_at_call 29; refine (num6_any _ _).mono ?_; rintro e w' ⟨rfl, rfl⟩) | (go_at_call 30; refine HW0.out.mono ?_; rintro e w' ⟨rfl, rfl⟩))
          refine ha1.out.mono ?_
          rintro e w3 ⟨v3, rfl, ho, hb⟩
          obtain ⟨xA, xC, rfl, E2⟩ := E.made hb ho HMEM.out
          have E3b := Lib.hid hb
          replace E := E2
          clear E2 ho hb ha1 HW0 p0 p1 p2 p3 hlt2
          have p0 := E.cell (a := ⟨wo.heap.size, 0, none⟩) (by simp; rfl)
          have p1 := E.cell (a := ⟨wo.heap.size, 1, none⟩) (by simp; rfl)
          have p2 := E.cell (a := ⟨wo.heap.size, 2, none⟩) (by simp; rfl)
          have p3 := E.cell (a := ⟨wo.heap.size, 3, none⟩) (by simp; rfl)
          have hlx2 : (((standsI S N).length : Int) != (S.length : Int)) = false := by simp [HLX.out]
          clear hS
          go_wp2_with (go_at_call 29; refine (num6_any _ _).mono ?_; rintro e w' ⟨rfl, rfl⟩)
          have E3 := Lib.hid E
          have hsz23 : w2.heap.size ≤ w3.heap.size := (E.owns (w2.heap.size, xA, xC, standsI S N) (by simp)).2.2
          clear E p0 p1 p2 p3 hlx2
          go_loopw [12] (fun i wi => ∃ j : Nat, j ≤ (standsI S N).length ∧ i = .int .i64 j ∧ Below w3.heap.size w3 wi) (fun i _ => (standsI S N).length - (intOf i).toNat)
          case atStart => exact ⟨0, Nat.zero_le _, rfl, Below.refl _ _⟩
          case round =>
            obtain ⟨j, hj, rfl, hbi⟩ := hrel
            obtain ⟨wi, rfl⟩ : ∃ wi : World, wi = wr := ⟨_, rfl⟩
            have E := E3.out.next hbi
            have HBI := Lib.hid hbi
            have hszi := hbi.size
            clear hbi
            by_cases hjl : j < (standsI S N).length
            · have hjS : j < S.length := by have := HLX.out; omega
              have hjT : j < (strI S).length := by have := HLS.out; omega
              have p0 := E.cell (a := ⟨wo.heap.size, 0, none⟩) (by simp; rfl)
              obtain ⟨bx, ox, hax, hbx, hxc⟩ := (E.live (a := xA) (xs := standsI S N) (by simp)).cell j hjl
              obtain ⟨bS, oS, haS, hbS, hSc⟩ := (E.live (a := aS) (xs := S) (by simp)).cell j hjS
              subst hax; subst haS
              rw [List.getElem?_eq_getElem hjl] at hxc
              rw [List.getElem?_eq_getElem hjS] at hSc
              simp only [Option.getD_some] at hxc hSc
              have hxb := standsI_mem (n := N) HD.out _ (List.getElem_mem hjl)
              obtain ⟨hxb0, hxb1⟩ := hxb
              have hwr1 : IntKind.i64.wrap ((standsI S N)[j] + 1) = (standsI S N)[j] + 1 := IntWalk.i64_in _ (by omega)
              by_cases hup : (standsI S N)[j] + 1 < S[j]
              · go_wp2_with fail
                go_quiet (fail)
                clear hwr1
                have hSU := Lib.hid (step_up HG.out hn0 hn1 hjS (by rw [List.getElem?_eq_getElem hjl, List.getElem?_eq_getElem hjS]; exact hup))
                rw [List.getElem?_eq_getElem hjl, List.getElem?_eq_getElem hjT] at hSU
                simp only [Option.getD_some] at hSU
                go_wp2_with fail
                refine (copyNumbers_any (some ⟨bx, ox, none⟩) xC (standsI S N) _ ((E.drewN _).live (by simp)) (by have := HLX.out; omega)).mono ?_
                rintro e w5 ⟨v5, rfl, ho, hb⟩
                obtain ⟨yA, yC, rfl, E2⟩ := (E.drewN _).made hb ho HMEM.out
                have hyo := E2.owns (_, yA, yC, standsI S N) (List.mem_cons_self ..)
                dsimp only at hyo
                obtain ⟨ya', yc', hye, hysh⟩ := own_shape hyo.1
                injection hye with hy1 hy2 hy3
                subst hy1
                obtain ⟨g, rfl, hg1, hg2⟩ := hysh.resolve_left (by omega)
                have hold : w5.cell? ⟨g, j, none⟩ = some (.int .i64 ((standsI S N)[j]?.getD 0)) := own_cell hyo.1 hjl
                have hfr := hyo.1.frozenAt j
                rw [List.getElem?_eq_getElem hjl, Option.getD_some] at hold
                have hst := (hyo.1.stored j (.int .i64 ((standsI S N)[j] + 1))).1
                rw [map_set] at hst
                have hyI : ∃ c', Ints .i64 (w5.setCell ⟨g, j, none⟩ (.int .i64 ((standsI S N)[j] + 1))) (w5.setCell ⟨g, j, none⟩ (.int .i64 ((standsI S N)[j] + 1))).heap.size (some ⟨g, 0, none⟩) ((standsI S N).set j ((standsI S N)[j] + 1)) ∧ c' = yC := by
                  obtain ⟨a', c', he', hi'⟩ := own_ints (xs := (standsI S N).set j ((standsI S N)[j] + 1)) hst (fun x hx => by
                    rcases List.mem_or_eq_of_mem_set hx with h | h
                    · exact HMEM.out x h
                    · subst h; exact wf_i64_iff.2 ⟨by omega, by omega⟩)
                  injection he' with e1 e2 e3
                  subst e1
                  exact ⟨c', hi', e3.symm⟩
                obtain ⟨yC2, hyI, rfl⟩ := hyI
                have hbY := hb.setCell (p := ⟨g, j, none⟩) hg1 (.int .i64 ((standsI S N)[j] + 1))
                have HBR := Lib.hid ((below_drewN HBI.out _).trans (hbY.mono hszi))
                replace E := (E.drewN _).next hbY
                have HIX := index_any _ (some ⟨g, 0, none⟩) cS yC2 _ S ((standsI S N).set j ((standsI S N)[j] + 1)) _ (E.live (a := some ⟨bS, oS, none⟩) (xs := S) (by simp)) hyI
                rw [hSU.out.1, hSU.out.2, List.length_set] at HIX
                replace HIX := Lib.hid HIX
                clear E2 ho hb hyo hysh hst hyI hbY hy2 hy3 p0 hxc hSc
                have pX := E.cell (a := ⟨wo.heap.size, 0, none⟩) (by simp; rfl)
                obtain ⟨bT, oT, haT, hbT, hTc⟩ := (E.live (a := tA) (xs := strI S) (by simp)).cell j hjT
                subst haT
                rw [List.getElem?_eq_getElem hjT] at hTc
                simp only [Option.getD_some] at hTc
                have htb := strI_mem HD.out hP1 _ (List.getElem_mem hjT)
                obtain ⟨htb0, htb1⟩ := htb
                have hee : ((N + (strI S)[j]) != (N + (strI S)[j])) = false := by simp
                go_wp2_with (first | (go_at_call 33; refine HIX.out.mono ?_; rintro e w' ⟨rfl, rfl⟩) | (go_at_call 29; refine (num6_any _ _).mono ?_; rintro e w' ⟨rfl, rfl⟩))
                go_roundw
                case rel => exact ⟨j + 1, by omega, by go_num, HBR.out⟩
                case measure => simp [intOf]; omega
              · go_wp2_with fail
                go_quiet (fail)
                clear hwr1
                go_wp2_with fail
                go_roundw
                case rel => exact ⟨j + 1, by omega, by go_num, below_drewN HBI.out _⟩
                case measure => simp [intOf]; omega
            · -- behind the first loop
              have p0 := E.cell (a := ⟨wo.heap.size, 0, none⟩) (by simp; rfl)
              by_cases hnext : N + 1 < prodI S
              · have hAE : atE S (N + 1) = 0 ∧ atL S (N + 1) = standsI S (N + 1) := by
                  have : atE S (N + 1) = 0 := by simp only [atE, HG.out, if_true]; rw [if_pos ⟨by omega, hnext⟩]
                  exact ⟨this, by simp [atL, this]⟩
                have ha2 := at_any aS cS S (N + 1) wi (E.live (by simp)) (by omega)
                rw [hAE.1, hAE.2] at ha2
                replace ha2 := Lib.hid ha2
                clear hAE
                have HM2 := Lib.hid (wf_dims (xs := standsI S (N + 1)) (fun x hx => by have := standsI_mem HD.out x hx; omega))
                have HLY := Lib.hid (standsI_length S (N + 1))
                go_wp2_with fail
                refine ha2.out.mono ?_
                rintro e w6 ⟨v6, rfl, ho, hb⟩
                have HDIS : Hid (∀ g, (Value.slice xA (standsI S N).length xC).ownBlock = some g → g < wi.heap.size) := fun g hg => ((E.own (b := w2.heap.size) (a := xA) (c := xC) (xs := standsI S N) (by simp)).lt g hg).2
                obtain ⟨yA, yC, rfl, E2⟩ := E.made hb ho HM2.out
                have hy0 := Lib.hid (E2.own (b := wi.heap.size) (a := yA) (c := yC) (xs := standsI S (N + 1)) (by simp))
                have hx0 := Lib.hid (E2.own (b := w2.heap.size) (a := xA) (c := xC) (xs := standsI S N) (by simp))
                have HXB : Hid (∀ g, (Value.slice xA (standsI S N).length xC).ownBlock = some g → w2.heap.size ≤ g) := fun g hg => (hx0.out.lt g hg).1
                have hsz6 := hb.size
                have hb26 := Lib.hid ((((E3b.out).trans (HBI.out.mono hsz23)).trans (hb.mono (Nat.le_trans hsz23 hszi))))
                clear E E2 ho hb ha2 p0
                have hxl12 : (standsI S N).length ≤ 12 := by have := HLX.out; omega
                go_wp2_with fail
                go_loopw [18] (fun i wk => ∃ (q : Nat) (Z : List Int), q ≤ S.length ∧ i = .int .i64 ((q : Int) - 1) ∧ Carry S N q Z ∧ wk.ownsRow w2.heap.size 3 1 (.slice xA (standsI S N).length xC) (standsI S N).length (Z.map (Value.int .i64)) ∧ w6.grownBy wk (Value.slice xA (standsI S N).length xC).ownBlock) (fun i _ => ((intOf i) + 1).toNat)
                case atStart => exact ⟨S.length, standsI S N, Nat.le_refl _, by rw [HLX.out], Carry.start HD.out hn0 hn1, hx0.out, World.grownBy.refl _ _⟩
                case round =>
                  obtain ⟨q, Z, hq, rfl, hcar, hown, hgr⟩ := hrel
                  have hZl := own_len hown
                  have hbk : Below w2.heap.size w2 _ := hb26.out.trans ((Below.refl _ _).grown hgr (by omega) HXB.out)
                  rcases q with _ | q
                  · exact absurd (Carry.zero HD.out hcar) (by omega)
                  · rw [show (((q + 1 : Nat) : Int) - 1) = (q : Int) by omega]
                    have hqS : q < S.length := by omega
                    have hqX : q < (standsI S N).length := by have := HLX.out; omega
                    have hqZ : q < Z.length := by omega
                    have hzb := (withinB_iff.1 hcar.1).2 q hqS
                    have hdb := HD.out.at hqS
                    obtain ⟨xa', xc', hxe, hxsh⟩ := own_shape hown
                    injection hxe with hx1 hx2 hx3
                    subst hx1; subst hx3
                    obtain ⟨g, rfl, hg1, hg2⟩ := hxsh.resolve_left (by omega)
                    have hxc := own_cell hown hqX
                    have hfr := hown.frozenAt q
                    obtain ⟨bS, oS, rfl, hbS, hSc⟩ := (HS2.out.below hbk (Nat.le_refl _)).cell q hqS
                    have p0 := (hbk.cell (p := ⟨wo.heap.size, 0, none⟩) HP2.out.2).trans HP2.out.1
                    rw [List.getElem?_eq_getElem hqZ] at hxc hzb
                    rw [List.getElem?_eq_getElem hqS] at hSc hzb
                    simp only [Option.getD_some] at hxc hSc hzb
                    obtain ⟨hzb0, hzb1⟩ := hzb
                    obtain ⟨hdb0, hdb1⟩ := hdb
                    have hneS : bS ≠ g := by omega
                    have hPlt : wo.heap.size < w2.heap.size := HP2.out.2
                    have hneP : wo.heap.size ≠ g := by omega
                    have hwr1 : IntKind.i64.wrap (Z[q] + 1) = Z[q] + 1 := IntWalk.i64_in _ (by omega)
                    have hq0 : decide ((0 : Int) ≤ (q : Int)) = true := by simp
                    by_cases hmx : Z[q] + 1 = S[q]
                    · have HC := Lib.hid (Carry.down HD.out hcar hqS (by rw [List.getElem?_eq_getElem hqZ, List.getElem?_eq_getElem hqS]; exact hmx))
                      have hst := fun d => (own_drewN hown d).stored q (.int .i64 0)
                      rw [map_set] at hst
                      have HST := Lib.hid hst
                      have HGR : Hid (∀ d, w6.grownBy ((wr.drewN d).setCell ⟨g, q, none⟩ (.int .i64 0)) _) := fun d => grown_trans (grown_drewN hgr d) (hst d).2
                      have hmxb : (Z[q] + 1 == S[q]) = true := by simp [hmx]
                      have HMX := Lib.hid hmx
                      clear hst hown hgr hcar hbk hmx hxsh hx2
                      go_wp2_with fail
                      go_quiet (fail)
                      clear hwr1
                      go_wp2_with fail
                      go_roundw
                      case rel => exact ⟨q, _, by omega, by go_num, HC.out, (HST.out _).1, HGR.out _⟩
                      case measure => simp [intOf]
                    · have HC := Lib.hid (Carry.up HD.out hcar hqS (by rw [List.getElem?_eq_getElem hqZ, List.getElem?_eq_getElem hqS]; exact hmx))
                      rw [List.getElem?_eq_getElem hqZ, Option.getD_some] at HC
                      have hst := fun d => (own_drewN hown d).stored q (.int .i64 (Z[q] + 1))
                      rw [map_set, HC.out] at hst
                      have hgr2 : ∀ d, w6.grownBy ((wr.drewN d).setCell ⟨g, q, none⟩ (.int .i64 (Z[q] + 1))) _ := fun d => grown_trans (grown_drewN hgr d) (hst d).2
                      have hlen : (standsI S N).length = (standsI S (N + 1)).length := by rw [HLX.out, HLY.out]
                      have HBEQ : Hid (∀ d, Calls Try.prog 34 #[.slice (some ⟨g, 0, none⟩) (standsI S N).length xC, .slice yA (standsI S (N + 1)).length yC] ((wr.drewN d).setCell ⟨g, q, none⟩ (.int .i64 (Z[q] + 1))) fun e w' => e = .returned (.bool true) ∧ ∃ q', w' = ((wr.drewN d).setCell ⟨g, q, none⟩ (.int .i64 (Z[q] + 1))).drewN q') := by
                        intro d
                        have hy2 := own_other hy0.out HDIS.out (hgr2 d)
                        obtain ⟨yA', yC', hye, hyI⟩ := own_ints hy2 HM2.out
                        injection hye with hy1 hy3 hy4
                        subst hy1
                        have hst1 := (hst d).1
                        rw [hlen] at hst1
                        obtain ⟨xA', xC', hxe, hxI⟩ := own_ints hst1 HM2.out
                        injection hxe with hx1 hx3 hx4
                        subst hx1
                        rw [hlen]
                        have := eqNumbers_any (some ⟨g, 0, none⟩) yA xC yC _ (standsI S (N + 1)) (standsI S (N + 1)) _ hxI hyI
                        rw [decide_eq_true rfl] at this
                        exact this
                      have HFIN : Hid (∀ d, Below w.heap.size w ((wr.drewN d).setCell ⟨g, q, none⟩ (.int .i64 (Z[q] + 1)))) := fun d => HB.out.trans (((HEB.out.mono hsz0).trans (hb26.out.mono hsz02)).trans ((Below.refl _ _).grown (hgr2 d) (by omega) (fun j hj => by have := HXB.out j hj; omega)))
                      have hmxb : (Z[q] + 1 == S[q]) = false := by simp [hmx]
                      have HMX := Lib.hid hmx
                      clear hst hown hgr hgr2 hcar hbk hmx hxsh hx2 hlen HC
                      go_wp2_with fail
                      go_quiet (fail)
                      clear hwr1
                      go_wp2_with (go_at_call 29; refine (num6_any _ _).mono ?_; rintro e w' ⟨rfl, rfl⟩)
                      refine (HBEQ.out _).mono ?_
                      rintro e w' ⟨rfl, q9, rfl⟩
                      go_wp2_with fail
                      go_roundw
                      case rel => exact ⟨k + 1, by omega, by go_num, below_drewN (HFIN.out _) _⟩
                      case measure => simp [intOf]; omega
              · have hnx : ¬ N + 1 < prodI S := hnext
                have HE := Lib.hid E.bel
                clear E p0
                go_wp2_with fail
                go_roundw
                case rel => exact ⟨k + 1, by omega, by go_num, HB.out.trans (HE.out.mono hsz)⟩
                case measure => simp [intOf]; omega
    · -- the end
      have HB := Lib.hid hbel
      have hsz := hbel.size
      have HW := Lib.hid (wakes6_any wo)
      clear hbel h
      by_cases hlt : k < n
      · have h20 : ¬ k < 20 := fun h => hend ⟨hlt, h⟩
        clear hend
        go_wp2_with (go_at_call 35; refine HW.out.mono ?_; rintro e w1 ⟨rfl, hb⟩)
        go_ret
        exact ⟨rfl, HB.out.trans (hb.mono hsz)⟩
      · clear hend
        go_wp2_with (go_at_call 35; refine HW.out.mono ?_; rintro e w1 ⟨rfl, hb⟩)
        go_ret
        exact ⟨rfl, HB.out.trans (hb.mono hsz)⟩

end Go.Proofs.Ytiejkdnkdmanmaa
