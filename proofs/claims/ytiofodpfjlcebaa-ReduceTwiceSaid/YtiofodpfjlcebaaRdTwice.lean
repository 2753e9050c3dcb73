/- The law ReduceTwice, walked. -/
import Derived.Test.YtiofodpfjlcebaaRdTw
import Derived.Test.YtiofodpfjlcebaaRdR
import Derived.Test.YtiofodpfjlcebaaRdG
set_option linter.unusedVariables false
set_option linter.unusedSimpArgs false
namespace Go.Proofs.Ytiofodpfjlcebaa
open Go.RowKit Go.Rt

theorem two_axes {al n : Nat} (h : al < n) (h2 : ¬ n < 2) (hn : n ≤ 8) : ∃ (be : Int) (lo hi : Nat), (RowKit.wrap64 ((al : Int) + 1)).tmod (n : Int) = be ∧ min (al : Int) be = (lo : Int) ∧ max (al : Int) be = (hi : Int) ∧ lo < hi ∧ hi < n := by
  rw [IntWalk.wrap64_in _ (by omega), Int.tmod_eq_emod_of_nonneg (by omega)]
  refine ⟨_, (min (al : Int) (((al : Int) + 1) % (n : Int))).toNat, (max (al : Int) (((al : Int) + 1) % (n : Int))).toNat, rfl, ?_⟩
  by_cases h3 : al + 1 = n
  · have e : ((al : Int) + 1) % (n : Int) = 0 := by
      have : (al : Int) + 1 = n := by omega
      rw [this, Int.emod_self]
    rw [e]; omega
  · have e : ((al : Int) + 1) % (n : Int) = al + 1 := Int.emod_eq_of_lt (by omega) (by omega)
    rw [e]; omega
theorem ints_nil (W : World) (hi : Nat) : Ints .i64 W hi none [] := ⟨by simp, by simp, by simp⟩

set_option maxRecDepth 100000 in
set_option maxHeartbeats 8000000 in
theorem reduceTwice_any (q : Option Addr) (n c0 : Nat) (w : World) (h : AsksAt9 w w.heap.size q n) :
    Calls Try.prog 4 #[.slice q n c0] w fun e w' => e = .returned (.bool true) ∧ Below w.heap.size w w' := by
  have hm := h.len
  go_enter Try.func4, Try.ntmps4
  go_wp2_with fail
  go_loopw [3] (fun i wr => ∃ k : Nat, k ≤ n ∧ i = .int .i64 k ∧ Below w.heap.size w wr) (fun i _ => n - (intOf i).toNat)
  case atStart => exact ⟨0, Nat.zero_le _, rfl, Below.refl _ _⟩
  case round =>
    obtain ⟨k, hk, rfl, hbel⟩ := hrel
    obtain ⟨wo, rfl⟩ : ∃ wo : World, wo = wr := ⟨_, rfl⟩
    by_cases hend : k < n ∧ k < 10
    · obtain ⟨hlt, h20⟩ := hend
      obtain ⟨b0, o_, ⟨a, c, b, d, xs, ys⟩, ai, ci, axes, x, rfl, ht⟩ := h.at_ k hlt
      replace ht := ht.below hbel
      have hsz := hbel.size
      have HB := Lib.hid hbel
      have tA := ht.tA
      dsimp only at tA
      have hl1 := tA.sh.len
      have hl2 := tA.da.len
      have HI0 := Lib.hid (tA.sh.mono hsz)
      have HI1 := Lib.hid (tA.da.mono hsz)
      have HI2 := Lib.hid (ht.tI.mono hsz)
      have HC1 := Lib.hid (And.intro tA.c1 tA.c2)
      have HC2 := Lib.hid (And.intro tA.d1 tA.d2)
      have HC3 := Lib.hid (And.intro ht.i1 ht.i2)
      have HX := Lib.hid (And.intro ht.x0 ht.x1)
      have hhv := fun W => heavyT_any a b xs.length c ys.length d 60 W hl1 hl2
      have q0 := ht.c0
      have q1 := ht.c1
      have q2 := ht.c2
      have q3 := ht.c3
      dsimp only at q0 q1 q2 q3
      clear ht tA hbel h
      cases hv : (decide ((60 : Int) < ys.length) || decide (8 < xs.length)) with
      | true =>
        rw [hv] at hhv
        clear hv
        have F1 := Lib.hid ((Fr.start (w := wo) (I := [(.i64, a, xs), (.i64, b, ys), (.i64, ai, axes)]) (by intro z hz; simp at hz; rcases hz with rfl | rfl | rfl; exact HI0.out; exact HI1.out; exact HI2.out)).box1 (b := wo.heap.size) rfl [.slice a xs.length c, .slice b ys.length d, .slice ai axes.length ci, .int .i64 x] 28)
        simp only [List.nil_append] at F1
        go_upto_region 5 with fail
        obtain ⟨W1, hW1⟩ : ∃ W1, wo.alloc (.cells #[.slice a xs.length c, .slice b ys.length d, .slice ai axes.length ci, .int .i64 x] 28) = W1 := ⟨_, rfl⟩
        rw [hW1] at F1 ⊢
        clear hW1 q0 q1 q2 q3
        have c0_0 := F1.out.c 0 0 rfl rfl
        have c0_1 := F1.out.c 0 1 rfl rfl
        have c0_2 := F1.out.c 0 2 rfl rfl
        have c0_3 := F1.out.c 0 3 rfl rfl
        go_wp2_with (go_at_call 6; refine (hhv W1).mono ?_; rintro e w2 ⟨rfl, hb⟩; have F2 := Lib.hid (F1.out.next hb); clear hb)
        go_ret
        exact ⟨rfl, HB.out.trans (F2.out.bel.mono HB.out.size)⟩
      | false =>
        have hg12 : ys.length ≤ 60 ∧ xs.length ≤ 8 := by
          simp only [Bool.or_eq_false_iff, decide_eq_false_iff_not] at hv
          omega
        obtain ⟨g1, g2⟩ := hg12
        rw [hv] at hhv
        clear hv
        have htm := fun W (h : Ints .i64 W W.heap.size a xs) (h2 : Ints .i64 W W.heap.size b ys) => tenMay_any a b c d xs ys W h h2
        have HTM := Lib.hid htm
        clear htm
        have F1 := Lib.hid ((Fr.start (w := wo) (I := [(.i64, a, xs), (.i64, b, ys), (.i64, ai, axes)]) (by intro z hz; simp at hz; rcases hz with rfl | rfl | rfl; exact HI0.out; exact HI1.out; exact HI2.out)).box1 (b := wo.heap.size) rfl [.slice a xs.length c, .slice b ys.length d, .slice ai axes.length ci, .int .i64 x] 28)
        simp only [List.nil_append] at F1
        go_upto_region 5 with fail
        obtain ⟨W1, hW1⟩ : ∃ W1, wo.alloc (.cells #[.slice a xs.length c, .slice b ys.length d, .slice ai axes.length ci, .int .i64 x] 28) = W1 := ⟨_, rfl⟩
        rw [hW1] at F1 ⊢
        clear hW1 q0 q1 q2 q3
        have c0_0 := F1.out.c 0 0 rfl rfl
        have c0_1 := F1.out.c 0 1 rfl rfl
        have c0_2 := F1.out.c 0 2 rfl rfl
        have c0_3 := F1.out.c 0 3 rfl rfl
        go_upto_region 7 with (go_at_call 6; refine (hhv W1).mono ?_; rintro e w2 ⟨rfl, hb⟩; have F2 := Lib.hid (F1.out.next hb); clear hb F1 c0_0 c0_1 c0_2 c0_3; have d0_0 := F2.out.c 0 0 rfl rfl; have d0_1 := F2.out.c 0 1 rfl rfl; have d0_2 := F2.out.c 0 2 rfl rfl; have d0_3 := F2.out.c 0 3 rfl rfl)
        have htm := HTM.out
        clear HTM
        cases htb : tenB xs ys with
        | false =>
          rw [htb] at htm
          have HTM := Lib.hid htm
          clear htm htb
          go_wp2_with (go_at_call 7; refine (HTM.out _ (F2.out.lw 0 rfl) (F2.out.lw 1 rfl)).mono ?_; rintro e w3 ⟨rfl, hb⟩; have F3 := Lib.hid (F2.out.next hb); clear hb F2 d0_0 d0_1 d0_2 d0_3; have c0_0 := F3.out.c 0 0 rfl rfl; have c0_1 := F3.out.c 0 1 rfl rfl; have c0_2 := F3.out.c 0 2 rfl rfl; have c0_3 := F3.out.c 0 3 rfl rfl)
          go_roundw
          case rel => exact ⟨k + 1, by omega, by go_num, HB.out.trans (F3.out.bel.mono HB.out.size)⟩
          case measure => simp [intOf]; omega
        | true =>
          rw [htb] at htm
          have HTM := Lib.hid htm
          clear htm
          by_cases hn0 : xs.length = 0
          · skip
            have hn1 : ((xs.length : Int) == 0) = true := by rw [hn0]; rfl
            have HTB := Lib.hid htb
            clear htb hn0
            go_wp2_with (go_at_call 7; refine (HTM.out _ (F2.out.lw 0 rfl) (F2.out.lw 1 rfl)).mono ?_; rintro e w3 ⟨rfl, hb⟩; have F3 := Lib.hid (F2.out.next hb); clear hb F2 d0_0 d0_1 d0_2 d0_3; have c0_0 := F3.out.c 0 0 rfl rfl; have c0_1 := F3.out.c 0 1 rfl rfl; have c0_2 := F3.out.c 0 2 rfl rfl; have c0_3 := F3.out.c 0 3 rfl rfl)
            go_roundw
            case rel => exact ⟨k + 1, by omega, by go_num, HB.out.trans (F3.out.bel.mono HB.out.size)⟩
            case measure => simp [intOf]; omega
          · skip
            have hn1 : ((xs.length : Int) == 0) = false := beq_eq_false_iff_ne.2 (by omega)
            have hwi := fun W => within0_any x (xs.length : Int) W ⟨HX.out.1, HX.out.2⟩ (by omega) (by omega)
            have hwb := withinN_bound x (xs.length : Int) (by omega)
            obtain ⟨al, hal⟩ : ∃ al : Nat, withinN x (xs.length : Int) = al := ⟨(withinN x (xs.length : Int)).toNat, by omega⟩
            rw [hal] at hwi hwb
            have hal2 : al < xs.length := by omega
            have hck : ckZ xs ys [(al : Int)] = 0 := by
              unfold ckZ
              rw [if_pos htb, if_pos]
              simp only [axB, Bool.and_true, Bool.and_eq_true, decide_eq_true_eq]
              omega
            have hmx := fun W h h2 => rmax_good a b c d al xs ys W h h2 htb hal2 hck
            obtain ⟨S, T, Q, hS, hT, hQ, ⟨hQT, hT1, hcE⟩, ⟨hwS, hwT, hwQ⟩, hDS, htop⟩ := top_letters htb hal2
            rw [hS, hT, hQ] at hmx
            have hlf := fun g W h h2 => left8_any a (some ⟨g, 0, none⟩) c 1 xs [(al : Int)] W h h2 (by omega)
            rw [hS] at hlf
            have hcn := fun a9 c9 W h => rcount_any a9 c9 (World.heap W).size S W h hDS
            rw [hcE] at hcn
            have hQT2 : ((Q.length : Int) != (T.length : Int)) = false := by rw [hQT]; simp
            have hin := fun g W k h h2 hk0 hk1 => into8_any a (some ⟨g, 0, none⟩) c 1 xs [(al : Int)] k W h h2 (tenB_iff.1 htb).1 hk0 hk1
            have hat := fun W k h hk0 hk1 => rat_any a c xs k W h (tenB_iff.1 htb).1 hk0 hk1
            have HWI := Lib.hid hwi
            have HMX := Lib.hid hmx
            have HLF := Lib.hid hlf
            have HCN := Lib.hid hcn
            have HIN := Lib.hid hin
            have HAT := Lib.hid hat
            have HWS := Lib.hid hwS
            have HWT := Lib.hid hwT
            have HWQ := Lib.hid hwQ
            have HTOP := Lib.hid htop
            have HT1 := Lib.hid hT1
            have HTB := Lib.hid htb
            have HAL2 := Lib.hid hal2
            have HQT := Lib.hid hQT
            clear hwi hmx hlf hcn hin hat hwS hwT hwQ htop hT1 htb hal2 hQT hck hal hwb hS hT hQ hcE hDS hn0
            go_upto_region 9 with (go_at_call 7; refine (HTM.out _ (F2.out.lw 0 rfl) (F2.out.lw 1 rfl)).mono ?_; rintro e w3 ⟨rfl, hb⟩; have F3 := Lib.hid (F2.out.next hb); clear hb F2 d0_0 d0_1 d0_2 d0_3; have c0_0 := F3.out.c 0 0 rfl rfl; have c0_1 := F3.out.c 0 1 rfl rfl; have c0_2 := F3.out.c 0 2 rfl rfl; have c0_3 := F3.out.c 0 3 rfl rfl)
            go_upto_region 10 with (go_at_call 13; refine (HWI.out _).mono ?_; rintro e w' ⟨rfl, rfl⟩)
            go_upto_region 11 with (first | (go_at_call 14; refine (HMX.out _ (F3.out.lw 0 rfl) (F3.out.lw 1 rfl)).mono ?_; rintro e w4 ⟨a4, c4, b4, d4, p4, q4, rfl, hf⟩; have F4 := Lib.hid (F3.out.join hf); simp only [List.cons_append, List.nil_append] at F4; clear hf F3 c0_0 c0_1 c0_2 c0_3) | fail)
            obtain ⟨b4', d4', he, hsh⟩ := own_shape (F4.out.r 1 rfl)
            simp only [Value.slice.injEq] at he
            obtain ⟨rfl, _, rfl⟩ := he
            obtain ⟨gt, rfl, _⟩ := hsh.resolve_left (show ¬ T.length = 0 from by have := HT1.out; omega)
            obtain ⟨p4', q4', he, hsh⟩ := own_shape (F4.out.r 2 rfl)
            simp only [Value.slice.injEq] at he
            obtain ⟨rfl, _, rfl⟩ := he
            obtain ⟨gq, rfl, _⟩ := hsh.resolve_left (show ¬ Q.length = 0 from by have := HT1.out; have := HQT.out; omega)
            obtain ⟨Y5, hY5⟩ : ∃ x, w4.heap.size = x := ⟨_, rfl⟩
            rw [hY5]
            have F5 := Lib.hid (F4.out.box1 (b := Y5) hY5 [.slice a4 S.length c4, .slice (some ⟨gt, 0, none⟩) T.length d4] 26)
            simp only [List.nil_append, List.cons_append] at F5
            obtain ⟨W5, hW5⟩ : ∃ x, (w4.alloc (.cells #[.slice a4 S.length c4, .slice (some ⟨gt, 0, none⟩) T.length d4] 26)) = x := ⟨_, rfl⟩
            rw [hW5] at F5 ⊢
            clear hW5 hY5 F4
            have c0_0 := F5.out.c 0 0 rfl rfl
            have c0_1 := F5.out.c 0 1 rfl rfl
            have c0_2 := F5.out.c 0 2 rfl rfl
            have c0_3 := F5.out.c 0 3 rfl rfl
            have c1_0 := F5.out.c 1 0 rfl rfl
            have c1_1 := F5.out.c 1 1 rfl rfl
            have F5b := Lib.hid (F5.out.box1 (b := W5.heap.size) rfl [.int .i64 al] 3)
            simp only [List.nil_append, List.cons_append] at F5b
            have HWA : Hid (∀ z ∈ [(al : Int)], (Lit.int .i64 z).wf = true) := Lib.hid (by intro z hz; obtain rfl := List.mem_singleton.1 hz; have := HAL2.out; exact wf_i64_iff.2 ⟨by omega, by omega⟩)
            go_upto_region 13 with (first | (go_at_call 9; refine (num9_any _ _).mono ?_; rintro e w' ⟨rfl, rfl⟩) | (go_at_call 16; refine (HLF.out _ _ (F5b.out.lw 0 rfl) (ints_of_box (xs := [(al : Int)]) (F5b.out.box _ (List.mem_of_getElem? (i := 2) rfl)).1 (F5b.out.bl 2 rfl).2 (by simp) HWA.out)).mono ?_; rintro e w6 ⟨v, rfl, hown, hb⟩; obtain ⟨a6, c6, rfl, _⟩ := own_shape hown; have F6 := Lib.hid (F5b.out.addO hb hown); simp only [List.cons_append, List.nil_append] at F6; clear hown hb F5 F5b c0_0 c0_1 c0_2 c0_3 c1_0 c1_1) | (go_at_call 15; refine (HCN.out a6 c6 _ (F6.out.li 3 (k := .i64) (xs := S) rfl HWS.out)).mono ?_; rintro e w' ⟨rfl, rfl⟩) | fail)
            have F7 := Lib.hid (F6.out.less (.cons_cons _ (.cons_cons _ (.cons _ (.slnil)))) (.refl _) (.cons_cons _ (.cons_cons _ (.cons_cons _ (.cons _ (.slnil))))) (.refl _))
            clear F6 hsh
            go_wp2
            go_loopw [10] (fun i wr => ∃ j : Nat, j ≤ ys.length ∧ i = .int .i64 j ∧ Hid (Fr wo.heap.size wo wr [(wo.heap.size, [.slice a xs.length c, .slice b ys.length d, .slice ai axes.length ci, .int .i64 x]), (Y5, [.slice a4 S.length c4, .slice (some ⟨gt, 0, none⟩) T.length d4])] [(.i64, a, xs), (.i64, b, ys), (.i64, ai, axes)] [⟨3, .slice a4 S.length c4, S.length, S.map (Value.int .i64)⟩, ⟨2, .slice (some ⟨gt, 0, none⟩) T.length d4, T.length, T.map (Value.int .i64)⟩, ⟨3, .slice (some ⟨gq, 0, none⟩) Q.length q4, Q.length, Q.map (Value.int .i64)⟩] [])) (fun i _ => ys.length - (intOf i).toNat)
            case atStart => exact ⟨0, Nat.zero_le _, rfl, F7⟩
            case round =>
              obtain ⟨j, hj, rfl, F8⟩ := hrel
              clear F7
              obtain ⟨wi, rfl⟩ : ∃ x : World, x = wr := ⟨_, rfl⟩
              by_cases hlj : j < ys.length
              · as_aux_lemma =>
                obtain ⟨m, qm, hr, yk, tm, hm1, hm2, hm3, hm4, hm5, hm6, hm7, hm8, hm9⟩ := HTOP.out j hlj
                obtain ⟨gb, ob, rfl, hlb, hcell⟩ := (F8.out.l 1 rfl).cell j hlj
                rw [hm6] at hcell
                have hyl : (ys.length : Int) = prodI xs := (tenB_iff.1 HTB.out).2.1
                have hji : (j : Int) < (ys.length : Int) := by omega
                have hj0 : (0 : Int) ≤ (j : Int) := by omega
                have hin := fun g W h h2 => HIN.out g W (j : Int) h h2 hj0 (by omega)
                have hat := fun W h => HAT.out W (j : Int) h hj0 (by omega)
                rw [hm1] at hin
                have hsl : (standsI xs (j : Int)).length = xs.length := standsI_length xs j
                have hswf : ∀ z ∈ standsI xs (j : Int), (Lit.int .i64 z).wf = true := wf_stands (goodB_dims (tenB_iff.1 HTB.out).1)
                obtain ⟨SJ, hSJ⟩ : ∃ l, standsI xs (j : Int) = l := ⟨_, rfl⟩
                rw [hSJ] at hm5 hat hsl hswf
                have HINJ := Lib.hid hin
                have HATJ := Lib.hid hat
                have HSL := Lib.hid hsl
                have HM3 := Lib.hid hm3
                have HM6 := Lib.hid hm6
                have HM4 := Lib.hid hm4
                have HM5 := Lib.hid hm5
                have HM7 := Lib.hid hm7
                have HM8 := Lib.hid hm8
                have HM9 := Lib.hid hm9
                have hmi : (m : Int) < (T.length : Int) := by omega
                have hmq : (m : Int) < (Q.length : Int) := by have := HQT.out; omega
                have hal3 : (al : Int) < (xs.length : Int) := by have := HAL2.out; omega
                clear hin hat hsl hm1 hm3 hm4 hm5 hm6 hm7 hm8 hm9 hyl hSJ
                have c0_0 := F8.out.c 0 0 rfl rfl
                have c0_1 := F8.out.c 0 1 rfl rfl
                have c0_2 := F8.out.c 0 2 rfl rfl
                have c0_3 := F8.out.c 0 3 rfl rfl
                have c1_0 := F8.out.c 1 0 rfl rfl
                have c1_1 := F8.out.c 1 1 rfl rfl
                have F8b := Lib.hid (F8.out.box1 (b := wi.heap.size) rfl [.int .i64 al] 3)
                simp only [List.nil_append, List.cons_append] at F8b
                go_upto_region 17 with (first | (go_at_call 17; refine (HINJ.out _ _ (F8b.out.lw 0 rfl) (ints_of_box (xs := [(al : Int)]) (F8b.out.box _ (List.mem_of_getElem? (i := 2) rfl)).1 (F8b.out.bl 2 rfl).2 (by simp) HWA.out)).mono ?_; rintro e w9 ⟨rfl, hb⟩; have F9 := Lib.hid (F8b.out.next hb); clear hb F8 F8b c0_0 c0_1 c0_2 c0_3 c1_0 c1_1; replace F9 := Lib.hid (F9.out.less (.cons_cons _ (.cons_cons _ (.cons _ (.slnil)))) (.refl _) (.refl _) (.refl _)); have c0_0 := F9.out.c 0 0 rfl rfl; have c0_1 := F9.out.c 0 1 rfl rfl; have c0_2 := F9.out.c 0 2 rfl rfl; have c0_3 := F9.out.c 0 3 rfl rfl; have c1_0 := F9.out.c 1 0 rfl rfl; have c1_1 := F9.out.c 1 1 rfl rfl) | fail)
                go_upto_region 18 with (first | (go_at_call 18; refine (HATJ.out _ (F9.out.lw 0 rfl)).mono ?_; rintro e w10 ⟨v, rfl, hown, hb⟩; obtain ⟨a10, c10, rfl, hsh⟩ := own_shape hown; obtain ⟨g10, rfl, _⟩ := hsh.resolve_left (show ¬ SJ.length = 0 from by have := HSL.out; have := HAL2.out; omega); have F10 := Lib.hid (F9.out.addO hb hown); simp only [List.cons_append, List.nil_append] at F10; rw [HSL.out] at F10 ⊢; clear hsh hown hb F9 c0_0 c0_1 c0_2 c0_3 c1_0 c1_1; have c0_0 := F10.out.c 0 0 rfl rfl; have c0_1 := F10.out.c 0 1 rfl rfl; have c0_2 := F10.out.c 0 2 rfl rfl; have c0_3 := F10.out.c 0 3 rfl rfl; have c1_0 := F10.out.c 1 0 rfl rfl; have c1_1 := F10.out.c 1 1 rfl rfl; have hrm := (F10.out.rc 3 al rfl (u := .int .i64 hr) (by rw [List.getElem?_map, HM5.out]; rfl)).1) | fail)
                clear hrm hcell
                obtain ⟨g2, o2, he, _, hcell⟩ := (F10.out.l 1 rfl).cell j hlj
                rw [HM6.out] at hcell
                obtain ⟨rfl, rfl⟩ : gb = g2 ∧ ob = o2 := by simpa using he
                clear he
                have hrt := (F10.out.rc 1 m rfl (u := .int .i64 tm) (by rw [List.getElem?_map, HM3.out]; rfl)).1
                have hrq := (F10.out.rc 2 m rfl (u := .int .i64 qm) (by rw [List.getElem?_map, HM4.out]; rfl)).1
                go_upto_region 19 with fail
                have hm7 := HM7.out
                have hm8 := HM8.out
                have hm9 := HM9.out
                by_cases hc : hr < qm
                · skip
                  have hy := hm8 hc
                  have hc2 : ¬ hr = qm := by omega
                  have hc3 : (hr == qm) = false := beq_eq_false_iff_ne.2 hc2
                  have hy2 : (yk == tm) = false := beq_eq_false_iff_ne.2 hy
                  clear hm8 hm9
                  go_wp2_with fail
                  go_round
                  case rel => exact ⟨j + 1, by omega, by go_num, Lib.hid (F10.out.less (.refl _) (.refl _) (.cons_cons _ (.cons_cons _ (.cons_cons _ (.cons _ (.slnil))))) (.refl _))⟩
                  case measure => simp [intOf]; omega
                · skip
                  by_cases hc2 : hr = qm
                  · skip
                    have hy := hm9 hc2
                    subst hy
                    subst hc2
                    clear hm8 hm9
                    go_wp2_with fail
                    go_round
                    case rel => exact ⟨j + 1, by omega, by go_num, Lib.hid (F10.out.less (.refl _) (.refl _) (.cons_cons _ (.cons_cons _ (.cons_cons _ (.cons _ (.slnil))))) (.refl _))⟩
                    case measure => simp [intOf]; omega
                  · skip
                    have hc3 : (hr == qm) = false := beq_eq_false_iff_ne.2 hc2
                    clear hm8 hm9
                    go_wp2_with fail
                    go_round
                    case rel => exact ⟨j + 1, by omega, by go_num, Lib.hid (F10.out.less (.refl _) (.refl _) (.cons_cons _ (.cons_cons _ (.cons_cons _ (.cons _ (.slnil))))) (.refl _))⟩
                    case measure => simp [intOf]; omega
              · as_aux_lemma =>
                obtain rfl : j = ys.length := by omega
                have c0_0 := F8.out.c 0 0 rfl rfl
                have c0_1 := F8.out.c 0 1 rfl rfl
                have c0_2 := F8.out.c 0 2 rfl rfl
                have c0_3 := F8.out.c 0 3 rfl rfl
                have c1_0 := F8.out.c 1 0 rfl rfl
                have c1_1 := F8.out.c 1 1 rfl rfl
                by_cases hn2 : xs.length < 2
                · skip
                  have hn3 : (xs.length : Int) < 2 := by omega
                  clear hn2
                  go_wp2_with fail
                  go_roundw
                  case rel => exact ⟨k + 1, by omega, by go_num, HB.out.trans (F8.out.bel.mono HB.out.size)⟩
                  case measure => simp [intOf]; omega
                · skip
                  have hn3 : ¬ (xs.length : Int) < 2 := by omega
                  go_upto_region 22 with fail
                  go_upto_region 24 with fail
                  obtain ⟨be, lo, hi, e1, e2, e3, hlh, hhn⟩ := two_axes HAL2.out hn2 (by omega)
                  rw [e1, e2, e3]
                  clear e1 e2 e3 hn2 hn3
                  have htw := fun h1 h2 => sum_twice HTB.out hlh hhn h1 h2
                  have hs2 := fun g W h h2 h3 => rsum_all a b (some ⟨g, 0, none⟩) c d 2 xs ys [(lo : Int), (hi : Int)] W h h2 h3
                  have hs1 := fun g W h h2 h3 => rsum_all a b (some ⟨g, 0, none⟩) c d 1 xs ys [(hi : Int)] W h h2 h3
                  have hs0 := fun W h h2 => rsum_all a b none c d 0 xs ys [] W h h2 (ints_nil _ _)
                  rw [(sum_nil HTB.out).1, (sum_nil HTB.out).2.1, (sum_nil HTB.out).2.2] at hs0
                  have hwf2 := sm_wf false xs ys [(lo : Int), (hi : Int)]
                  have hwf1 := sm_wf false xs ys [(hi : Int)]
                  obtain ⟨X2, hX2⟩ : ∃ z, smX false xs ys [(lo : Int), (hi : Int)] = z := ⟨_, rfl⟩
                  rw [hX2] at hs2 htw hwf2
                  obtain ⟨Y2, hY2⟩ : ∃ z, smY false xs ys [(lo : Int), (hi : Int)] = z := ⟨_, rfl⟩
                  rw [hY2] at hs2 htw hwf2
                  obtain ⟨Z2, hZ2⟩ : ∃ z, smZ false xs ys [(lo : Int), (hi : Int)] = z := ⟨_, rfl⟩
                  rw [hZ2] at hs2 htw
                  obtain ⟨X1, hX1⟩ : ∃ z, smX false xs ys [(hi : Int)] = z := ⟨_, rfl⟩
                  rw [hX1] at hs1 htw hwf1
                  obtain ⟨Y1, hY1⟩ : ∃ z, smY false xs ys [(hi : Int)] = z := ⟨_, rfl⟩
                  rw [hY1] at hs1 htw hwf1
                  obtain ⟨Z1, hZ1⟩ : ∃ z, smZ false xs ys [(hi : Int)] = z := ⟨_, rfl⟩
                  rw [hZ1] at hs1 htw
                  have HWLH : Hid (∀ z ∈ [(lo : Int), (hi : Int)], (Lit.int .i64 z).wf = true) := Lib.hid (by intro z hz; simp only [List.mem_cons, List.not_mem_nil, or_false] at hz; rcases hz with rfl | rfl <;> exact wf_i64_iff.2 ⟨by omega, by omega⟩)
                  have HWH : Hid (∀ z ∈ [(hi : Int)], (Lit.int .i64 z).wf = true) := Lib.hid (by intro z hz; obtain rfl := List.mem_singleton.1 hz; exact wf_i64_iff.2 ⟨by omega, by omega⟩)
                  have HWL : Hid (∀ z ∈ [(lo : Int)], (Lit.int .i64 z).wf = true) := Lib.hid (by intro z hz; obtain rfl := List.mem_singleton.1 hz; exact wf_i64_iff.2 ⟨by omega, by omega⟩)
                  have WX2 := Lib.hid hwf2.1
                  have WY2 := Lib.hid hwf2.2
                  have WX1 := Lib.hid hwf1.1
                  have WY1 := Lib.hid hwf1.2
                  have HS2 := Lib.hid hs2
                  have HS1 := Lib.hid hs1
                  have HS0 := Lib.hid hs0
                  have HTW := Lib.hid htw
                  have HLH := Lib.hid hlh
                  have HHN := Lib.hid hhn
                  clear hwf1 hwf2 hs2 hs1 hs0 htw hlh hhn hj hlj hX1 hX2 hY1 hY2 hZ1 hZ2
                  have F8b := Lib.hid (F8.out.box1 (b := wi.heap.size) rfl [.int .i64 lo, .int .i64 hi] 3)
                  simp only [List.nil_append, List.cons_append] at F8b
                  go_upto_region 25 with (first | (go_at_call 10; refine (HS2.out _ _ (F8b.out.lw 0 rfl) (F8b.out.lw 1 rfl) (ints_of_box (xs := [(lo : Int), (hi : Int)]) (F8b.out.box _ (List.mem_of_getElem? (i := 2) rfl)).1 (F8b.out.bl 2 rfl).2 (by simp) HWLH.out)).mono ?_; rintro e w9x ⟨a8x, c8x, b8x, d8x, rfl, hf⟩; have F9 := Lib.hid (F8b.out.join hf); simp only [List.cons_append, List.nil_append] at F9; clear hf F8 F8b c0_0 c0_1 c0_2 c0_3 c1_0 c1_1) | fail)
                  replace F9 := Lib.hid (F9.out.less (.cons_cons _ (.cons_cons _ (.cons _ .slnil))) (.refl _) (.refl _) (.refl _))
                  obtain ⟨Y24, hY24⟩ : ∃ x, w9x.heap.size = x := ⟨_, rfl⟩
                  rw [hY24]
                  have G9 := Lib.hid (F9.out.box1 (b := Y24) hY24 [.slice a8x X2.length c8x, .slice b8x Y2.length d8x] 26)
                  simp only [List.nil_append, List.cons_append] at G9
                  obtain ⟨W9x, hW9x⟩ : ∃ x, (w9x.alloc (.cells #[.slice a8x X2.length c8x, .slice b8x Y2.length d8x] 26)) = x := ⟨_, rfl⟩
                  rw [hW9x] at G9 ⊢
                  clear hW9x hY24 F9
                  have c0_0 := G9.out.c 0 0 rfl rfl
                  have c0_1 := G9.out.c 0 1 rfl rfl
                  have c0_2 := G9.out.c 0 2 rfl rfl
                  have c0_3 := G9.out.c 0 3 rfl rfl
                  have G9b := Lib.hid (G9.out.box1 (b := W9x.heap.size) rfl [.int .i64 hi] 3)
                  simp only [List.nil_append, List.cons_append] at G9b
                  go_upto_region 26 with (first | (go_at_call 10; refine (HS1.out _ _ (G9b.out.lw 0 rfl) (G9b.out.lw 1 rfl) (ints_of_box (xs := [(hi : Int)]) (G9b.out.box _ (List.mem_of_getElem? (i := 3) rfl)).1 (G9b.out.bl 3 rfl).2 (by simp) HWH.out)).mono ?_; rintro e w10x ⟨a9x, c9x, b9x, d9x, rfl, hf⟩; have F10 := Lib.hid (G9b.out.join hf); simp only [List.cons_append, List.nil_append] at F10; clear hf G9 G9b c0_0 c0_1 c0_2 c0_3) | fail)
                  replace F10 := Lib.hid (F10.out.less (.cons_cons _ (.cons_cons _ (.cons_cons _ (.cons _ .slnil)))) (.refl _) (.refl _) (.refl _))
                  obtain ⟨Y25, hY25⟩ : ∃ x, w10x.heap.size = x := ⟨_, rfl⟩
                  rw [hY25]
                  have G10 := Lib.hid (F10.out.box1 (b := Y25) hY25 [.slice a9x X1.length c9x, .slice b9x Y1.length d9x] 26)
                  simp only [List.nil_append, List.cons_append] at G10
                  obtain ⟨W10x, hW10x⟩ : ∃ x, (w10x.alloc (.cells #[.slice a9x X1.length c9x, .slice b9x Y1.length d9x] 26)) = x := ⟨_, rfl⟩
                  rw [hW10x] at G10 ⊢
                  clear hW10x hY25 F10
                  have c0_0 := G10.out.c 0 0 rfl rfl
                  have c0_1 := G10.out.c 0 1 rfl rfl
                  have c0_2 := G10.out.c 0 2 rfl rfl
                  have c0_3 := G10.out.c 0 3 rfl rfl
                  have c2_0 := G10.out.c 2 0 rfl rfl
                  have c2_1 := G10.out.c 2 1 rfl rfl
                  have c3_0 := G10.out.c 3 0 rfl rfl
                  have c3_1 := G10.out.c 3 1 rfl rfl
                  by_cases hz2 : Z2 = 0
                  · skip
                    by_cases hz1 : Z1 = 0
                    · as_aux_lemma =>
                      have htw := HTW.out hz1 hz2
                      obtain ⟨tw1, tw2, tw3⟩ := htw
                      have hs3 := fun p q c9 d9 g W h h2 h3 => rsum_all p q (some ⟨g, 0, none⟩) c9 d9 1 X1 Y1 [(lo : Int)] W h h2 h3
                      rw [tw1, tw2, tw3] at hs3
                      have HS3 := Lib.hid hs3
                      clear hs3 tw1 tw2 tw3
                      subst hz1
                      subst hz2
                      go_upto_region 27 with (first | (go_at_call 9; refine (num9_any _ _).mono ?_; rintro e w' ⟨rfl, rfl⟩) | fail)
                      have G10b := Lib.hid (G10.out.box1 (b := W10x.heap.size) rfl [.int .i64 lo] 3)
                      simp only [List.nil_append, List.cons_append] at G10b
                      go_upto_region 28 with (first | (go_at_call 10; refine (HS3.out a9x b9x c9x d9x _ _ (G10b.out.li 5 (k := .i64) (xs := X1) rfl WX1.out) (G10b.out.li 6 (k := .i64) (xs := Y1) rfl WY1.out) (ints_of_box (xs := [(lo : Int)]) (G10b.out.box _ (List.mem_of_getElem? (i := 4) rfl)).1 (G10b.out.bl 4 rfl).2 (by simp) HWL.out)).mono ?_; rintro e w11x ⟨a10x, c10x, b10x, d10x, rfl, hf⟩; have F11 := Lib.hid (G10b.out.join hf); simp only [List.cons_append, List.nil_append] at F11; clear hf G10 G10b c0_0 c0_1 c0_2 c0_3 c2_0 c2_1 c3_0 c3_1) | fail)
                      replace F11 := Lib.hid (F11.out.less (.cons_cons _ (.cons_cons _ (.cons_cons _ (.cons_cons _ (.cons _ .slnil))))) (.refl _) (.refl _) (.refl _))
                      obtain ⟨Y27, hY27⟩ : ∃ x, w11x.heap.size = x := ⟨_, rfl⟩
                      rw [hY27]
                      have G11 := Lib.hid (F11.out.box1 (b := Y27) hY27 [.slice a10x X2.length c10x, .slice b10x Y2.length d10x] 26)
                      simp only [List.nil_append, List.cons_append] at G11
                      obtain ⟨W11x, hW11x⟩ : ∃ x, (w11x.alloc (.cells #[.slice a10x X2.length c10x, .slice b10x Y2.length d10x] 26)) = x := ⟨_, rfl⟩
                      rw [hW11x] at G11 ⊢
                      clear hW11x hY27 F11
                      have c0_0 := G11.out.c 0 0 rfl rfl
                      have c0_1 := G11.out.c 0 1 rfl rfl
                      have c0_2 := G11.out.c 0 2 rfl rfl
                      have c0_3 := G11.out.c 0 3 rfl rfl
                      have c2_0 := G11.out.c 2 0 rfl rfl
                      have c2_1 := G11.out.c 2 1 rfl rfl
                      have c4_0 := G11.out.c 4 0 rfl rfl
                      have c4_1 := G11.out.c 4 1 rfl rfl
                      go_upto_region 30 with (first | (go_at_call 9; refine (num9_any _ _).mono ?_; rintro e w' ⟨rfl, rfl⟩) | (go_at_call 19; refine ((eqTensor_any a10x b10x a8x b8x c10x d10x c8x d8x X2 Y2 X2 Y2 _ (G11.out.li 7 (k := .i64) (xs := X2) rfl WX2.out) (G11.out.li 8 (k := .i64) (xs := Y2) rfl WY2.out) (G11.out.li 3 (k := .i64) (xs := X2) rfl WX2.out) (G11.out.li 4 (k := .i64) (xs := Y2) rfl WY2.out))).mono ?_; simp only [decide_true, Bool.and_true]; rintro e H1w ⟨rfl, hb⟩; have H1 := Lib.hid (G11.out.next hb); clear hb G11 c0_0 c0_1 c0_2 c0_3 c2_0 c2_1 c4_0 c4_1; have c0_0 := H1.out.c 0 0 rfl rfl; have c0_1 := H1.out.c 0 1 rfl rfl; have c0_2 := H1.out.c 0 2 rfl rfl; have c0_3 := H1.out.c 0 3 rfl rfl) | fail)
                      go_upto_region 31 with (first | (go_at_call 10; refine (HS0.out _ (H1.out.lw 0 rfl) (H1.out.lw 1 rfl)).mono ?_; rintro e w12x ⟨a11x, c11x, b11x, d11x, rfl, hf⟩; have F12 := Lib.hid (H1.out.join hf); simp only [List.cons_append, List.nil_append] at F12; clear hf H1  c0_0 c0_1 c0_2 c0_3) | fail)
                      obtain ⟨Y30, hY30⟩ : ∃ x, w12x.heap.size = x := ⟨_, rfl⟩
                      rw [hY30]
                      have G12 := Lib.hid (F12.out.box1 (b := Y30) hY30 [.slice a11x xs.length c11x, .slice b11x ys.length d11x] 26)
                      simp only [List.nil_append, List.cons_append] at G12
                      obtain ⟨W12x, hW12x⟩ : ∃ x, (w12x.alloc (.cells #[.slice a11x xs.length c11x, .slice b11x ys.length d11x] 26)) = x := ⟨_, rfl⟩
                      rw [hW12x] at G12 ⊢
                      clear hW12x hY30 F12
                      have c0_0 := G12.out.c 0 0 rfl rfl
                      have c0_1 := G12.out.c 0 1 rfl rfl
                      have c0_2 := G12.out.c 0 2 rfl rfl
                      have c0_3 := G12.out.c 0 3 rfl rfl
                      have c5_0 := G12.out.c 5 0 rfl rfl
                      have c5_1 := G12.out.c 5 1 rfl rfl
                      go_wp2_with (first | (go_at_call 9; refine (num9_any _ _).mono ?_; rintro e w' ⟨rfl, rfl⟩) | (go_at_call 19; refine ((eqTensor_any a11x b11x a b c11x d11x c d xs ys xs ys _ (G12.out.li 9 (k := .i64) (xs := xs) rfl HI0.out.wf) (G12.out.li 10 (k := .i64) (xs := ys) rfl HI1.out.wf) (G12.out.lw 0 rfl) (G12.out.lw 1 rfl))).mono ?_; simp only [decide_true, Bool.and_true]; rintro e H2w ⟨rfl, hb⟩; have H2 := Lib.hid (G12.out.next hb); clear hb G12 c0_0 c0_1 c0_2 c0_3 c5_0 c5_1; have c0_0 := H2.out.c 0 0 rfl rfl; have c0_1 := H2.out.c 0 1 rfl rfl; have c0_2 := H2.out.c 0 2 rfl rfl; have c0_3 := H2.out.c 0 3 rfl rfl) | fail)
                      go_roundw
                      case rel => exact ⟨k + 1, by omega, by go_num, HB.out.trans (H2.out.bel.mono HB.out.size)⟩
                      case measure => simp [intOf]; omega
                    · skip
                      have hz3 : (Z1 != 0) = true := by simpa using hz1
                      subst hz2
                      clear HTW
                      go_wp2_with (first | (go_at_call 9; refine (num9_any _ _).mono ?_; rintro e w' ⟨rfl, rfl⟩) | fail)
                      go_roundw
                      case rel => exact ⟨k + 1, by omega, by go_num, HB.out.trans (G10.out.bel.mono HB.out.size)⟩
                      case measure => simp [intOf]; omega
                  · skip
                    have hz3 : (Z2 != 0) = true := by simpa using hz2
                    clear HTW
                    go_wp2_with (first | (go_at_call 9; refine (num9_any _ _).mono ?_; rintro e w' ⟨rfl, rfl⟩) | fail)
                    go_roundw
                    case rel => exact ⟨k + 1, by omega, by go_num, HB.out.trans (G10.out.bel.mono HB.out.size)⟩
                    case measure => simp [intOf]; omega
    · have HB := Lib.hid hbel
      clear hbel h
      have WK := fun W => Lib.hid (wakes9_any W)
      by_cases hlt : k < n
      · have hk15 : ¬ (k : Int) < 10 := by omega
        have hkn : (k : Int) < n := by omega
        go_wp2_with (go_at_call 12; refine ((WK _).out).mono ?_; rintro e w1 ⟨rfl, hb⟩; have HW1 := Lib.hid hb; clear hb)
        go_ret
        exact ⟨rfl, HB.out.trans (HW1.out.mono HB.out.size)⟩
      · obtain rfl : k = n := by omega
        go_wp2_with (go_at_call 12; refine ((WK _).out).mono ?_; rintro e w1 ⟨rfl, hb⟩; have HW1 := Lib.hid hb; clear hb)
        go_ret
        exact ⟨rfl, HB.out.trans (HW1.out.mono HB.out.size)⟩
end Go.Proofs.Ytiofodpfjlcebaa
