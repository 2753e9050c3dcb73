/- The law PoolBetween, walked. -/
import Derived.Test.YtmjcpgfekpedkaaPoV
set_option linter.unusedVariables false
set_option linter.unusedSimpArgs false
namespace Go.Proofs.Ytmjcpgfekpedkaa
open Go.RowKit Go.Rt
attribute [local go_sem] Oper.semAt_some
set_option maxRecDepth 100000 in
set_option maxHeartbeats 8000000 in
theorem poolBetween_any (q : Option Addr) (n c0 : Nat) (w : World) (h : AsksAt12 w w.heap.size q n) :
    Calls Try.prog 4 #[.slice q n c0] w fun e w' => e = .returned (.bool true) ∧ Below w.heap.size w w' := by
  have hm := h.len
  go_enter Try.func4, Try.ntmps4
  go_wp2_with fail
  go_loopw [3] (fun i wr => ∃ k : Nat, k ≤ n ∧ i = .int .i64 k ∧ Below w.heap.size w wr) (fun i _ => n - (intOf i).toNat)
  case atStart => exact ⟨0, Nat.zero_le _, rfl, Below.refl _ _⟩
  case round =>
    obtain ⟨k, hk, rfl, hbel⟩ := hrel
    obtain ⟨wo, rfl⟩ : ∃ wo : World, wo = wr := ⟨_, rfl⟩
    by_cases hend : k < n ∧ k < 5
    · obtain ⟨hlt, h20⟩ := hend
      obtain ⟨b0, o_, ⟨a, c, b, d, xs, ys⟩, aK, aS, aP, aD, cK, cS, cP, cD, K, S, P, D, rfl, ht⟩ := h.at_ k hlt
      replace ht := ht.below hbel
      have hsz := hbel.size
      have HB := Lib.hid hbel
      obtain ⟨wv, hwv⟩ : ∃ v : WinV, v = ⟨xs.drop 2, K, S, P, D⟩ := ⟨_, rfl⟩
      obtain ⟨rfl, rfl, rfl, rfl⟩ : K = wv.K ∧ S = wv.S ∧ P = wv.P ∧ D = wv.D := by rw [hwv]; exact ⟨rfl, rfl, rfl, rfl⟩
      have hL : wv.L = xs.drop 2 := by rw [hwv]
      clear hwv
      have HL := Lib.hid hL
      have tA := ht.tA
      dsimp only at tA
      have hl1 := tA.sh.len
      have hl2 := tA.da.len
      have HI0 := Lib.hid (tA.sh.mono hsz)
      have HI1 := Lib.hid (tA.da.mono hsz)
      have HI2 := Lib.hid (ht.tK.mono hsz)
      have HI3 := Lib.hid (ht.tS.mono hsz)
      have HI4 := Lib.hid (ht.tP.mono hsz)
      have HI5 := Lib.hid (ht.tD.mono hsz)
      have HC1 := Lib.hid (And.intro tA.c1 tA.c2)
      have HC2 := Lib.hid (And.intro tA.d1 tA.d2)
      have HHV := Lib.hid (fun W h h2 hK hS hP hD => heavy12_any a b c d xs ys aK aS aP aD cK cS cP cD wv W h h2 hK hS hP hD hL)
      have HTM := Lib.hid (fun W (h : Ints .i64 W W.heap.size a xs) (h2 : Ints .i64 W W.heap.size b ys) => tenMay_any a b c d xs ys W h h2)
      have q0 := ht.c0
      have q1 := ht.c1
      have q2 := ht.c2
      have q3 := ht.c3
      have q4 := ht.c4
      have q5 := ht.c5
      dsimp only at q0 q1 q2 q3 q4 q5
      clear ht tA hbel h hL
      have F1 := Lib.hid ((Fr.start (w := wo) (I := [(.i64, a, xs), (.i64, b, ys), (.i64, aK, wv.K), (.i64, aS, wv.S), (.i64, aP, wv.P), (.i64, aD, wv.D)]) (by intro z hz; simp at hz; rcases hz with rfl | rfl | rfl | rfl | rfl | rfl; exact HI0.out; exact HI1.out; exact HI2.out; exact HI3.out; exact HI4.out; exact HI5.out)).box1 (b := wo.heap.size) rfl [.slice a xs.length c, .slice b ys.length d, .slice aK wv.K.length cK, .slice aS wv.S.length cS, .slice aP wv.P.length cP, .slice aD wv.D.length cD] 30)
      simp only [List.nil_append] at F1
      go_upto_region 5 with fail
      obtain ⟨W1, hW1⟩ : ∃ W1, wo.alloc (.cells #[.slice a xs.length c, .slice b ys.length d, .slice aK wv.K.length cK, .slice aS wv.S.length cS, .slice aP wv.P.length cP, .slice aD wv.D.length cD] 30) = W1 := ⟨_, rfl⟩
      rw [hW1] at F1 ⊢
      clear hW1 q0 q1 q2 q3 q4 q5
      have c0_0 := F1.out.c 0 0 rfl rfl
      have c0_1 := F1.out.c 0 1 rfl rfl
      have c0_2 := F1.out.c 0 2 rfl rfl
      have c0_3 := F1.out.c 0 3 rfl rfl
      have c0_4 := F1.out.c 0 4 rfl rfl
      have c0_5 := F1.out.c 0 5 rfl rfl
      go_upto_if 34 with (first | (go_at_call 6; refine (HHV.out W1 (F1.out.lw 0 rfl) (F1.out.lw 1 rfl) (F1.out.lw 2 rfl) (F1.out.lw 3 rfl) (F1.out.lw 4 rfl) (F1.out.lw 5 rfl)).mono ?_; rintro e w2 ⟨⟨hvB, rfl, hlt9⟩, hb⟩; have F2 := Lib.hid (F1.out.next hb); have HLT := Lib.hid hlt9; clear hb hlt9 F1 c0_0 c0_1 c0_2 c0_3 c0_4 c0_5; have c0_0 := F2.out.c 0 0 rfl rfl; have c0_1 := F2.out.c 0 1 rfl rfl; have c0_2 := F2.out.c 0 2 rfl rfl; have c0_3 := F2.out.c 0 3 rfl rfl; have c0_4 := F2.out.c 0 4 rfl rfl; have c0_5 := F2.out.c 0 5 rfl rfl) | fail)
      cases hvB with
      | true =>
        go_wp2
        go_ret
        exact ⟨rfl, HB.out.trans (F2.out.bel.mono HB.out.size)⟩
      | false =>
        obtain ⟨g1, g2, hgK⟩ := HLT.out rfl
        clear HLT
        have htm := HTM.out
        clear HTM
        cases htb : tenB xs ys with
        | false =>
          rw [htb] at htm
          have HTM := Lib.hid htm
          clear htm htb hgK
          go_wp2_with (first | (go_at_call 7; refine (HTM.out _ (F2.out.lw 0 rfl) (F2.out.lw 1 rfl)).mono ?_; rintro e w3 ⟨rfl, hb⟩; have F3 := Lib.hid (F2.out.next hb); clear hb F2 c0_0 c0_1 c0_2 c0_3 c0_4 c0_5; have c0_0 := F3.out.c 0 0 rfl rfl; have c0_1 := F3.out.c 0 1 rfl rfl; have c0_2 := F3.out.c 0 2 rfl rfl; have c0_3 := F3.out.c 0 3 rfl rfl; have c0_4 := F3.out.c 0 4 rfl rfl; have c0_5 := F3.out.c 0 5 rfl rfl) | fail)
          go_roundw
          case rel => exact ⟨k + 1, by omega, by go_num, HB.out.trans (F3.out.bel.mono HB.out.size)⟩
          case measure => simp [intOf]; omega
        | true =>
          rw [htb] at htm
          have HTM := Lib.hid htm
          clear htm
          by_cases hx3 : xs.length < 3
          · skip
            have hx3i : (xs.length : Int) < 3 := by omega
            clear htb hgK
            go_wp2_with (first | (go_at_call 7; refine (HTM.out _ (F2.out.lw 0 rfl) (F2.out.lw 1 rfl)).mono ?_; rintro e w3 ⟨rfl, hb⟩; have F3 := Lib.hid (F2.out.next hb); clear hb F2 c0_0 c0_1 c0_2 c0_3 c0_4 c0_5; have c0_0 := F3.out.c 0 0 rfl rfl; have c0_1 := F3.out.c 0 1 rfl rfl; have c0_2 := F3.out.c 0 2 rfl rfl; have c0_3 := F3.out.c 0 3 rfl rfl; have c0_4 := F3.out.c 0 4 rfl rfl; have c0_5 := F3.out.c 0 5 rfl rfl) | fail)
            go_roundw
            case rel => exact ⟨k + 1, by omega, by go_num, HB.out.trans (F3.out.bel.mono HB.out.size)⟩
            case measure => simp [intOf]; omega
          have hx3i : ¬ (xs.length : Int) < 3 := by omega
          have HTB := Lib.hid htb
          have HGK := Lib.hid hgK
          clear htb hgK
          go_upto_region 8 with (first | (go_at_call 7; refine (HTM.out _ (F2.out.lw 0 rfl) (F2.out.lw 1 rfl)).mono ?_; rintro e w3 ⟨rfl, hb⟩; have F3 := Lib.hid (F2.out.next hb); clear hb F2 c0_0 c0_1 c0_2 c0_3 c0_4 c0_5; have c0_0 := F3.out.c 0 0 rfl rfl; have c0_1 := F3.out.c 0 1 rfl rfl; have c0_2 := F3.out.c 0 2 rfl rfl; have c0_3 := F3.out.c 0 3 rfl rfl; have c0_4 := F3.out.c 0 4 rfl rfl; have c0_5 := F3.out.c 0 5 rfl rfl) | fail)
          have hgk := HGK.out
          have hmx := fun W h h2 hK hS hP hD => pmax_all a b c d xs ys aK aS aP aD cK cS cP cD wv W h h2 hK hS hP hD HL.out HC1.out.1 HC1.out.2 hgk
          have hav := fun W h h2 hK hS hP hD => pavg_all a b c d xs ys aK aS aP aD cK cS cP cD wv W h h2 hK hS hP hD HL.out HC1.out.1 HC1.out.2 hgk
          obtain ⟨z, hz⟩ : ∃ z, winZ xs ys wv = z := ⟨_, rfl⟩
          rw [hz] at hmx hav
          obtain ⟨SH, hSH⟩ : ∃ l, zL z (poS xs wv) = l := ⟨_, rfl⟩
          obtain ⟨YS, hYS⟩ : ∃ l, zL z ((List.range (poN xs wv)).map (poV ys wv)) = l := ⟨_, rfl⟩
          obtain ⟨PS, hPS⟩ : ∃ l, zL z ((List.range (poN xs wv)).map (poP ys wv)) = l := ⟨_, rfl⟩
          obtain ⟨AS, hAS⟩ : ∃ l, zL z ((List.range (poN xs wv)).map (poA ys wv)) = l := ⟨_, rfl⟩
          rw [hSH, hYS, hPS] at hmx
          rw [hSH, hAS] at hav
          have HMX := Lib.hid hmx
          have HAV := Lib.hid hav
          have Hz := Lib.hid hz
          have HSH := Lib.hid hSH
          have HYS := Lib.hid hYS
          have HPS := Lib.hid hPS
          have HAS := Lib.hid hAS
          clear hmx hav hgk hz hSH hYS hPS hAS HHV HTM
          go_upto_region 9 with (first | (go_at_call 10; refine (HMX.out _ (F3.out.lw 0 rfl) (F3.out.lw 1 rfl) (F3.out.lw 2 rfl) (F3.out.lw 3 rfl) (F3.out.lw 4 rfl) (F3.out.lw 5 rfl)).mono ?_; rintro e w4 ⟨a5, c5, b5, d5, p6, q6, rfl, hf⟩; have F4 := Lib.hid (F3.out.join hf); simp only [List.nil_append, List.cons_append] at F4; clear hf F3 c0_0 c0_1 c0_2 c0_3 c0_4 c0_5) | fail)
          obtain ⟨Q5, hQ5⟩ : ∃ x, w4.heap.size = x := ⟨_, rfl⟩
          rw [hQ5]
          have F5 := Lib.hid (F4.out.box1 (b := Q5) hQ5 [.slice a5 SH.length c5, .slice b5 YS.length d5] 26)
          simp only [List.nil_append, List.cons_append] at F5
          obtain ⟨W5, hW5⟩ : ∃ x, (w4.alloc (.cells #[.slice a5 SH.length c5, .slice b5 YS.length d5] 26)) = x := ⟨_, rfl⟩
          rw [hW5] at F5 ⊢
          clear hW5 hQ5 F4
          have c0_0 := F5.out.c 0 0 rfl rfl
          have c0_1 := F5.out.c 0 1 rfl rfl
          have c0_2 := F5.out.c 0 2 rfl rfl
          have c0_3 := F5.out.c 0 3 rfl rfl
          have c0_4 := F5.out.c 0 4 rfl rfl
          have c0_5 := F5.out.c 0 5 rfl rfl
          go_upto_region 10 with (first | (go_at_call 11; refine (HAV.out _ (F5.out.lw 0 rfl) (F5.out.lw 1 rfl) (F5.out.lw 2 rfl) (F5.out.lw 3 rfl) (F5.out.lw 4 rfl) (F5.out.lw 5 rfl)).mono ?_; rintro e w6 ⟨a8, c8, b8, d8, rfl, hf⟩; have F6 := Lib.hid (F5.out.join hf); simp only [List.nil_append, List.cons_append] at F6; clear hf F5 c0_0 c0_1 c0_2 c0_3 c0_4 c0_5) | fail)
          obtain ⟨Q8, hQ8⟩ : ∃ x, w6.heap.size = x := ⟨_, rfl⟩
          rw [hQ8]
          have F7 := Lib.hid (F6.out.box1 (b := Q8) hQ8 [.slice a8 SH.length c8, .slice b8 AS.length d8] 26)
          simp only [List.nil_append, List.cons_append] at F7
          obtain ⟨W7, hW7⟩ : ∃ x, (w6.alloc (.cells #[.slice a8 SH.length c8, .slice b8 AS.length d8] 26)) = x := ⟨_, rfl⟩
          rw [hW7] at F7 ⊢
          clear hW7 hQ8 F6
          have hzz : (z != z) = false := by simp
          go_upto_if 70 with (first | (go_at_call 12; refine (num12_any _ _).mono ?_; rintro e w' ⟨rfl, rfl⟩) | fail)
          go_cut [70] from 10 to 146 (fun s70 wx => Hid (Fr wo.heap.size wo wx [(wo.heap.size, [.slice a xs.length c, .slice b ys.length d, .slice aK wv.K.length cK, .slice aS wv.S.length cS, .slice aP wv.P.length cP, .slice aD wv.D.length cD]), (Q5, [.slice a5 SH.length c5, .slice b5 YS.length d5]), (Q8, [.slice a8 SH.length c8, .slice b8 AS.length d8])] [(.i64, a, xs), (.i64, b, ys), (.i64, aK, wv.K), (.i64, aS, wv.S), (.i64, aP, wv.P), (.i64, aD, wv.D)] [⟨3, .slice a5 SH.length c5, SH.length, SH.map (Value.int .i64)⟩, ⟨2, .slice b5 YS.length d5, YS.length, YS.map (Value.int .i64)⟩, ⟨3, .slice p6 PS.length q6, PS.length, PS.map (Value.int .i64)⟩, ⟨3, .slice a8 SH.length c8, SH.length, SH.map (Value.int .i64)⟩, ⟨2, .slice b8 AS.length d8, AS.length, AS.map (Value.int .i64)⟩] []))
          case first =>
            by_cases hz0 : z = 0
            · as_aux_lemma =>
              have hzb : (z == 0) = true := by simp [hz0]
              have hnY : YS.length = poN xs wv := by rw [← HYS.out, hz0, zL_0]; simp
              have hnP : PS.length = poN xs wv := by rw [← HPS.out, hz0, zL_0]; simp
              have hnA : AS.length = poN xs wv := by rw [← HAS.out, hz0, zL_0]; simp
              have hb1 : ((YS.length : Int) != (AS.length : Int)) = false := by rw [hnY, hnA]; simp
              have hb2 : ((PS.length : Int) != (YS.length : Int)) = false := by rw [hnY, hnP]; simp
              have HNY := Lib.hid hnY
              have HNP := Lib.hid hnP
              have HNA := Lib.hid hnA
              have HZ0 := Lib.hid hz0
              have hgS : SH = poS xs wv := by rw [← HSH.out, hz0, zL_0]
              have hzz2 : winZ xs ys wv = 0 := by rw [Hz.out]; exact hz0
              obtain ⟨R, K⟩ := pool_ok HL.out hzz2
              have hSw : ∀ x ∈ SH, (Lit.int .i64 x).wf = true := wf_dims (fun x hx => by rw [hgS] at hx; have := goodB_dims K.gS x hx; omega)
              have HSW := Lib.hid hSw
              have hYb : YS.length ≤ 65536 := by have h1 := (goodB_prod K.gS).2; unfold poN at hnY; omega
              clear hnY hnP hnA hz0 hgS hzz2 hSw
              have HEN := Lib.hid (fun W (h : Ints .i64 W W.heap.size a5 SH) (h2 : Ints .i64 W W.heap.size a8 SH) => eqNumbers_any a5 a8 c5 c8 W.heap.size SH SH W h h2)
              have c1_0 := F7.out.c 1 0 rfl rfl
              have c1_1 := F7.out.c 1 1 rfl rfl
              have c2_0 := F7.out.c 2 0 rfl rfl
              have c2_1 := F7.out.c 2 1 rfl rfl
              go_upto_region 15 with (first | (go_at_call 13; refine (HEN.out _ (F7.out.li 0 (k := .i64) (xs := SH) rfl HSW.out) (F7.out.li 3 (k := .i64) (xs := SH) rfl HSW.out)).mono ?_; rintro e w8 ⟨rfl, q9, rfl⟩; have F8 := Lib.hid (F7.out.drewN q9); clear F7 c1_0 c1_1 c2_0 c2_1; have c1_0 := F8.out.c 1 0 rfl rfl; have c1_1 := F8.out.c 1 1 rfl rfl; have c2_0 := F8.out.c 2 0 rfl rfl; have c2_1 := F8.out.c 2 1 rfl rfl) | fail)
              clear c1_0 c1_1 c2_0 c2_1
              have hfac : ∀ j, j < poN xs wv → (0 ≤ poP ys wv j ∧ poP ys wv j < (ys.length : Int)) ∧ ys[(poP ys wv j).toNat]?.getD 0 = poV ys wv j ∧ poA ys wv j ≤ poV ys wv j := fun j hj => by
                have hb := mpI_bound K.hR K.hok (goodB_dims K.gO) K.hf K.hT K.hM (n := j) (R := R) (by rw [← K.nn]; exact hj) ys
                have hpb := plcs_bound K.hR K.hM (n := j) (R := R) (by rw [← K.nn]; exact hj)
                refine ⟨by rw [K.yl]; exact hb.2, rfl, ?_⟩
                refine av_le (plcs_some K.hR K.hok (goodB_dims K.gO) K.hf K.hT _ _ j) (fun p hp => ?_)
                have ht := pick_top ys _ (fun a ha => (hpb _ a ha).1) p hp
                show yAt ys p ≤ yAt ys (pickI ys _)
                rcases ht with h | ⟨h, _⟩ <;> omega
              have HFAC := Lib.hid hfac
              clear hfac K hb1 hb2
              go_wp2
              go_loopw [10] (fun s10 wr => ∃ j : Nat, j ≤ YS.length ∧ s10 = .int .i64 j ∧ Hid (Fr wo.heap.size wo wr [(wo.heap.size, [.slice a xs.length c, .slice b ys.length d, .slice aK wv.K.length cK, .slice aS wv.S.length cS, .slice aP wv.P.length cP, .slice aD wv.D.length cD]), (Q5, [.slice a5 SH.length c5, .slice b5 YS.length d5]), (Q8, [.slice a8 SH.length c8, .slice b8 AS.length d8])] [(.i64, a, xs), (.i64, b, ys), (.i64, aK, wv.K), (.i64, aS, wv.S), (.i64, aP, wv.P), (.i64, aD, wv.D)] [⟨3, .slice a5 SH.length c5, SH.length, SH.map (Value.int .i64)⟩, ⟨2, .slice b5 YS.length d5, YS.length, YS.map (Value.int .i64)⟩, ⟨3, .slice p6 PS.length q6, PS.length, PS.map (Value.int .i64)⟩, ⟨3, .slice a8 SH.length c8, SH.length, SH.map (Value.int .i64)⟩, ⟨2, .slice b8 AS.length d8, AS.length, AS.map (Value.int .i64)⟩] [])) (fun s10 _ => YS.length - (intOf s10).toNat)
              case atStart => exact ⟨0, Nat.zero_le _, rfl, F8⟩
              case round =>
                obtain ⟨j, hj, rfl, F9⟩ := hrel
                clear F8
                obtain ⟨wi, rfl⟩ : ∃ x : World, x = wr := ⟨_, rfl⟩
                have c0_0 := F9.out.c 0 0 rfl rfl
                have c0_1 := F9.out.c 0 1 rfl rfl
                have c0_2 := F9.out.c 0 2 rfl rfl
                have c0_3 := F9.out.c 0 3 rfl rfl
                have c0_4 := F9.out.c 0 4 rfl rfl
                have c0_5 := F9.out.c 0 5 rfl rfl
                have c1_0 := F9.out.c 1 0 rfl rfl
                have c1_1 := F9.out.c 1 1 rfl rfl
                have c2_0 := F9.out.c 2 0 rfl rfl
                have c2_1 := F9.out.c 2 1 rfl rfl
                by_cases hlj : j < YS.length
                · as_aux_lemma =>
                  have hji : (j : Int) < (YS.length : Int) := by omega
                  have hny := HNY.out
                  have hnp := HNP.out
                  have hna := HNA.out
                  have hjn : j < poN xs wv := by omega
                  have hjp : (j : Int) < (PS.length : Int) := by omega
                  have hja : (j : Int) < (AS.length : Int) := by omega
                  have gY : (YS.map (Value.int .i64))[j]? = some (.int .i64 (poV ys wv j)) := by rw [← HYS.out, HZ0.out, zL_0, List.map_map, List.getElem?_map, List.getElem?_range hjn]; rfl
                  have gP : (PS.map (Value.int .i64))[j]? = some (.int .i64 (poP ys wv j)) := by rw [← HPS.out, HZ0.out, zL_0, List.map_map, List.getElem?_map, List.getElem?_range hjn]; rfl
                  have gA : (AS.map (Value.int .i64))[j]? = some (.int .i64 (poA ys wv j)) := by rw [← HAS.out, HZ0.out, zL_0, List.map_map, List.getElem?_map, List.getElem?_range hjn]; rfl
                  obtain ⟨b5', d5', he, hsh⟩ := own_shape (F9.out.r 1 rfl)
                  simp only [Value.slice.injEq] at he
                  obtain ⟨rfl, _, rfl⟩ := he
                  obtain ⟨gy, rfl, _⟩ := hsh.resolve_left (show ¬ YS.length = 0 by omega)
                  obtain ⟨p6', q6', he, hsh⟩ := own_shape (F9.out.r 2 rfl)
                  simp only [Value.slice.injEq] at he
                  obtain ⟨rfl, _, rfl⟩ := he
                  obtain ⟨gp, rfl, _⟩ := hsh.resolve_left (show ¬ PS.length = 0 by omega)
                  obtain ⟨b8', d8', he, hsh⟩ := own_shape (F9.out.r 4 rfl)
                  simp only [Value.slice.injEq] at he
                  obtain ⟨rfl, _, rfl⟩ := he
                  obtain ⟨ga, rfl, _⟩ := hsh.resolve_left (show ¬ AS.length = 0 by omega)
                  have ry := (F9.out.rc 1 j rfl gY).1
                  have rp := (F9.out.rc 2 j rfl gP).1
                  have ra := (F9.out.rc 4 j rfl gA).1
                  obtain ⟨f1, f2, f3⟩ := HFAC.out j hjn
                  obtain ⟨pv, hpv⟩ : ∃ x, poP ys wv j = x := ⟨_, rfl⟩
                  obtain ⟨vv, hvv⟩ : ∃ x, poV ys wv j = x := ⟨_, rfl⟩
                  obtain ⟨av, hav⟩ : ∃ x, poA ys wv j = x := ⟨_, rfl⟩
                  rw [hpv] at rp f1 f2
                  rw [hvv] at ry f2 f3
                  rw [hav] at ra f3
                  obtain ⟨pn, hpn⟩ : ∃ m : Nat, pv = (m : Int) := ⟨pv.toNat, by omega⟩
                  subst hpn
                  rw [Int.toNat_natCast] at f2
                  obtain ⟨gx, ox, rfl, _, hcx⟩ := HI1.out.cell pn (by omega)
                  have HJ2 := Lib.hid hlj
                  have hpl : pn < ys.length := by omega
                  obtain ⟨b9, o9, he, _, hcx2⟩ := (F9.out.l 1 rfl).cell pn hpl
                  cases he
                  rw [f2] at hcx2
                  have hpi : (pn : Int) < (ys.length : Int) := by omega
                  have hp0 : (0 : Int) ≤ (pn : Int) := by omega
                  have hp1 : ¬ (pn : Int) < 0 := by omega
                  have hp2 : ¬ (ys.length : Int) ≤ (pn : Int) := by omega
                  have hp3 : (vv != vv) = false := by simp
                  have hp4 : ¬ vv < av := by omega
                  clear f1 f2 f3 hpv hvv hav gY gP gA hcx hny hnp hna hjn
                  go_upto_region 18 with fail
                  go_quiet (fail)
                  go_wp2
                  go_roundw
                  case rel => exact ⟨j + 1, HJ2.out, by go_num, Lib.hid (F9.out.drewN _)⟩
                  case measure => have hj9 := HJ2.out; simp [intOf]; omega
                · obtain rfl : j = YS.length := by omega
                  go_wp2
                  go_meet
                  exact F9
            · skip
              have hzb : (z == 0) = false := by simp [hz0]
              clear hz0
              go_wp2
              go_meet
              exact F7
          case rest => as_aux_lemma =>
            obtain ⟨wp, rfl⟩ : ∃ x : World, x = wc := ⟨_, rfl⟩
            have F8 := Lib.hid (hcut.out.less (.cons_cons _ (.cons _ (.cons _ .slnil))) (.refl _) (List.nil_sublist _) (.refl _))
            clear hcut F7 HMX HAV HSH HYS HPS HAS Hz hzz HGK
            obtain ⟨NW, hNW⟩ : ∃ m : Nat, xs.length = 2 + m := ⟨xs.length - 2, by omega⟩
            have HNW := Lib.hid hNW
            have hw2 : (xs.length : Int) - 2 = (NW : Int) := by omega
            clear hNW
            have c0_0 := F8.out.c 0 0 rfl rfl
            have c0_1 := F8.out.c 0 1 rfl rfl
            have c0_2 := F8.out.c 0 2 rfl rfl
            have c0_3 := F8.out.c 0 3 rfl rfl
            have c0_4 := F8.out.c 0 4 rfl rfl
            have c0_5 := F8.out.c 0 5 rfl rfl
            go_upto_region 21 with fail
            clear hw2
            go_upto_region 22 with fail
            obtain ⟨Y12, hY12⟩ : ∃ x, wp.heap.size = x := ⟨_, rfl⟩
            rw [hY12]
            have F9 := Lib.hid (F8.out.box1 (b := Y12) hY12 [.slice none 0 0, .slice none 0 0, .slice none 0 0, .slice none 0 0] 28)
            simp only [List.nil_append, List.cons_append] at F9
            obtain ⟨W9, hW9⟩ : ∃ x, (wp.alloc (.cells #[.slice none 0 0, .slice none 0 0, .slice none 0 0, .slice none 0 0] 28)) = x := ⟨_, rfl⟩
            rw [hW9] at F9 ⊢
            clear hW9 hY12 F8
            have F10 := Lib.hid ((((F9.out.addNil 3).addNil 3).addNil 3).addNil 3)
            simp only [List.nil_append, List.cons_append] at F10
            clear F9 c0_0 c0_1 c0_2 c0_3 c0_4 c0_5
            go_wp2
            go_loopw [13] (fun s13 wr => ∃ (j : Nat) (e0 e1 e2 e3 : Option Addr) (g0 g1 g2 g3 : Nat), j ≤ NW ∧ s13 = .int .i64 j ∧ Hid (Fr wo.heap.size wo wr [(wo.heap.size, [.slice a xs.length c, .slice b ys.length d, .slice aK wv.K.length cK, .slice aS wv.S.length cS, .slice aP wv.P.length cP, .slice aD wv.D.length cD]), (Y12, [.slice e0 j g0, .slice e1 j g1, .slice e2 j g2, .slice e3 j g3])] [(.i64, a, xs), (.i64, b, ys), (.i64, aK, wv.K), (.i64, aS, wv.S), (.i64, aP, wv.P), (.i64, aD, wv.D)] [⟨3, .slice e0 j g0, j, (List.replicate j (1 : Int)).map (Value.int .i64)⟩, ⟨3, .slice e1 j g1, j, (List.replicate j (1 : Int)).map (Value.int .i64)⟩, ⟨3, .slice e2 j g2, j, (List.replicate j (0 : Int)).map (Value.int .i64)⟩, ⟨3, .slice e3 j g3, j, (List.replicate j (1 : Int)).map (Value.int .i64)⟩] [])) (fun s13 _ => NW - (intOf s13).toNat)
            case atStart => exact ⟨0, none, none, none, none, 0, 0, 0, 0, Nat.zero_le _, rfl, F10⟩
            case round =>
              obtain ⟨j, e0, e1, e2, e3, g0, g1, g2, g3, hj, rfl, F11⟩ := hrel
              clear F10
              obtain ⟨wi, rfl⟩ : ∃ x : World, x = wr := ⟨_, rfl⟩
              have hjb : j ≤ 1000000 := by have := HNW.out; omega
              by_cases hlj : j < NW
              · as_aux_lemma =>
                have hji : (j : Int) < (NW : Int) := by omega
                have q0 := F11.out.c 1 0 rfl rfl
                have q1 := F11.out.f 1 0 rfl rfl
                have qb := (F11.out.bl 1 rfl).2
                have qn : ¬ Y12 = wi.heap.size := by omega
                have hra : (List.replicate j (1 : Int)) ++ [1] = List.replicate (j + 1) 1 := List.replicate_succ'.symm
                have HRA := Lib.hid hra
                clear hra
                go_upto_region 26 with (first | (at_builtin; refine appendI wo.heap.size (.slice e0 j g0) j (List.replicate j 1) 1 _ _ _ rfl rfl rfl (F11.out.r 0 rfl) rfl hjb F11.out.hlo ?_; intro v' v0w hown hbel hgr hob; rw [HRA.out] at hown; obtain ⟨rb0, rc0, rfl, _⟩ := own_shape hown; have K0 := Lib.hid (F11.out.wroteO 0 rfl hgr hown (fun g hg => by rcases hob with h | h; exact .inl (h.symm.trans hg); exact .inr (by rw [h] at hg; injection hg with hg; omega))); simp only [List.set_cons_zero, List.set_cons_succ] at K0; clear hown hbel hgr hob F11 q0 q1 qb qn; have q0 := K0.out.c 1 0 rfl rfl; have q1 := K0.out.f 1 0 rfl rfl) | fail)
                have L0 := Lib.hid (K0.out.setC 1 0 rfl (by simp) (.slice rb0 (j + 1) rc0))
                simp only [List.set_cons_zero, List.set_cons_succ] at L0
                obtain ⟨V0, hV0⟩ : ∃ x, v0w.setCell ⟨Y12, 0, none⟩ (.slice rb0 (j + 1) rc0) = x := ⟨_, rfl⟩
                rw [hV0] at L0 ⊢
                clear hV0 K0 q0 q1 HRA
                have q0 := L0.out.c 1 1 rfl rfl
                have q1 := L0.out.f 1 1 rfl rfl
                have qb := (L0.out.bl 1 rfl).2
                have qn : ¬ Y12 = V0.heap.size := by omega
                have hra : (List.replicate j (1 : Int)) ++ [1] = List.replicate (j + 1) 1 := List.replicate_succ'.symm
                have HRA := Lib.hid hra
                clear hra
                go_upto_region 27 with (first | (at_builtin; refine appendI wo.heap.size (.slice e1 j g1) j (List.replicate j 1) 1 _ _ _ rfl rfl rfl (L0.out.r 1 rfl) rfl hjb L0.out.hlo ?_; intro v' v1w hown hbel hgr hob; rw [HRA.out] at hown; obtain ⟨rb1, rc1, rfl, _⟩ := own_shape hown; have K1 := Lib.hid (L0.out.wroteO 1 rfl hgr hown (fun g hg => by rcases hob with h | h; exact .inl (h.symm.trans hg); exact .inr (by rw [h] at hg; injection hg with hg; omega))); simp only [List.set_cons_zero, List.set_cons_succ] at K1; clear hown hbel hgr hob L0 q0 q1 qb qn; have q0 := K1.out.c 1 1 rfl rfl; have q1 := K1.out.f 1 1 rfl rfl) | fail)
                have L1 := Lib.hid (K1.out.setC 1 1 rfl (by simp) (.slice rb1 (j + 1) rc1))
                simp only [List.set_cons_zero, List.set_cons_succ] at L1
                obtain ⟨V1, hV1⟩ : ∃ x, v1w.setCell ⟨Y12, 1, none⟩ (.slice rb1 (j + 1) rc1) = x := ⟨_, rfl⟩
                rw [hV1] at L1 ⊢
                clear hV1 K1 q0 q1 HRA
                have q0 := L1.out.c 1 2 rfl rfl
                have q1 := L1.out.f 1 2 rfl rfl
                have qb := (L1.out.bl 1 rfl).2
                have qn : ¬ Y12 = V1.heap.size := by omega
                have hra : (List.replicate j (0 : Int)) ++ [0] = List.replicate (j + 1) 0 := List.replicate_succ'.symm
                have HRA := Lib.hid hra
                clear hra
                go_upto_region 28 with (first | (at_builtin; refine appendI wo.heap.size (.slice e2 j g2) j (List.replicate j 0) 0 _ _ _ rfl rfl rfl (L1.out.r 2 rfl) rfl hjb L1.out.hlo ?_; intro v' v2w hown hbel hgr hob; rw [HRA.out] at hown; obtain ⟨rb2, rc2, rfl, _⟩ := own_shape hown; have K2 := Lib.hid (L1.out.wroteO 2 rfl hgr hown (fun g hg => by rcases hob with h | h; exact .inl (h.symm.trans hg); exact .inr (by rw [h] at hg; injection hg with hg; omega))); simp only [List.set_cons_zero, List.set_cons_succ] at K2; clear hown hbel hgr hob L1 q0 q1 qb qn; have q0 := K2.out.c 1 2 rfl rfl; have q1 := K2.out.f 1 2 rfl rfl) | fail)
                have L2 := Lib.hid (K2.out.setC 1 2 rfl (by simp) (.slice rb2 (j + 1) rc2))
                simp only [List.set_cons_zero, List.set_cons_succ] at L2
                obtain ⟨V2, hV2⟩ : ∃ x, v2w.setCell ⟨Y12, 2, none⟩ (.slice rb2 (j + 1) rc2) = x := ⟨_, rfl⟩
                rw [hV2] at L2 ⊢
                clear hV2 K2 q0 q1 HRA
                have q0 := L2.out.c 1 3 rfl rfl
                have q1 := L2.out.f 1 3 rfl rfl
                have qb := (L2.out.bl 1 rfl).2
                have qn : ¬ Y12 = V2.heap.size := by omega
                have hra : (List.replicate j (1 : Int)) ++ [1] = List.replicate (j + 1) 1 := List.replicate_succ'.symm
                have HRA := Lib.hid hra
                clear hra
                go_wp2_with (first | (at_builtin; refine appendI wo.heap.size (.slice e3 j g3) j (List.replicate j 1) 1 _ _ _ rfl rfl rfl (L2.out.r 3 rfl) rfl hjb L2.out.hlo ?_; intro v' v3w hown hbel hgr hob; rw [HRA.out] at hown; obtain ⟨rb3, rc3, rfl, _⟩ := own_shape hown; have K3 := Lib.hid (L2.out.wroteO 3 rfl hgr hown (fun g hg => by rcases hob with h | h; exact .inl (h.symm.trans hg); exact .inr (by rw [h] at hg; injection hg with hg; omega))); simp only [List.set_cons_zero, List.set_cons_succ] at K3; clear hown hbel hgr hob L2 q0 q1 qb qn; have q0 := K3.out.c 1 3 rfl rfl; have q1 := K3.out.f 1 3 rfl rfl) | fail)
                have L3 := Lib.hid (K3.out.setC 1 3 rfl (by simp) (.slice rb3 (j + 1) rc3))
                simp only [List.set_cons_zero, List.set_cons_succ] at L3
                clear K3 q0 q1 HRA
                go_roundw
                case rel => exact ⟨j + 1, rb0, rb1, rb2, rb3, rc0, rc1, rc2, rc3, by omega, by go_num, L3⟩
                case measure => simp [intOf]; omega
              · as_aux_lemma =>
                obtain rfl : j = NW := by omega
                have c0_0 := F11.out.c 0 0 rfl rfl
                have c0_1 := F11.out.c 0 1 rfl rfl
                have c0_2 := F11.out.c 0 2 rfl rfl
                have c0_3 := F11.out.c 0 3 rfl rfl
                have c0_4 := F11.out.c 0 4 rfl rfl
                have c0_5 := F11.out.c 0 5 rfl rfl
                by_cases hj2 : 2 < j
                · skip
                  have hj2i : (2 : Int) < (j : Int) := by omega
                  clear hj2
                  go_wp2
                  go_roundw
                  case rel => exact ⟨k + 1, by omega, by go_num, HB.out.trans (F11.out.bel.mono HB.out.size)⟩
                  case measure => simp [intOf]; omega
                · as_aux_lemma =>
                  have hj2i : ¬ (2 : Int) < (j : Int) := by omega
                  have htb := HTB.out
                  have hgx := (tenB_iff.1 htb).1
                  have hcE : countE xs = (ys.length : Int) := by rw [countE_good hgx]; exact (tenB_iff.1 htb).2.1.symm
                  have hcn := fun W (h : Ints .i64 W (World.heap W).size a xs) => rcount_any a c (World.heap W).size xs W h (goodB_dims hgx)
                  rw [hcE] at hcn
                  have h60 : ¬ (60 : Int) < (ys.length : Int) := by omega
                  have hx3n : 3 ≤ xs.length := by omega
                  obtain ⟨o1, o2, o3, o4, o5⟩ := one_all htb hx3n
                  have hm1 := fun e0 e1 e2 e3 g0 g1 g2 g3 W h h2 hK hS hP hD => pmax_all a b c d xs ys e0 e1 e2 e3 g0 g1 g2 g3 (oneW xs) W h h2 hK hS hP hD rfl HC1.out.1 HC1.out.2 (fun _ => o5)
                  have ha1 := fun e0 e1 e2 e3 g0 g1 g2 g3 W h h2 hK hS hP hD => pavg_all a b c d xs ys e0 e1 e2 e3 g0 g1 g2 g3 (oneW xs) W h h2 hK hS hP hD rfl HC1.out.1 HC1.out.2 (fun _ => o5)
                  have hxj : xs.length - 2 = j := by have := HNW.out; omega
                  have oK : (oneW xs).K = List.replicate j 1 := by rw [← hxj]; rfl
                  have oS : (oneW xs).S = List.replicate j 1 := by rw [← hxj]; rfl
                  have oP : (oneW xs).P = List.replicate j 0 := by rw [← hxj]; rfl
                  have oD : (oneW xs).D = List.replicate j 1 := by rw [← hxj]; rfl
                  obtain ⟨PP, hPP⟩ : ∃ l, (List.range (poN xs (oneW xs))).map (poP ys (oneW xs)) = l := ⟨_, rfl⟩
                  rw [o1, zL_0, zL_0, zL_0, o2, o3, hPP, oK, oS, oP, oD] at hm1
                  rw [o1, zL_0, zL_0, o2, o4, oK, oS, oP, oD] at ha1
                  simp only [List.length_replicate] at hm1 ha1
                  have h1w : ∀ x ∈ List.replicate j (1 : Int), (Lit.int .i64 x).wf = true := fun x hx => by rw [(List.mem_replicate.1 hx).2]; decide
                  have h0w : ∀ x ∈ List.replicate j (0 : Int), (Lit.int .i64 x).wf = true := fun x hx => by rw [(List.mem_replicate.1 hx).2]; decide
                  have HM1 := Lib.hid hm1
                  have HA1 := Lib.hid ha1
                  have HCN := Lib.hid hcn
                  have H1W := Lib.hid h1w
                  have H0W := Lib.hid h0w
                  clear hm1 ha1 hcn h1w h0w oK oS oP oD hPP o1 o2 o3 o4 o5 hx3n hcE hgx htb hj2 hxj
                  go_upto_region 30 with (first | (go_at_call 15; refine (HCN.out _ (F11.out.lw 0 rfl)).mono ?_; rintro e w' ⟨rfl, rfl⟩) | fail)
                  clear c0_0 c0_1 c0_2 c0_3 c0_4 c0_5
                  have c0_0 := F11.out.c 0 0 rfl rfl
                  have c0_1 := F11.out.c 0 1 rfl rfl
                  have c0_2 := F11.out.c 0 2 rfl rfl
                  have c0_3 := F11.out.c 0 3 rfl rfl
                  have c0_4 := F11.out.c 0 4 rfl rfl
                  have c0_5 := F11.out.c 0 5 rfl rfl
                  have c1_0 := F11.out.c 1 0 rfl rfl
                  have c1_1 := F11.out.c 1 1 rfl rfl
                  have c1_2 := F11.out.c 1 2 rfl rfl
                  have c1_3 := F11.out.c 1 3 rfl rfl
                  go_upto_region 31 with (first | (go_at_call 10; refine (HM1.out _ _ _ _ _ _ _ _ _ (F11.out.lw 0 rfl) (F11.out.lw 1 rfl) (F11.out.li 0 (k := .i64) (xs := List.replicate j 1) rfl H1W.out) (F11.out.li 1 (k := .i64) (xs := List.replicate j 1) rfl H1W.out) (F11.out.li 2 (k := .i64) (xs := List.replicate j 0) rfl H0W.out) (F11.out.li 3 (k := .i64) (xs := List.replicate j 1) rfl H1W.out)).mono ?_; rintro e w12 ⟨am, cm, bm, dm, pm, qm, rfl, hf⟩; have F12 := Lib.hid (F11.out.join hf); simp only [List.nil_append, List.cons_append] at F12; clear hf F11 c0_0 c0_1 c0_2 c0_3 c0_4 c0_5 c1_0 c1_1 c1_2 c1_3) | fail)
                  obtain ⟨Q13, hQ13⟩ : ∃ x, w12.heap.size = x := ⟨_, rfl⟩
                  rw [hQ13]
                  have F13 := Lib.hid (F12.out.box1 (b := Q13) hQ13 [.slice am xs.length cm, .slice bm ys.length dm] 26)
                  simp only [List.nil_append, List.cons_append] at F13
                  obtain ⟨W13, hW13⟩ : ∃ x, (w12.alloc (.cells #[.slice am xs.length cm, .slice bm ys.length dm] 26)) = x := ⟨_, rfl⟩
                  rw [hW13] at F13 ⊢
                  clear hW13 hQ13 F12
                  have c0_0 := F13.out.c 0 0 rfl rfl
                  have c0_1 := F13.out.c 0 1 rfl rfl
                  have c0_2 := F13.out.c 0 2 rfl rfl
                  have c0_3 := F13.out.c 0 3 rfl rfl
                  have c0_4 := F13.out.c 0 4 rfl rfl
                  have c0_5 := F13.out.c 0 5 rfl rfl
                  have c1_0 := F13.out.c 1 0 rfl rfl
                  have c1_1 := F13.out.c 1 1 rfl rfl
                  have c1_2 := F13.out.c 1 2 rfl rfl
                  have c1_3 := F13.out.c 1 3 rfl rfl
                  go_upto_region 32 with (first | (go_at_call 11; refine (HA1.out _ _ _ _ _ _ _ _ _ (F13.out.lw 0 rfl) (F13.out.lw 1 rfl) (F13.out.li 0 (k := .i64) (xs := List.replicate j 1) rfl H1W.out) (F13.out.li 1 (k := .i64) (xs := List.replicate j 1) rfl H1W.out) (F13.out.li 2 (k := .i64) (xs := List.replicate j 0) rfl H0W.out) (F13.out.li 3 (k := .i64) (xs := List.replicate j 1) rfl H1W.out)).mono ?_; rintro e w14 ⟨an, cn, bn, dn, rfl, hf⟩; have F14 := Lib.hid (F13.out.join hf); simp only [List.nil_append, List.cons_append] at F14; clear hf F13 c0_0 c0_1 c0_2 c0_3 c0_4 c0_5 c1_0 c1_1 c1_2 c1_3) | fail)
                  obtain ⟨Q15, hQ15⟩ : ∃ x, w14.heap.size = x := ⟨_, rfl⟩
                  rw [hQ15]
                  have F15 := Lib.hid (F14.out.box1 (b := Q15) hQ15 [.slice an xs.length cn, .slice bn ys.length dn] 26)
                  simp only [List.nil_append, List.cons_append] at F15
                  obtain ⟨W15, hW15⟩ : ∃ x, (w14.alloc (.cells #[.slice an xs.length cn, .slice bn ys.length dn] 26)) = x := ⟨_, rfl⟩
                  rw [hW15] at F15 ⊢
                  clear hW15 hQ15 F14
                  have c0_0 := F15.out.c 0 0 rfl rfl
                  have c0_1 := F15.out.c 0 1 rfl rfl
                  have c0_2 := F15.out.c 0 2 rfl rfl
                  have c0_3 := F15.out.c 0 3 rfl rfl
                  have c0_4 := F15.out.c 0 4 rfl rfl
                  have c0_5 := F15.out.c 0 5 rfl rfl
                  have c2_0 := F15.out.c 2 0 rfl rfl
                  have c2_1 := F15.out.c 2 1 rfl rfl
                  have c3_0 := F15.out.c 3 0 rfl rfl
                  have c3_1 := F15.out.c 3 1 rfl rfl
                  have M1 : True := trivial
                  have HET := Lib.hid (fun a1 b1 a2 b2 c1 d1 c2 d2 W h1 h2 h3 h4 => eqTensor_any a1 b1 a2 b2 c1 d1 c2 d2 xs ys xs ys W h1 h2 h3 h4)
                  simp only [decide_true, Bool.and_true] at HET
                  go_wp2_with (first | (go_at_call 12; refine (num12_any _ _).mono ?_; rintro e w' ⟨rfl, rfl⟩) | (go_at_call 16; have hmk := M1; clear hmk M1; refine (HET.out am bm a b cm dm c d _ (F15.out.li 4 (k := .i64) (xs := xs) rfl HI0.out.wf) (F15.out.li 5 (k := .i64) (xs := ys) rfl HI1.out.wf) (F15.out.lw 0 rfl) (F15.out.lw 1 rfl)).mono ?_; rintro e w16 ⟨rfl, hb⟩; have F16 := Lib.hid (F15.out.next hb); clear hb F15 c0_0 c0_1 c0_2 c0_3 c0_4 c0_5 c2_0 c2_1 c3_0 c3_1; have c0_0 := F16.out.c 0 0 rfl rfl; have c0_1 := F16.out.c 0 1 rfl rfl; have c0_2 := F16.out.c 0 2 rfl rfl; have c0_3 := F16.out.c 0 3 rfl rfl; have c0_4 := F16.out.c 0 4 rfl rfl; have c0_5 := F16.out.c 0 5 rfl rfl; have c2_0 := F16.out.c 2 0 rfl rfl; have c2_1 := F16.out.c 2 1 rfl rfl; have c3_0 := F16.out.c 3 0 rfl rfl; have c3_1 := F16.out.c 3 1 rfl rfl) | (go_at_call 16; refine (HET.out an bn a b cn dn c d _ (F16.out.li 7 (k := .i64) (xs := xs) rfl HI0.out.wf) (F16.out.li 8 (k := .i64) (xs := ys) rfl HI1.out.wf) (F16.out.lw 0 rfl) (F16.out.lw 1 rfl)).mono ?_; rintro e w17 ⟨rfl, hb⟩; have F17 := Lib.hid (F16.out.next hb); clear hb F16 c0_0 c0_1 c0_2 c0_3 c0_4 c0_5 c2_0 c2_1 c3_0 c3_1) | fail)
                  go_roundw
                  case rel => exact ⟨k + 1, by omega, by go_num, HB.out.trans (F17.out.bel.mono HB.out.size)⟩
                  case measure => simp [intOf]; omega
    · have HB := Lib.hid hbel
      clear hbel h
      have WK := fun W => Lib.hid (wakes12_any W)
      by_cases hlt : k < n
      · have hk15 : ¬ (k : Int) < 5 := by omega
        have hkn : (k : Int) < n := by omega
        go_wp2_with (go_at_call 14; refine ((WK _).out).mono ?_; rintro e w1 ⟨rfl, hb⟩; have HW1 := Lib.hid hb; clear hb)
        go_ret
        exact ⟨rfl, HB.out.trans (HW1.out.mono HB.out.size)⟩
      · obtain rfl : k = n := by omega
        go_wp2_with (go_at_call 14; refine ((WK _).out).mono ?_; rintro e w1 ⟨rfl, hb⟩; have HW1 := Lib.hid hb; clear hb)
        go_ret
        exact ⟨rfl, HB.out.trans (HW1.out.mono HB.out.size)⟩
end Go.Proofs.Ytmjcpgfekpedkaa
