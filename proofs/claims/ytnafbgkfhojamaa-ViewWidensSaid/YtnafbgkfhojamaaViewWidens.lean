/- The law ViewWidens, walked. -/
import Derived.Test.YtnafbgkfhojamaaWidQ
import Derived.Test.YtnafbgkfhojamaaViewX
import Derived.Deep.RegionWith
set_option linter.unusedVariables false
set_option linter.unusedSimpArgs false
namespace Go.Proofs.Ytnafbgkfhojamaa
open Go.RowKit Go.Rt
set_option maxRecDepth 100000 in
set_option maxHeartbeats 8000000 in
theorem viewWidens_any (q : Option Addr) (n c0 : Nat) (w : World) (h : AsksAt w w.heap.size q n) :
    Calls Try.prog 5 #[.slice q n c0] w fun e w' => e = .returned (.bool true) ∧ Below w.heap.size w w' := by
  have hm := h.len
  go_enter Try.func5, Try.ntmps5
  go_wp2_with fail
  go_loopw [3] (fun i wr => ∃ k : Nat, k ≤ n ∧ i = .int .i64 k ∧ Below w.heap.size w wr) (fun i _ => n - (intOf i).toNat)
  case atStart => exact ⟨0, Nat.zero_le _, rfl, Below.refl _ _⟩
  case round =>
    obtain ⟨k, hk, rfl, hbel⟩ := hrel
    obtain ⟨wo, rfl⟩ : ∃ wo : World, wo = wr := ⟨_, rfl⟩
    by_cases hend : k < n ∧ k < 15
    · obtain ⟨hlt, h20⟩ := hend
      obtain ⟨b0, o_, rfl, a, b, ad, ax, as_, tp, tq, c, d, cd, cx, cs, cp, cq, sh, st, data, axs, ss, tsh, tys, off, p1, p2, p3, ht⟩ := h.at_ k hlt
      replace ht := ht.below hbel
      have hsz := hbel.size
      have HB := Lib.hid hbel
      have hl1 := ht.iS.len
      have hl2 := ht.iT.len
      have hl3 := ht.iD.len
      have hl4 := ht.iX.len
      have hl5 := ht.iG.len
      have hl6 := ht.iP.len
      have hl7 := ht.iQ.len
      clear hbel h
      have HI0 := Lib.hid (ht.iS.mono hsz)
      have HI1 := Lib.hid (ht.iT.mono hsz)
      have HI2 := Lib.hid (ht.iD.mono hsz)
      have HI3 := Lib.hid (ht.iX.mono hsz)
      have hhv := fun W (h : Ints .i64 W W.heap.size a sh) => heavy7_any a b ad ax as_ tp tq c d cd cx cs cp cq sh st data axs ss tsh tys off p1 p2 p3 W h hl3 hl4 hl5 hl6 hl7
      have q0 := ht.cell 0 _ rfl
      have q1 := ht.cell 1 _ rfl
      have q2 := ht.cell 2 _ rfl
      have q3 := ht.cell 3 _ rfl
      have q4 := ht.cell 4 _ rfl
      have q5 := ht.cell 5 _ rfl
      have q6 := ht.cell 6 _ rfl
      have q7 := ht.cell 7 _ rfl
      have q8 := ht.cell 8 _ rfl
      have q9 := ht.cell 9 _ rfl
      have q10 := ht.cell 10 _ rfl
      simp only [Nat.add_zero] at q0
      have HP1 := Lib.hid ht.r1
      have HP2 := Lib.hid ht.r2
      clear ht
      cases hv : heavy7 sh data.length tsh.length tys.length ss.length axs.length with
      | true =>
        rw [hv] at hhv
        clear hv
        have F1 := Lib.hid ((Fr.start (w := wo) (I := [(.i64, a, sh), (.i64, b, st), (.i64, ad, data), (.i64, ax, axs)]) (by intro z hz; simp at hz; rcases hz with rfl | rfl | rfl | rfl; exact HI0.out; exact HI1.out; exact HI2.out; exact HI3.out)).box1 (b := wo.heap.size) rfl [.slice a sh.length c, .slice b st.length d, .int .i64 off, .slice ad data.length cd, .slice ax axs.length cx, .slice as_ ss.length cs, .int .i64 p1, .int .i64 p2, .int .i64 p3, .slice tp tsh.length cp, .slice tq tys.length cq] 30)
        simp only [List.nil_append] at F1
        go_upto_region 5 with fail
        obtain ⟨W1, hW1⟩ : ∃ W1, wo.alloc (.cells #[.slice a sh.length c, .slice b st.length d, .int .i64 off, .slice ad data.length cd, .slice ax axs.length cx, .slice as_ ss.length cs, .int .i64 p1, .int .i64 p2, .int .i64 p3, .slice tp tsh.length cp, .slice tq tys.length cq] 30) = W1 := ⟨_, rfl⟩
        rw [hW1] at F1 ⊢
        clear hW1 q0 q1 q2 q3 q4 q5 q6 q7 q8 q9 q10
        have c0_0 := F1.out.c 0 0 rfl rfl
        have c0_1 := F1.out.c 0 1 rfl rfl
        have c0_2 := F1.out.c 0 2 rfl rfl
        have c0_3 := F1.out.c 0 3 rfl rfl
        have c0_4 := F1.out.c 0 4 rfl rfl
        have c0_5 := F1.out.c 0 5 rfl rfl
        have c0_6 := F1.out.c 0 6 rfl rfl
        have c0_7 := F1.out.c 0 7 rfl rfl
        have c0_8 := F1.out.c 0 8 rfl rfl
        have c0_9 := F1.out.c 0 9 rfl rfl
        have c0_10 := F1.out.c 0 10 rfl rfl
        go_wp2_with (go_at_call 7; refine (hhv W1 (F1.out.lw 0 rfl)).mono ?_; rintro e w2 ⟨rfl, hb⟩; have F2 := Lib.hid (F1.out.next hb); clear hb)
        go_ret
        exact ⟨rfl, HB.out.trans (F2.out.bel.mono HB.out.size)⟩
      | false =>
        rw [hv] at hhv
        obtain ⟨g1, g2, g3, g4, g5, g6, g7⟩ := heavy7_no hv
        clear hv g7
        have F1 := Lib.hid ((Fr.start (w := wo) (I := [(.i64, a, sh), (.i64, b, st), (.i64, ad, data), (.i64, ax, axs)]) (by intro z hz; simp at hz; rcases hz with rfl | rfl | rfl | rfl; exact HI0.out; exact HI1.out; exact HI2.out; exact HI3.out)).box1 (b := wo.heap.size) rfl [.slice a sh.length c, .slice b st.length d, .int .i64 off, .slice ad data.length cd, .slice ax axs.length cx, .slice as_ ss.length cs, .int .i64 p1, .int .i64 p2, .int .i64 p3, .slice tp tsh.length cp, .slice tq tys.length cq] 30)
        simp only [List.nil_append] at F1
        go_upto_region 5 with fail
        obtain ⟨W1, hW1⟩ : ∃ W1, wo.alloc (.cells #[.slice a sh.length c, .slice b st.length d, .int .i64 off, .slice ad data.length cd, .slice ax axs.length cx, .slice as_ ss.length cs, .int .i64 p1, .int .i64 p2, .int .i64 p3, .slice tp tsh.length cp, .slice tq tys.length cq] 30) = W1 := ⟨_, rfl⟩
        rw [hW1] at F1 ⊢
        clear hW1 q0 q1 q2 q3 q4 q5 q6 q7 q8 q9 q10
        have c0_0 := F1.out.c 0 0 rfl rfl
        have c0_1 := F1.out.c 0 1 rfl rfl
        have c0_2 := F1.out.c 0 2 rfl rfl
        have c0_3 := F1.out.c 0 3 rfl rfl
        have c0_4 := F1.out.c 0 4 rfl rfl
        have c0_5 := F1.out.c 0 5 rfl rfl
        have c0_6 := F1.out.c 0 6 rfl rfl
        have c0_7 := F1.out.c 0 7 rfl rfl
        have c0_8 := F1.out.c 0 8 rfl rfl
        have c0_9 := F1.out.c 0 9 rfl rfl
        have c0_10 := F1.out.c 0 10 rfl rfl
        go_upto_region 7 with (go_at_call 7; refine (hhv W1 (F1.out.lw 0 rfl)).mono ?_; rintro e w2 ⟨rfl, hb⟩; have F2 := Lib.hid (F1.out.next hb); clear hb F1 c0_0 c0_1 c0_2 c0_3 c0_4 c0_5 c0_6 c0_7 c0_8 c0_9 c0_10; have d0_0 := F2.out.c 0 0 rfl rfl; have d0_1 := F2.out.c 0 1 rfl rfl; have d0_2 := F2.out.c 0 2 rfl rfl; have d0_3 := F2.out.c 0 3 rfl rfl; have d0_4 := F2.out.c 0 4 rfl rfl; have d0_5 := F2.out.c 0 5 rfl rfl; have d0_6 := F2.out.c 0 6 rfl rfl; have d0_7 := F2.out.c 0 7 rfl rfl; have d0_8 := F2.out.c 0 8 rfl rfl; have d0_9 := F2.out.c 0 9 rfl rfl; have d0_10 := F2.out.c 0 10 rfl rfl)
        have hmv := fun W (h : Ints .i64 W W.heap.size a sh) (h2 : Ints .i64 W W.heap.size b st) => mayView_any a b c d W.heap.size sh st off (data.length : Int) W h h2 (Nat.le_refl _)
        have hwd := fun W (h : Ints .i64 W W.heap.size ad data) => words_any ad cd W.heap.size data W h
        obtain ⟨vb, hvb⟩ : ∃ x, viewB sh st off data.length = x := ⟨_, rfl⟩
        obtain ⟨wb, hwb⟩ : ∃ x, data.all isW = x := ⟨_, rfl⟩
        rw [hvb] at hmv
        rw [hwb] at hwd
        have HVB := Lib.hid hvb
        have HWB := Lib.hid hwb
        clear hvb hwb
        go_cut [56] from 37 to 56 (fun s56 wx => ∃ q : Bool, s56 = .bool q ∧ Hid (q = !(vb && (wb && !decide (sh.length = 4)))) ∧ Hid (Fr wo.heap.size wo wx [(wo.heap.size, [.slice a sh.length c, .slice b st.length d, .int .i64 off, .slice ad data.length cd, .slice ax axs.length cx, .slice as_ ss.length cs, .int .i64 p1, .int .i64 p2, .int .i64 p3, .slice tp tsh.length cp, .slice tq tys.length cq])] [(.i64, a, sh), (.i64, b, st), (.i64, ad, data), (.i64, ax, axs)] [] []))
        case first =>
          cases vb with
          | false =>
            go_wp2_with (go_at_call 8; refine (hmv _ (F2.out.lw 0 rfl) (F2.out.lw 1 rfl)).mono ?_; rintro e w3 ⟨rfl, hb⟩; have F3 := Lib.hid (F2.out.next hb); clear hb F2 d0_0 d0_1 d0_2 d0_3 d0_4 d0_5 d0_6 d0_7 d0_8 d0_9 d0_10; have e0_0 := F3.out.c 0 0 rfl rfl; have e0_1 := F3.out.c 0 1 rfl rfl; have e0_2 := F3.out.c 0 2 rfl rfl; have e0_3 := F3.out.c 0 3 rfl rfl; have e0_4 := F3.out.c 0 4 rfl rfl; have e0_5 := F3.out.c 0 5 rfl rfl; have e0_6 := F3.out.c 0 6 rfl rfl; have e0_7 := F3.out.c 0 7 rfl rfl; have e0_8 := F3.out.c 0 8 rfl rfl; have e0_9 := F3.out.c 0 9 rfl rfl; have e0_10 := F3.out.c 0 10 rfl rfl)
            go_meet
            exact ⟨true, rfl, Lib.hid rfl, F3⟩
          | true =>
            cases wb with
            | false =>
              go_wp2_with (first | (go_at_call 8; refine (hmv _ (F2.out.lw 0 rfl) (F2.out.lw 1 rfl)).mono ?_; rintro e w3 ⟨rfl, hb⟩; have F3 := Lib.hid (F2.out.next hb); clear hb F2 d0_0 d0_1 d0_2 d0_3 d0_4 d0_5 d0_6 d0_7 d0_8 d0_9 d0_10; have e0_0 := F3.out.c 0 0 rfl rfl; have e0_1 := F3.out.c 0 1 rfl rfl; have e0_2 := F3.out.c 0 2 rfl rfl; have e0_3 := F3.out.c 0 3 rfl rfl; have e0_4 := F3.out.c 0 4 rfl rfl; have e0_5 := F3.out.c 0 5 rfl rfl; have e0_6 := F3.out.c 0 6 rfl rfl; have e0_7 := F3.out.c 0 7 rfl rfl; have e0_8 := F3.out.c 0 8 rfl rfl; have e0_9 := F3.out.c 0 9 rfl rfl; have e0_10 := F3.out.c 0 10 rfl rfl) | (go_at_call 9; refine (hwd _ (F3.out.lw 2 rfl)).mono ?_; rintro e w' ⟨rfl, rfl⟩; skip))
              go_meet
              exact ⟨true, rfl, Lib.hid rfl, F3⟩
            | true =>
              by_cases hx4 : sh.length = 4
              · have hx5 : ((sh.length : Int) == 4) = true := by simp [hx4]
                have HX4 := Lib.hid hx4
                clear hx4
                go_wp2_with (first | (go_at_call 8; refine (hmv _ (F2.out.lw 0 rfl) (F2.out.lw 1 rfl)).mono ?_; rintro e w3 ⟨rfl, hb⟩; have F3 := Lib.hid (F2.out.next hb); clear hb F2 d0_0 d0_1 d0_2 d0_3 d0_4 d0_5 d0_6 d0_7 d0_8 d0_9 d0_10; have e0_0 := F3.out.c 0 0 rfl rfl; have e0_1 := F3.out.c 0 1 rfl rfl; have e0_2 := F3.out.c 0 2 rfl rfl; have e0_3 := F3.out.c 0 3 rfl rfl; have e0_4 := F3.out.c 0 4 rfl rfl; have e0_5 := F3.out.c 0 5 rfl rfl; have e0_6 := F3.out.c 0 6 rfl rfl; have e0_7 := F3.out.c 0 7 rfl rfl; have e0_8 := F3.out.c 0 8 rfl rfl; have e0_9 := F3.out.c 0 9 rfl rfl; have e0_10 := F3.out.c 0 10 rfl rfl) | (go_at_call 9; refine (hwd _ (F3.out.lw 2 rfl)).mono ?_; rintro e w' ⟨rfl, rfl⟩; skip))
                go_meet
                exact ⟨true, by first | rfl | simp [HX4.out], Lib.hid (by simp [HX4.out]), F3⟩
              · have hx5 : ((sh.length : Int) == 4) = false := by simp; omega
                have hx6 : ¬ (sh.length : Int) = 4 := by omega
                go_wp2_with (first | (go_at_call 8; refine (hmv _ (F2.out.lw 0 rfl) (F2.out.lw 1 rfl)).mono ?_; rintro e w3 ⟨rfl, hb⟩; have F3 := Lib.hid (F2.out.next hb); clear hb F2 d0_0 d0_1 d0_2 d0_3 d0_4 d0_5 d0_6 d0_7 d0_8 d0_9 d0_10; have e0_0 := F3.out.c 0 0 rfl rfl; have e0_1 := F3.out.c 0 1 rfl rfl; have e0_2 := F3.out.c 0 2 rfl rfl; have e0_3 := F3.out.c 0 3 rfl rfl; have e0_4 := F3.out.c 0 4 rfl rfl; have e0_5 := F3.out.c 0 5 rfl rfl; have e0_6 := F3.out.c 0 6 rfl rfl; have e0_7 := F3.out.c 0 7 rfl rfl; have e0_8 := F3.out.c 0 8 rfl rfl; have e0_9 := F3.out.c 0 9 rfl rfl; have e0_10 := F3.out.c 0 10 rfl rfl) | (go_at_call 9; refine (hwd _ (F3.out.lw 2 rfl)).mono ?_; rintro e w' ⟨rfl, rfl⟩; skip))
                go_meet
                exact ⟨false, by first | rfl | simp [hx4] | (simp; omega), Lib.hid (by simp [hx4]), F3⟩
        case rest =>
          obtain ⟨q1, rfl, HQ1, F3⟩ := hcut
          clear F2 hmv hwd d0_0 d0_1 d0_2 d0_3 d0_4 d0_5 d0_6 d0_7 d0_8 d0_9 d0_10
          cases q1 with
          | true =>
            go_wp2
            go_roundw
            case rel => exact ⟨k + 1, by omega, by go_num, HB.out.trans (F3.out.bel.mono HB.out.size)⟩
            case measure => simp [intOf]; omega
          | false =>
            have hq1 : vb = true ∧ wb = true ∧ ¬ sh.length = 4 := by have := HQ1.out; revert this; cases vb <;> cases wb <;> simp
            obtain ⟨rfl, rfl, hn4⟩ := hq1
            clear HQ1
            have HN4 := Lib.hid hn4
            have HV6 := Lib.hid (view_up HVB.out)
            have hcw := count_words (data := data) HVB.out
            have hSTL := (viewB_iff.1 HVB.out).2.1
            have HSTL := Lib.hid hSTL
            have HSW := Lib.hid HI0.out.wf
            have HTW := Lib.hid HI1.out.wf
            have HDW := Lib.hid HI2.out.wf
            have HGD := Lib.hid (viewB_iff.1 HVB.out).1
            clear hSTL hn4
            have e0_0 := F3.out.c 0 0 rfl rfl
            have e0_1 := F3.out.c 0 1 rfl rfl
            have e0_2 := F3.out.c 0 2 rfl rfl
            have e0_3 := F3.out.c 0 3 rfl rfl
            have e0_4 := F3.out.c 0 4 rfl rfl
            have e0_5 := F3.out.c 0 5 rfl rfl
            have e0_6 := F3.out.c 0 6 rfl rfl
            have e0_7 := F3.out.c 0 7 rfl rfl
            have e0_8 := F3.out.c 0 8 rfl rfl
            have e0_9 := F3.out.c 0 9 rfl rfl
            have e0_10 := F3.out.c 0 10 rfl rfl
            obtain ⟨m, hm1, hm2⟩ : ∃ m : Nat, withinN p1 2 = (m : Int) ∧ m < 2 := by have := withinN_bound p1 2 (by omega); exact ⟨(withinN p1 2).toNat, by omega, by omega⟩
            have hWI := fun W => Lib.hid (within0_any p1 2 W HP1.out (by omega) (by omega))
            rw [hm1] at hWI
            clear hm1
            go_upto_region 9 with (go_at_call 28; refine (hWI _).out.mono ?_; rintro e w' ⟨rfl, rfl⟩)
            obtain ⟨nn, hn⟩ : ∃ nn : Nat, 2 + m = nn := ⟨_, rfl⟩
            rw [show (2 : Int) + (m : Int) = (nn : Int) by omega]
            have hn2 : 2 ≤ nn ∧ nn ≤ 3 := by omega
            clear hWI hn hm2
            obtain ⟨SR, hSR⟩ : ∃ x, (nn : Int) :: sh = x := ⟨_, rfl⟩
            have hSL : 1 + sh.length = SR.length := by rw [← hSR, List.length_cons, Nat.add_comm]
            have hSM : SR.map (Value.int .i64) = [Value.int .i64 (nn : Int)] ++ sh.map (Value.int .i64) := by rw [← hSR]; rfl
            have HSR := Lib.hid hSR
            go_cut [6, 34, 35] from 61 to 66 (fun s6 s34 s35 wx => ∃ a6 c6, s6 = .slice a6 SR.length c6 ∧ s34 = .agg #[.slice a sh.length c, .slice b st.length d, .int .i64 off, .slice ad data.length cd, .slice ax axs.length cx, .slice as_ ss.length cs, .int .i64 p1, .int .i64 p2, .int .i64 p3, .slice tp tsh.length cp, .slice tq tys.length cq] ∧ s35 = .agg #[.slice a sh.length c, .slice b st.length d, .int .i64 off, .slice ad data.length cd, .slice ax axs.length cx, .slice as_ ss.length cs, .int .i64 p1, .int .i64 p2, .int .i64 p3, .slice tp tsh.length cp, .slice tq tys.length cq] ∧ Hid (Fr wo.heap.size wo wx [(wo.heap.size, [.slice a sh.length c, .slice b st.length d, .int .i64 off, .slice ad data.length cd, .slice ax axs.length cx, .slice as_ ss.length cs, .int .i64 p1, .int .i64 p2, .int .i64 p3, .slice tp tsh.length cp, .slice tq tys.length cq])] [(.i64, a, sh), (.i64, b, st), (.i64, ad, data), (.i64, ax, axs)] [⟨3, .slice a6 SR.length c6, SR.length, SR.map (Value.int .i64)⟩] []))
            case first =>
              cases a with
              | none =>
                have hx : sh = [] := by
                  cases sh with
                  | nil => rfl
                  | cons x r =>
                    obtain ⟨b, off, e, _⟩ := HI0.out.cell 0 (by simp)
                    simp at e
                have hx0 : sh.length = 0 := by rw [hx]; rfl
                have HX := Lib.hid hx
                clear hx
                have hb0 := F3.out.bl 0 rfl
                have hb1 : wo.heap.size < wc.heap.size := hb0.2
                have hb2 : ¬ wo.heap.size = wc.heap.size := by omega
                have hlit := World.ownsRow_lit (base := wc.heap.size) (e := 3) (size := 1) wc #[Value.int .i64 (nn : Int)] 1 (Nat.le_refl _) (by unfold maxLen; omega) (by simp)
                have F4 := Lib.hid (F3.out.addO ((Below.refl _ _).alloc (Nat.le_refl _) _) hlit)
                have HSLN := Lib.hid hSL
                have HSMN := Lib.hid hSM
                clear hlit hSL hSM hSR hb0
                go_wp2
                go_meet
                exact ⟨_, 1, by rw [← HSLN.out, hx0], by rw [hx0], by rw [hx0], Lib.hid (by rw [HSMN.out, ← HSLN.out, (show [Value.int .i64 (nn : Int)] ++ sh.map (Value.int .i64) = [Value.int .i64 (nn : Int)] by rw [HX.out]; rfl), (show 1 + sh.length = 1 by rw [hx0])]; exact F4.out)⟩
              | some ad0 =>
                have hnews : ∀ j u, (sh.map (Value.int .i64))[j]? = some u → (wc.alloc (.cells #[Value.int .i64 (nn : Int)] 3)).cell? (ad0.add j) = some u := by
                  intro j u hj
                  have hjl : j < sh.length := by simpa using (List.getElem?_eq_some_iff.1 hj).1
                  obtain ⟨b, off, e, hlt, hc⟩ := (F3.out.lw 0 rfl).cell j hjl
                  simp at e
                  subst e
                  rw [Addr.add_lit, (((Below.refl _ wc).alloc (Nat.le_refl _) _).cell (p := ⟨b, off + j, none⟩) hlt).trans hc]
                  simp [hjl] at hj
                  rw [← hj]
                  simp [hjl]
                obtain ⟨i9, hi9, hz0, hz1, hz2⟩ := info_parts infoIntW
                have hlit := World.ownsRow_lit (base := wc.heap.size) (e := 3) (size := 1) wc #[Value.int .i64 (nn : Int)] 1 (Nat.le_refl _) (by unfold maxLen; omega) (by simp)
                have HSLN := Lib.hid hSL
                have HSMN := Lib.hid hSM
                have hb0 := F3.out.bl 0 rfl
                have hb1 : wo.heap.size < wc.heap.size := hb0.2
                have hb2 : ¬ wo.heap.size = wc.heap.size := by omega
                clear hSL hSM hSR hb0
                go_wp2_with (at_builtin; (refine wpList_append_own _ rfl _ _ 23 rfl wc.heap.size 3 i9 (.int .i64 0) 1 8 Try.underlying23 hi9 hz0 hz1 hz2 rfl (by decide) _ 1 _ rfl hlit ad0 sh.length c (sh.map (Value.int .i64)) rfl (by simp) hnews (by simp [Value.oneCell']) (by unfold maxLen; omega) (by omega) (by simp) ?_); intro v' w4 hown1 hgrow1 _; have hb4 : Below wc.heap.size wc w4 := ((Below.refl _ wc).alloc (Nat.le_refl _) _).grown hgrow1 (by simp) (fun j hj => by cases hj; exact Nat.le_refl _); obtain ⟨a6, c6, rfl, _⟩ := own_shape hown1; have F4 := Lib.hid (F3.out.addO hb4 hown1); clear hb4 hown1 hgrow1 F3 e0_0 e0_1 e0_2 e0_3 e0_4 e0_5 e0_6 e0_7 e0_8 e0_9 e0_10)
                go_meet
                exact ⟨a6, c6, by rw [← HSLN.out], rfl, rfl, Lib.hid (by rw [HSMN.out, ← HSLN.out]; exact F4.out)⟩
            case rest =>
              obtain ⟨a6, c6, rfl, rfl, rfl, F4⟩ := hcut
              clear F3 hSL hSM hSR e0_0 e0_1 e0_2 e0_3 e0_4 e0_5 e0_6 e0_7 e0_8 e0_9 e0_10
              have hsw : ∀ x ∈ SR, (Lit.int .i64 x).wf = true := by rw [← HSR.out]; intro x hx; rcases List.mem_cons.1 hx with rfl | hx; exact wf_i64_iff.2 ⟨by omega, by omega⟩; exact HSW.out x hx
              have HSRW := Lib.hid hsw
              clear hsw
              have hrm := fun (p : Option Addr) (cp : Nat) W (h : Ints .i64 W W.heap.size p SR) => rmay_any p cp _ SR W h
              cases hgb : goodB SR with
              | false =>
                rw [hgb] at hrm
                clear hgb
                go_wp2_with (go_at_call 31; refine (hrm a6 c6 _ (F4.out.li 0 (k := .i64) (xs := SR) rfl HSRW.out)).mono ?_; rintro e w' ⟨rfl, rfl⟩)
                go_roundw
                case rel => exact ⟨k + 1, by omega, by go_num, HB.out.trans (F4.out.bel.mono HB.out.size)⟩
                case measure => simp [intOf]; omega
              | true =>
                rw [hgb] at hrm
                have HGB := Lib.hid hgb
                have hvc := viewB_cons (st := st) (off := off) (N := (data.length : Int)) HVB.out (by rw [HSR.out]; exact hgb)
                have hwcn := words_cons (st := st) (data := data) (off := off) (goodB_dims HGD.out) nn (n := (nn : Int)) rfl
                have hgc := goes_cons (sh := sh) (n := (nn : Int)) (goodB_dims HGD.out) (by rw [HSR.out]; exact hgb)
                have hwl := widL_cons (sh := sh) (st := st) (n := (nn : Int)) HSTL.out
                rw [HSR.out] at hvc hwcn hgc hwl
                have HWID := Lib.hid (fun (p : Option Addr) (cp : Nat) W (h : Ints .i64 W W.heap.size a sh) (h2 : Ints .i64 W W.heap.size b st) (h3 : Ints .i64 W W.heap.size p SR) => vwiden_good a b p c d cp sh st SR off W h h2 h3 HV6.out hgb hgc)
                rw [hwl] at HWID
                obtain ⟨T1, hT1⟩ : ∃ x, (0 : Int) :: st = x := ⟨_, rfl⟩
                rw [hT1] at HWID hvc hwcn
                have hT1w : ∀ x ∈ T1, (Lit.int .i64 x).wf = true := by rw [← hT1]; intro x hx; rcases List.mem_cons.1 hx with rfl | hx; rfl; exact HTW.out x hx
                have HT1W := Lib.hid hT1w
                have HCA := Lib.hid (fun W (h : Ints .i64 W W.heap.size a sh) (h2 : Ints .i64 W W.heap.size b st) (h3 : Ints .i64 W W.heap.size ad data) => vcopy_good a b ad c d cd sh st data off W h h2 h3 HVB.out HWB.out)
                have HCB := Lib.hid (fun (p q : Option Addr) (cp cq : Nat) W (h : Ints .i64 W W.heap.size p SR) (h2 : Ints .i64 W W.heap.size q T1) (h3 : Ints .i64 W W.heap.size ad data) => vcopy_good p q ad cp cq cd SR T1 data off W h h2 h3 hvc HWB.out)
                have hcl := words_prod (data := data) HVB.out
                have hwa := wordsV_wf (sh := sh) (st := st) (off := off) HDW.out
                have hwb := wordsV_wf (sh := SR) (st := T1) (off := off) HDW.out
                have hbl : (wordsV SR T1 off data).length ≤ 65536 := by have := count_words (data := data) hvc; omega
                obtain ⟨CY, hCY⟩ : ∃ x, wordsV sh st off data = x := ⟨_, rfl⟩
                obtain ⟨BY, hBY⟩ : ∃ x, wordsV SR T1 off data = x := ⟨_, rfl⟩
                rw [hCY] at HCA hcl hwa hcw
                rw [hBY] at HCB hwb hbl
                rw [hCY, hBY] at hwcn
                obtain ⟨hBL, hBD⟩ := hwcn
                have HBL := Lib.hid hBL
                have HBD := Lib.hid hBD
                have HCL := Lib.hid hcl
                have HWA := Lib.hid hwa
                have HWBY := Lib.hid hwb
                have HCW := Lib.hid hcw
                have HB65 := Lib.hid hbl
                clear hvc hgc hwl hT1 hT1w hcl hwa hwb hcw hCY hBY hBL hBD hbl hgb
                have e0_0 := F4.out.c 0 0 rfl rfl
                have e0_1 := F4.out.c 0 1 rfl rfl
                have e0_2 := F4.out.c 0 2 rfl rfl
                have e0_3 := F4.out.c 0 3 rfl rfl
                have e0_4 := F4.out.c 0 4 rfl rfl
                have e0_5 := F4.out.c 0 5 rfl rfl
                have e0_6 := F4.out.c 0 6 rfl rfl
                have e0_7 := F4.out.c 0 7 rfl rfl
                have e0_8 := F4.out.c 0 8 rfl rfl
                have e0_9 := F4.out.c 0 9 rfl rfl
                have e0_10 := F4.out.c 0 10 rfl rfl
                go_upto_region 12 with (first | (go_at_call 31; refine (hrm a6 c6 _ (F4.out.li 0 (k := .i64) (xs := SR) rfl HSRW.out)).mono ?_; rintro e w' ⟨rfl, rfl⟩) | (go_at_call 32; refine (HWID.out a6 c6 _ (F4.out.lw 0 rfl) (F4.out.lw 1 rfl) (F4.out.li 0 (k := .i64) (xs := SR) rfl HSRW.out)).mono ?_; rintro e w5 ⟨a7, c7, b7, d7, rfl, hf⟩; have F5 := Lib.hid (F4.out.join hf); simp only [List.cons_append, List.nil_append] at F5; clear hf F4 e0_0 e0_1 e0_2 e0_3 e0_4 e0_5 e0_6 e0_7 e0_8 e0_9 e0_10) | fail)
                obtain ⟨X6, hX6⟩ : ∃ x, w5.heap.size = x := ⟨_, rfl⟩
                rw [hX6]
                have F6 := Lib.hid (F5.out.box1 (b := X6) hX6 [.slice a7 SR.length c7, .slice b7 T1.length d7, .int .i64 off] 25)
                simp only [List.nil_append, List.cons_append] at F6
                obtain ⟨W6, hW6⟩ : ∃ x, (w5.alloc (.cells #[.slice a7 SR.length c7, .slice b7 T1.length d7, .int .i64 off] 25)) = x := ⟨_, rfl⟩
                rw [hW6] at F6 ⊢
                clear hW6 hX6 F5
                have g0_0 := F6.out.c 0 0 rfl rfl
                have g0_1 := F6.out.c 0 1 rfl rfl
                have g0_2 := F6.out.c 0 2 rfl rfl
                have g0_3 := F6.out.c 0 3 rfl rfl
                have g0_4 := F6.out.c 0 4 rfl rfl
                have g0_5 := F6.out.c 0 5 rfl rfl
                have g0_6 := F6.out.c 0 6 rfl rfl
                have g0_7 := F6.out.c 0 7 rfl rfl
                have g0_8 := F6.out.c 0 8 rfl rfl
                have g0_9 := F6.out.c 0 9 rfl rfl
                have g0_10 := F6.out.c 0 10 rfl rfl
                go_upto_region 13 with (go_at_call 16; refine (HCA.out _ (F6.out.lw 0 rfl) (F6.out.lw 1 rfl) (F6.out.lw 2 rfl)).mono ?_; rintro e w7 ⟨a8, c8, b8, d8, rfl, hf⟩; have F7 := Lib.hid (F6.out.join hf); simp only [List.cons_append, List.nil_append] at F7; clear hf F6 g0_0 g0_1 g0_2 g0_3 g0_4 g0_5 g0_6 g0_7 g0_8 g0_9 g0_10)
                obtain ⟨X8, hX8⟩ : ∃ x, w7.heap.size = x := ⟨_, rfl⟩
                rw [hX8]
                have F8 := Lib.hid (F7.out.box1 (b := X8) hX8 [.slice a8 sh.length c8, .slice b8 CY.length d8] 28)
                simp only [List.nil_append, List.cons_append] at F8
                obtain ⟨W8, hW8⟩ : ∃ x, (w7.alloc (.cells #[.slice a8 sh.length c8, .slice b8 CY.length d8] 28)) = x := ⟨_, rfl⟩
                rw [hW8] at F8 ⊢
                clear hW8 hX8 F7
                have g0_0 := F8.out.c 0 0 rfl rfl
                have g0_1 := F8.out.c 0 1 rfl rfl
                have g0_2 := F8.out.c 0 2 rfl rfl
                have g0_3 := F8.out.c 0 3 rfl rfl
                have g0_4 := F8.out.c 0 4 rfl rfl
                have g0_5 := F8.out.c 0 5 rfl rfl
                have g0_6 := F8.out.c 0 6 rfl rfl
                have g0_7 := F8.out.c 0 7 rfl rfl
                have g0_8 := F8.out.c 0 8 rfl rfl
                have g0_9 := F8.out.c 0 9 rfl rfl
                have g0_10 := F8.out.c 0 10 rfl rfl
                have g1_0 := F8.out.c 1 0 rfl rfl
                have g1_1 := F8.out.c 1 1 rfl rfl
                have g1_2 := F8.out.c 1 2 rfl rfl
                go_upto_region 14 with (go_at_call 16; refine (HCB.out a7 b7 c7 d7 _ (F8.out.li 1 (k := .i64) (xs := SR) rfl HSRW.out) (F8.out.li 2 (k := .i64) (xs := T1) rfl HT1W.out) (F8.out.lw 2 rfl)).mono ?_; rintro e w9 ⟨a9, c9, b9, d9, rfl, hf⟩; have F9 := Lib.hid (F8.out.join hf); simp only [List.cons_append, List.nil_append] at F9; clear hf F8 g0_0 g0_1 g0_2 g0_3 g0_4 g0_5 g0_6 g0_7 g0_8 g0_9 g0_10 g1_0 g1_1 g1_2)
                obtain ⟨XA, hXA⟩ : ∃ x, w9.heap.size = x := ⟨_, rfl⟩
                rw [hXA]
                have FA := Lib.hid (F9.out.box1 (b := XA) hXA [.slice a9 SR.length c9, .slice b9 BY.length d9] 28)
                simp only [List.nil_append, List.cons_append] at FA
                obtain ⟨WA, hWA⟩ : ∃ x, (w9.alloc (.cells #[.slice a9 SR.length c9, .slice b9 BY.length d9] 28)) = x := ⟨_, rfl⟩
                rw [hWA] at FA ⊢
                clear hWA hXA F9
                have g2_0 := FA.out.c 2 0 rfl rfl
                have g2_1 := FA.out.c 2 1 rfl rfl
                have g3_0 := FA.out.c 3 0 rfl rfl
                have g3_1 := FA.out.c 3 1 rfl rfl
                have hpr : ∀ [Inhabited Unit], wrap64 ((nn : Int) * (CY.length : Int)) = (BY.length : Int) := prodW HBL.out HB65.out
                have hb65 := HB65.out
                go_upto_region 16 with (first | (go_at_call 18; refine (num7_any _ _).mono ?_; rintro e w' ⟨rfl, rfl⟩) | (go_at_call 12; refine (eqNumbers_any a9 a6 c9 c6 _ SR SR _ (FA.out.li 5 (k := .i64) (xs := SR) rfl HSRW.out) (FA.out.li 0 (k := .i64) (xs := SR) rfl HSRW.out)).mono ?_; rintro e w' ⟨rfl, q13, rfl⟩; simp only [decide_true]; have FB := Lib.hid (FA.out.drewN q13); clear FA g2_0 g2_1 g3_0 g3_1; have h2_0 := FB.out.c 2 0 rfl rfl; have h2_1 := FB.out.c 2 1 rfl rfl; have h3_0 := FB.out.c 3 0 rfl rfl; have h3_1 := FB.out.c 3 1 rfl rfl) | fail)
                clear hpr hb65
                clear h2_0 h2_1 h3_0 h3_1
                go_wp2_with fail
                go_loopw [13] (fun sk wr => ∃ k9 : Nat, k9 ≤ nn ∧ sk = .int .i64 k9 ∧ Hid (Fr wo.heap.size wo wr [(wo.heap.size, [.slice a sh.length c, .slice b st.length d, .int .i64 off, .slice ad data.length cd, .slice ax axs.length cx, .slice as_ ss.length cs, .int .i64 p1, .int .i64 p2, .int .i64 p3, .slice tp tsh.length cp, .slice tq tys.length cq]), (X6, [.slice a7 SR.length c7, .slice b7 T1.length d7, .int .i64 off]), (X8, [.slice a8 sh.length c8, .slice b8 CY.length d8]), (XA, [.slice a9 SR.length c9, .slice b9 BY.length d9])] [(.i64, a, sh), (.i64, b, st), (.i64, ad, data), (.i64, ax, axs)] [⟨3, .slice a6 SR.length c6, SR.length, SR.map (Value.int .i64)⟩, ⟨3, .slice a7 SR.length c7, SR.length, SR.map (Value.int .i64)⟩, ⟨3, .slice b7 T1.length d7, T1.length, T1.map (Value.int .i64)⟩, ⟨3, .slice a8 sh.length c8, sh.length, sh.map (Value.int .i64)⟩, ⟨2, .slice b8 CY.length d8, CY.length, CY.map (Value.int .i64)⟩, ⟨3, .slice a9 SR.length c9, SR.length, SR.map (Value.int .i64)⟩, ⟨2, .slice b9 BY.length d9, BY.length, BY.map (Value.int .i64)⟩] [])) (fun sk _ => nn - (intOf sk).toNat)
                case atStart => exact ⟨0, Nat.zero_le _, rfl, FB⟩
                case round =>
                  obtain ⟨k9, hk9, rfl, FC⟩ := hrel
                  clear FB
                  obtain ⟨wl, rfl⟩ : ∃ x : World, x = wr := ⟨_, rfl⟩
                  by_cases hkl : k9 < nn
                  · skip
                    have h2_0 := FC.out.c 2 0 rfl rfl
                    have h2_1 := FC.out.c 2 1 rfl rfl
                    have h3_0 := FC.out.c 3 0 rfl rfl
                    have h3_1 := FC.out.c 3 1 rfl rfl
                    have hsub := HBD.out k9 hkl
                    obtain ⟨u, hu⟩ : ∃ u : Nat, k9 * CY.length = u := ⟨_, rfl⟩
                    obtain ⟨v, hv⟩ : ∃ v : Nat, (k9 + 1) * CY.length = v := ⟨_, rfl⟩
                    have huv : v = u + CY.length := by rw [← hv, ← hu, Nat.succ_mul]
                    have hvb : v ≤ BY.length := by rw [HBL.out, ← hv]; exact Nat.mul_le_mul_right _ hkl
                    have hb65 := HB65.out
                    have hcp : 1 ≤ CY.length := by have := goodB_prod HGD.out; have := HCL.out; omega
                    rw [hu] at hsub
                    have hku : ∀ [Inhabited Unit], wrap64 ((k9 : Int) * (CY.length : Int)) = (u : Int) := prodW2 hu (by omega)
                    have hkv : ∀ [Inhabited Unit], wrap64 (((k9 : Int) + 1) * (CY.length : Int)) = (v : Int) := prodW3 hv (by omega)
                    have hku2 : ∀ [Inhabited Unit], IntKind.i64.wrap ((k9 : Int) * (CY.length : Int)) = (u : Int) := prodK2 hu (by omega)
                    have hkv2 : ∀ [Inhabited Unit], IntKind.i64.wrap (((k9 : Int) + 1) * (CY.length : Int)) = (v : Int) := prodK3 hv (by omega)
                    have hkw : ∀ [Inhabited Unit], IntKind.i64.wrap ((k9 : Int) + 1) = (k9 : Int) + 1 := by intro _; exact IntWalk.i64_in _ (by omega)
                    clear hu hv
                    obtain ⟨gb9, hgb9, hcap⟩ : ∃ g, b9 = some ⟨g, 0, none⟩ ∧ BY.length ≤ d9 := row_cap (FC.out.r 6 rfl) (by show BY.length ≠ 0; omega)
                    subst hgb9
                    have hq := fun q => eqWords_any (some ⟨gb9, 0 + u, none⟩) b8 (d9 - u) d8 _ ((BY.drop u).take CY.length) CY (wl.drewN q) ((FC.out.drewN q).sub 6 rfl HWBY.out u CY.length (by omega)) ((FC.out.drewN q).li 4 (k := .i64) (xs := CY) rfl HWA.out)
                    rw [hsub] at hq
                    simp only [decide_true, Nat.zero_add] at hq
                    have g1_ : (u : Int) ≤ (v : Int) := by omega
                    have g2_ : (v : Int) ≤ (d9 : Int) := by omega
                    have g3_ : ¬ d9 = u := by omega
                    have g4_ : v - u = CY.length := by omega
                    have HQ := Lib.hid hq
                    clear hq hsub huv hvb hcap hcp
                    go_upto_region 19 with fail
                    go_quiet (first | (go_at_call 20; exact Calls.quiet_of (HQ.out _)))
                    have FD := Lib.hid (FC.out.drewN nq)
                    go_wp2
                    go_roundw
                    case rel => exact ⟨k9 + 1, by omega, by go_num, FD⟩
                    case measure => simp [intOf]; omega
                  · obtain rfl : k9 = nn := by omega
                    clear hkl hk9
                    have h0_0 := FC.out.c 0 0 rfl rfl
                    have h0_1 := FC.out.c 0 1 rfl rfl
                    have h0_2 := FC.out.c 0 2 rfl rfl
                    have h0_3 := FC.out.c 0 3 rfl rfl
                    have h0_4 := FC.out.c 0 4 rfl rfl
                    have h0_5 := FC.out.c 0 5 rfl rfl
                    have h0_6 := FC.out.c 0 6 rfl rfl
                    have h0_7 := FC.out.c 0 7 rfl rfl
                    have h0_8 := FC.out.c 0 8 rfl rfl
                    have h0_9 := FC.out.c 0 9 rfl rfl
                    have h0_10 := FC.out.c 0 10 rfl rfl
                    have HCT := Lib.hid (fun W (h : Ints .i64 W W.heap.size a sh) => rcount_any a c W.heap.size sh W h (goodB_dims HGD.out))
                    rw [show countE sh = (CY.length : Int) from HCW.out.1.symm] at HCT
                    obtain ⟨L, hL⟩ : ∃ L : Nat, CY.length = L := ⟨_, rfl⟩
                    go_upto_region 22 with (go_at_call 27; refine (HCT.out _ (FC.out.lw 0 rfl)).mono ?_; rintro e w' ⟨rfl, rfl⟩; skip)
                    have hL1 : 1 ≤ L ∧ L ≤ 65536 := by have := goodB_prod HGD.out; have := HCL.out; omega
                    obtain ⟨FLAT, hFL⟩ : ∃ x, [(L : Int)] = x := ⟨_, rfl⟩
                    have hfw : ∀ x ∈ FLAT, (Lit.int .i64 x).wf = true := by rw [← hFL]; intro x hx; simp at hx; subst hx; exact wf_i64_iff.2 ⟨by omega, by omega⟩
                    have hrf := fun (p : Option Addr) W (h : Ints .i64 W W.heap.size p FLAT) => rmay_any p 1 _ FLAT W h
                    rw [show FLAT.length = 1 by rw [← hFL]; rfl] at hrf
                    obtain ⟨XF, hXF⟩ : ∃ x, wl.heap.size = x := ⟨_, rfl⟩
                    rw [hXF]
                    have hlit := World.ownsRow_lit (base := wl.heap.size) (e := 3) (size := 1) wl #[Value.int .i64 (L : Int)] 1 (Nat.le_refl _) (by unfold maxLen; omega) (by simp)
                    have hfm : (#[Value.int .i64 (L : Int)] : Array Value).toList = FLAT.map (Value.int .i64) := by rw [← hFL]; rfl
                    rw [hfm] at hlit
                    have FD := Lib.hid (FC.out.addO ((Below.refl _ _).alloc (Nat.le_refl _) _) hlit)
                    rw [hXF] at FD
                    obtain ⟨WF, hWF⟩ : ∃ x, (wl.alloc (.cells #[Value.int .i64 (L : Int)] 3)) = x := ⟨_, rfl⟩
                    rw [hWF] at FD ⊢
                    simp only [List.cons_append, List.nil_append] at FD
                    have HFL := Lib.hid hFL
                    have HFW := Lib.hid hfw
                    have HL := Lib.hid hL
                    clear hlit hXF hWF hfm hFL hfw FC hL h0_0 h0_1 h0_2 h0_3 h0_4 h0_5 h0_6 h0_7 h0_8 h0_9 h0_10
                    cases hgf : goodB FLAT with
                    | false =>
                      rw [hgf] at hrf
                      clear hgf
                      go_wp2_with (go_at_call 31; refine (hrf _ _ (FD.out.li 7 (k := .i64) (xs := FLAT) rfl HFW.out)).mono ?_; rintro e w' ⟨rfl, rfl⟩)
                      go_roundw
                      case rel => exact ⟨k + 1, by omega, by go_num, HB.out.trans (FD.out.bel.mono HB.out.size)⟩
                      case measure => simp [intOf]; omega
                    | true =>
                      rw [hgf] at hrf
                      have hvp := viewB_plain HGD.out
                      have hvf := viewB_plain hgf
                      have hpf : prodI sh = prodI FLAT := by rw [← HFL.out, prodI, prodI, Int.mul_one, ← HL.out]; exact HCL.out.symm
                      have hz1 : rsZ sh (strI sh) 0 FLAT = 0 := by unfold rsZ plB; rw [hvp, hgf, hpf]; simp
                      have hz2 : rsZ FLAT (strI FLAT) 0 sh = 0 := by unfold rsZ plB; rw [hvf, HGD.out, hpf]; simp
                      have hof := fun W (h : Ints .i64 W W.heap.size a sh) => of_good a c sh W h HGD.out
                      have hr1 := fun (p q r : Option Addr) (cp cq cr : Nat) W (h : Ints .i64 W W.heap.size p sh) (h2 : Ints .i64 W W.heap.size q (strI sh)) (h3 : Ints .i64 W W.heap.size r FLAT) => vreshape_all p q r cp cq cr sh (strI sh) FLAT 0 W h h2 h3
                      simp only [hz1, okL_0] at hr1
                      have hr2 := fun (p q r : Option Addr) (cp cq cr : Nat) W (h : Ints .i64 W W.heap.size p FLAT) (h2 : Ints .i64 W W.heap.size q (strI FLAT)) (h3 : Ints .i64 W W.heap.size r sh) => vreshape_all p q r cp cq cr FLAT (strI FLAT) sh 0 W h h2 h3
                      simp only [hz2, okL_0] at hr2
                      have hw1 : ∀ x ∈ strI sh, (Lit.int .i64 x).wf = true := wf_dims fun x hx => by have := strI_mem (goodB_dims HGD.out) (goodB_prod HGD.out).2 x hx; omega
                      have hw2 : ∀ x ∈ strI FLAT, (Lit.int .i64 x).wf = true := wf_dims fun x hx => by have := strI_mem (goodB_dims hgf) (goodB_prod hgf).2 x hx; omega
                      obtain ⟨SI, hSI⟩ : ∃ x, strI sh = x := ⟨_, rfl⟩
                      obtain ⟨SF, hSF⟩ : ∃ x, strI FLAT = x := ⟨_, rfl⟩
                      rw [hSI] at hof hr1 hr2 hw1
                      rw [hSF] at hr1 hr2 hw2
                      have HOF := Lib.hid hof
                      have hr1b : ∀ (p q r : Option Addr) (cp cq : Nat) (W : World), Ints .i64 W W.heap.size p sh → Ints .i64 W W.heap.size q SI → Ints .i64 W W.heap.size r FLAT → Calls Try.prog 34 #[.agg #[.slice p sh.length cp, .slice q SI.length cq, .int .i64 0], .slice r 1 1] W (RetVE W FLAT SF 0 0) := fun p q r cp cq W h h2 h3 => by have h9 := hr1 p q r cp cq 1 W h h2 h3; rw [show FLAT.length = 1 by rw [← HFL.out]; rfl] at h9; exact h9
                      have HR1 := Lib.hid hr1b
                      have HR2 := Lib.hid hr2
                      have HSIW := Lib.hid hw1
                      have HSFW := Lib.hid hw2
                      clear hvp hvf hpf hz1 hz2 hof hr1 hr1b hr2 hw1 hw2 hSI hSF hgf
                      have h0_0 := FD.out.c 0 0 rfl rfl
                      have h0_1 := FD.out.c 0 1 rfl rfl
                      have h0_2 := FD.out.c 0 2 rfl rfl
                      have h0_3 := FD.out.c 0 3 rfl rfl
                      have h0_4 := FD.out.c 0 4 rfl rfl
                      have h0_5 := FD.out.c 0 5 rfl rfl
                      have h0_6 := FD.out.c 0 6 rfl rfl
                      have h0_7 := FD.out.c 0 7 rfl rfl
                      have h0_8 := FD.out.c 0 8 rfl rfl
                      have h0_9 := FD.out.c 0 9 rfl rfl
                      have h0_10 := FD.out.c 0 10 rfl rfl
                      go_upto_region 24 with (first | (go_at_call 31; refine (hrf _ _ (FD.out.li 7 (k := .i64) (xs := FLAT) rfl HFW.out)).mono ?_; rintro e w' ⟨rfl, rfl⟩) | (go_at_call 33; refine (HOF.out _ (FD.out.lw 0 rfl)).mono ?_; rintro e wA ⟨aA, cA, bA, dA, rfl, hf⟩; have FE := Lib.hid (FD.out.join hf); simp only [List.cons_append, List.nil_append] at FE; clear hf FD h0_0 h0_1 h0_2 h0_3 h0_4 h0_5 h0_6 h0_7 h0_8 h0_9 h0_10) | fail)
                      obtain ⟨XB, hXB⟩ : ∃ x, wA.heap.size = x := ⟨_, rfl⟩
                      rw [hXB]
                      have FF := Lib.hid (FE.out.box1 (b := XB) hXB [.slice aA sh.length cA, .slice bA SI.length dA, .int .i64 0] 25)
                      simp only [List.nil_append, List.cons_append] at FF
                      obtain ⟨WB, hWB⟩ : ∃ x, (wA.alloc (.cells #[.slice aA sh.length cA, .slice bA SI.length dA, .int .i64 0] 25)) = x := ⟨_, rfl⟩
                      rw [hWB] at FF ⊢
                      clear hWB hXB FE
                      have g4_0 := FF.out.c 4 0 rfl rfl
                      have g4_1 := FF.out.c 4 1 rfl rfl
                      have g4_2 := FF.out.c 4 2 rfl rfl
                      go_upto_region 25 with (go_at_call 34; refine (HR1.out aA bA _ cA dA _ (FF.out.li 8 (k := .i64) (xs := sh) rfl HSW.out) (FF.out.li 9 (k := .i64) (xs := SI) rfl HSIW.out) (FF.out.li 7 (k := .i64) (xs := FLAT) rfl HFW.out)).mono ?_; rintro e wC ⟨aC, cC, bC, dC, rfl, hf⟩; have FG := Lib.hid (FF.out.join hf); simp only [List.cons_append, List.nil_append] at FG; clear hf FF g4_0 g4_1 g4_2)
                      obtain ⟨XD, hXD⟩ : ∃ x, wC.heap.size = x := ⟨_, rfl⟩
                      rw [hXD]
                      have FH := Lib.hid (FG.out.box1 (b := XD) hXD [.slice aC FLAT.length cC, .slice bC SF.length dC, .int .i64 0] 25)
                      simp only [List.nil_append, List.cons_append] at FH
                      obtain ⟨WD, hWD⟩ : ∃ x, (wC.alloc (.cells #[.slice aC FLAT.length cC, .slice bC SF.length dC, .int .i64 0] 25)) = x := ⟨_, rfl⟩
                      rw [hWD] at FH ⊢
                      clear hWD hXD FG
                      have g0_0 := FH.out.c 0 0 rfl rfl
                      have g0_1 := FH.out.c 0 1 rfl rfl
                      have g0_2 := FH.out.c 0 2 rfl rfl
                      have g0_3 := FH.out.c 0 3 rfl rfl
                      have g0_4 := FH.out.c 0 4 rfl rfl
                      have g0_5 := FH.out.c 0 5 rfl rfl
                      have g0_6 := FH.out.c 0 6 rfl rfl
                      have g0_7 := FH.out.c 0 7 rfl rfl
                      have g0_8 := FH.out.c 0 8 rfl rfl
                      have g0_9 := FH.out.c 0 9 rfl rfl
                      have g0_10 := FH.out.c 0 10 rfl rfl
                      have g5_0 := FH.out.c 5 0 rfl rfl
                      have g5_1 := FH.out.c 5 1 rfl rfl
                      have g5_2 := FH.out.c 5 2 rfl rfl
                      go_upto_region 26 with (go_at_call 34; refine (HR2.out aC bC a cC dC c _ (FH.out.li 10 (k := .i64) (xs := FLAT) rfl HFW.out) (FH.out.li 11 (k := .i64) (xs := SF) rfl HSFW.out) (FH.out.lw 0 rfl)).mono ?_; rintro e wE ⟨aE, cE, bE, dE, rfl, hf⟩; have FI := Lib.hid (FH.out.join hf); simp only [List.cons_append, List.nil_append] at FI; clear hf FH g0_0 g0_1 g0_2 g0_3 g0_4 g0_5 g0_6 g0_7 g0_8 g0_9 g0_10 g5_0 g5_1 g5_2)
                      obtain ⟨XG, hXG⟩ : ∃ x, wE.heap.size = x := ⟨_, rfl⟩
                      rw [hXG]
                      have FJ := Lib.hid (FI.out.box1 (b := XG) hXG [.slice aE sh.length cE, .slice bE SI.length dE, .int .i64 0] 25)
                      simp only [List.nil_append, List.cons_append] at FJ
                      obtain ⟨WG, hWG⟩ : ∃ x, (wE.alloc (.cells #[.slice aE sh.length cE, .slice bE SI.length dE, .int .i64 0] 25)) = x := ⟨_, rfl⟩
                      rw [hWG] at FJ ⊢
                      clear hWG hXG FI
                      have g4_0 := FJ.out.c 4 0 rfl rfl
                      have g4_1 := FJ.out.c 4 1 rfl rfl
                      have g4_2 := FJ.out.c 4 2 rfl rfl
                      have g6_0 := FJ.out.c 6 0 rfl rfl
                      have g6_1 := FJ.out.c 6 1 rfl rfl
                      have g6_2 := FJ.out.c 6 2 rfl rfl
                      have hev := eqView_any aE bE aA bA cE dE cA dA sh SI sh SI 0 0 WG (FJ.out.li 12 (k := .i64) (xs := sh) rfl HSW.out) (FJ.out.li 13 (k := .i64) (xs := SI) rfl HSIW.out) (FJ.out.li 8 (k := .i64) (xs := sh) rfl HSW.out) (FJ.out.li 9 (k := .i64) (xs := SI) rfl HSIW.out)
                      simp only [decide_true, Bool.and_true] at hev
                      have HEV := Lib.hid hev
                      clear hev
                      go_wp2_with (first | (go_at_call 18; refine (num7_any _ _).mono ?_; rintro e w' ⟨rfl, rfl⟩) | (go_at_call 26; refine (HEV.out).mono ?_; rintro e wH ⟨rfl, hb⟩; have FK := Lib.hid (FJ.out.next hb); clear hb FJ g4_0 g4_1 g4_2 g6_0 g6_1 g6_2) | fail)
                      go_roundw
                      case rel => exact ⟨k + 1, by omega, by go_num, HB.out.trans (FK.out.bel.mono HB.out.size)⟩
                      case measure => simp [intOf]; omega
    · have HB := Lib.hid hbel
      clear hbel h
      have WK := fun W => Lib.hid (wakes7_any W)
      by_cases hlt : k < n
      · have hk15 : ¬ (k : Int) < 15 := by omega
        have hkn : (k : Int) < n := by omega
        go_wp2_with (go_at_call 23; refine ((WK _).out).mono ?_; rintro e w1 ⟨rfl, hb⟩; have HW1 := Lib.hid hb; clear hb)
        go_ret
        exact ⟨rfl, HB.out.trans (HW1.out.mono HB.out.size)⟩
      · obtain rfl : k = n := by omega
        go_wp2_with (go_at_call 23; refine ((WK _).out).mono ?_; rintro e w1 ⟨rfl, hb⟩; have HW1 := Lib.hid hb; clear hb)
        go_ret
        exact ⟨rfl, HB.out.trans (HW1.out.mono HB.out.size)⟩
end Go.Proofs.Ytnafbgkfhojamaa
