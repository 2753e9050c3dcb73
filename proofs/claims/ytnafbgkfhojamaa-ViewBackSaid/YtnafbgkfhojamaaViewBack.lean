/- The law ViewBack, walked. -/
import Derived.Test.YtnafbgkfhojamaaViewBT
set_option linter.unusedVariables false
set_option linter.unusedSimpArgs false
namespace Go.Proofs.Ytnafbgkfhojamaa
open Go.RowKit Go.Rt
theorem infoInt7 : (Try.prog.info? 3).map (fun i => (i.zero, i.size, i.bytes)) = some (some (.int .i64 0), 1, 8) := by kernel_rfl
set_option maxRecDepth 100000 in
set_option maxHeartbeats 8000000 in
theorem viewBack_any (q : Option Addr) (n c0 : Nat) (w : World) (h : AsksAt w w.heap.size q n) :
    Calls Try.prog 4 #[.slice q n c0] w fun e w' => e = .returned (.bool true) ∧ Below w.heap.size w w' := by
  have hm := h.len
  go_enter Try.func4, Try.ntmps4
  go_wp2_with fail
  go_loopw [3] (fun i wr => ∃ k : Nat, k ≤ n ∧ i = .int .i64 k ∧ Below w.heap.size w wr) (fun i _ => n - (intOf i).toNat)
  case atStart => exact ⟨0, Nat.zero_le _, rfl, Below.refl _ _⟩
  case round =>
    obtain ⟨k, hk, rfl, hbel⟩ := hrel
    obtain ⟨wo, rfl⟩ : ∃ wo : World, wo = wr := ⟨_, rfl⟩
    by_cases hend : k < n ∧ k < 15
    · obtain ⟨hlt, h20⟩ := hend
      obtain ⟨b0, o_, rfl, a, b, ad, ax, as_, tp, tq, c, d, cd, cx, cs, cp, cq, sh, st, data, axs, ss, tsh, tys, off, p1, p2, p3, ht⟩ := h.at_ k hlt
      replace ht := ht.below hbel
      have hsz := hbel.size
      have HB := Lib.hid hbel
      have hl1 := ht.iS.len
      have hl2 := ht.iT.len
      have hl3 := ht.iD.len
      have hl4 := ht.iX.len
      have hl5 := ht.iG.len
      have hl6 := ht.iP.len
      have hl7 := ht.iQ.len
      clear hbel h
      have HI0 := Lib.hid (ht.iS.mono hsz)
      have HI1 := Lib.hid (ht.iT.mono hsz)
      have HI2 := Lib.hid (ht.iD.mono hsz)
      have HI3 := Lib.hid (ht.iX.mono hsz)
      have hhv := fun W (h : Ints .i64 W W.heap.size a sh) => heavy7_any a b ad ax as_ tp tq c d cd cx cs cp cq sh st data axs ss tsh tys off p1 p2 p3 W h hl3 hl4 hl5 hl6 hl7
      have q0 := ht.cell 0 _ rfl
      have q1 := ht.cell 1 _ rfl
      have q2 := ht.cell 2 _ rfl
      have q3 := ht.cell 3 _ rfl
      have q4 := ht.cell 4 _ rfl
      have q5 := ht.cell 5 _ rfl
      have q6 := ht.cell 6 _ rfl
      have q7 := ht.cell 7 _ rfl
      have q8 := ht.cell 8 _ rfl
      have q9 := ht.cell 9 _ rfl
      have q10 := ht.cell 10 _ rfl
      simp only [Nat.add_zero] at q0
      have HP1 := Lib.hid ht.r1
      have HP2 := Lib.hid ht.r2
      clear ht
      cases hv : heavy7 sh data.length tsh.length tys.length ss.length axs.length with
      | true =>
        rw [hv] at hhv
        clear hv
        have F1 := Lib.hid ((Fr.start (w := wo) (I := [(.i64, a, sh), (.i64, b, st), (.i64, ad, data), (.i64, ax, axs)]) (by intro z hz; simp at hz; rcases hz with rfl | rfl | rfl | rfl; exact HI0.out; exact HI1.out; exact HI2.out; exact HI3.out)).box1 (b := wo.heap.size) rfl [.slice a sh.length c, .slice b st.length d, .int .i64 off, .slice ad data.length cd, .slice ax axs.length cx, .slice as_ ss.length cs, .int .i64 p1, .int .i64 p2, .int .i64 p3, .slice tp tsh.length cp, .slice tq tys.length cq] 30)
        simp only [List.nil_append] at F1
        go_upto_region 5 with fail
        obtain ⟨W1, hW1⟩ : ∃ W1, wo.alloc (.cells #[.slice a sh.length c, .slice b st.length d, .int .i64 off, .slice ad data.length cd, .slice ax axs.length cx, .slice as_ ss.length cs, .int .i64 p1, .int .i64 p2, .int .i64 p3, .slice tp tsh.length cp, .slice tq tys.length cq] 30) = W1 := ⟨_, rfl⟩
        rw [hW1] at F1 ⊢
        clear hW1 q0 q1 q2 q3 q4 q5 q6 q7 q8 q9 q10
        have c0_0 := F1.out.c 0 0 rfl rfl
        have c0_1 := F1.out.c 0 1 rfl rfl
        have c0_2 := F1.out.c 0 2 rfl rfl
        have c0_3 := F1.out.c 0 3 rfl rfl
        have c0_4 := F1.out.c 0 4 rfl rfl
        have c0_5 := F1.out.c 0 5 rfl rfl
        have c0_6 := F1.out.c 0 6 rfl rfl
        have c0_7 := F1.out.c 0 7 rfl rfl
        have c0_8 := F1.out.c 0 8 rfl rfl
        have c0_9 := F1.out.c 0 9 rfl rfl
        have c0_10 := F1.out.c 0 10 rfl rfl
        go_wp2_with (go_at_call 7; refine (hhv W1 (F1.out.lw 0 rfl)).mono ?_; rintro e w2 ⟨rfl, hb⟩; have F2 := Lib.hid (F1.out.next hb); clear hb)
        go_ret
        exact ⟨rfl, HB.out.trans (F2.out.bel.mono HB.out.size)⟩
      | false =>
        rw [hv] at hhv
        obtain ⟨g1, g2, g3, g4, g5, g6, g7⟩ := heavy7_no hv
        clear hv g7
        have F1 := Lib.hid ((Fr.start (w := wo) (I := [(.i64, a, sh), (.i64, b, st), (.i64, ad, data), (.i64, ax, axs)]) (by intro z hz; simp at hz; rcases hz with rfl | rfl | rfl | rfl; exact HI0.out; exact HI1.out; exact HI2.out; exact HI3.out)).box1 (b := wo.heap.size) rfl [.slice a sh.length c, .slice b st.length d, .int .i64 off, .slice ad data.length cd, .slice ax axs.length cx, .slice as_ ss.length cs, .int .i64 p1, .int .i64 p2, .int .i64 p3, .slice tp tsh.length cp, .slice tq tys.length cq] 30)
        simp only [List.nil_append] at F1
        go_upto_region 5 with fail
        obtain ⟨W1, hW1⟩ : ∃ W1, wo.alloc (.cells #[.slice a sh.length c, .slice b st.length d, .int .i64 off, .slice ad data.length cd, .slice ax axs.length cx, .slice as_ ss.length cs, .int .i64 p1, .int .i64 p2, .int .i64 p3, .slice tp tsh.length cp, .slice tq tys.length cq] 30) = W1 := ⟨_, rfl⟩
        rw [hW1] at F1 ⊢
        clear hW1 q0 q1 q2 q3 q4 q5 q6 q7 q8 q9 q10
        have c0_0 := F1.out.c 0 0 rfl rfl
        have c0_1 := F1.out.c 0 1 rfl rfl
        have c0_2 := F1.out.c 0 2 rfl rfl
        have c0_3 := F1.out.c 0 3 rfl rfl
        have c0_4 := F1.out.c 0 4 rfl rfl
        have c0_5 := F1.out.c 0 5 rfl rfl
        have c0_6 := F1.out.c 0 6 rfl rfl
        have c0_7 := F1.out.c 0 7 rfl rfl
        have c0_8 := F1.out.c 0 8 rfl rfl
        have c0_9 := F1.out.c 0 9 rfl rfl
        have c0_10 := F1.out.c 0 10 rfl rfl
        go_upto_region 7 with (go_at_call 7; refine (hhv W1 (F1.out.lw 0 rfl)).mono ?_; rintro e w2 ⟨rfl, hb⟩; have F2 := Lib.hid (F1.out.next hb); clear hb F1 c0_0 c0_1 c0_2 c0_3 c0_4 c0_5 c0_6 c0_7 c0_8 c0_9 c0_10; have d0_0 := F2.out.c 0 0 rfl rfl; have d0_1 := F2.out.c 0 1 rfl rfl; have d0_2 := F2.out.c 0 2 rfl rfl; have d0_3 := F2.out.c 0 3 rfl rfl; have d0_4 := F2.out.c 0 4 rfl rfl; have d0_5 := F2.out.c 0 5 rfl rfl; have d0_6 := F2.out.c 0 6 rfl rfl; have d0_7 := F2.out.c 0 7 rfl rfl; have d0_8 := F2.out.c 0 8 rfl rfl; have d0_9 := F2.out.c 0 9 rfl rfl; have d0_10 := F2.out.c 0 10 rfl rfl)
        have hmv := fun W (h : Ints .i64 W W.heap.size a sh) (h2 : Ints .i64 W W.heap.size b st) => mayView_any a b c d W.heap.size sh st off (data.length : Int) W h h2 (Nat.le_refl _)
        have hwd := fun W (h : Ints .i64 W W.heap.size ad data) => words_any ad cd W.heap.size data W h
        have hxs := fun W (h : Ints .i64 W W.heap.size ax axs) => axes_any ax cx W.heap.size axs sh.length W h (by omega)
        obtain ⟨vb, hvb⟩ : ∃ x, viewB sh st off data.length = x := ⟨_, rfl⟩
        obtain ⟨wb, hwb⟩ : ∃ x, data.all isW = x := ⟨_, rfl⟩
        obtain ⟨xb, hxb⟩ : ∃ x, axesB axs sh.length = x := ⟨_, rfl⟩
        rw [hvb] at hmv
        rw [hwb] at hwd
        rw [hxb] at hxs
        have HVB := Lib.hid hvb
        have HWB := Lib.hid hwb
        have HXB := Lib.hid hxb
        clear hvb hwb hxb
        go_cut [61] from 39 to 61 (fun s61 wx => ∃ q : Bool, s61 = .bool q ∧ Hid (q = !(vb && (wb && xb))) ∧ Hid (Fr wo.heap.size wo wx [(wo.heap.size, [.slice a sh.length c, .slice b st.length d, .int .i64 off, .slice ad data.length cd, .slice ax axs.length cx, .slice as_ ss.length cs, .int .i64 p1, .int .i64 p2, .int .i64 p3, .slice tp tsh.length cp, .slice tq tys.length cq])] [(.i64, a, sh), (.i64, b, st), (.i64, ad, data), (.i64, ax, axs)] [] []))
        case first =>
          cases vb with
          | false =>
            go_wp2_with (go_at_call 8; refine (hmv _ (F2.out.lw 0 rfl) (F2.out.lw 1 rfl)).mono ?_; rintro e w3 ⟨rfl, hb⟩; have F3 := Lib.hid (F2.out.next hb); clear hb F2 d0_0 d0_1 d0_2 d0_3 d0_4 d0_5 d0_6 d0_7 d0_8 d0_9 d0_10; have e0_0 := F3.out.c 0 0 rfl rfl; have e0_1 := F3.out.c 0 1 rfl rfl; have e0_2 := F3.out.c 0 2 rfl rfl; have e0_3 := F3.out.c 0 3 rfl rfl; have e0_4 := F3.out.c 0 4 rfl rfl; have e0_5 := F3.out.c 0 5 rfl rfl; have e0_6 := F3.out.c 0 6 rfl rfl; have e0_7 := F3.out.c 0 7 rfl rfl; have e0_8 := F3.out.c 0 8 rfl rfl; have e0_9 := F3.out.c 0 9 rfl rfl; have e0_10 := F3.out.c 0 10 rfl rfl)
            go_meet
            exact ⟨true, rfl, Lib.hid rfl, F3⟩
          | true =>
            cases wb with
            | false =>
              go_wp2_with (first | (go_at_call 8; refine (hmv _ (F2.out.lw 0 rfl) (F2.out.lw 1 rfl)).mono ?_; rintro e w3 ⟨rfl, hb⟩; have F3 := Lib.hid (F2.out.next hb); clear hb F2 d0_0 d0_1 d0_2 d0_3 d0_4 d0_5 d0_6 d0_7 d0_8 d0_9 d0_10; have e0_0 := F3.out.c 0 0 rfl rfl; have e0_1 := F3.out.c 0 1 rfl rfl; have e0_2 := F3.out.c 0 2 rfl rfl; have e0_3 := F3.out.c 0 3 rfl rfl; have e0_4 := F3.out.c 0 4 rfl rfl; have e0_5 := F3.out.c 0 5 rfl rfl; have e0_6 := F3.out.c 0 6 rfl rfl; have e0_7 := F3.out.c 0 7 rfl rfl; have e0_8 := F3.out.c 0 8 rfl rfl; have e0_9 := F3.out.c 0 9 rfl rfl; have e0_10 := F3.out.c 0 10 rfl rfl) | (go_at_call 9; refine (hwd _ (F3.out.lw 2 rfl)).mono ?_; rintro e w' ⟨rfl, rfl⟩; skip))
              go_meet
              exact ⟨true, rfl, Lib.hid rfl, F3⟩
            | true =>
              go_wp2_with (first | (go_at_call 8; refine (hmv _ (F2.out.lw 0 rfl) (F2.out.lw 1 rfl)).mono ?_; rintro e w3 ⟨rfl, hb⟩; have F3 := Lib.hid (F2.out.next hb); clear hb F2 d0_0 d0_1 d0_2 d0_3 d0_4 d0_5 d0_6 d0_7 d0_8 d0_9 d0_10; have e0_0 := F3.out.c 0 0 rfl rfl; have e0_1 := F3.out.c 0 1 rfl rfl; have e0_2 := F3.out.c 0 2 rfl rfl; have e0_3 := F3.out.c 0 3 rfl rfl; have e0_4 := F3.out.c 0 4 rfl rfl; have e0_5 := F3.out.c 0 5 rfl rfl; have e0_6 := F3.out.c 0 6 rfl rfl; have e0_7 := F3.out.c 0 7 rfl rfl; have e0_8 := F3.out.c 0 8 rfl rfl; have e0_9 := F3.out.c 0 9 rfl rfl; have e0_10 := F3.out.c 0 10 rfl rfl) | (go_at_call 9; refine (hwd _ (F3.out.lw 2 rfl)).mono ?_; rintro e w' ⟨rfl, rfl⟩; skip) | (go_at_call 24; refine (hxs _ (F3.out.lw 3 rfl)).mono ?_; rintro e w' ⟨rfl, rfl⟩; skip))
              go_meet
              exact ⟨!xb, by first | rfl | simp, Lib.hid (by cases xb <;> rfl), F3⟩
        case rest =>
          obtain ⟨q1, rfl, HQ1, F3⟩ := hcut
          clear F2 hmv hwd hxs d0_0 d0_1 d0_2 d0_3 d0_4 d0_5 d0_6 d0_7 d0_8 d0_9 d0_10
          cases q1 with
          | true =>
            go_wp2
            go_roundw
            case rel => exact ⟨k + 1, by omega, by go_num, HB.out.trans (F3.out.bel.mono HB.out.size)⟩
            case measure => simp [intOf]; omega
          | false =>
            have hq1 : vb = true ∧ wb = true ∧ xb = true := by have := HQ1.out; revert this; cases vb <;> cases wb <;> cases xb <;> simp
            obtain ⟨rfl, rfl, rfl⟩ := hq1
            have hON0 : Once sh.length axs := axesB_once.1 HXB.out
            have hAL : axs.length = sh.length := once_len hON0
            have HON := Lib.hid hON0
            have HAL := Lib.hid hAL
            have hON2 : Once axs.length axs := by rw [hAL]; exact hON0
            have HONA := Lib.hid hON2
            have HV6 := Lib.hid (view_up HVB.out)
            have hcw := count_words (data := data) HVB.out
            have hSTL := (viewB_iff.1 HVB.out).2.1
            have HSTL := Lib.hid hSTL
            have HSW := Lib.hid HI0.out.wf
            have HTW := Lib.hid HI1.out.wf
            have HDW := Lib.hid HI2.out.wf
            clear hON0 hAL hON2 HQ1 hSTL
            have e0_0 := F3.out.c 0 0 rfl rfl
            have e0_1 := F3.out.c 0 1 rfl rfl
            have e0_2 := F3.out.c 0 2 rfl rfl
            have e0_3 := F3.out.c 0 3 rfl rfl
            have e0_4 := F3.out.c 0 4 rfl rfl
            have e0_5 := F3.out.c 0 5 rfl rfl
            have e0_6 := F3.out.c 0 6 rfl rfl
            have e0_7 := F3.out.c 0 7 rfl rfl
            have e0_8 := F3.out.c 0 8 rfl rfl
            have e0_9 := F3.out.c 0 9 rfl rfl
            have e0_10 := F3.out.c 0 10 rfl rfl
            go_upto_region 9 with (at_make; (refine wpl_makeV 23 3 (.int .i64 0) 8 (by omega) rfl infoInt7 Try.underlying23 wc.heap.size axs.length _ _ _ _ rfl rfl rfl rfl rfl rfl (by omega) (Nat.le_refl _) ?_); intro w4 hown hgrow hsz4; have F4 := Lib.hid (F3.out.addO (hgrow _ (Nat.le_refl _)) hown); clear hown hgrow F3 hsz4 e0_0 e0_1 e0_2 e0_3 e0_4 e0_5 e0_6 e0_7 e0_8 e0_9 e0_10)
            obtain ⟨gb, hgb⟩ : ∃ x, wc.heap.size = x := ⟨_, rfl⟩
            simp only [hgb, List.nil_append, List.cons_append] at F4
            (try simp only [hgb])
            clear hgb
            have F4 : Hid (Fr wo.heap.size wo w4 [(wo.heap.size, [.slice a sh.length c, .slice b st.length d, .int .i64 off, .slice ad data.length cd, .slice ax axs.length cx, .slice as_ ss.length cs, .int .i64 p1, .int .i64 p2, .int .i64 p3, .slice tp tsh.length cp, .slice tq tys.length cq])] [(.i64, a, sh), (.i64, b, st), (.i64, ad, data), (.i64, ax, axs)] [⟨3, .slice (some ⟨gb, 0, none⟩) axs.length axs.length, axs.length, (List.replicate axs.length 0).map (Value.int .i64)⟩] []) := Lib.hid (by have h9 := F4.out; rw [← List.map_replicate] at h9; exact h9)
            go_wp2_with fail
            go_loopw [6] (fun j wr => ∃ (i : Nat) (bk : List Int), i ≤ axs.length ∧ j = .int .i64 i ∧ Hid (BackK axs bk i) ∧ Hid (Fr wo.heap.size wo wr [(wo.heap.size, [.slice a sh.length c, .slice b st.length d, .int .i64 off, .slice ad data.length cd, .slice ax axs.length cx, .slice as_ ss.length cs, .int .i64 p1, .int .i64 p2, .int .i64 p3, .slice tp tsh.length cp, .slice tq tys.length cq])] [(.i64, a, sh), (.i64, b, st), (.i64, ad, data), (.i64, ax, axs)] [⟨3, .slice (some ⟨gb, 0, none⟩) axs.length axs.length, axs.length, (bk).map (Value.int .i64)⟩] [])) (fun j _ => axs.length - (intOf j).toNat)
            case atStart => exact ⟨0, List.replicate axs.length 0, Nat.zero_le _, rfl, Lib.hid (backK_zero axs), F4⟩
            case round =>
              obtain ⟨i, bk, hi, rfl, HBK, F5⟩ := hrel
              clear F4
              obtain ⟨w5, rfl⟩ : ∃ w5 : World, w5 = wr := ⟨_, rfl⟩
              have f0_0 := F5.out.c 0 0 rfl rfl
              have f0_1 := F5.out.c 0 1 rfl rfl
              have f0_2 := F5.out.c 0 2 rfl rfl
              have f0_3 := F5.out.c 0 3 rfl rfl
              have f0_4 := F5.out.c 0 4 rfl rfl
              have f0_5 := F5.out.c 0 5 rfl rfl
              have f0_6 := F5.out.c 0 6 rfl rfl
              have f0_7 := F5.out.c 0 7 rfl rfl
              have f0_8 := F5.out.c 0 8 rfl rfl
              have f0_9 := F5.out.c 0 9 rfl rfl
              have f0_10 := F5.out.c 0 10 rfl rfl
              by_cases hix : i < axs.length
              · skip
                have hpos := once_at HONA.out hix
                obtain ⟨z, hz⟩ : ∃ z : Nat, axs[i] = z := ⟨axs[i].toNat, by omega⟩
                have hBK2 := backK_succ HONA.out hix g6 HBK.out
                rw [hz] at hpos hBK2
                rw [Int.toNat_natCast] at hBK2
                have hzl : z < bk.length := by rw [HBK.out.1]; omega
                have hzl2 : z < axs.length := by omega
                have HBK2 := Lib.hid hBK2
                clear hBK2
                have hget : (bk.map (Value.int .i64))[z]? = some (.int .i64 bk[z]) := by rw [List.getElem?_map, List.getElem?_eq_getElem hzl]; rfl
                obtain ⟨t1, t2⟩ := F5.out.rc 0 z rfl hget
                clear hget
                have F6 := Lib.hid (F5.out.put 0 z rfl (.int .i64 i))
                simp only [List.set_cons_zero] at F6
                rw [← List.map_set] at F6
                obtain ⟨gx, ox, hax, hlb, hcd⟩ := (F5.out.l 3 rfl).cell i hix
                rw [List.getElem?_eq_getElem hix, hz] at hcd
                simp only [Option.getD_some] at hcd
                subst hax
                clear hz hpos F5
                go_wp2
                go_roundw
                case rel => exact ⟨i + 1, bk.set z i, by omega, by go_num, HBK2, F6⟩
                case measure => simp [intOf]; omega
              · obtain rfl : i = axs.length := by omega
                have HBA := Lib.hid (backK_axes HONA.out HBK.out)
                have HBW := Lib.hid (backK_wf HBK.out)
                have hbl := HBK.out.1
                have HBL := Lib.hid hbl
                have HPB := Lib.hid (fun (xs : List Int) (hx : xs.length = axs.length) => permL_back (xs := xs) (axs := axs) (bk := bk) (by rw [hx]; exact HONA.out) (by rw [hx]; exact hbl) (fun k hk => HBK.out.2.1 k hk hk))
                clear hbl hi
                obtain ⟨PS, hPS⟩ : ∃ x, permL sh axs = x := ⟨_, rfl⟩
                obtain ⟨PT, hPT⟩ : ∃ x, permL st axs = x := ⟨_, rfl⟩
                have hPSl : PS.length = axs.length := by rw [← hPS, permL_len]
                have hPTl : PT.length = axs.length := by rw [← hPT, permL_len]
                have hVP : viewB PS PT off 65536 = true := by rw [← hPS, ← hPT]; exact viewB_permL HON.out HV6.out
                have hb1_ : permL PS bk = sh := by rw [← hPS]; exact HPB.out sh HAL.out.symm
                have hb2_ : permL PT bk = st := by rw [← hPT]; exact HPB.out st (by rw [HAL.out]; exact HSTL.out)
                have hPSW : ∀ x ∈ PS, (Lit.int .i64 x).wf = true := by rw [← hPS]; exact permL_wf HSW.out
                have hPTW : ∀ x ∈ PT, (Lit.int .i64 x).wf = true := by rw [← hPT]; exact permL_wf HTW.out
                have HT1 := Lib.hid (fun W (h : Ints .i64 W W.heap.size a sh) (h2 : Ints .i64 W W.heap.size b st) (h3 : Ints .i64 W W.heap.size ax axs) => vtrans_good a b ax c d cx sh st axs off W h h2 h3 HV6.out HXB.out)
                rw [hPS, hPT] at HT1
                have HT2 := Lib.hid (fun (p q r : Option Addr) (cp cq : Nat) W (h : Ints .i64 W W.heap.size p PS) (h2 : Ints .i64 W W.heap.size q PT) (h3 : Ints .i64 W W.heap.size r bk) => vtrans_good p q r cp cq axs.length PS PT bk off W h h2 h3 hVP (by rw [hPSl]; exact HBA.out))
                rw [hb1_, hb2_] at HT2
                rw [HBL.out] at HT2
                skip
                have HPSW := Lib.hid hPSW
                have HPTW := Lib.hid hPTW
                clear hPS hPT hPSl hPTl hVP hb1_ hb2_ hPSW hPTW HPB HBA
                go_upto_region 14 with (go_at_call 25; refine (HT1.out w5 (F5.out.lw 0 rfl) (F5.out.lw 1 rfl) (F5.out.lw 3 rfl)).mono ?_; rintro e w6 ⟨a6, c6, b6, d6, rfl, hf⟩; have F6 := Lib.hid (F5.out.join hf); simp only [List.cons_append, List.nil_append] at F6; clear hf F5 f0_0 f0_1 f0_2 f0_3 f0_4 f0_5 f0_6 f0_7 f0_8 f0_9 f0_10)
                obtain ⟨X7, hX7⟩ : ∃ x, w6.heap.size = x := ⟨_, rfl⟩
                rw [hX7]
                have F7 := Lib.hid (F6.out.box1 (b := X7) hX7 [.slice a6 PS.length c6, .slice b6 PT.length d6, .int .i64 off] 25)
                simp only [List.nil_append, List.cons_append] at F7
                obtain ⟨W7, hW7⟩ : ∃ x, (w6.alloc (.cells #[.slice a6 PS.length c6, .slice b6 PT.length d6, .int .i64 off] 25)) = x := ⟨_, rfl⟩
                rw [hW7] at F7 ⊢
                clear hW7 hX7 F6
                have g1_0 := F7.out.c 1 0 rfl rfl
                have g1_1 := F7.out.c 1 1 rfl rfl
                have g1_2 := F7.out.c 1 2 rfl rfl
                have hli := F7.out.li 0 (k := .i64) (xs := bk) rfl HBW.out
                have HLI := Lib.hid hli
                clear hli
                skip
                go_upto_region 15 with (go_at_call 25; refine (HT2.out _ _ _ c6 d6 W7 (F7.out.li 1 (k := .i64) (xs := PS) rfl HPSW.out) (F7.out.li 2 (k := .i64) (xs := PT) rfl HPTW.out) HLI.out).mono ?_; rintro e w8 ⟨a8, c8, b8, d8, rfl, hf⟩; have F8 := Lib.hid (F7.out.join hf); simp only [List.cons_append, List.nil_append] at F8; clear hf HLI F7 g1_0 g1_1 g1_2)
                obtain ⟨X9, hX9⟩ : ∃ x, w8.heap.size = x := ⟨_, rfl⟩
                rw [hX9]
                have F9 := Lib.hid (F8.out.box1 (b := X9) hX9 [.slice a8 sh.length c8, .slice b8 st.length d8, .int .i64 off] 25)
                simp only [List.nil_append, List.cons_append] at F9
                obtain ⟨W9, hW9⟩ : ∃ x, (w8.alloc (.cells #[.slice a8 sh.length c8, .slice b8 st.length d8, .int .i64 off] 25)) = x := ⟨_, rfl⟩
                rw [hW9] at F9 ⊢
                clear hW9 hX9 F8
                have g0_0 := F9.out.c 0 0 rfl rfl
                have g0_1 := F9.out.c 0 1 rfl rfl
                have g0_2 := F9.out.c 0 2 rfl rfl
                have g0_3 := F9.out.c 0 3 rfl rfl
                have g0_4 := F9.out.c 0 4 rfl rfl
                have g0_5 := F9.out.c 0 5 rfl rfl
                have g0_6 := F9.out.c 0 6 rfl rfl
                have g0_7 := F9.out.c 0 7 rfl rfl
                have g0_8 := F9.out.c 0 8 rfl rfl
                have g0_9 := F9.out.c 0 9 rfl rfl
                have g0_10 := F9.out.c 0 10 rfl rfl
                have HGD := Lib.hid (viewB_iff.1 HV6.out).1
                have HVW := Lib.hid (wordsV_isW (sh := sh) (st := st) (off := off) HWB.out)
                have HCL := Lib.hid (words_prod (data := data) HVB.out)
                have HCWF := Lib.hid (wordsV_wf (sh := sh) (st := st) (off := off) HDW.out)
                have hlayr : layZ sh st off = 0 → layR sh st off (wordsV sh st off data) data = data := fun h => layR_words HVB.out h
                have hlayw := Lib.hid (layR_wf (sh := sh) (st := st) (off := off) (ys := wordsV sh st off data) HDW.out HCWF.out)
                have HSLAB := Lib.hid (fun (a : Nat) (k : Nat) (ha : a < sh.length) (hk : (k : Int) < sh[a]) => slab (data := data) HVB.out ha hk)
                obtain ⟨CY, hCY⟩ : ∃ x, wordsV sh st off data = x := ⟨_, rfl⟩
                have HCOPY := Lib.hid (fun W (h : Ints .i64 W W.heap.size a sh) (h2 : Ints .i64 W W.heap.size b st) (h3 : Ints .i64 W W.heap.size ad data) => vcopy_good a b ad c d cd sh st data off W h h2 h3 HVB.out HWB.out)
                rw [hCY] at HVW HCL HCWF hlayr hlayw HSLAB HCOPY hcw
                obtain ⟨LR, hLR⟩ : ∃ x, layR sh st off CY data = x := ⟨_, rfl⟩
                obtain ⟨LZ, hLZ⟩ : ∃ x, layZ sh st off = x := ⟨_, rfl⟩
                have HLAY := Lib.hid (fun (p q : Option Addr) (cp cq : Nat) W (h : Ints .i64 W W.heap.size a sh) (h2 : Ints .i64 W W.heap.size b st) (h3 : Ints .i64 W W.heap.size ad data) (h5 : Ints .i64 W W.heap.size p sh) (h6 : Ints .i64 W W.heap.size q CY) => vlay_good a b ad p q c d cd cp cq sh st data CY off W h h2 h3 h5 h6 HVB.out HWB.out HCL.out HVW.out)
                rw [hLR] at hlayr hlayw HLAY
                rw [hLZ] at hlayr HLAY
                have HLYR := Lib.hid hlayr
                have HCW := Lib.hid hcw
                clear hlayr hLR hLZ hCY hcw
                go_upto_region 16 with (go_at_call 16; refine (HCOPY.out _ (F9.out.lw 0 rfl) (F9.out.lw 1 rfl) (F9.out.lw 2 rfl)).mono ?_; rintro e w10 ⟨a10, c10, b10, d10, rfl, hf⟩; have F10 := Lib.hid (F9.out.join hf); simp only [List.cons_append, List.nil_append] at F10; clear hf F9 g0_0 g0_1 g0_2 g0_3 g0_4 g0_5 g0_6 g0_7 g0_8 g0_9 g0_10)
                obtain ⟨X11, hX11⟩ : ∃ x, w10.heap.size = x := ⟨_, rfl⟩
                rw [hX11]
                have F11 := Lib.hid (F10.out.box1 (b := X11) hX11 [.slice a10 sh.length c10, .slice b10 CY.length d10] 28)
                simp only [List.nil_append, List.cons_append] at F11
                obtain ⟨W11, hW11⟩ : ∃ x, (w10.alloc (.cells #[.slice a10 sh.length c10, .slice b10 CY.length d10] 28)) = x := ⟨_, rfl⟩
                rw [hW11] at F11 ⊢
                clear hW11 hX11 F10
                have g0_0 := F11.out.c 0 0 rfl rfl
                have g0_1 := F11.out.c 0 1 rfl rfl
                have g0_2 := F11.out.c 0 2 rfl rfl
                have g0_3 := F11.out.c 0 3 rfl rfl
                have g0_4 := F11.out.c 0 4 rfl rfl
                have g0_5 := F11.out.c 0 5 rfl rfl
                have g0_6 := F11.out.c 0 6 rfl rfl
                have g0_7 := F11.out.c 0 7 rfl rfl
                have g0_8 := F11.out.c 0 8 rfl rfl
                have g0_9 := F11.out.c 0 9 rfl rfl
                have g0_10 := F11.out.c 0 10 rfl rfl
                have g2_0 := F11.out.c 2 0 rfl rfl
                have g2_1 := F11.out.c 2 1 rfl rfl
                have g2_2 := F11.out.c 2 2 rfl rfl
                have g3_0 := F11.out.c 3 0 rfl rfl
                have g3_1 := F11.out.c 3 1 rfl rfl
                have hev := eqView_any a8 b8 a b c8 d8 c d sh st sh st off off W11 (F11.out.li 3 (k := .i64) (xs := sh) rfl HSW.out) (F11.out.li 4 (k := .i64) (xs := st) rfl HTW.out) (F11.out.lw 0 rfl) (F11.out.lw 1 rfl)
                simp only [decide_true, Bool.and_true] at hev
                have HEV := Lib.hid hev
                clear hev
                go_upto_region 18 with (first | (go_at_call 18; refine (num7_any _ _).mono ?_; rintro e w' ⟨rfl, rfl⟩) | (go_at_call 26; refine (HEV.out).mono ?_; rintro e w12 ⟨rfl, hb⟩; have F12 := Lib.hid (F11.out.next hb); clear hb F11 g0_0 g0_1 g0_2 g0_3 g0_4 g0_5 g0_6 g0_7 g0_8 g0_9 g0_10 g2_0 g2_1 g2_2 g3_0 g3_1; have h0_0 := F12.out.c 0 0 rfl rfl; have h0_1 := F12.out.c 0 1 rfl rfl; have h0_2 := F12.out.c 0 2 rfl rfl; have h0_3 := F12.out.c 0 3 rfl rfl; have h0_4 := F12.out.c 0 4 rfl rfl; have h0_5 := F12.out.c 0 5 rfl rfl; have h0_6 := F12.out.c 0 6 rfl rfl; have h0_7 := F12.out.c 0 7 rfl rfl; have h0_8 := F12.out.c 0 8 rfl rfl; have h0_9 := F12.out.c 0 9 rfl rfl; have h0_10 := F12.out.c 0 10 rfl rfl; have h3_0 := F12.out.c 3 0 rfl rfl; have h3_1 := F12.out.c 3 1 rfl rfl) | (go_at_call 12; refine (eqNumbers_any a10 a c10 c _ sh sh _ (F12.out.li 5 (k := .i64) (xs := sh) rfl HSW.out) (F12.out.lw 0 rfl)).mono ?_; rintro e w' ⟨rfl, q13, rfl⟩; simp only [decide_true]; have F13 := Lib.hid (F12.out.drewN q13); clear F12 h0_0 h0_1 h0_2 h0_3 h0_4 h0_5 h0_6 h0_7 h0_8 h0_9 h0_10 h3_0 h3_1; have i0_0 := F13.out.c 0 0 rfl rfl; have i0_1 := F13.out.c 0 1 rfl rfl; have i0_2 := F13.out.c 0 2 rfl rfl; have i0_3 := F13.out.c 0 3 rfl rfl; have i0_4 := F13.out.c 0 4 rfl rfl; have i0_5 := F13.out.c 0 5 rfl rfl; have i0_6 := F13.out.c 0 6 rfl rfl; have i0_7 := F13.out.c 0 7 rfl rfl; have i0_8 := F13.out.c 0 8 rfl rfl; have i0_9 := F13.out.c 0 9 rfl rfl; have i0_10 := F13.out.c 0 10 rfl rfl; have i3_0 := F13.out.c 3 0 rfl rfl; have i3_1 := F13.out.c 3 1 rfl rfl) | fail)
                go_upto_region 19 with (go_at_call 17; refine (HLAY.out a10 b10 c10 d10 _ (F13.out.lw 0 rfl) (F13.out.lw 1 rfl) (F13.out.lw 2 rfl) (F13.out.li 5 (k := .i64) (xs := sh) rfl HSW.out) (F13.out.li 6 (k := .i64) (xs := CY) rfl HCWF.out)).mono ?_; rintro e w14 ⟨ay, cy, rfl, hf⟩; have F14 := Lib.hid (F13.out.join hf); simp only [List.cons_append, List.nil_append] at F14; clear hf F13 i0_0 i0_1 i0_2 i0_3 i0_4 i0_5 i0_6 i0_7 i0_8 i0_9 i0_10 i3_0 i3_1; have j0_0 := F14.out.c 0 0 rfl rfl; have j0_1 := F14.out.c 0 1 rfl rfl; have j0_2 := F14.out.c 0 2 rfl rfl; have j0_3 := F14.out.c 0 3 rfl rfl; have j0_4 := F14.out.c 0 4 rfl rfl; have j0_5 := F14.out.c 0 5 rfl rfl; have j0_6 := F14.out.c 0 6 rfl rfl; have j0_7 := F14.out.c 0 7 rfl rfl; have j0_8 := F14.out.c 0 8 rfl rfl; have j0_9 := F14.out.c 0 9 rfl rfl; have j0_10 := F14.out.c 0 10 rfl rfl; have j3_0 := F14.out.c 3 0 rfl rfl; have j3_1 := F14.out.c 3 1 rfl rfl)
                go_cut [150] from 141 to 150 (fun s150 wx => s150 = .bool false ∧ Hid (Fr wo.heap.size wo wx [(wo.heap.size, [.slice a sh.length c, .slice b st.length d, .int .i64 off, .slice ad data.length cd, .slice ax axs.length cx, .slice as_ ss.length cs, .int .i64 p1, .int .i64 p2, .int .i64 p3, .slice tp tsh.length cp, .slice tq tys.length cq]), (X7, [.slice a6 PS.length c6, .slice b6 PT.length d6, .int .i64 off]), (X9, [.slice a8 sh.length c8, .slice b8 st.length d8, .int .i64 off]), (X11, [.slice a10 sh.length c10, .slice b10 CY.length d10])] [(.i64, a, sh), (.i64, b, st), (.i64, ad, data), (.i64, ax, axs)] [⟨3, .slice (some ⟨gb, 0, none⟩) axs.length axs.length, axs.length, (bk).map (Value.int .i64)⟩, ⟨3, .slice a6 PS.length c6, PS.length, PS.map (Value.int .i64)⟩, ⟨3, .slice b6 PT.length d6, PT.length, PT.map (Value.int .i64)⟩, ⟨3, .slice a8 sh.length c8, sh.length, sh.map (Value.int .i64)⟩, ⟨3, .slice b8 st.length d8, st.length, st.map (Value.int .i64)⟩, ⟨3, .slice a10 sh.length c10, sh.length, sh.map (Value.int .i64)⟩, ⟨2, .slice b10 CY.length d10, CY.length, CY.map (Value.int .i64)⟩, ⟨2, .slice ay LR.length cy, LR.length, LR.map (Value.int .i64)⟩] []))
                case first =>
                  by_cases hz : LZ = 0
                  · skip
                    have HLD := HLYR.out hz
                    subst hz
                    have HLD2 := Lib.hid HLD
                    clear HLD
                    have hew := fun W (h : Ints .i64 W W.heap.size ay LR) (h2 : Ints .i64 W W.heap.size ad data) => eqWords_any ay ad cy cd W.heap.size LR data W h h2
                    rw [show decide (LR = data) = true from decide_eq_true HLD2.out] at hew
                    go_wp2_with (first | (go_at_call 18; refine (num7_any _ _).mono ?_; rintro e w' ⟨rfl, rfl⟩) | (go_at_call 20; refine (hew _ (F14.out.li 7 (k := .i64) (xs := LR) rfl hlayw.out) (F14.out.lw 2 rfl)).mono ?_; rintro e w' ⟨rfl, q15, rfl⟩; have F15 := Lib.hid (F14.out.drewN q15); clear F14 j0_0 j0_1 j0_2 j0_3 j0_4 j0_5 j0_6 j0_7 j0_8 j0_9 j0_10 j3_0 j3_1) | fail)
                    go_meet
                    exact ⟨rfl, F15⟩
                  · skip
                    go_wp2_with (first | (go_at_call 18; refine (num7_any _ _).mono ?_; rintro e w' ⟨rfl, rfl⟩) | fail)
                    go_meet
                    exact ⟨rfl, F14⟩
                case rest =>
                  obtain ⟨rfl, F15⟩ := hcut
                  clear F14 j0_0 j0_1 j0_2 j0_3 j0_4 j0_5 j0_6 j0_7 j0_8 j0_9 j0_10 j3_0 j3_1
                  have k0_0 := F15.out.c 0 0 rfl rfl
                  have k0_1 := F15.out.c 0 1 rfl rfl
                  have k0_2 := F15.out.c 0 2 rfl rfl
                  have k0_3 := F15.out.c 0 3 rfl rfl
                  have k0_4 := F15.out.c 0 4 rfl rfl
                  have k0_5 := F15.out.c 0 5 rfl rfl
                  have k0_6 := F15.out.c 0 6 rfl rfl
                  have k0_7 := F15.out.c 0 7 rfl rfl
                  have k0_8 := F15.out.c 0 8 rfl rfl
                  have k0_9 := F15.out.c 0 9 rfl rfl
                  have k0_10 := F15.out.c 0 10 rfl rfl
                  have k3_0 := F15.out.c 3 0 rfl rfl
                  have k3_1 := F15.out.c 3 1 rfl rfl
                  have HCT := Lib.hid (fun W (h : Ints .i64 W W.heap.size a sh) => rcount_any a c W.heap.size sh W h (goodB_dims HGD.out))
                  rw [show countE sh = (CY.length : Int) from HCW.out.1.symm] at HCT
                  go_upto_region 21 with fail
                  by_cases h0 : sh.length = 0
                  · skip
                    have d0 : decide (0 < sh.length) = false := by simp [h0]
                    have HH0 := Lib.hid h0
                    clear h0
                    go_quiet (fail)
                    go_wp2
                    go_roundw
                    case rel => exact ⟨k + 1, by omega, by go_num, HB.out.trans ((F15.out.drewN _).bel.mono HB.out.size)⟩
                    case measure => simp [intOf]; omega
                  · skip
                    have h0i : (0 : Int) < (sh.length : Int) := by omega
                    have h0n : 0 < sh.length := by omega
                    have d0 : decide (0 < sh.length) = true := decide_eq_true h0n
                    go_quiet (first | (go_at_call 27; exact quietSame (HCT.out _ ((F15.out.drewN _).lw 0 rfl))))
                    obtain ⟨W16, hW16⟩ : ∃ x, wc.drewN nq = x := ⟨_, rfl⟩
                    have F16 := Lib.hid (F15.out.drewN nq)
                    rw [hW16] at F16 ⊢
                    clear hW16 F15 k0_0 k0_1 k0_2 k0_3 k0_4 k0_5 k0_6 k0_7 k0_8 k0_9 k0_10 k3_0 k3_1
                    have k0_0 := F16.out.c 0 0 rfl rfl
                    have k0_1 := F16.out.c 0 1 rfl rfl
                    have k0_2 := F16.out.c 0 2 rfl rfl
                    have k0_3 := F16.out.c 0 3 rfl rfl
                    have k0_4 := F16.out.c 0 4 rfl rfl
                    have k0_5 := F16.out.c 0 5 rfl rfl
                    have k0_6 := F16.out.c 0 6 rfl rfl
                    have k0_7 := F16.out.c 0 7 rfl rfl
                    have k0_8 := F16.out.c 0 8 rfl rfl
                    have k0_9 := F16.out.c 0 9 rfl rfl
                    have k0_10 := F16.out.c 0 10 rfl rfl
                    have k3_0 := F16.out.c 3 0 rfl rfl
                    have k3_1 := F16.out.c 3 1 rfl rfl
                    skip
                    obtain ⟨m, hm1, hm2⟩ : ∃ m : Nat, withinN p1 sh.length = (m : Int) ∧ m < sh.length := by have := withinN_bound p1 sh.length (by omega); exact ⟨(withinN p1 sh.length).toNat, by omega, by omega⟩
                    have hWI := fun W => Lib.hid (within0_any p1 (sh.length : Int) W HP1.out (by omega) (by omega))
                    rw [hm1] at hWI
                    clear hm1
                    go_upto_region 23 with (go_at_call 28; refine (hWI _).out.mono ?_; rintro e w' ⟨rfl, rfl⟩)
                    skip
                    obtain ⟨D, hD⟩ : ∃ D : Nat, sh[m] = (D : Int) ∧ 1 ≤ D ∧ D ≤ 4096 := by have := (goodB_dims HGD.out).at hm2; exact ⟨sh[m].toNat, by omega, by omega, by omega⟩
                    obtain ⟨hDe, hD1, hD2⟩ := hD
                    obtain ⟨kk, hk1, hk2⟩ : ∃ kk : Nat, withinN p2 D = (kk : Int) ∧ kk < D := by have := withinN_bound p2 D (by omega); exact ⟨(withinN p2 D).toNat, by omega, by omega⟩
                    have hWI2 := fun W => Lib.hid (within0_any p2 (D : Int) W HP2.out (by omega) (by omega))
                    rw [hk1] at hWI2
                    clear hk1
                    have hsl := fun W (h : Ints .i64 W W.heap.size a sh) (h2 : Ints .i64 W W.heap.size b st) => vslice_good a b c d sh st off m kk (kk + 1) W h h2 HV6.out hm2 (by omega) (by rw [List.getElem?_eq_getElem hm2, Option.getD_some, hDe]; omega)
                    rw [show ((kk + 1 : Nat) : Int) - (kk : Int) = 1 by omega] at hsl
                    obtain ⟨cnt, dig, hc0, hc1, hcn⟩ := HSLAB.out m kk hm2 (by rw [hDe]; omega)
                    have hvs := viewB_slice HVB.out hm2 (k := (kk : Int)) ⟨by omega, by rw [hDe]; omega⟩
                    obtain ⟨S1, hS1⟩ : ∃ x, sh.set m 1 = x := ⟨_, rfl⟩
                    obtain ⟨off1, hoff1⟩ : ∃ x, off + (kk : Int) * (st[m]?.getD 0) = x := ⟨_, rfl⟩
                    rw [hS1, hoff1] at hsl hvs
                    simp only [hS1, hoff1] at hc1 hcn
                    have hS1W : ∀ x ∈ S1, (Lit.int .i64 x).wf = true := by rw [← hS1]; intro x hx; rcases List.mem_or_eq_of_mem_set hx with h9 | h9; exact HSW.out x h9; rw [h9]; rfl
                    have hd65 : (wordsV S1 st off1 data).length ≤ 65536 := by have := count_words (data := data) hvs; omega
                    obtain ⟨DY, hDY⟩ : ∃ x, wordsV S1 st off1 data = x := ⟨_, rfl⟩
                    rw [hDY] at hd65
                    have HD65 := Lib.hid hd65
                    clear hd65
                    have hcd := fun (p q : Option Addr) (cp cq : Nat) W (h : Ints .i64 W W.heap.size p S1) (h2 : Ints .i64 W W.heap.size q st) (h3 : Ints .i64 W W.heap.size ad data) => vcopy_good p q ad cp cq cd S1 st data off1 W h h2 h3 hvs HWB.out
                    have hdwf := wordsV_wf (sh := S1) (st := st) (off := off1) HDW.out
                    rw [hDY] at hcd hdwf
                    simp only [hDY] at hc1 hcn
                    skip
                    have HSL := Lib.hid hsl
                    have HCD := Lib.hid hcd
                    have HCN := Lib.hid hcn
                    have HC1 := Lib.hid hc1
                    have HC0 := Lib.hid hc0
                    have HS1W := Lib.hid hS1W
                    have HDYW := Lib.hid hdwf
                    have hDg : sh[m]?.getD 0 = (D : Int) := by rw [List.getElem?_eq_getElem hm2, Option.getD_some]; exact hDe
                    clear hsl hcd hcn hc1 hc0 hvs hS1W hS1 hoff1 hDY hdwf HSLAB
                    obtain ⟨ga, oa, haa, hal, hac⟩ := (F16.out.l 0 rfl).cell m hm2
                    rw [hDg] at hac
                    subst haa
                    clear hDg
                    go_quiet (first | (go_at_call 28; exact quietSame (hWI2 _).out))
                    obtain ⟨W17, hW17⟩ : ∃ x, W16.drewN nq = x := ⟨_, rfl⟩
                    have F17 := Lib.hid (F16.out.drewN nq)
                    rw [hW17] at F17 ⊢
                    clear hW17 hac F16 k0_0 k0_1 k0_2 k0_3 k0_4 k0_5 k0_6 k0_7 k0_8 k0_9 k0_10 k3_0 k3_1
                    have k0_0 := F17.out.c 0 0 rfl rfl
                    have k0_1 := F17.out.c 0 1 rfl rfl
                    have k0_2 := F17.out.c 0 2 rfl rfl
                    have k0_3 := F17.out.c 0 3 rfl rfl
                    have k0_4 := F17.out.c 0 4 rfl rfl
                    have k0_5 := F17.out.c 0 5 rfl rfl
                    have k0_6 := F17.out.c 0 6 rfl rfl
                    have k0_7 := F17.out.c 0 7 rfl rfl
                    have k0_8 := F17.out.c 0 8 rfl rfl
                    have k0_9 := F17.out.c 0 9 rfl rfl
                    have k0_10 := F17.out.c 0 10 rfl rfl
                    have k3_0 := F17.out.c 3 0 rfl rfl
                    have k3_1 := F17.out.c 3 1 rfl rfl
                    go_upto_region 24 with fail
                    have hko : ((kk + 1 : Nat) : Int) = (kk : Int) + 1 := by omega
                    rw [hko] at HSL
                    clear hko
                    go_upto_region 25 with (go_at_call 29; refine (HSL.out _ (F17.out.lw 0 rfl) (F17.out.lw 1 rfl)).mono ?_; rintro e w18 ⟨a18, c18, b18, d18, rfl, hf⟩; have F18 := Lib.hid (F17.out.join hf); simp only [List.cons_append, List.nil_append] at F18; clear hf F17 k0_0 k0_1 k0_2 k0_3 k0_4 k0_5 k0_6 k0_7 k0_8 k0_9 k0_10 k3_0 k3_1)
                    obtain ⟨X19, hX19⟩ : ∃ x, w18.heap.size = x := ⟨_, rfl⟩
                    rw [hX19]
                    have F19 := Lib.hid (F18.out.box1 (b := X19) hX19 [.slice a18 S1.length c18, .slice b18 st.length d18, .int .i64 off1] 25)
                    simp only [List.nil_append, List.cons_append] at F19
                    obtain ⟨W19, hW19⟩ : ∃ x, (w18.alloc (.cells #[.slice a18 S1.length c18, .slice b18 st.length d18, .int .i64 off1] 25)) = x := ⟨_, rfl⟩
                    rw [hW19] at F19 ⊢
                    clear hW19 hX19 F18
                    have l0_0 := F19.out.c 0 0 rfl rfl
                    have l0_1 := F19.out.c 0 1 rfl rfl
                    have l0_2 := F19.out.c 0 2 rfl rfl
                    have l0_3 := F19.out.c 0 3 rfl rfl
                    have l0_4 := F19.out.c 0 4 rfl rfl
                    have l0_5 := F19.out.c 0 5 rfl rfl
                    have l0_6 := F19.out.c 0 6 rfl rfl
                    have l0_7 := F19.out.c 0 7 rfl rfl
                    have l0_8 := F19.out.c 0 8 rfl rfl
                    have l0_9 := F19.out.c 0 9 rfl rfl
                    have l0_10 := F19.out.c 0 10 rfl rfl
                    have l4_0 := F19.out.c 4 0 rfl rfl
                    have l4_1 := F19.out.c 4 1 rfl rfl
                    have l4_2 := F19.out.c 4 2 rfl rfl
                    go_upto_region 26 with (go_at_call 16; refine (HCD.out a18 b18 c18 d18 _ (F19.out.li 8 (k := .i64) (xs := S1) rfl HS1W.out) (F19.out.li 9 (k := .i64) (xs := st) rfl HTW.out) (F19.out.lw 2 rfl)).mono ?_; rintro e w20 ⟨a20, c20, b20, d20, rfl, hf⟩; have F20 := Lib.hid (F19.out.join hf); simp only [List.cons_append, List.nil_append] at F20; clear hf F19 l0_0 l0_1 l0_2 l0_3 l0_4 l0_5 l0_6 l0_7 l0_8 l0_9 l0_10 l4_0 l4_1 l4_2)
                    obtain ⟨X21, hX21⟩ : ∃ x, w20.heap.size = x := ⟨_, rfl⟩
                    rw [hX21]
                    have F21 := Lib.hid (F20.out.box1 (b := X21) hX21 [.slice a20 S1.length c20, .slice b20 DY.length d20] 28)
                    simp only [List.nil_append, List.cons_append] at F21
                    obtain ⟨W21, hW21⟩ : ∃ x, (w20.alloc (.cells #[.slice a20 S1.length c20, .slice b20 DY.length d20] 28)) = x := ⟨_, rfl⟩
                    rw [hW21] at F21 ⊢
                    clear hW21 hX21 F20
                    go_upto_region 28 with (first | (go_at_call 18; refine (num7_any _ _).mono ?_; rintro e w' ⟨rfl, rfl⟩) | fail)
                    go_wp2_with fail
                    go_loopw [21, 22] (fun sa sn wr => ∃ n9 : Nat, n9 ≤ CY.length ∧ sn = .int .i64 n9 ∧ sa = .int .i64 (cnt n9) ∧ Hid (Fr wo.heap.size wo wr [(wo.heap.size, [.slice (some ⟨ga, oa, none⟩) sh.length c, .slice b st.length d, .int .i64 off, .slice ad data.length cd, .slice ax axs.length cx, .slice as_ ss.length cs, .int .i64 p1, .int .i64 p2, .int .i64 p3, .slice tp tsh.length cp, .slice tq tys.length cq]), (X7, [.slice a6 PS.length c6, .slice b6 PT.length d6, .int .i64 off]), (X9, [.slice a8 sh.length c8, .slice b8 st.length d8, .int .i64 off]), (X11, [.slice a10 sh.length c10, .slice b10 CY.length d10]), (X19, [.slice a18 S1.length c18, .slice b18 st.length d18, .int .i64 off1]), (X21, [.slice a20 S1.length c20, .slice b20 DY.length d20])] [(.i64, (some ⟨ga, oa, none⟩), sh), (.i64, b, st), (.i64, ad, data), (.i64, ax, axs)] [⟨3, .slice (some ⟨gb, 0, none⟩) axs.length axs.length, axs.length, (bk).map (Value.int .i64)⟩, ⟨3, .slice a6 PS.length c6, PS.length, PS.map (Value.int .i64)⟩, ⟨3, .slice b6 PT.length d6, PT.length, PT.map (Value.int .i64)⟩, ⟨3, .slice a8 sh.length c8, sh.length, sh.map (Value.int .i64)⟩, ⟨3, .slice b8 st.length d8, st.length, st.map (Value.int .i64)⟩, ⟨3, .slice a10 sh.length c10, sh.length, sh.map (Value.int .i64)⟩, ⟨2, .slice b10 CY.length d10, CY.length, CY.map (Value.int .i64)⟩, ⟨2, .slice ay LR.length cy, LR.length, LR.map (Value.int .i64)⟩, ⟨3, .slice a18 S1.length c18, S1.length, S1.map (Value.int .i64)⟩, ⟨3, .slice b18 st.length d18, st.length, st.map (Value.int .i64)⟩, ⟨3, .slice a20 S1.length c20, S1.length, S1.map (Value.int .i64)⟩, ⟨2, .slice b20 DY.length d20, DY.length, DY.map (Value.int .i64)⟩] [])) (fun _ sn _ => CY.length - (intOf sn).toNat)
                    case atStart => exact ⟨0, Nat.zero_le _, rfl, by rw [HC0.out]; rfl, F21⟩
                    case round =>
                      obtain ⟨n9, hn9, rfl, rfl, F22⟩ := hrel
                      clear F21
                      obtain ⟨w22, rfl⟩ : ∃ w22 : World, w22 = wr := ⟨_, rfl⟩
                      have hc65 : CY.length ≤ 65536 := by have := HCW.out; omega
                      have hd65 := HD65.out
                      have l0_0 := F22.out.c 0 0 rfl rfl
                      have l0_1 := F22.out.c 0 1 rfl rfl
                      have l0_2 := F22.out.c 0 2 rfl rfl
                      have l0_3 := F22.out.c 0 3 rfl rfl
                      have l0_4 := F22.out.c 0 4 rfl rfl
                      have l0_5 := F22.out.c 0 5 rfl rfl
                      have l0_6 := F22.out.c 0 6 rfl rfl
                      have l0_7 := F22.out.c 0 7 rfl rfl
                      have l0_8 := F22.out.c 0 8 rfl rfl
                      have l0_9 := F22.out.c 0 9 rfl rfl
                      have l0_10 := F22.out.c 0 10 rfl rfl
                      have l3_0 := F22.out.c 3 0 rfl rfl
                      have l3_1 := F22.out.c 3 1 rfl rfl
                      have l5_0 := F22.out.c 5 0 rfl rfl
                      have l5_1 := F22.out.c 5 1 rfl rfl
                      by_cases hnl : n9 < CY.length
                      · skip
                        obtain ⟨hdg, hd6, hne, heq⟩ := HCN.out n9 hnl
                        obtain ⟨dg, hdgl⟩ : ∃ x, dig n9 = x := ⟨_, rfl⟩
                        rw [hdgl] at hdg hd6 hne heq
                        clear hdgl
                        have hAT := fun W (h : Ints .i64 W W.heap.size (some ⟨ga, oa, none⟩) sh) => rat_any (some ⟨ga, oa, none⟩) c sh (n9 : Int) W h HGD.out (by omega) (by have := HCL.out; omega)
                        obtain ⟨ST, hST⟩ : ∃ x, standsI sh (n9 : Int) = x := ⟨_, rfl⟩
                        have hSTl : ST.length = sh.length := by rw [← hST]; exact standsI_length _ _
                        rw [hST] at hAT hdg
                        have HAT := Lib.hid hAT
                        clear hAT hST
                        go_upto_if 223 with (go_at_call 30; refine (HAT.out _ (F22.out.lw 0 rfl)).mono ?_; rintro e w23 ⟨v, rfl, hown, hb⟩; obtain ⟨at_, ct, rfl, hg⟩ := own_shape hown; have F23 := Lib.hid (F22.out.addO hb hown); simp only [List.cons_append, List.nil_append] at F23; rcases hg with hg | ⟨gt, rfl, _, _⟩; (exfalso; omega); obtain ⟨hT1, _⟩ := F23.out.rc 12 m rfl (by rw [List.getElem?_map, hdg]; rfl); rw [hSTl]; clear hown hb F22 l0_0 l0_1 l0_2 l0_3 l0_4 l0_5 l0_6 l0_7 l0_8 l0_9 l0_10 l3_0 l3_1 l5_0 l5_1; have m0_0 := F23.out.c 0 0 rfl rfl; have m0_1 := F23.out.c 0 1 rfl rfl; have m0_2 := F23.out.c 0 2 rfl rfl; have m0_3 := F23.out.c 0 3 rfl rfl; have m0_4 := F23.out.c 0 4 rfl rfl; have m0_5 := F23.out.c 0 5 rfl rfl; have m0_6 := F23.out.c 0 6 rfl rfl; have m0_7 := F23.out.c 0 7 rfl rfl; have m0_8 := F23.out.c 0 8 rfl rfl; have m0_9 := F23.out.c 0 9 rfl rfl; have m0_10 := F23.out.c 0 10 rfl rfl; have m3_0 := F23.out.c 3 0 rfl rfl; have m3_1 := F23.out.c 3 1 rfl rfl; have m5_0 := F23.out.c 5 0 rfl rfl; have m5_1 := F23.out.c 5 1 rfl rfl)
                        by_cases hdk : dg = kk
                        · skip
                          obtain ⟨e1, e2, e3⟩ := heq hdk
                          clear heq hne
                          obtain rfl : dg = kk := hdk
                          obtain ⟨jt, hjt⟩ : ∃ x, cnt n9 = x := ⟨_, rfl⟩
                          rw [hjt] at e1 e2 e3
                          simp only [hjt]
                          have HJ := Lib.hid hjt
                          have E1 := Lib.hid e1
                          clear hjt e1
                          obtain ⟨gc, oc, hca, _, hcc⟩ := (F23.out.li 6 (k := .i64) (xs := CY) rfl HCWF.out).cell n9 hnl
                          subst hca
                          rw [List.getElem?_eq_getElem hnl, Option.getD_some] at hcc
                          obtain ⟨gd, od, hda, _, hdc⟩ := (F23.out.li 11 (k := .i64) (xs := DY) rfl HDYW.out).cell jt e2
                          subst hda
                          rw [e3, List.getElem?_eq_getElem hnl, Option.getD_some] at hdc
                          obtain ⟨yv, hyv⟩ : ∃ x, CY[n9] = x := ⟨_, rfl⟩
                          rw [hyv] at hcc hdc
                          clear hyv e3 hdg
                          have hjl : ¬ (DY.length : Int) ≤ (jt : Int) := by omega
                          have hjl2 : decide ((DY.length : Int) ≤ (jt : Int)) = false := decide_eq_false hjl
                          have hjl3 : decide (DY.length ≤ jt) = false := decide_eq_false (by omega)
                          skip
                          go_upto_region 33 with fail
                          go_quiet (fail)
                          have F24 := Lib.hid (F23.out.drewN nq)
                          go_wp2
                          go_roundw
                          case rel => exact ⟨n9 + 1, by omega, by go_num, by rw [E1.out]; go_num, Lib.hid (F24.out.less (.refl _) (.refl _) (by simp) (.refl _))⟩
                          case measure => simp [intOf]; omega
                        · skip
                          have HNE := Lib.hid (hne hdk)
                          clear hne heq hdg
                          have hdki : ¬ (dg : Int) = (kk : Int) := by omega
                          go_wp2
                          go_roundw
                          case rel => exact ⟨n9 + 1, by omega, by go_num, by rw [HNE.out], Lib.hid (F23.out.less (.refl _) (.refl _) (by simp) (.refl _))⟩
                          case measure => simp [intOf]; omega
                      · obtain rfl : n9 = CY.length := by omega
                        have HC := HC1.out
                        clear hnl hn9
                        simp only [HC]
                        go_wp2
                        go_roundw
                        case rel => exact ⟨k + 1, by omega, by go_num, HB.out.trans (F22.out.bel.mono HB.out.size)⟩
                        case measure => simp [intOf]; omega
    · have HB := Lib.hid hbel
      clear hbel h
      have WK := fun W => Lib.hid (wakes7_any W)
      by_cases hlt : k < n
      · have hk15 : ¬ (k : Int) < 15 := by omega
        have hkn : (k : Int) < n := by omega
        go_wp2_with (go_at_call 23; refine ((WK _).out).mono ?_; rintro e w1 ⟨rfl, hb⟩; have HW1 := Lib.hid hb; clear hb)
        go_ret
        exact ⟨rfl, HB.out.trans (HW1.out.mono HB.out.size)⟩
      · obtain rfl : k = n := by omega
        go_wp2_with (go_at_call 23; refine ((WK _).out).mono ?_; rintro e w1 ⟨rfl, hb⟩; have HW1 := Lib.hid hb; clear hb)
        go_ret
        exact ⟨rfl, HB.out.trans (HW1.out.mono HB.out.size)⟩
end Go.Proofs.Ytnafbgkfhojamaa
