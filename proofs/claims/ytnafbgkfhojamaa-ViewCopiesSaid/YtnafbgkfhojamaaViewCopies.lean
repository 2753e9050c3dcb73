/- The law ViewCopies, walked. -/
import Derived.Test.YtnafbgkfhojamaaViewD
set_option linter.unusedVariables false
set_option linter.unusedSimpArgs false
namespace Go.Proofs.Ytnafbgkfhojamaa
open Go.RowKit Go.Rt
set_option maxRecDepth 100000 in
set_option maxHeartbeats 8000000 in
theorem viewCopies_any (q : Option Addr) (n c0 : Nat) (w : World) (h : AsksAt w w.heap.size q n) :
    Calls Try.prog 3 #[.slice q n c0] w fun e w' => e = .returned (.bool true) ∧ Below w.heap.size w w' := by
  have hm := h.len
  go_enter Try.func3, Try.ntmps3
  go_wp2_with fail
  go_loopw [3] (fun i wr => ∃ k : Nat, k ≤ n ∧ i = .int .i64 k ∧ Below w.heap.size w wr) (fun i _ => n - (intOf i).toNat)
  case atStart => exact ⟨0, Nat.zero_le _, rfl, Below.refl _ _⟩
  case round =>
    obtain ⟨k, hk, rfl, hbel⟩ := hrel
    obtain ⟨wo, rfl⟩ : ∃ wo : World, wo = wr := ⟨_, rfl⟩
    by_cases hend : k < n ∧ k < 15
    · obtain ⟨hlt, h20⟩ := hend
      obtain ⟨b0, o_, rfl, a, b, ad, ax, as_, tp, tq, c, d, cd, cx, cs, cp, cq, sh, st, data, axs, ss, tsh, tys, off, p1, p2, p3, ht⟩ := h.at_ k hlt
      replace ht := ht.below hbel
      have hsz := hbel.size
      have HB := Lib.hid hbel
      have hl1 := ht.iS.len
      have hl2 := ht.iT.len
      have hl3 := ht.iD.len
      have hl4 := ht.iX.len
      have hl5 := ht.iG.len
      have hl6 := ht.iP.len
      have hl7 := ht.iQ.len
      clear hbel h
      have HI0 := Lib.hid (ht.iS.mono hsz)
      have HI1 := Lib.hid (ht.iT.mono hsz)
      have HI2 := Lib.hid (ht.iD.mono hsz)
      have HI3 := Lib.hid (ht.iP.mono hsz)
      have HI4 := Lib.hid (ht.iQ.mono hsz)
      have hhv := fun W (h : Ints .i64 W W.heap.size a sh) => heavy7_any a b ad ax as_ tp tq c d cd cx cs cp cq sh st data axs ss tsh tys off p1 p2 p3 W h hl3 hl4 hl5 hl6 hl7
      have q0 := ht.cell 0 _ rfl
      have q1 := ht.cell 1 _ rfl
      have q2 := ht.cell 2 _ rfl
      have q3 := ht.cell 3 _ rfl
      have q4 := ht.cell 4 _ rfl
      have q5 := ht.cell 5 _ rfl
      have q6 := ht.cell 6 _ rfl
      have q7 := ht.cell 7 _ rfl
      have q8 := ht.cell 8 _ rfl
      have q9 := ht.cell 9 _ rfl
      have q10 := ht.cell 10 _ rfl
      simp only [Nat.add_zero] at q0
      clear ht
      cases hv : heavy7 sh data.length tsh.length tys.length ss.length axs.length with
      | true =>
        rw [hv] at hhv
        clear hv
        have F1 := Lib.hid ((Fr.start (w := wo) (I := [(.i64, a, sh), (.i64, b, st), (.i64, ad, data), (.i64, tp, tsh), (.i64, tq, tys)]) (by intro z hz; simp at hz; rcases hz with rfl | rfl | rfl | rfl | rfl; exact HI0.out; exact HI1.out; exact HI2.out; exact HI3.out; exact HI4.out)).box1 (b := wo.heap.size) rfl [.slice a sh.length c, .slice b st.length d, .int .i64 off, .slice ad data.length cd, .slice ax axs.length cx, .slice as_ ss.length cs, .int .i64 p1, .int .i64 p2, .int .i64 p3, .slice tp tsh.length cp, .slice tq tys.length cq] 30)
        simp only [List.nil_append] at F1
        go_upto_region 5 with fail
        obtain ⟨W1, hW1⟩ : ∃ W1, wo.alloc (.cells #[.slice a sh.length c, .slice b st.length d, .int .i64 off, .slice ad data.length cd, .slice ax axs.length cx, .slice as_ ss.length cs, .int .i64 p1, .int .i64 p2, .int .i64 p3, .slice tp tsh.length cp, .slice tq tys.length cq] 30) = W1 := ⟨_, rfl⟩
        rw [hW1] at F1 ⊢
        clear hW1 q0 q1 q2 q3 q4 q5 q6 q7 q8 q9 q10
        have c0_0 := F1.out.c 0 0 rfl rfl
        have c0_1 := F1.out.c 0 1 rfl rfl
        have c0_2 := F1.out.c 0 2 rfl rfl
        have c0_3 := F1.out.c 0 3 rfl rfl
        have c0_4 := F1.out.c 0 4 rfl rfl
        have c0_5 := F1.out.c 0 5 rfl rfl
        have c0_6 := F1.out.c 0 6 rfl rfl
        have c0_7 := F1.out.c 0 7 rfl rfl
        have c0_8 := F1.out.c 0 8 rfl rfl
        have c0_9 := F1.out.c 0 9 rfl rfl
        have c0_10 := F1.out.c 0 10 rfl rfl
        go_wp2_with (go_at_call 7; refine (hhv W1 (F1.out.lw 0 rfl)).mono ?_; rintro e w2 ⟨rfl, hb⟩; have F2 := Lib.hid (F1.out.next hb); clear hb)
        go_ret
        exact ⟨rfl, HB.out.trans (F2.out.bel.mono HB.out.size)⟩
      | false =>
        rw [hv] at hhv
        obtain ⟨g1, g2, g3, g4, g5, g6, g7⟩ := heavy7_no hv
        clear hv g7
        have F1 := Lib.hid ((Fr.start (w := wo) (I := [(.i64, a, sh), (.i64, b, st), (.i64, ad, data), (.i64, tp, tsh), (.i64, tq, tys)]) (by intro z hz; simp at hz; rcases hz with rfl | rfl | rfl | rfl | rfl; exact HI0.out; exact HI1.out; exact HI2.out; exact HI3.out; exact HI4.out)).box1 (b := wo.heap.size) rfl [.slice a sh.length c, .slice b st.length d, .int .i64 off, .slice ad data.length cd, .slice ax axs.length cx, .slice as_ ss.length cs, .int .i64 p1, .int .i64 p2, .int .i64 p3, .slice tp tsh.length cp, .slice tq tys.length cq] 30)
        simp only [List.nil_append] at F1
        go_upto_region 5 with fail
        obtain ⟨W1, hW1⟩ : ∃ W1, wo.alloc (.cells #[.slice a sh.length c, .slice b st.length d, .int .i64 off, .slice ad data.length cd, .slice ax axs.length cx, .slice as_ ss.length cs, .int .i64 p1, .int .i64 p2, .int .i64 p3, .slice tp tsh.length cp, .slice tq tys.length cq] 30) = W1 := ⟨_, rfl⟩
        rw [hW1] at F1 ⊢
        clear hW1 q0 q1 q2 q3 q4 q5 q6 q7 q8 q9 q10
        have c0_0 := F1.out.c 0 0 rfl rfl
        have c0_1 := F1.out.c 0 1 rfl rfl
        have c0_2 := F1.out.c 0 2 rfl rfl
        have c0_3 := F1.out.c 0 3 rfl rfl
        have c0_4 := F1.out.c 0 4 rfl rfl
        have c0_5 := F1.out.c 0 5 rfl rfl
        have c0_6 := F1.out.c 0 6 rfl rfl
        have c0_7 := F1.out.c 0 7 rfl rfl
        have c0_8 := F1.out.c 0 8 rfl rfl
        have c0_9 := F1.out.c 0 9 rfl rfl
        have c0_10 := F1.out.c 0 10 rfl rfl
        obtain ⟨CS, hCS⟩ : ∃ x, cpS sh st off data = x := ⟨_, rfl⟩
        obtain ⟨CY, hCY⟩ : ∃ x, cpY sh st off data = x := ⟨_, rfl⟩
        obtain ⟨CZ, hCZ⟩ : ∃ x, cpZ sh st off data = x := ⟨_, rfl⟩
        obtain ⟨LL, hLL⟩ : ∃ x, lyL sh st off data tsh tys = x := ⟨_, rfl⟩
        obtain ⟨LZ, hLZ⟩ : ∃ x, lyZ sh st off data tsh tys = x := ⟨_, rfl⟩
        have HCSW := Lib.hid (cpS_wf (st := st) (data := data) (off := off) HI0.out.wf)
        have HCYW := Lib.hid (cpY_wf (sh := sh) (st := st) (off := off) HI2.out.wf)
        have HLLW := Lib.hid (lyL_wf (sh := sh) (st := st) (off := off) (tsh := tsh) HI2.out.wf HI4.out.wf)
        have hcl1 := cpS_len sh st data off
        have hcl2 := cpY_len sh st data off
        have hcl3 := lyL_len sh st data tsh tys off
        rw [hCS] at HCSW hcl1
        rw [hCY] at HCYW hcl2
        rw [hLL] at HLLW hcl3
        have HCOPY := Lib.hid (fun (a b ad : Option Addr) (c d cd : Nat) (W : World) (h : Ints .i64 W W.heap.size a sh) (h2 : Ints .i64 W W.heap.size b st) (h3 : Ints .i64 W W.heap.size ad data) => vcopy_all a b ad c d cd sh st data off W h h2 h3)
        rw [hCS, hCY, hCZ] at HCOPY
        have HLAY := Lib.hid (fun (a b ad p q : Option Addr) (c d cd cp cq : Nat) (W : World) (h : Ints .i64 W W.heap.size a sh) (h2 : Ints .i64 W W.heap.size b st) (h3 : Ints .i64 W W.heap.size ad data) (h5 : Ints .i64 W W.heap.size p tsh) (h6 : Ints .i64 W W.heap.size q tys) => vlay_all a b ad p q c d cd cp cq sh st data tsh tys off W h h2 h3 h5 h6)
        rw [hLL, hLZ] at HLAY
        have HCSE := Lib.hid hCS
        have HCYE := Lib.hid hCY
        have HCZE := Lib.hid hCZ
        have HLLE := Lib.hid hLL
        have HLZE := Lib.hid hLZ
        clear hCS hCY hCZ hLL hLZ
        go_upto_region 8 with (go_at_call 7; refine (hhv W1 (F1.out.lw 0 rfl)).mono ?_; rintro e w2 ⟨rfl, hb⟩; have F2 := Lib.hid (F1.out.next hb); clear hb F1 c0_0 c0_1 c0_2 c0_3 c0_4 c0_5 c0_6 c0_7 c0_8 c0_9 c0_10; have d0_0 := F2.out.c 0 0 rfl rfl; have d0_1 := F2.out.c 0 1 rfl rfl; have d0_2 := F2.out.c 0 2 rfl rfl; have d0_3 := F2.out.c 0 3 rfl rfl; have d0_4 := F2.out.c 0 4 rfl rfl; have d0_5 := F2.out.c 0 5 rfl rfl; have d0_6 := F2.out.c 0 6 rfl rfl; have d0_7 := F2.out.c 0 7 rfl rfl; have d0_8 := F2.out.c 0 8 rfl rfl; have d0_9 := F2.out.c 0 9 rfl rfl; have d0_10 := F2.out.c 0 10 rfl rfl)
        have hmv := fun W (h : Ints .i64 W W.heap.size a sh) (h2 : Ints .i64 W W.heap.size b st) => mayView_any a b c d W.heap.size sh st off (data.length : Int) W h h2 (Nat.le_refl _)
        have hwd := fun W (h : Ints .i64 W W.heap.size ad data) => words_any ad cd W.heap.size data W h
        obtain ⟨vb, hvb⟩ : ∃ x, viewB sh st off data.length = x := ⟨_, rfl⟩
        obtain ⟨wb, hwb⟩ : ∃ x, data.all isW = x := ⟨_, rfl⟩
        rw [hvb] at hmv
        rw [hwb] at hwd
        have HVB := Lib.hid hvb
        have HWB := Lib.hid hwb
        clear hvb hwb
        go_cut [42] from 30 to 42 (fun s42 wx => ∃ q : Bool, s42 = .bool q ∧ Hid (q = !(cpB sh st off data)) ∧ Hid (Fr wo.heap.size wo wx [(wo.heap.size, [.slice a sh.length c, .slice b st.length d, .int .i64 off, .slice ad data.length cd, .slice ax axs.length cx, .slice as_ ss.length cs, .int .i64 p1, .int .i64 p2, .int .i64 p3, .slice tp tsh.length cp, .slice tq tys.length cq])] [(.i64, a, sh), (.i64, b, st), (.i64, ad, data), (.i64, tp, tsh), (.i64, tq, tys)] [] []))
        case first =>
          cases vb with
          | false =>
            go_wp2_with (go_at_call 8; refine (hmv _ (F2.out.lw 0 rfl) (F2.out.lw 1 rfl)).mono ?_; rintro e w3 ⟨rfl, hb⟩; have F3 := Lib.hid (F2.out.next hb); clear hb F2 d0_0 d0_1 d0_2 d0_3 d0_4 d0_5 d0_6 d0_7 d0_8 d0_9 d0_10; have e0_0 := F3.out.c 0 0 rfl rfl; have e0_1 := F3.out.c 0 1 rfl rfl; have e0_2 := F3.out.c 0 2 rfl rfl; have e0_3 := F3.out.c 0 3 rfl rfl; have e0_4 := F3.out.c 0 4 rfl rfl; have e0_5 := F3.out.c 0 5 rfl rfl; have e0_6 := F3.out.c 0 6 rfl rfl; have e0_7 := F3.out.c 0 7 rfl rfl; have e0_8 := F3.out.c 0 8 rfl rfl; have e0_9 := F3.out.c 0 9 rfl rfl; have e0_10 := F3.out.c 0 10 rfl rfl)
            go_meet
            exact ⟨true, rfl, Lib.hid (by unfold cpB; rw [HVB.out]; rfl), F3⟩
          | true =>
            cases wb with
            | false =>
              go_wp2_with (first | (go_at_call 8; refine (hmv _ (F2.out.lw 0 rfl) (F2.out.lw 1 rfl)).mono ?_; rintro e w3 ⟨rfl, hb⟩; have F3 := Lib.hid (F2.out.next hb); clear hb F2 d0_0 d0_1 d0_2 d0_3 d0_4 d0_5 d0_6 d0_7 d0_8 d0_9 d0_10; have e0_0 := F3.out.c 0 0 rfl rfl; have e0_1 := F3.out.c 0 1 rfl rfl; have e0_2 := F3.out.c 0 2 rfl rfl; have e0_3 := F3.out.c 0 3 rfl rfl; have e0_4 := F3.out.c 0 4 rfl rfl; have e0_5 := F3.out.c 0 5 rfl rfl; have e0_6 := F3.out.c 0 6 rfl rfl; have e0_7 := F3.out.c 0 7 rfl rfl; have e0_8 := F3.out.c 0 8 rfl rfl; have e0_9 := F3.out.c 0 9 rfl rfl; have e0_10 := F3.out.c 0 10 rfl rfl) | (go_at_call 9; refine (hwd _ (F3.out.lw 2 rfl)).mono ?_; rintro e w' ⟨rfl, rfl⟩; skip))
              go_meet
              exact ⟨true, rfl, Lib.hid (by unfold cpB; rw [HVB.out, HWB.out]; rfl), F3⟩
            | true =>
              go_wp2_with (first | (go_at_call 8; refine (hmv _ (F2.out.lw 0 rfl) (F2.out.lw 1 rfl)).mono ?_; rintro e w3 ⟨rfl, hb⟩; have F3 := Lib.hid (F2.out.next hb); clear hb F2 d0_0 d0_1 d0_2 d0_3 d0_4 d0_5 d0_6 d0_7 d0_8 d0_9 d0_10; have e0_0 := F3.out.c 0 0 rfl rfl; have e0_1 := F3.out.c 0 1 rfl rfl; have e0_2 := F3.out.c 0 2 rfl rfl; have e0_3 := F3.out.c 0 3 rfl rfl; have e0_4 := F3.out.c 0 4 rfl rfl; have e0_5 := F3.out.c 0 5 rfl rfl; have e0_6 := F3.out.c 0 6 rfl rfl; have e0_7 := F3.out.c 0 7 rfl rfl; have e0_8 := F3.out.c 0 8 rfl rfl; have e0_9 := F3.out.c 0 9 rfl rfl; have e0_10 := F3.out.c 0 10 rfl rfl) | (go_at_call 9; refine (hwd _ (F3.out.lw 2 rfl)).mono ?_; rintro e w' ⟨rfl, rfl⟩; skip))
              go_meet
              exact ⟨false, rfl, Lib.hid (by unfold cpB; rw [HVB.out, HWB.out]; rfl), F3⟩
        case rest =>
          obtain ⟨q1, rfl, HQ1, F3⟩ := hcut
          clear F2 hmv hwd d0_0 d0_1 d0_2 d0_3 d0_4 d0_5 d0_6 d0_7 d0_8 d0_9 d0_10
          have e0_0 := F3.out.c 0 0 rfl rfl
          have e0_1 := F3.out.c 0 1 rfl rfl
          have e0_2 := F3.out.c 0 2 rfl rfl
          have e0_3 := F3.out.c 0 3 rfl rfl
          have e0_4 := F3.out.c 0 4 rfl rfl
          have e0_5 := F3.out.c 0 5 rfl rfl
          have e0_6 := F3.out.c 0 6 rfl rfl
          have e0_7 := F3.out.c 0 7 rfl rfl
          have e0_8 := F3.out.c 0 8 rfl rfl
          have e0_9 := F3.out.c 0 9 rfl rfl
          have e0_10 := F3.out.c 0 10 rfl rfl
          go_upto_if 42 with fail
          go_cut [5] from 42 to 42 (fun s5 wx => s5 = .int .i64 CZ ∧ wx = wc)
          case first =>
            cases q1 with
            | true =>
              have hE : CZ = 1 := by rw [← HCZE.out]; exact (cp_no (by have := HQ1.out; simpa using this)).2.2
              go_wp2
              go_meet
              exact ⟨by rw [hE], rfl⟩
            | false =>
              have hE : CZ = 0 := by rw [← HCZE.out]; exact (cp_yes (by have := HQ1.out; simpa using this)).2.2
              go_wp2
              go_meet
              exact ⟨by rw [hE], rfl⟩
          case rest =>
            obtain ⟨rfl, rfl⟩ := hcut
            obtain ⟨LY, hLY⟩ : ∃ x : Int, (if lyB sh st off data tsh tys = true then 0 else 1) = x := ⟨_, rfl⟩
            have HLY := Lib.hid hLY
            obtain ⟨tb, htb⟩ : ∃ x, tenB tsh tys = x := ⟨_, rfl⟩
            have htm := fun W (h : Ints .i64 W W.heap.size tp tsh) (h2 : Ints .i64 W W.heap.size tq tys) => tenMay_any tp tq cp cq tsh tys W h h2
            rw [htb] at htm
            have HTB := Lib.hid htb
            clear hLY htb
            go_upto_if 47 with (go_at_call 10; refine (htm _ (F3.out.lw 3 rfl) (F3.out.lw 4 rfl)).mono ?_; rintro e w4 ⟨rfl, hb⟩; have F4 := Lib.hid (F3.out.next hb); clear hb F3 e0_0 e0_1 e0_2 e0_3 e0_4 e0_5 e0_6 e0_7 e0_8 e0_9 e0_10)
            go_cut [6] from 47 to 47 (fun s6 wx => s6 = .int .i64 LY ∧ wx = w4)
            case first =>
              cases tb with
              | false =>
                have hly : LY = 1 := by rw [← HLY.out]; unfold lyB; rw [HTB.out]; simp
                go_wp2
                go_meet
                exact ⟨by rw [hly], rfl⟩
              | true =>
                have hly : LY = CZ := by rw [← HLY.out, ← HCZE.out]; unfold lyB cpZ; rw [HTB.out]; simp
                go_wp2
                go_meet
                exact ⟨by rw [hly], rfl⟩
            case rest =>
              obtain ⟨rfl, rfl⟩ := hcut
              clear htm
              go_upto_region 14 with fail
              obtain ⟨T, hT⟩ : ∃ x, wc.heap.size = x := ⟨_, rfl⟩
              rw [hT]
              have F5 := Lib.hid (F4.out.box1 (b := T) hT [.slice none 0 0, .slice none 0 0] 28)
              simp only [List.nil_append, List.cons_append] at F5
              obtain ⟨W5, hW5⟩ : ∃ x, (wc.alloc (.cells #[.slice none 0 0, .slice none 0 0] 28)) = x := ⟨_, rfl⟩
              rw [hW5] at F5 ⊢
              clear hW5 hT F4
              go_upto_if 49 with fail
              go_cut [] from 49 to 54 (fun wx => ∃ aw cw bw dw, Hid (Fr wo.heap.size wo wx [(wo.heap.size, [.slice a sh.length c, .slice b st.length d, .int .i64 off, .slice ad data.length cd, .slice ax axs.length cx, .slice as_ ss.length cs, .int .i64 p1, .int .i64 p2, .int .i64 p3, .slice tp tsh.length cp, .slice tq tys.length cq]), (T, [.slice aw CS.length cw, .slice bw CY.length dw])] [(.i64, a, sh), (.i64, b, st), (.i64, ad, data), (.i64, tp, tsh), (.i64, tq, tys)] [⟨3, .slice aw CS.length cw, CS.length, CS.map (Value.int .i64)⟩, ⟨2, .slice bw CY.length dw, CY.length, CY.map (Value.int .i64)⟩] []))
              case first =>
                cases hcp : cpB sh st off data with
                | true =>
                  have hcp2 := cp_yes hcp
                  have hv2 : viewB sh st off data.length = true := by have := hcp; unfold cpB at this; rw [Bool.and_eq_true] at this; exact this.1
                  rw [HCSE.out, HCYE.out, HCZE.out] at hcp2
                  obtain ⟨e1, e2, e3⟩ := hcp2
                  subst e3
                  have HCP := Lib.hid (fun W (h : Ints .i64 W W.heap.size a sh) (h2 : Ints .i64 W W.heap.size b st) (h3 : Ints .i64 W W.heap.size ad data) => rcopy_any a b ad c d cd sh st data off W h h2 h3 hv2)
                  have E1 := Lib.hid e1
                  have E2 := Lib.hid e2
                  clear hcp hv2 e1 e2
                  have f0_0 := F5.out.c 0 0 rfl rfl
                  have f0_1 := F5.out.c 0 1 rfl rfl
                  have f0_2 := F5.out.c 0 2 rfl rfl
                  have f0_3 := F5.out.c 0 3 rfl rfl
                  have f0_4 := F5.out.c 0 4 rfl rfl
                  have f0_5 := F5.out.c 0 5 rfl rfl
                  have f0_6 := F5.out.c 0 6 rfl rfl
                  have f0_7 := F5.out.c 0 7 rfl rfl
                  have f0_8 := F5.out.c 0 8 rfl rfl
                  have f0_9 := F5.out.c 0 9 rfl rfl
                  have f0_10 := F5.out.c 0 10 rfl rfl
                  have f1_0 := F5.out.c 1 0 rfl rfl
                  have f1_1 := F5.out.c 1 1 rfl rfl
                  have ff1_0 := F5.out.f 1 0 rfl rfl
                  have ff1_1 := F5.out.f 1 1 rfl rfl
                  go_wp2_with (go_at_call 11; refine (HCP.out _ (F5.out.lw 0 rfl) (F5.out.lw 1 rfl) (F5.out.lw 2 rfl)).mono ?_; rintro e w6 ⟨aw, cw, bw, dw, rfl, hf⟩; have F6 := Lib.hid (F5.out.join hf); simp only [List.nil_append] at F6; clear hf F5 f0_0 f0_1 f0_2 f0_3 f0_4 f0_5 f0_6 f0_7 f0_8 f0_9 f0_10 f1_0 f1_1 ff1_0 ff1_1; have g1_0 := F6.out.c 1 0 rfl rfl; have g1_1 := F6.out.c 1 1 rfl rfl; have gf1_0 := F6.out.f 1 0 rfl rfl; have gf1_1 := F6.out.f 1 1 rfl rfl)
                  go_meet
                  skip
                  exact ⟨aw, cw, bw, dw, Lib.hid (by rw [E1.out, E2.out]; have := F6.out.set 1 rfl (by simp) [.slice aw sh.length cw, .slice bw (wordsV sh st off data).length dw] rfl; simpa only [setL, Nat.reduceAdd, List.set_cons_zero, List.set_cons_succ] using this)⟩
                | false =>
                  have hcp2 := cp_no hcp
                  rw [HCSE.out, HCYE.out, HCZE.out] at hcp2
                  obtain ⟨e1, e2, e3⟩ := hcp2
                  subst e3
                  have E1 := Lib.hid e1
                  have E2 := Lib.hid e2
                  clear hcp e1 e2
                  go_wp2
                  go_meet
                  exact ⟨none, 0, none, 0, Lib.hid (by rw [E1.out, E2.out]; exact (F5.out.addNil _).addNil _)⟩
              case rest =>
                obtain ⟨aw, cw, bw, dw, F6⟩ := hcut
                clear F5
                have f0_0 := F6.out.c 0 0 rfl rfl
                have f0_1 := F6.out.c 0 1 rfl rfl
                have f0_2 := F6.out.c 0 2 rfl rfl
                have f0_3 := F6.out.c 0 3 rfl rfl
                have f0_4 := F6.out.c 0 4 rfl rfl
                have f0_5 := F6.out.c 0 5 rfl rfl
                have f0_6 := F6.out.c 0 6 rfl rfl
                have f0_7 := F6.out.c 0 7 rfl rfl
                have f0_8 := F6.out.c 0 8 rfl rfl
                have f0_9 := F6.out.c 0 9 rfl rfl
                have f0_10 := F6.out.c 0 10 rfl rfl
                go_upto_if 56 with fail
                go_cut [6, 8] from 56 to 75 (fun s6 s8 wx => s6 = .int .i64 LZ ∧ ∃ al cl, s8 = .slice al LL.length cl ∧ Hid (Fr wo.heap.size wo wx [(wo.heap.size, [.slice a sh.length c, .slice b st.length d, .int .i64 off, .slice ad data.length cd, .slice ax axs.length cx, .slice as_ ss.length cs, .int .i64 p1, .int .i64 p2, .int .i64 p3, .slice tp tsh.length cp, .slice tq tys.length cq]), (T, [.slice aw CS.length cw, .slice bw CY.length dw])] [(.i64, a, sh), (.i64, b, st), (.i64, ad, data), (.i64, tp, tsh), (.i64, tq, tys)] [⟨3, .slice aw CS.length cw, CS.length, CS.map (Value.int .i64)⟩, ⟨2, .slice bw CY.length dw, CY.length, CY.map (Value.int .i64)⟩, ⟨2, .slice al LL.length cl, LL.length, LL.map (Value.int .i64)⟩] []))
                case first =>
                  cases hlb : lyB sh st off data tsh tys with
                  | false =>
                    have hE : LY = 1 := by rw [← HLY.out, hlb]; rfl
                    subst hE
                    have hG : lyG sh st off data tsh tys = false := by unfold lyG; rw [hlb]; rfl
                    have hZ : LZ = 1 := by rw [← HLZE.out]; unfold lyZ; simp [hlb]
                    have hL : LL = [] := by rw [← HLLE.out]; unfold lyL; simp [hG]
                    have HL0 := Lib.hid hL
                    clear hlb hG hL
                    go_wp2
                    go_meet
                    exact ⟨by rw [hZ], none, 0, by rw [HL0.out]; rfl, Lib.hid (by rw [HL0.out]; exact F6.out.addNil _)⟩
                  | true =>
                    have hE : LY = 0 := by rw [← HLY.out, hlb]; rfl
                    subst hE
                    have hcB : cpB sh st off data = true ∧ tenB tsh tys = true := by have := hlb; unfold lyB at this; rw [Bool.and_eq_true] at this; exact this
                    have hv2 : viewB sh st off data.length = true := by have := hcB.1; unfold cpB at this; rw [Bool.and_eq_true] at this; exact this.1
                    have htl := (tenB_iff.1 hcB.2).2.1
                    have HEQ := Lib.hid (fun W (h : Ints .i64 W W.heap.size tp tsh) (h2 : Ints .i64 W W.heap.size a sh) => eqNumbers_any tp a cp c W.heap.size tsh sh W h h2)
                    have HV2 := Lib.hid hv2
                    have HTL := Lib.hid htl
                    clear hcB hv2 htl
                    by_cases hsh : tsh = sh
                    · skip
                      have HSH := Lib.hid hsh
                      have HON := Lib.hid (fun W (h : Ints .i64 W W.heap.size a sh) (h2 : Ints .i64 W W.heap.size b st) => ronce_any a b c d sh st off (data.length : Int) W h h2 HV2.out)
                      rw [decide_eq_true hsh] at HEQ
                      clear hsh
                      cases hon : onceV sh st off with
                      | true =>
                        have hG : lyG sh st off data tsh tys = true := by unfold lyG; rw [hlb, hon]; simp [HSH.out]
                        have hZ : LZ = 0 := by rw [← HLZE.out]; unfold lyZ; simp [hlb, hG]
                        have hL : LL = layV sh st off tys data := by rw [← HLLE.out]; unfold lyL; simp [hG]
                        have HRL := Lib.hid (fun W (h : Ints .i64 W W.heap.size a sh) (h2 : Ints .i64 W W.heap.size b st) (h3 : Ints .i64 W W.heap.size ad data) (h6 : Ints .i64 W W.heap.size tq tys) => rlay_any a b ad tp tq c d cd cp cq sh st data tsh tys off W h h2 h3 h6 HV2.out (by rw [HTL.out, HSH.out]))
                        rw [hon] at HON
                        rw [← hL] at HRL
                        clear hlb hG hL hon
                        go_wp2_with (first | (go_at_call 12; refine (HEQ.out _ (F6.out.lw 3 rfl) (F6.out.lw 0 rfl)).mono ?_; rintro e w' ⟨rfl, q9, rfl⟩; have F8 := Lib.hid (F6.out.drewN q9); clear F6 f0_0 f0_1 f0_2 f0_3 f0_4 f0_5 f0_6 f0_7 f0_8 f0_9 f0_10; have g0_0 := F8.out.c 0 0 rfl rfl; have g0_1 := F8.out.c 0 1 rfl rfl; have g0_2 := F8.out.c 0 2 rfl rfl; have g0_3 := F8.out.c 0 3 rfl rfl; have g0_4 := F8.out.c 0 4 rfl rfl; have g0_5 := F8.out.c 0 5 rfl rfl; have g0_6 := F8.out.c 0 6 rfl rfl; have g0_7 := F8.out.c 0 7 rfl rfl; have g0_8 := F8.out.c 0 8 rfl rfl; have g0_9 := F8.out.c 0 9 rfl rfl; have g0_10 := F8.out.c 0 10 rfl rfl) | (go_at_call 13; refine (HON.out _ (F8.out.lw 0 rfl) (F8.out.lw 1 rfl)).mono ?_; rintro e w9 ⟨rfl, hb⟩; have F9 := Lib.hid (F8.out.next hb); clear hb F8 g0_0 g0_1 g0_2 g0_3 g0_4 g0_5 g0_6 g0_7 g0_8 g0_9 g0_10; have h0_0 := F9.out.c 0 0 rfl rfl; have h0_1 := F9.out.c 0 1 rfl rfl; have h0_2 := F9.out.c 0 2 rfl rfl; have h0_3 := F9.out.c 0 3 rfl rfl; have h0_4 := F9.out.c 0 4 rfl rfl; have h0_5 := F9.out.c 0 5 rfl rfl; have h0_6 := F9.out.c 0 6 rfl rfl; have h0_7 := F9.out.c 0 7 rfl rfl; have h0_8 := F9.out.c 0 8 rfl rfl; have h0_9 := F9.out.c 0 9 rfl rfl; have h0_10 := F9.out.c 0 10 rfl rfl) | (go_at_call 14; refine (HRL.out _ (F9.out.lw 0 rfl) (F9.out.lw 1 rfl) (F9.out.lw 2 rfl) (F9.out.lw 4 rfl)).mono ?_; rintro e w10 ⟨v, rfl, hown, hb⟩; obtain ⟨al, cl, rfl, _⟩ := own_shape hown; have FA := Lib.hid (F9.out.addO hb hown); simp only [List.cons_append, List.nil_append] at FA; clear hown hb F9 h0_0 h0_1 h0_2 h0_3 h0_4 h0_5 h0_6 h0_7 h0_8 h0_9 h0_10))
                        go_meet
                        exact ⟨by rw [hZ], al, cl, rfl, FA⟩
                      | false =>
                        have hG : lyG sh st off data tsh tys = false := by unfold lyG; rw [hlb, hon]; simp
                        have hZ : LZ = 2 := by rw [← HLZE.out]; unfold lyZ; simp [hlb, hG]
                        have hL : LL = [] := by rw [← HLLE.out]; unfold lyL; simp [hG]
                        have HL0 := Lib.hid hL
                        rw [hon] at HON
                        clear hlb hG hL hon
                        go_wp2_with (first | (go_at_call 12; refine (HEQ.out _ (F6.out.lw 3 rfl) (F6.out.lw 0 rfl)).mono ?_; rintro e w' ⟨rfl, q9, rfl⟩; have F8 := Lib.hid (F6.out.drewN q9); clear F6 f0_0 f0_1 f0_2 f0_3 f0_4 f0_5 f0_6 f0_7 f0_8 f0_9 f0_10; have g0_0 := F8.out.c 0 0 rfl rfl; have g0_1 := F8.out.c 0 1 rfl rfl; have g0_2 := F8.out.c 0 2 rfl rfl; have g0_3 := F8.out.c 0 3 rfl rfl; have g0_4 := F8.out.c 0 4 rfl rfl; have g0_5 := F8.out.c 0 5 rfl rfl; have g0_6 := F8.out.c 0 6 rfl rfl; have g0_7 := F8.out.c 0 7 rfl rfl; have g0_8 := F8.out.c 0 8 rfl rfl; have g0_9 := F8.out.c 0 9 rfl rfl; have g0_10 := F8.out.c 0 10 rfl rfl) | (go_at_call 13; refine (HON.out _ (F8.out.lw 0 rfl) (F8.out.lw 1 rfl)).mono ?_; rintro e w9 ⟨rfl, hb⟩; have F9 := Lib.hid (F8.out.next hb); clear hb F8 g0_0 g0_1 g0_2 g0_3 g0_4 g0_5 g0_6 g0_7 g0_8 g0_9 g0_10; have h0_0 := F9.out.c 0 0 rfl rfl; have h0_1 := F9.out.c 0 1 rfl rfl; have h0_2 := F9.out.c 0 2 rfl rfl; have h0_3 := F9.out.c 0 3 rfl rfl; have h0_4 := F9.out.c 0 4 rfl rfl; have h0_5 := F9.out.c 0 5 rfl rfl; have h0_6 := F9.out.c 0 6 rfl rfl; have h0_7 := F9.out.c 0 7 rfl rfl; have h0_8 := F9.out.c 0 8 rfl rfl; have h0_9 := F9.out.c 0 9 rfl rfl; have h0_10 := F9.out.c 0 10 rfl rfl))
                        go_meet
                        exact ⟨by rw [hZ], none, 0, by rw [HL0.out]; rfl, Lib.hid (by rw [HL0.out]; exact F9.out.addNil _)⟩
                    · skip
                      rw [decide_eq_false hsh] at HEQ
                      have hG : lyG sh st off data tsh tys = false := by unfold lyG; simp [hsh]
                      have hZ : LZ = 2 := by rw [← HLZE.out]; unfold lyZ; simp [hlb, hG]
                      have hL : LL = [] := by rw [← HLLE.out]; unfold lyL; simp [hG]
                      have HL0 := Lib.hid hL
                      clear hlb hG hL hsh
                      go_wp2_with (go_at_call 12; refine (HEQ.out _ (F6.out.lw 3 rfl) (F6.out.lw 0 rfl)).mono ?_; rintro e w' ⟨rfl, q9, rfl⟩; have F8 := Lib.hid (F6.out.drewN q9); clear F6 f0_0 f0_1 f0_2 f0_3 f0_4 f0_5 f0_6 f0_7 f0_8 f0_9 f0_10; have g0_0 := F8.out.c 0 0 rfl rfl; have g0_1 := F8.out.c 0 1 rfl rfl; have g0_2 := F8.out.c 0 2 rfl rfl; have g0_3 := F8.out.c 0 3 rfl rfl; have g0_4 := F8.out.c 0 4 rfl rfl; have g0_5 := F8.out.c 0 5 rfl rfl; have g0_6 := F8.out.c 0 6 rfl rfl; have g0_7 := F8.out.c 0 7 rfl rfl; have g0_8 := F8.out.c 0 8 rfl rfl; have g0_9 := F8.out.c 0 9 rfl rfl; have g0_10 := F8.out.c 0 10 rfl rfl)
                      go_meet
                      exact ⟨by rw [hZ], none, 0, by rw [HL0.out]; rfl, Lib.hid (by rw [HL0.out]; exact F8.out.addNil _)⟩
                case rest =>
                  obtain ⟨rfl, al, cl, rfl, F7⟩ := hcut
                  clear F6 f0_0 f0_1 f0_2 f0_3 f0_4 f0_5 f0_6 f0_7 f0_8 f0_9 f0_10
                  have f0_0 := F7.out.c 0 0 rfl rfl
                  have f0_1 := F7.out.c 0 1 rfl rfl
                  have f0_2 := F7.out.c 0 2 rfl rfl
                  have f0_3 := F7.out.c 0 3 rfl rfl
                  have f0_4 := F7.out.c 0 4 rfl rfl
                  have f0_5 := F7.out.c 0 5 rfl rfl
                  have f0_6 := F7.out.c 0 6 rfl rfl
                  have f0_7 := F7.out.c 0 7 rfl rfl
                  have f0_8 := F7.out.c 0 8 rfl rfl
                  have f0_9 := F7.out.c 0 9 rfl rfl
                  have f0_10 := F7.out.c 0 10 rfl rfl
                  go_upto_region 23 with (go_at_call 15; refine (copyWords_any ad cd data _ (F7.out.lw 2 rfl) (by omega)).mono ?_; rintro e w8 ⟨v, rfl, hown, hb⟩; obtain ⟨a9, c9, rfl, _⟩ := own_shape hown; have F8 := Lib.hid (F7.out.addO hb hown); simp only [List.cons_append, List.nil_append] at F8; clear hown hb F7 f0_0 f0_1 f0_2 f0_3 f0_4 f0_5 f0_6 f0_7 f0_8 f0_9 f0_10; have g0_0 := F8.out.c 0 0 rfl rfl; have g0_1 := F8.out.c 0 1 rfl rfl; have g0_2 := F8.out.c 0 2 rfl rfl; have g0_3 := F8.out.c 0 3 rfl rfl; have g0_4 := F8.out.c 0 4 rfl rfl; have g0_5 := F8.out.c 0 5 rfl rfl; have g0_6 := F8.out.c 0 6 rfl rfl; have g0_7 := F8.out.c 0 7 rfl rfl; have g0_8 := F8.out.c 0 8 rfl rfl; have g0_9 := F8.out.c 0 9 rfl rfl; have g0_10 := F8.out.c 0 10 rfl rfl)
                  have HDW := Lib.hid HI2.out.wf
                  go_upto_region 24 with (go_at_call 16; refine (HCOPY.out a b a9 c d c9 _ (F8.out.lw 0 rfl) (F8.out.lw 1 rfl) (F8.out.li 3 (k := .i64) (xs := data) rfl HDW.out)).mono ?_; rintro e w9 ⟨ax_, cx_, bx, dx, rfl, hf⟩; have F9 := Lib.hid (F8.out.join hf); simp only [List.cons_append, List.nil_append] at F9; clear hf F8 g0_0 g0_1 g0_2 g0_3 g0_4 g0_5 g0_6 g0_7 g0_8 g0_9 g0_10)
                  obtain ⟨X, hX⟩ : ∃ x, w9.heap.size = x := ⟨_, rfl⟩
                  rw [hX]
                  have FA := Lib.hid (F9.out.box1 (b := X) hX [.slice ax_ CS.length cx_, .slice bx CY.length dx] 28)
                  simp only [List.nil_append, List.cons_append] at FA
                  obtain ⟨WA, hWA⟩ : ∃ x, (w9.alloc (.cells #[.slice ax_ CS.length cx_, .slice bx CY.length dx] 28)) = x := ⟨_, rfl⟩
                  rw [hWA] at FA ⊢
                  clear hWA hX F9
                  have g0_0 := FA.out.c 0 0 rfl rfl
                  have g0_1 := FA.out.c 0 1 rfl rfl
                  have g0_2 := FA.out.c 0 2 rfl rfl
                  have g0_3 := FA.out.c 0 3 rfl rfl
                  have g0_4 := FA.out.c 0 4 rfl rfl
                  have g0_5 := FA.out.c 0 5 rfl rfl
                  have g0_6 := FA.out.c 0 6 rfl rfl
                  have g0_7 := FA.out.c 0 7 rfl rfl
                  have g0_8 := FA.out.c 0 8 rfl rfl
                  have g0_9 := FA.out.c 0 9 rfl rfl
                  have g0_10 := FA.out.c 0 10 rfl rfl
                  go_upto_region 25 with (go_at_call 17; refine (HLAY.out a b a9 tp tq c d c9 cp cq _ (FA.out.lw 0 rfl) (FA.out.lw 1 rfl) (FA.out.li 3 (k := .i64) (xs := data) rfl HDW.out) (FA.out.lw 3 rfl) (FA.out.lw 4 rfl)).mono ?_; rintro e w10 ⟨ay, cy, rfl, hf⟩; have FB := Lib.hid (FA.out.join hf); simp only [List.cons_append, List.nil_append] at FB; clear hf FA g0_0 g0_1 g0_2 g0_3 g0_4 g0_5 g0_6 g0_7 g0_8 g0_9 g0_10)
                  have g1_0 := FB.out.c 1 0 rfl rfl
                  have g1_1 := FB.out.c 1 1 rfl rfl
                  have g2_0 := FB.out.c 2 0 rfl rfl
                  have g2_1 := FB.out.c 2 1 rfl rfl
                  have heq := eqTensor_any ax_ bx aw bw cx_ dx cw dw CS CY CS CY w10 (FB.out.li 4 (k := .i64) (xs := CS) rfl HCSW.out) (FB.out.li 5 (k := .i64) (xs := CY) rfl HCYW.out) (FB.out.li 0 (k := .i64) (xs := CS) rfl HCSW.out) (FB.out.li 1 (k := .i64) (xs := CY) rfl HCYW.out)
                  simp only [decide_true, Bool.and_true] at heq
                  have HET := Lib.hid heq
                  clear heq
                  go_upto_region 27 with (first | (go_at_call 18; refine (num7_any _ _).mono ?_; rintro e w' ⟨rfl, rfl⟩) | (go_at_call 19; refine (HET.out).mono ?_; rintro e w11 ⟨rfl, hb⟩; have FC := Lib.hid (FB.out.next hb); clear hb FB g1_0 g1_1 g2_0 g2_1) | (go_at_call 20; refine (eqWords_any ay al cy cl _ LL LL _ (FC.out.li 6 (k := .i64) (xs := LL) rfl HLLW.out) (FC.out.li 2 (k := .i64) (xs := LL) rfl HLLW.out)).mono ?_; rintro e w' ⟨rfl, q10, rfl⟩; simp only [decide_true]; have FD := Lib.hid (FC.out.drewN q10); clear FC))
                  have g2_0 := FD.out.c 2 0 rfl rfl
                  have g2_1 := FD.out.c 2 1 rfl rfl
                  have g0_0 := FD.out.c 0 0 rfl rfl
                  have g0_1 := FD.out.c 0 1 rfl rfl
                  have g0_2 := FD.out.c 0 2 rfl rfl
                  have g0_3 := FD.out.c 0 3 rfl rfl
                  have g0_4 := FD.out.c 0 4 rfl rfl
                  have g0_5 := FD.out.c 0 5 rfl rfl
                  have g0_6 := FD.out.c 0 6 rfl rfl
                  have g0_7 := FD.out.c 0 7 rfl rfl
                  have g0_8 := FD.out.c 0 8 rfl rfl
                  have g0_9 := FD.out.c 0 9 rfl rfl
                  have g0_10 := FD.out.c 0 10 rfl rfl
                  skip
                  have hne : ∀ g, (Value.slice ax_ CS.length cx_).ownBlock = some g → (Value.slice bx CY.length dx).ownBlock ≠ some g := by
                    have hp := FD.out.apO
                    simp only [List.pairwise_cons] at hp
                    exact hp.2.2.2.2.1 _ (List.mem_cons_self ..)
                  have HNE := Lib.hid hne
                  clear hne
                  go_upto_region 28 with (go_at_call 21; refine (spoilT2_any ax_ bx cx_ dx wo.heap.size CS CY _ (FD.out.r 4 rfl) (FD.out.r 5 rfl) (HNE.out) (by omega) (by omega) FD.out.hlo).mono ?_; rintro e w12 ⟨rfl, U1, U2, hb1, hg2, hg3⟩; have FE := Lib.hid ((((FD.out.next hb1).spoil 4 rfl hg2)).spoil 4 rfl hg3); simp only [List.eraseIdx_cons_succ, List.eraseIdx_cons_zero, List.eraseIdx_zero, List.tail_cons] at FE; clear hb1 hg2 hg3 FD g2_0 g2_1 g0_0 g0_1 g0_2 g0_3 g0_4 g0_5 g0_6 g0_7 g0_8 g0_9 g0_10)
                  go_upto_region 29 with (go_at_call 22; refine (spoilW_any ay cy wo.heap.size LL _ (FE.out.r 4 rfl) (by omega) FE.out.hlo).mono ?_; rintro e w13 ⟨rfl, hg, _⟩; have FF := Lib.hid (FE.out.spoil 4 rfl hg); simp only [List.eraseIdx_cons_succ, List.eraseIdx_cons_zero, List.eraseIdx_zero, List.tail_cons] at FF; clear hg FE)
                  have g0_0 := FF.out.c 0 0 rfl rfl
                  have g0_1 := FF.out.c 0 1 rfl rfl
                  have g0_2 := FF.out.c 0 2 rfl rfl
                  have g0_3 := FF.out.c 0 3 rfl rfl
                  have g0_4 := FF.out.c 0 4 rfl rfl
                  have g0_5 := FF.out.c 0 5 rfl rfl
                  have g0_6 := FF.out.c 0 6 rfl rfl
                  have g0_7 := FF.out.c 0 7 rfl rfl
                  have g0_8 := FF.out.c 0 8 rfl rfl
                  have g0_9 := FF.out.c 0 9 rfl rfl
                  have g0_10 := FF.out.c 0 10 rfl rfl
                  go_wp2_with (go_at_call 20; refine (eqWords_any a9 ad c9 cd _ data data _ (FF.out.li 3 (k := .i64) (xs := data) rfl HDW.out) (FF.out.lw 2 rfl)).mono ?_; rintro e w' ⟨rfl, q11, rfl⟩; simp only [decide_true]; have FG := Lib.hid (FF.out.drewN q11); clear FF g0_0 g0_1 g0_2 g0_3 g0_4 g0_5 g0_6 g0_7 g0_8 g0_9 g0_10)
                  go_roundw
                  case rel => exact ⟨k + 1, by omega, by go_num, HB.out.trans (FG.out.bel.mono HB.out.size)⟩
                  case measure => simp [intOf]; omega
    · have HB := Lib.hid hbel
      clear hbel h
      have WK := fun W => Lib.hid (wakes7_any W)
      by_cases hlt : k < n
      · have hk15 : ¬ (k : Int) < 15 := by omega
        have hkn : (k : Int) < n := by omega
        go_wp2_with (go_at_call 23; refine ((WK _).out).mono ?_; rintro e w1 ⟨rfl, hb⟩; have HW1 := Lib.hid hb; clear hb)
        go_ret
        exact ⟨rfl, HB.out.trans (HW1.out.mono HB.out.size)⟩
      · obtain rfl : k = n := by omega
        go_wp2_with (go_at_call 23; refine ((WK _).out).mono ?_; rintro e w1 ⟨rfl, hb⟩; have HW1 := Lib.hid hb; clear hb)
        go_ret
        exact ⟨rfl, HB.out.trans (HW1.out.mono HB.out.size)⟩
end Go.Proofs.Ytnafbgkfhojamaa
