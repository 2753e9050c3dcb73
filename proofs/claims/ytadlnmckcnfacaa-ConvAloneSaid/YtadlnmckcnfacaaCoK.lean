/- The law ConvAlone, walked. -/
import Derived.Test.YtadlnmckcnfacaaCoA
import Derived.Test.YtadlnmckcnfacaaCoJ
import Derived.Test.YtadlnmckcnfacaaCoV
import Derived.Test.YtadlnmckcnfacaaRdV
set_option linter.unusedVariables false
set_option linter.unusedSimpArgs false
namespace Go.Proofs.Ytadlnmckcnfacaa
open Go.RowKit Go.Rt
attribute [local go_sem] Oper.semAt_some
theorem f_any (i : Int) (w : World) (hi : -9223372036854775808 ≤ i ∧ i ≤ 9223372036854775807) : Calls Try.prog 9 #[.int .i64 i] w fun e w' => e = .returned (.int .i64 (8 + withinN i 25)) ∧ w = w' := by
  have hb := withinN_bound i 25 (by decide)
  have hw := fun w => Lib.hid (within0_any i 25 w hi (by decide) (by decide))
  generalize withinN i 25 = N at *
  have e1 : RowKit.wrap64 (8 + N) = 8 + N := by unfold RowKit.wrap64; omega
  go_enter Try.func9, Try.ntmps9
  go_wp2_with (first | (go_at_call 30; refine (hw _).out.mono ?_; rintro e w' ⟨rfl, rfl⟩))
  go_ret
  exact ⟨ret_int (by first | rfl | omega), rfl⟩
theorem row_cap {W : World} {base : Nat} {e : TypeId} {g n c m : Nat} {xs : List Value} (h : W.ownsRow base e 1 (.slice (some ⟨g, 0, none⟩) n c) m xs) : n ≤ c ∧ c ≤ 9223372036854775807 := by
  rcases h.2 with ⟨h1, _⟩ | ⟨g', cap, cur, h1, _, _, h2, h3, _⟩
  · cases h1
  · cases h1
    exact ⟨h2, by unfold maxLen at h3; omega⟩
theorem ints_cut {k : IntKind} {w : World} {hi b o : Nat} {xs : List Int} (h : Ints k w hi (some ⟨b, o, none⟩) xs) (m l : Nat) : Ints k w hi (some ⟨b, o + m, none⟩) ((xs.drop m).take l) := by
  have h2 := ints_drop h m
  refine ⟨Nat.le_trans (List.length_take_le' _ _) h2.len, fun x hx => h2.wf x (List.mem_of_mem_take hx), fun i hi => ?_⟩
  have hl : i < l ∧ i < (xs.drop m).length := by rw [List.length_take] at hi; omega
  obtain ⟨b9, o9, he, h3, h4⟩ := h2.cell i hl.2
  exact ⟨b9, o9, he, h3, by rw [h4, List.getElem?_take, if_pos hl.1]⟩
set_option maxRecDepth 100000 in
set_option maxHeartbeats 8000000 in
theorem convAlone_any (q : Option Addr) (n c0 : Nat) (w : World) (h : AsksAt11 w w.heap.size q n) :
    Calls Try.prog 3 #[.slice q n c0] w fun e w' => e = .returned (.bool true) ∧ Below w.heap.size w w' := by
  have hm := h.len
  go_enter Try.func3, Try.ntmps3
  go_wp2_with fail
  go_loopw [3] (fun i wr => ∃ k : Nat, k ≤ n ∧ i = .int .i64 k ∧ Below w.heap.size w wr) (fun i _ => n - (intOf i).toNat)
  case atStart => exact ⟨0, Nat.zero_le _, rfl, Below.refl _ _⟩
  case round =>
    obtain ⟨k, hk, rfl, hbel⟩ := hrel
    obtain ⟨wo, rfl⟩ : ∃ wo : World, wo = wr := ⟨_, rfl⟩
    by_cases hend : k < n ∧ k < 4
    · obtain ⟨hlt, h20⟩ := hend
      obtain ⟨b0, o_, ⟨a, c, b, d, xs, ys⟩, ⟨a2, c2, b2, dw, ws, vs⟩, aQ, aS, aP, aD, aI, aJ, cQ, cS, cP, cD, cI, cJ, Q, S, P, D, I, J, f, rfl, ht⟩ := h.at_ k hlt
      replace ht := ht.below hbel
      have hsz := hbel.size
      have HB := Lib.hid hbel
      obtain ⟨wv, hwv⟩ : ∃ v : WinV, v = ⟨xs.drop 2, ws.drop 2, S, P, D⟩ := ⟨_, rfl⟩
      obtain ⟨rfl, rfl, rfl⟩ : S = wv.S ∧ P = wv.P ∧ D = wv.D := by rw [hwv]; exact ⟨rfl, rfl, rfl⟩
      have HL := Lib.hid (show wv.L = xs.drop 2 by rw [hwv])
      have HK := Lib.hid (show wv.K = ws.drop 2 by rw [hwv])
      clear hwv
      have tA := ht.tA
      have tB := ht.tB
      dsimp only at tA tB
      have HI0 := Lib.hid (tA.sh.mono hsz)
      have HI1 := Lib.hid (tA.da.mono hsz)
      have HI2 := Lib.hid (tB.sh.mono hsz)
      have HI3 := Lib.hid (tB.da.mono hsz)
      have HI4 := Lib.hid (ht.tQ.mono hsz)
      have HI5 := Lib.hid (ht.tS.mono hsz)
      have HI6 := Lib.hid (ht.tP.mono hsz)
      have HI7 := Lib.hid (ht.tD.mono hsz)
      have HI8 := Lib.hid (ht.tI.mono hsz)
      have HI9 := Lib.hid (ht.tJ.mono hsz)
      have HF9 := Lib.hid (And.intro ht.f0 ht.f1)
      have HC1 := Lib.hid (And.intro tA.c1 tA.c2)
      have HC2 := Lib.hid (And.intro tA.d1 tA.d2)
      have HC3 := Lib.hid (And.intro tB.c1 tB.c2)
      have HC4 := Lib.hid (And.intro tB.d1 tB.d2)
      have HHV := Lib.hid (fun W h0 h1 h2 h3 h4 h5 h6 h7 h8 h9 => heavy11_any a b a2 b2 aQ aS aP aD aI aJ c d c2 dw cQ cS cP cD cI cJ xs ys ws vs Q wv.S wv.P wv.D I J f W h0 h1 h2 h3 h4 h5 h6 h7 h8 h9 HC3.out.1)
      have HTX := Lib.hid (fun W (h : Ints .i64 W W.heap.size a xs) (h2 : Ints .i64 W W.heap.size b ys) => tenMay_any a b c d xs ys W h h2)
      have HTW := Lib.hid (fun W (h : Ints .i64 W W.heap.size a2 ws) (h2 : Ints .i64 W W.heap.size b2 vs) => tenMay_any a2 b2 c2 dw ws vs W h h2)

      have q0 := ht.c0
      have q1 := ht.c1
      have q2 := ht.c2
      have q3 := ht.c3
      have q4 := ht.c4
      have q5 := ht.c5
      have q6 := ht.c6
      have q7 := ht.c7
      have q8 := ht.c8
      have q9 := ht.c9
      have q10 := ht.c10
      dsimp only at q0 q1 q2 q3 q4 q5 q6 q7 q8 q9 q10
      clear ht tA tB hbel h
      have F1 := Lib.hid ((Fr.start (w := wo) (I := [(.i64, a, xs), (.i64, b, ys), (.i64, a2, ws), (.i64, b2, vs), (.i64, aQ, Q), (.i64, aS, wv.S), (.i64, aP, wv.P), (.i64, aD, wv.D), (.i64, aI, I), (.i64, aJ, J)]) (by intro z hz; simp at hz; rcases hz with rfl | rfl | rfl | rfl | rfl | rfl | rfl | rfl | rfl | rfl; exact HI0.out; exact HI1.out; exact HI2.out; exact HI3.out; exact HI4.out; exact HI5.out; exact HI6.out; exact HI7.out; exact HI8.out; exact HI9.out)).box1 (b := wo.heap.size) rfl [.slice a xs.length c, .slice b ys.length d, .slice a2 ws.length c2, .slice b2 vs.length dw, .slice aQ Q.length cQ, .slice aS wv.S.length cS, .slice aP wv.P.length cP, .slice aD wv.D.length cD, .slice aI I.length cI, .slice aJ J.length cJ, .int .i64 f] 30)
      simp only [List.nil_append] at F1
      clear HI0 HI1 HI2 HI3 HI4 HI5 HI6 HI7 HI8 HI9
      go_upto_region 5 with fail
      obtain ⟨W1, hW1⟩ : ∃ W1, wo.alloc (.cells #[.slice a xs.length c, .slice b ys.length d, .slice a2 ws.length c2, .slice b2 vs.length dw, .slice aQ Q.length cQ, .slice aS wv.S.length cS, .slice aP wv.P.length cP, .slice aD wv.D.length cD, .slice aI I.length cI, .slice aJ J.length cJ, .int .i64 f] 30) = W1 := ⟨_, rfl⟩
      rw [hW1] at F1 ⊢
      clear hW1 q0 q1 q2 q3 q4 q5 q6 q7 q8 q9 q10
      have c0_0 := F1.out.c 0 0 rfl rfl
      have c0_1 := F1.out.c 0 1 rfl rfl
      have c0_2 := F1.out.c 0 2 rfl rfl
      have c0_3 := F1.out.c 0 3 rfl rfl
      have c0_4 := F1.out.c 0 4 rfl rfl
      have c0_5 := F1.out.c 0 5 rfl rfl
      have c0_6 := F1.out.c 0 6 rfl rfl
      have c0_7 := F1.out.c 0 7 rfl rfl
      have c0_8 := F1.out.c 0 8 rfl rfl
      have c0_9 := F1.out.c 0 9 rfl rfl
      have c0_10 := F1.out.c 0 10 rfl rfl
      go_upto_if 33 with (first | (go_at_call 7; refine (HHV.out W1 (F1.out.lw 0 rfl) (F1.out.lw 1 rfl) (F1.out.lw 2 rfl) (F1.out.lw 3 rfl) (F1.out.lw 4 rfl) (F1.out.lw 5 rfl) (F1.out.lw 6 rfl) (F1.out.lw 7 rfl) (F1.out.lw 8 rfl) (F1.out.lw 9 rfl)).mono ?_; rintro e w2 ⟨⟨hvB, rfl, hlt9⟩, hb⟩; have F2 := Lib.hid (F1.out.next hb); have HLT := Lib.hid hlt9; clear hb hlt9 F1 c0_0 c0_1 c0_2 c0_3 c0_4 c0_5 c0_6 c0_7 c0_8 c0_9 c0_10; have c0_0 := F2.out.c 0 0 rfl rfl; have c0_1 := F2.out.c 0 1 rfl rfl; have c0_2 := F2.out.c 0 2 rfl rfl; have c0_3 := F2.out.c 0 3 rfl rfl; have c0_4 := F2.out.c 0 4 rfl rfl; have c0_5 := F2.out.c 0 5 rfl rfl; have c0_6 := F2.out.c 0 6 rfl rfl; have c0_7 := F2.out.c 0 7 rfl rfl; have c0_8 := F2.out.c 0 8 rfl rfl; have c0_9 := F2.out.c 0 9 rfl rfl; have c0_10 := F2.out.c 0 10 rfl rfl) | fail)
      cases hvB with
      | true =>
        go_wp2
        go_ret
        exact ⟨rfl, HB.out.trans (F2.out.bel.mono HB.out.size)⟩
      | false =>
        have HLI := Lib.hid (HLT.out rfl)
        clear HLT HHV
        have htx := HTX.out
        clear HTX
        cases htb : tenB xs ys with
        | false =>
          rw [htb] at htx
          have HTX := Lib.hid htx
          clear htx htb
          go_wp2_with (first | (go_at_call 8; refine (HTX.out _ (F2.out.lw 0 rfl) (F2.out.lw 1 rfl)).mono ?_; rintro e w3 ⟨rfl, hb⟩; have F3 := Lib.hid (F2.out.next hb); clear hb F2 HTX c0_0 c0_1 c0_2 c0_3 c0_4 c0_5 c0_6 c0_7 c0_8 c0_9 c0_10; have c0_0 := F3.out.c 0 0 rfl rfl; have c0_1 := F3.out.c 0 1 rfl rfl; have c0_2 := F3.out.c 0 2 rfl rfl; have c0_3 := F3.out.c 0 3 rfl rfl; have c0_4 := F3.out.c 0 4 rfl rfl; have c0_5 := F3.out.c 0 5 rfl rfl; have c0_6 := F3.out.c 0 6 rfl rfl; have c0_7 := F3.out.c 0 7 rfl rfl; have c0_8 := F3.out.c 0 8 rfl rfl; have c0_9 := F3.out.c 0 9 rfl rfl; have c0_10 := F3.out.c 0 10 rfl rfl) | fail)
          go_roundw
          case rel => exact ⟨k + 1, by omega, by go_num, HB.out.trans (F3.out.bel.mono HB.out.size)⟩
          case measure => simp [intOf]; omega
        | true =>
          rw [htb] at htx
          have HTX := Lib.hid htx
          have HTA := Lib.hid htb
          clear htx htb
          have htw := HTW.out
          clear HTW
          cases htb : tenB ws vs with
          | false =>
            rw [htb] at htw
            have HTW := Lib.hid htw
            clear htw htb
            go_wp2_with (first | (go_at_call 8; refine (HTX.out _ (F2.out.lw 0 rfl) (F2.out.lw 1 rfl)).mono ?_; rintro e w3 ⟨rfl, hb⟩; have F3 := Lib.hid (F2.out.next hb); clear hb F2 HTX c0_0 c0_1 c0_2 c0_3 c0_4 c0_5 c0_6 c0_7 c0_8 c0_9 c0_10; have c0_0 := F3.out.c 0 0 rfl rfl; have c0_1 := F3.out.c 0 1 rfl rfl; have c0_2 := F3.out.c 0 2 rfl rfl; have c0_3 := F3.out.c 0 3 rfl rfl; have c0_4 := F3.out.c 0 4 rfl rfl; have c0_5 := F3.out.c 0 5 rfl rfl; have c0_6 := F3.out.c 0 6 rfl rfl; have c0_7 := F3.out.c 0 7 rfl rfl; have c0_8 := F3.out.c 0 8 rfl rfl; have c0_9 := F3.out.c 0 9 rfl rfl; have c0_10 := F3.out.c 0 10 rfl rfl) | (go_at_call 8; refine (HTW.out _ (F3.out.lw 2 rfl) (F3.out.lw 3 rfl)).mono ?_; rintro e w4 ⟨rfl, hb⟩; have F4 := Lib.hid (F3.out.next hb); clear hb F3 c0_0 c0_1 c0_2 c0_3 c0_4 c0_5 c0_6 c0_7 c0_8 c0_9 c0_10; have c0_0 := F4.out.c 0 0 rfl rfl; have c0_1 := F4.out.c 0 1 rfl rfl; have c0_2 := F4.out.c 0 2 rfl rfl; have c0_3 := F4.out.c 0 3 rfl rfl; have c0_4 := F4.out.c 0 4 rfl rfl; have c0_5 := F4.out.c 0 5 rfl rfl; have c0_6 := F4.out.c 0 6 rfl rfl; have c0_7 := F4.out.c 0 7 rfl rfl; have c0_8 := F4.out.c 0 8 rfl rfl; have c0_9 := F4.out.c 0 9 rfl rfl; have c0_10 := F4.out.c 0 10 rfl rfl) | fail)
            go_roundw
            case rel => exact ⟨k + 1, by omega, by go_num, HB.out.trans (F4.out.bel.mono HB.out.size)⟩
            case measure => simp [intOf]; omega
          | true =>
            rw [htb] at htw
            have HTW := Lib.hid htw
            have HTB := Lib.hid htb
            clear htw htb
            go_upto_region 8 with (first | (go_at_call 8; refine (HTX.out _ (F2.out.lw 0 rfl) (F2.out.lw 1 rfl)).mono ?_; rintro e w3 ⟨rfl, hb⟩; have F3 := Lib.hid (F2.out.next hb); clear hb F2 HTX c0_0 c0_1 c0_2 c0_3 c0_4 c0_5 c0_6 c0_7 c0_8 c0_9 c0_10; have c0_0 := F3.out.c 0 0 rfl rfl; have c0_1 := F3.out.c 0 1 rfl rfl; have c0_2 := F3.out.c 0 2 rfl rfl; have c0_3 := F3.out.c 0 3 rfl rfl; have c0_4 := F3.out.c 0 4 rfl rfl; have c0_5 := F3.out.c 0 5 rfl rfl; have c0_6 := F3.out.c 0 6 rfl rfl; have c0_7 := F3.out.c 0 7 rfl rfl; have c0_8 := F3.out.c 0 8 rfl rfl; have c0_9 := F3.out.c 0 9 rfl rfl; have c0_10 := F3.out.c 0 10 rfl rfl) | (go_at_call 8; refine (HTW.out _ (F3.out.lw 2 rfl) (F3.out.lw 3 rfl)).mono ?_; rintro e w4 ⟨rfl, hb⟩; have F4 := Lib.hid (F3.out.next hb); clear hb F3 c0_0 c0_1 c0_2 c0_3 c0_4 c0_5 c0_6 c0_7 c0_8 c0_9 c0_10; have c0_0 := F4.out.c 0 0 rfl rfl; have c0_1 := F4.out.c 0 1 rfl rfl; have c0_2 := F4.out.c 0 2 rfl rfl; have c0_3 := F4.out.c 0 3 rfl rfl; have c0_4 := F4.out.c 0 4 rfl rfl; have c0_5 := F4.out.c 0 5 rfl rfl; have c0_6 := F4.out.c 0 6 rfl rfl; have c0_7 := F4.out.c 0 7 rfl rfl; have c0_8 := F4.out.c 0 8 rfl rfl; have c0_9 := F4.out.c 0 9 rfl rfl; have c0_10 := F4.out.c 0 10 rfl rfl) | fail)
            obtain ⟨fb, hfb⟩ : ∃ z : Int, 8 + withinN f 25 = z := ⟨_, rfl⟩
            have hwb := withinN_bound f 25 (by decide)
            have HFB := Lib.hid (show 8 ≤ fb ∧ fb ≤ 32 by rw [← hfb]; omega)
            have hfa := fun W => f_any f W HF9.out
            rw [hfb] at hfa
            clear hwb
            go_upto_region 9 with (first | (go_at_call 9; refine (hfa _).mono ?_; rintro e w5 ⟨rfl, rfl⟩; skip) | fail)
            clear hfa hfb HTW
            have hcv := fun W h h2 k k2 hQ hS hP hD => conv_any a b a2 b2 c d c2 dw xs ys ws vs aQ aS aP aD cQ cS cP cD Q wv fb W h h2 k k2 hQ hS hP hD HL.out HK.out HC1.out.1 HC1.out.2 HC3.out.1 HC3.out.2
            obtain ⟨z, hz⟩ : ∃ z, cvZ xs ys ws vs Q wv fb = z := ⟨_, rfl⟩
            rw [hz] at hcv
            obtain ⟨SH, hSH⟩ : ∃ l, zL z (coS xs ws wv) = l := ⟨_, rfl⟩
            obtain ⟨YS, hYS⟩ : ∃ l, zL z ((List.range (cvN xs ws wv)).map (cvW xs ys ws vs wv fb.toNat)) = l := ⟨_, rfl⟩
            rw [hSH, hYS] at hcv
            have HCV := Lib.hid hcv
            have Hz := Lib.hid hz
            have HSH := Lib.hid hSH
            have HYS := Lib.hid hYS
            clear hcv hz hSH hYS
            go_upto_region 10 with (first | (go_at_call 10; refine (HCV.out _ (F4.out.lw 0 rfl) (F4.out.lw 1 rfl) (F4.out.lw 2 rfl) (F4.out.lw 3 rfl) (F4.out.lw 4 rfl) (F4.out.lw 5 rfl) (F4.out.lw 6 rfl) (F4.out.lw 7 rfl)).mono ?_; rintro e w6 ⟨aT, cT, bT, dT, rfl, hf⟩; have F6 := Lib.hid (F4.out.join hf); simp only [List.nil_append] at F6; clear hf F4 c0_0 c0_1 c0_2 c0_3 c0_4 c0_5 c0_6 c0_7 c0_8 c0_9 c0_10) | fail)
            obtain ⟨Q6, hQ6⟩ : ∃ x, w6.heap.size = x := ⟨_, rfl⟩
            rw [hQ6]
            have F7 := Lib.hid (F6.out.box1 (b := Q6) hQ6 [.slice aT SH.length cT, .slice bT YS.length dT] 26)
            simp only [List.nil_append, List.cons_append] at F7
            obtain ⟨W7, hW7⟩ : ∃ x, (w6.alloc (.cells #[.slice aT SH.length cT, .slice bT YS.length dT] 26)) = x := ⟨_, rfl⟩
            rw [hW7] at F7 ⊢
            clear hW7 hQ6 F6
            have c0_0 := F7.out.c 0 0 rfl rfl
            have c0_1 := F7.out.c 0 1 rfl rfl
            have c0_2 := F7.out.c 0 2 rfl rfl
            have c0_3 := F7.out.c 0 3 rfl rfl
            have c0_4 := F7.out.c 0 4 rfl rfl
            have c0_5 := F7.out.c 0 5 rfl rfl
            have c0_6 := F7.out.c 0 6 rfl rfl
            have c0_7 := F7.out.c 0 7 rfl rfl
            have c0_8 := F7.out.c 0 8 rfl rfl
            have c0_9 := F7.out.c 0 9 rfl rfl
            have c0_10 := F7.out.c 0 10 rfl rfl
            have c1_0 := F7.out.c 1 0 rfl rfl
            have c1_1 := F7.out.c 1 1 rfl rfl
            by_cases hz0 : z = 0
            · skip
              have hzb : (z != 0) = false := by simp [hz0]
              have hco : SH = coS xs ws wv := by rw [← HSH.out, hz0, zL_0]
              have HCO := Lib.hid hco
              clear hco
              have hc0 := Hz.out
              rw [hz0] at hc0
              have hff : formZ xs ys ws vs Q wv fb = true := by
                unfold cvZ at hc0
                by_cases h : formZ xs ys ws vs Q wv fb = true
                · exact h
                · rw [if_neg h] at hc0; cases hc0
              have hoz : coutZ xs ws wv = 0 := by
                unfold cvZ at hc0
                rw [if_pos hff] at hc0
                by_cases h : coutZ xs ws wv = 0
                · exact h
                · rw [if_neg h] at hc0; exact hc0
              have hall : allW xs ys ws vs wv fb.toNat = true := by
                unfold cvZ at hc0
                rw [if_pos hff, if_pos hoz] at hc0
                by_cases h : allW xs ys ws vs wv fb.toNat = true
                · exact h
                · rw [if_neg h] at hc0; cases hc0
              obtain ⟨_, R, K⟩ := conv_ok HL.out HK.out hff hoz
              obtain ⟨N, M, T, C, o, NN, hNN, K⟩ : ∃ N M T C o NN, cvN xs ws wv = NN ∧ ConvOK xs ys ws vs wv N M T C o R NN := ⟨_, _, _, _, _, _, rfl, K⟩
              have HNN := Lib.hid hNN
              clear hNN
              have HFF := Lib.hid hff
              have HOZ := Lib.hid hoz
              have HAL := Lib.hid hall
              have HKK := Lib.hid K
              have HSL := Lib.hid (show SH.length = 2 + wv.O.length by rw [HCO.out]; unfold coS; simp; omega)
              have hS3 : ¬ (SH.length : Int) < 3 := by have h1 := HSL.out; have h2 := wv.O_len; have h3 := K.hr; omega
              clear hc0 hff hoz hall K
              go_upto_region 11 with (first | (go_at_call 11; refine (num11_any _ _).mono ?_; rintro e w' ⟨rfl, rfl⟩) | fail)
              obtain ⟨CM, hCM⟩ : ∃ z : Nat, C * M = z := ⟨_, rfl⟩
              have HYL := Lib.hid (show ys.length = R * CM by rw [← hCM]; exact HKK.out.yl)
              have HCMe := Lib.hid hCM
              obtain ⟨CT, hCT⟩ : ∃ z : Nat, C * T = z := ⟨_, rfl⟩
              have HVL := Lib.hid (show vs.length = o * CT by rw [← hCT]; exact HKK.out.vl)
              have HCTe := Lib.hid hCT
              have HTL := Lib.hid (show YS.length = NN by rw [← HYS.out, hz0, zL_0, HNN.out]; simp)
              have hb9 := HKK.out.bounds
              have HCM1 := Lib.hid (show 1 ≤ CM by rw [← hCM]; exact Nat.mul_pos HKK.out.c1 HKK.out.m1)
              have HCT1 := Lib.hid (show 1 ≤ CT by rw [← hCT]; exact Nat.mul_pos HKK.out.c1 HKK.out.t1)
              have hlx := HKK.out.lx
              have hlw := HKK.out.lw
              have hlr := HKK.out.hr
              have hr1 := HKK.out.r1
              have ho1 := HKK.out.o1
              have hn1 := HKK.out.n1
              have hmR := Nat.le_mul_of_pos_left CM hr1
              have hmo := Nat.le_mul_of_pos_left CT ho1
              obtain ⟨RO, hRO⟩ : ∃ z : Nat, R * o = z := ⟨_, rfl⟩
              have hRO1 : 1 ≤ RO := by rw [← hRO]; exact Nat.mul_pos hr1 ho1
              have hNNr : NN = RO * N := by rw [← hRO]; exact HKK.out.nn
              have hROle : RO ≤ RO * N := Nat.le_mul_of_pos_right RO hn1
              have HB9 := Lib.hid (show CM ≤ 65536 ∧ CT ≤ 65536 ∧ RO ≤ 65536 ∧ 1 ≤ RO ∧ R ≤ 4096 ∧ o ≤ 4096 ∧ N ≤ 65536 ∧ 1 ≤ R ∧ 1 ≤ o ∧ 1 ≤ N by have h1 := HYL.out; have h2 := HVL.out; omega)
              have HROe := Lib.hid hRO
              have HNR := Lib.hid hNNr
              obtain ⟨gX, oX, rfl, _, _⟩ := (F7.out.l 0 rfl).cell 0 (by omega)
              obtain ⟨gY, oY, rfl, _, _⟩ := (F7.out.l 1 rfl).cell 0 (by have h := HCM1.out; rw [HYL.out]; omega)
              obtain ⟨gW, oW, rfl, _, _⟩ := (F7.out.l 2 rfl).cell 0 (by omega)
              obtain ⟨gV, oV, rfl, _, _⟩ := (F7.out.l 3 rfl).cell 0 (by have h := HCT1.out; rw [HVL.out]; omega)
              obtain ⟨bT', dT', he, hsh⟩ := own_shape (F7.out.r 1 rfl)
              simp only [Value.slice.injEq] at he
              obtain ⟨rfl, _, rfl⟩ := he
              obtain ⟨gT, rfl, _⟩ := hsh.resolve_left (show ¬ YS.length = 0 by rw [HTL.out]; omega)
              clear hsh
              have HX3 := Lib.hid (show 3 ≤ xs.length by omega)
              have HXL9 := Lib.hid (show xs.length ≤ 1000 by obtain ⟨⟨_, h⟩, _⟩ := HLI.out; omega)
              have HWL9 := Lib.hid (show ws.length ≤ 1000 by obtain ⟨_, ⟨_, h⟩, _⟩ := HLI.out; omega)
              have HW3 := Lib.hid (show 3 ≤ ws.length by omega)
              have HXR := Lib.hid HKK.out.hRe
              have HWO := Lib.hid HKK.out.ho
              clear hb9 hlx hlw hlr hr1 ho1 hn1 hmR hmo hRO hRO1 hNNr hROle hCM hCT
              clear c0_0 c0_1 c0_2 c0_3 c0_4 c0_5 c0_6 c0_7 c0_8 c0_9 c0_10 c1_0 c1_1
              have HQ11 := Lib.hid (show Int.tdiv (ys.length : Int) (R : Int) = (CM : Int) by have h := HB9.out; rw [Int.tdiv_eq_ediv_of_nonneg (by omega), HYL.out, Int.natCast_mul]; exact Int.mul_ediv_cancel_left _ (by omega))
              have HQ12 := Lib.hid (show Int.tdiv (vs.length : Int) (o : Int) = (CT : Int) by have h := HB9.out; rw [Int.tdiv_eq_ediv_of_nonneg (by omega), HVL.out, Int.natCast_mul]; exact Int.mul_ediv_cancel_left _ (by omega))
              have HQ13 := Lib.hid (show Int.tdiv (YS.length : Int) (RO : Int) = (N : Int) by have h := HB9.out; rw [Int.tdiv_eq_ediv_of_nonneg (by omega), HTL.out, HNR.out, Int.natCast_mul]; exact Int.mul_ediv_cancel_left _ (by omega))
              refine wp_region_parts2 (w := W7) 11 0 none [] [(fun u _ => u = .pointer (some ⟨wo.heap.size, 0, none⟩)), (fun u _ => u = .pointer (some ⟨wo.heap.size, 1, none⟩)), (fun u _ => u = .slice (some ⟨gY, oY, none⟩) ys.length d), (fun u _ => u = .int .i64 (ys.length : Int)), (fun u _ => u = .pointer (some ⟨wo.heap.size, 0, none⟩)), (fun u _ => u = .pointer (some ⟨wo.heap.size, 0, none⟩)), (fun u _ => u = .slice (some ⟨gX, oX, none⟩) xs.length c), (fun u _ => u = .pointer (some ⟨gX, oX, none⟩)), (fun u _ => u = .int .i64 (R : Int)), (fun u _ => u = .int .i64 (CM : Int)), (fun u _ => u = .int .i64 (CM : Int))] [some 67, some 68, some 69, some 70, some 71, some 72, some 73, some 74, some 75, some 76, some 8] #[true, true, true, true, true, true, true, true, true, true, true] #[true, true, true, true, true, true, true, true, true, true, true] (by kernel_rfl) rfl (by kernel_rfl) (by kernel_rfl) rfl (by kernel_rfl) (by kernel_rfl) (.cons (carries_eq _) (.cons (carries_eq _) (.cons (carries_eq _) (.cons (carries_eq _) (.cons (carries_eq _) (.cons (carries_eq _) (.cons (carries_eq _) (.cons (carries_eq _) (.cons (carries_eq _) (.cons (carries_eq _) (.cons (carries_eq _) .nil))))))))))) (fun vs b hvl hvb => ?_)
              obtain ⟨x0, x1, x2, x3, x4, x5, x6, x7, x8, x9, x10, rfl⟩ : ∃ x0 x1 x2 x3 x4 x5 x6 x7 x8 x9 x10, vs = [x0, x1, x2, x3, x4, x5, x6, x7, x8, x9, x10] := lw11 hvl
              clear hvl
              simp only [putAll, Act.put, List.setIfInBounds_toArray, List.set_cons_zero, List.set_cons_succ] at hvb
              subst hvb
              refine ⟨(.snoc (.snoc (.snoc (.snoc (.snoc (.snoc (.snoc (.snoc (.snoc (.snoc (.snoc .zero (PartOb.intro (d := (some 67)) (r := fun u _ => u = .pointer (some ⟨wo.heap.size, 0, none⟩)) rfl rfl rfl rfl ?po11x0)) (PartOb.intro (d := (some 68)) (r := fun u _ => u = .pointer (some ⟨wo.heap.size, 1, none⟩)) rfl rfl rfl rfl ?po11x1)) (PartOb.intro (d := (some 69)) (r := fun u _ => u = .slice (some ⟨gY, oY, none⟩) ys.length d) rfl rfl rfl rfl ?po11x2)) (PartOb.intro (d := (some 70)) (r := fun u _ => u = .int .i64 (ys.length : Int)) rfl rfl rfl rfl ?po11x3)) (PartOb.intro (d := (some 71)) (r := fun u _ => u = .pointer (some ⟨wo.heap.size, 0, none⟩)) rfl rfl rfl rfl ?po11x4)) (PartOb.intro (d := (some 72)) (r := fun u _ => u = .pointer (some ⟨wo.heap.size, 0, none⟩)) rfl rfl rfl rfl ?po11x5)) (PartOb.intro (d := (some 73)) (r := fun u _ => u = .slice (some ⟨gX, oX, none⟩) xs.length c) rfl rfl rfl rfl ?po11x6)) (PartOb.intro (d := (some 74)) (r := fun u _ => u = .pointer (some ⟨gX, oX, none⟩)) rfl rfl rfl rfl ?po11x7)) (PartOb.intro (d := (some 75)) (r := fun u _ => u = .int .i64 (R : Int)) rfl rfl rfl rfl ?po11x8)) (PartOb.intro (d := (some 76)) (r := fun u _ => u = .int .i64 (CM : Int)) rfl rfl rfl rfl ?po11x9)) (PartOb.intro (d := (some 8)) (r := fun u _ => u = .int .i64 (CM : Int)) rfl rfl rfl rfl ?po11x10)), ?pend11, ?pfl11⟩
              case po11x0 =>
                intro w1 hb1 hd KK hK
                clear hd
                simp only [Act.put, List.setIfInBounds_toArray, List.set_cons_zero, List.set_cons_succ] at hK
                go_simp
                first | exact hK.out _ _ (Below.refl _ _) rfl | (have hk := hK.out _ _ (Below.refl _ _) rfl; revert hk; go_simp)
              case po11x1 =>
                intro w1 hb1 hd KK hK
                have d0 : x0 = .pointer (some ⟨wo.heap.size, 0, none⟩) := hd 0 (by kernel_rfl)
                clear hd
                subst d0
                simp only [Act.put, List.setIfInBounds_toArray, List.set_cons_zero, List.set_cons_succ] at hK
                go_simp
                first | exact hK.out _ _ (Below.refl _ _) rfl | (have hk := hK.out _ _ (Below.refl _ _) rfl; revert hk; go_simp)
              case po11x2 =>
                intro w1 hb1 hd KK hK
                have d1 : x1 = .pointer (some ⟨wo.heap.size, 1, none⟩) := hd 1 (by kernel_rfl)
                clear hd
                subst d1
                have hF := F7.out.next hb1
                have k1 := hF.c 0 1 rfl rfl
                simp only [Act.put, List.setIfInBounds_toArray, List.set_cons_zero, List.set_cons_succ] at hK
                go_simp
                first | exact hK.out _ _ (Below.refl _ _) rfl | (have hk := hK.out _ _ (Below.refl _ _) rfl; revert hk; go_simp)
              case po11x3 =>
                intro w1 hb1 hd KK hK
                have d2 : x2 = .slice (some ⟨gY, oY, none⟩) ys.length d := hd 2 (by kernel_rfl)
                clear hd
                subst d2
                simp only [Act.put, List.setIfInBounds_toArray, List.set_cons_zero, List.set_cons_succ] at hK
                go_simp
                first | exact hK.out _ _ (Below.refl _ _) rfl | (have hk := hK.out _ _ (Below.refl _ _) rfl; revert hk; go_simp)
              case po11x4 =>
                intro w1 hb1 hd KK hK
                clear hd
                simp only [Act.put, List.setIfInBounds_toArray, List.set_cons_zero, List.set_cons_succ] at hK
                go_simp
                first | exact hK.out _ _ (Below.refl _ _) rfl | (have hk := hK.out _ _ (Below.refl _ _) rfl; revert hk; go_simp)
              case po11x5 =>
                intro w1 hb1 hd KK hK
                have d4 : x4 = .pointer (some ⟨wo.heap.size, 0, none⟩) := hd 4 (by kernel_rfl)
                clear hd
                subst d4
                simp only [Act.put, List.setIfInBounds_toArray, List.set_cons_zero, List.set_cons_succ] at hK
                go_simp
                first | exact hK.out _ _ (Below.refl _ _) rfl | (have hk := hK.out _ _ (Below.refl _ _) rfl; revert hk; go_simp)
              case po11x6 =>
                intro w1 hb1 hd KK hK
                have d5 : x5 = .pointer (some ⟨wo.heap.size, 0, none⟩) := hd 5 (by kernel_rfl)
                clear hd
                subst d5
                have hF := F7.out.next hb1
                have k0 := hF.c 0 0 rfl rfl
                simp only [Act.put, List.setIfInBounds_toArray, List.set_cons_zero, List.set_cons_succ] at hK
                go_simp
                first | exact hK.out _ _ (Below.refl _ _) rfl | (have hk := hK.out _ _ (Below.refl _ _) rfl; revert hk; go_simp)
              case po11x7 =>
                intro w1 hb1 hd KK hK
                have d6 : x6 = .slice (some ⟨gX, oX, none⟩) xs.length c := hd 6 (by kernel_rfl)
                clear hd
                subst d6
                have g9 := HX3.out
                have g1 : (0 : Int) < (xs.length : Int) := by omega
                have g2 : ¬ xs = [] := by intro h; rw [h] at g9; exact absurd g9 (by simp)
                have g3 : 0 < xs.length := by omega
                simp only [Act.put, List.setIfInBounds_toArray, List.set_cons_zero, List.set_cons_succ] at hK
                go_simp
                first | exact hK.out _ _ (Below.refl _ _) rfl | (have hk := hK.out _ _ (Below.refl _ _) rfl; revert hk; go_simp)
              case po11x8 =>
                intro w1 hb1 hd KK hK
                have d7 : x7 = .pointer (some ⟨gX, oX, none⟩) := hd 7 (by kernel_rfl)
                clear hd
                subst d7
                have hF := F7.out.next hb1
                have g9 := HX3.out
                obtain ⟨b9, o9, he, _, hcx⟩ := (hF.l 0 rfl).cell 0 (by omega)
                cases he
                rw [HXR.out, Nat.add_zero] at hcx
                simp only [Act.put, List.setIfInBounds_toArray, List.set_cons_zero, List.set_cons_succ] at hK
                go_simp
                first | exact hK.out _ _ (Below.refl _ _) rfl | (have hk := hK.out _ _ (Below.refl _ _) rfl; revert hk; go_simp)
              case po11x9 =>
                intro w1 hb1 hd KK hK
                have d3 : x3 = .int .i64 (ys.length : Int) := hd 3 (by kernel_rfl)
                have d8 : x8 = .int .i64 (R : Int) := hd 8 (by kernel_rfl)
                clear hd
                subst d3
                subst d8
                have hb := HB9.out
                have g0 : ¬ (R : Int) = 0 := by omega
                have g1 : ¬ R = 0 := by omega
                clear hb
                have g3 : IntKind.i64.wrap (CM : Int) = (CM : Int) := IntWalk.i64_in _ (by have h := HB9.out; omega)
                have g2 : ∀ [Inhabited Unit], Int.tdiv (ys.length : Int) (R : Int) = (CM : Int) := by intro _; exact HQ11.out
                simp only [Act.put, List.setIfInBounds_toArray, List.set_cons_zero, List.set_cons_succ] at hK
                go_simp
                first | exact hK.out _ _ (Below.refl _ _) rfl | (have hk := hK.out _ _ (Below.refl _ _) rfl; revert hk; go_simp)
              case po11x10 =>
                intro w1 hb1 hd KK hK
                have d0 : x0 = .pointer (some ⟨wo.heap.size, 0, none⟩) := hd 0 (by kernel_rfl)
                have d1 : x1 = .pointer (some ⟨wo.heap.size, 1, none⟩) := hd 1 (by kernel_rfl)
                have d2 : x2 = .slice (some ⟨gY, oY, none⟩) ys.length d := hd 2 (by kernel_rfl)
                have d3 : x3 = .int .i64 (ys.length : Int) := hd 3 (by kernel_rfl)
                have d4 : x4 = .pointer (some ⟨wo.heap.size, 0, none⟩) := hd 4 (by kernel_rfl)
                have d5 : x5 = .pointer (some ⟨wo.heap.size, 0, none⟩) := hd 5 (by kernel_rfl)
                have d6 : x6 = .slice (some ⟨gX, oX, none⟩) xs.length c := hd 6 (by kernel_rfl)
                have d7 : x7 = .pointer (some ⟨gX, oX, none⟩) := hd 7 (by kernel_rfl)
                have d8 : x8 = .int .i64 (R : Int) := hd 8 (by kernel_rfl)
                have d9 : x9 = .int .i64 (CM : Int) := hd 9 (by kernel_rfl)
                clear hd
                subst d0
                subst d1
                subst d2
                subst d3
                subst d4
                subst d5
                subst d6
                subst d7
                subst d8
                subst d9
                simp only [Act.put, List.setIfInBounds_toArray, List.set_cons_zero, List.set_cons_succ] at hK
                go_simp
                first | exact hK.out _ _ (Below.refl _ _) rfl | (have hk := hK.out _ _ (Below.refl _ _) rfl; revert hk; go_simp)
              case pfl11 => (intro f hf; cases hf)
              case pend11 =>
              intro w1 hb1 hR hD
              have d0 : x0 = .pointer (some ⟨wo.heap.size, 0, none⟩) := hR 0 (by decide)
              have d1 : x1 = .pointer (some ⟨wo.heap.size, 1, none⟩) := hR 1 (by decide)
              have d2 : x2 = .slice (some ⟨gY, oY, none⟩) ys.length d := hR 2 (by decide)
              have d3 : x3 = .int .i64 (ys.length : Int) := hR 3 (by decide)
              have d4 : x4 = .pointer (some ⟨wo.heap.size, 0, none⟩) := hR 4 (by decide)
              have d5 : x5 = .pointer (some ⟨wo.heap.size, 0, none⟩) := hR 5 (by decide)
              have d6 : x6 = .slice (some ⟨gX, oX, none⟩) xs.length c := hR 6 (by decide)
              have d7 : x7 = .pointer (some ⟨gX, oX, none⟩) := hR 7 (by decide)
              have d8 : x8 = .int .i64 (R : Int) := hR 8 (by decide)
              have d9 : x9 = .int .i64 (CM : Int) := hR 9 (by decide)
              have d10 : x10 = .int .i64 (CM : Int) := hR 10 (by decide)
              clear hR hD
              subst d0
              subst d1
              subst d2
              subst d3
              subst d4
              subst d5
              subst d6
              subst d7
              subst d8
              subst d9
              subst d10
              refine wpAny_done (by kernel_rfl) ?_ _
              have F8 := Lib.hid (F7.out.next hb1)
              obtain ⟨W8, rfl⟩ : ∃ x : World, x = w1 := ⟨_, rfl⟩
              clear hb1 F7
              go_upto_region 12 with fail
              refine wp_region_parts2 (w := W8) 11 0 none [] [(fun u _ => u = .pointer (some ⟨wo.heap.size, 2, none⟩)), (fun u _ => u = .pointer (some ⟨wo.heap.size, 3, none⟩)), (fun u _ => u = .slice (some ⟨gV, oV, none⟩) vs.length dw), (fun u _ => u = .int .i64 (vs.length : Int)), (fun u _ => u = .pointer (some ⟨wo.heap.size, 2, none⟩)), (fun u _ => u = .pointer (some ⟨wo.heap.size, 2, none⟩)), (fun u _ => u = .slice (some ⟨gW, oW, none⟩) ws.length c2), (fun u _ => u = .pointer (some ⟨gW, oW, none⟩)), (fun u _ => u = .int .i64 (o : Int)), (fun u _ => u = .int .i64 (CT : Int)), (fun u _ => u = .int .i64 (CT : Int))] [some 77, some 78, some 79, some 80, some 81, some 82, some 83, some 84, some 85, some 86, some 9] #[true, true, true, true, true, true, true, true, true, true, true] #[true, true, true, true, true, true, true, true, true, true, true] (by kernel_rfl) rfl (by kernel_rfl) (by kernel_rfl) rfl (by kernel_rfl) (by kernel_rfl) (.cons (carries_eq _) (.cons (carries_eq _) (.cons (carries_eq _) (.cons (carries_eq _) (.cons (carries_eq _) (.cons (carries_eq _) (.cons (carries_eq _) (.cons (carries_eq _) (.cons (carries_eq _) (.cons (carries_eq _) (.cons (carries_eq _) .nil))))))))))) (fun vs b hvl hvb => ?_)
              obtain ⟨x0, x1, x2, x3, x4, x5, x6, x7, x8, x9, x10, rfl⟩ : ∃ x0 x1 x2 x3 x4 x5 x6 x7 x8 x9 x10, vs = [x0, x1, x2, x3, x4, x5, x6, x7, x8, x9, x10] := lw11 hvl
              clear hvl
              simp only [putAll, Act.put, List.setIfInBounds_toArray, List.set_cons_zero, List.set_cons_succ] at hvb
              subst hvb
              refine ⟨(.snoc (.snoc (.snoc (.snoc (.snoc (.snoc (.snoc (.snoc (.snoc (.snoc (.snoc .zero (PartOb.intro (d := (some 77)) (r := fun u _ => u = .pointer (some ⟨wo.heap.size, 2, none⟩)) rfl rfl rfl rfl ?po12x0)) (PartOb.intro (d := (some 78)) (r := fun u _ => u = .pointer (some ⟨wo.heap.size, 3, none⟩)) rfl rfl rfl rfl ?po12x1)) (PartOb.intro (d := (some 79)) (r := fun u _ => u = .slice (some ⟨gV, oV, none⟩) vs.length dw) rfl rfl rfl rfl ?po12x2)) (PartOb.intro (d := (some 80)) (r := fun u _ => u = .int .i64 (vs.length : Int)) rfl rfl rfl rfl ?po12x3)) (PartOb.intro (d := (some 81)) (r := fun u _ => u = .pointer (some ⟨wo.heap.size, 2, none⟩)) rfl rfl rfl rfl ?po12x4)) (PartOb.intro (d := (some 82)) (r := fun u _ => u = .pointer (some ⟨wo.heap.size, 2, none⟩)) rfl rfl rfl rfl ?po12x5)) (PartOb.intro (d := (some 83)) (r := fun u _ => u = .slice (some ⟨gW, oW, none⟩) ws.length c2) rfl rfl rfl rfl ?po12x6)) (PartOb.intro (d := (some 84)) (r := fun u _ => u = .pointer (some ⟨gW, oW, none⟩)) rfl rfl rfl rfl ?po12x7)) (PartOb.intro (d := (some 85)) (r := fun u _ => u = .int .i64 (o : Int)) rfl rfl rfl rfl ?po12x8)) (PartOb.intro (d := (some 86)) (r := fun u _ => u = .int .i64 (CT : Int)) rfl rfl rfl rfl ?po12x9)) (PartOb.intro (d := (some 9)) (r := fun u _ => u = .int .i64 (CT : Int)) rfl rfl rfl rfl ?po12x10)), ?pend12, ?pfl12⟩
              case po12x0 =>
                intro w1 hb1 hd KK hK
                clear hd
                simp only [Act.put, List.setIfInBounds_toArray, List.set_cons_zero, List.set_cons_succ] at hK
                go_simp
                first | exact hK.out _ _ (Below.refl _ _) rfl | (have hk := hK.out _ _ (Below.refl _ _) rfl; revert hk; go_simp)
              case po12x1 =>
                intro w1 hb1 hd KK hK
                have d0 : x0 = .pointer (some ⟨wo.heap.size, 2, none⟩) := hd 0 (by kernel_rfl)
                clear hd
                subst d0
                simp only [Act.put, List.setIfInBounds_toArray, List.set_cons_zero, List.set_cons_succ] at hK
                go_simp
                first | exact hK.out _ _ (Below.refl _ _) rfl | (have hk := hK.out _ _ (Below.refl _ _) rfl; revert hk; go_simp)
              case po12x2 =>
                intro w1 hb1 hd KK hK
                have d1 : x1 = .pointer (some ⟨wo.heap.size, 3, none⟩) := hd 1 (by kernel_rfl)
                clear hd
                subst d1
                have hF := F8.out.next hb1
                have k3 := hF.c 0 3 rfl rfl
                simp only [Act.put, List.setIfInBounds_toArray, List.set_cons_zero, List.set_cons_succ] at hK
                go_simp
                first | exact hK.out _ _ (Below.refl _ _) rfl | (have hk := hK.out _ _ (Below.refl _ _) rfl; revert hk; go_simp)
              case po12x3 =>
                intro w1 hb1 hd KK hK
                have d2 : x2 = .slice (some ⟨gV, oV, none⟩) vs.length dw := hd 2 (by kernel_rfl)
                clear hd
                subst d2
                simp only [Act.put, List.setIfInBounds_toArray, List.set_cons_zero, List.set_cons_succ] at hK
                go_simp
                first | exact hK.out _ _ (Below.refl _ _) rfl | (have hk := hK.out _ _ (Below.refl _ _) rfl; revert hk; go_simp)
              case po12x4 =>
                intro w1 hb1 hd KK hK
                clear hd
                simp only [Act.put, List.setIfInBounds_toArray, List.set_cons_zero, List.set_cons_succ] at hK
                go_simp
                first | exact hK.out _ _ (Below.refl _ _) rfl | (have hk := hK.out _ _ (Below.refl _ _) rfl; revert hk; go_simp)
              case po12x5 =>
                intro w1 hb1 hd KK hK
                have d4 : x4 = .pointer (some ⟨wo.heap.size, 2, none⟩) := hd 4 (by kernel_rfl)
                clear hd
                subst d4
                simp only [Act.put, List.setIfInBounds_toArray, List.set_cons_zero, List.set_cons_succ] at hK
                go_simp
                first | exact hK.out _ _ (Below.refl _ _) rfl | (have hk := hK.out _ _ (Below.refl _ _) rfl; revert hk; go_simp)
              case po12x6 =>
                intro w1 hb1 hd KK hK
                have d5 : x5 = .pointer (some ⟨wo.heap.size, 2, none⟩) := hd 5 (by kernel_rfl)
                clear hd
                subst d5
                have hF := F8.out.next hb1
                have k2 := hF.c 0 2 rfl rfl
                simp only [Act.put, List.setIfInBounds_toArray, List.set_cons_zero, List.set_cons_succ] at hK
                go_simp
                first | exact hK.out _ _ (Below.refl _ _) rfl | (have hk := hK.out _ _ (Below.refl _ _) rfl; revert hk; go_simp)
              case po12x7 =>
                intro w1 hb1 hd KK hK
                have d6 : x6 = .slice (some ⟨gW, oW, none⟩) ws.length c2 := hd 6 (by kernel_rfl)
                clear hd
                subst d6
                have g9 := HW3.out
                have g1 : (0 : Int) < (ws.length : Int) := by omega
                have g2 : ¬ ws = [] := by intro h; rw [h] at g9; exact absurd g9 (by simp)
                have g3 : 0 < ws.length := by omega
                simp only [Act.put, List.setIfInBounds_toArray, List.set_cons_zero, List.set_cons_succ] at hK
                go_simp
                first | exact hK.out _ _ (Below.refl _ _) rfl | (have hk := hK.out _ _ (Below.refl _ _) rfl; revert hk; go_simp)
              case po12x8 =>
                intro w1 hb1 hd KK hK
                have d7 : x7 = .pointer (some ⟨gW, oW, none⟩) := hd 7 (by kernel_rfl)
                clear hd
                subst d7
                have hF := F8.out.next hb1
                have g9 := HW3.out
                obtain ⟨b9, o9, he, _, hcx⟩ := (hF.l 2 rfl).cell 0 (by omega)
                cases he
                rw [HWO.out, Nat.add_zero] at hcx
                simp only [Act.put, List.setIfInBounds_toArray, List.set_cons_zero, List.set_cons_succ] at hK
                go_simp
                first | exact hK.out _ _ (Below.refl _ _) rfl | (have hk := hK.out _ _ (Below.refl _ _) rfl; revert hk; go_simp)
              case po12x9 =>
                intro w1 hb1 hd KK hK
                have d3 : x3 = .int .i64 (vs.length : Int) := hd 3 (by kernel_rfl)
                have d8 : x8 = .int .i64 (o : Int) := hd 8 (by kernel_rfl)
                clear hd
                subst d3
                subst d8
                have hb := HB9.out
                have g0 : ¬ (o : Int) = 0 := by omega
                have g1 : ¬ o = 0 := by omega
                clear hb
                have g3 : IntKind.i64.wrap (CT : Int) = (CT : Int) := IntWalk.i64_in _ (by have h := HB9.out; omega)
                have g2 : ∀ [Inhabited Unit], Int.tdiv (vs.length : Int) (o : Int) = (CT : Int) := by intro _; exact HQ12.out
                simp only [Act.put, List.setIfInBounds_toArray, List.set_cons_zero, List.set_cons_succ] at hK
                go_simp
                first | exact hK.out _ _ (Below.refl _ _) rfl | (have hk := hK.out _ _ (Below.refl _ _) rfl; revert hk; go_simp)
              case po12x10 =>
                intro w1 hb1 hd KK hK
                have d0 : x0 = .pointer (some ⟨wo.heap.size, 2, none⟩) := hd 0 (by kernel_rfl)
                have d1 : x1 = .pointer (some ⟨wo.heap.size, 3, none⟩) := hd 1 (by kernel_rfl)
                have d2 : x2 = .slice (some ⟨gV, oV, none⟩) vs.length dw := hd 2 (by kernel_rfl)
                have d3 : x3 = .int .i64 (vs.length : Int) := hd 3 (by kernel_rfl)
                have d4 : x4 = .pointer (some ⟨wo.heap.size, 2, none⟩) := hd 4 (by kernel_rfl)
                have d5 : x5 = .pointer (some ⟨wo.heap.size, 2, none⟩) := hd 5 (by kernel_rfl)
                have d6 : x6 = .slice (some ⟨gW, oW, none⟩) ws.length c2 := hd 6 (by kernel_rfl)
                have d7 : x7 = .pointer (some ⟨gW, oW, none⟩) := hd 7 (by kernel_rfl)
                have d8 : x8 = .int .i64 (o : Int) := hd 8 (by kernel_rfl)
                have d9 : x9 = .int .i64 (CT : Int) := hd 9 (by kernel_rfl)
                clear hd
                subst d0
                subst d1
                subst d2
                subst d3
                subst d4
                subst d5
                subst d6
                subst d7
                subst d8
                subst d9
                simp only [Act.put, List.setIfInBounds_toArray, List.set_cons_zero, List.set_cons_succ] at hK
                go_simp
                first | exact hK.out _ _ (Below.refl _ _) rfl | (have hk := hK.out _ _ (Below.refl _ _) rfl; revert hk; go_simp)
              case pfl12 => (intro f hf; cases hf)
              case pend12 =>
              intro w1 hb1 hR hD
              have d0 : x0 = .pointer (some ⟨wo.heap.size, 2, none⟩) := hR 0 (by decide)
              have d1 : x1 = .pointer (some ⟨wo.heap.size, 3, none⟩) := hR 1 (by decide)
              have d2 : x2 = .slice (some ⟨gV, oV, none⟩) vs.length dw := hR 2 (by decide)
              have d3 : x3 = .int .i64 (vs.length : Int) := hR 3 (by decide)
              have d4 : x4 = .pointer (some ⟨wo.heap.size, 2, none⟩) := hR 4 (by decide)
              have d5 : x5 = .pointer (some ⟨wo.heap.size, 2, none⟩) := hR 5 (by decide)
              have d6 : x6 = .slice (some ⟨gW, oW, none⟩) ws.length c2 := hR 6 (by decide)
              have d7 : x7 = .pointer (some ⟨gW, oW, none⟩) := hR 7 (by decide)
              have d8 : x8 = .int .i64 (o : Int) := hR 8 (by decide)
              have d9 : x9 = .int .i64 (CT : Int) := hR 9 (by decide)
              have d10 : x10 = .int .i64 (CT : Int) := hR 10 (by decide)
              clear hR hD
              subst d0
              subst d1
              subst d2
              subst d3
              subst d4
              subst d5
              subst d6
              subst d7
              subst d8
              subst d9
              subst d10
              refine wpAny_done (by kernel_rfl) ?_ _
              have F9 := Lib.hid (F8.out.next hb1)
              obtain ⟨W9, rfl⟩ : ∃ x : World, x = w1 := ⟨_, rfl⟩
              clear hb1 F8
              go_upto_region 13 with fail
              refine wp_region_parts2 (w := W9) 16 0 none [] [(fun u _ => u = .pointer (some ⟨Q6, 1, none⟩)), (fun u _ => u = .slice (some ⟨gT, 0, none⟩) YS.length dT), (fun u _ => u = .int .i64 (YS.length : Int)), (fun u _ => u = .pointer (some ⟨wo.heap.size, 0, none⟩)), (fun u _ => u = .pointer (some ⟨wo.heap.size, 0, none⟩)), (fun u _ => u = .slice (some ⟨gX, oX, none⟩) xs.length c), (fun u _ => u = .pointer (some ⟨gX, oX, none⟩)), (fun u _ => u = .int .i64 (R : Int)), (fun u _ => u = .pointer (some ⟨wo.heap.size, 2, none⟩)), (fun u _ => u = .pointer (some ⟨wo.heap.size, 2, none⟩)), (fun u _ => u = .slice (some ⟨gW, oW, none⟩) ws.length c2), (fun u _ => u = .pointer (some ⟨gW, oW, none⟩)), (fun u _ => u = .int .i64 (o : Int)), (fun u _ => u = .int .i64 (RO : Int)), (fun u _ => u = .int .i64 (N : Int)), (fun u _ => u = .int .i64 (N : Int))] [some 87, some 88, some 89, some 90, some 91, some 92, some 93, some 94, some 95, some 96, some 97, some 98, some 99, some 100, some 101, some 10] #[true, true, true, true, true, true, true, true, true, true, true, true, true, true, true, true] #[true, true, true, true, true, true, true, true, true, true, true, true, true, true, true, true] (by kernel_rfl) rfl (by kernel_rfl) (by kernel_rfl) rfl (by kernel_rfl) (by kernel_rfl) (.cons (carries_eq _) (.cons (carries_eq _) (.cons (carries_eq _) (.cons (carries_eq _) (.cons (carries_eq _) (.cons (carries_eq _) (.cons (carries_eq _) (.cons (carries_eq _) (.cons (carries_eq _) (.cons (carries_eq _) (.cons (carries_eq _) (.cons (carries_eq _) (.cons (carries_eq _) (.cons (carries_eq _) (.cons (carries_eq _) (.cons (carries_eq _) .nil)))))))))))))))) (fun vs b hvl hvb => ?_)
              obtain ⟨x0, x1, x2, x3, x4, x5, x6, x7, x8, x9, x10, x11, x12, x13, x14, x15, rfl⟩ : ∃ x0 x1 x2 x3 x4 x5 x6 x7 x8 x9 x10 x11 x12 x13 x14 x15, vs = [x0, x1, x2, x3, x4, x5, x6, x7, x8, x9, x10, x11, x12, x13, x14, x15] := lw16 hvl
              clear hvl
              simp only [putAll, Act.put, List.setIfInBounds_toArray, List.set_cons_zero, List.set_cons_succ] at hvb
              subst hvb
              refine ⟨(.snoc (.snoc (.snoc (.snoc (.snoc (.snoc (.snoc (.snoc (.snoc (.snoc (.snoc (.snoc (.snoc (.snoc (.snoc (.snoc .zero (PartOb.intro (d := (some 87)) (r := fun u _ => u = .pointer (some ⟨Q6, 1, none⟩)) rfl rfl rfl rfl ?po13x0)) (PartOb.intro (d := (some 88)) (r := fun u _ => u = .slice (some ⟨gT, 0, none⟩) YS.length dT) rfl rfl rfl rfl ?po13x1)) (PartOb.intro (d := (some 89)) (r := fun u _ => u = .int .i64 (YS.length : Int)) rfl rfl rfl rfl ?po13x2)) (PartOb.intro (d := (some 90)) (r := fun u _ => u = .pointer (some ⟨wo.heap.size, 0, none⟩)) rfl rfl rfl rfl ?po13x3)) (PartOb.intro (d := (some 91)) (r := fun u _ => u = .pointer (some ⟨wo.heap.size, 0, none⟩)) rfl rfl rfl rfl ?po13x4)) (PartOb.intro (d := (some 92)) (r := fun u _ => u = .slice (some ⟨gX, oX, none⟩) xs.length c) rfl rfl rfl rfl ?po13x5)) (PartOb.intro (d := (some 93)) (r := fun u _ => u = .pointer (some ⟨gX, oX, none⟩)) rfl rfl rfl rfl ?po13x6)) (PartOb.intro (d := (some 94)) (r := fun u _ => u = .int .i64 (R : Int)) rfl rfl rfl rfl ?po13x7)) (PartOb.intro (d := (some 95)) (r := fun u _ => u = .pointer (some ⟨wo.heap.size, 2, none⟩)) rfl rfl rfl rfl ?po13x8)) (PartOb.intro (d := (some 96)) (r := fun u _ => u = .pointer (some ⟨wo.heap.size, 2, none⟩)) rfl rfl rfl rfl ?po13x9)) (PartOb.intro (d := (some 97)) (r := fun u _ => u = .slice (some ⟨gW, oW, none⟩) ws.length c2) rfl rfl rfl rfl ?po13x10)) (PartOb.intro (d := (some 98)) (r := fun u _ => u = .pointer (some ⟨gW, oW, none⟩)) rfl rfl rfl rfl ?po13x11)) (PartOb.intro (d := (some 99)) (r := fun u _ => u = .int .i64 (o : Int)) rfl rfl rfl rfl ?po13x12)) (PartOb.intro (d := (some 100)) (r := fun u _ => u = .int .i64 (RO : Int)) rfl rfl rfl rfl ?po13x13)) (PartOb.intro (d := (some 101)) (r := fun u _ => u = .int .i64 (N : Int)) rfl rfl rfl rfl ?po13x14)) (PartOb.intro (d := (some 10)) (r := fun u _ => u = .int .i64 (N : Int)) rfl rfl rfl rfl ?po13x15)), ?pend13, ?pfl13⟩
              case po13x0 =>
                intro w1 hb1 hd KK hK
                clear hd
                simp only [Act.put, List.setIfInBounds_toArray, List.set_cons_zero, List.set_cons_succ] at hK
                go_simp
                first | exact hK.out _ _ (Below.refl _ _) rfl | (have hk := hK.out _ _ (Below.refl _ _) rfl; revert hk; go_simp)
              case po13x1 =>
                intro w1 hb1 hd KK hK
                have d0 : x0 = .pointer (some ⟨Q6, 1, none⟩) := hd 0 (by kernel_rfl)
                clear hd
                subst d0
                have hF := F9.out.next hb1
                have k1 := hF.c 1 1 rfl rfl
                simp only [Act.put, List.setIfInBounds_toArray, List.set_cons_zero, List.set_cons_succ] at hK
                go_simp
                first | exact hK.out _ _ (Below.refl _ _) rfl | (have hk := hK.out _ _ (Below.refl _ _) rfl; revert hk; go_simp)
              case po13x2 =>
                intro w1 hb1 hd KK hK
                have d1 : x1 = .slice (some ⟨gT, 0, none⟩) YS.length dT := hd 1 (by kernel_rfl)
                clear hd
                subst d1
                simp only [Act.put, List.setIfInBounds_toArray, List.set_cons_zero, List.set_cons_succ] at hK
                go_simp
                first | exact hK.out _ _ (Below.refl _ _) rfl | (have hk := hK.out _ _ (Below.refl _ _) rfl; revert hk; go_simp)
              case po13x3 =>
                intro w1 hb1 hd KK hK
                clear hd
                simp only [Act.put, List.setIfInBounds_toArray, List.set_cons_zero, List.set_cons_succ] at hK
                go_simp
                first | exact hK.out _ _ (Below.refl _ _) rfl | (have hk := hK.out _ _ (Below.refl _ _) rfl; revert hk; go_simp)
              case po13x4 =>
                intro w1 hb1 hd KK hK
                have d3 : x3 = .pointer (some ⟨wo.heap.size, 0, none⟩) := hd 3 (by kernel_rfl)
                clear hd
                subst d3
                simp only [Act.put, List.setIfInBounds_toArray, List.set_cons_zero, List.set_cons_succ] at hK
                go_simp
                first | exact hK.out _ _ (Below.refl _ _) rfl | (have hk := hK.out _ _ (Below.refl _ _) rfl; revert hk; go_simp)
              case po13x5 =>
                intro w1 hb1 hd KK hK
                have d4 : x4 = .pointer (some ⟨wo.heap.size, 0, none⟩) := hd 4 (by kernel_rfl)
                clear hd
                subst d4
                have hF := F9.out.next hb1
                have k0 := hF.c 0 0 rfl rfl
                simp only [Act.put, List.setIfInBounds_toArray, List.set_cons_zero, List.set_cons_succ] at hK
                go_simp
                first | exact hK.out _ _ (Below.refl _ _) rfl | (have hk := hK.out _ _ (Below.refl _ _) rfl; revert hk; go_simp)
              case po13x6 =>
                intro w1 hb1 hd KK hK
                have d5 : x5 = .slice (some ⟨gX, oX, none⟩) xs.length c := hd 5 (by kernel_rfl)
                clear hd
                subst d5
                have g9 := HX3.out
                have g1 : (0 : Int) < (xs.length : Int) := by omega
                have g2 : ¬ xs = [] := by intro h; rw [h] at g9; exact absurd g9 (by simp)
                have g3 : 0 < xs.length := by omega
                simp only [Act.put, List.setIfInBounds_toArray, List.set_cons_zero, List.set_cons_succ] at hK
                go_simp
                first | exact hK.out _ _ (Below.refl _ _) rfl | (have hk := hK.out _ _ (Below.refl _ _) rfl; revert hk; go_simp)
              case po13x7 =>
                intro w1 hb1 hd KK hK
                have d6 : x6 = .pointer (some ⟨gX, oX, none⟩) := hd 6 (by kernel_rfl)
                clear hd
                subst d6
                have hF := F9.out.next hb1
                have g9 := HX3.out
                obtain ⟨b9, o9, he, _, hcx⟩ := (hF.l 0 rfl).cell 0 (by omega)
                cases he
                rw [HXR.out, Nat.add_zero] at hcx
                simp only [Act.put, List.setIfInBounds_toArray, List.set_cons_zero, List.set_cons_succ] at hK
                go_simp
                first | exact hK.out _ _ (Below.refl _ _) rfl | (have hk := hK.out _ _ (Below.refl _ _) rfl; revert hk; go_simp)
              case po13x8 =>
                intro w1 hb1 hd KK hK
                clear hd
                simp only [Act.put, List.setIfInBounds_toArray, List.set_cons_zero, List.set_cons_succ] at hK
                go_simp
                first | exact hK.out _ _ (Below.refl _ _) rfl | (have hk := hK.out _ _ (Below.refl _ _) rfl; revert hk; go_simp)
              case po13x9 =>
                intro w1 hb1 hd KK hK
                have d8 : x8 = .pointer (some ⟨wo.heap.size, 2, none⟩) := hd 8 (by kernel_rfl)
                clear hd
                subst d8
                simp only [Act.put, List.setIfInBounds_toArray, List.set_cons_zero, List.set_cons_succ] at hK
                go_simp
                first | exact hK.out _ _ (Below.refl _ _) rfl | (have hk := hK.out _ _ (Below.refl _ _) rfl; revert hk; go_simp)
              case po13x10 =>
                intro w1 hb1 hd KK hK
                have d9 : x9 = .pointer (some ⟨wo.heap.size, 2, none⟩) := hd 9 (by kernel_rfl)
                clear hd
                subst d9
                have hF := F9.out.next hb1
                have k2 := hF.c 0 2 rfl rfl
                simp only [Act.put, List.setIfInBounds_toArray, List.set_cons_zero, List.set_cons_succ] at hK
                go_simp
                first | exact hK.out _ _ (Below.refl _ _) rfl | (have hk := hK.out _ _ (Below.refl _ _) rfl; revert hk; go_simp)
              case po13x11 =>
                intro w1 hb1 hd KK hK
                have d10 : x10 = .slice (some ⟨gW, oW, none⟩) ws.length c2 := hd 10 (by kernel_rfl)
                clear hd
                subst d10
                have g9 := HW3.out
                have g1 : (0 : Int) < (ws.length : Int) := by omega
                have g2 : ¬ ws = [] := by intro h; rw [h] at g9; exact absurd g9 (by simp)
                have g3 : 0 < ws.length := by omega
                simp only [Act.put, List.setIfInBounds_toArray, List.set_cons_zero, List.set_cons_succ] at hK
                go_simp
                first | exact hK.out _ _ (Below.refl _ _) rfl | (have hk := hK.out _ _ (Below.refl _ _) rfl; revert hk; go_simp)
              case po13x12 =>
                intro w1 hb1 hd KK hK
                have d11 : x11 = .pointer (some ⟨gW, oW, none⟩) := hd 11 (by kernel_rfl)
                clear hd
                subst d11
                have hF := F9.out.next hb1
                have g9 := HW3.out
                obtain ⟨b9, o9, he, _, hcx⟩ := (hF.l 2 rfl).cell 0 (by omega)
                cases he
                rw [HWO.out, Nat.add_zero] at hcx
                simp only [Act.put, List.setIfInBounds_toArray, List.set_cons_zero, List.set_cons_succ] at hK
                go_simp
                first | exact hK.out _ _ (Below.refl _ _) rfl | (have hk := hK.out _ _ (Below.refl _ _) rfl; revert hk; go_simp)
              case po13x13 =>
                intro w1 hb1 hd KK hK
                have d7 : x7 = .int .i64 (R : Int) := hd 7 (by kernel_rfl)
                have d12 : x12 = .int .i64 (o : Int) := hd 12 (by kernel_rfl)
                clear hd
                subst d7
                subst d12
                have g2 : ∀ [Inhabited Unit], IntKind.i64.wrap ((R : Int) * (o : Int)) = (RO : Int) := by intro _; rw [← Int.natCast_mul, HROe.out]; exact IntWalk.i64_in _ (by have h := HB9.out; omega)
                simp only [Act.put, List.setIfInBounds_toArray, List.set_cons_zero, List.set_cons_succ] at hK
                go_simp
                first | exact hK.out _ _ (Below.refl _ _) rfl | (have hk := hK.out _ _ (Below.refl _ _) rfl; revert hk; go_simp)
              case po13x14 =>
                intro w1 hb1 hd KK hK
                have d2 : x2 = .int .i64 (YS.length : Int) := hd 2 (by kernel_rfl)
                have d13 : x13 = .int .i64 (RO : Int) := hd 13 (by kernel_rfl)
                clear hd
                subst d2
                subst d13
                have hb := HB9.out
                have g0 : ¬ (RO : Int) = 0 := by omega
                have g1 : ¬ RO = 0 := by omega
                clear hb
                have g3 : IntKind.i64.wrap (N : Int) = (N : Int) := IntWalk.i64_in _ (by have h := HB9.out; omega)
                have g2 : ∀ [Inhabited Unit], Int.tdiv (YS.length : Int) (RO : Int) = (N : Int) := by intro _; exact HQ13.out
                simp only [Act.put, List.setIfInBounds_toArray, List.set_cons_zero, List.set_cons_succ] at hK
                go_simp
                first | exact hK.out _ _ (Below.refl _ _) rfl | (have hk := hK.out _ _ (Below.refl _ _) rfl; revert hk; go_simp)
              case po13x15 =>
                intro w1 hb1 hd KK hK
                have d0 : x0 = .pointer (some ⟨Q6, 1, none⟩) := hd 0 (by kernel_rfl)
                have d1 : x1 = .slice (some ⟨gT, 0, none⟩) YS.length dT := hd 1 (by kernel_rfl)
                have d2 : x2 = .int .i64 (YS.length : Int) := hd 2 (by kernel_rfl)
                have d3 : x3 = .pointer (some ⟨wo.heap.size, 0, none⟩) := hd 3 (by kernel_rfl)
                have d4 : x4 = .pointer (some ⟨wo.heap.size, 0, none⟩) := hd 4 (by kernel_rfl)
                have d5 : x5 = .slice (some ⟨gX, oX, none⟩) xs.length c := hd 5 (by kernel_rfl)
                have d6 : x6 = .pointer (some ⟨gX, oX, none⟩) := hd 6 (by kernel_rfl)
                have d7 : x7 = .int .i64 (R : Int) := hd 7 (by kernel_rfl)
                have d8 : x8 = .pointer (some ⟨wo.heap.size, 2, none⟩) := hd 8 (by kernel_rfl)
                have d9 : x9 = .pointer (some ⟨wo.heap.size, 2, none⟩) := hd 9 (by kernel_rfl)
                have d10 : x10 = .slice (some ⟨gW, oW, none⟩) ws.length c2 := hd 10 (by kernel_rfl)
                have d11 : x11 = .pointer (some ⟨gW, oW, none⟩) := hd 11 (by kernel_rfl)
                have d12 : x12 = .int .i64 (o : Int) := hd 12 (by kernel_rfl)
                have d13 : x13 = .int .i64 (RO : Int) := hd 13 (by kernel_rfl)
                have d14 : x14 = .int .i64 (N : Int) := hd 14 (by kernel_rfl)
                clear hd
                subst d0
                subst d1
                subst d2
                subst d3
                subst d4
                subst d5
                subst d6
                subst d7
                subst d8
                subst d9
                subst d10
                subst d11
                subst d12
                subst d13
                subst d14
                simp only [Act.put, List.setIfInBounds_toArray, List.set_cons_zero, List.set_cons_succ] at hK
                go_simp
                first | exact hK.out _ _ (Below.refl _ _) rfl | (have hk := hK.out _ _ (Below.refl _ _) rfl; revert hk; go_simp)
              case pfl13 => (intro f hf; cases hf)
              case pend13 =>
              intro w1 hb1 hR hD
              have d0 : x0 = .pointer (some ⟨Q6, 1, none⟩) := hR 0 (by decide)
              have d1 : x1 = .slice (some ⟨gT, 0, none⟩) YS.length dT := hR 1 (by decide)
              have d2 : x2 = .int .i64 (YS.length : Int) := hR 2 (by decide)
              have d3 : x3 = .pointer (some ⟨wo.heap.size, 0, none⟩) := hR 3 (by decide)
              have d4 : x4 = .pointer (some ⟨wo.heap.size, 0, none⟩) := hR 4 (by decide)
              have d5 : x5 = .slice (some ⟨gX, oX, none⟩) xs.length c := hR 5 (by decide)
              have d6 : x6 = .pointer (some ⟨gX, oX, none⟩) := hR 6 (by decide)
              have d7 : x7 = .int .i64 (R : Int) := hR 7 (by decide)
              have d8 : x8 = .pointer (some ⟨wo.heap.size, 2, none⟩) := hR 8 (by decide)
              have d9 : x9 = .pointer (some ⟨wo.heap.size, 2, none⟩) := hR 9 (by decide)
              have d10 : x10 = .slice (some ⟨gW, oW, none⟩) ws.length c2 := hR 10 (by decide)
              have d11 : x11 = .pointer (some ⟨gW, oW, none⟩) := hR 11 (by decide)
              have d12 : x12 = .int .i64 (o : Int) := hR 12 (by decide)
              have d13 : x13 = .int .i64 (RO : Int) := hR 13 (by decide)
              have d14 : x14 = .int .i64 (N : Int) := hR 14 (by decide)
              have d15 : x15 = .int .i64 (N : Int) := hR 15 (by decide)
              clear hR hD
              subst d0
              subst d1
              subst d2
              subst d3
              subst d4
              subst d5
              subst d6
              subst d7
              subst d8
              subst d9
              subst d10
              subst d11
              subst d12
              subst d13
              subst d14
              subst d15
              refine wpAny_done (by kernel_rfl) ?_ _
              have F10 := Lib.hid (F9.out.next hb1)
              obtain ⟨W10, rfl⟩ : ∃ x : World, x = w1 := ⟨_, rfl⟩
              clear hb1 F9 HQ11 HQ12 HQ13 HCV
              obtain ⟨X1, hX1⟩ : ∃ l, xs.drop 1 = l := ⟨_, rfl⟩
              obtain ⟨V1, hV1⟩ : ∃ l, ws.drop 1 = l := ⟨_, rfl⟩
              have HX1 := Lib.hid hX1
              have HV1 := Lib.hid hV1
              have HX1l := Lib.hid (show xs.length - 1 = X1.length by rw [← hX1, List.length_drop])
              have HV1l := Lib.hid (show ws.length - 1 = V1.length by rw [← hV1, List.length_drop])
              obtain ⟨XA, hXA⟩ : ∃ l, 1 :: X1 = l := ⟨_, rfl⟩
              obtain ⟨VA, hVA⟩ : ∃ l, 1 :: V1 = l := ⟨_, rfl⟩
              have HXA := Lib.hid hXA
              have HVA := Lib.hid hVA
              have HXAl := Lib.hid (show 1 + X1.length = XA.length by rw [← hXA]; simp; omega)
              have HVAl := Lib.hid (show 1 + V1.length = VA.length by rw [← hVA]; simp; omega)
              have HIX1 := Lib.hid (fun W (h : Ints .i64 W W.heap.size (some ⟨gX, oX, none⟩) xs) => (by have h9 := ints_drop h 1; rw [HX1.out] at h9; exact h9 : Ints .i64 W W.heap.size (some ⟨gX, oX + 1, none⟩) X1))
              have HIV1 := Lib.hid (fun W (h : Ints .i64 W W.heap.size (some ⟨gW, oW, none⟩) ws) => (by have h9 := ints_drop h 1; rw [HV1.out] at h9; exact h9 : Ints .i64 W W.heap.size (some ⟨gW, oW + 1, none⟩) V1))
              have HCX := Lib.hid (show xs.length ≤ c ∧ c ≤ 9223372036854775807 from HC1.out)
              have HCY := Lib.hid (show ys.length ≤ d ∧ d ≤ 9223372036854775807 from HC2.out)
              have HCW := Lib.hid (show ws.length ≤ c2 ∧ c2 ≤ 9223372036854775807 from HC3.out)
              have HCV := Lib.hid (show vs.length ≤ dw ∧ dw ≤ 9223372036854775807 from HC4.out)
              have HWA := Lib.hid (show ∀ x ∈ XA, (Lit.int .i64 x).wf = true from fun x hx => by rw [← hXA] at hx; rcases List.mem_cons.1 hx with rfl | hx; decide; rw [← hX1] at hx; exact (F10.out.l 0 rfl).wf x (List.mem_of_mem_drop hx))
              have HWV := Lib.hid (show ∀ x ∈ VA, (Lit.int .i64 x).wf = true from fun x hx => by rw [← hVA] at hx; rcases List.mem_cons.1 hx with rfl | hx; decide; rw [← hV1] at hx; exact (F10.out.l 2 rfl).wf x (List.mem_of_mem_drop hx))
              clear hX1 hV1 hXA hVA HC1 HC2 HC3 HC4
              go_wp2
              go_loopw [11] (fun s11 wr => ∃ a9 : Nat, a9 ≤ R ∧ s11 = .int .i64 a9 ∧ Hid (Fr wo.heap.size wo wr [(wo.heap.size, [.slice (some ⟨gX, oX, none⟩) xs.length c, .slice (some ⟨gY, oY, none⟩) ys.length d, .slice (some ⟨gW, oW, none⟩) ws.length c2, .slice (some ⟨gV, oV, none⟩) vs.length dw, .slice aQ Q.length cQ, .slice aS wv.S.length cS, .slice aP wv.P.length cP, .slice aD wv.D.length cD, .slice aI I.length cI, .slice aJ J.length cJ, .int .i64 f]), (Q6, [.slice aT SH.length cT, .slice (some ⟨gT, 0, none⟩) YS.length dT])] [(.i64, (some ⟨gX, oX, none⟩), xs), (.i64, (some ⟨gY, oY, none⟩), ys), (.i64, (some ⟨gW, oW, none⟩), ws), (.i64, (some ⟨gV, oV, none⟩), vs), (.i64, aQ, Q), (.i64, aS, wv.S), (.i64, aP, wv.P), (.i64, aD, wv.D), (.i64, aI, I), (.i64, aJ, J)] [⟨3, .slice aT SH.length cT, SH.length, SH.map (Value.int .i64)⟩, ⟨2, .slice (some ⟨gT, 0, none⟩) YS.length dT, YS.length, YS.map (Value.int .i64)⟩] [])) (fun s11 _ => R - (intOf s11).toNat)
              case atStart => exact ⟨0, Nat.zero_le _, rfl, F10⟩
              case round =>
                obtain ⟨a9, ha9, rfl, F11⟩ := hrel
                clear F10
                obtain ⟨wi, rfl⟩ : ∃ x : World, x = wr := ⟨_, rfl⟩
                by_cases hla : a9 < R
                · skip
                  have hai : (a9 : Int) < (R : Int) := by omega
                  have g9 := HX3.out
                  have g1 : (0 : Int) < (xs.length : Int) := by omega
                  have g2 : ¬ xs = [] := by intro h; rw [h] at g9; exact absurd g9 (by simp)
                  have g3 : 0 < xs.length := by omega
                  obtain ⟨b9, o9, he, _, hcx⟩ := (F11.out.l 0 rfl).cell 0 g3
                  cases he
                  rw [HXR.out, Nat.add_zero] at hcx
                  have q0 := F11.out.c 0 0 rfl rfl
                  clear g9
                  go_upto_region 17 with fail
                  clear g1 g2 g3 hcx q0 hai
                  obtain ⟨s9, hs9⟩ : ∃ z : Nat, a9 * CM = z := ⟨_, rfl⟩
                  obtain ⟨e9, he9⟩ : ∃ z : Nat, (a9 + 1) * CM = z := ⟨_, rfl⟩
                  have HSE := Lib.hid (show e9 = s9 + CM by rw [← hs9, ← he9, Nat.succ_mul])
                  have HEL := Lib.hid (show e9 ≤ ys.length by rw [HYL.out, ← he9]; exact Nat.mul_le_mul_right _ hla)
                  have HS9 := Lib.hid hs9
                  have HE9 := Lib.hid he9
                  clear hs9 he9
                  have HYB := Lib.hid (show ys.length ≤ 9223372036854775807 by have h := HCY.out; omega)
                  go_cut [12] from 102 to 191 (fun s12 wx => ∃ Qn gn cn, s12 = .pointer (some ⟨Qn, 0, none⟩) ∧ XA.length ≤ cn ∧ cn ≤ 9223372036854775807 ∧ Hid (Fr wo.heap.size wo wx [(wo.heap.size, [.slice (some ⟨gX, oX, none⟩) xs.length c, .slice (some ⟨gY, oY, none⟩) ys.length d, .slice (some ⟨gW, oW, none⟩) ws.length c2, .slice (some ⟨gV, oV, none⟩) vs.length dw, .slice aQ Q.length cQ, .slice aS wv.S.length cS, .slice aP wv.P.length cP, .slice aD wv.D.length cD, .slice aI I.length cI, .slice aJ J.length cJ, .int .i64 f]), (Q6, [.slice aT SH.length cT, .slice (some ⟨gT, 0, none⟩) YS.length dT]), (Qn, [.slice (some ⟨gn, 0, none⟩) XA.length cn, .slice (some ⟨gY, oY + s9, none⟩) CM (d - s9)])] [(.i64, (some ⟨gX, oX, none⟩), xs), (.i64, (some ⟨gY, oY, none⟩), ys), (.i64, (some ⟨gW, oW, none⟩), ws), (.i64, (some ⟨gV, oV, none⟩), vs), (.i64, aQ, Q), (.i64, aS, wv.S), (.i64, aP, wv.P), (.i64, aD, wv.D), (.i64, aI, I), (.i64, aJ, J)] [⟨3, .slice aT SH.length cT, SH.length, SH.map (Value.int .i64)⟩, ⟨2, .slice (some ⟨gT, 0, none⟩) YS.length dT, YS.length, YS.map (Value.int .i64)⟩, ⟨3, .slice (some ⟨gn, 0, none⟩) XA.length cn, XA.length, XA.map (Value.int .i64)⟩] []))
                  case first => as_aux_lemma =>
                    have FD := F11.out.drew
                    refine wp_region_J (S := fun _ => True) (S1 := fun W9 => W9.cell? ⟨wo.heap.size, 0, none⟩ = some (.slice (some ⟨gX, oX, none⟩) xs.length c) ∧ W9.cell? ⟨wo.heap.size, 1, none⟩ = some (.slice (some ⟨gY, oY, none⟩) ys.length d)) (L := [0, 1, 2, 3, 4, 5, 6, 7, 8, 9, 10, 11, 12, 13, 14, 15, 16, 17, 18, 19]) (by kernel_rfl) trivial ⟨FD.c 0 0 rfl rfl, FD.c 0 1 rfl rfl⟩ (fun hHeld hHeld1 => ?_)
                    obtain ⟨v0, hv0⟩ : ∃ x, wi.drew = x := ⟨_, rfl⟩
                    rw [hv0] at FD hHeld1 ⊢
                    clear hv0
                    refine takeJ1 (i := 1) (dst := (some 112)) (v := .pointer (some ⟨wo.heap.size, 0, none⟩)) rfl rfl (by kernel_rfl) (by kernel_rfl) (by kernel_rfl) (by kernel_rfl) (fun _ _ _ h => h) (by rfl) ?hyj17xn1 hHeld1 ?restj17xn1
                    case hyj17xn1 =>
                      intro W hSw
                      go_simp
                      (try with_reducible rfl)
                    try simp only [Act.put, List.setIfInBounds_toArray, List.set_cons_zero, List.set_cons_succ]
                    refine takeJ1 (i := 2) (dst := (some 113)) (v := .pointer (some ⟨wo.heap.size, 0, none⟩)) rfl rfl (by kernel_rfl) (by kernel_rfl) (by kernel_rfl) (by kernel_rfl) (fun _ _ _ h => h) (by rfl) ?hyj17xn2 hHeld1 ?restj17xn2
                    case hyj17xn2 =>
                      intro W hSw
                      go_simp
                      (try with_reducible rfl)
                    try simp only [Act.put, List.setIfInBounds_toArray, List.set_cons_zero, List.set_cons_succ]
                    refine takeJ1 (i := 3) (dst := (some 114)) (v := .slice (some ⟨gX, oX, none⟩) xs.length c) rfl rfl (by kernel_rfl) (by kernel_rfl) (by kernel_rfl) (by kernel_rfl) (fun _ _ _ h => h) (by rfl) ?hyj17xn3 hHeld1 ?restj17xn3
                    case hyj17xn3 =>
                      intro W hSw
                      obtain ⟨s0, s1⟩ := hSw
                      go_simp
                      (try with_reducible rfl)
                    try simp only [Act.put, List.setIfInBounds_toArray, List.set_cons_zero, List.set_cons_succ]
                    refine takeJ1 (i := 4) (dst := (some 115)) (v := .slice (some ⟨gX, oX + 1, none⟩) X1.length (c - 1)) rfl rfl (by kernel_rfl) (by kernel_rfl) (by kernel_rfl) (by kernel_rfl) (fun _ _ _ h => h) (by rfl) ?hyj17xn4 hHeld1 ?restj17xn4
                    case hyj17xn4 =>
                      intro W hSw
                      have hxx := HX1l.out
                      have g9 := HX3.out
                      have g8 := HCX.out
                      have g1 : (1 : Int) ≤ (xs.length : Int) := by omega
                      have g2 : (xs.length : Int) ≤ (c : Int) := by omega
                      have g3 : ¬ c = 1 := by omega
                      clear g9 g8
                      go_simp
                      (try with_reducible rfl)
                    try simp only [Act.put, List.setIfInBounds_toArray, List.set_cons_zero, List.set_cons_succ]
                    refine takeJ1 (i := 6) (dst := (some 117)) (v := .pointer (some ⟨wo.heap.size, 0, none⟩)) rfl rfl (by kernel_rfl) (by kernel_rfl) (by kernel_rfl) (by kernel_rfl) (fun _ _ _ h => h) (by rfl) ?hyj17xn5 hHeld1 ?restj17xn5
                    case hyj17xn5 =>
                      intro W hSw
                      go_simp
                      (try with_reducible rfl)
                    try simp only [Act.put, List.setIfInBounds_toArray, List.set_cons_zero, List.set_cons_succ]
                    refine takeJ1 (i := 7) (dst := (some 118)) (v := .pointer (some ⟨wo.heap.size, 1, none⟩)) rfl rfl (by kernel_rfl) (by kernel_rfl) (by kernel_rfl) (by kernel_rfl) (fun _ _ _ h => h) (by rfl) ?hyj17xn6 hHeld1 ?restj17xn6
                    case hyj17xn6 =>
                      intro W hSw
                      go_simp
                      (try with_reducible rfl)
                    try simp only [Act.put, List.setIfInBounds_toArray, List.set_cons_zero, List.set_cons_succ]
                    refine takeJ1 (i := 8) (dst := (some 119)) (v := .slice (some ⟨gY, oY, none⟩) ys.length d) rfl rfl (by kernel_rfl) (by kernel_rfl) (by kernel_rfl) (by kernel_rfl) (fun _ _ _ h => h) (by rfl) ?hyj17xn7 hHeld1 ?restj17xn7
                    case hyj17xn7 =>
                      intro W hSw
                      obtain ⟨s0, s1⟩ := hSw
                      go_simp
                      (try with_reducible rfl)
                    try simp only [Act.put, List.setIfInBounds_toArray, List.set_cons_zero, List.set_cons_succ]
                    refine takeJ1 (i := 9) (dst := (some 120)) (v := .int .i64 (a9 : Int)) rfl rfl (by kernel_rfl) (by kernel_rfl) (by kernel_rfl) (by kernel_rfl) (fun _ _ _ h => h) (by rfl) ?hyj17xn8 hHeld1 ?restj17xn8
                    case hyj17xn8 =>
                      intro W hSw
                      go_simp
                      (try with_reducible rfl)
                    try simp only [Act.put, List.setIfInBounds_toArray, List.set_cons_zero, List.set_cons_succ]
                    refine takeJ1 (i := 10) (dst := (some 121)) (v := .int .i64 (CM : Int)) rfl rfl (by kernel_rfl) (by kernel_rfl) (by kernel_rfl) (by kernel_rfl) (fun _ _ _ h => h) (by rfl) ?hyj17xn9 hHeld1 ?restj17xn9
                    case hyj17xn9 =>
                      intro W hSw
                      go_simp
                      (try with_reducible rfl)
                    try simp only [Act.put, List.setIfInBounds_toArray, List.set_cons_zero, List.set_cons_succ]
                    refine takeJ1 (i := 11) (dst := (some 122)) (v := .int .i64 (s9 : Int)) rfl rfl (by kernel_rfl) (by kernel_rfl) (by kernel_rfl) (by kernel_rfl) (fun _ _ _ h => h) (by rfl) ?hyj17xn10 hHeld1 ?restj17xn10
                    case hyj17xn10 =>
                      intro W hSw
                      have g2 : ∀ [Inhabited Unit], IntKind.i64.wrap ((a9 : Int) * (CM : Int)) = (s9 : Int) := by intro _; rw [← Int.natCast_mul, HS9.out]; exact IntWalk.i64_in _ (by have h := HSE.out; have h2 := HEL.out; have h3 := HYB.out; omega)
                      go_simp
                      (try with_reducible rfl)
                    try simp only [Act.put, List.setIfInBounds_toArray, List.set_cons_zero, List.set_cons_succ]
                    refine takeJ1 (i := 12) (dst := (some 123)) (v := .int .i64 (a9 : Int)) rfl rfl (by kernel_rfl) (by kernel_rfl) (by kernel_rfl) (by kernel_rfl) (fun _ _ _ h => h) (by rfl) ?hyj17xn11 hHeld1 ?restj17xn11
                    case hyj17xn11 =>
                      intro W hSw
                      go_simp
                      (try with_reducible rfl)
                    try simp only [Act.put, List.setIfInBounds_toArray, List.set_cons_zero, List.set_cons_succ]
                    refine takeJ1 (i := 13) (dst := (some 124)) (v := .int .i64 (a9 + 1 : Nat)) rfl rfl (by kernel_rfl) (by kernel_rfl) (by kernel_rfl) (by kernel_rfl) (fun _ _ _ h => h) (by rfl) ?hyj17xn12 hHeld1 ?restj17xn12
                    case hyj17xn12 =>
                      intro W hSw
                      have g2 : ∀ [Inhabited Unit], IntKind.i64.wrap ((a9 : Int) + 1) = ((a9 + 1 : Nat) : Int) := by intro _; rw [Int.natCast_add]; exact IntWalk.i64_in _ (by have h := HB9.out; omega)
                      go_simp
                      (try with_reducible rfl)
                    try simp only [Act.put, List.setIfInBounds_toArray, List.set_cons_zero, List.set_cons_succ]
                    refine takeJ1 (i := 14) (dst := (some 125)) (v := .int .i64 (CM : Int)) rfl rfl (by kernel_rfl) (by kernel_rfl) (by kernel_rfl) (by kernel_rfl) (fun _ _ _ h => h) (by rfl) ?hyj17xn13 hHeld1 ?restj17xn13
                    case hyj17xn13 =>
                      intro W hSw
                      go_simp
                      (try with_reducible rfl)
                    try simp only [Act.put, List.setIfInBounds_toArray, List.set_cons_zero, List.set_cons_succ]
                    refine takeJ1 (i := 15) (dst := (some 126)) (v := .int .i64 (e9 : Int)) rfl rfl (by kernel_rfl) (by kernel_rfl) (by kernel_rfl) (by kernel_rfl) (fun _ _ _ h => h) (by rfl) ?hyj17xn14 hHeld1 ?restj17xn14
                    case hyj17xn14 =>
                      intro W hSw
                      have g2 : ∀ [Inhabited Unit], IntKind.i64.wrap (((a9 : Int) + 1) * (CM : Int)) = (e9 : Int) := by intro _; rw [show ((a9 : Int) + 1) = ((a9 + 1 : Nat) : Int) from rfl, ← Int.natCast_mul, HE9.out]; exact IntWalk.i64_in _ (by have h2 := HEL.out; have h3 := HYB.out; omega)
                      go_simp
                      (try with_reducible rfl)
                    try simp only [Act.put, List.setIfInBounds_toArray, List.set_cons_zero, List.set_cons_succ]
                    refine takeJ1 (i := 16) (dst := (some 127)) (v := .slice (some ⟨gY, oY + s9, none⟩) CM (d - s9)) rfl rfl (by kernel_rfl) (by kernel_rfl) (by kernel_rfl) (by kernel_rfl) (fun _ _ _ h => h) (by rfl) ?hyj17xn15 hHeld1 ?restj17xn15
                    case hyj17xn15 =>
                      intro W hSw
                      have h1 := HSE.out
                      have h2 := HEL.out
                      have h3 := HCY.out
                      have h4 := HCM1.out
                      have g1 : (s9 : Int) ≤ (e9 : Int) := by omega
                      have g2 : (e9 : Int) ≤ (d : Int) := by omega
                      have g3 : ¬ d = s9 := by omega
                      have g4 : e9 - s9 = CM := by omega
                      clear h1 h2 h3 h4
                      go_simp
                      (try with_reducible rfl)
                    try simp only [Act.put, List.setIfInBounds_toArray, List.set_cons_zero, List.set_cons_succ]
                    refine readyJ (rs := [0, 18]) (by kernel_rfl) (by simp) ?_
                    refine (AllJ.cons rfl ?op0zx1 (AllJ.cons rfl ?op18zx1 AllJ.nil))
                    case op0zx1 =>
                      intro K hK
                      go_simp
                      obtain ⟨b0_, hb0_⟩ : ∃ y, v0.heap.size = y := ⟨_, rfl⟩
                      try rw [hb0_]
                      have G0x0 := FD.addO ((Below.refl _ _).alloc (Nat.le_refl _) (.cells #[.int .i64 1] 3)) (World.ownsRow_lit (base := v0.heap.size) (size := 1) (e := 3) v0 #[.int .i64 1] 1 (Nat.le_refl _) (by decide) rfl)
                      simp only [List.cons_append, List.nil_append] at G0x0
                      try rw [hb0_] at G0x0
                      obtain ⟨v0x0, h9_⟩ : ∃ zz, (v0.alloc (.cells #[.int .i64 1] 3)) = zz := ⟨_, rfl⟩
                      rw [h9_] at G0x0 ⊢
                      clear h9_ hb0_
                      refine hK.out _ _ (fun _ => trivial) ⟨G0x0.c 0 0 rfl rfl, G0x0.c 0 1 rfl rfl⟩ (fun hHeld hHeld1 => ?_)
                      clear hK K
                      try simp only [Act.put, List.setIfInBounds_toArray, List.set_cons_zero, List.set_cons_succ]
                      refine readyJ (rs := [5, 18]) (by kernel_rfl) (by simp) ?_
                      refine (AllJ.cons rfl ?op5zx2 (AllJ.cons rfl ?op18zx2 AllJ.nil))
                      case op5zx2 =>
                        intro K hK
                        refine stepAppN 23 3 infoInt Try.underlying23 wo.heap.size (.slice (some ⟨b0_, 0, none⟩) 1 1) 1 [1] X1 X1.length (c - 1) ⟨gX, oX + 1, none⟩ _ _ rfl rfl rfl (G0x0.r 2 rfl) rfl rfl (by have h := HX1l.out; have h2 := HX3.out; omega) (fun j hj => ?_) (by omega) (by have h := HX1l.out; have h2 := HXL9.out; omega) G0x0.hlo ?_
                        · obtain ⟨b9, o9, he, _, hcx⟩ := (HIX1.out _ (G0x0.lw 0 rfl)).cell j hj
                          cases he
                          rw [List.getElem?_eq_getElem hj] at hcx
                          have ha : (⟨gX, oX + 1, none⟩ : Addr).add j = ⟨gX, oX + 1 + j, none⟩ := by cases j with
                            | zero => rfl
                            | succ j => simp [Addr.add]
                          rw [ha]
                          exact hcx
                        intro g5 c5 v1x5 hown hgr hob
                        have hb5 := row_cap hown
                        simp only [List.singleton_append] at hown
                        rw [HXAl.out, HXA.out] at hown
                        rw [HXAl.out] at hb5
                        have G1x5 := G0x0.wroteO 2 rfl hgr hown (fun g hg => by rcases hob with h | h; exact .inl (h.trans hg); exact .inr (by injection hg with hg; simp only at hg; omega))
                        simp only [List.set_cons_zero, List.set_cons_succ] at G1x5
                        clear hown hgr hob
                        refine hK.out _ _ (fun _ => trivial) ⟨G1x5.c 0 0 rfl rfl, G1x5.c 0 1 rfl rfl⟩ (fun hHeld hHeld1 => ?_)
                        clear hK K
                        try simp only [Act.put, List.setIfInBounds_toArray, List.set_cons_zero, List.set_cons_succ]
                        refine takeJ1 (i := 17) (dst := (some 128)) (v := .agg #[.slice (some ⟨g5, 0, none⟩) (1 + X1.length) c5, .slice (some ⟨gY, oY + s9, none⟩) CM (d - s9)]) rfl rfl (by kernel_rfl) (by kernel_rfl) (by kernel_rfl) (by kernel_rfl) (fun _ _ _ h => h) (by rfl) ?hyj17xn16 hHeld1 ?restj17xn16
                        case hyj17xn16 =>
                          intro W hSw
                          go_simp
                          (try with_reducible rfl)
                        try simp only [Act.put, List.setIfInBounds_toArray, List.set_cons_zero, List.set_cons_succ]
                        refine readyJ (rs := [18]) (by kernel_rfl) (by simp) ?_
                        refine (AllJ.cons rfl ?op18zx3 AllJ.nil)
                        case op18zx3 =>
                          intro K hK
                          go_simp
                          obtain ⟨q18, hq18⟩ : ∃ y, v1x5.heap.size = y := ⟨_, rfl⟩
                          rw [hq18]
                          have G3x18 := G1x5.box1 hq18 [.slice none 0 0, .slice none 0 0] 26
                          simp only [List.cons_append, List.nil_append] at G3x18
                          obtain ⟨v3x18, h9_⟩ : ∃ zz, (v1x5.alloc (.cells #[.slice none 0 0, .slice none 0 0] 26)) = zz := ⟨_, rfl⟩
                          rw [h9_] at G3x18 ⊢
                          clear h9_ hq18
                          refine hK.out _ _ (fun _ => trivial) ⟨G3x18.c 0 0 rfl rfl, G3x18.c 0 1 rfl rfl⟩ (fun hHeld hHeld1 => ?_)
                          clear hK K
                          try simp only [Act.put, List.setIfInBounds_toArray, List.set_cons_zero, List.set_cons_succ]
                          refine readyJ (rs := [19]) (by kernel_rfl) (by simp) ?_
                          refine (AllJ.cons rfl ?op19zx4 AllJ.nil)
                          case op19zx4 =>
                            intro K hK
                            have k0 := G3x18.c 2 0 rfl rfl
                            have k1 := G3x18.c 2 1 rfl rfl
                            have kf := G3x18.f 2 0 rfl rfl
                            have kg := G3x18.f 2 1 rfl rfl
                            go_simp
                            rw [HXAl.out]
                            have G4x19 := G3x18.set 2 rfl (by simp) [.slice (some ⟨g5, 0, none⟩) XA.length c5, .slice (some ⟨gY, oY + s9, none⟩) CM (d - s9)] rfl
                            simp only [setL, Nat.reduceAdd, List.set_cons_zero, List.set_cons_succ] at G4x19
                            clear k0 k1 kf kg
                            refine hK.out _ _ (fun _ => trivial) ⟨G4x19.c 0 0 rfl rfl, G4x19.c 0 1 rfl rfl⟩ (fun hHeld hHeld1 => ?_)
                            clear hK K
                            try simp only [Act.put, List.setIfInBounds_toArray, List.set_cons_zero, List.set_cons_succ]
                            refine doneJ (by kernel_rfl) ?_
                            (try dsimp only)
                            go_wp2
                            go_meet
                            exact ⟨q18, g5, c5, rfl, hb5.1, hb5.2, Lib.hid G4x19⟩
                      case op18zx2 =>
                        intro K hK
                        go_simp
                        obtain ⟨q18, hq18⟩ : ∃ y, v0x0.heap.size = y := ⟨_, rfl⟩
                        rw [hq18]
                        have G1x18 := G0x0.box1 hq18 [.slice none 0 0, .slice none 0 0] 26
                        simp only [List.cons_append, List.nil_append] at G1x18
                        obtain ⟨v1x18, h9_⟩ : ∃ zz, (v0x0.alloc (.cells #[.slice none 0 0, .slice none 0 0] 26)) = zz := ⟨_, rfl⟩
                        rw [h9_] at G1x18 ⊢
                        clear h9_ hq18
                        refine hK.out _ _ (fun _ => trivial) ⟨G1x18.c 0 0 rfl rfl, G1x18.c 0 1 rfl rfl⟩ (fun hHeld hHeld1 => ?_)
                        clear hK K
                        try simp only [Act.put, List.setIfInBounds_toArray, List.set_cons_zero, List.set_cons_succ]
                        refine readyJ (rs := [5]) (by kernel_rfl) (by simp) ?_
                        refine (AllJ.cons rfl ?op5zx5 AllJ.nil)
                        case op5zx5 =>
                          intro K hK
                          refine stepAppN 23 3 infoInt Try.underlying23 wo.heap.size (.slice (some ⟨b0_, 0, none⟩) 1 1) 1 [1] X1 X1.length (c - 1) ⟨gX, oX + 1, none⟩ _ _ rfl rfl rfl (G1x18.r 2 rfl) rfl rfl (by have h := HX1l.out; have h2 := HX3.out; omega) (fun j hj => ?_) (by omega) (by have h := HX1l.out; have h2 := HXL9.out; omega) G1x18.hlo ?_
                          · obtain ⟨b9, o9, he, _, hcx⟩ := (HIX1.out _ (G1x18.lw 0 rfl)).cell j hj
                            cases he
                            rw [List.getElem?_eq_getElem hj] at hcx
                            have ha : (⟨gX, oX + 1, none⟩ : Addr).add j = ⟨gX, oX + 1 + j, none⟩ := by cases j with
                              | zero => rfl
                              | succ j => simp [Addr.add]
                            rw [ha]
                            exact hcx
                          intro g5 c5 v2x5 hown hgr hob
                          have hb5 := row_cap hown
                          simp only [List.singleton_append] at hown
                          rw [HXAl.out, HXA.out] at hown
                          rw [HXAl.out] at hb5
                          have G2x5 := G1x18.wroteO 2 rfl hgr hown (fun g hg => by rcases hob with h | h; exact .inl (h.trans hg); exact .inr (by injection hg with hg; simp only at hg; omega))
                          simp only [List.set_cons_zero, List.set_cons_succ] at G2x5
                          clear hown hgr hob
                          refine hK.out _ _ (fun _ => trivial) ⟨G2x5.c 0 0 rfl rfl, G2x5.c 0 1 rfl rfl⟩ (fun hHeld hHeld1 => ?_)
                          clear hK K
                          try simp only [Act.put, List.setIfInBounds_toArray, List.set_cons_zero, List.set_cons_succ]
                          refine takeJ1 (i := 17) (dst := (some 128)) (v := .agg #[.slice (some ⟨g5, 0, none⟩) (1 + X1.length) c5, .slice (some ⟨gY, oY + s9, none⟩) CM (d - s9)]) rfl rfl (by kernel_rfl) (by kernel_rfl) (by kernel_rfl) (by kernel_rfl) (fun _ _ _ h => h) (by rfl) ?hyj17xn17 hHeld1 ?restj17xn17
                          case hyj17xn17 =>
                            intro W hSw
                            go_simp
                            (try with_reducible rfl)
                          try simp only [Act.put, List.setIfInBounds_toArray, List.set_cons_zero, List.set_cons_succ]
                          refine readyJ (rs := [19]) (by kernel_rfl) (by simp) ?_
                          refine (AllJ.cons rfl ?op19zx6 AllJ.nil)
                          case op19zx6 =>
                            intro K hK
                            have k0 := G2x5.c 2 0 rfl rfl
                            have k1 := G2x5.c 2 1 rfl rfl
                            have kf := G2x5.f 2 0 rfl rfl
                            have kg := G2x5.f 2 1 rfl rfl
                            go_simp
                            rw [HXAl.out]
                            have G4x19 := G2x5.set 2 rfl (by simp) [.slice (some ⟨g5, 0, none⟩) XA.length c5, .slice (some ⟨gY, oY + s9, none⟩) CM (d - s9)] rfl
                            simp only [setL, Nat.reduceAdd, List.set_cons_zero, List.set_cons_succ] at G4x19
                            clear k0 k1 kf kg
                            refine hK.out _ _ (fun _ => trivial) ⟨G4x19.c 0 0 rfl rfl, G4x19.c 0 1 rfl rfl⟩ (fun hHeld hHeld1 => ?_)
                            clear hK K
                            try simp only [Act.put, List.setIfInBounds_toArray, List.set_cons_zero, List.set_cons_succ]
                            refine doneJ (by kernel_rfl) ?_
                            (try dsimp only)
                            go_wp2
                            go_meet
                            exact ⟨q18, g5, c5, rfl, hb5.1, hb5.2, Lib.hid G4x19⟩
                    case op18zx1 =>
                      intro K hK
                      go_simp
                      obtain ⟨q18, hq18⟩ : ∃ y, v0.heap.size = y := ⟨_, rfl⟩
                      rw [hq18]
                      have G0x18 := FD.box1 hq18 [.slice none 0 0, .slice none 0 0] 26
                      simp only [List.cons_append, List.nil_append] at G0x18
                      obtain ⟨v0x18, h9_⟩ : ∃ zz, (v0.alloc (.cells #[.slice none 0 0, .slice none 0 0] 26)) = zz := ⟨_, rfl⟩
                      rw [h9_] at G0x18 ⊢
                      clear h9_ hq18
                      refine hK.out _ _ (fun _ => trivial) ⟨G0x18.c 0 0 rfl rfl, G0x18.c 0 1 rfl rfl⟩ (fun hHeld hHeld1 => ?_)
                      clear hK K
                      try simp only [Act.put, List.setIfInBounds_toArray, List.set_cons_zero, List.set_cons_succ]
                      refine readyJ (rs := [0]) (by kernel_rfl) (by simp) ?_
                      refine (AllJ.cons rfl ?op0zx7 AllJ.nil)
                      case op0zx7 =>
                        intro K hK
                        go_simp
                        obtain ⟨b0_, hb0_⟩ : ∃ y, v0x18.heap.size = y := ⟨_, rfl⟩
                        try rw [hb0_]
                        have G1x0 := G0x18.addO ((Below.refl _ _).alloc (Nat.le_refl _) (.cells #[.int .i64 1] 3)) (World.ownsRow_lit (base := v0x18.heap.size) (size := 1) (e := 3) v0x18 #[.int .i64 1] 1 (Nat.le_refl _) (by decide) rfl)
                        simp only [List.cons_append, List.nil_append] at G1x0
                        try rw [hb0_] at G1x0
                        obtain ⟨v1x0, h9_⟩ : ∃ zz, (v0x18.alloc (.cells #[.int .i64 1] 3)) = zz := ⟨_, rfl⟩
                        rw [h9_] at G1x0 ⊢
                        clear h9_ hb0_
                        refine hK.out _ _ (fun _ => trivial) ⟨G1x0.c 0 0 rfl rfl, G1x0.c 0 1 rfl rfl⟩ (fun hHeld hHeld1 => ?_)
                        clear hK K
                        try simp only [Act.put, List.setIfInBounds_toArray, List.set_cons_zero, List.set_cons_succ]
                        refine readyJ (rs := [5]) (by kernel_rfl) (by simp) ?_
                        refine (AllJ.cons rfl ?op5zx8 AllJ.nil)
                        case op5zx8 =>
                          intro K hK
                          refine stepAppN 23 3 infoInt Try.underlying23 wo.heap.size (.slice (some ⟨b0_, 0, none⟩) 1 1) 1 [1] X1 X1.length (c - 1) ⟨gX, oX + 1, none⟩ _ _ rfl rfl rfl (G1x0.r 2 rfl) rfl rfl (by have h := HX1l.out; have h2 := HX3.out; omega) (fun j hj => ?_) (by omega) (by have h := HX1l.out; have h2 := HXL9.out; omega) G1x0.hlo ?_
                          · obtain ⟨b9, o9, he, _, hcx⟩ := (HIX1.out _ (G1x0.lw 0 rfl)).cell j hj
                            cases he
                            rw [List.getElem?_eq_getElem hj] at hcx
                            have ha : (⟨gX, oX + 1, none⟩ : Addr).add j = ⟨gX, oX + 1 + j, none⟩ := by cases j with
                              | zero => rfl
                              | succ j => simp [Addr.add]
                            rw [ha]
                            exact hcx
                          intro g5 c5 v2x5 hown hgr hob
                          have hb5 := row_cap hown
                          simp only [List.singleton_append] at hown
                          rw [HXAl.out, HXA.out] at hown
                          rw [HXAl.out] at hb5
                          have G2x5 := G1x0.wroteO 2 rfl hgr hown (fun g hg => by rcases hob with h | h; exact .inl (h.trans hg); exact .inr (by injection hg with hg; simp only at hg; omega))
                          simp only [List.set_cons_zero, List.set_cons_succ] at G2x5
                          clear hown hgr hob
                          refine hK.out _ _ (fun _ => trivial) ⟨G2x5.c 0 0 rfl rfl, G2x5.c 0 1 rfl rfl⟩ (fun hHeld hHeld1 => ?_)
                          clear hK K
                          try simp only [Act.put, List.setIfInBounds_toArray, List.set_cons_zero, List.set_cons_succ]
                          refine takeJ1 (i := 17) (dst := (some 128)) (v := .agg #[.slice (some ⟨g5, 0, none⟩) (1 + X1.length) c5, .slice (some ⟨gY, oY + s9, none⟩) CM (d - s9)]) rfl rfl (by kernel_rfl) (by kernel_rfl) (by kernel_rfl) (by kernel_rfl) (fun _ _ _ h => h) (by rfl) ?hyj17xn18 hHeld1 ?restj17xn18
                          case hyj17xn18 =>
                            intro W hSw
                            go_simp
                            (try with_reducible rfl)
                          try simp only [Act.put, List.setIfInBounds_toArray, List.set_cons_zero, List.set_cons_succ]
                          refine readyJ (rs := [19]) (by kernel_rfl) (by simp) ?_
                          refine (AllJ.cons rfl ?op19zx9 AllJ.nil)
                          case op19zx9 =>
                            intro K hK
                            have k0 := G2x5.c 2 0 rfl rfl
                            have k1 := G2x5.c 2 1 rfl rfl
                            have kf := G2x5.f 2 0 rfl rfl
                            have kg := G2x5.f 2 1 rfl rfl
                            go_simp
                            rw [HXAl.out]
                            have G4x19 := G2x5.set 2 rfl (by simp) [.slice (some ⟨g5, 0, none⟩) XA.length c5, .slice (some ⟨gY, oY + s9, none⟩) CM (d - s9)] rfl
                            simp only [setL, Nat.reduceAdd, List.set_cons_zero, List.set_cons_succ] at G4x19
                            clear k0 k1 kf kg
                            refine hK.out _ _ (fun _ => trivial) ⟨G4x19.c 0 0 rfl rfl, G4x19.c 0 1 rfl rfl⟩ (fun hHeld hHeld1 => ?_)
                            clear hK K
                            try simp only [Act.put, List.setIfInBounds_toArray, List.set_cons_zero, List.set_cons_succ]
                            refine doneJ (by kernel_rfl) ?_
                            (try dsimp only)
                            go_wp2
                            go_meet
                            exact ⟨q18, g5, c5, rfl, hb5.1, hb5.2, Lib.hid G4x19⟩
                  case rest =>
                    obtain ⟨q12, g12, c12, rfl, hcl, hcm, F12⟩ := hcut
                    clear F11
                    obtain ⟨W12, rfl⟩ : ∃ x : World, x = wc := ⟨_, rfl⟩
                    obtain ⟨YA, hYA⟩ : ∃ l, cutL ys a9 CM = l := ⟨_, rfl⟩
                    have HYA := Lib.hid hYA
                    have HYAl := Lib.hid (show YA.length = CM by rw [← hYA]; exact cutL_len HYL.out hla)
                    have HIY := Lib.hid (fun W (h : Ints .i64 W W.heap.size (some ⟨gY, oY, none⟩) ys) => (by have h9 := ints_cut h s9 CM; rw [← HS9.out] at h9; unfold cutL at hYA; rw [hYA, HS9.out] at h9; exact h9 : Ints .i64 W W.heap.size (some ⟨gY, oY + s9, none⟩) YA))
                    have HLA := Lib.hid hla
                    have HCA := Lib.hid (And.intro hcl hcm)
                    clear hYA hcl hcm HSE HEL HE9 HYB
                    obtain ⟨sA, hsA⟩ : ∃ z, s9 = z := ⟨_, rfl⟩
                    rw [hsA] at HS9 HIY F12
                    clear hsA
                    go_wp2
                    go_loopw [13] (fun s13 wr => ∃ b9 : Nat, b9 ≤ o ∧ s13 = .int .i64 b9 ∧ Hid (Fr wo.heap.size wo wr [(wo.heap.size, [.slice (some ⟨gX, oX, none⟩) xs.length c, .slice (some ⟨gY, oY, none⟩) ys.length d, .slice (some ⟨gW, oW, none⟩) ws.length c2, .slice (some ⟨gV, oV, none⟩) vs.length dw, .slice aQ Q.length cQ, .slice aS wv.S.length cS, .slice aP wv.P.length cP, .slice aD wv.D.length cD, .slice aI I.length cI, .slice aJ J.length cJ, .int .i64 f]), (Q6, [.slice aT SH.length cT, .slice (some ⟨gT, 0, none⟩) YS.length dT]), (q12, [.slice (some ⟨g12, 0, none⟩) XA.length c12, .slice (some ⟨gY, oY + sA, none⟩) CM (d - sA)])] [(.i64, (some ⟨gX, oX, none⟩), xs), (.i64, (some ⟨gY, oY, none⟩), ys), (.i64, (some ⟨gW, oW, none⟩), ws), (.i64, (some ⟨gV, oV, none⟩), vs), (.i64, aQ, Q), (.i64, aS, wv.S), (.i64, aP, wv.P), (.i64, aD, wv.D), (.i64, aI, I), (.i64, aJ, J)] [⟨3, .slice aT SH.length cT, SH.length, SH.map (Value.int .i64)⟩, ⟨2, .slice (some ⟨gT, 0, none⟩) YS.length dT, YS.length, YS.map (Value.int .i64)⟩, ⟨3, .slice (some ⟨g12, 0, none⟩) XA.length c12, XA.length, XA.map (Value.int .i64)⟩] [])) (fun s13 _ => o - (intOf s13).toNat)
                    case atStart => exact ⟨0, Nat.zero_le _, rfl, F12⟩
                    case round =>
                      obtain ⟨b9, hb9, rfl, F13⟩ := hrel
                      clear F12
                      obtain ⟨wj, rfl⟩ : ∃ x : World, x = wr := ⟨_, rfl⟩
                      by_cases hla : b9 < o
                      · skip
                        have hai : (b9 : Int) < (o : Int) := by omega
                        have g9 := HW3.out
                        have g1 : (0 : Int) < (ws.length : Int) := by omega
                        have g2 : ¬ ws = [] := by intro h; rw [h] at g9; exact absurd g9 (by simp)
                        have g3 : 0 < ws.length := by omega
                        obtain ⟨b8, o8, he, _, hcx⟩ := (F13.out.l 2 rfl).cell 0 g3
                        cases he
                        rw [HWO.out, Nat.add_zero] at hcx
                        have q0 := F13.out.c 0 2 rfl rfl
                        clear g9
                        go_upto_region 21 with fail
                        clear g1 g2 g3 hcx q0 hai
                        obtain ⟨s9, hs9⟩ : ∃ z : Nat, b9 * CT = z := ⟨_, rfl⟩
                        obtain ⟨e9, he9⟩ : ∃ z : Nat, (b9 + 1) * CT = z := ⟨_, rfl⟩
                        have HSE := Lib.hid (show e9 = s9 + CT by rw [← hs9, ← he9, Nat.succ_mul])
                        have HEL := Lib.hid (show e9 ≤ vs.length by rw [HVL.out, ← he9]; exact Nat.mul_le_mul_right _ hla)
                        have HS9 := Lib.hid hs9
                        have HE9 := Lib.hid he9
                        clear hs9 he9
                        have HYB := Lib.hid (show vs.length ≤ 9223372036854775807 by have h := HCV.out; omega)
                        go_cut [14] from 129 to 191 (fun s14 wx => ∃ Qn gn cn, s14 = .pointer (some ⟨Qn, 0, none⟩) ∧ VA.length ≤ cn ∧ cn ≤ 9223372036854775807 ∧ Hid (Fr wo.heap.size wo wx [(wo.heap.size, [.slice (some ⟨gX, oX, none⟩) xs.length c, .slice (some ⟨gY, oY, none⟩) ys.length d, .slice (some ⟨gW, oW, none⟩) ws.length c2, .slice (some ⟨gV, oV, none⟩) vs.length dw, .slice aQ Q.length cQ, .slice aS wv.S.length cS, .slice aP wv.P.length cP, .slice aD wv.D.length cD, .slice aI I.length cI, .slice aJ J.length cJ, .int .i64 f]), (Q6, [.slice aT SH.length cT, .slice (some ⟨gT, 0, none⟩) YS.length dT]), (q12, [.slice (some ⟨g12, 0, none⟩) XA.length c12, .slice (some ⟨gY, oY + sA, none⟩) CM (d - sA)]), (Qn, [.slice (some ⟨gn, 0, none⟩) VA.length cn, .slice (some ⟨gV, oV + s9, none⟩) CT (dw - s9)])] [(.i64, (some ⟨gX, oX, none⟩), xs), (.i64, (some ⟨gY, oY, none⟩), ys), (.i64, (some ⟨gW, oW, none⟩), ws), (.i64, (some ⟨gV, oV, none⟩), vs), (.i64, aQ, Q), (.i64, aS, wv.S), (.i64, aP, wv.P), (.i64, aD, wv.D), (.i64, aI, I), (.i64, aJ, J)] [⟨3, .slice aT SH.length cT, SH.length, SH.map (Value.int .i64)⟩, ⟨2, .slice (some ⟨gT, 0, none⟩) YS.length dT, YS.length, YS.map (Value.int .i64)⟩, ⟨3, .slice (some ⟨g12, 0, none⟩) XA.length c12, XA.length, XA.map (Value.int .i64)⟩, ⟨3, .slice (some ⟨gn, 0, none⟩) VA.length cn, VA.length, VA.map (Value.int .i64)⟩] []))
                        case first => as_aux_lemma =>
                          have FD := F13.out.drew
                          refine wp_region_J (S := fun _ => True) (S1 := fun W9 => W9.cell? ⟨wo.heap.size, 2, none⟩ = some (.slice (some ⟨gW, oW, none⟩) ws.length c2) ∧ W9.cell? ⟨wo.heap.size, 3, none⟩ = some (.slice (some ⟨gV, oV, none⟩) vs.length dw)) (L := [0, 1, 2, 3, 4, 5, 6, 7, 8, 9, 10, 11, 12, 13, 14, 15, 16, 17, 18, 19]) (by kernel_rfl) trivial ⟨FD.c 0 2 rfl rfl, FD.c 0 3 rfl rfl⟩ (fun hHeld hHeld1 => ?_)
                          obtain ⟨v0, hv0⟩ : ∃ x, wj.drew = x := ⟨_, rfl⟩
                          rw [hv0] at FD hHeld1 ⊢
                          clear hv0
                          refine takeJ1 (i := 1) (dst := (some 139)) (v := .pointer (some ⟨wo.heap.size, 2, none⟩)) rfl rfl (by kernel_rfl) (by kernel_rfl) (by kernel_rfl) (by kernel_rfl) (fun _ _ _ h => h) (by rfl) ?hyj21wn1 hHeld1 ?restj21wn1
                          case hyj21wn1 =>
                            intro W hSw
                            go_simp
                            (try with_reducible rfl)
                          try simp only [Act.put, List.setIfInBounds_toArray, List.set_cons_zero, List.set_cons_succ]
                          refine takeJ1 (i := 2) (dst := (some 140)) (v := .pointer (some ⟨wo.heap.size, 2, none⟩)) rfl rfl (by kernel_rfl) (by kernel_rfl) (by kernel_rfl) (by kernel_rfl) (fun _ _ _ h => h) (by rfl) ?hyj21wn2 hHeld1 ?restj21wn2
                          case hyj21wn2 =>
                            intro W hSw
                            go_simp
                            (try with_reducible rfl)
                          try simp only [Act.put, List.setIfInBounds_toArray, List.set_cons_zero, List.set_cons_succ]
                          refine takeJ1 (i := 3) (dst := (some 141)) (v := .slice (some ⟨gW, oW, none⟩) ws.length c2) rfl rfl (by kernel_rfl) (by kernel_rfl) (by kernel_rfl) (by kernel_rfl) (fun _ _ _ h => h) (by rfl) ?hyj21wn3 hHeld1 ?restj21wn3
                          case hyj21wn3 =>
                            intro W hSw
                            obtain ⟨s0, s1⟩ := hSw
                            go_simp
                            (try with_reducible rfl)
                          try simp only [Act.put, List.setIfInBounds_toArray, List.set_cons_zero, List.set_cons_succ]
                          refine takeJ1 (i := 4) (dst := (some 142)) (v := .slice (some ⟨gW, oW + 1, none⟩) V1.length (c2 - 1)) rfl rfl (by kernel_rfl) (by kernel_rfl) (by kernel_rfl) (by kernel_rfl) (fun _ _ _ h => h) (by rfl) ?hyj21wn4 hHeld1 ?restj21wn4
                          case hyj21wn4 =>
                            intro W hSw
                            have hxx := HV1l.out
                            have g9 := HW3.out
                            have g8 := HCW.out
                            have g1 : (1 : Int) ≤ (ws.length : Int) := by omega
                            have g2 : (ws.length : Int) ≤ (c2 : Int) := by omega
                            have g3 : ¬ c2 = 1 := by omega
                            clear g9 g8
                            go_simp
                            (try with_reducible rfl)
                          try simp only [Act.put, List.setIfInBounds_toArray, List.set_cons_zero, List.set_cons_succ]
                          refine takeJ1 (i := 6) (dst := (some 144)) (v := .pointer (some ⟨wo.heap.size, 2, none⟩)) rfl rfl (by kernel_rfl) (by kernel_rfl) (by kernel_rfl) (by kernel_rfl) (fun _ _ _ h => h) (by rfl) ?hyj21wn5 hHeld1 ?restj21wn5
                          case hyj21wn5 =>
                            intro W hSw
                            go_simp
                            (try with_reducible rfl)
                          try simp only [Act.put, List.setIfInBounds_toArray, List.set_cons_zero, List.set_cons_succ]
                          refine takeJ1 (i := 7) (dst := (some 145)) (v := .pointer (some ⟨wo.heap.size, 3, none⟩)) rfl rfl (by kernel_rfl) (by kernel_rfl) (by kernel_rfl) (by kernel_rfl) (fun _ _ _ h => h) (by rfl) ?hyj21wn6 hHeld1 ?restj21wn6
                          case hyj21wn6 =>
                            intro W hSw
                            go_simp
                            (try with_reducible rfl)
                          try simp only [Act.put, List.setIfInBounds_toArray, List.set_cons_zero, List.set_cons_succ]
                          refine takeJ1 (i := 8) (dst := (some 146)) (v := .slice (some ⟨gV, oV, none⟩) vs.length dw) rfl rfl (by kernel_rfl) (by kernel_rfl) (by kernel_rfl) (by kernel_rfl) (fun _ _ _ h => h) (by rfl) ?hyj21wn7 hHeld1 ?restj21wn7
                          case hyj21wn7 =>
                            intro W hSw
                            obtain ⟨s0, s1⟩ := hSw
                            go_simp
                            (try with_reducible rfl)
                          try simp only [Act.put, List.setIfInBounds_toArray, List.set_cons_zero, List.set_cons_succ]
                          refine takeJ1 (i := 9) (dst := (some 147)) (v := .int .i64 (b9 : Int)) rfl rfl (by kernel_rfl) (by kernel_rfl) (by kernel_rfl) (by kernel_rfl) (fun _ _ _ h => h) (by rfl) ?hyj21wn8 hHeld1 ?restj21wn8
                          case hyj21wn8 =>
                            intro W hSw
                            go_simp
                            (try with_reducible rfl)
                          try simp only [Act.put, List.setIfInBounds_toArray, List.set_cons_zero, List.set_cons_succ]
                          refine takeJ1 (i := 10) (dst := (some 148)) (v := .int .i64 (CT : Int)) rfl rfl (by kernel_rfl) (by kernel_rfl) (by kernel_rfl) (by kernel_rfl) (fun _ _ _ h => h) (by rfl) ?hyj21wn9 hHeld1 ?restj21wn9
                          case hyj21wn9 =>
                            intro W hSw
                            go_simp
                            (try with_reducible rfl)
                          try simp only [Act.put, List.setIfInBounds_toArray, List.set_cons_zero, List.set_cons_succ]
                          refine takeJ1 (i := 11) (dst := (some 149)) (v := .int .i64 (s9 : Int)) rfl rfl (by kernel_rfl) (by kernel_rfl) (by kernel_rfl) (by kernel_rfl) (fun _ _ _ h => h) (by rfl) ?hyj21wn10 hHeld1 ?restj21wn10
                          case hyj21wn10 =>
                            intro W hSw
                            have g2 : ∀ [Inhabited Unit], IntKind.i64.wrap ((b9 : Int) * (CT : Int)) = (s9 : Int) := by intro _; rw [← Int.natCast_mul, HS9.out]; exact IntWalk.i64_in _ (by have h := HSE.out; have h2 := HEL.out; have h3 := HYB.out; omega)
                            go_simp
                            (try with_reducible rfl)
                          try simp only [Act.put, List.setIfInBounds_toArray, List.set_cons_zero, List.set_cons_succ]
                          refine takeJ1 (i := 12) (dst := (some 150)) (v := .int .i64 (b9 : Int)) rfl rfl (by kernel_rfl) (by kernel_rfl) (by kernel_rfl) (by kernel_rfl) (fun _ _ _ h => h) (by rfl) ?hyj21wn11 hHeld1 ?restj21wn11
                          case hyj21wn11 =>
                            intro W hSw
                            go_simp
                            (try with_reducible rfl)
                          try simp only [Act.put, List.setIfInBounds_toArray, List.set_cons_zero, List.set_cons_succ]
                          refine takeJ1 (i := 13) (dst := (some 151)) (v := .int .i64 (b9 + 1 : Nat)) rfl rfl (by kernel_rfl) (by kernel_rfl) (by kernel_rfl) (by kernel_rfl) (fun _ _ _ h => h) (by rfl) ?hyj21wn12 hHeld1 ?restj21wn12
                          case hyj21wn12 =>
                            intro W hSw
                            have g2 : ∀ [Inhabited Unit], IntKind.i64.wrap ((b9 : Int) + 1) = ((b9 + 1 : Nat) : Int) := by intro _; rw [Int.natCast_add]; exact IntWalk.i64_in _ (by have h := HB9.out; omega)
                            go_simp
                            (try with_reducible rfl)
                          try simp only [Act.put, List.setIfInBounds_toArray, List.set_cons_zero, List.set_cons_succ]
                          refine takeJ1 (i := 14) (dst := (some 152)) (v := .int .i64 (CT : Int)) rfl rfl (by kernel_rfl) (by kernel_rfl) (by kernel_rfl) (by kernel_rfl) (fun _ _ _ h => h) (by rfl) ?hyj21wn13 hHeld1 ?restj21wn13
                          case hyj21wn13 =>
                            intro W hSw
                            go_simp
                            (try with_reducible rfl)
                          try simp only [Act.put, List.setIfInBounds_toArray, List.set_cons_zero, List.set_cons_succ]
                          refine takeJ1 (i := 15) (dst := (some 153)) (v := .int .i64 (e9 : Int)) rfl rfl (by kernel_rfl) (by kernel_rfl) (by kernel_rfl) (by kernel_rfl) (fun _ _ _ h => h) (by rfl) ?hyj21wn14 hHeld1 ?restj21wn14
                          case hyj21wn14 =>
                            intro W hSw
                            have g2 : ∀ [Inhabited Unit], IntKind.i64.wrap (((b9 : Int) + 1) * (CT : Int)) = (e9 : Int) := by intro _; rw [show ((b9 : Int) + 1) = ((b9 + 1 : Nat) : Int) from rfl, ← Int.natCast_mul, HE9.out]; exact IntWalk.i64_in _ (by have h2 := HEL.out; have h3 := HYB.out; omega)
                            go_simp
                            (try with_reducible rfl)
                          try simp only [Act.put, List.setIfInBounds_toArray, List.set_cons_zero, List.set_cons_succ]
                          refine takeJ1 (i := 16) (dst := (some 154)) (v := .slice (some ⟨gV, oV + s9, none⟩) CT (dw - s9)) rfl rfl (by kernel_rfl) (by kernel_rfl) (by kernel_rfl) (by kernel_rfl) (fun _ _ _ h => h) (by rfl) ?hyj21wn15 hHeld1 ?restj21wn15
                          case hyj21wn15 =>
                            intro W hSw
                            have h1 := HSE.out
                            have h2 := HEL.out
                            have h3 := HCV.out
                            have h4 := HCT1.out
                            have g1 : (s9 : Int) ≤ (e9 : Int) := by omega
                            have g2 : (e9 : Int) ≤ (dw : Int) := by omega
                            have g3 : ¬ dw = s9 := by omega
                            have g4 : e9 - s9 = CT := by omega
                            clear h1 h2 h3 h4
                            go_simp
                            (try with_reducible rfl)
                          try simp only [Act.put, List.setIfInBounds_toArray, List.set_cons_zero, List.set_cons_succ]
                          refine readyJ (rs := [0, 18]) (by kernel_rfl) (by simp) ?_
                          refine (AllJ.cons rfl ?op0zw1 (AllJ.cons rfl ?op18zw1 AllJ.nil))
                          case op0zw1 =>
                            intro K hK
                            go_simp
                            obtain ⟨b0_, hb0_⟩ : ∃ y, v0.heap.size = y := ⟨_, rfl⟩
                            try rw [hb0_]
                            have G0x0 := FD.addO ((Below.refl _ _).alloc (Nat.le_refl _) (.cells #[.int .i64 1] 3)) (World.ownsRow_lit (base := v0.heap.size) (size := 1) (e := 3) v0 #[.int .i64 1] 1 (Nat.le_refl _) (by decide) rfl)
                            simp only [List.cons_append, List.nil_append] at G0x0
                            try rw [hb0_] at G0x0
                            obtain ⟨v0x0, h9_⟩ : ∃ zz, (v0.alloc (.cells #[.int .i64 1] 3)) = zz := ⟨_, rfl⟩
                            rw [h9_] at G0x0 ⊢
                            clear h9_ hb0_
                            refine hK.out _ _ (fun _ => trivial) ⟨G0x0.c 0 2 rfl rfl, G0x0.c 0 3 rfl rfl⟩ (fun hHeld hHeld1 => ?_)
                            clear hK K
                            try simp only [Act.put, List.setIfInBounds_toArray, List.set_cons_zero, List.set_cons_succ]
                            refine readyJ (rs := [5, 18]) (by kernel_rfl) (by simp) ?_
                            refine (AllJ.cons rfl ?op5zw2 (AllJ.cons rfl ?op18zw2 AllJ.nil))
                            case op5zw2 =>
                              intro K hK
                              refine stepAppN 23 3 infoInt Try.underlying23 wo.heap.size (.slice (some ⟨b0_, 0, none⟩) 1 1) 1 [1] V1 V1.length (c2 - 1) ⟨gW, oW + 1, none⟩ _ _ rfl rfl rfl (G0x0.r 3 rfl) rfl rfl (by have h := HV1l.out; have h2 := HW3.out; omega) (fun j hj => ?_) (by omega) (by have h := HV1l.out; have h2 := HWL9.out; omega) G0x0.hlo ?_
                              · obtain ⟨b9, o9, he, _, hcx⟩ := (HIV1.out _ (G0x0.lw 2 rfl)).cell j hj
                                cases he
                                rw [List.getElem?_eq_getElem hj] at hcx
                                have ha : (⟨gW, oW + 1, none⟩ : Addr).add j = ⟨gW, oW + 1 + j, none⟩ := by cases j with
                                  | zero => rfl
                                  | succ j => simp [Addr.add]
                                rw [ha]
                                exact hcx
                              intro g5 c5 v1x5 hown hgr hob
                              have hb5 := row_cap hown
                              simp only [List.singleton_append] at hown
                              rw [HVAl.out, HVA.out] at hown
                              rw [HVAl.out] at hb5
                              have G1x5 := G0x0.wroteO 3 rfl hgr hown (fun g hg => by rcases hob with h | h; exact .inl (h.trans hg); exact .inr (by injection hg with hg; simp only at hg; omega))
                              simp only [List.set_cons_zero, List.set_cons_succ] at G1x5
                              clear hown hgr hob
                              refine hK.out _ _ (fun _ => trivial) ⟨G1x5.c 0 2 rfl rfl, G1x5.c 0 3 rfl rfl⟩ (fun hHeld hHeld1 => ?_)
                              clear hK K
                              try simp only [Act.put, List.setIfInBounds_toArray, List.set_cons_zero, List.set_cons_succ]
                              refine takeJ1 (i := 17) (dst := (some 155)) (v := .agg #[.slice (some ⟨g5, 0, none⟩) (1 + V1.length) c5, .slice (some ⟨gV, oV + s9, none⟩) CT (dw - s9)]) rfl rfl (by kernel_rfl) (by kernel_rfl) (by kernel_rfl) (by kernel_rfl) (fun _ _ _ h => h) (by rfl) ?hyj21wn16 hHeld1 ?restj21wn16
                              case hyj21wn16 =>
                                intro W hSw
                                go_simp
                                (try with_reducible rfl)
                              try simp only [Act.put, List.setIfInBounds_toArray, List.set_cons_zero, List.set_cons_succ]
                              refine readyJ (rs := [18]) (by kernel_rfl) (by simp) ?_
                              refine (AllJ.cons rfl ?op18zw3 AllJ.nil)
                              case op18zw3 =>
                                intro K hK
                                go_simp
                                obtain ⟨q18, hq18⟩ : ∃ y, v1x5.heap.size = y := ⟨_, rfl⟩
                                rw [hq18]
                                have G3x18 := G1x5.box1 hq18 [.slice none 0 0, .slice none 0 0] 26
                                simp only [List.cons_append, List.nil_append] at G3x18
                                obtain ⟨v3x18, h9_⟩ : ∃ zz, (v1x5.alloc (.cells #[.slice none 0 0, .slice none 0 0] 26)) = zz := ⟨_, rfl⟩
                                rw [h9_] at G3x18 ⊢
                                clear h9_ hq18
                                refine hK.out _ _ (fun _ => trivial) ⟨G3x18.c 0 2 rfl rfl, G3x18.c 0 3 rfl rfl⟩ (fun hHeld hHeld1 => ?_)
                                clear hK K
                                try simp only [Act.put, List.setIfInBounds_toArray, List.set_cons_zero, List.set_cons_succ]
                                refine readyJ (rs := [19]) (by kernel_rfl) (by simp) ?_
                                refine (AllJ.cons rfl ?op19zw4 AllJ.nil)
                                case op19zw4 =>
                                  intro K hK
                                  have k0 := G3x18.c 3 0 rfl rfl
                                  have k1 := G3x18.c 3 1 rfl rfl
                                  have kf := G3x18.f 3 0 rfl rfl
                                  have kg := G3x18.f 3 1 rfl rfl
                                  go_simp
                                  rw [HVAl.out]
                                  have G4x19 := G3x18.set 3 rfl (by simp) [.slice (some ⟨g5, 0, none⟩) VA.length c5, .slice (some ⟨gV, oV + s9, none⟩) CT (dw - s9)] rfl
                                  simp only [setL, Nat.reduceAdd, List.set_cons_zero, List.set_cons_succ] at G4x19
                                  clear k0 k1 kf kg
                                  refine hK.out _ _ (fun _ => trivial) ⟨G4x19.c 0 2 rfl rfl, G4x19.c 0 3 rfl rfl⟩ (fun hHeld hHeld1 => ?_)
                                  clear hK K
                                  try simp only [Act.put, List.setIfInBounds_toArray, List.set_cons_zero, List.set_cons_succ]
                                  refine doneJ (by kernel_rfl) ?_
                                  (try dsimp only)
                                  go_wp2
                                  go_meet
                                  exact ⟨q18, g5, c5, rfl, hb5.1, hb5.2, Lib.hid G4x19⟩
                            case op18zw2 =>
                              intro K hK
                              go_simp
                              obtain ⟨q18, hq18⟩ : ∃ y, v0x0.heap.size = y := ⟨_, rfl⟩
                              rw [hq18]
                              have G1x18 := G0x0.box1 hq18 [.slice none 0 0, .slice none 0 0] 26
                              simp only [List.cons_append, List.nil_append] at G1x18
                              obtain ⟨v1x18, h9_⟩ : ∃ zz, (v0x0.alloc (.cells #[.slice none 0 0, .slice none 0 0] 26)) = zz := ⟨_, rfl⟩
                              rw [h9_] at G1x18 ⊢
                              clear h9_ hq18
                              refine hK.out _ _ (fun _ => trivial) ⟨G1x18.c 0 2 rfl rfl, G1x18.c 0 3 rfl rfl⟩ (fun hHeld hHeld1 => ?_)
                              clear hK K
                              try simp only [Act.put, List.setIfInBounds_toArray, List.set_cons_zero, List.set_cons_succ]
                              refine readyJ (rs := [5]) (by kernel_rfl) (by simp) ?_
                              refine (AllJ.cons rfl ?op5zw5 AllJ.nil)
                              case op5zw5 =>
                                intro K hK
                                refine stepAppN 23 3 infoInt Try.underlying23 wo.heap.size (.slice (some ⟨b0_, 0, none⟩) 1 1) 1 [1] V1 V1.length (c2 - 1) ⟨gW, oW + 1, none⟩ _ _ rfl rfl rfl (G1x18.r 3 rfl) rfl rfl (by have h := HV1l.out; have h2 := HW3.out; omega) (fun j hj => ?_) (by omega) (by have h := HV1l.out; have h2 := HWL9.out; omega) G1x18.hlo ?_
                                · obtain ⟨b9, o9, he, _, hcx⟩ := (HIV1.out _ (G1x18.lw 2 rfl)).cell j hj
                                  cases he
                                  rw [List.getElem?_eq_getElem hj] at hcx
                                  have ha : (⟨gW, oW + 1, none⟩ : Addr).add j = ⟨gW, oW + 1 + j, none⟩ := by cases j with
                                    | zero => rfl
                                    | succ j => simp [Addr.add]
                                  rw [ha]
                                  exact hcx
                                intro g5 c5 v2x5 hown hgr hob
                                have hb5 := row_cap hown
                                simp only [List.singleton_append] at hown
                                rw [HVAl.out, HVA.out] at hown
                                rw [HVAl.out] at hb5
                                have G2x5 := G1x18.wroteO 3 rfl hgr hown (fun g hg => by rcases hob with h | h; exact .inl (h.trans hg); exact .inr (by injection hg with hg; simp only at hg; omega))
                                simp only [List.set_cons_zero, List.set_cons_succ] at G2x5
                                clear hown hgr hob
                                refine hK.out _ _ (fun _ => trivial) ⟨G2x5.c 0 2 rfl rfl, G2x5.c 0 3 rfl rfl⟩ (fun hHeld hHeld1 => ?_)
                                clear hK K
                                try simp only [Act.put, List.setIfInBounds_toArray, List.set_cons_zero, List.set_cons_succ]
                                refine takeJ1 (i := 17) (dst := (some 155)) (v := .agg #[.slice (some ⟨g5, 0, none⟩) (1 + V1.length) c5, .slice (some ⟨gV, oV + s9, none⟩) CT (dw - s9)]) rfl rfl (by kernel_rfl) (by kernel_rfl) (by kernel_rfl) (by kernel_rfl) (fun _ _ _ h => h) (by rfl) ?hyj21wn17 hHeld1 ?restj21wn17
                                case hyj21wn17 =>
                                  intro W hSw
                                  go_simp
                                  (try with_reducible rfl)
                                try simp only [Act.put, List.setIfInBounds_toArray, List.set_cons_zero, List.set_cons_succ]
                                refine readyJ (rs := [19]) (by kernel_rfl) (by simp) ?_
                                refine (AllJ.cons rfl ?op19zw6 AllJ.nil)
                                case op19zw6 =>
                                  intro K hK
                                  have k0 := G2x5.c 3 0 rfl rfl
                                  have k1 := G2x5.c 3 1 rfl rfl
                                  have kf := G2x5.f 3 0 rfl rfl
                                  have kg := G2x5.f 3 1 rfl rfl
                                  go_simp
                                  rw [HVAl.out]
                                  have G4x19 := G2x5.set 3 rfl (by simp) [.slice (some ⟨g5, 0, none⟩) VA.length c5, .slice (some ⟨gV, oV + s9, none⟩) CT (dw - s9)] rfl
                                  simp only [setL, Nat.reduceAdd, List.set_cons_zero, List.set_cons_succ] at G4x19
                                  clear k0 k1 kf kg
                                  refine hK.out _ _ (fun _ => trivial) ⟨G4x19.c 0 2 rfl rfl, G4x19.c 0 3 rfl rfl⟩ (fun hHeld hHeld1 => ?_)
                                  clear hK K
                                  try simp only [Act.put, List.setIfInBounds_toArray, List.set_cons_zero, List.set_cons_succ]
                                  refine doneJ (by kernel_rfl) ?_
                                  (try dsimp only)
                                  go_wp2
                                  go_meet
                                  exact ⟨q18, g5, c5, rfl, hb5.1, hb5.2, Lib.hid G4x19⟩
                          case op18zw1 =>
                            intro K hK
                            go_simp
                            obtain ⟨q18, hq18⟩ : ∃ y, v0.heap.size = y := ⟨_, rfl⟩
                            rw [hq18]
                            have G0x18 := FD.box1 hq18 [.slice none 0 0, .slice none 0 0] 26
                            simp only [List.cons_append, List.nil_append] at G0x18
                            obtain ⟨v0x18, h9_⟩ : ∃ zz, (v0.alloc (.cells #[.slice none 0 0, .slice none 0 0] 26)) = zz := ⟨_, rfl⟩
                            rw [h9_] at G0x18 ⊢
                            clear h9_ hq18
                            refine hK.out _ _ (fun _ => trivial) ⟨G0x18.c 0 2 rfl rfl, G0x18.c 0 3 rfl rfl⟩ (fun hHeld hHeld1 => ?_)
                            clear hK K
                            try simp only [Act.put, List.setIfInBounds_toArray, List.set_cons_zero, List.set_cons_succ]
                            refine readyJ (rs := [0]) (by kernel_rfl) (by simp) ?_
                            refine (AllJ.cons rfl ?op0zw7 AllJ.nil)
                            case op0zw7 =>
                              intro K hK
                              go_simp
                              obtain ⟨b0_, hb0_⟩ : ∃ y, v0x18.heap.size = y := ⟨_, rfl⟩
                              try rw [hb0_]
                              have G1x0 := G0x18.addO ((Below.refl _ _).alloc (Nat.le_refl _) (.cells #[.int .i64 1] 3)) (World.ownsRow_lit (base := v0x18.heap.size) (size := 1) (e := 3) v0x18 #[.int .i64 1] 1 (Nat.le_refl _) (by decide) rfl)
                              simp only [List.cons_append, List.nil_append] at G1x0
                              try rw [hb0_] at G1x0
                              obtain ⟨v1x0, h9_⟩ : ∃ zz, (v0x18.alloc (.cells #[.int .i64 1] 3)) = zz := ⟨_, rfl⟩
                              rw [h9_] at G1x0 ⊢
                              clear h9_ hb0_
                              refine hK.out _ _ (fun _ => trivial) ⟨G1x0.c 0 2 rfl rfl, G1x0.c 0 3 rfl rfl⟩ (fun hHeld hHeld1 => ?_)
                              clear hK K
                              try simp only [Act.put, List.setIfInBounds_toArray, List.set_cons_zero, List.set_cons_succ]
                              refine readyJ (rs := [5]) (by kernel_rfl) (by simp) ?_
                              refine (AllJ.cons rfl ?op5zw8 AllJ.nil)
                              case op5zw8 =>
                                intro K hK
                                refine stepAppN 23 3 infoInt Try.underlying23 wo.heap.size (.slice (some ⟨b0_, 0, none⟩) 1 1) 1 [1] V1 V1.length (c2 - 1) ⟨gW, oW + 1, none⟩ _ _ rfl rfl rfl (G1x0.r 3 rfl) rfl rfl (by have h := HV1l.out; have h2 := HW3.out; omega) (fun j hj => ?_) (by omega) (by have h := HV1l.out; have h2 := HWL9.out; omega) G1x0.hlo ?_
                                · obtain ⟨b9, o9, he, _, hcx⟩ := (HIV1.out _ (G1x0.lw 2 rfl)).cell j hj
                                  cases he
                                  rw [List.getElem?_eq_getElem hj] at hcx
                                  have ha : (⟨gW, oW + 1, none⟩ : Addr).add j = ⟨gW, oW + 1 + j, none⟩ := by cases j with
                                    | zero => rfl
                                    | succ j => simp [Addr.add]
                                  rw [ha]
                                  exact hcx
                                intro g5 c5 v2x5 hown hgr hob
                                have hb5 := row_cap hown
                                simp only [List.singleton_append] at hown
                                rw [HVAl.out, HVA.out] at hown
                                rw [HVAl.out] at hb5
                                have G2x5 := G1x0.wroteO 3 rfl hgr hown (fun g hg => by rcases hob with h | h; exact .inl (h.trans hg); exact .inr (by injection hg with hg; simp only at hg; omega))
                                simp only [List.set_cons_zero, List.set_cons_succ] at G2x5
                                clear hown hgr hob
                                refine hK.out _ _ (fun _ => trivial) ⟨G2x5.c 0 2 rfl rfl, G2x5.c 0 3 rfl rfl⟩ (fun hHeld hHeld1 => ?_)
                                clear hK K
                                try simp only [Act.put, List.setIfInBounds_toArray, List.set_cons_zero, List.set_cons_succ]
                                refine takeJ1 (i := 17) (dst := (some 155)) (v := .agg #[.slice (some ⟨g5, 0, none⟩) (1 + V1.length) c5, .slice (some ⟨gV, oV + s9, none⟩) CT (dw - s9)]) rfl rfl (by kernel_rfl) (by kernel_rfl) (by kernel_rfl) (by kernel_rfl) (fun _ _ _ h => h) (by rfl) ?hyj21wn18 hHeld1 ?restj21wn18
                                case hyj21wn18 =>
                                  intro W hSw
                                  go_simp
                                  (try with_reducible rfl)
                                try simp only [Act.put, List.setIfInBounds_toArray, List.set_cons_zero, List.set_cons_succ]
                                refine readyJ (rs := [19]) (by kernel_rfl) (by simp) ?_
                                refine (AllJ.cons rfl ?op19zw9 AllJ.nil)
                                case op19zw9 =>
                                  intro K hK
                                  have k0 := G2x5.c 3 0 rfl rfl
                                  have k1 := G2x5.c 3 1 rfl rfl
                                  have kf := G2x5.f 3 0 rfl rfl
                                  have kg := G2x5.f 3 1 rfl rfl
                                  go_simp
                                  rw [HVAl.out]
                                  have G4x19 := G2x5.set 3 rfl (by simp) [.slice (some ⟨g5, 0, none⟩) VA.length c5, .slice (some ⟨gV, oV + s9, none⟩) CT (dw - s9)] rfl
                                  simp only [setL, Nat.reduceAdd, List.set_cons_zero, List.set_cons_succ] at G4x19
                                  clear k0 k1 kf kg
                                  refine hK.out _ _ (fun _ => trivial) ⟨G4x19.c 0 2 rfl rfl, G4x19.c 0 3 rfl rfl⟩ (fun hHeld hHeld1 => ?_)
                                  clear hK K
                                  try simp only [Act.put, List.setIfInBounds_toArray, List.set_cons_zero, List.set_cons_succ]
                                  refine doneJ (by kernel_rfl) ?_
                                  (try dsimp only)
                                  go_wp2
                                  go_meet
                                  exact ⟨q18, g5, c5, rfl, hb5.1, hb5.2, Lib.hid G4x19⟩
                        case rest =>
                          obtain ⟨q14, g14, c14, rfl, hcl, hcm, F14⟩ := hcut
                          clear F13
                          obtain ⟨W14, rfl⟩ : ∃ x : World, x = wc := ⟨_, rfl⟩
                          obtain ⟨VB, hVB⟩ : ∃ l, cutL vs b9 CT = l := ⟨_, rfl⟩
                          have HVB := Lib.hid hVB
                          have HVBl := Lib.hid (show VB.length = CT by rw [← hVB]; exact cutL_len HVL.out hla)
                          have HIV := Lib.hid (fun W (h : Ints .i64 W W.heap.size (some ⟨gV, oV, none⟩) vs) => (by have h9 := ints_cut h s9 CT; rw [← HS9.out] at h9; unfold cutL at hVB; rw [hVB, HS9.out] at h9; exact h9 : Ints .i64 W W.heap.size (some ⟨gV, oV + s9, none⟩) VB))
                          have HLB := Lib.hid hla
                          have HCB := Lib.hid (And.intro hcl hcm)
                          clear hVB hcl hcm HSE HEL HE9 HYB
                          obtain ⟨e1, e2, e3, e4, e5⟩ := alone_all HL.out HK.out HFF.out HOZ.out HAL.out HKK.out HLA.out HLB.out
                          rw [HCMe.out, HCTe.out] at e3 e5
                          rw [HX1.out, HV1.out, HXA.out, HVA.out] at e4 e5
                          rw [HX1.out, HV1.out, HXA.out, HVA.out] at e3
                          rw [HX1.out, HXA.out] at e1
                          rw [HV1.out, HVA.out] at e2
                          rw [HYA.out, HVB.out] at e3 e5
                          have hys : (List.range NN).map (cvW xs ys ws vs wv fb.toNat) = YS := by rw [← HYS.out, hz0, zL_0, HNN.out]
                          rw [hys] at e5
                          obtain ⟨Y2, hY2⟩ : ∃ l, cutL YS (a9 * o + b9) N = l := ⟨_, rfl⟩
                          rw [hY2] at e5
                          have HY2 := Lib.hid hY2
                          have hcv := fun W h h2 k k2 hQ hS hP hD => conv_any (some ⟨g12, 0, none⟩) (some ⟨gY, oY + sA, none⟩) (some ⟨g14, 0, none⟩) (some ⟨gV, oV + s9, none⟩) c12 (d - sA) c14 (dw - s9) XA YA VA VB aQ aS aP aD cQ cS cP cD Q wv fb W h h2 k k2 hQ hS hP hD e1 e2 HCA.out.1 HCA.out.2 HCB.out.1 HCB.out.2
                          rw [e3, zL_0, zL_0, e4, e5, HYAl.out, HVBl.out] at hcv
                          obtain ⟨S2, hS2⟩ : ∃ l, coS XA VA wv = l := ⟨_, rfl⟩
                          rw [hS2] at hcv
                          have HCV2 := Lib.hid hcv
                          clear hcv hS2 e1 e2 e3 e4 e5 hys hY2
                          have c0_0 := F14.out.c 0 0 rfl rfl
                          have c0_1 := F14.out.c 0 1 rfl rfl
                          have c0_2 := F14.out.c 0 2 rfl rfl
                          have c0_3 := F14.out.c 0 3 rfl rfl
                          have c0_4 := F14.out.c 0 4 rfl rfl
                          have c0_5 := F14.out.c 0 5 rfl rfl
                          have c0_6 := F14.out.c 0 6 rfl rfl
                          have c0_7 := F14.out.c 0 7 rfl rfl
                          have c0_8 := F14.out.c 0 8 rfl rfl
                          have c0_9 := F14.out.c 0 9 rfl rfl
                          have c0_10 := F14.out.c 0 10 rfl rfl
                          have c2_0 := F14.out.c 2 0 rfl rfl
                          have c2_1 := F14.out.c 2 1 rfl rfl
                          have c3_0 := F14.out.c 3 0 rfl rfl
                          have c3_1 := F14.out.c 3 1 rfl rfl
                          go_upto_region 22 with fail
                          go_upto_region 23 with (first | (go_at_call 10; refine (HCV2.out _ (F14.out.li 2 (k := .i64) (xs := XA) rfl HWA.out) (HIY.out _ (F14.out.lw 1 rfl)) (F14.out.li 3 (k := .i64) (xs := VA) rfl HWV.out) (HIV.out _ (F14.out.lw 3 rfl)) (F14.out.lw 4 rfl) (F14.out.lw 5 rfl) (F14.out.lw 6 rfl) (F14.out.lw 7 rfl)).mono ?_; rintro e w15 ⟨a15, c15, b15, dN, rfl, hf⟩; have F15 := Lib.hid (F14.out.join hf); simp only [List.nil_append, List.cons_append] at F15; clear hf F14 c0_0 c0_1 c0_2 c0_3 c0_4 c0_5 c0_6 c0_7 c0_8 c0_9 c0_10 c2_0 c2_1 c3_0 c3_1) | fail)
                          obtain ⟨q15, hq15⟩ : ∃ x, w15.heap.size = x := ⟨_, rfl⟩
                          rw [hq15]
                          have F16 := Lib.hid (F15.out.box1 (b := q15) hq15 [.slice a15 S2.length c15, .slice b15 Y2.length dN] 26)
                          simp only [List.nil_append, List.cons_append] at F16
                          obtain ⟨W16, hW16⟩ : ∃ x, (w15.alloc (.cells #[.slice a15 S2.length c15, .slice b15 Y2.length dN] 26)) = x := ⟨_, rfl⟩
                          rw [hW16] at F16 ⊢
                          clear hW16 hq15 F15
                          obtain ⟨ao, hao⟩ : ∃ z : Nat, a9 * o = z := ⟨_, rfl⟩
                          obtain ⟨ab, hab⟩ : ∃ z : Nat, ao + b9 = z := ⟨_, rfl⟩
                          obtain ⟨at9, hat⟩ : ∃ z : Nat, ab * N = z := ⟨_, rfl⟩
                          have HAT := Lib.hid (show at9 + N ≤ YS.length ∧ ab < 16777216 ∧ ao ≤ 16777216 by
                            have h1 := HLA.out; have h2 := HLB.out; have h3 := HB9.out; have h4 := Nat.mul_le_mul_right o (show a9 + 1 ≤ R by omega); rw [Nat.succ_mul, hao, HROe.out] at h4; have h5 := Nat.mul_le_mul_right N (show ab + 1 ≤ RO by omega); rw [Nat.succ_mul, hat] at h5; rw [HTL.out, HNR.out]; omega)
                          have HYT := Lib.hid (show YS.length ≤ 65536 by rw [HTL.out]; exact HKK.out.bounds.2.2.2.2.2.2.1)
                          have m1 : ∀ [Inhabited Unit], RowKit.wrap64 ((a9 : Int) * (o : Int)) = (ao : Int) := by intro _; rw [← Int.natCast_mul, hao]; exact IntWalk.wrap64_in _ (by have h := HAT.out; omega)
                          have m2 : ∀ [Inhabited Unit], RowKit.wrap64 ((ao : Int) + (b9 : Int)) = (ab : Int) := by intro _; rw [← Int.natCast_add, hab]; exact IntWalk.wrap64_in _ (by have h := HAT.out; omega)
                          have m3 : ∀ [Inhabited Unit], RowKit.wrap64 ((ab : Int) * (N : Int)) = (at9 : Int) := by intro _; rw [← Int.natCast_mul, hat]; exact IntWalk.wrap64_in _ (by have h := HAT.out; have h2 := HYT.out; omega)
                          have HAO := Lib.hid (show a9 * o + b9 = ab by rw [hao, hab])
                          have HATe := Lib.hid hat
                          clear hao hat hab
                          have g9 := HW3.out
                          have g1 : (0 : Int) < (ws.length : Int) := by omega
                          have g2 : ¬ ws = [] := by intro h; rw [h] at g9; exact absurd g9 (by simp)
                          have g3 : 0 < ws.length := by omega
                          obtain ⟨b8, o8, he, _, hcx⟩ := (F16.out.l 2 rfl).cell 0 g3
                          cases he
                          rw [HWO.out, Nat.add_zero] at hcx
                          have q0 := F16.out.c 0 2 rfl rfl
                          clear g9
                          go_upto_region 24 with fail
                          rw [m1, m2, m3]
                          clear g1 g2 g3 hcx q0 m1 m2 m3
                          have HS2 := Lib.hid (fun W (h : Ints .i64 W W.heap.size (some ⟨gT, 0, none⟩) YS) => (by have h9 := ints_cut h at9 N; rw [Nat.zero_add, ← HATe.out, ← HAO.out] at h9; have h8 := HY2.out; unfold cutL at h8; rw [h8, HAO.out, HATe.out] at h9; exact h9 : Ints .i64 W W.heap.size (some ⟨gT, at9, none⟩) Y2))
                          have HY2l := Lib.hid (show Y2.length = N by rw [← HY2.out]; exact cutL_len (R := RO) (by rw [HTL.out, HNR.out]) (by have h1 := HLA.out; have h2 := HLB.out; have h4 := Nat.mul_le_mul_right o (show a9 + 1 ≤ R by omega); rw [Nat.succ_mul, HROe.out] at h4; omega))
                          have hdT := row_cap (F16.out.r 1 rfl)
                          have HDT := Lib.hid hdT
                          clear hdT
                          have hwfY : ∀ x ∈ YS, (Lit.int .i64 x).wf = true := fun x hx => by
                            rw [← HYS.out, hz0, zL_0] at hx
                            obtain ⟨i, hi, rfl⟩ := List.mem_map.1 hx
                            have h9 := List.all_eq_true.1 HAL.out i hi
                            have h8 := isW_iff.1 h9
                            exact wf_i64_iff.2 ⟨by omega, by omega⟩
                          have HWY := Lib.hid hwfY
                          have HWY2 := Lib.hid (show ∀ x ∈ Y2, (Lit.int .i64 x).wf = true from fun x hx => by rw [← HY2.out] at hx; exact hwfY x (cutL_mem hx))
                          clear hwfY
                          have HEW := Lib.hid (fun a1 c1 a2 c2 W (h1 : Ints .i64 W W.heap.size a1 Y2) (h2 : Ints .i64 W W.heap.size a2 Y2) => (by have h9 := eqWords_any a1 a2 c1 c2 W.heap.size Y2 Y2 W h1 h2; simp only [decide_true] at h9; rw [show Value.slice a2 Y2.length c2 = .slice a2 N c2 by rw [HY2l.out]] at h9; exact h9 : Calls Try.prog 12 #[.slice a1 Y2.length c1, .slice a2 N c2] W fun e w' => e = .returned (.bool true) ∧ ∃ q, w' = W.drewN q))
                          obtain ⟨eT, heT⟩ : ∃ z : Nat, at9 + N = z := ⟨_, rfl⟩
                          have HET := Lib.hid heT
                          clear heT
                          refine wp_region_parts2 (w := W16) 16 0 none [] [(fun u _ => u = .int .i64 0), (fun u _ => u = .int .i64 0), (fun u _ => u = .bool false), (fun u _ => u = .bool false), (fun u _ => u = .pointer (some ⟨q15, 1, none⟩)), (fun u _ => u = .slice b15 Y2.length dN), (fun u _ => u = .pointer (some ⟨Q6, 1, none⟩)), (fun u _ => u = .slice (some ⟨gT, 0, none⟩) YS.length dT), (fun u _ => u = .int .i64 (at9 : Int)), (fun u _ => u = .int .i64 (at9 : Int)), (fun u _ => u = .int .i64 (N : Int)), (fun u _ => u = .int .i64 (eT : Int)), (fun u _ => u = .slice (some ⟨gT, at9, none⟩) N (dT - at9)), (fun u _ => u = .bool true), (fun u _ => u = .bool false), (fun u _ => u = .bool false)] [some 176, some 177, some 178, some 179, some 180, some 181, some 182, some 183, some 184, some 185, some 186, some 187, some 188, some 189, some 190, some 191] #[true, true, true, true, true, true, true, true, true, true, true, true, true, true, true, true] #[true, true, true, true, true, true, true, true, true, true, true, true, true, true, true, true] (by kernel_rfl) rfl (by kernel_rfl) (by kernel_rfl) rfl (by kernel_rfl) (by kernel_rfl) (.cons (carries_eq _) (.cons (carries_eq _) (.cons (carries_eq _) (.cons (carries_eq _) (.cons (carries_eq _) (.cons (carries_eq _) (.cons (carries_eq _) (.cons (carries_eq _) (.cons (carries_eq _) (.cons (carries_eq _) (.cons (carries_eq _) (.cons (carries_eq _) (.cons (carries_eq _) (.cons (carries_eq _) (.cons (carries_eq _) (.cons (carries_eq _) .nil)))))))))))))))) (fun vs b hvl hvb => ?_)
                          obtain ⟨x0, x1, x2, x3, x4, x5, x6, x7, x8, x9, x10, x11, x12, x13, x14, x15, rfl⟩ : ∃ x0 x1 x2 x3 x4 x5 x6 x7 x8 x9 x10 x11 x12 x13 x14 x15, vs = [x0, x1, x2, x3, x4, x5, x6, x7, x8, x9, x10, x11, x12, x13, x14, x15] := lw16 hvl
                          clear hvl
                          simp only [putAll, Act.put, List.setIfInBounds_toArray, List.set_cons_zero, List.set_cons_succ] at hvb
                          subst hvb
                          refine ⟨(.snoc (.snoc (.snoc (.snoc (.snoc (.snoc (.snoc (.snoc (.snoc (.snoc (.snoc (.snoc (.snoc (.snoc (.snoc (.snoc .zero (PartOb.intro (d := (some 176)) (r := fun u _ => u = .int .i64 0) rfl rfl rfl rfl ?po24x0)) (PartOb.intro (d := (some 177)) (r := fun u _ => u = .int .i64 0) rfl rfl rfl rfl ?po24x1)) (PartOb.intro (d := (some 178)) (r := fun u _ => u = .bool false) rfl rfl rfl rfl ?po24x2)) (PartOb.intro (d := (some 179)) (r := fun u _ => u = .bool false) rfl rfl rfl rfl ?po24x3)) (PartOb.intro (d := (some 180)) (r := fun u _ => u = .pointer (some ⟨q15, 1, none⟩)) rfl rfl rfl rfl ?po24x4)) (PartOb.intro (d := (some 181)) (r := fun u _ => u = .slice b15 Y2.length dN) rfl rfl rfl rfl ?po24x5)) (PartOb.intro (d := (some 182)) (r := fun u _ => u = .pointer (some ⟨Q6, 1, none⟩)) rfl rfl rfl rfl ?po24x6)) (PartOb.intro (d := (some 183)) (r := fun u _ => u = .slice (some ⟨gT, 0, none⟩) YS.length dT) rfl rfl rfl rfl ?po24x7)) (PartOb.intro (d := (some 184)) (r := fun u _ => u = .int .i64 (at9 : Int)) rfl rfl rfl rfl ?po24x8)) (PartOb.intro (d := (some 185)) (r := fun u _ => u = .int .i64 (at9 : Int)) rfl rfl rfl rfl ?po24x9)) (PartOb.intro (d := (some 186)) (r := fun u _ => u = .int .i64 (N : Int)) rfl rfl rfl rfl ?po24x10)) (PartOb.intro (d := (some 187)) (r := fun u _ => u = .int .i64 (eT : Int)) rfl rfl rfl rfl ?po24x11)) (PartOb.intro (d := (some 188)) (r := fun u _ => u = .slice (some ⟨gT, at9, none⟩) N (dT - at9)) rfl rfl rfl rfl ?po24x12)) (PartOb.intro (d := (some 189)) (r := fun u _ => u = .bool true) rfl rfl rfl rfl ?po24x13)) (PartOb.intro (d := (some 190)) (r := fun u _ => u = .bool false) rfl rfl rfl rfl ?po24x14)) (PartOb.intro (d := (some 191)) (r := fun u _ => u = .bool false) rfl rfl rfl rfl ?po24x15)), ?pend24, ?pfl24⟩
                          case po24x0 =>
                            intro w1 hb1 hd KK hK
                            clear hd
                            simp only [Act.put, List.setIfInBounds_toArray, List.set_cons_zero, List.set_cons_succ] at hK
                            go_simp
                            first | exact hK.out _ _ (Below.refl _ _) rfl | (have hk := hK.out _ _ (Below.refl _ _) rfl; revert hk; go_simp)
                          case po24x1 =>
                            intro w1 hb1 hd KK hK
                            have d0 : x0 = .int .i64 0 := hd 0 (by kernel_rfl)
                            clear hd
                            subst d0
                            simp only [Act.put, List.setIfInBounds_toArray, List.set_cons_zero, List.set_cons_succ] at hK
                            go_simp
                            go_at_call 11
                            refine (num11_any _ _).mono ?_
                            rintro e w' ⟨rfl, rfl⟩
                            (try go_wp2_with fail)
                            first | exact hK.out _ _ (Below.refl _ _) rfl | (have hk := hK.out _ _ (Below.refl _ _) rfl; revert hk; go_simp)
                          case po24x2 =>
                            intro w1 hb1 hd KK hK
                            have d1 : x1 = .int .i64 0 := hd 1 (by kernel_rfl)
                            clear hd
                            subst d1
                            simp only [Act.put, List.setIfInBounds_toArray, List.set_cons_zero, List.set_cons_succ] at hK
                            go_simp
                            first | exact hK.out _ _ (Below.refl _ _) rfl | (have hk := hK.out _ _ (Below.refl _ _) rfl; revert hk; go_simp)
                          case po24x3 =>
                            intro w1 hb1 hd KK hK
                            have d1 : x1 = .int .i64 0 := hd 1 (by kernel_rfl)
                            have d2 : x2 = .bool false := hd 2 (by kernel_rfl)
                            clear hd
                            subst d1
                            subst d2
                            simp only [Act.put, List.setIfInBounds_toArray, List.set_cons_zero, List.set_cons_succ] at hK
                            go_simp
                            first | exact hK.out _ _ (Below.refl _ _) rfl | (have hk := hK.out _ _ (Below.refl _ _) rfl; revert hk; go_simp)
                          case po24x4 =>
                            intro w1 hb1 hd KK hK
                            have d3 : x3 = .bool false := hd 3 (by kernel_rfl)
                            clear hd
                            subst d3
                            simp only [Act.put, List.setIfInBounds_toArray, List.set_cons_zero, List.set_cons_succ] at hK
                            go_simp
                            first | exact hK.out _ _ (Below.refl _ _) rfl | (have hk := hK.out _ _ (Below.refl _ _) rfl; revert hk; go_simp)
                          case po24x5 =>
                            intro w1 hb1 hd KK hK
                            have d3 : x3 = .bool false := hd 3 (by kernel_rfl)
                            have d4 : x4 = .pointer (some ⟨q15, 1, none⟩) := hd 4 (by kernel_rfl)
                            clear hd
                            subst d3
                            subst d4
                            have hF := F16.out.next hb1
                            have k1 := hF.c 4 1 rfl rfl
                            simp only [Act.put, List.setIfInBounds_toArray, List.set_cons_zero, List.set_cons_succ] at hK
                            go_simp
                            first | exact hK.out _ _ (Below.refl _ _) rfl | (have hk := hK.out _ _ (Below.refl _ _) rfl; revert hk; go_simp)
                          case po24x6 =>
                            intro w1 hb1 hd KK hK
                            have d3 : x3 = .bool false := hd 3 (by kernel_rfl)
                            clear hd
                            subst d3
                            simp only [Act.put, List.setIfInBounds_toArray, List.set_cons_zero, List.set_cons_succ] at hK
                            go_simp
                            first | exact hK.out _ _ (Below.refl _ _) rfl | (have hk := hK.out _ _ (Below.refl _ _) rfl; revert hk; go_simp)
                          case po24x7 =>
                            intro w1 hb1 hd KK hK
                            have d3 : x3 = .bool false := hd 3 (by kernel_rfl)
                            have d6 : x6 = .pointer (some ⟨Q6, 1, none⟩) := hd 6 (by kernel_rfl)
                            clear hd
                            subst d3
                            subst d6
                            have hF := F16.out.next hb1
                            have k1 := hF.c 1 1 rfl rfl
                            simp only [Act.put, List.setIfInBounds_toArray, List.set_cons_zero, List.set_cons_succ] at hK
                            go_simp
                            first | exact hK.out _ _ (Below.refl _ _) rfl | (have hk := hK.out _ _ (Below.refl _ _) rfl; revert hk; go_simp)
                          case po24x8 =>
                            intro w1 hb1 hd KK hK
                            have d3 : x3 = .bool false := hd 3 (by kernel_rfl)
                            clear hd
                            subst d3
                            simp only [Act.put, List.setIfInBounds_toArray, List.set_cons_zero, List.set_cons_succ] at hK
                            go_simp
                            first | exact hK.out _ _ (Below.refl _ _) rfl | (have hk := hK.out _ _ (Below.refl _ _) rfl; revert hk; go_simp)
                          case po24x9 =>
                            intro w1 hb1 hd KK hK
                            have d3 : x3 = .bool false := hd 3 (by kernel_rfl)
                            clear hd
                            subst d3
                            simp only [Act.put, List.setIfInBounds_toArray, List.set_cons_zero, List.set_cons_succ] at hK
                            go_simp
                            first | exact hK.out _ _ (Below.refl _ _) rfl | (have hk := hK.out _ _ (Below.refl _ _) rfl; revert hk; go_simp)
                          case po24x10 =>
                            intro w1 hb1 hd KK hK
                            have d3 : x3 = .bool false := hd 3 (by kernel_rfl)
                            clear hd
                            subst d3
                            simp only [Act.put, List.setIfInBounds_toArray, List.set_cons_zero, List.set_cons_succ] at hK
                            go_simp
                            first | exact hK.out _ _ (Below.refl _ _) rfl | (have hk := hK.out _ _ (Below.refl _ _) rfl; revert hk; go_simp)
                          case po24x11 =>
                            intro w1 hb1 hd KK hK
                            have d3 : x3 = .bool false := hd 3 (by kernel_rfl)
                            have d9 : x9 = .int .i64 (at9 : Int) := hd 9 (by kernel_rfl)
                            have d10 : x10 = .int .i64 (N : Int) := hd 10 (by kernel_rfl)
                            clear hd
                            subst d3
                            subst d9
                            subst d10
                            have g2 : ∀ [Inhabited Unit], IntKind.i64.wrap ((at9 : Int) + (N : Int)) = (eT : Int) := by intro _; rw [← Int.natCast_add, HET.out]; exact IntWalk.i64_in _ (by have h := HAT.out; have h2 := HYT.out; have h3 := HET.out; omega)
                            simp only [Act.put, List.setIfInBounds_toArray, List.set_cons_zero, List.set_cons_succ] at hK
                            go_simp
                            first | exact hK.out _ _ (Below.refl _ _) rfl | (have hk := hK.out _ _ (Below.refl _ _) rfl; revert hk; go_simp)
                          case po24x12 =>
                            intro w1 hb1 hd KK hK
                            have d3 : x3 = .bool false := hd 3 (by kernel_rfl)
                            have d7 : x7 = .slice (some ⟨gT, 0, none⟩) YS.length dT := hd 7 (by kernel_rfl)
                            have d8 : x8 = .int .i64 (at9 : Int) := hd 8 (by kernel_rfl)
                            have d11 : x11 = .int .i64 (eT : Int) := hd 11 (by kernel_rfl)
                            clear hd
                            subst d3
                            subst d7
                            subst d8
                            subst d11
                            have h1 := HAT.out
                            have h2 := HDT.out
                            have h3 := HB9.out
                            have h4 := HET.out
                            have g1 : (at9 : Int) ≤ (eT : Int) := by omega
                            have g2 : (eT : Int) ≤ (dT : Int) := by omega
                            have g3 : ¬ dT = at9 := by omega
                            have g4 : eT - at9 = N := by omega
                            clear h1 h2 h3 h4
                            simp only [Act.put, List.setIfInBounds_toArray, List.set_cons_zero, List.set_cons_succ] at hK
                            go_simp
                            first | exact hK.out _ _ (Below.refl _ _) rfl | (have hk := hK.out _ _ (Below.refl _ _) rfl; revert hk; go_simp)
                          case po24x13 =>
                            intro w1 hb1 hd KK hK
                            have d3 : x3 = .bool false := hd 3 (by kernel_rfl)
                            have d5 : x5 = .slice b15 Y2.length dN := hd 5 (by kernel_rfl)
                            have d12 : x12 = .slice (some ⟨gT, at9, none⟩) N (dT - at9) := hd 12 (by kernel_rfl)
                            clear hd
                            subst d3
                            subst d5
                            subst d12
                            have hF := F16.out.next hb1
                            have hew := HEW.out
                            skip
                            simp only [Act.put, List.setIfInBounds_toArray, List.set_cons_zero, List.set_cons_succ] at hK
                            go_simp
                            skip
                            go_at_call 12
                            refine (hew b15 dN (some ⟨gT, at9, none⟩) (dT - at9) _ (hF.li 5 (k := .i64) (xs := Y2) rfl HWY2.out) (HS2.out _ (hF.li 1 (k := .i64) (xs := YS) rfl HWY.out))).mono ?_
                            rintro e w' ⟨rfl, q9, rfl⟩
                            (try go_wp2_with fail)
                            first | exact hK.out _ _ (below_drewN (Below.refl _ _) q9) rfl | (have hk := hK.out _ _ (below_drewN (Below.refl _ _) q9) rfl; revert hk; go_simp)
                          case po24x14 =>
                            intro w1 hb1 hd KK hK
                            have d3 : x3 = .bool false := hd 3 (by kernel_rfl)
                            have d13 : x13 = .bool true := hd 13 (by kernel_rfl)
                            clear hd
                            subst d3
                            subst d13
                            simp only [Act.put, List.setIfInBounds_toArray, List.set_cons_zero, List.set_cons_succ] at hK
                            go_simp
                            first | exact hK.out _ _ (Below.refl _ _) rfl | (have hk := hK.out _ _ (Below.refl _ _) rfl; revert hk; go_simp)
                          case po24x15 =>
                            intro w1 hb1 hd KK hK
                            have d3 : x3 = .bool false := hd 3 (by kernel_rfl)
                            have d14 : x14 = .bool false := hd 14 (by kernel_rfl)
                            clear hd
                            subst d3
                            subst d14
                            simp only [Act.put, List.setIfInBounds_toArray, List.set_cons_zero, List.set_cons_succ] at hK
                            go_simp
                            first | exact hK.out _ _ (Below.refl _ _) rfl | (have hk := hK.out _ _ (Below.refl _ _) rfl; revert hk; go_simp)
                          case pfl24 => (intro f hf; cases hf)
                          case pend24 =>
                          intro w1 hb1 hR hD
                          have d0 : x0 = .int .i64 0 := hR 0 (by decide)
                          have d1 : x1 = .int .i64 0 := hR 1 (by decide)
                          have d2 : x2 = .bool false := hR 2 (by decide)
                          have d3 : x3 = .bool false := hR 3 (by decide)
                          have d4 : x4 = .pointer (some ⟨q15, 1, none⟩) := hR 4 (by decide)
                          have d5 : x5 = .slice b15 Y2.length dN := hR 5 (by decide)
                          have d6 : x6 = .pointer (some ⟨Q6, 1, none⟩) := hR 6 (by decide)
                          have d7 : x7 = .slice (some ⟨gT, 0, none⟩) YS.length dT := hR 7 (by decide)
                          have d8 : x8 = .int .i64 (at9 : Int) := hR 8 (by decide)
                          have d9 : x9 = .int .i64 (at9 : Int) := hR 9 (by decide)
                          have d10 : x10 = .int .i64 (N : Int) := hR 10 (by decide)
                          have d11 : x11 = .int .i64 (eT : Int) := hR 11 (by decide)
                          have d12 : x12 = .slice (some ⟨gT, at9, none⟩) N (dT - at9) := hR 12 (by decide)
                          have d13 : x13 = .bool true := hR 13 (by decide)
                          have d14 : x14 = .bool false := hR 14 (by decide)
                          have d15 : x15 = .bool false := hR 15 (by decide)
                          clear hR hD
                          subst d0
                          subst d1
                          subst d2
                          subst d3
                          subst d4
                          subst d5
                          subst d6
                          subst d7
                          subst d8
                          subst d9
                          subst d10
                          subst d11
                          subst d12
                          subst d13
                          subst d14
                          subst d15
                          refine wpAny_done (by kernel_rfl) ?_ _
                          have F17 := Lib.hid ((F16.out.next hb1).less (.cons_cons _ (.cons_cons _ (.cons_cons _ (.cons _ (.cons _ .slnil))))) (.refl _) (.cons_cons _ (.cons_cons _ (.cons_cons _ (.cons _ (.cons _ (.cons _ .slnil)))))) (.refl _))
                          clear F16
                          go_wp2
                          have h8 := HB9.out
                          have h7 := HLB.out
                          go_roundw
                          case rel => exact ⟨b9 + 1, HLB.out, by rw [IntWalk.wrap64_in _ (by omega)]; rfl, F17⟩
                          case measure => have hj9 := HLB.out; rw [IntWalk.wrap64_in _ (by omega)]; simp only [intOf]; omega
                      · obtain rfl : b9 = o := by omega
                        have hai : ¬ (b9 : Int) < (b9 : Int) := by omega
                        have g9 := HW3.out
                        have g1 : (0 : Int) < (ws.length : Int) := by omega
                        have g2 : ¬ ws = [] := by intro h; rw [h] at g9; exact absurd g9 (by simp)
                        have g3 : 0 < ws.length := by omega
                        obtain ⟨b8, o8, he, _, hcx⟩ := (F13.out.l 2 rfl).cell 0 g3
                        cases he
                        rw [HWO.out, Nat.add_zero] at hcx
                        have q0 := F13.out.c 0 2 rfl rfl
                        clear g9
                        go_wp2
                        have F17 := Lib.hid (F13.out.less (.cons_cons _ (.cons_cons _ (.cons _ .slnil))) (.refl _) (.cons_cons _ (.cons_cons _ (.cons _ .slnil))) (.refl _))
                        clear F13
                        have h8 := HB9.out
                        have h7 := HLA.out
                        go_roundw
                        case rel => exact ⟨a9 + 1, HLA.out, by rw [IntWalk.wrap64_in _ (by omega)]; rfl, F17⟩
                        case measure => have hj9 := HLA.out; rw [IntWalk.wrap64_in _ (by omega)]; simp only [intOf]; omega
                · obtain rfl : a9 = R := by omega
                  have hai : ¬ (a9 : Int) < (a9 : Int) := by omega
                  have g9 := HX3.out
                  have g1 : (0 : Int) < (xs.length : Int) := by omega
                  have g2 : ¬ xs = [] := by intro h; rw [h] at g9; exact absurd g9 (by simp)
                  have g3 : 0 < xs.length := by omega
                  obtain ⟨b9, o9, he, _, hcx⟩ := (F11.out.l 0 rfl).cell 0 g3
                  cases he
                  rw [HXR.out, Nat.add_zero] at hcx
                  have q0 := F11.out.c 0 0 rfl rfl
                  clear g9
                  go_wp2
                  go_roundw
                  case rel => exact ⟨k + 1, by omega, by go_num, HB.out.trans (F11.out.bel.mono HB.out.size)⟩
                  case measure => simp [intOf]; omega
            · as_aux_lemma =>
              have hzb : (z != 0) = true := by simp [hz0]
              clear hz0
              go_wp2_with (first | (go_at_call 11; refine (num11_any _ _).mono ?_; rintro e w' ⟨rfl, rfl⟩) | fail)
              go_roundw
              case rel => exact ⟨k + 1, by omega, by go_num, HB.out.trans (F7.out.bel.mono HB.out.size)⟩
              case measure => simp [intOf]; omega
    · have HB := Lib.hid hbel
      clear hbel h
      have WK := fun W => Lib.hid (wakes11_any W)
      by_cases hlt : k < n
      · have hk15 : ¬ (k : Int) < 4 := by omega
        have hkn : (k : Int) < n := by omega
        go_wp2_with (go_at_call 13; refine ((WK _).out).mono ?_; rintro e w1 ⟨rfl, hb⟩; have HW1 := Lib.hid hb; clear hb)
        go_ret
        exact ⟨rfl, HB.out.trans (HW1.out.mono HB.out.size)⟩
      · obtain rfl : k = n := by omega
        go_wp2_with (go_at_call 13; refine ((WK _).out).mono ?_; rintro e w1 ⟨rfl, hb⟩; have HW1 := Lib.hid hb; clear hb)
        go_ret
        exact ⟨rfl, HB.out.trans (HW1.out.mono HB.out.size)⟩
end Go.Proofs.Ytadlnmckcnfacaa
