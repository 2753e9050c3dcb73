/- The law ConvProduct, walked. -/
import Derived.Test.YtadlnmckcnfacaaCoN
import Derived.Test.YtadlnmckcnfacaaCoT
import Derived.Test.YtadlnmckcnfacaaCoQ
import Derived.Test.YtadlnmckcnfacaaCoJ
import Derived.Test.YtadlnmckcnfacaaCoV
import Derived.Test.YtadlnmckcnfacaaCoY
import Derived.Test.YtadlnmckcnfacaaRdV
set_option linter.unusedVariables false
set_option linter.unusedSimpArgs false
namespace Go.Proofs.Ytadlnmckcnfacaa
open Go.RowKit Go.Rt
attribute [local go_sem] Oper.semAt_some
theorem lw9 {α : Type} {l : List α} (h : l.length = 9) : ∃ x0 x1 x2 x3 x4 x5 x6 x7 x8, l = [x0, x1, x2, x3, x4, x5, x6, x7, x8] := by
  match l, h with
  | [x0, x1, x2, x3, x4, x5, x6, x7, x8], _ => exact ⟨x0, x1, x2, x3, x4, x5, x6, x7, x8, rfl⟩
theorem lw19 {α : Type} {l : List α} (h : l.length = 19) : ∃ x0 x1 x2 x3 x4 x5 x6 x7 x8 x9 x10 x11 x12 x13 x14 x15 x16 x17 x18, l = [x0, x1, x2, x3, x4, x5, x6, x7, x8, x9, x10, x11, x12, x13, x14, x15, x16, x17, x18] := by
  match l, h with
  | [x0, x1, x2, x3, x4, x5, x6, x7, x8, x9, x10, x11, x12, x13, x14, x15, x16, x17, x18], _ => exact ⟨x0, x1, x2, x3, x4, x5, x6, x7, x8, x9, x10, x11, x12, x13, x14, x15, x16, x17, x18, rfl⟩
set_option maxRecDepth 100000 in
set_option maxHeartbeats 8000000 in
theorem convProduct_any (q : Option Addr) (n c0 : Nat) (w : World) (h : AsksAt11 w w.heap.size q n) :
    Calls Try.prog 6 #[.slice q n c0] w fun e w' => e = .returned (.bool true) ∧ Below w.heap.size w w' := by
  have hm := h.len
  go_enter Try.func6, Try.ntmps6
  go_wp2_with fail
  go_loopw [3] (fun i wr => ∃ k : Nat, k ≤ n ∧ i = .int .i64 k ∧ Below w.heap.size w wr) (fun i _ => n - (intOf i).toNat)
  case atStart => exact ⟨0, Nat.zero_le _, rfl, Below.refl _ _⟩
  case round =>
    obtain ⟨k, hk, rfl, hbel⟩ := hrel
    obtain ⟨wo, rfl⟩ : ∃ wo : World, wo = wr := ⟨_, rfl⟩
    by_cases hend : k < n ∧ k < 4
    · obtain ⟨hlt, h20⟩ := hend
      obtain ⟨b0, o_, ⟨a, c, b, d, xs, ys⟩, ⟨a2, c2, b2, dw, ws, vs⟩, aQ, aS, aP, aD, aI, aJ, cQ, cS, cP, cD, cI, cJ, Q, S, P, D, I, J, f, rfl, ht⟩ := h.at_ k hlt
      replace ht := ht.below hbel
      have hsz := hbel.size
      have HB := Lib.hid hbel
      obtain ⟨wv, hwv⟩ : ∃ v : WinV, v = ⟨xs.drop 2, ws.drop 2, S, P, D⟩ := ⟨_, rfl⟩
      obtain ⟨rfl, rfl, rfl⟩ : S = wv.S ∧ P = wv.P ∧ D = wv.D := by rw [hwv]; exact ⟨rfl, rfl, rfl⟩
      have HL := Lib.hid (show wv.L = xs.drop 2 by rw [hwv])
      have HK := Lib.hid (show wv.K = ws.drop 2 by rw [hwv])
      clear hwv
      have tA := ht.tA
      have tB := ht.tB
      dsimp only at tA tB
      have HI0 := Lib.hid (tA.sh.mono hsz)
      have HI1 := Lib.hid (tA.da.mono hsz)
      have HI2 := Lib.hid (tB.sh.mono hsz)
      have HI3 := Lib.hid (tB.da.mono hsz)
      have HI4 := Lib.hid (ht.tQ.mono hsz)
      have HI5 := Lib.hid (ht.tS.mono hsz)
      have HI6 := Lib.hid (ht.tP.mono hsz)
      have HI7 := Lib.hid (ht.tD.mono hsz)
      have HI8 := Lib.hid (ht.tI.mono hsz)
      have HI9 := Lib.hid (ht.tJ.mono hsz)
      have HF9 := Lib.hid (And.intro ht.f0 ht.f1)
      have HC1 := Lib.hid (And.intro tA.c1 tA.c2)
      have HC2 := Lib.hid (And.intro tA.d1 tA.d2)
      have HC3 := Lib.hid (And.intro tB.c1 tB.c2)
      have HC4 := Lib.hid (And.intro tB.d1 tB.d2)
      have HHV := Lib.hid (fun W h0 h1 h2 h3 h4 h5 h6 h7 h8 h9 => heavy11_any a b a2 b2 aQ aS aP aD aI aJ c d c2 dw cQ cS cP cD cI cJ xs ys ws vs Q wv.S wv.P wv.D I J f W h0 h1 h2 h3 h4 h5 h6 h7 h8 h9 HC3.out.1)
      have HTX := Lib.hid (fun W (h : Ints .i64 W W.heap.size a xs) (h2 : Ints .i64 W W.heap.size b ys) => tenMay_any a b c d xs ys W h h2)
      have HTW := Lib.hid (fun W (h : Ints .i64 W W.heap.size a2 ws) (h2 : Ints .i64 W W.heap.size b2 vs) => tenMay_any a2 b2 c2 dw ws vs W h h2)

      have q0 := ht.c0
      have q1 := ht.c1
      have q2 := ht.c2
      have q3 := ht.c3
      have q4 := ht.c4
      have q5 := ht.c5
      have q6 := ht.c6
      have q7 := ht.c7
      have q8 := ht.c8
      have q9 := ht.c9
      have q10 := ht.c10
      dsimp only at q0 q1 q2 q3 q4 q5 q6 q7 q8 q9 q10
      clear ht tA tB hbel h
      have F1 := Lib.hid ((Fr.start (w := wo) (I := [(.i64, a, xs), (.i64, b, ys), (.i64, a2, ws), (.i64, b2, vs), (.i64, aQ, Q), (.i64, aS, wv.S), (.i64, aP, wv.P), (.i64, aD, wv.D), (.i64, aI, I), (.i64, aJ, J)]) (by intro z hz; simp at hz; rcases hz with rfl | rfl | rfl | rfl | rfl | rfl | rfl | rfl | rfl | rfl; exact HI0.out; exact HI1.out; exact HI2.out; exact HI3.out; exact HI4.out; exact HI5.out; exact HI6.out; exact HI7.out; exact HI8.out; exact HI9.out)).box1 (b := wo.heap.size) rfl [.slice a xs.length c, .slice b ys.length d, .slice a2 ws.length c2, .slice b2 vs.length dw, .slice aQ Q.length cQ, .slice aS wv.S.length cS, .slice aP wv.P.length cP, .slice aD wv.D.length cD, .slice aI I.length cI, .slice aJ J.length cJ, .int .i64 f] 30)
      simp only [List.nil_append] at F1
      clear HI0 HI1 HI2 HI3 HI4 HI5 HI6 HI7 HI8 HI9
      go_upto_region 5 with fail
      obtain ⟨W1, hW1⟩ : ∃ W1, wo.alloc (.cells #[.slice a xs.length c, .slice b ys.length d, .slice a2 ws.length c2, .slice b2 vs.length dw, .slice aQ Q.length cQ, .slice aS wv.S.length cS, .slice aP wv.P.length cP, .slice aD wv.D.length cD, .slice aI I.length cI, .slice aJ J.length cJ, .int .i64 f] 30) = W1 := ⟨_, rfl⟩
      rw [hW1] at F1 ⊢
      clear hW1 q0 q1 q2 q3 q4 q5 q6 q7 q8 q9 q10
      have c0_0 := F1.out.c 0 0 rfl rfl
      have c0_1 := F1.out.c 0 1 rfl rfl
      have c0_2 := F1.out.c 0 2 rfl rfl
      have c0_3 := F1.out.c 0 3 rfl rfl
      have c0_4 := F1.out.c 0 4 rfl rfl
      have c0_5 := F1.out.c 0 5 rfl rfl
      have c0_6 := F1.out.c 0 6 rfl rfl
      have c0_7 := F1.out.c 0 7 rfl rfl
      have c0_8 := F1.out.c 0 8 rfl rfl
      have c0_9 := F1.out.c 0 9 rfl rfl
      have c0_10 := F1.out.c 0 10 rfl rfl
      go_upto_if 32 with (first | (go_at_call 7; refine (HHV.out W1 (F1.out.lw 0 rfl) (F1.out.lw 1 rfl) (F1.out.lw 2 rfl) (F1.out.lw 3 rfl) (F1.out.lw 4 rfl) (F1.out.lw 5 rfl) (F1.out.lw 6 rfl) (F1.out.lw 7 rfl) (F1.out.lw 8 rfl) (F1.out.lw 9 rfl)).mono ?_; rintro e w2 ⟨⟨hvB, rfl, hlt9⟩, hb⟩; have F2 := Lib.hid (F1.out.next hb); have HLT := Lib.hid hlt9; clear hb hlt9 F1 c0_0 c0_1 c0_2 c0_3 c0_4 c0_5 c0_6 c0_7 c0_8 c0_9 c0_10; have c0_0 := F2.out.c 0 0 rfl rfl; have c0_1 := F2.out.c 0 1 rfl rfl; have c0_2 := F2.out.c 0 2 rfl rfl; have c0_3 := F2.out.c 0 3 rfl rfl; have c0_4 := F2.out.c 0 4 rfl rfl; have c0_5 := F2.out.c 0 5 rfl rfl; have c0_6 := F2.out.c 0 6 rfl rfl; have c0_7 := F2.out.c 0 7 rfl rfl; have c0_8 := F2.out.c 0 8 rfl rfl; have c0_9 := F2.out.c 0 9 rfl rfl; have c0_10 := F2.out.c 0 10 rfl rfl) | fail)
      cases hvB with
      | true =>
        go_wp2
        go_ret
        exact ⟨rfl, HB.out.trans (F2.out.bel.mono HB.out.size)⟩
      | false =>
        have HLI := Lib.hid (HLT.out rfl)
        clear HLT HHV
        have htx := HTX.out
        clear HTX
        cases htb : tenB xs ys with
        | false =>
          rw [htb] at htx
          have HTX := Lib.hid htx
          clear htx htb
          go_wp2_with (first | (go_at_call 8; refine (HTX.out _ (F2.out.lw 0 rfl) (F2.out.lw 1 rfl)).mono ?_; rintro e w3 ⟨rfl, hb⟩; have F3 := Lib.hid (F2.out.next hb); clear hb F2 HTX c0_0 c0_1 c0_2 c0_3 c0_4 c0_5 c0_6 c0_7 c0_8 c0_9 c0_10; have c0_0 := F3.out.c 0 0 rfl rfl; have c0_1 := F3.out.c 0 1 rfl rfl; have c0_2 := F3.out.c 0 2 rfl rfl; have c0_3 := F3.out.c 0 3 rfl rfl; have c0_4 := F3.out.c 0 4 rfl rfl; have c0_5 := F3.out.c 0 5 rfl rfl; have c0_6 := F3.out.c 0 6 rfl rfl; have c0_7 := F3.out.c 0 7 rfl rfl; have c0_8 := F3.out.c 0 8 rfl rfl; have c0_9 := F3.out.c 0 9 rfl rfl; have c0_10 := F3.out.c 0 10 rfl rfl) | fail)
          go_roundw
          case rel => exact ⟨k + 1, by omega, by go_num, HB.out.trans (F3.out.bel.mono HB.out.size)⟩
          case measure => simp [intOf]; omega
        | true =>
          rw [htb] at htx
          have HTX := Lib.hid htx
          have HTA := Lib.hid htb
          clear htx htb
          have htw := HTW.out
          clear HTW
          cases htb : tenB ws vs with
          | false =>
            rw [htb] at htw
            have HTW := Lib.hid htw
            clear htw htb
            go_wp2_with (first | (go_at_call 8; refine (HTX.out _ (F2.out.lw 0 rfl) (F2.out.lw 1 rfl)).mono ?_; rintro e w3 ⟨rfl, hb⟩; have F3 := Lib.hid (F2.out.next hb); clear hb F2 HTX c0_0 c0_1 c0_2 c0_3 c0_4 c0_5 c0_6 c0_7 c0_8 c0_9 c0_10; have c0_0 := F3.out.c 0 0 rfl rfl; have c0_1 := F3.out.c 0 1 rfl rfl; have c0_2 := F3.out.c 0 2 rfl rfl; have c0_3 := F3.out.c 0 3 rfl rfl; have c0_4 := F3.out.c 0 4 rfl rfl; have c0_5 := F3.out.c 0 5 rfl rfl; have c0_6 := F3.out.c 0 6 rfl rfl; have c0_7 := F3.out.c 0 7 rfl rfl; have c0_8 := F3.out.c 0 8 rfl rfl; have c0_9 := F3.out.c 0 9 rfl rfl; have c0_10 := F3.out.c 0 10 rfl rfl) | (go_at_call 8; refine (HTW.out _ (F3.out.lw 2 rfl) (F3.out.lw 3 rfl)).mono ?_; rintro e w4 ⟨rfl, hb⟩; have F4 := Lib.hid (F3.out.next hb); clear hb F3 c0_0 c0_1 c0_2 c0_3 c0_4 c0_5 c0_6 c0_7 c0_8 c0_9 c0_10; have c0_0 := F4.out.c 0 0 rfl rfl; have c0_1 := F4.out.c 0 1 rfl rfl; have c0_2 := F4.out.c 0 2 rfl rfl; have c0_3 := F4.out.c 0 3 rfl rfl; have c0_4 := F4.out.c 0 4 rfl rfl; have c0_5 := F4.out.c 0 5 rfl rfl; have c0_6 := F4.out.c 0 6 rfl rfl; have c0_7 := F4.out.c 0 7 rfl rfl; have c0_8 := F4.out.c 0 8 rfl rfl; have c0_9 := F4.out.c 0 9 rfl rfl; have c0_10 := F4.out.c 0 10 rfl rfl) | fail)
            go_roundw
            case rel => exact ⟨k + 1, by omega, by go_num, HB.out.trans (F4.out.bel.mono HB.out.size)⟩
            case measure => simp [intOf]; omega
          | true =>
            rw [htb] at htw
            have HTW := Lib.hid htw
            have HTB := Lib.hid htb
            clear htw htb
            by_cases hw3 : ws.length < 3
            · skip
              have hw3i : (ws.length : Int) < 3 := by omega
              go_wp2_with (first | (go_at_call 8; refine (HTX.out _ (F2.out.lw 0 rfl) (F2.out.lw 1 rfl)).mono ?_; rintro e w3 ⟨rfl, hb⟩; have F3 := Lib.hid (F2.out.next hb); clear hb F2 HTX c0_0 c0_1 c0_2 c0_3 c0_4 c0_5 c0_6 c0_7 c0_8 c0_9 c0_10; have c0_0 := F3.out.c 0 0 rfl rfl; have c0_1 := F3.out.c 0 1 rfl rfl; have c0_2 := F3.out.c 0 2 rfl rfl; have c0_3 := F3.out.c 0 3 rfl rfl; have c0_4 := F3.out.c 0 4 rfl rfl; have c0_5 := F3.out.c 0 5 rfl rfl; have c0_6 := F3.out.c 0 6 rfl rfl; have c0_7 := F3.out.c 0 7 rfl rfl; have c0_8 := F3.out.c 0 8 rfl rfl; have c0_9 := F3.out.c 0 9 rfl rfl; have c0_10 := F3.out.c 0 10 rfl rfl) | (go_at_call 8; refine (HTW.out _ (F3.out.lw 2 rfl) (F3.out.lw 3 rfl)).mono ?_; rintro e w4 ⟨rfl, hb⟩; have F4 := Lib.hid (F3.out.next hb); clear hb F3 c0_0 c0_1 c0_2 c0_3 c0_4 c0_5 c0_6 c0_7 c0_8 c0_9 c0_10; have c0_0 := F4.out.c 0 0 rfl rfl; have c0_1 := F4.out.c 0 1 rfl rfl; have c0_2 := F4.out.c 0 2 rfl rfl; have c0_3 := F4.out.c 0 3 rfl rfl; have c0_4 := F4.out.c 0 4 rfl rfl; have c0_5 := F4.out.c 0 5 rfl rfl; have c0_6 := F4.out.c 0 6 rfl rfl; have c0_7 := F4.out.c 0 7 rfl rfl; have c0_8 := F4.out.c 0 8 rfl rfl; have c0_9 := F4.out.c 0 9 rfl rfl; have c0_10 := F4.out.c 0 10 rfl rfl) | fail)
              go_roundw
              case rel => exact ⟨k + 1, by omega, by go_num, HB.out.trans (F4.out.bel.mono HB.out.size)⟩
              case measure => simp [intOf]; omega
            have hw3i : ¬ (ws.length : Int) < 3 := by omega
            have HW3 := Lib.hid (show 3 ≤ ws.length by omega)
            clear hw3
            go_upto_region 8 with (first | (go_at_call 8; refine (HTX.out _ (F2.out.lw 0 rfl) (F2.out.lw 1 rfl)).mono ?_; rintro e w3 ⟨rfl, hb⟩; have F3 := Lib.hid (F2.out.next hb); clear hb F2 HTX c0_0 c0_1 c0_2 c0_3 c0_4 c0_5 c0_6 c0_7 c0_8 c0_9 c0_10; have c0_0 := F3.out.c 0 0 rfl rfl; have c0_1 := F3.out.c 0 1 rfl rfl; have c0_2 := F3.out.c 0 2 rfl rfl; have c0_3 := F3.out.c 0 3 rfl rfl; have c0_4 := F3.out.c 0 4 rfl rfl; have c0_5 := F3.out.c 0 5 rfl rfl; have c0_6 := F3.out.c 0 6 rfl rfl; have c0_7 := F3.out.c 0 7 rfl rfl; have c0_8 := F3.out.c 0 8 rfl rfl; have c0_9 := F3.out.c 0 9 rfl rfl; have c0_10 := F3.out.c 0 10 rfl rfl) | (go_at_call 8; refine (HTW.out _ (F3.out.lw 2 rfl) (F3.out.lw 3 rfl)).mono ?_; rintro e w4 ⟨rfl, hb⟩; have F4 := Lib.hid (F3.out.next hb); clear hb F3 c0_0 c0_1 c0_2 c0_3 c0_4 c0_5 c0_6 c0_7 c0_8 c0_9 c0_10; have c0_0 := F4.out.c 0 0 rfl rfl; have c0_1 := F4.out.c 0 1 rfl rfl; have c0_2 := F4.out.c 0 2 rfl rfl; have c0_3 := F4.out.c 0 3 rfl rfl; have c0_4 := F4.out.c 0 4 rfl rfl; have c0_5 := F4.out.c 0 5 rfl rfl; have c0_6 := F4.out.c 0 6 rfl rfl; have c0_7 := F4.out.c 0 7 rfl rfl; have c0_8 := F4.out.c 0 8 rfl rfl; have c0_9 := F4.out.c 0 9 rfl rfl; have c0_10 := F4.out.c 0 10 rfl rfl) | fail)
            clear hw3i
            obtain ⟨fb, hfb⟩ : ∃ z : Int, 8 + withinN f 25 = z := ⟨_, rfl⟩
            have hwb := withinN_bound f 25 (by decide)
            have HFB := Lib.hid (show 8 ≤ fb ∧ fb ≤ 32 by rw [← hfb]; omega)
            have hfa := fun W => f_any f W HF9.out
            rw [hfb] at hfa
            obtain ⟨fn, hfn⟩ : ∃ n : Nat, fb = (n : Int) := ⟨fb.toNat, by omega⟩
            subst hfn
            clear hwb
            go_upto_region 9 with (first | (go_at_call 9; refine (hfa _).mono ?_; rintro e w5 ⟨rfl, rfl⟩; skip) | fail)
            clear hfa hfb
            have hcv := fun W h h2 k k2 hQ hS hP hD => conv_any a b a2 b2 c d c2 dw xs ys ws vs aQ aS aP aD cQ cS cP cD Q wv (fn : Int) W h h2 k k2 hQ hS hP hD HL.out HK.out HC1.out.1 HC1.out.2 HC3.out.1 HC3.out.2
            obtain ⟨z, hz⟩ : ∃ z, cvZ xs ys ws vs Q wv (fn : Int) = z := ⟨_, rfl⟩
            rw [hz, Int.toNat_natCast] at hcv
            obtain ⟨SH, hSH⟩ : ∃ l, zL z (coS xs ws wv) = l := ⟨_, rfl⟩
            obtain ⟨YS, hYS⟩ : ∃ l, zL z ((List.range (cvN xs ws wv)).map (cvW xs ys ws vs wv fn)) = l := ⟨_, rfl⟩
            rw [hSH, hYS] at hcv
            have HCV := Lib.hid hcv
            have Hz := Lib.hid hz
            have HSH := Lib.hid hSH
            have HYS := Lib.hid hYS
            clear hcv hz hSH hYS
            go_upto_region 10 with (first | (go_at_call 10; refine (HCV.out _ (F4.out.lw 0 rfl) (F4.out.lw 1 rfl) (F4.out.lw 2 rfl) (F4.out.lw 3 rfl) (F4.out.lw 4 rfl) (F4.out.lw 5 rfl) (F4.out.lw 6 rfl) (F4.out.lw 7 rfl)).mono ?_; rintro e w6 ⟨aT, cT, bT, dT, rfl, hf⟩; have F6 := Lib.hid (F4.out.join hf); simp only [List.nil_append] at F6; clear hf F4 c0_0 c0_1 c0_2 c0_3 c0_4 c0_5 c0_6 c0_7 c0_8 c0_9 c0_10) | fail)
            obtain ⟨Q6, hQ6⟩ : ∃ x, w6.heap.size = x := ⟨_, rfl⟩
            rw [hQ6]
            have F7 := Lib.hid (F6.out.box1 (b := Q6) hQ6 [.slice aT SH.length cT, .slice bT YS.length dT] 26)
            simp only [List.nil_append, List.cons_append] at F7
            obtain ⟨W7, hW7⟩ : ∃ x, (w6.alloc (.cells #[.slice aT SH.length cT, .slice bT YS.length dT] 26)) = x := ⟨_, rfl⟩
            rw [hW7] at F7 ⊢
            clear hW7 hQ6 F6
            obtain ⟨gW, oW, rfl, _, _⟩ := (F7.out.l 2 rfl).cell 0 (by have := HW3.out; omega)
            have hcl := fun W h h2 k hQ hS hP hD => conCols_any a b (some ⟨gW, oW + 2, none⟩) c d (c2 - 2) xs ys aQ aS aP aD cQ cS cP cD Q wv W h h2 k hQ hS hP hD HL.out HC1.out.1 HC1.out.2
            obtain ⟨y, hy⟩ : ∃ y, clZ xs ys Q wv = y := ⟨_, rfl⟩
            rw [hy] at hcl
            obtain ⟨S2, hS2⟩ : ∃ l, zL y (colS xs wv) = l := ⟨_, rfl⟩
            obtain ⟨CW, hCW⟩ : ∃ l, zL y (clWs xs ys wv) = l := ⟨_, rfl⟩
            rw [hS2, hCW] at hcl
            have HCL := Lib.hid hcl
            have Hy := Lib.hid hy
            have HS2 := Lib.hid hS2
            have HCW := Lib.hid hCW
            clear hcl hy hS2 hCW
            have HKI := Lib.hid (fun W (h : Ints .i64 W W.heap.size (some ⟨gW, oW, none⟩) ws) => (by have h9 := ints_drop h 2; rw [← HK.out] at h9; exact h9 : Ints .i64 W W.heap.size (some ⟨gW, oW + 2, none⟩) wv.K))
            have HKL := Lib.hid (show ws.length - 2 = wv.K.length by rw [HK.out, List.length_drop])
            go_cut [8, 9] from 64 to 179 (fun s8 s9 wx => ∃ Q8 aC cC bC dC, s8 = .pointer (some ⟨Q8, 0, none⟩) ∧ s9 = .int .i64 y ∧ Hid (Fr wo.heap.size wo wx [(wo.heap.size, [.slice a xs.length c, .slice b ys.length d, .slice (some ⟨gW, oW, none⟩) ws.length c2, .slice b2 vs.length dw, .slice aQ Q.length cQ, .slice aS wv.S.length cS, .slice aP wv.P.length cP, .slice aD wv.D.length cD, .slice aI I.length cI, .slice aJ J.length cJ, .int .i64 f]), (Q6, [.slice aT SH.length cT, .slice bT YS.length dT]), (Q8, [.slice aC S2.length cC, .slice bC CW.length dC])] [(.i64, a, xs), (.i64, b, ys), (.i64, (some ⟨gW, oW, none⟩), ws), (.i64, b2, vs), (.i64, aQ, Q), (.i64, aS, wv.S), (.i64, aP, wv.P), (.i64, aD, wv.D), (.i64, aI, I), (.i64, aJ, J)] [⟨3, .slice aT SH.length cT, SH.length, SH.map (Value.int .i64)⟩, ⟨2, .slice bT YS.length dT, YS.length, YS.map (Value.int .i64)⟩, ⟨3, .slice aC S2.length cC, S2.length, S2.map (Value.int .i64)⟩, ⟨2, .slice bC CW.length dC, CW.length, CW.map (Value.int .i64)⟩] []))
            case first => as_aux_lemma =>
              have FD := F7.out.drew
              refine wp_region_J (S := fun _ => True) (S1 := fun W9 => W9.cell? ⟨wo.heap.size, 0, none⟩ = some (.slice a xs.length c) ∧ W9.cell? ⟨wo.heap.size, 1, none⟩ = some (.slice b ys.length d) ∧ W9.cell? ⟨wo.heap.size, 2, none⟩ = some (.slice (some ⟨gW, oW, none⟩) ws.length c2) ∧ W9.cell? ⟨wo.heap.size, 3, none⟩ = some (.slice b2 vs.length dw) ∧ W9.cell? ⟨wo.heap.size, 4, none⟩ = some (.slice aQ Q.length cQ) ∧ W9.cell? ⟨wo.heap.size, 5, none⟩ = some (.slice aS wv.S.length cS) ∧ W9.cell? ⟨wo.heap.size, 6, none⟩ = some (.slice aP wv.P.length cP) ∧ W9.cell? ⟨wo.heap.size, 7, none⟩ = some (.slice aD wv.D.length cD)) (L := [0, 1, 2, 3, 4, 5, 6, 7, 8, 9, 10, 11, 12, 13, 14]) (by kernel_rfl) trivial ⟨FD.c 0 0 rfl rfl, FD.c 0 1 rfl rfl, FD.c 0 2 rfl rfl, FD.c 0 3 rfl rfl, FD.c 0 4 rfl rfl, FD.c 0 5 rfl rfl, FD.c 0 6 rfl rfl, FD.c 0 7 rfl rfl⟩ (fun hHeld hHeld1 => ?_)
              obtain ⟨v0, hv0⟩ : ∃ x, W7.drew = x := ⟨_, rfl⟩
              rw [hv0] at FD hHeld1 ⊢
              clear hv0
              refine takeJ1 (i := 0) (dst := (some 65)) (v := .pointer (some ⟨wo.heap.size, 0, none⟩)) rfl rfl (by kernel_rfl) (by kernel_rfl) (by kernel_rfl) (by kernel_rfl) (fun _ _ _ h => h) (by rfl) ?hyj10cn1 hHeld1 ?restj10cn1
              case hyj10cn1 =>
                intro W hSw
                go_simp
                (try with_reducible rfl)
              try simp only [Act.put, List.setIfInBounds_toArray, List.set_cons_zero, List.set_cons_succ]
              refine takeJ1 (i := 1) (dst := (some 66)) (v := .agg #[.slice a xs.length c, .slice b ys.length d]) rfl rfl (by kernel_rfl) (by kernel_rfl) (by kernel_rfl) (by kernel_rfl) (fun _ _ _ h => h) (by rfl) ?hyj10cn2 hHeld1 ?restj10cn2
              case hyj10cn2 =>
                intro W hSw
                obtain ⟨s0, s1, s2, s3, s4, s5, s6, s7⟩ := hSw
                go_simp
                (try with_reducible rfl)
              try simp only [Act.put, List.setIfInBounds_toArray, List.set_cons_zero, List.set_cons_succ]
              refine takeJ1 (i := 2) (dst := (some 67)) (v := .pointer (some ⟨wo.heap.size, 2, none⟩)) rfl rfl (by kernel_rfl) (by kernel_rfl) (by kernel_rfl) (by kernel_rfl) (fun _ _ _ h => h) (by rfl) ?hyj10cn3 hHeld1 ?restj10cn3
              case hyj10cn3 =>
                intro W hSw
                go_simp
                (try with_reducible rfl)
              try simp only [Act.put, List.setIfInBounds_toArray, List.set_cons_zero, List.set_cons_succ]
              refine takeJ1 (i := 3) (dst := (some 68)) (v := .pointer (some ⟨wo.heap.size, 2, none⟩)) rfl rfl (by kernel_rfl) (by kernel_rfl) (by kernel_rfl) (by kernel_rfl) (fun _ _ _ h => h) (by rfl) ?hyj10cn4 hHeld1 ?restj10cn4
              case hyj10cn4 =>
                intro W hSw
                go_simp
                (try with_reducible rfl)
              try simp only [Act.put, List.setIfInBounds_toArray, List.set_cons_zero, List.set_cons_succ]
              refine takeJ1 (i := 4) (dst := (some 69)) (v := .slice (some ⟨gW, oW, none⟩) ws.length c2) rfl rfl (by kernel_rfl) (by kernel_rfl) (by kernel_rfl) (by kernel_rfl) (fun _ _ _ h => h) (by rfl) ?hyj10cn5 hHeld1 ?restj10cn5
              case hyj10cn5 =>
                intro W hSw
                obtain ⟨s0, s1, s2, s3, s4, s5, s6, s7⟩ := hSw
                go_simp
                (try with_reducible rfl)
              try simp only [Act.put, List.setIfInBounds_toArray, List.set_cons_zero, List.set_cons_succ]
              refine takeJ1 (i := 5) (dst := (some 70)) (v := .slice (some ⟨gW, oW + 2, none⟩) wv.K.length (c2 - 2)) rfl rfl (by kernel_rfl) (by kernel_rfl) (by kernel_rfl) (by kernel_rfl) (fun _ _ _ h => h) (by rfl) ?hyj10cn6 hHeld1 ?restj10cn6
              case hyj10cn6 =>
                intro W hSw
                have hxx := HKL.out
                have g9 := HW3.out
                have g8 := HC3.out
                have g1 : (2 : Int) ≤ (ws.length : Int) := by omega
                have g2 : (ws.length : Int) ≤ (c2 : Int) := by omega
                have g3 : ¬ c2 = 2 := by omega
                clear g9 g8
                go_simp
                (try with_reducible rfl)
              try simp only [Act.put, List.setIfInBounds_toArray, List.set_cons_zero, List.set_cons_succ]
              refine takeJ1 (i := 6) (dst := (some 71)) (v := .pointer (some ⟨wo.heap.size, 4, none⟩)) rfl rfl (by kernel_rfl) (by kernel_rfl) (by kernel_rfl) (by kernel_rfl) (fun _ _ _ h => h) (by rfl) ?hyj10cn7 hHeld1 ?restj10cn7
              case hyj10cn7 =>
                intro W hSw
                go_simp
                (try with_reducible rfl)
              try simp only [Act.put, List.setIfInBounds_toArray, List.set_cons_zero, List.set_cons_succ]
              refine takeJ1 (i := 7) (dst := (some 72)) (v := .agg #[.slice aQ Q.length cQ, .slice aS wv.S.length cS, .slice aP wv.P.length cP, .slice aD wv.D.length cD]) rfl rfl (by kernel_rfl) (by kernel_rfl) (by kernel_rfl) (by kernel_rfl) (fun _ _ _ h => h) (by rfl) ?hyj10cn8 hHeld1 ?restj10cn8
              case hyj10cn8 =>
                intro W hSw
                obtain ⟨s0, s1, s2, s3, s4, s5, s6, s7⟩ := hSw
                go_simp
                (try with_reducible rfl)
              try simp only [Act.put, List.setIfInBounds_toArray, List.set_cons_zero, List.set_cons_succ]
              refine readyJ (rs := [8, 12]) (by kernel_rfl) (by simp) ?_
              refine (AllJ.cons rfl ?op8zc1 (AllJ.cons rfl ?op12zc1 AllJ.nil))
              case op8zc1 =>
                intro K hK
                go_simp
                go_at_call 15
                refine (HCL.out v0 (FD.lw 0 rfl) (FD.lw 1 rfl) (HKI.out _ (FD.lw 2 rfl)) (FD.lw 4 rfl) (FD.lw 5 rfl) (FD.lw 6 rfl) (FD.lw 7 rfl)).mono ?_
                rintro e v0x8 ⟨aC, cC, bC, dC, rfl, hf⟩
                have G0x8 := FD.join hf
                simp only [List.nil_append, List.cons_append] at G0x8
                clear hf
                refine hK.out _ _ (fun _ => trivial) ⟨G0x8.c 0 0 rfl rfl, G0x8.c 0 1 rfl rfl, G0x8.c 0 2 rfl rfl, G0x8.c 0 3 rfl rfl, G0x8.c 0 4 rfl rfl, G0x8.c 0 5 rfl rfl, G0x8.c 0 6 rfl rfl, G0x8.c 0 7 rfl rfl⟩ (fun hHeld hHeld1 => ?_)
                clear hK K
                try simp only [Act.put, List.setIfInBounds_toArray, List.set_cons_zero, List.set_cons_succ]
                refine takeJ1 (i := 9) (dst := (some 64)) (v := .tuple #[.agg #[.slice aC S2.length cC, .slice bC CW.length dC], .int .i64 y]) rfl rfl (by kernel_rfl) (by kernel_rfl) (by kernel_rfl) (by kernel_rfl) (fun _ _ _ h => h) (by rfl) ?hyj10cn9 hHeld1 ?restj10cn9
                case hyj10cn9 =>
                  intro W hSw
                  go_simp
                  (try with_reducible rfl)
                try simp only [Act.put, List.setIfInBounds_toArray, List.set_cons_zero, List.set_cons_succ]
                refine takeJ1 (i := 10) (dst := (some 74)) (v := .agg #[.slice aC S2.length cC, .slice bC CW.length dC]) rfl rfl (by kernel_rfl) (by kernel_rfl) (by kernel_rfl) (by kernel_rfl) (fun _ _ _ h => h) (by rfl) ?hyj10cn10 hHeld1 ?restj10cn10
                case hyj10cn10 =>
                  intro W hSw
                  go_simp
                  (try with_reducible rfl)
                try simp only [Act.put, List.setIfInBounds_toArray, List.set_cons_zero, List.set_cons_succ]
                refine takeJ1 (i := 11) (dst := (some 75)) (v := .int .i64 y) rfl rfl (by kernel_rfl) (by kernel_rfl) (by kernel_rfl) (by kernel_rfl) (fun _ _ _ h => h) (by rfl) ?hyj10cn11 hHeld1 ?restj10cn11
                case hyj10cn11 =>
                  intro W hSw
                  go_simp
                  (try with_reducible rfl)
                try simp only [Act.put, List.setIfInBounds_toArray, List.set_cons_zero, List.set_cons_succ]
                refine readyJ (rs := [12]) (by kernel_rfl) (by simp) ?_
                refine (AllJ.cons rfl ?op12zc2 AllJ.nil)
                case op12zc2 =>
                  intro K hK
                  go_simp
                  obtain ⟨Q8, hQ8⟩ : ∃ y, v0x8.heap.size = y := ⟨_, rfl⟩
                  rw [hQ8]
                  have G4x12 := G0x8.box1 hQ8 [.slice none 0 0, .slice none 0 0] 26
                  simp only [List.cons_append, List.nil_append] at G4x12
                  obtain ⟨v4x12, h9_⟩ : ∃ zz, (v0x8.alloc (.cells #[.slice none 0 0, .slice none 0 0] 26)) = zz := ⟨_, rfl⟩
                  rw [h9_] at G4x12 ⊢
                  clear h9_ hQ8
                  refine hK.out _ _ (fun _ => trivial) ⟨G4x12.c 0 0 rfl rfl, G4x12.c 0 1 rfl rfl, G4x12.c 0 2 rfl rfl, G4x12.c 0 3 rfl rfl, G4x12.c 0 4 rfl rfl, G4x12.c 0 5 rfl rfl, G4x12.c 0 6 rfl rfl, G4x12.c 0 7 rfl rfl⟩ (fun hHeld hHeld1 => ?_)
                  clear hK K
                  try simp only [Act.put, List.setIfInBounds_toArray, List.set_cons_zero, List.set_cons_succ]
                  refine readyJ (rs := [13]) (by kernel_rfl) (by simp) ?_
                  refine (AllJ.cons rfl ?op13zc3 AllJ.nil)
                  case op13zc3 =>
                    intro K hK
                    have k0 := G4x12.c 2 0 rfl rfl
                    have kf0 := G4x12.f 2 0 rfl rfl
                    have k1 := G4x12.c 2 1 rfl rfl
                    have kf1 := G4x12.f 2 1 rfl rfl
                    go_simp
                    have G5x13 := G4x12.set 2 rfl (by simp) [.slice aC S2.length cC, .slice bC CW.length dC] rfl
                    simp only [setL, Nat.reduceAdd, List.set_cons_zero, List.set_cons_succ] at G5x13
                    clear k0 kf0 k1 kf1
                    refine hK.out _ _ (fun _ => trivial) ⟨G5x13.c 0 0 rfl rfl, G5x13.c 0 1 rfl rfl, G5x13.c 0 2 rfl rfl, G5x13.c 0 3 rfl rfl, G5x13.c 0 4 rfl rfl, G5x13.c 0 5 rfl rfl, G5x13.c 0 6 rfl rfl, G5x13.c 0 7 rfl rfl⟩ (fun hHeld hHeld1 => ?_)
                    clear hK K
                    try simp only [Act.put, List.setIfInBounds_toArray, List.set_cons_zero, List.set_cons_succ]
                    refine takeJ1 (i := 14) (dst := (some 9)) (v := .int .i64 y) rfl rfl (by kernel_rfl) (by kernel_rfl) (by kernel_rfl) (by kernel_rfl) (fun _ _ _ h => h) (by rfl) ?hyj10cn12 hHeld1 ?restj10cn12
                    case hyj10cn12 =>
                      intro W hSw
                      go_simp
                      (try with_reducible rfl)
                    try simp only [Act.put, List.setIfInBounds_toArray, List.set_cons_zero, List.set_cons_succ]
                    refine doneJ (by kernel_rfl) ?_
                    (try dsimp only)
                    go_wp2
                    go_meet
                    exact ⟨Q8, aC, cC, bC, dC, rfl, rfl, Lib.hid G5x13⟩
              case op12zc1 =>
                intro K hK
                go_simp
                obtain ⟨Q8, hQ8⟩ : ∃ y, v0.heap.size = y := ⟨_, rfl⟩
                rw [hQ8]
                have G0x12 := FD.box1 hQ8 [.slice none 0 0, .slice none 0 0] 26
                simp only [List.cons_append, List.nil_append] at G0x12
                obtain ⟨v0x12, h9_⟩ : ∃ zz, (v0.alloc (.cells #[.slice none 0 0, .slice none 0 0] 26)) = zz := ⟨_, rfl⟩
                rw [h9_] at G0x12 ⊢
                clear h9_ hQ8
                refine hK.out _ _ (fun _ => trivial) ⟨G0x12.c 0 0 rfl rfl, G0x12.c 0 1 rfl rfl, G0x12.c 0 2 rfl rfl, G0x12.c 0 3 rfl rfl, G0x12.c 0 4 rfl rfl, G0x12.c 0 5 rfl rfl, G0x12.c 0 6 rfl rfl, G0x12.c 0 7 rfl rfl⟩ (fun hHeld hHeld1 => ?_)
                clear hK K
                try simp only [Act.put, List.setIfInBounds_toArray, List.set_cons_zero, List.set_cons_succ]
                refine readyJ (rs := [8]) (by kernel_rfl) (by simp) ?_
                refine (AllJ.cons rfl ?op8zc4 AllJ.nil)
                case op8zc4 =>
                  intro K hK
                  go_simp
                  go_at_call 15
                  refine (HCL.out v0x12 (G0x12.lw 0 rfl) (G0x12.lw 1 rfl) (HKI.out _ (G0x12.lw 2 rfl)) (G0x12.lw 4 rfl) (G0x12.lw 5 rfl) (G0x12.lw 6 rfl) (G0x12.lw 7 rfl)).mono ?_
                  rintro e v1x8 ⟨aC, cC, bC, dC, rfl, hf⟩
                  have G1x8 := G0x12.join hf
                  simp only [List.nil_append, List.cons_append] at G1x8
                  clear hf
                  refine hK.out _ _ (fun _ => trivial) ⟨G1x8.c 0 0 rfl rfl, G1x8.c 0 1 rfl rfl, G1x8.c 0 2 rfl rfl, G1x8.c 0 3 rfl rfl, G1x8.c 0 4 rfl rfl, G1x8.c 0 5 rfl rfl, G1x8.c 0 6 rfl rfl, G1x8.c 0 7 rfl rfl⟩ (fun hHeld hHeld1 => ?_)
                  clear hK K
                  try simp only [Act.put, List.setIfInBounds_toArray, List.set_cons_zero, List.set_cons_succ]
                  refine takeJ1 (i := 9) (dst := (some 64)) (v := .tuple #[.agg #[.slice aC S2.length cC, .slice bC CW.length dC], .int .i64 y]) rfl rfl (by kernel_rfl) (by kernel_rfl) (by kernel_rfl) (by kernel_rfl) (fun _ _ _ h => h) (by rfl) ?hyj10cn13 hHeld1 ?restj10cn13
                  case hyj10cn13 =>
                    intro W hSw
                    go_simp
                    (try with_reducible rfl)
                  try simp only [Act.put, List.setIfInBounds_toArray, List.set_cons_zero, List.set_cons_succ]
                  refine takeJ1 (i := 10) (dst := (some 74)) (v := .agg #[.slice aC S2.length cC, .slice bC CW.length dC]) rfl rfl (by kernel_rfl) (by kernel_rfl) (by kernel_rfl) (by kernel_rfl) (fun _ _ _ h => h) (by rfl) ?hyj10cn14 hHeld1 ?restj10cn14
                  case hyj10cn14 =>
                    intro W hSw
                    go_simp
                    (try with_reducible rfl)
                  try simp only [Act.put, List.setIfInBounds_toArray, List.set_cons_zero, List.set_cons_succ]
                  refine takeJ1 (i := 11) (dst := (some 75)) (v := .int .i64 y) rfl rfl (by kernel_rfl) (by kernel_rfl) (by kernel_rfl) (by kernel_rfl) (fun _ _ _ h => h) (by rfl) ?hyj10cn15 hHeld1 ?restj10cn15
                  case hyj10cn15 =>
                    intro W hSw
                    go_simp
                    (try with_reducible rfl)
                  try simp only [Act.put, List.setIfInBounds_toArray, List.set_cons_zero, List.set_cons_succ]
                  refine readyJ (rs := [13]) (by kernel_rfl) (by simp) ?_
                  refine (AllJ.cons rfl ?op13zc5 AllJ.nil)
                  case op13zc5 =>
                    intro K hK
                    have k0 := G1x8.c 2 0 rfl rfl
                    have kf0 := G1x8.f 2 0 rfl rfl
                    have k1 := G1x8.c 2 1 rfl rfl
                    have kf1 := G1x8.f 2 1 rfl rfl
                    go_simp
                    have G5x13 := G1x8.set 2 rfl (by simp) [.slice aC S2.length cC, .slice bC CW.length dC] rfl
                    simp only [setL, Nat.reduceAdd, List.set_cons_zero, List.set_cons_succ] at G5x13
                    clear k0 kf0 k1 kf1
                    refine hK.out _ _ (fun _ => trivial) ⟨G5x13.c 0 0 rfl rfl, G5x13.c 0 1 rfl rfl, G5x13.c 0 2 rfl rfl, G5x13.c 0 3 rfl rfl, G5x13.c 0 4 rfl rfl, G5x13.c 0 5 rfl rfl, G5x13.c 0 6 rfl rfl, G5x13.c 0 7 rfl rfl⟩ (fun hHeld hHeld1 => ?_)
                    clear hK K
                    try simp only [Act.put, List.setIfInBounds_toArray, List.set_cons_zero, List.set_cons_succ]
                    refine takeJ1 (i := 14) (dst := (some 9)) (v := .int .i64 y) rfl rfl (by kernel_rfl) (by kernel_rfl) (by kernel_rfl) (by kernel_rfl) (fun _ _ _ h => h) (by rfl) ?hyj10cn16 hHeld1 ?restj10cn16
                    case hyj10cn16 =>
                      intro W hSw
                      go_simp
                      (try with_reducible rfl)
                    try simp only [Act.put, List.setIfInBounds_toArray, List.set_cons_zero, List.set_cons_succ]
                    refine doneJ (by kernel_rfl) ?_
                    (try dsimp only)
                    go_wp2
                    go_meet
                    exact ⟨Q8, aC, cC, bC, dC, rfl, rfl, Lib.hid G5x13⟩
            case rest =>
              obtain ⟨Q8, aC, cC, bC, dC, rfl, rfl, F8⟩ := hcut
              clear F7
              obtain ⟨W8, rfl⟩ : ∃ x : World, x = wc := ⟨_, rfl⟩
              by_cases hz0 : z = 0
              · skip
                by_cases hy0 : y = 0
                · skip
                  have hzb : (z != 0) = false := by simp [hz0]
                  have hyb : (y != 0) = false := by simp [hy0]
                  have hc0 := Hz.out
                  rw [hz0] at hc0
                  have hff : formZ xs ys ws vs Q wv (fn : Int) = true := by
                    unfold cvZ at hc0
                    by_cases h : formZ xs ys ws vs Q wv (fn : Int) = true
                    · exact h
                    · rw [if_neg h] at hc0; cases hc0
                  have hoz : coutZ xs ws wv = 0 := by
                    unfold cvZ at hc0
                    rw [if_pos hff] at hc0
                    by_cases h : coutZ xs ws wv = 0
                    · exact h
                    · rw [if_neg h] at hc0; exact hc0
                  have hall : allW xs ys ws vs wv fn = true := by
                    unfold cvZ at hc0
                    rw [if_pos hff, if_pos hoz, Int.toNat_natCast] at hc0
                    by_cases h : allW xs ys ws vs wv fn = true
                    · exact h
                    · rw [if_neg h] at hc0; cases hc0
                  obtain ⟨_, R, K⟩ := conv_ok HL.out HK.out hff hoz
                  obtain ⟨N, M, T, C, o, NN, hNN, K⟩ : ∃ N M T C o NN, cvN xs ws wv = NN ∧ ConvOK xs ys ws vs wv N M T C o R NN := ⟨_, _, _, _, _, _, rfl, K⟩
                  have HNN := Lib.hid hNN
                  clear hNN
                  have hd0 := Hy.out
                  rw [hy0] at hd0
                  have hcf : clForm xs ys wv.K Q wv = true := by
                    unfold clZ at hd0
                    by_cases h : clForm xs ys wv.K Q wv = true
                    · exact h
                    · rw [if_neg h] at hd0; cases hd0
                  have hcz : colZ xs wv.K wv = 0 := by
                    unfold clZ at hd0
                    rw [if_pos hcf] at hd0
                    exact hd0
                  simp only [clForm, Bool.and_eq_true] at hcf
                  obtain ⟨N2, M2, T2, C2, R2, L⟩ := colsK_ok HL.out rfl (tenB_iff.1 hcf.1.1).1 hcf.1.2 hcf.2 hcz
                  obtain rfl : N2 = N := by have h1 := K.hN; have h2 := L.hN; omega
                  obtain rfl : M2 = M := by have h1 := K.hM; have h2 := L.hM; omega
                  obtain rfl : T2 = T := by have h1 := K.hT; have h2 := L.hT; omega
                  obtain rfl : C2 = C := by have h1 := K.hC; have h2 := L.hC; omega
                  obtain rfl : R2 = R := by have h1 := K.hRe; have h2 := L.hRe; omega
                  have hys : (List.range NN).map (cvW xs ys ws vs wv fn) = YS := by rw [← HYS.out, hz0, zL_0, HNN.out]
                  have hcw : colW ys wv N2 T2 M2 C2 R2 = CW := by rw [← HCW.out, hy0, zL_0]; unfold clWs clN colW; rw [L.pS, L.hN, L.hT, L.hM]; simp only [Int.toNat_natCast]
                  have hsh : SH = coS xs ws wv := by rw [← HSH.out, hz0, zL_0]
                  have hs2 : S2 = colS xs wv := by rw [← HS2.out, hy0, zL_0]
                  have hYl : YS.length = NN := by rw [← hys]; simp
                  have hCl : CW.length = R2 * (C2 * T2 * N2) := by rw [← hcw]; unfold colW; rw [List.length_map, List.length_range, Nat.mul_assoc]
                  have htc : tenB S2 CW = true := tenB_iff.2 ⟨by rw [hs2]; exact L.gS, by rw [hCl, hs2, L.pS, Nat.mul_assoc R2], fun q hq => by rw [← hcw] at hq; unfold colW at hq; obtain ⟨n, _, rfl⟩ := List.mem_map.1 hq; exact clW_isW (tenB_iff.1 K.tx).2.2 _ _ _ _ _⟩
                  have htt : tenB SH YS = true := tenB_iff.2 ⟨by rw [hsh]; exact K.gS, by rw [hYl, hsh, K.hNN], fun q hq => by rw [← hys] at hq; obtain ⟨n, hn, rfl⟩ := List.mem_map.1 hq; have h9 := List.all_eq_true.1 hall n; rw [HNN.out] at h9; exact h9 hn⟩
                  have hmc := fun W (h : Ints .i64 W W.heap.size aC S2) (h2 : Ints .i64 W W.heap.size bC CW) => tenMay_any aC bC cC dC S2 CW W h h2
                  have hmt := fun W (h : Ints .i64 W W.heap.size aT SH) (h2 : Ints .i64 W W.heap.size bT YS) => tenMay_any aT bT cT dT SH YS W h h2
                  rw [htc] at hmc
                  rw [htt] at hmt
                  have hwf1 : ∀ x ∈ SH, (Lit.int .i64 x).wf = true := wf_dims (fun x hx => by rw [hsh] at hx; have := goodB_dims K.gS x hx; omega)
                  have hwf2 : ∀ x ∈ S2, (Lit.int .i64 x).wf = true := wf_dims (fun x hx => by rw [hs2] at hx; have := goodB_dims L.gS x hx; omega)
                  have hwf3 : ∀ x ∈ YS, (Lit.int .i64 x).wf = true := fun x hx => by have h8 := isW_iff.1 ((tenB_iff.1 htt).2.2 x hx); exact wf_i64_iff.2 ⟨by omega, by omega⟩
                  have hwf4 : ∀ x ∈ CW, (Lit.int .i64 x).wf = true := fun x hx => by have h8 := isW_iff.1 ((tenB_iff.1 htc).2.2 x hx); exact wf_i64_iff.2 ⟨by omega, by omega⟩
                  have hPA := fun a9 (ha : a9 < R2) => prod_all (Q := Q) K L hall HNN.out ha
                  rw [hcw, hys] at hPA
                  have hS2e : S2 = [(R2 : Int), ((C2 * T2 : Nat) : Int), (N2 : Int)] := by rw [hs2]; unfold colS; rw [L.hRe, L.hC, L.hT, L.hN, Int.natCast_mul]
                  have H2L := Lib.hid (show S2.length = 3 by rw [hS2e]; rfl)
                  have h2l : (S2.length : Int) = 3 := by have := H2L.out; omega
                  have h2b : ((S2.length : Int) != 3) = false := by simp; omega
                  have HMC := Lib.hid hmc
                  have HMT := Lib.hid hmt
                  have HWF1 := Lib.hid hwf1
                  have HWF2 := Lib.hid hwf2
                  have HWF3 := Lib.hid hwf3
                  have HWF4 := Lib.hid hwf4
                  have HPA := Lib.hid hPA
                  have HS2E := Lib.hid hS2e
                  have HKK := Lib.hid K
                  have HLL := Lib.hid L
                  have HYL := Lib.hid hYl
                  have HCLn := Lib.hid hCl
                  clear hc0 hff hoz hall hd0 hcf hcz hys hcw hsh hs2 hYl hCl htc htt hmc hmt hwf1 hwf2 hwf3 hwf4 hPA hS2e K L h2l
                  have e1_0 := F8.out.c 1 0 rfl rfl
                  have e1_1 := F8.out.c 1 1 rfl rfl
                  have e2_0 := F8.out.c 2 0 rfl rfl
                  have e2_1 := F8.out.c 2 1 rfl rfl
                  have M1 : True := trivial
                  go_upto_region 12 with (first | (go_at_call 11; refine (num11_any _ _).mono ?_; rintro e w' ⟨rfl, rfl⟩) | (go_at_call 8; have hmk := M1; clear hmk M1; refine (HMC.out _ (F8.out.li 2 (k := .i64) (xs := S2) rfl HWF2.out) (F8.out.li 3 (k := .i64) (xs := CW) rfl HWF4.out)).mono ?_; rintro e w9 ⟨rfl, hb⟩; have F9 := Lib.hid (F8.out.next hb); clear hb F8 HMC e1_0 e1_1 e2_0 e2_1; have e1_0 := F9.out.c 1 0 rfl rfl; have e1_1 := F9.out.c 1 1 rfl rfl; have e2_0 := F9.out.c 2 0 rfl rfl; have e2_1 := F9.out.c 2 1 rfl rfl) | (go_at_call 8; refine (HMT.out _ (F9.out.li 0 (k := .i64) (xs := SH) rfl HWF1.out) (F9.out.li 1 (k := .i64) (xs := YS) rfl HWF3.out)).mono ?_; rintro e w10 ⟨rfl, hb⟩; have F10 := Lib.hid (F9.out.next hb); clear hb F9 e1_0 e1_1 e2_0 e2_1) | fail)
                  have L := HLL.out
                  have K := HKK.out
                  obtain ⟨CT, hCT⟩ : ∃ z, C2 * T2 = z := ⟨_, rfl⟩
                  have hpa := HPA.out
                  have hcl := HCLn.out
                  have hse := HS2E.out
                  have hvl := K.vl
                  have bCT := L.bCT
                  have hCT1 : 1 ≤ CT := by rw [← hCT]; exact Nat.mul_pos K.c1 K.t1
                  rw [hCT] at hpa hcl hse hvl bCT
                  obtain ⟨CN, hCN⟩ : ∃ z, CT * N2 = z := ⟨_, rfl⟩
                  obtain ⟨oN, hoN⟩ : ∃ z, o * N2 = z := ⟨_, rfl⟩
                  rw [hCN, hoN] at hpa
                  rw [hCN] at hcl
                  have hnn : NN = R2 * oN := by rw [← hoN, ← Nat.mul_assoc]; exact K.nn
                  obtain ⟨bR, bo, bC, bN, bM, bT9, bNN, bn1, by1, bv1⟩ := K.bounds
                  have hR1 := K.r1
                  have ho1 := K.o1
                  have hCN1 : 1 ≤ CN := by rw [← hCN]; exact Nat.mul_pos hCT1 K.n1
                  have hoN1 : 1 ≤ oN := by rw [← hoN]; exact Nat.mul_pos ho1 K.n1
                  have hbS := L.bS
                  rw [hCT, Nat.mul_assoc, hCN] at hbS
                  have hq1 := Nat.le_mul_of_pos_left CN hR1
                  have hq2 := Nat.le_mul_of_pos_left oN hR1
                  have HBB := Lib.hid (show R2 ≤ 4096 ∧ o ≤ 4096 ∧ CT ≤ 4096 ∧ CN ≤ 65536 ∧ oN ≤ 65536 ∧ 1 ≤ R2 ∧ 1 ≤ o ∧ 1 ≤ CT ∧ 1 ≤ CN ∧ 1 ≤ oN ∧ CW.length ≤ 65536 ∧ YS.length ≤ 65536 by have := HYL.out; omega)
                  have HP := Lib.hid hpa
                  have HCL2 := Lib.hid hcl
                  have HSE := Lib.hid hse
                  have HVL := Lib.hid hvl
                  have HYL2 := Lib.hid (show YS.length = R2 * oN by rw [HYL.out, hnn])
                  have HWO := Lib.hid K.ho
                  obtain ⟨aC', cC', he, hsh⟩ := own_shape (F10.out.r 2 rfl)
                  simp only [Value.slice.injEq] at he
                  obtain ⟨rfl, _, rfl⟩ := he
                  obtain ⟨gS, rfl, _⟩ := hsh.resolve_left (show ¬ S2.length = 0 by rw [H2L.out]; decide)
                  clear hsh
                  obtain ⟨bC', dC', he, hsh⟩ := own_shape (F10.out.r 3 rfl)
                  simp only [Value.slice.injEq] at he
                  obtain ⟨rfl, _, rfl⟩ := he
                  obtain ⟨gC, rfl, _⟩ := hsh.resolve_left (show ¬ CW.length = 0 by rw [hcl]; omega)
                  clear hsh
                  obtain ⟨bT', dT', he, hsh⟩ := own_shape (F10.out.r 1 rfl)
                  simp only [Value.slice.injEq] at he
                  obtain ⟨rfl, _, rfl⟩ := he
                  obtain ⟨gT, rfl, _⟩ := hsh.resolve_left (show ¬ YS.length = 0 by rw [HYL.out]; omega)
                  clear hsh
                  have hkS := row_cap (F10.out.r 2 rfl)
                  have hkC := row_cap (F10.out.r 3 rfl)
                  have hkT := row_cap (F10.out.r 1 rfl)
                  rw [H2L.out] at hkS
                  have HKS := Lib.hid hkS
                  have HKC := Lib.hid hkC
                  have HKT := Lib.hid hkT
                  have hwo := HWO.out
                  obtain ⟨b9, o9, he, _, hcx⟩ := (F10.out.l 2 rfl).cell 0 (by have := HW3.out; omega)
                  cases he
                  rw [hwo, Nat.add_zero] at hcx
                  have q0 := F10.out.c 0 2 rfl rfl
                  have g9 := HW3.out
                  have g1 : (0 : Int) < (ws.length : Int) := by omega
                  have g2 : ¬ ws = [] := by intro h; rw [h] at g9; exact absurd g9 (by simp)
                  have g3 : 0 < ws.length := by omega
                  clear L K hCT hpa hcl hse hvl bCT hCT1 hCN hoN hnn bR bo bC bN bM bT9 bNN bn1 by1 bv1 hR1 ho1 hCN1 hoN1 hbS hq1 hq2 HPA HCLn HS2E hkS hkC hkT hwo g9 HLL HKK hzb hyb h2b
                  go_upto_region 13 with fail
                  clear g1 g2 g3 q0 hcx
                  have HQ13 := Lib.hid (show Int.tdiv (vs.length : Int) (o : Int) = (CT : Int) by have h := HBB.out; rw [Int.tdiv_eq_ediv_of_nonneg (by omega), HVL.out, Int.natCast_mul]; exact Int.mul_ediv_cancel_left _ (by omega))
                  have HQ14 := Lib.hid (show Int.tdiv (CW.length : Int) (R2 : Int) = (CN : Int) by have h := HBB.out; rw [Int.tdiv_eq_ediv_of_nonneg (by omega), HCL2.out, Int.natCast_mul]; exact Int.mul_ediv_cancel_left _ (by omega))
                  have HQ19 := Lib.hid (show Int.tdiv (YS.length : Int) (R2 : Int) = (oN : Int) by have h := HBB.out; rw [Int.tdiv_eq_ediv_of_nonneg (by omega), HYL2.out, Int.natCast_mul]; exact Int.mul_ediv_cancel_left _ (by omega))
                  have HS0 := Lib.hid (show (S2.map (Value.int .i64))[0]? = some (.int .i64 (R2 : Int)) by rw [HSE.out]; rfl)
                  go_cut [11] from 105 to 179 (fun s11 wx => ∃ Q11 g7, s11 = .pointer (some ⟨Q11, 0, none⟩) ∧ Hid (Fr wo.heap.size wo wx [(wo.heap.size, [.slice a xs.length c, .slice b ys.length d, .slice (some ⟨gW, oW, none⟩) ws.length c2, .slice b2 vs.length dw, .slice aQ Q.length cQ, .slice aS wv.S.length cS, .slice aP wv.P.length cP, .slice aD wv.D.length cD, .slice aI I.length cI, .slice aJ J.length cJ, .int .i64 f]), (Q6, [.slice aT SH.length cT, .slice (some ⟨gT, 0, none⟩) YS.length dT]), (Q8, [.slice (some ⟨gS, 0, none⟩) S2.length cC, .slice (some ⟨gC, 0, none⟩) CW.length dC]), (Q11, [.slice (some ⟨g7, 0, none⟩) 2 2, .slice b2 vs.length dw])] [(.i64, a, xs), (.i64, b, ys), (.i64, (some ⟨gW, oW, none⟩), ws), (.i64, b2, vs), (.i64, aQ, Q), (.i64, aS, wv.S), (.i64, aP, wv.P), (.i64, aD, wv.D), (.i64, aI, I), (.i64, aJ, J)] [⟨3, .slice aT SH.length cT, SH.length, SH.map (Value.int .i64)⟩, ⟨2, .slice (some ⟨gT, 0, none⟩) YS.length dT, YS.length, YS.map (Value.int .i64)⟩, ⟨3, .slice (some ⟨gS, 0, none⟩) S2.length cC, S2.length, S2.map (Value.int .i64)⟩, ⟨2, .slice (some ⟨gC, 0, none⟩) CW.length dC, CW.length, CW.map (Value.int .i64)⟩, ⟨3, .slice (some ⟨g7, 0, none⟩) 2 2, 2, [.int .i64 (o : Int), .int .i64 (CT : Int)]⟩] []))
                  case first => as_aux_lemma =>
                    have FD := F10.out.drew
                    refine wp_region_J (S := fun _ => True) (S1 := fun W9 => W9.cell? ⟨wo.heap.size, 3, none⟩ = some (.slice b2 vs.length dw)) (L := [0, 1, 2, 3, 4, 5, 6, 7, 8, 9, 10, 11, 12, 13]) (by kernel_rfl) trivial (FD.c 0 3 rfl rfl) (fun hHeld hHeld1 => ?_)
                    obtain ⟨v0, hv0⟩ : ∃ x, w10.drew = x := ⟨_, rfl⟩
                    rw [hv0] at FD hHeld1 ⊢
                    clear hv0
                    refine takeJ1 (i := 0) (dst := (some 105)) (v := .int .i64 (o : Int)) rfl rfl (by kernel_rfl) (by kernel_rfl) (by kernel_rfl) (by kernel_rfl) (fun _ _ _ h => h) (by rfl) ?hyj13rn1 hHeld1 ?restj13rn1
                    case hyj13rn1 =>
                      intro W hSw
                      go_simp
                      (try with_reducible rfl)
                    try simp only [Act.put, List.setIfInBounds_toArray, List.set_cons_zero, List.set_cons_succ]
                    refine takeJ1 (i := 1) (dst := (some 106)) (v := .pointer (some ⟨wo.heap.size, 2, none⟩)) rfl rfl (by kernel_rfl) (by kernel_rfl) (by kernel_rfl) (by kernel_rfl) (fun _ _ _ h => h) (by rfl) ?hyj13rn2 hHeld1 ?restj13rn2
                    case hyj13rn2 =>
                      intro W hSw
                      go_simp
                      (try with_reducible rfl)
                    try simp only [Act.put, List.setIfInBounds_toArray, List.set_cons_zero, List.set_cons_succ]
                    refine takeJ1 (i := 2) (dst := (some 107)) (v := .pointer (some ⟨wo.heap.size, 3, none⟩)) rfl rfl (by kernel_rfl) (by kernel_rfl) (by kernel_rfl) (by kernel_rfl) (fun _ _ _ h => h) (by rfl) ?hyj13rn3 hHeld1 ?restj13rn3
                    case hyj13rn3 =>
                      intro W hSw
                      go_simp
                      (try with_reducible rfl)
                    try simp only [Act.put, List.setIfInBounds_toArray, List.set_cons_zero, List.set_cons_succ]
                    refine takeJ1 (i := 3) (dst := (some 108)) (v := .slice b2 vs.length dw) rfl rfl (by kernel_rfl) (by kernel_rfl) (by kernel_rfl) (by kernel_rfl) (fun _ _ _ h => h) (by rfl) ?hyj13rn4 hHeld1 ?restj13rn4
                    case hyj13rn4 =>
                      intro W hSw
                      have s0 := hSw
                      go_simp
                      (try with_reducible rfl)
                    try simp only [Act.put, List.setIfInBounds_toArray, List.set_cons_zero, List.set_cons_succ]
                    refine takeJ1 (i := 4) (dst := (some 109)) (v := .int .i64 (vs.length : Int)) rfl rfl (by kernel_rfl) (by kernel_rfl) (by kernel_rfl) (by kernel_rfl) (fun _ _ _ h => h) (by rfl) ?hyj13rn5 hHeld1 ?restj13rn5
                    case hyj13rn5 =>
                      intro W hSw
                      go_simp
                      (try with_reducible rfl)
                    try simp only [Act.put, List.setIfInBounds_toArray, List.set_cons_zero, List.set_cons_succ]
                    refine takeJ1 (i := 5) (dst := (some 110)) (v := .int .i64 (o : Int)) rfl rfl (by kernel_rfl) (by kernel_rfl) (by kernel_rfl) (by kernel_rfl) (fun _ _ _ h => h) (by rfl) ?hyj13rn6 hHeld1 ?restj13rn6
                    case hyj13rn6 =>
                      intro W hSw
                      go_simp
                      (try with_reducible rfl)
                    try simp only [Act.put, List.setIfInBounds_toArray, List.set_cons_zero, List.set_cons_succ]
                    refine takeJ1 (i := 6) (dst := (some 111)) (v := .int .i64 (CT : Int)) rfl rfl (by kernel_rfl) (by kernel_rfl) (by kernel_rfl) (by kernel_rfl) (fun _ _ _ h => h) (by rfl) ?hyj13rn7 hHeld1 ?restj13rn7
                    case hyj13rn7 =>
                      intro W hSw
                      have hb := HBB.out
                      have g0 : ¬ (o : Int) = 0 := by omega
                      have g1 : ¬ o = 0 := by omega
                      clear hb
                      have g3 : IntKind.i64.wrap (CT : Int) = (CT : Int) := IntWalk.i64_in _ (by have h := HBB.out; omega)
                      have g2 : ∀ [Inhabited Unit], Int.tdiv (vs.length : Int) (o : Int) = (CT : Int) := by intro _; exact HQ13.out
                      go_simp
                      (try with_reducible rfl)
                    try simp only [Act.put, List.setIfInBounds_toArray, List.set_cons_zero, List.set_cons_succ]
                    refine takeJ1 (i := 8) (dst := (some 113)) (v := .pointer (some ⟨wo.heap.size, 2, none⟩)) rfl rfl (by kernel_rfl) (by kernel_rfl) (by kernel_rfl) (by kernel_rfl) (fun _ _ _ h => h) (by rfl) ?hyj13rn8 hHeld1 ?restj13rn8
                    case hyj13rn8 =>
                      intro W hSw
                      go_simp
                      (try with_reducible rfl)
                    try simp only [Act.put, List.setIfInBounds_toArray, List.set_cons_zero, List.set_cons_succ]
                    refine takeJ1 (i := 9) (dst := (some 114)) (v := .pointer (some ⟨wo.heap.size, 3, none⟩)) rfl rfl (by kernel_rfl) (by kernel_rfl) (by kernel_rfl) (by kernel_rfl) (fun _ _ _ h => h) (by rfl) ?hyj13rn9 hHeld1 ?restj13rn9
                    case hyj13rn9 =>
                      intro W hSw
                      go_simp
                      (try with_reducible rfl)
                    try simp only [Act.put, List.setIfInBounds_toArray, List.set_cons_zero, List.set_cons_succ]
                    refine takeJ1 (i := 10) (dst := (some 115)) (v := .slice b2 vs.length dw) rfl rfl (by kernel_rfl) (by kernel_rfl) (by kernel_rfl) (by kernel_rfl) (fun _ _ _ h => h) (by rfl) ?hyj13rn10 hHeld1 ?restj13rn10
                    case hyj13rn10 =>
                      intro W hSw
                      have s0 := hSw
                      go_simp
                      (try with_reducible rfl)
                    try simp only [Act.put, List.setIfInBounds_toArray, List.set_cons_zero, List.set_cons_succ]
                    refine readyJ (rs := [7, 12]) (by kernel_rfl) (by simp) ?_
                    refine (AllJ.cons rfl ?op7zr6 (AllJ.cons rfl ?op12zr6 AllJ.nil))
                    case op7zr6 =>
                      intro K hK
                      go_simp
                      obtain ⟨g7, hg7⟩ : ∃ y, v0.heap.size = y := ⟨_, rfl⟩
                      try rw [hg7]
                      have G0x7 := FD.addO ((Below.refl _ _).alloc (Nat.le_refl _) (.cells #[.int .i64 (o : Int), .int .i64 (CT : Int)] 3)) (World.ownsRow_lit (base := v0.heap.size) (size := 1) (e := 3) v0 #[.int .i64 (o : Int), .int .i64 (CT : Int)] 2 (Nat.le_refl _) (by decide) rfl)
                      simp only [List.cons_append, List.nil_append] at G0x7
                      try rw [hg7] at G0x7
                      obtain ⟨v0x7, h9_⟩ : ∃ zz, (v0.alloc (.cells #[.int .i64 (o : Int), .int .i64 (CT : Int)] 3)) = zz := ⟨_, rfl⟩
                      rw [h9_] at G0x7 ⊢
                      clear h9_ hg7
                      refine hK.out _ _ (fun _ => trivial) (G0x7.c 0 3 rfl rfl) (fun hHeld hHeld1 => ?_)
                      clear hK K
                      try simp only [Act.put, List.setIfInBounds_toArray, List.set_cons_zero, List.set_cons_succ]
                      refine takeJ1 (i := 11) (dst := (some 116)) (v := .agg #[.slice (some ⟨g7, 0, none⟩) 2 2, .slice b2 vs.length dw]) rfl rfl (by kernel_rfl) (by kernel_rfl) (by kernel_rfl) (by kernel_rfl) (fun _ _ _ h => h) (by rfl) ?hyj13rn11 hHeld1 ?restj13rn11
                      case hyj13rn11 =>
                        intro W hSw
                        go_simp
                        (try with_reducible rfl)
                      try simp only [Act.put, List.setIfInBounds_toArray, List.set_cons_zero, List.set_cons_succ]
                      refine readyJ (rs := [12]) (by kernel_rfl) (by simp) ?_
                      refine (AllJ.cons rfl ?op12zr7 AllJ.nil)
                      case op12zr7 =>
                        intro K hK
                        go_simp
                        obtain ⟨Q11, hQ11⟩ : ∃ y, v0x7.heap.size = y := ⟨_, rfl⟩
                        rw [hQ11]
                        have G2x12 := G0x7.box1 hQ11 [.slice none 0 0, .slice none 0 0] 26
                        simp only [List.cons_append, List.nil_append] at G2x12
                        obtain ⟨v2x12, h9_⟩ : ∃ zz, (v0x7.alloc (.cells #[.slice none 0 0, .slice none 0 0] 26)) = zz := ⟨_, rfl⟩
                        rw [h9_] at G2x12 ⊢
                        clear h9_ hQ11
                        refine hK.out _ _ (fun _ => trivial) (G2x12.c 0 3 rfl rfl) (fun hHeld hHeld1 => ?_)
                        clear hK K
                        try simp only [Act.put, List.setIfInBounds_toArray, List.set_cons_zero, List.set_cons_succ]
                        refine readyJ (rs := [13]) (by kernel_rfl) (by simp) ?_
                        refine (AllJ.cons rfl ?op13zr8 AllJ.nil)
                        case op13zr8 =>
                          intro K hK
                          have k0 := G2x12.c 3 0 rfl rfl
                          have kf0 := G2x12.f 3 0 rfl rfl
                          have k1 := G2x12.c 3 1 rfl rfl
                          have kf1 := G2x12.f 3 1 rfl rfl
                          go_simp
                          have G3x13 := G2x12.set 3 rfl (by simp) [.slice (some ⟨g7, 0, none⟩) 2 2, .slice b2 vs.length dw] rfl
                          simp only [setL, Nat.reduceAdd, List.set_cons_zero, List.set_cons_succ] at G3x13
                          clear k0 kf0 k1 kf1
                          refine hK.out _ _ (fun _ => trivial) (G3x13.c 0 3 rfl rfl) (fun hHeld hHeld1 => ?_)
                          clear hK K
                          try simp only [Act.put, List.setIfInBounds_toArray, List.set_cons_zero, List.set_cons_succ]
                          refine doneJ (by kernel_rfl) ?_
                          (try dsimp only)
                          go_wp2
                          go_meet
                          exact ⟨Q11, g7, rfl, Lib.hid G3x13⟩
                    case op12zr6 =>
                      intro K hK
                      go_simp
                      obtain ⟨Q11, hQ11⟩ : ∃ y, v0.heap.size = y := ⟨_, rfl⟩
                      rw [hQ11]
                      have G0x12 := FD.box1 hQ11 [.slice none 0 0, .slice none 0 0] 26
                      simp only [List.cons_append, List.nil_append] at G0x12
                      obtain ⟨v0x12, h9_⟩ : ∃ zz, (v0.alloc (.cells #[.slice none 0 0, .slice none 0 0] 26)) = zz := ⟨_, rfl⟩
                      rw [h9_] at G0x12 ⊢
                      clear h9_ hQ11
                      refine hK.out _ _ (fun _ => trivial) (G0x12.c 0 3 rfl rfl) (fun hHeld hHeld1 => ?_)
                      clear hK K
                      try simp only [Act.put, List.setIfInBounds_toArray, List.set_cons_zero, List.set_cons_succ]
                      refine readyJ (rs := [7]) (by kernel_rfl) (by simp) ?_
                      refine (AllJ.cons rfl ?op7zr9 AllJ.nil)
                      case op7zr9 =>
                        intro K hK
                        go_simp
                        obtain ⟨g7, hg7⟩ : ∃ y, v0x12.heap.size = y := ⟨_, rfl⟩
                        try rw [hg7]
                        have G1x7 := G0x12.addO ((Below.refl _ _).alloc (Nat.le_refl _) (.cells #[.int .i64 (o : Int), .int .i64 (CT : Int)] 3)) (World.ownsRow_lit (base := v0x12.heap.size) (size := 1) (e := 3) v0x12 #[.int .i64 (o : Int), .int .i64 (CT : Int)] 2 (Nat.le_refl _) (by decide) rfl)
                        simp only [List.cons_append, List.nil_append] at G1x7
                        try rw [hg7] at G1x7
                        obtain ⟨v1x7, h9_⟩ : ∃ zz, (v0x12.alloc (.cells #[.int .i64 (o : Int), .int .i64 (CT : Int)] 3)) = zz := ⟨_, rfl⟩
                        rw [h9_] at G1x7 ⊢
                        clear h9_ hg7
                        refine hK.out _ _ (fun _ => trivial) (G1x7.c 0 3 rfl rfl) (fun hHeld hHeld1 => ?_)
                        clear hK K
                        try simp only [Act.put, List.setIfInBounds_toArray, List.set_cons_zero, List.set_cons_succ]
                        refine takeJ1 (i := 11) (dst := (some 116)) (v := .agg #[.slice (some ⟨g7, 0, none⟩) 2 2, .slice b2 vs.length dw]) rfl rfl (by kernel_rfl) (by kernel_rfl) (by kernel_rfl) (by kernel_rfl) (fun _ _ _ h => h) (by rfl) ?hyj13rn12 hHeld1 ?restj13rn12
                        case hyj13rn12 =>
                          intro W hSw
                          go_simp
                          (try with_reducible rfl)
                        try simp only [Act.put, List.setIfInBounds_toArray, List.set_cons_zero, List.set_cons_succ]
                        refine readyJ (rs := [13]) (by kernel_rfl) (by simp) ?_
                        refine (AllJ.cons rfl ?op13zr10 AllJ.nil)
                        case op13zr10 =>
                          intro K hK
                          have k0 := G1x7.c 3 0 rfl rfl
                          have kf0 := G1x7.f 3 0 rfl rfl
                          have k1 := G1x7.c 3 1 rfl rfl
                          have kf1 := G1x7.f 3 1 rfl rfl
                          go_simp
                          have G3x13 := G1x7.set 3 rfl (by simp) [.slice (some ⟨g7, 0, none⟩) 2 2, .slice b2 vs.length dw] rfl
                          simp only [setL, Nat.reduceAdd, List.set_cons_zero, List.set_cons_succ] at G3x13
                          clear k0 kf0 k1 kf1
                          refine hK.out _ _ (fun _ => trivial) (G3x13.c 0 3 rfl rfl) (fun hHeld hHeld1 => ?_)
                          clear hK K
                          try simp only [Act.put, List.setIfInBounds_toArray, List.set_cons_zero, List.set_cons_succ]
                          refine doneJ (by kernel_rfl) ?_
                          (try dsimp only)
                          go_wp2
                          go_meet
                          exact ⟨Q11, g7, rfl, Lib.hid G3x13⟩
                  case rest =>
                    obtain ⟨Q11, g7, rfl, F11⟩ := hcut
                    clear F10
                    obtain ⟨W11, rfl⟩ : ∃ x : World, x = wc := ⟨_, rfl⟩
                    go_upto_region 14 with fail
                    refine wp_region_parts2 (w := W11) 9 0 none [] [(fun u _ => u = .pointer (some ⟨Q8, 1, none⟩)), (fun u _ => u = .slice (some ⟨gC, 0, none⟩) CW.length dC), (fun u _ => u = .int .i64 (CW.length : Int)), (fun u _ => u = .pointer (some ⟨Q8, 0, none⟩)), (fun u _ => u = .slice (some ⟨gS, 0, none⟩) S2.length cC), (fun u _ => u = .pointer (some ⟨gS, 0, none⟩)), (fun u _ => u = .int .i64 (R2 : Int)), (fun u _ => u = .int .i64 (CN : Int)), (fun u _ => u = .int .i64 (CN : Int))] [some 117, some 118, some 119, some 120, some 121, some 122, some 123, some 124, some 12] #[true, true, true, true, true, true, true, true, true] #[true, true, true, true, true, true, true, true, true] (by kernel_rfl) rfl (by kernel_rfl) (by kernel_rfl) rfl (by kernel_rfl) (by kernel_rfl) (.cons (carries_eq _) (.cons (carries_eq _) (.cons (carries_eq _) (.cons (carries_eq _) (.cons (carries_eq _) (.cons (carries_eq _) (.cons (carries_eq _) (.cons (carries_eq _) (.cons (carries_eq _) .nil))))))))) (fun vs b hvl hvb => ?_)
                    obtain ⟨x0, x1, x2, x3, x4, x5, x6, x7, x8, rfl⟩ : ∃ x0 x1 x2 x3 x4 x5 x6 x7 x8, vs = [x0, x1, x2, x3, x4, x5, x6, x7, x8] := lw9 hvl
                    clear hvl
                    simp only [putAll, Act.put, List.setIfInBounds_toArray, List.set_cons_zero, List.set_cons_succ] at hvb
                    subst hvb
                    refine ⟨(.snoc (.snoc (.snoc (.snoc (.snoc (.snoc (.snoc (.snoc (.snoc .zero (PartOb.intro (d := (some 117)) (r := fun u _ => u = .pointer (some ⟨Q8, 1, none⟩)) rfl rfl rfl rfl ?po14x0)) (PartOb.intro (d := (some 118)) (r := fun u _ => u = .slice (some ⟨gC, 0, none⟩) CW.length dC) rfl rfl rfl rfl ?po14x1)) (PartOb.intro (d := (some 119)) (r := fun u _ => u = .int .i64 (CW.length : Int)) rfl rfl rfl rfl ?po14x2)) (PartOb.intro (d := (some 120)) (r := fun u _ => u = .pointer (some ⟨Q8, 0, none⟩)) rfl rfl rfl rfl ?po14x3)) (PartOb.intro (d := (some 121)) (r := fun u _ => u = .slice (some ⟨gS, 0, none⟩) S2.length cC) rfl rfl rfl rfl ?po14x4)) (PartOb.intro (d := (some 122)) (r := fun u _ => u = .pointer (some ⟨gS, 0, none⟩)) rfl rfl rfl rfl ?po14x5)) (PartOb.intro (d := (some 123)) (r := fun u _ => u = .int .i64 (R2 : Int)) rfl rfl rfl rfl ?po14x6)) (PartOb.intro (d := (some 124)) (r := fun u _ => u = .int .i64 (CN : Int)) rfl rfl rfl rfl ?po14x7)) (PartOb.intro (d := (some 12)) (r := fun u _ => u = .int .i64 (CN : Int)) rfl rfl rfl rfl ?po14x8)), ?pend14, ?pfl14⟩
                    case po14x0 =>
                      intro w1 hb1 hd KK hK
                      clear hd
                      simp only [Act.put, List.setIfInBounds_toArray, List.set_cons_zero, List.set_cons_succ] at hK
                      go_simp
                      first | exact hK.out _ _ (Below.refl _ _) rfl | (have hk := hK.out _ _ (Below.refl _ _) rfl; revert hk; go_simp)
                    case po14x1 =>
                      intro w1 hb1 hd KK hK
                      have d0 : x0 = .pointer (some ⟨Q8, 1, none⟩) := hd 0 (by kernel_rfl)
                      clear hd
                      subst d0
                      have hF := F11.out.next hb1
                      have k1 := hF.c 2 1 rfl rfl
                      simp only [Act.put, List.setIfInBounds_toArray, List.set_cons_zero, List.set_cons_succ] at hK
                      go_simp
                      first | exact hK.out _ _ (Below.refl _ _) rfl | (have hk := hK.out _ _ (Below.refl _ _) rfl; revert hk; go_simp)
                    case po14x2 =>
                      intro w1 hb1 hd KK hK
                      have d1 : x1 = .slice (some ⟨gC, 0, none⟩) CW.length dC := hd 1 (by kernel_rfl)
                      clear hd
                      subst d1
                      simp only [Act.put, List.setIfInBounds_toArray, List.set_cons_zero, List.set_cons_succ] at hK
                      go_simp
                      first | exact hK.out _ _ (Below.refl _ _) rfl | (have hk := hK.out _ _ (Below.refl _ _) rfl; revert hk; go_simp)
                    case po14x3 =>
                      intro w1 hb1 hd KK hK
                      clear hd
                      simp only [Act.put, List.setIfInBounds_toArray, List.set_cons_zero, List.set_cons_succ] at hK
                      go_simp
                      first | exact hK.out _ _ (Below.refl _ _) rfl | (have hk := hK.out _ _ (Below.refl _ _) rfl; revert hk; go_simp)
                    case po14x4 =>
                      intro w1 hb1 hd KK hK
                      have d3 : x3 = .pointer (some ⟨Q8, 0, none⟩) := hd 3 (by kernel_rfl)
                      clear hd
                      subst d3
                      have hF := F11.out.next hb1
                      have k0 := hF.c 2 0 rfl rfl
                      simp only [Act.put, List.setIfInBounds_toArray, List.set_cons_zero, List.set_cons_succ] at hK
                      go_simp
                      first | exact hK.out _ _ (Below.refl _ _) rfl | (have hk := hK.out _ _ (Below.refl _ _) rfl; revert hk; go_simp)
                    case po14x5 =>
                      intro w1 hb1 hd KK hK
                      have d4 : x4 = .slice (some ⟨gS, 0, none⟩) S2.length cC := hd 4 (by kernel_rfl)
                      clear hd
                      subst d4
                      have g9 := H2L.out
                      have g1 : (0 : Int) < (S2.length : Int) := by omega
                      have g2 : ¬ S2 = [] := by intro h; rw [h] at g9; exact absurd g9 (by simp)
                      have g3 : 0 < S2.length := by omega
                      simp only [Act.put, List.setIfInBounds_toArray, List.set_cons_zero, List.set_cons_succ] at hK
                      go_simp
                      first | exact hK.out _ _ (Below.refl _ _) rfl | (have hk := hK.out _ _ (Below.refl _ _) rfl; revert hk; go_simp)
                    case po14x6 =>
                      intro w1 hb1 hd KK hK
                      have d5 : x5 = .pointer (some ⟨gS, 0, none⟩) := hd 5 (by kernel_rfl)
                      clear hd
                      subst d5
                      have hF := F11.out.next hb1
                      have hcx := (hF.rc 2 0 rfl HS0.out).1
                      simp only [Act.put, List.setIfInBounds_toArray, List.set_cons_zero, List.set_cons_succ] at hK
                      go_simp
                      first | exact hK.out _ _ (Below.refl _ _) rfl | (have hk := hK.out _ _ (Below.refl _ _) rfl; revert hk; go_simp)
                    case po14x7 =>
                      intro w1 hb1 hd KK hK
                      have d2 : x2 = .int .i64 (CW.length : Int) := hd 2 (by kernel_rfl)
                      have d6 : x6 = .int .i64 (R2 : Int) := hd 6 (by kernel_rfl)
                      clear hd
                      subst d2
                      subst d6
                      have hb := HBB.out
                      have g0 : ¬ (R2 : Int) = 0 := by omega
                      have g1 : ¬ R2 = 0 := by omega
                      clear hb
                      have g3 : IntKind.i64.wrap (CN : Int) = (CN : Int) := IntWalk.i64_in _ (by have h := HBB.out; omega)
                      have g2 : ∀ [Inhabited Unit], Int.tdiv (CW.length : Int) (R2 : Int) = (CN : Int) := by intro _; exact HQ14.out
                      simp only [Act.put, List.setIfInBounds_toArray, List.set_cons_zero, List.set_cons_succ] at hK
                      go_simp
                      first | exact hK.out _ _ (Below.refl _ _) rfl | (have hk := hK.out _ _ (Below.refl _ _) rfl; revert hk; go_simp)
                    case po14x8 =>
                      intro w1 hb1 hd KK hK
                      have d0 : x0 = .pointer (some ⟨Q8, 1, none⟩) := hd 0 (by kernel_rfl)
                      have d1 : x1 = .slice (some ⟨gC, 0, none⟩) CW.length dC := hd 1 (by kernel_rfl)
                      have d2 : x2 = .int .i64 (CW.length : Int) := hd 2 (by kernel_rfl)
                      have d3 : x3 = .pointer (some ⟨Q8, 0, none⟩) := hd 3 (by kernel_rfl)
                      have d4 : x4 = .slice (some ⟨gS, 0, none⟩) S2.length cC := hd 4 (by kernel_rfl)
                      have d5 : x5 = .pointer (some ⟨gS, 0, none⟩) := hd 5 (by kernel_rfl)
                      have d6 : x6 = .int .i64 (R2 : Int) := hd 6 (by kernel_rfl)
                      have d7 : x7 = .int .i64 (CN : Int) := hd 7 (by kernel_rfl)
                      clear hd
                      subst d0
                      subst d1
                      subst d2
                      subst d3
                      subst d4
                      subst d5
                      subst d6
                      subst d7
                      simp only [Act.put, List.setIfInBounds_toArray, List.set_cons_zero, List.set_cons_succ] at hK
                      go_simp
                      first | exact hK.out _ _ (Below.refl _ _) rfl | (have hk := hK.out _ _ (Below.refl _ _) rfl; revert hk; go_simp)
                    case pfl14 => (intro f hf; cases hf)
                    case pend14 =>
                    intro w1 hb1 hR hD
                    have d0 : x0 = .pointer (some ⟨Q8, 1, none⟩) := hR 0 (by decide)
                    have d1 : x1 = .slice (some ⟨gC, 0, none⟩) CW.length dC := hR 1 (by decide)
                    have d2 : x2 = .int .i64 (CW.length : Int) := hR 2 (by decide)
                    have d3 : x3 = .pointer (some ⟨Q8, 0, none⟩) := hR 3 (by decide)
                    have d4 : x4 = .slice (some ⟨gS, 0, none⟩) S2.length cC := hR 4 (by decide)
                    have d5 : x5 = .pointer (some ⟨gS, 0, none⟩) := hR 5 (by decide)
                    have d6 : x6 = .int .i64 (R2 : Int) := hR 6 (by decide)
                    have d7 : x7 = .int .i64 (CN : Int) := hR 7 (by decide)
                    have d8 : x8 = .int .i64 (CN : Int) := hR 8 (by decide)
                    clear hR hD
                    subst d0
                    subst d1
                    subst d2
                    subst d3
                    subst d4
                    subst d5
                    subst d6
                    subst d7
                    subst d8
                    refine wpAny_done (by kernel_rfl) ?_ _
                    have F12 := Lib.hid (F11.out.next hb1)
                    obtain ⟨W12, rfl⟩ : ∃ x : World, x = w1 := ⟨_, rfl⟩
                    clear hb1 F11 HQ13 HQ14
                    go_wp2
                    go_loopw [13] (fun s13 wr => ∃ a9 : Nat, a9 ≤ R2 ∧ s13 = .int .i64 a9 ∧ Hid (Fr wo.heap.size wo wr [(wo.heap.size, [.slice a xs.length c, .slice b ys.length d, .slice (some ⟨gW, oW, none⟩) ws.length c2, .slice b2 vs.length dw, .slice aQ Q.length cQ, .slice aS wv.S.length cS, .slice aP wv.P.length cP, .slice aD wv.D.length cD, .slice aI I.length cI, .slice aJ J.length cJ, .int .i64 f]), (Q6, [.slice aT SH.length cT, .slice (some ⟨gT, 0, none⟩) YS.length dT]), (Q8, [.slice (some ⟨gS, 0, none⟩) S2.length cC, .slice (some ⟨gC, 0, none⟩) CW.length dC]), (Q11, [.slice (some ⟨g7, 0, none⟩) 2 2, .slice b2 vs.length dw])] [(.i64, a, xs), (.i64, b, ys), (.i64, (some ⟨gW, oW, none⟩), ws), (.i64, b2, vs), (.i64, aQ, Q), (.i64, aS, wv.S), (.i64, aP, wv.P), (.i64, aD, wv.D), (.i64, aI, I), (.i64, aJ, J)] [⟨3, .slice aT SH.length cT, SH.length, SH.map (Value.int .i64)⟩, ⟨2, .slice (some ⟨gT, 0, none⟩) YS.length dT, YS.length, YS.map (Value.int .i64)⟩, ⟨3, .slice (some ⟨gS, 0, none⟩) S2.length cC, S2.length, S2.map (Value.int .i64)⟩, ⟨2, .slice (some ⟨gC, 0, none⟩) CW.length dC, CW.length, CW.map (Value.int .i64)⟩, ⟨3, .slice (some ⟨g7, 0, none⟩) 2 2, 2, [.int .i64 (o : Int), .int .i64 (CT : Int)]⟩] [])) (fun s13 _ => R2 - (intOf s13).toNat)
                    case atStart => exact ⟨0, Nat.zero_le _, rfl, F12⟩
                    case round =>
                      obtain ⟨a9, ha9, rfl, F13⟩ := hrel
                      clear F12
                      obtain ⟨wi, rfl⟩ : ∃ x : World, x = wr := ⟨_, rfl⟩
                      by_cases hla : a9 < R2
                      · skip
                        have hai : (a9 : Int) < (R2 : Int) := by omega
                        have g9 := H2L.out
                        have g1 : (0 : Int) < (S2.length : Int) := by omega
                        have g2 : ¬ S2 = [] := by intro h; rw [h] at g9; exact absurd g9 (by simp)
                        have g3 : 0 < S2.length := by omega
                        have q0 := F13.out.c 2 0 rfl rfl
                        have hcx := (F13.out.rc 2 0 rfl HS0.out).1
                        clear g9
                        go_upto_region 18 with fail
                        clear g1 g2 g3 hcx q0 hai
                        obtain ⟨p1, p2, p3, p4, p5⟩ := HP.out a9 hla
                        obtain ⟨YC, hYC⟩ : ∃ l, cutL CW a9 CN = l := ⟨_, rfl⟩
                        obtain ⟨Y3, hY3⟩ : ∃ l, cutL YS a9 oN = l := ⟨_, rfl⟩
                        rw [hYC] at p2 p4 p5
                        rw [hY3] at p5
                        have hYCl : YC.length = CN := by rw [← hYC]; exact cutL_len HCL2.out hla
                        have hY3l : Y3.length = oN := by rw [← hY3]; exact cutL_len HYL2.out hla
                        obtain ⟨s9, hs9⟩ : ∃ z : Nat, a9 * CN = z := ⟨_, rfl⟩
                        obtain ⟨e9, he9⟩ : ∃ z : Nat, (a9 + 1) * CN = z := ⟨_, rfl⟩
                        obtain ⟨sT, hsT⟩ : ∃ z : Nat, a9 * oN = z := ⟨_, rfl⟩
                        obtain ⟨eT, heT⟩ : ∃ z : Nat, (a9 + 1) * oN = z := ⟨_, rfl⟩
                        have HSE1 := Lib.hid (show e9 = s9 + CN ∧ e9 ≤ CW.length by rw [HCL2.out, ← hs9, ← he9, Nat.succ_mul]; exact ⟨rfl, by rw [← Nat.succ_mul]; exact Nat.mul_le_mul_right _ hla⟩)
                        have HSE2 := Lib.hid (show eT = sT + oN ∧ eT ≤ YS.length by rw [HYL2.out, ← hsT, ← heT, Nat.succ_mul]; exact ⟨rfl, by rw [← Nat.succ_mul]; exact Nat.mul_le_mul_right _ hla⟩)
                        have HIC := Lib.hid (fun W (h : Ints .i64 W W.heap.size (some ⟨gC, 0, none⟩) CW) => (by have h9 := ints_cut h s9 CN; rw [Nat.zero_add, ← hs9] at h9; unfold cutL at hYC; rw [hYC, hs9] at h9; exact h9 : Ints .i64 W W.heap.size (some ⟨gC, s9, none⟩) YC))
                        have HIT := Lib.hid (fun W (h : Ints .i64 W W.heap.size (some ⟨gT, 0, none⟩) YS) => (by have h9 := ints_cut h sT oN; rw [Nat.zero_add, ← hsT] at h9; unfold cutL at hY3; rw [hY3, hsT] at h9; exact h9 : Ints .i64 W W.heap.size (some ⟨gT, sT, none⟩) Y3))
                        have HIS := Lib.hid (fun W (h : Ints .i64 W W.heap.size (some ⟨gS, 0, none⟩) S2) => (by have h9 := ints_drop h 1; rw [HSE.out] at h9; exact h9 : Ints .i64 W W.heap.size (some ⟨gS, 0 + 1, none⟩) [(CT : Int), (N2 : Int)]))
                        obtain ⟨S3, hS3⟩ : ∃ l, mulX [(o : Int), (CT : Int)] vs [(CT : Int), (N2 : Int)] YC fn = l := ⟨_, rfl⟩
                        have hmm : ∀ W, Ints .i64 W W.heap.size (some ⟨g7, 0, none⟩) [(o : Int), (CT : Int)] → Ints .i64 W W.heap.size b2 vs → Ints .i64 W W.heap.size (some ⟨gS, 0 + 1, none⟩) [(CT : Int), (N2 : Int)] → Ints .i64 W W.heap.size (some ⟨gC, s9, none⟩) YC → Calls Try.prog 23 #[.agg #[.slice (some ⟨g7, 0, none⟩) 2 2, .slice b2 vs.length dw], .agg #[.slice (some ⟨gS, 1, none⟩) 2 (cC - 1), .slice (some ⟨gC, s9, none⟩) CN (dC - s9)], .int .i64 (fn : Int)] W (RetTF W S3 Y3 0) := fun W h1 h2 h3 h4 => by
                          have h := mul_good (some ⟨g7, 0, none⟩) b2 (some ⟨gS, 0 + 1, none⟩) (some ⟨gC, s9, none⟩) 2 dw (cC - 1) (dC - s9) fn [(o : Int), (CT : Int)] vs [(CT : Int), (N2 : Int)] YC W h1 h2 h3 h4 p1 p2 (by have := HFB.out; omega) (by have := HFB.out; omega) (by simp) (by have := HKS.out; simp; omega) (by decide) (by have := HKS.out; omega) HC4.out.1 (by have h8 := HSE1.out; have h9 := HKC.out; omega) HC4.out.2 (by have := HKC.out; omega) p3
                          rw [p4, p5, hS3, hYCl] at h
                          exact h.mono fun e w9 hr => retTen_fr hr
                        have HMM := Lib.hid hmm
                        have HLA := Lib.hid hla
                        have HS9 := Lib.hid hs9
                        have HE9 := Lib.hid he9
                        have HST := Lib.hid hsT
                        have HET := Lib.hid heT
                        have HY3l := Lib.hid hY3l
                        have HY3 := Lib.hid hY3
                        clear hmm p1 p2 p3 p4 p5 hYC hY3 hYCl hY3l hs9 he9 hsT heT hS3
                        have HWR := Lib.hid (show ∀ x ∈ [(o : Int), (CT : Int)], (Lit.int .i64 x).wf = true from fun x hx => by have h := HBB.out; simp at hx; rcases hx with rfl | rfl <;> exact wf_i64_iff.2 ⟨by omega, by omega⟩)
                        go_cut [14, 15] from 125 to 179 (fun s14 s15 wx => ∃ Q14 a14 c14 b14 k14, s14 = .pointer (some ⟨Q14, 0, none⟩) ∧ s15 = .int .i64 0 ∧ Hid (Fr wo.heap.size wo wx [(wo.heap.size, [.slice a xs.length c, .slice b ys.length d, .slice (some ⟨gW, oW, none⟩) ws.length c2, .slice b2 vs.length dw, .slice aQ Q.length cQ, .slice aS wv.S.length cS, .slice aP wv.P.length cP, .slice aD wv.D.length cD, .slice aI I.length cI, .slice aJ J.length cJ, .int .i64 f]), (Q6, [.slice aT SH.length cT, .slice (some ⟨gT, 0, none⟩) YS.length dT]), (Q8, [.slice (some ⟨gS, 0, none⟩) S2.length cC, .slice (some ⟨gC, 0, none⟩) CW.length dC]), (Q11, [.slice (some ⟨g7, 0, none⟩) 2 2, .slice b2 vs.length dw]), (Q14, [.slice a14 S3.length c14, .slice b14 Y3.length k14])] [(.i64, a, xs), (.i64, b, ys), (.i64, (some ⟨gW, oW, none⟩), ws), (.i64, b2, vs), (.i64, aQ, Q), (.i64, aS, wv.S), (.i64, aP, wv.P), (.i64, aD, wv.D), (.i64, aI, I), (.i64, aJ, J)] [⟨3, .slice aT SH.length cT, SH.length, SH.map (Value.int .i64)⟩, ⟨2, .slice (some ⟨gT, 0, none⟩) YS.length dT, YS.length, YS.map (Value.int .i64)⟩, ⟨3, .slice (some ⟨gS, 0, none⟩) S2.length cC, S2.length, S2.map (Value.int .i64)⟩, ⟨2, .slice (some ⟨gC, 0, none⟩) CW.length dC, CW.length, CW.map (Value.int .i64)⟩, ⟨3, .slice (some ⟨g7, 0, none⟩) 2 2, 2, [.int .i64 (o : Int), .int .i64 (CT : Int)]⟩, ⟨3, .slice a14 S3.length c14, S3.length, S3.map (Value.int .i64)⟩, ⟨2, .slice b14 Y3.length k14, Y3.length, Y3.map (Value.int .i64)⟩] []))
                        case first => as_aux_lemma =>
                          have FD := F13.out.drew
                          refine wp_region_J (S := fun _ => True) (S1 := fun W9 => W9.cell? ⟨Q11, 0, none⟩ = some (.slice (some ⟨g7, 0, none⟩) 2 2) ∧ W9.cell? ⟨Q11, 1, none⟩ = some (.slice b2 vs.length dw) ∧ W9.cell? ⟨Q8, 0, none⟩ = some (.slice (some ⟨gS, 0, none⟩) S2.length cC) ∧ W9.cell? ⟨Q8, 1, none⟩ = some (.slice (some ⟨gC, 0, none⟩) CW.length dC)) (L := [0, 1, 2, 3, 4, 5, 6, 7, 8, 9, 10, 11, 12, 13, 14, 15, 16, 17, 18, 19, 20, 21, 22]) (by kernel_rfl) trivial ⟨FD.c 3 0 rfl rfl, FD.c 3 1 rfl rfl, FD.c 2 0 rfl rfl, FD.c 2 1 rfl rfl⟩ (fun hHeld hHeld1 => ?_)
                          obtain ⟨v0, hv0⟩ : ∃ x, wi.drew = x := ⟨_, rfl⟩
                          rw [hv0] at FD hHeld1 ⊢
                          clear hv0
                          refine takeJ1 (i := 0) (dst := (some 134)) (v := .agg #[.slice (some ⟨g7, 0, none⟩) 2 2, .slice b2 vs.length dw]) rfl rfl (by kernel_rfl) (by kernel_rfl) (by kernel_rfl) (by kernel_rfl) (fun _ _ _ h => h) (by rfl) ?hyj18mn1 hHeld1 ?restj18mn1
                          case hyj18mn1 =>
                            intro W hSw
                            obtain ⟨s0, s1, s2, s3⟩ := hSw
                            go_simp
                            (try with_reducible rfl)
                          try simp only [Act.put, List.setIfInBounds_toArray, List.set_cons_zero, List.set_cons_succ]
                          refine takeJ1 (i := 1) (dst := (some 135)) (v := .pointer (some ⟨Q8, 0, none⟩)) rfl rfl (by kernel_rfl) (by kernel_rfl) (by kernel_rfl) (by kernel_rfl) (fun _ _ _ h => h) (by rfl) ?hyj18mn2 hHeld1 ?restj18mn2
                          case hyj18mn2 =>
                            intro W hSw
                            go_simp
                            (try with_reducible rfl)
                          try simp only [Act.put, List.setIfInBounds_toArray, List.set_cons_zero, List.set_cons_succ]
                          refine takeJ1 (i := 2) (dst := (some 136)) (v := .slice (some ⟨gS, 0, none⟩) S2.length cC) rfl rfl (by kernel_rfl) (by kernel_rfl) (by kernel_rfl) (by kernel_rfl) (fun _ _ _ h => h) (by rfl) ?hyj18mn3 hHeld1 ?restj18mn3
                          case hyj18mn3 =>
                            intro W hSw
                            obtain ⟨s0, s1, s2, s3⟩ := hSw
                            go_simp
                            (try with_reducible rfl)
                          try simp only [Act.put, List.setIfInBounds_toArray, List.set_cons_zero, List.set_cons_succ]
                          refine takeJ1 (i := 3) (dst := (some 137)) (v := .slice (some ⟨gS, 1, none⟩) 2 (cC - 1)) rfl rfl (by kernel_rfl) (by kernel_rfl) (by kernel_rfl) (by kernel_rfl) (fun _ _ _ h => h) (by rfl) ?hyj18mn4 hHeld1 ?restj18mn4
                          case hyj18mn4 =>
                            intro W hSw
                            have h1 := H2L.out
                            have h2 := HKS.out
                            have g1 : (1 : Int) ≤ (S2.length : Int) := by omega
                            have g2 : (S2.length : Int) ≤ (cC : Int) := by omega
                            have g3 : ¬ cC = 1 := by omega
                            have g4 : S2.length - 1 = 2 := by omega
                            clear h1 h2
                            go_simp
                            (try with_reducible rfl)
                          try simp only [Act.put, List.setIfInBounds_toArray, List.set_cons_zero, List.set_cons_succ]
                          refine takeJ1 (i := 4) (dst := (some 138)) (v := .pointer (some ⟨Q8, 1, none⟩)) rfl rfl (by kernel_rfl) (by kernel_rfl) (by kernel_rfl) (by kernel_rfl) (fun _ _ _ h => h) (by rfl) ?hyj18mn5 hHeld1 ?restj18mn5
                          case hyj18mn5 =>
                            intro W hSw
                            go_simp
                            (try with_reducible rfl)
                          try simp only [Act.put, List.setIfInBounds_toArray, List.set_cons_zero, List.set_cons_succ]
                          refine takeJ1 (i := 5) (dst := (some 139)) (v := .slice (some ⟨gC, 0, none⟩) CW.length dC) rfl rfl (by kernel_rfl) (by kernel_rfl) (by kernel_rfl) (by kernel_rfl) (fun _ _ _ h => h) (by rfl) ?hyj18mn6 hHeld1 ?restj18mn6
                          case hyj18mn6 =>
                            intro W hSw
                            obtain ⟨s0, s1, s2, s3⟩ := hSw
                            go_simp
                            (try with_reducible rfl)
                          try simp only [Act.put, List.setIfInBounds_toArray, List.set_cons_zero, List.set_cons_succ]
                          refine takeJ1 (i := 6) (dst := (some 140)) (v := .int .i64 (a9 : Int)) rfl rfl (by kernel_rfl) (by kernel_rfl) (by kernel_rfl) (by kernel_rfl) (fun _ _ _ h => h) (by rfl) ?hyj18mn7 hHeld1 ?restj18mn7
                          case hyj18mn7 =>
                            intro W hSw
                            go_simp
                            (try with_reducible rfl)
                          try simp only [Act.put, List.setIfInBounds_toArray, List.set_cons_zero, List.set_cons_succ]
                          refine takeJ1 (i := 7) (dst := (some 141)) (v := .int .i64 (CN : Int)) rfl rfl (by kernel_rfl) (by kernel_rfl) (by kernel_rfl) (by kernel_rfl) (fun _ _ _ h => h) (by rfl) ?hyj18mn8 hHeld1 ?restj18mn8
                          case hyj18mn8 =>
                            intro W hSw
                            go_simp
                            (try with_reducible rfl)
                          try simp only [Act.put, List.setIfInBounds_toArray, List.set_cons_zero, List.set_cons_succ]
                          refine takeJ1 (i := 8) (dst := (some 142)) (v := .int .i64 (s9 : Int)) rfl rfl (by kernel_rfl) (by kernel_rfl) (by kernel_rfl) (by kernel_rfl) (fun _ _ _ h => h) (by rfl) ?hyj18mn9 hHeld1 ?restj18mn9
                          case hyj18mn9 =>
                            intro W hSw
                            have g2 : ∀ [Inhabited Unit], IntKind.i64.wrap ((a9 : Int) * (CN : Int)) = (s9 : Int) := by intro _; rw [← Int.natCast_mul, HS9.out]; exact IntWalk.i64_in _ (by have h := HSE1.out; have h2 := HBB.out; omega)
                            go_simp
                            (try with_reducible rfl)
                          try simp only [Act.put, List.setIfInBounds_toArray, List.set_cons_zero, List.set_cons_succ]
                          refine takeJ1 (i := 9) (dst := (some 143)) (v := .int .i64 (a9 : Int)) rfl rfl (by kernel_rfl) (by kernel_rfl) (by kernel_rfl) (by kernel_rfl) (fun _ _ _ h => h) (by rfl) ?hyj18mn10 hHeld1 ?restj18mn10
                          case hyj18mn10 =>
                            intro W hSw
                            go_simp
                            (try with_reducible rfl)
                          try simp only [Act.put, List.setIfInBounds_toArray, List.set_cons_zero, List.set_cons_succ]
                          refine takeJ1 (i := 10) (dst := (some 144)) (v := .int .i64 (a9 + 1 : Nat)) rfl rfl (by kernel_rfl) (by kernel_rfl) (by kernel_rfl) (by kernel_rfl) (fun _ _ _ h => h) (by rfl) ?hyj18mn11 hHeld1 ?restj18mn11
                          case hyj18mn11 =>
                            intro W hSw
                            have g2 : ∀ [Inhabited Unit], IntKind.i64.wrap ((a9 : Int) + 1) = ((a9 + 1 : Nat) : Int) := by intro _; rw [Int.natCast_add]; exact IntWalk.i64_in _ (by have h := HBB.out; have h2 := HLA.out; omega)
                            go_simp
                            (try with_reducible rfl)
                          try simp only [Act.put, List.setIfInBounds_toArray, List.set_cons_zero, List.set_cons_succ]
                          refine takeJ1 (i := 11) (dst := (some 145)) (v := .int .i64 (CN : Int)) rfl rfl (by kernel_rfl) (by kernel_rfl) (by kernel_rfl) (by kernel_rfl) (fun _ _ _ h => h) (by rfl) ?hyj18mn12 hHeld1 ?restj18mn12
                          case hyj18mn12 =>
                            intro W hSw
                            go_simp
                            (try with_reducible rfl)
                          try simp only [Act.put, List.setIfInBounds_toArray, List.set_cons_zero, List.set_cons_succ]
                          refine takeJ1 (i := 12) (dst := (some 146)) (v := .int .i64 (e9 : Int)) rfl rfl (by kernel_rfl) (by kernel_rfl) (by kernel_rfl) (by kernel_rfl) (fun _ _ _ h => h) (by rfl) ?hyj18mn13 hHeld1 ?restj18mn13
                          case hyj18mn13 =>
                            intro W hSw
                            have g2 : ∀ [Inhabited Unit], IntKind.i64.wrap (((a9 : Int) + 1) * (CN : Int)) = (e9 : Int) := by intro _; rw [show ((a9 : Int) + 1) = ((a9 + 1 : Nat) : Int) from rfl, ← Int.natCast_mul, HE9.out]; exact IntWalk.i64_in _ (by have h := HSE1.out; have h2 := HBB.out; omega)
                            go_simp
                            (try with_reducible rfl)
                          try simp only [Act.put, List.setIfInBounds_toArray, List.set_cons_zero, List.set_cons_succ]
                          refine takeJ1 (i := 13) (dst := (some 147)) (v := .slice (some ⟨gC, s9, none⟩) CN (dC - s9)) rfl rfl (by kernel_rfl) (by kernel_rfl) (by kernel_rfl) (by kernel_rfl) (fun _ _ _ h => h) (by rfl) ?hyj18mn14 hHeld1 ?restj18mn14
                          case hyj18mn14 =>
                            intro W hSw
                            have h1 := HSE1.out
                            have h2 := HKC.out
                            have h3 := HBB.out
                            have g1 : (s9 : Int) ≤ (e9 : Int) := by omega
                            have g2 : (e9 : Int) ≤ (dC : Int) := by omega
                            have g3 : ¬ dC = s9 := by omega
                            have g4 : e9 - s9 = CN := by omega
                            clear h1 h2 h3
                            go_simp
                            (try with_reducible rfl)
                          try simp only [Act.put, List.setIfInBounds_toArray, List.set_cons_zero, List.set_cons_succ]
                          refine takeJ1 (i := 14) (dst := (some 148)) (v := .agg #[.slice (some ⟨gS, 1, none⟩) 2 (cC - 1), .slice (some ⟨gC, s9, none⟩) CN (dC - s9)]) rfl rfl (by kernel_rfl) (by kernel_rfl) (by kernel_rfl) (by kernel_rfl) (fun _ _ _ h => h) (by rfl) ?hyj18mn15 hHeld1 ?restj18mn15
                          case hyj18mn15 =>
                            intro W hSw
                            go_simp
                            (try with_reducible rfl)
                          try simp only [Act.put, List.setIfInBounds_toArray, List.set_cons_zero, List.set_cons_succ]
                          refine takeJ1 (i := 15) (dst := (some 149)) (v := .int .i64 (fn : Int)) rfl rfl (by kernel_rfl) (by kernel_rfl) (by kernel_rfl) (by kernel_rfl) (fun _ _ _ h => h) (by rfl) ?hyj18mn16 hHeld1 ?restj18mn16
                          case hyj18mn16 =>
                            intro W hSw
                            go_simp
                            (try with_reducible rfl)
                          try simp only [Act.put, List.setIfInBounds_toArray, List.set_cons_zero, List.set_cons_succ]
                          refine readyJ (rs := [16, 20]) (by kernel_rfl) (by simp) ?_
                          refine (AllJ.cons rfl ?op16zm11 (AllJ.cons rfl ?op20zm11 AllJ.nil))
                          case op16zm11 =>
                            intro K hK
                            go_simp
                            go_at_call 23
                            refine (HMM.out v0 (FD.li 4 (k := .i64) (xs := [(o : Int), (CT : Int)]) rfl HWR.out) (FD.lw 3 rfl) (HIS.out _ (FD.li 2 (k := .i64) (xs := S2) rfl HWF2.out)) (HIC.out _ (FD.li 3 (k := .i64) (xs := CW) rfl HWF4.out))).mono ?_
                            rintro e v0x16 ⟨a14, c14, b14, k14, rfl, hf⟩
                            have G0x16 := FD.join hf
                            simp only [List.nil_append, List.cons_append] at G0x16
                            clear hf
                            refine hK.out _ _ (fun _ => trivial) ⟨G0x16.c 3 0 rfl rfl, G0x16.c 3 1 rfl rfl, G0x16.c 2 0 rfl rfl, G0x16.c 2 1 rfl rfl⟩ (fun hHeld hHeld1 => ?_)
                            clear hK K
                            try simp only [Act.put, List.setIfInBounds_toArray, List.set_cons_zero, List.set_cons_succ]
                            refine takeJ1 (i := 17) (dst := (some 133)) (v := .tuple #[.agg #[.slice a14 S3.length c14, .slice b14 Y3.length k14], .int .i64 0]) rfl rfl (by kernel_rfl) (by kernel_rfl) (by kernel_rfl) (by kernel_rfl) (fun _ _ _ h => h) (by rfl) ?hyj18mn17 hHeld1 ?restj18mn17
                            case hyj18mn17 =>
                              intro W hSw
                              go_simp
                              (try with_reducible rfl)
                            try simp only [Act.put, List.setIfInBounds_toArray, List.set_cons_zero, List.set_cons_succ]
                            refine takeJ1 (i := 18) (dst := (some 151)) (v := .agg #[.slice a14 S3.length c14, .slice b14 Y3.length k14]) rfl rfl (by kernel_rfl) (by kernel_rfl) (by kernel_rfl) (by kernel_rfl) (fun _ _ _ h => h) (by rfl) ?hyj18mn18 hHeld1 ?restj18mn18
                            case hyj18mn18 =>
                              intro W hSw
                              go_simp
                              (try with_reducible rfl)
                            try simp only [Act.put, List.setIfInBounds_toArray, List.set_cons_zero, List.set_cons_succ]
                            refine takeJ1 (i := 19) (dst := (some 152)) (v := .int .i64 0) rfl rfl (by kernel_rfl) (by kernel_rfl) (by kernel_rfl) (by kernel_rfl) (fun _ _ _ h => h) (by rfl) ?hyj18mn19 hHeld1 ?restj18mn19
                            case hyj18mn19 =>
                              intro W hSw
                              go_simp
                              (try with_reducible rfl)
                            try simp only [Act.put, List.setIfInBounds_toArray, List.set_cons_zero, List.set_cons_succ]
                            refine readyJ (rs := [20]) (by kernel_rfl) (by simp) ?_
                            refine (AllJ.cons rfl ?op20zm12 AllJ.nil)
                            case op20zm12 =>
                              intro K hK
                              go_simp
                              obtain ⟨Q14, hQ14⟩ : ∃ y, v0x16.heap.size = y := ⟨_, rfl⟩
                              rw [hQ14]
                              have G4x20 := G0x16.box1 hQ14 [.slice none 0 0, .slice none 0 0] 26
                              simp only [List.cons_append, List.nil_append] at G4x20
                              obtain ⟨v4x20, h9_⟩ : ∃ zz, (v0x16.alloc (.cells #[.slice none 0 0, .slice none 0 0] 26)) = zz := ⟨_, rfl⟩
                              rw [h9_] at G4x20 ⊢
                              clear h9_ hQ14
                              refine hK.out _ _ (fun _ => trivial) ⟨G4x20.c 3 0 rfl rfl, G4x20.c 3 1 rfl rfl, G4x20.c 2 0 rfl rfl, G4x20.c 2 1 rfl rfl⟩ (fun hHeld hHeld1 => ?_)
                              clear hK K
                              try simp only [Act.put, List.setIfInBounds_toArray, List.set_cons_zero, List.set_cons_succ]
                              refine readyJ (rs := [21]) (by kernel_rfl) (by simp) ?_
                              refine (AllJ.cons rfl ?op21zm13 AllJ.nil)
                              case op21zm13 =>
                                intro K hK
                                have k0 := G4x20.c 4 0 rfl rfl
                                have kf0 := G4x20.f 4 0 rfl rfl
                                have k1 := G4x20.c 4 1 rfl rfl
                                have kf1 := G4x20.f 4 1 rfl rfl
                                go_simp
                                have G5x21 := G4x20.set 4 rfl (by simp) [.slice a14 S3.length c14, .slice b14 Y3.length k14] rfl
                                simp only [setL, Nat.reduceAdd, List.set_cons_zero, List.set_cons_succ] at G5x21
                                clear k0 kf0 k1 kf1
                                refine hK.out _ _ (fun _ => trivial) ⟨G5x21.c 3 0 rfl rfl, G5x21.c 3 1 rfl rfl, G5x21.c 2 0 rfl rfl, G5x21.c 2 1 rfl rfl⟩ (fun hHeld hHeld1 => ?_)
                                clear hK K
                                try simp only [Act.put, List.setIfInBounds_toArray, List.set_cons_zero, List.set_cons_succ]
                                refine takeJ1 (i := 22) (dst := (some 15)) (v := .int .i64 0) rfl rfl (by kernel_rfl) (by kernel_rfl) (by kernel_rfl) (by kernel_rfl) (fun _ _ _ h => h) (by rfl) ?hyj18mn20 hHeld1 ?restj18mn20
                                case hyj18mn20 =>
                                  intro W hSw
                                  go_simp
                                  (try with_reducible rfl)
                                try simp only [Act.put, List.setIfInBounds_toArray, List.set_cons_zero, List.set_cons_succ]
                                refine doneJ (by kernel_rfl) ?_
                                (try dsimp only)
                                go_wp2
                                go_meet
                                exact ⟨Q14, a14, c14, b14, k14, rfl, rfl, Lib.hid G5x21⟩
                          case op20zm11 =>
                            intro K hK
                            go_simp
                            obtain ⟨Q14, hQ14⟩ : ∃ y, v0.heap.size = y := ⟨_, rfl⟩
                            rw [hQ14]
                            have G0x20 := FD.box1 hQ14 [.slice none 0 0, .slice none 0 0] 26
                            simp only [List.cons_append, List.nil_append] at G0x20
                            obtain ⟨v0x20, h9_⟩ : ∃ zz, (v0.alloc (.cells #[.slice none 0 0, .slice none 0 0] 26)) = zz := ⟨_, rfl⟩
                            rw [h9_] at G0x20 ⊢
                            clear h9_ hQ14
                            refine hK.out _ _ (fun _ => trivial) ⟨G0x20.c 3 0 rfl rfl, G0x20.c 3 1 rfl rfl, G0x20.c 2 0 rfl rfl, G0x20.c 2 1 rfl rfl⟩ (fun hHeld hHeld1 => ?_)
                            clear hK K
                            try simp only [Act.put, List.setIfInBounds_toArray, List.set_cons_zero, List.set_cons_succ]
                            refine readyJ (rs := [16]) (by kernel_rfl) (by simp) ?_
                            refine (AllJ.cons rfl ?op16zm14 AllJ.nil)
                            case op16zm14 =>
                              intro K hK
                              go_simp
                              go_at_call 23
                              refine (HMM.out v0x20 (G0x20.li 4 (k := .i64) (xs := [(o : Int), (CT : Int)]) rfl HWR.out) (G0x20.lw 3 rfl) (HIS.out _ (G0x20.li 2 (k := .i64) (xs := S2) rfl HWF2.out)) (HIC.out _ (G0x20.li 3 (k := .i64) (xs := CW) rfl HWF4.out))).mono ?_
                              rintro e v1x16 ⟨a14, c14, b14, k14, rfl, hf⟩
                              have G1x16 := G0x20.join hf
                              simp only [List.nil_append, List.cons_append] at G1x16
                              clear hf
                              refine hK.out _ _ (fun _ => trivial) ⟨G1x16.c 3 0 rfl rfl, G1x16.c 3 1 rfl rfl, G1x16.c 2 0 rfl rfl, G1x16.c 2 1 rfl rfl⟩ (fun hHeld hHeld1 => ?_)
                              clear hK K
                              try simp only [Act.put, List.setIfInBounds_toArray, List.set_cons_zero, List.set_cons_succ]
                              refine takeJ1 (i := 17) (dst := (some 133)) (v := .tuple #[.agg #[.slice a14 S3.length c14, .slice b14 Y3.length k14], .int .i64 0]) rfl rfl (by kernel_rfl) (by kernel_rfl) (by kernel_rfl) (by kernel_rfl) (fun _ _ _ h => h) (by rfl) ?hyj18mn21 hHeld1 ?restj18mn21
                              case hyj18mn21 =>
                                intro W hSw
                                go_simp
                                (try with_reducible rfl)
                              try simp only [Act.put, List.setIfInBounds_toArray, List.set_cons_zero, List.set_cons_succ]
                              refine takeJ1 (i := 18) (dst := (some 151)) (v := .agg #[.slice a14 S3.length c14, .slice b14 Y3.length k14]) rfl rfl (by kernel_rfl) (by kernel_rfl) (by kernel_rfl) (by kernel_rfl) (fun _ _ _ h => h) (by rfl) ?hyj18mn22 hHeld1 ?restj18mn22
                              case hyj18mn22 =>
                                intro W hSw
                                go_simp
                                (try with_reducible rfl)
                              try simp only [Act.put, List.setIfInBounds_toArray, List.set_cons_zero, List.set_cons_succ]
                              refine takeJ1 (i := 19) (dst := (some 152)) (v := .int .i64 0) rfl rfl (by kernel_rfl) (by kernel_rfl) (by kernel_rfl) (by kernel_rfl) (fun _ _ _ h => h) (by rfl) ?hyj18mn23 hHeld1 ?restj18mn23
                              case hyj18mn23 =>
                                intro W hSw
                                go_simp
                                (try with_reducible rfl)
                              try simp only [Act.put, List.setIfInBounds_toArray, List.set_cons_zero, List.set_cons_succ]
                              refine readyJ (rs := [21]) (by kernel_rfl) (by simp) ?_
                              refine (AllJ.cons rfl ?op21zm15 AllJ.nil)
                              case op21zm15 =>
                                intro K hK
                                have k0 := G1x16.c 4 0 rfl rfl
                                have kf0 := G1x16.f 4 0 rfl rfl
                                have k1 := G1x16.c 4 1 rfl rfl
                                have kf1 := G1x16.f 4 1 rfl rfl
                                go_simp
                                have G5x21 := G1x16.set 4 rfl (by simp) [.slice a14 S3.length c14, .slice b14 Y3.length k14] rfl
                                simp only [setL, Nat.reduceAdd, List.set_cons_zero, List.set_cons_succ] at G5x21
                                clear k0 kf0 k1 kf1
                                refine hK.out _ _ (fun _ => trivial) ⟨G5x21.c 3 0 rfl rfl, G5x21.c 3 1 rfl rfl, G5x21.c 2 0 rfl rfl, G5x21.c 2 1 rfl rfl⟩ (fun hHeld hHeld1 => ?_)
                                clear hK K
                                try simp only [Act.put, List.setIfInBounds_toArray, List.set_cons_zero, List.set_cons_succ]
                                refine takeJ1 (i := 22) (dst := (some 15)) (v := .int .i64 0) rfl rfl (by kernel_rfl) (by kernel_rfl) (by kernel_rfl) (by kernel_rfl) (fun _ _ _ h => h) (by rfl) ?hyj18mn24 hHeld1 ?restj18mn24
                                case hyj18mn24 =>
                                  intro W hSw
                                  go_simp
                                  (try with_reducible rfl)
                                try simp only [Act.put, List.setIfInBounds_toArray, List.set_cons_zero, List.set_cons_succ]
                                refine doneJ (by kernel_rfl) ?_
                                (try dsimp only)
                                go_wp2
                                go_meet
                                exact ⟨Q14, a14, c14, b14, k14, rfl, rfl, Lib.hid G5x21⟩
                        case rest =>
                          obtain ⟨Q14, a14, c14, b14, k14, rfl, rfl, F14⟩ := hcut
                          clear F13 HMM HIC
                          obtain ⟨W14, rfl⟩ : ∃ x : World, x = wc := ⟨_, rfl⟩
                          go_upto_region 19 with fail
                          refine wp_region_parts2 (w := W14) 9 0 none [] [(fun u _ => u = .pointer (some ⟨Q6, 1, none⟩)), (fun u _ => u = .slice (some ⟨gT, 0, none⟩) YS.length dT), (fun u _ => u = .int .i64 (YS.length : Int)), (fun u _ => u = .pointer (some ⟨Q8, 0, none⟩)), (fun u _ => u = .slice (some ⟨gS, 0, none⟩) S2.length cC), (fun u _ => u = .pointer (some ⟨gS, 0, none⟩)), (fun u _ => u = .int .i64 (R2 : Int)), (fun u _ => u = .int .i64 (oN : Int)), (fun u _ => u = .int .i64 (oN : Int))] [some 153, some 154, some 155, some 156, some 157, some 158, some 159, some 160, some 16] #[true, true, true, true, true, true, true, true, true] #[true, true, true, true, true, true, true, true, true] (by kernel_rfl) rfl (by kernel_rfl) (by kernel_rfl) rfl (by kernel_rfl) (by kernel_rfl) (.cons (carries_eq _) (.cons (carries_eq _) (.cons (carries_eq _) (.cons (carries_eq _) (.cons (carries_eq _) (.cons (carries_eq _) (.cons (carries_eq _) (.cons (carries_eq _) (.cons (carries_eq _) .nil))))))))) (fun vs b hvl hvb => ?_)
                          obtain ⟨x0, x1, x2, x3, x4, x5, x6, x7, x8, rfl⟩ : ∃ x0 x1 x2 x3 x4 x5 x6 x7 x8, vs = [x0, x1, x2, x3, x4, x5, x6, x7, x8] := lw9 hvl
                          clear hvl
                          simp only [putAll, Act.put, List.setIfInBounds_toArray, List.set_cons_zero, List.set_cons_succ] at hvb
                          subst hvb
                          refine ⟨(.snoc (.snoc (.snoc (.snoc (.snoc (.snoc (.snoc (.snoc (.snoc .zero (PartOb.intro (d := (some 153)) (r := fun u _ => u = .pointer (some ⟨Q6, 1, none⟩)) rfl rfl rfl rfl ?po19x0)) (PartOb.intro (d := (some 154)) (r := fun u _ => u = .slice (some ⟨gT, 0, none⟩) YS.length dT) rfl rfl rfl rfl ?po19x1)) (PartOb.intro (d := (some 155)) (r := fun u _ => u = .int .i64 (YS.length : Int)) rfl rfl rfl rfl ?po19x2)) (PartOb.intro (d := (some 156)) (r := fun u _ => u = .pointer (some ⟨Q8, 0, none⟩)) rfl rfl rfl rfl ?po19x3)) (PartOb.intro (d := (some 157)) (r := fun u _ => u = .slice (some ⟨gS, 0, none⟩) S2.length cC) rfl rfl rfl rfl ?po19x4)) (PartOb.intro (d := (some 158)) (r := fun u _ => u = .pointer (some ⟨gS, 0, none⟩)) rfl rfl rfl rfl ?po19x5)) (PartOb.intro (d := (some 159)) (r := fun u _ => u = .int .i64 (R2 : Int)) rfl rfl rfl rfl ?po19x6)) (PartOb.intro (d := (some 160)) (r := fun u _ => u = .int .i64 (oN : Int)) rfl rfl rfl rfl ?po19x7)) (PartOb.intro (d := (some 16)) (r := fun u _ => u = .int .i64 (oN : Int)) rfl rfl rfl rfl ?po19x8)), ?pend19, ?pfl19⟩
                          case po19x0 =>
                            intro w1 hb1 hd KK hK
                            clear hd
                            simp only [Act.put, List.setIfInBounds_toArray, List.set_cons_zero, List.set_cons_succ] at hK
                            go_simp
                            first | exact hK.out _ _ (Below.refl _ _) rfl | (have hk := hK.out _ _ (Below.refl _ _) rfl; revert hk; go_simp)
                          case po19x1 =>
                            intro w1 hb1 hd KK hK
                            have d0 : x0 = .pointer (some ⟨Q6, 1, none⟩) := hd 0 (by kernel_rfl)
                            clear hd
                            subst d0
                            have hF := F14.out.next hb1
                            have k1 := hF.c 1 1 rfl rfl
                            simp only [Act.put, List.setIfInBounds_toArray, List.set_cons_zero, List.set_cons_succ] at hK
                            go_simp
                            first | exact hK.out _ _ (Below.refl _ _) rfl | (have hk := hK.out _ _ (Below.refl _ _) rfl; revert hk; go_simp)
                          case po19x2 =>
                            intro w1 hb1 hd KK hK
                            have d1 : x1 = .slice (some ⟨gT, 0, none⟩) YS.length dT := hd 1 (by kernel_rfl)
                            clear hd
                            subst d1
                            simp only [Act.put, List.setIfInBounds_toArray, List.set_cons_zero, List.set_cons_succ] at hK
                            go_simp
                            first | exact hK.out _ _ (Below.refl _ _) rfl | (have hk := hK.out _ _ (Below.refl _ _) rfl; revert hk; go_simp)
                          case po19x3 =>
                            intro w1 hb1 hd KK hK
                            clear hd
                            simp only [Act.put, List.setIfInBounds_toArray, List.set_cons_zero, List.set_cons_succ] at hK
                            go_simp
                            first | exact hK.out _ _ (Below.refl _ _) rfl | (have hk := hK.out _ _ (Below.refl _ _) rfl; revert hk; go_simp)
                          case po19x4 =>
                            intro w1 hb1 hd KK hK
                            have d3 : x3 = .pointer (some ⟨Q8, 0, none⟩) := hd 3 (by kernel_rfl)
                            clear hd
                            subst d3
                            have hF := F14.out.next hb1
                            have k0 := hF.c 2 0 rfl rfl
                            simp only [Act.put, List.setIfInBounds_toArray, List.set_cons_zero, List.set_cons_succ] at hK
                            go_simp
                            first | exact hK.out _ _ (Below.refl _ _) rfl | (have hk := hK.out _ _ (Below.refl _ _) rfl; revert hk; go_simp)
                          case po19x5 =>
                            intro w1 hb1 hd KK hK
                            have d4 : x4 = .slice (some ⟨gS, 0, none⟩) S2.length cC := hd 4 (by kernel_rfl)
                            clear hd
                            subst d4
                            have g9 := H2L.out
                            have g1 : (0 : Int) < (S2.length : Int) := by omega
                            have g2 : ¬ S2 = [] := by intro h; rw [h] at g9; exact absurd g9 (by simp)
                            have g3 : 0 < S2.length := by omega
                            simp only [Act.put, List.setIfInBounds_toArray, List.set_cons_zero, List.set_cons_succ] at hK
                            go_simp
                            first | exact hK.out _ _ (Below.refl _ _) rfl | (have hk := hK.out _ _ (Below.refl _ _) rfl; revert hk; go_simp)
                          case po19x6 =>
                            intro w1 hb1 hd KK hK
                            have d5 : x5 = .pointer (some ⟨gS, 0, none⟩) := hd 5 (by kernel_rfl)
                            clear hd
                            subst d5
                            have hF := F14.out.next hb1
                            have hcx := (hF.rc 2 0 rfl HS0.out).1
                            simp only [Act.put, List.setIfInBounds_toArray, List.set_cons_zero, List.set_cons_succ] at hK
                            go_simp
                            first | exact hK.out _ _ (Below.refl _ _) rfl | (have hk := hK.out _ _ (Below.refl _ _) rfl; revert hk; go_simp)
                          case po19x7 =>
                            intro w1 hb1 hd KK hK
                            have d2 : x2 = .int .i64 (YS.length : Int) := hd 2 (by kernel_rfl)
                            have d6 : x6 = .int .i64 (R2 : Int) := hd 6 (by kernel_rfl)
                            clear hd
                            subst d2
                            subst d6
                            have hb := HBB.out
                            have g0 : ¬ (R2 : Int) = 0 := by omega
                            have g1 : ¬ R2 = 0 := by omega
                            clear hb
                            have g3 : IntKind.i64.wrap (oN : Int) = (oN : Int) := IntWalk.i64_in _ (by have h := HBB.out; omega)
                            have g2 : ∀ [Inhabited Unit], Int.tdiv (YS.length : Int) (R2 : Int) = (oN : Int) := by intro _; exact HQ19.out
                            simp only [Act.put, List.setIfInBounds_toArray, List.set_cons_zero, List.set_cons_succ] at hK
                            go_simp
                            first | exact hK.out _ _ (Below.refl _ _) rfl | (have hk := hK.out _ _ (Below.refl _ _) rfl; revert hk; go_simp)
                          case po19x8 =>
                            intro w1 hb1 hd KK hK
                            have d0 : x0 = .pointer (some ⟨Q6, 1, none⟩) := hd 0 (by kernel_rfl)
                            have d1 : x1 = .slice (some ⟨gT, 0, none⟩) YS.length dT := hd 1 (by kernel_rfl)
                            have d2 : x2 = .int .i64 (YS.length : Int) := hd 2 (by kernel_rfl)
                            have d3 : x3 = .pointer (some ⟨Q8, 0, none⟩) := hd 3 (by kernel_rfl)
                            have d4 : x4 = .slice (some ⟨gS, 0, none⟩) S2.length cC := hd 4 (by kernel_rfl)
                            have d5 : x5 = .pointer (some ⟨gS, 0, none⟩) := hd 5 (by kernel_rfl)
                            have d6 : x6 = .int .i64 (R2 : Int) := hd 6 (by kernel_rfl)
                            have d7 : x7 = .int .i64 (oN : Int) := hd 7 (by kernel_rfl)
                            clear hd
                            subst d0
                            subst d1
                            subst d2
                            subst d3
                            subst d4
                            subst d5
                            subst d6
                            subst d7
                            simp only [Act.put, List.setIfInBounds_toArray, List.set_cons_zero, List.set_cons_succ] at hK
                            go_simp
                            first | exact hK.out _ _ (Below.refl _ _) rfl | (have hk := hK.out _ _ (Below.refl _ _) rfl; revert hk; go_simp)
                          case pfl19 => (intro f hf; cases hf)
                          case pend19 =>
                          intro w1 hb1 hR hD
                          have d0 : x0 = .pointer (some ⟨Q6, 1, none⟩) := hR 0 (by decide)
                          have d1 : x1 = .slice (some ⟨gT, 0, none⟩) YS.length dT := hR 1 (by decide)
                          have d2 : x2 = .int .i64 (YS.length : Int) := hR 2 (by decide)
                          have d3 : x3 = .pointer (some ⟨Q8, 0, none⟩) := hR 3 (by decide)
                          have d4 : x4 = .slice (some ⟨gS, 0, none⟩) S2.length cC := hR 4 (by decide)
                          have d5 : x5 = .pointer (some ⟨gS, 0, none⟩) := hR 5 (by decide)
                          have d6 : x6 = .int .i64 (R2 : Int) := hR 6 (by decide)
                          have d7 : x7 = .int .i64 (oN : Int) := hR 7 (by decide)
                          have d8 : x8 = .int .i64 (oN : Int) := hR 8 (by decide)
                          clear hR hD
                          subst d0
                          subst d1
                          subst d2
                          subst d3
                          subst d4
                          subst d5
                          subst d6
                          subst d7
                          subst d8
                          refine wpAny_done (by kernel_rfl) ?_ _
                          have F15 := Lib.hid (F14.out.next hb1)
                          obtain ⟨W15, rfl⟩ : ∃ x : World, x = w1 := ⟨_, rfl⟩
                          clear hb1 F14
                          go_upto_region 20 with fail
                          have HWY2 := Lib.hid (show ∀ x ∈ Y3, (Lit.int .i64 x).wf = true from fun x hx => by rw [← HY3.out] at hx; exact HWF3.out x (cutL_mem hx))
                          have HEW := Lib.hid (fun a1 c1 a2 c2 W (h1 : Ints .i64 W W.heap.size a1 Y3) (h2 : Ints .i64 W W.heap.size a2 Y3) => (by have h9 := eqWords_any a1 a2 c1 c2 W.heap.size Y3 Y3 W h1 h2; simp only [decide_true] at h9; rw [show Value.slice a2 Y3.length c2 = .slice a2 oN c2 by rw [HY3l.out]] at h9; exact h9 : Calls Try.prog 12 #[.slice a1 Y3.length c1, .slice a2 oN c2] W fun e w' => e = .returned (.bool true) ∧ ∃ q, w' = W.drewN q))
                          obtain ⟨aS9, haS⟩ : ∃ z : Nat, a9 + 1 = z := ⟨_, rfl⟩
                          have HAS := Lib.hid haS
                          clear haS
                          refine wp_region_parts2 (w := W15) 19 0 none [] [(fun u _ => u = .int .i64 0), (fun u _ => u = .int .i64 0), (fun u _ => u = .bool false), (fun u _ => u = .bool false), (fun u _ => u = .pointer (some ⟨Q14, 1, none⟩)), (fun u _ => u = .slice b14 Y3.length k14), (fun u _ => u = .pointer (some ⟨Q6, 1, none⟩)), (fun u _ => u = .slice (some ⟨gT, 0, none⟩) YS.length dT), (fun u _ => u = .int .i64 (a9 : Int)), (fun u _ => u = .int .i64 (oN : Int)), (fun u _ => u = .int .i64 (sT : Int)), (fun u _ => u = .int .i64 (a9 : Int)), (fun u _ => u = .int .i64 (aS9 : Int)), (fun u _ => u = .int .i64 (oN : Int)), (fun u _ => u = .int .i64 (eT : Int)), (fun u _ => u = .slice (some ⟨gT, sT, none⟩) oN (dT - sT)), (fun u _ => u = .bool true), (fun u _ => u = .bool false), (fun u _ => u = .bool false)] [some 161, some 162, some 163, some 164, some 165, some 166, some 167, some 168, some 169, some 170, some 171, some 172, some 173, some 174, some 175, some 176, some 177, some 178, some 179] #[true, true, true, true, true, true, true, true, true, true, true, true, true, true, true, true, true, true, true] #[true, true, true, true, true, true, true, true, true, true, true, true, true, true, true, true, true, true, true] (by kernel_rfl) rfl (by kernel_rfl) (by kernel_rfl) rfl (by kernel_rfl) (by kernel_rfl) (.cons (carries_eq _) (.cons (carries_eq _) (.cons (carries_eq _) (.cons (carries_eq _) (.cons (carries_eq _) (.cons (carries_eq _) (.cons (carries_eq _) (.cons (carries_eq _) (.cons (carries_eq _) (.cons (carries_eq _) (.cons (carries_eq _) (.cons (carries_eq _) (.cons (carries_eq _) (.cons (carries_eq _) (.cons (carries_eq _) (.cons (carries_eq _) (.cons (carries_eq _) (.cons (carries_eq _) (.cons (carries_eq _) .nil))))))))))))))))))) (fun vs b hvl hvb => ?_)
                          obtain ⟨x0, x1, x2, x3, x4, x5, x6, x7, x8, x9, x10, x11, x12, x13, x14, x15, x16, x17, x18, rfl⟩ : ∃ x0 x1 x2 x3 x4 x5 x6 x7 x8 x9 x10 x11 x12 x13 x14 x15 x16 x17 x18, vs = [x0, x1, x2, x3, x4, x5, x6, x7, x8, x9, x10, x11, x12, x13, x14, x15, x16, x17, x18] := lw19 hvl
                          clear hvl
                          simp only [putAll, Act.put, List.setIfInBounds_toArray, List.set_cons_zero, List.set_cons_succ] at hvb
                          subst hvb
                          refine ⟨(.snoc (.snoc (.snoc (.snoc (.snoc (.snoc (.snoc (.snoc (.snoc (.snoc (.snoc (.snoc (.snoc (.snoc (.snoc (.snoc (.snoc (.snoc (.snoc .zero (PartOb.intro (d := (some 161)) (r := fun u _ => u = .int .i64 0) rfl rfl rfl rfl ?po20x0)) (PartOb.intro (d := (some 162)) (r := fun u _ => u = .int .i64 0) rfl rfl rfl rfl ?po20x1)) (PartOb.intro (d := (some 163)) (r := fun u _ => u = .bool false) rfl rfl rfl rfl ?po20x2)) (PartOb.intro (d := (some 164)) (r := fun u _ => u = .bool false) rfl rfl rfl rfl ?po20x3)) (PartOb.intro (d := (some 165)) (r := fun u _ => u = .pointer (some ⟨Q14, 1, none⟩)) rfl rfl rfl rfl ?po20x4)) (PartOb.intro (d := (some 166)) (r := fun u _ => u = .slice b14 Y3.length k14) rfl rfl rfl rfl ?po20x5)) (PartOb.intro (d := (some 167)) (r := fun u _ => u = .pointer (some ⟨Q6, 1, none⟩)) rfl rfl rfl rfl ?po20x6)) (PartOb.intro (d := (some 168)) (r := fun u _ => u = .slice (some ⟨gT, 0, none⟩) YS.length dT) rfl rfl rfl rfl ?po20x7)) (PartOb.intro (d := (some 169)) (r := fun u _ => u = .int .i64 (a9 : Int)) rfl rfl rfl rfl ?po20x8)) (PartOb.intro (d := (some 170)) (r := fun u _ => u = .int .i64 (oN : Int)) rfl rfl rfl rfl ?po20x9)) (PartOb.intro (d := (some 171)) (r := fun u _ => u = .int .i64 (sT : Int)) rfl rfl rfl rfl ?po20x10)) (PartOb.intro (d := (some 172)) (r := fun u _ => u = .int .i64 (a9 : Int)) rfl rfl rfl rfl ?po20x11)) (PartOb.intro (d := (some 173)) (r := fun u _ => u = .int .i64 (aS9 : Int)) rfl rfl rfl rfl ?po20x12)) (PartOb.intro (d := (some 174)) (r := fun u _ => u = .int .i64 (oN : Int)) rfl rfl rfl rfl ?po20x13)) (PartOb.intro (d := (some 175)) (r := fun u _ => u = .int .i64 (eT : Int)) rfl rfl rfl rfl ?po20x14)) (PartOb.intro (d := (some 176)) (r := fun u _ => u = .slice (some ⟨gT, sT, none⟩) oN (dT - sT)) rfl rfl rfl rfl ?po20x15)) (PartOb.intro (d := (some 177)) (r := fun u _ => u = .bool true) rfl rfl rfl rfl ?po20x16)) (PartOb.intro (d := (some 178)) (r := fun u _ => u = .bool false) rfl rfl rfl rfl ?po20x17)) (PartOb.intro (d := (some 179)) (r := fun u _ => u = .bool false) rfl rfl rfl rfl ?po20x18)), ?pend20, ?pfl20⟩
                          case po20x0 =>
                            intro w1 hb1 hd KK hK
                            clear hd
                            simp only [Act.put, List.setIfInBounds_toArray, List.set_cons_zero, List.set_cons_succ] at hK
                            go_simp
                            first | exact hK.out _ _ (Below.refl _ _) rfl | (have hk := hK.out _ _ (Below.refl _ _) rfl; revert hk; go_simp)
                          case po20x1 =>
                            intro w1 hb1 hd KK hK
                            have d0 : x0 = .int .i64 0 := hd 0 (by kernel_rfl)
                            clear hd
                            subst d0
                            simp only [Act.put, List.setIfInBounds_toArray, List.set_cons_zero, List.set_cons_succ] at hK
                            go_simp
                            go_at_call 11
                            refine (num11_any _ _).mono ?_
                            rintro e w' ⟨rfl, rfl⟩
                            (try go_wp2_with fail)
                            first | exact hK.out _ _ (Below.refl _ _) rfl | (have hk := hK.out _ _ (Below.refl _ _) rfl; revert hk; go_simp)
                          case po20x2 =>
                            intro w1 hb1 hd KK hK
                            have d1 : x1 = .int .i64 0 := hd 1 (by kernel_rfl)
                            clear hd
                            subst d1
                            simp only [Act.put, List.setIfInBounds_toArray, List.set_cons_zero, List.set_cons_succ] at hK
                            go_simp
                            first | exact hK.out _ _ (Below.refl _ _) rfl | (have hk := hK.out _ _ (Below.refl _ _) rfl; revert hk; go_simp)
                          case po20x3 =>
                            intro w1 hb1 hd KK hK
                            have d1 : x1 = .int .i64 0 := hd 1 (by kernel_rfl)
                            have d2 : x2 = .bool false := hd 2 (by kernel_rfl)
                            clear hd
                            subst d1
                            subst d2
                            simp only [Act.put, List.setIfInBounds_toArray, List.set_cons_zero, List.set_cons_succ] at hK
                            go_simp
                            first | exact hK.out _ _ (Below.refl _ _) rfl | (have hk := hK.out _ _ (Below.refl _ _) rfl; revert hk; go_simp)
                          case po20x4 =>
                            intro w1 hb1 hd KK hK
                            have d3 : x3 = .bool false := hd 3 (by kernel_rfl)
                            clear hd
                            subst d3
                            simp only [Act.put, List.setIfInBounds_toArray, List.set_cons_zero, List.set_cons_succ] at hK
                            go_simp
                            first | exact hK.out _ _ (Below.refl _ _) rfl | (have hk := hK.out _ _ (Below.refl _ _) rfl; revert hk; go_simp)
                          case po20x5 =>
                            intro w1 hb1 hd KK hK
                            have d3 : x3 = .bool false := hd 3 (by kernel_rfl)
                            have d4 : x4 = .pointer (some ⟨Q14, 1, none⟩) := hd 4 (by kernel_rfl)
                            clear hd
                            subst d3
                            subst d4
                            have hF := F15.out.next hb1
                            have k1 := hF.c 4 1 rfl rfl
                            simp only [Act.put, List.setIfInBounds_toArray, List.set_cons_zero, List.set_cons_succ] at hK
                            go_simp
                            first | exact hK.out _ _ (Below.refl _ _) rfl | (have hk := hK.out _ _ (Below.refl _ _) rfl; revert hk; go_simp)
                          case po20x6 =>
                            intro w1 hb1 hd KK hK
                            have d3 : x3 = .bool false := hd 3 (by kernel_rfl)
                            clear hd
                            subst d3
                            simp only [Act.put, List.setIfInBounds_toArray, List.set_cons_zero, List.set_cons_succ] at hK
                            go_simp
                            first | exact hK.out _ _ (Below.refl _ _) rfl | (have hk := hK.out _ _ (Below.refl _ _) rfl; revert hk; go_simp)
                          case po20x7 =>
                            intro w1 hb1 hd KK hK
                            have d3 : x3 = .bool false := hd 3 (by kernel_rfl)
                            have d6 : x6 = .pointer (some ⟨Q6, 1, none⟩) := hd 6 (by kernel_rfl)
                            clear hd
                            subst d3
                            subst d6
                            have hF := F15.out.next hb1
                            have k1 := hF.c 1 1 rfl rfl
                            simp only [Act.put, List.setIfInBounds_toArray, List.set_cons_zero, List.set_cons_succ] at hK
                            go_simp
                            first | exact hK.out _ _ (Below.refl _ _) rfl | (have hk := hK.out _ _ (Below.refl _ _) rfl; revert hk; go_simp)
                          case po20x8 =>
                            intro w1 hb1 hd KK hK
                            have d3 : x3 = .bool false := hd 3 (by kernel_rfl)
                            clear hd
                            subst d3
                            simp only [Act.put, List.setIfInBounds_toArray, List.set_cons_zero, List.set_cons_succ] at hK
                            go_simp
                            first | exact hK.out _ _ (Below.refl _ _) rfl | (have hk := hK.out _ _ (Below.refl _ _) rfl; revert hk; go_simp)
                          case po20x9 =>
                            intro w1 hb1 hd KK hK
                            have d3 : x3 = .bool false := hd 3 (by kernel_rfl)
                            clear hd
                            subst d3
                            simp only [Act.put, List.setIfInBounds_toArray, List.set_cons_zero, List.set_cons_succ] at hK
                            go_simp
                            first | exact hK.out _ _ (Below.refl _ _) rfl | (have hk := hK.out _ _ (Below.refl _ _) rfl; revert hk; go_simp)
                          case po20x10 =>
                            intro w1 hb1 hd KK hK
                            have d3 : x3 = .bool false := hd 3 (by kernel_rfl)
                            have d8 : x8 = .int .i64 (a9 : Int) := hd 8 (by kernel_rfl)
                            have d9 : x9 = .int .i64 (oN : Int) := hd 9 (by kernel_rfl)
                            clear hd
                            subst d3
                            subst d8
                            subst d9
                            have g2 : ∀ [Inhabited Unit], IntKind.i64.wrap ((a9 : Int) * (oN : Int)) = (sT : Int) := by intro _; rw [← Int.natCast_mul, HST.out]; exact IntWalk.i64_in _ (by have h := HSE2.out; have h2 := HBB.out; omega)
                            simp only [Act.put, List.setIfInBounds_toArray, List.set_cons_zero, List.set_cons_succ] at hK
                            go_simp
                            first | exact hK.out _ _ (Below.refl _ _) rfl | (have hk := hK.out _ _ (Below.refl _ _) rfl; revert hk; go_simp)
                          case po20x11 =>
                            intro w1 hb1 hd KK hK
                            have d3 : x3 = .bool false := hd 3 (by kernel_rfl)
                            clear hd
                            subst d3
                            simp only [Act.put, List.setIfInBounds_toArray, List.set_cons_zero, List.set_cons_succ] at hK
                            go_simp
                            first | exact hK.out _ _ (Below.refl _ _) rfl | (have hk := hK.out _ _ (Below.refl _ _) rfl; revert hk; go_simp)
                          case po20x12 =>
                            intro w1 hb1 hd KK hK
                            have d3 : x3 = .bool false := hd 3 (by kernel_rfl)
                            have d11 : x11 = .int .i64 (a9 : Int) := hd 11 (by kernel_rfl)
                            clear hd
                            subst d3
                            subst d11
                            have g2 : ∀ [Inhabited Unit], IntKind.i64.wrap ((a9 : Int) + 1) = (aS9 : Int) := by intro _; rw [← HAS.out, Int.natCast_add]; exact IntWalk.i64_in _ (by have h := HBB.out; have h2 := HLA.out; omega)
                            simp only [Act.put, List.setIfInBounds_toArray, List.set_cons_zero, List.set_cons_succ] at hK
                            go_simp
                            first | exact hK.out _ _ (Below.refl _ _) rfl | (have hk := hK.out _ _ (Below.refl _ _) rfl; revert hk; go_simp)
                          case po20x13 =>
                            intro w1 hb1 hd KK hK
                            have d3 : x3 = .bool false := hd 3 (by kernel_rfl)
                            clear hd
                            subst d3
                            simp only [Act.put, List.setIfInBounds_toArray, List.set_cons_zero, List.set_cons_succ] at hK
                            go_simp
                            first | exact hK.out _ _ (Below.refl _ _) rfl | (have hk := hK.out _ _ (Below.refl _ _) rfl; revert hk; go_simp)
                          case po20x14 =>
                            intro w1 hb1 hd KK hK
                            have d3 : x3 = .bool false := hd 3 (by kernel_rfl)
                            have d12 : x12 = .int .i64 (aS9 : Int) := hd 12 (by kernel_rfl)
                            have d13 : x13 = .int .i64 (oN : Int) := hd 13 (by kernel_rfl)
                            clear hd
                            subst d3
                            subst d12
                            subst d13
                            have g2 : ∀ [Inhabited Unit], IntKind.i64.wrap ((aS9 : Int) * (oN : Int)) = (eT : Int) := by intro _; rw [← HAS.out, ← Int.natCast_mul, HET.out]; exact IntWalk.i64_in _ (by have h := HSE2.out; have h2 := HBB.out; omega)
                            simp only [Act.put, List.setIfInBounds_toArray, List.set_cons_zero, List.set_cons_succ] at hK
                            go_simp
                            first | exact hK.out _ _ (Below.refl _ _) rfl | (have hk := hK.out _ _ (Below.refl _ _) rfl; revert hk; go_simp)
                          case po20x15 =>
                            intro w1 hb1 hd KK hK
                            have d3 : x3 = .bool false := hd 3 (by kernel_rfl)
                            have d7 : x7 = .slice (some ⟨gT, 0, none⟩) YS.length dT := hd 7 (by kernel_rfl)
                            have d10 : x10 = .int .i64 (sT : Int) := hd 10 (by kernel_rfl)
                            have d14 : x14 = .int .i64 (eT : Int) := hd 14 (by kernel_rfl)
                            clear hd
                            subst d3
                            subst d7
                            subst d10
                            subst d14
                            have h1 := HSE2.out
                            have h2 := HKT.out
                            have h3 := HBB.out
                            have g1 : (sT : Int) ≤ (eT : Int) := by omega
                            have g2 : (eT : Int) ≤ (dT : Int) := by omega
                            have g3 : ¬ dT = sT := by omega
                            have g4 : eT - sT = oN := by omega
                            clear h1 h2 h3
                            simp only [Act.put, List.setIfInBounds_toArray, List.set_cons_zero, List.set_cons_succ] at hK
                            go_simp
                            first | exact hK.out _ _ (Below.refl _ _) rfl | (have hk := hK.out _ _ (Below.refl _ _) rfl; revert hk; go_simp)
                          case po20x16 =>
                            intro w1 hb1 hd KK hK
                            have d3 : x3 = .bool false := hd 3 (by kernel_rfl)
                            have d5 : x5 = .slice b14 Y3.length k14 := hd 5 (by kernel_rfl)
                            have d15 : x15 = .slice (some ⟨gT, sT, none⟩) oN (dT - sT) := hd 15 (by kernel_rfl)
                            clear hd
                            subst d3
                            subst d5
                            subst d15
                            have hF := F15.out.next hb1
                            have hew := HEW.out
                            simp only [Act.put, List.setIfInBounds_toArray, List.set_cons_zero, List.set_cons_succ] at hK
                            go_simp
                            go_at_call 12
                            refine (hew b14 k14 (some ⟨gT, sT, none⟩) (dT - sT) _ (hF.li 6 (k := .i64) (xs := Y3) rfl HWY2.out) (HIT.out _ (hF.li 1 (k := .i64) (xs := YS) rfl HWF3.out))).mono ?_
                            rintro e w' ⟨rfl, q9, rfl⟩
                            (try go_wp2_with fail)
                            first | exact hK.out _ _ (below_drewN (Below.refl _ _) q9) rfl | (have hk := hK.out _ _ (below_drewN (Below.refl _ _) q9) rfl; revert hk; go_simp)
                          case po20x17 =>
                            intro w1 hb1 hd KK hK
                            have d3 : x3 = .bool false := hd 3 (by kernel_rfl)
                            have d16 : x16 = .bool true := hd 16 (by kernel_rfl)
                            clear hd
                            subst d3
                            subst d16
                            simp only [Act.put, List.setIfInBounds_toArray, List.set_cons_zero, List.set_cons_succ] at hK
                            go_simp
                            first | exact hK.out _ _ (Below.refl _ _) rfl | (have hk := hK.out _ _ (Below.refl _ _) rfl; revert hk; go_simp)
                          case po20x18 =>
                            intro w1 hb1 hd KK hK
                            have d3 : x3 = .bool false := hd 3 (by kernel_rfl)
                            have d17 : x17 = .bool false := hd 17 (by kernel_rfl)
                            clear hd
                            subst d3
                            subst d17
                            simp only [Act.put, List.setIfInBounds_toArray, List.set_cons_zero, List.set_cons_succ] at hK
                            go_simp
                            first | exact hK.out _ _ (Below.refl _ _) rfl | (have hk := hK.out _ _ (Below.refl _ _) rfl; revert hk; go_simp)
                          case pfl20 => (intro f hf; cases hf)
                          case pend20 =>
                          intro w1 hb1 hR hD
                          have d0 : x0 = .int .i64 0 := hR 0 (by decide)
                          have d1 : x1 = .int .i64 0 := hR 1 (by decide)
                          have d2 : x2 = .bool false := hR 2 (by decide)
                          have d3 : x3 = .bool false := hR 3 (by decide)
                          have d4 : x4 = .pointer (some ⟨Q14, 1, none⟩) := hR 4 (by decide)
                          have d5 : x5 = .slice b14 Y3.length k14 := hR 5 (by decide)
                          have d6 : x6 = .pointer (some ⟨Q6, 1, none⟩) := hR 6 (by decide)
                          have d7 : x7 = .slice (some ⟨gT, 0, none⟩) YS.length dT := hR 7 (by decide)
                          have d8 : x8 = .int .i64 (a9 : Int) := hR 8 (by decide)
                          have d9 : x9 = .int .i64 (oN : Int) := hR 9 (by decide)
                          have d10 : x10 = .int .i64 (sT : Int) := hR 10 (by decide)
                          have d11 : x11 = .int .i64 (a9 : Int) := hR 11 (by decide)
                          have d12 : x12 = .int .i64 (aS9 : Int) := hR 12 (by decide)
                          have d13 : x13 = .int .i64 (oN : Int) := hR 13 (by decide)
                          have d14 : x14 = .int .i64 (eT : Int) := hR 14 (by decide)
                          have d15 : x15 = .slice (some ⟨gT, sT, none⟩) oN (dT - sT) := hR 15 (by decide)
                          have d16 : x16 = .bool true := hR 16 (by decide)
                          have d17 : x17 = .bool false := hR 17 (by decide)
                          have d18 : x18 = .bool false := hR 18 (by decide)
                          clear hR hD
                          subst d0
                          subst d1
                          subst d2
                          subst d3
                          subst d4
                          subst d5
                          subst d6
                          subst d7
                          subst d8
                          subst d9
                          subst d10
                          subst d11
                          subst d12
                          subst d13
                          subst d14
                          subst d15
                          subst d16
                          subst d17
                          subst d18
                          refine wpAny_done (by kernel_rfl) ?_ _
                          have F17 := Lib.hid ((F15.out.next hb1).less (.cons_cons _ (.cons_cons _ (.cons_cons _ (.cons_cons _ (.cons _ .slnil))))) (.refl _) (.cons_cons _ (.cons_cons _ (.cons_cons _ (.cons_cons _ (.cons_cons _ (.cons _ (.cons _ .slnil))))))) (.refl _))
                          clear F15
                          go_wp2
                          have h8 := HBB.out
                          have h7 := HLA.out
                          go_roundw
                          case rel => exact ⟨a9 + 1, HLA.out, by rw [IntWalk.wrap64_in _ (by omega)]; rfl, F17⟩
                          case measure => rw [IntWalk.wrap64_in _ (by omega)]; simp only [intOf]; omega
                      · obtain rfl : a9 = R2 := by omega
                        have hai : ¬ (a9 : Int) < (a9 : Int) := by omega
                        have g9 := H2L.out
                        have g1 : (0 : Int) < (S2.length : Int) := by omega
                        have g2 : ¬ S2 = [] := by intro h; rw [h] at g9; exact absurd g9 (by simp)
                        have g3 : 0 < S2.length := by omega
                        have q0 := F13.out.c 2 0 rfl rfl
                        have hcx := (F13.out.rc 2 0 rfl HS0.out).1
                        clear g9
                        go_wp2
                        go_roundw
                        case rel => exact ⟨k + 1, by omega, by go_num, HB.out.trans (F13.out.bel.mono HB.out.size)⟩
                        case measure => simp [intOf]; omega
                · as_aux_lemma =>
                  have hzb : (z != 0) = false := by simp [hz0]
                  have hyb : (y != 0) = true := by simp [hy0]
                  clear hz0 hy0
                  go_wp2_with (first | (go_at_call 11; refine (num11_any _ _).mono ?_; rintro e w' ⟨rfl, rfl⟩) | fail)
                  go_roundw
                  case rel => exact ⟨k + 1, by omega, by go_num, HB.out.trans (F8.out.bel.mono HB.out.size)⟩
                  case measure => simp [intOf]; omega
              · as_aux_lemma =>
                have hzb : (z != 0) = true := by simp [hz0]
                clear hz0
                go_wp2_with (first | (go_at_call 11; refine (num11_any _ _).mono ?_; rintro e w' ⟨rfl, rfl⟩) | fail)
                go_roundw
                case rel => exact ⟨k + 1, by omega, by go_num, HB.out.trans (F8.out.bel.mono HB.out.size)⟩
                case measure => simp [intOf]; omega
    · have HB := Lib.hid hbel
      clear hbel h
      have WK := fun W => Lib.hid (wakes11_any W)
      by_cases hlt : k < n
      · have hk15 : ¬ (k : Int) < 4 := by omega
        have hkn : (k : Int) < n := by omega
        go_wp2_with (go_at_call 13; refine ((WK _).out).mono ?_; rintro e w1 ⟨rfl, hb⟩; have HW1 := Lib.hid hb; clear hb)
        go_ret
        exact ⟨rfl, HB.out.trans (HW1.out.mono HB.out.size)⟩
      · obtain rfl : k = n := by omega
        go_wp2_with (go_at_call 13; refine ((WK _).out).mono ?_; rintro e w1 ⟨rfl, hb⟩; have HW1 := Lib.hid hb; clear hb)
        go_ret
        exact ⟨rfl, HB.out.trans (HW1.out.mono HB.out.size)⟩
end Go.Proofs.Ytadlnmckcnfacaa
