/- The law MatmulTurns, walked. -/
import Derived.Test.YtjjgmdnmhfoacaaMTurnsP
import Derived.Test.YtjjgmdnmhfoacaaMArg2
import Derived.Test.YtjjgmdnmhfoacaaMArg
import Derived.WalkMore
import Derived.Deep.RegionHeld3
import Derived.Deep.RegionWith
import Derived.BigRegion
import Derived.Deep.Cut
import Derived.Deep.CutBlock
import Derived.Deep.CutRange
set_option linter.unusedVariables false
set_option linter.unusedSimpArgs false
namespace Go.Proofs.Ytjjgmdnmhfoacaa
open Go.RowKit Go.Rt

set_option maxHeartbeats 8000000 in
set_option maxRecDepth 100000 in
theorem turns_any (a : Option Addr) (n c : Nat) (w : World) (h : TwosAt w w.heap.size a n) :
    Calls Try.prog 5 #[.slice a n c] w fun e w' => e = .returned (.bool true) ∧ Below w.heap.size w w' := by
  have hm := h.len
  go_enter Try.func5, Try.ntmps5
  go_wp2_with fail
  go_loopw [3] (fun i wr => ∃ k : Nat, k ≤ n ∧ i = .int .i64 k ∧ Below w.heap.size w wr) (fun i _ => n - (intOf i).toNat)
  case atStart => exact ⟨0, Nat.zero_le _, rfl, Below.refl _ _⟩
  case round =>
    obtain ⟨k, hk, rfl, hbel⟩ := hrel
    obtain ⟨wo, rfl⟩ : ∃ wo : World, wo = wr := ⟨_, rfl⟩
    by_cases hend : k < n ∧ k < 6
    · obtain ⟨hlt, h6⟩ := hend
      obtain ⟨b, off, ⟨aA, cA, bA, dA, xsA, ysA⟩, ⟨aB, cB, bB, dB, xsB, ysB⟩, F, rfl, ht⟩ := h.at_ k hlt
      replace ht := ht.below hbel
      have hsz := hbel.size
      obtain ⟨hbl, c0, c1, c2, c3, c4, tA, tB, F0, F1⟩ := ht
      replace tA := tA.mono hsz
      replace tB := tB.mono hsz
      have HB := Lib.hid hbel
      simp only at c0 c1 c2 c3 tA tB
      have E : TEnv wo.heap.size wo (wo.alloc (.cells #[.slice aA xsA.length cA, .slice bA ysA.length dA, .slice aB xsB.length cB, .slice bB ysB.length dB, .int .i64 F] 28))
          [⟨aA, cA, bA, dA, xsA, ysA⟩, ⟨aB, cB, bB, dB, xsB, ysB⟩] [(⟨wo.heap.size, 0, none⟩, .slice aA xsA.length cA), (⟨wo.heap.size, 1, none⟩, .slice bA ysA.length dA), (⟨wo.heap.size, 2, none⟩, .slice aB xsB.length cB), (⟨wo.heap.size, 3, none⟩, .slice bB ysB.length dB), (⟨wo.heap.size, 4, none⟩, .int .i64 F)] :=
        ((((((((TEnv.start wo).addT tB).addT tA).alloc _).addC (by simp [go_sem])).addC (by simp [go_sem])).addC (by simp [go_sem])).addC (by simp [go_sem])).addC (by simp [go_sem])
      have lA := tA.sh.len
      have lB := tB.sh.len
      have mA := tA.da.len
      have mB := tB.da.len
      have HH := Lib.hid (heavy10_any aA bA aB bB xsA.length cA ysA.length dA xsB.length cB ysB.length dB F (wo.alloc (.cells #[.slice aA xsA.length cA, .slice bA ysA.length dA, .slice aB xsB.length cB, .slice bB ysB.length dB, .int .i64 F] 28)) lA mA lB mB)
      clear tA tB hbel h
      cases hhv : heavy2 xsA.length ysA.length xsB.length ysB.length with
      | true =>
        rw [hhv] at HH
        clear hhv
        go_wp2_with fail
        refine HH.out.mono ?_
        rintro e w1 ⟨rfl, hb⟩
        have HE := Lib.hid (E.bel.trans (hb.mono E.hB))
        clear hb E HH
        go_wp2_with fail
        go_ret
        exact ⟨rfl, HB.out.trans (HE.out.mono hsz)⟩
      | false =>
        rw [hhv] at HH
        have hA40 : ysA.length ≤ 40 ∧ xsA.length ≤ 8 ∧ ysB.length ≤ 40 ∧ xsB.length ≤ 8 := by
          unfold heavy2 at hhv
          simp at hhv
          omega
        obtain ⟨hA40, hA8, hB40, hB8⟩ := hA40
        clear hhv lA lB mA mB
        go_upto_region 7 with (refine HH.out.mono ?_; rintro e w1 ⟨rfl, hb⟩; replace E := E.next hb; clear hb HH c0 c1 c2 c3 c4)
        have MA := True.intro
        have MB := True.intro
        cases tA : tenB xsA ysA with
        | false =>
          have p1x := E.cellN 0 rfl
          have p2x := E.cellN 1 rfl
          have p3x := E.cellN 2 rfl
          have p4x := E.cellN 3 rfl
          have p5x := E.cellN 4 rfl
          go_wp2_with (first | (go_at_call 8; have hmk := MA; clear hmk MA; refine (tenMay_any _ _ _ _ _ _ _ (E.tenN 0 rfl).sh (E.tenN 0 rfl).da).mono ?_; rintro e w2 ⟨he, hb⟩; rw [tA] at he; subst he; replace E := E.next hb; clear p1x p2x p3x p4x p5x; have p6x := E.cellN 0 rfl; have p7x := E.cellN 1 rfl; have p8x := E.cellN 2 rfl; have p9x := E.cellN 3 rfl; have p10x := E.cellN 4 rfl; clear hb))
          go_roundw
          case rel => exact ⟨k + 1, by omega, by go_num, HB.out.trans (E.bel.mono hsz)⟩
          case measure => simp [intOf]; omega
        | true =>
          cases tB : tenB xsB ysB with
          | false =>
            have p11x := E.cellN 0 rfl
            have p12x := E.cellN 1 rfl
            have p13x := E.cellN 2 rfl
            have p14x := E.cellN 3 rfl
            have p15x := E.cellN 4 rfl
            go_wp2_with (first | (go_at_call 8; have hmk := MA; clear hmk MA; refine (tenMay_any _ _ _ _ _ _ _ (E.tenN 0 rfl).sh (E.tenN 0 rfl).da).mono ?_; rintro e w2 ⟨he, hb⟩; rw [tA] at he; subst he; replace E := E.next hb; clear p11x p12x p13x p14x p15x; have p16x := E.cellN 0 rfl; have p17x := E.cellN 1 rfl; have p18x := E.cellN 2 rfl; have p19x := E.cellN 3 rfl; have p20x := E.cellN 4 rfl; clear hb) | (go_at_call 8; have hmk := MB; clear hmk MB; refine (tenMay_any _ _ _ _ _ _ _ (E.tenN 1 rfl).sh (E.tenN 1 rfl).da).mono ?_; rintro e w3 ⟨he, hb⟩; rw [tB] at he; subst he; replace E := E.next hb; clear p16x p17x p18x p19x p20x; have p21x := E.cellN 0 rfl; have p22x := E.cellN 1 rfl; have p23x := E.cellN 2 rfl; have p24x := E.cellN 3 rfl; have p25x := E.cellN 4 rfl; clear hb))
            go_roundw
            case rel => exact ⟨k + 1, by omega, by go_num, HB.out.trans (E.bel.mono hsz)⟩
            case measure => simp [intOf]; omega
          | true =>
            by_cases h2 : ¬ xsA.length = 2
            · have hd2 : ((xsA.length : Int) != 2) = true := by simp; omega
              have p26x := E.cellN 0 rfl
              have p27x := E.cellN 1 rfl
              have p28x := E.cellN 2 rfl
              have p29x := E.cellN 3 rfl
              have p30x := E.cellN 4 rfl
              go_wp2_with (first | (go_at_call 8; have hmk := MA; clear hmk MA; refine (tenMay_any _ _ _ _ _ _ _ (E.tenN 0 rfl).sh (E.tenN 0 rfl).da).mono ?_; rintro e w2 ⟨he, hb⟩; rw [tA] at he; subst he; replace E := E.next hb; clear p26x p27x p28x p29x p30x; have p31x := E.cellN 0 rfl; have p32x := E.cellN 1 rfl; have p33x := E.cellN 2 rfl; have p34x := E.cellN 3 rfl; have p35x := E.cellN 4 rfl; clear hb) | (go_at_call 8; have hmk := MB; clear hmk MB; refine (tenMay_any _ _ _ _ _ _ _ (E.tenN 1 rfl).sh (E.tenN 1 rfl).da).mono ?_; rintro e w3 ⟨he, hb⟩; rw [tB] at he; subst he; replace E := E.next hb; clear p31x p32x p33x p34x p35x; have p36x := E.cellN 0 rfl; have p37x := E.cellN 1 rfl; have p38x := E.cellN 2 rfl; have p39x := E.cellN 3 rfl; have p40x := E.cellN 4 rfl; clear hb))
              go_roundw
              case rel => exact ⟨k + 1, by omega, by go_num, HB.out.trans (E.bel.mono hsz)⟩
              case measure => simp [intOf]; omega
            · have hd2 : ((xsA.length : Int) != 2) = false := by simp; omega
              replace h2 : xsA.length = 2 := by omega
              have hl1 : 1 < xsA.length := by omega
              have hl2 : (1 : Int) < (xsA.length : Int) := by omega
              have hl0 : 0 < xsA.length := by omega
              obtain ⟨f, hf, hf0, hf1⟩ : ∃ f : Nat, 8 + withinN F 25 = (f : Int) ∧ 8 ≤ f ∧ f ≤ 32 := ⟨(8 + withinN F 25).toNat, by have := withinN_bound F 25 (by decide); omega, by have := withinN_bound F 25 (by decide); omega, by have := withinN_bound F 25 (by decide); omega⟩
              have hF := fun w => Lib.hid (f_any F w ⟨F0, F1⟩)
              rw [hf] at hF
              clear hf
              obtain ⟨R, m, hxA⟩ := list2 h2 (tenB_iff.1 tA).1
              have tA2 : tenB [(R : Int), (m : Int)] ysA = true := by rw [← hxA]; exact tA
              obtain ⟨⟨⟨hR1, hR2⟩, ⟨hm1, hm2⟩, hRm⟩, hlA, iA⟩ := ten2_iff.1 tA2
              have hm40 : m ≤ 40 := by have := Nat.le_mul_of_pos_left m hR1; omega
              have hD := mul_diag (f := f) tA2
              have tD := diag_ten hm1 hm40 hf1
              rw [← hxA] at hD
              have hM0 : ∀ a b c d a2 b2 c2 d2 W, Ten W W.heap.size a c b d xsA ysA → Ten W W.heap.size a2 c2 b2 d2 [(m : Int), (m : Int)] (diagL m f m) → Hid (Calls Try.prog 10 #[.agg #[.slice a xsA.length c, .slice b ysA.length d], .agg #[.slice a2 2 c2, .slice b2 (m * m) d2], .int .i64 f] W (RetTen W xsA ysA 0)) := by
                intro a b c d a2 b2 c2 d2 W h1 h2
                have h := matMul_any a b a2 b2 c d c2 d2 f xsA ysA [(m : Int), (m : Int)] (diagL m f m) W h1 h2 tA tD hf0 hf1
                rw [hD.1, hD.2.1, hD.2.2, diagL_len] at h
                exact Lib.hid h
              obtain ⟨MM, hMM, hmm1, hmm2, q1⟩ : ∃ MM : Nat, Hid (MM = m * m) ∧ 1 ≤ MM ∧ MM ≤ 1600 ∧ RowKit.wrap64 ((m : Int) * m) = (MM : Int) := by
                have h1 : m * m ≤ 40 * 40 := Nat.mul_le_mul hm40 hm40
                have h2 : 1 ≤ m * m := Nat.mul_le_mul hm1 hm1
                exact ⟨m * m, Lib.hid rfl, h2, h1, by rw [← Int.natCast_mul]; exact wrap_nat' _ (by omega)⟩
              rw [← hMM.out] at hM0
              replace q1 : ∀ [Inhabited Unit], RowKit.wrap64 ((m : Int) * m) = (MM : Int) := q1
              have hEq := fun a b a2 b2 c d c2 d2 W h1 h2 h3 h4 => Lib.hid (eqTensor_any a b a2 b2 c d c2 d2 xsA ysA xsA ysA W h1 h2 h3 h4)
              rw [decide_eq_true (show xsA = xsA from rfl), decide_eq_true (show ysA = ysA from rfl)] at hEq
              have hmk : ∀ w : World, (Instr.makeSlice 24 (.int .i64 (MM : Int)) (.int .i64 (MM : Int))).run Try.prog w = .ok (.slice (some ⟨w.heap.size, 0, none⟩) MM MM) (w.alloc (.cells (madeCells #[Value.int .i64 0] MM) 2)) := make_words MM (by omega)
              have HX2 := Lib.hid h2
              clear h2
              have IA := Lib.hid iA
              have TA := Lib.hid tA
              have TA2 := Lib.hid tA2
              have TB := Lib.hid tB
              have TD := Lib.hid tD
              have HXA := Lib.hid hxA
              have HLA := Lib.hid hlA
              have HRM := Lib.hid hRm
              clear tA2 tD hD iA hxA hlA hRm
              have p41x := E.cellN 0 rfl
              have p42x := E.cellN 1 rfl
              have p43x := E.cellN 2 rfl
              have p44x := E.cellN 3 rfl
              have p45x := E.cellN 4 rfl
              go_upto_region 9 with (first | (go_at_call 8; have hmk := MA; clear hmk MA; refine (tenMay_any _ _ _ _ _ _ _ (E.tenN 0 rfl).sh (E.tenN 0 rfl).da).mono ?_; rintro e w2 ⟨he, hb⟩; rw [TA.out] at he; subst he; replace E := E.next hb; clear p41x p42x p43x p44x p45x; have p46x := E.cellN 0 rfl; have p47x := E.cellN 1 rfl; have p48x := E.cellN 2 rfl; have p49x := E.cellN 3 rfl; have p50x := E.cellN 4 rfl; clear hb) | (go_at_call 8; have hmk := MB; clear hmk MB; refine (tenMay_any _ _ _ _ _ _ _ (E.tenN 1 rfl).sh (E.tenN 1 rfl).da).mono ?_; rintro e w3 ⟨he, hb⟩; rw [TB.out] at he; subst he; replace E := E.next hb; clear p46x p47x p48x p49x p50x; have p51x := E.cellN 0 rfl; have p52x := E.cellN 1 rfl; have p53x := E.cellN 2 rfl; have p54x := E.cellN 3 rfl; have p55x := E.cellN 4 rfl; clear hb) | (go_at_call 9; refine (hF _).out.mono ?_; rintro e w' ⟨rfl, rfl⟩))
              clear tA tB
              obtain ⟨bx, ox, ex, _, cx⟩ := (E.tenN 0 rfl).sh.cell 1 hl1
              have hx1 : xsA[1]?.getD 0 = (m : Int) := by rw [HXA.out]; rfl
              rw [hx1] at cx
              clear hx1
              obtain ⟨bx0, ox0, ex0, _, cx0⟩ := (E.tenN 0 rfl).sh.cell 0 hl0
              have hx0 : xsA[0]?.getD 0 = (R : Int) := by rw [HXA.out]; rfl
              rw [hx0] at cx0
              clear hx0
              rw [ex] at ex0
              cases ex0
              subst ex
              go_upto_region 12 with fail
              obtain ⟨V4, hV4⟩ : ∃ V : World, ((w3.alloc (.cells #[.int .i64 (m : Int), .int .i64 (m : Int)] 3)).alloc (.cells (madeCells #[Value.int .i64 0] MM) 2)).alloc (.cells #[.slice (some ⟨w3.heap.size, 0, none⟩) 2 2, .slice (some ⟨w3.heap.size + 1, 0, none⟩) MM MM] 26) = V := ⟨_, rfl⟩
              obtain ⟨F4, I4, b4, s4⟩ := one_start w3 (m : Int) (m : Int) (wf_i64_iff.2 ⟨by omega, by omega⟩) (wf_i64_iff.2 ⟨by omega, by omega⟩) MM (by omega) V4 hV4
              rw [hV4]
              have E0 := Lib.hid E
              have HI4 := Lib.hid I4
              have HB4 := Lib.hid b4
              have HF0 : Hid (Fill V4 V4 (w3.heap.size + 1) (w3.heap.size + 1 + 1) (w3.heap.size + 1) MM MM (.slice (some ⟨w3.heap.size, 0, none⟩) 2 2) (.slice (some ⟨w3.heap.size + 1, 0, none⟩) MM MM) (diagL m f 0)) := Lib.hid (by rw [diagL_zero, ← hMM.out]; exact F4)
              clear hV4 F4 I4 b4 E hmk p51x p52x p53x p54x p55x
              generalize hQ : w3.heap.size = Q at *
              have HQ := Lib.hid hQ
              clear hQ
              go_wp2_with fail
              go_loopw [8] (fun i wr => ∃ j : Nat, j ≤ m ∧ i = .int .i64 j ∧ Hid (Fill V4 wr (Q + 1) (Q + 1 + 1) (Q + 1) MM MM (.slice (some ⟨Q, 0, none⟩) 2 2) (.slice (some ⟨Q + 1, 0, none⟩) MM MM) (diagL m f j))) (fun i _ => m - (intOf i).toNat)
              case atStart => exact ⟨0, Nat.zero_le _, rfl, HF0⟩
              case round =>
                obtain ⟨j, hj, rfl, HF⟩ := hrel
                obtain ⟨wi, rfl⟩ : ∃ wi : World, wi = wr := ⟨_, rfl⟩
                obtain ⟨t0, t1, t2, t3⟩ := HF.out.box
                clear HF0
                by_cases hjl : j < m
                · have hjm : j * m + j < MM := by rw [hMM.out]; exact rc_lt j j m m hjl hjl
                  obtain ⟨jm, hjm1, e1⟩ : ∃ jm : Nat, Hid (jm = j * m) ∧ IntKind.i64.wrap ((j : Int) * m) = (jm : Int) := ⟨j * m, Lib.hid rfl, by rw [← Int.natCast_mul, IntWalk.i64_left]; exact wrap_nat' _ (by omega)⟩
                  obtain ⟨TJ, hTJ, e2⟩ : ∃ TJ : Nat, Hid (TJ = jm + j) ∧ IntKind.i64.wrap ((jm : Int) + j) = (TJ : Int) := ⟨jm + j, Lib.hid rfl, by rw [← Int.natCast_add, IntWalk.i64_left, hjm1.out]; exact wrap_nat' _ (by omega)⟩
                  have hTM : TJ < MM := by rw [hTJ.out, hjm1.out]; exact hjm
                  clear hjm
                  replace e1 : ∀ [Inhabited Unit], IntKind.i64.wrap ((j : Int) * m) = (jm : Int) := e1
                  replace e2 : ∀ [Inhabited Unit], IntKind.i64.wrap ((jm : Int) + j) = (TJ : Int) := e2
                  have hi1 : (0 : Int) ≤ (TJ : Int) := by omega
                  have hi2 : (TJ : Int) < (MM : Int) := by omega
                  obtain ⟨fc1, fc2⟩ := HF.out.cell TJ hTM
                  have e3 : RowKit.wrap64 ((2 : Int) ^ f) = 2 ^ f := by
                    have h1 := Nat.pow_le_pow_right (show 0 < 2 by decide) hf1
                    rw [← castPow]
                    exact wrap_nat' _ (by omega)
                  have HE3 := Lib.hid e3
                  have HF8 := Lib.hid ((HF.out.set TJ (2 ^ f) (by omega)).next (below_drewN (Below.refl _ _) 1))
                  rw [show TJ = j * m + j by rw [hTJ.out, hjm1.out], diagL_set _ _ _ hjl, ← hjm1.out, ← hTJ.out] at HF8
                  clear e3 HF
                  go_upto_region 15 with fail
                  go_region
                  all_goals
                    go_wp2
                    go_roundw
                    case rel => exact ⟨j + 1, by omega, by go_num, by rw [HE3.out]; exact HF8⟩
                    case measure => simp [intOf]; omega
                · have hje : m = j := by omega
                  as_aux_lemma =>
                    subst hje
                    have E := E0.out.next (W' := wi) (by rw [HQ.out]; exact HB4.out.trans (HF.out.bel.mono (by omega)))
                    have hrow := HF.out.row
                    have hdl : (diagL m f m).length = MM := by rw [diagL_len, hMM.out]
                    have td := ten_made (W' := wi) (xs := [(m : Int), (m : Int)]) (ys := diagL m f m) (c := 2) (d := MM) (Nat.le_of_lt (Nat.lt_of_le_of_lt HF.out.lt.1 HF.out.lt.2)) (HI4.out.below HF.out.bel (Nat.le_refl _)) (by simp) (by rw [hdl]; exact hrow) (ten2_iff.1 TD.out).2.2
                    replace E := ((E.addT td).addC t1).addC t0
                    clear td hrow HF hdl t0 t1 t2 t3 hj hjl
                    have p56x := E.cellN 2 rfl
                    have p57x := E.cellN 3 rfl
                    have p58x := E.cellN 4 rfl
                    have p59x := E.cellN 5 rfl
                    have p60x := E.cellN 6 rfl
                    have p61x := E.cellN 0 rfl
                    have p62x := E.cellN 1 rfl
                    go_upto_region 17 with (first | (go_at_call 10; refine (hM0 _ _ _ _ _ _ _ _ _ (E.tenN 1 rfl) (E.tenN 0 rfl)).out.mono ?_; rintro e w5 ⟨a5, c5, b5, d5, m5, rfl, _, hm, hI, ⟨hcap, hsh⟩, hO, hb⟩; replace E := E.made hb hm hI hcap hO (IA.out); clear hb hm hI hcap hsh hO; clear p56x p57x p58x p59x p60x p61x p62x))
                    obtain ⟨V5, hV5⟩ : ∃ V : World, w5.alloc (.cells #[.slice a5 xsA.length c5, .slice b5 ysA.length d5] 26) = V := ⟨_, rfl⟩
                    replace E := E.box (.slice a5 xsA.length c5) (.slice b5 ysA.length d5) 26
                    rw [hV5] at E ⊢
                    clear hV5
                    have p63x := E.cellN 4 rfl
                    have p64x := E.cellN 5 rfl
                    have p65x := E.cellN 0 rfl
                    have p66x := E.cellN 1 rfl
                    go_upto_region 19 with (first | (go_at_call 12; refine (num10_any _ _).mono ?_; rintro e w' ⟨rfl, rfl⟩) | (go_at_call 17; refine (hEq _ _ _ _ _ _ _ _ _ (E.tenN 0 rfl).sh (E.tenN 0 rfl).da (E.tenN 2 rfl).sh (E.tenN 2 rfl).da).out.mono ?_; rintro e w6 ⟨rfl, hb⟩; replace E := E.next hb; clear p63x p64x p65x p66x; have p67x := E.cellN 4 rfl; have p68x := E.cellN 5 rfl; have p69x := E.cellN 6 rfl; have p70x := E.cellN 7 rfl; have p71x := E.cellN 8 rfl; clear hb))
                    have hM1 := fun a b c d a2 b2 c2 d2 W h1 h2 => Lib.hid (matMul_any a b a2 b2 c d c2 d2 f xsA ysA xsB ysB W h1 h2 TA.out TB.out hf0 hf1)
                    have HPY := Lib.hid (mulY_isW xsA ysA xsB ysB f)
                    have HFA := Lib.hid (fun h hb => turns_facts (R := R) (m := m) (f := f) HXA.out TA.out TB.out h hb)
                    generalize mulX xsA ysA xsB ysB f = XP at *
                    generalize mulY xsA ysA xsB ysB f = YP at *
                    generalize mulE xsA ysA xsB ysB f = ZP at *
                    clear hM0
                    go_upto_region 20 with (first | (go_at_call 10; refine (hM1 _ _ _ _ _ _ _ _ _ (E.tenN 2 rfl) (E.tenN 3 rfl)).out.mono ?_; rintro e w7 ⟨a7, c7, b7, d7, m7, rfl, _, hm, hI, ⟨hcap, hsh⟩, hO, hb⟩; replace E := E.made hb hm hI hcap hO (HPY.out); clear hb hm hI hcap hsh hO; clear p67x p68x p69x p70x p71x))
                    obtain ⟨V7, hV7⟩ : ∃ V : World, w7.alloc (.cells #[.slice a7 XP.length c7, .slice b7 YP.length d7] 26) = V := ⟨_, rfl⟩
                    replace E := E.box (.slice a7 XP.length c7) (.slice b7 YP.length d7) 26
                    rw [hV7] at E ⊢
                    clear hV7
                    have p72x := E.cellN 6 rfl
                    have p73x := E.cellN 7 rfl
                    have p74x := E.cellN 8 rfl
                    have p75x := E.cellN 9 rfl
                    have p76x := E.cellN 10 rfl
                    have p77x := E.cellN 0 rfl
                    have p78x := E.cellN 1 rfl
                    clear hM1
                    by_cases hz : ZP = 0
                    · have hz1 : (ZP != 0) = false := by simp [hz]
                      by_cases hb2 : xsB.length = 2
                      · have hd3 : ((xsB.length : Int) != 2) = false := by simp; omega
                        obtain ⟨C, hxB, ⟨hC1, hC2, hRC⟩, hlX, hlY, t1, t2, t3, e1, e2, e3, hrow⟩ := HFA.out hz hb2
                        have hb1 : (1 : Int) < (xsB.length : Int) := by omega
                        have hb3 : 1 < xsB.length := by omega
                        have hTA := fun a b c d W hT => Lib.hid (turn_any a b c d xsA ysA W hT TA.out (Nat.le_of_eq HX2.out.symm))
                        have hTB := fun a b c d W hT => Lib.hid (turn_any a b c d xsB ysB W hT TB.out (Nat.le_of_eq hb2.symm))
                        have hTP := fun a b c d W hT => Lib.hid (turn_any a b c d XP YP W hT t3 (Nat.le_of_eq hlX.symm))
                        have hM2 := fun a b c d a2 b2 c2 d2 W h1 h2 => Lib.hid (matMul_any a b a2 b2 c d c2 d2 f (swapL xsB) (turnL xsB ysB) (swapL xsA) (turnL xsA ysA) W h1 h2 t2 t1 hf0 hf1)
                        rw [e1, e2, e3] at hM2
                        have i1 := (tenB_iff.1 t1).2.2
                        have i2 := (tenB_iff.1 t2).2.2
                        have i3 := (tenB_iff.1 (turn_ten t3 (Nat.le_of_eq hlX.symm))).2.2
                        have I1 := Lib.hid i1
                        have I2 := Lib.hid i2
                        have I3 := Lib.hid i3
                        clear i1 i2 i3 t1 t2 t3 e1 e2 e3
                        generalize swapL xsA = X1 at *
                        generalize turnL xsA ysA = Y1 at *
                        generalize swapL xsB = X2 at *
                        generalize turnL xsB ysB = Y2 at *
                        generalize swapL XP = X3 at *
                        generalize turnL XP YP = Y3 at *
                        have hEq3 := fun a b a2 b2 c d c2 d2 W h1 h2 h3 h4 => Lib.hid (eqTensor_any a b a2 b2 c d c2 d2 X3 Y3 X3 Y3 W h1 h2 h3 h4)
                        rw [decide_eq_true (show X3 = X3 from rfl), decide_eq_true (show Y3 = Y3 from rfl)] at hEq3
                        have HXB := Lib.hid hxB
                        have HB2 := Lib.hid hb2
                        have HLX := Lib.hid hlX
                        have HLY := Lib.hid hlY
                        have HROW := Lib.hid hrow
                        have HZ := Lib.hid hz
                        have HRC := Lib.hid hRC
                        clear hxB hb2 hlX hlY hrow hz hRC
                        go_upto_region 21 with (first | (go_at_call 12; refine (num10_any _ _).mono ?_; rintro e w' ⟨rfl, rfl⟩))
                        clear p72x p73x p74x p75x p76x p77x p78x
                        have p79x := E.cellN 6 rfl
                        have p80x := E.cellN 7 rfl
                        have p81x := E.cellN 8 rfl
                        have p82x := E.cellN 9 rfl
                        have p83x := E.cellN 10 rfl
                        go_upto_region 22 with (first | (go_at_call 16; refine (hTA _ _ _ _ _ (E.tenN 3 rfl)).out.mono ?_; rintro e w8 ⟨a8, c8, b8, d8, m8, rfl, _, hm, hI, ⟨hcap, hsh⟩, hO, hb⟩; replace E := E.made hb hm hI hcap hO (I1.out); clear hb hm hI hcap hsh hO; clear p79x p80x p81x p82x p83x))
                        obtain ⟨V8, hV8⟩ : ∃ V : World, w8.alloc (.cells #[.slice a8 X1.length c8, .slice b8 Y1.length d8] 26) = V := ⟨_, rfl⟩
                        replace E := E.box (.slice a8 X1.length c8) (.slice b8 Y1.length d8) 26
                        rw [hV8] at E ⊢
                        clear hV8
                        have p84x := E.cellN 8 rfl
                        have p85x := E.cellN 9 rfl
                        have p86x := E.cellN 10 rfl
                        have p87x := E.cellN 11 rfl
                        have p88x := E.cellN 12 rfl
                        have p89x := E.cellN 0 rfl
                        have p90x := E.cellN 1 rfl
                        go_upto_region 23 with (first | (go_at_call 16; refine (hTB _ _ _ _ _ (E.tenN 5 rfl)).out.mono ?_; rintro e w9 ⟨a9, c9, b9, d9, m9, rfl, _, hm, hI, ⟨hcap, hsh⟩, hO, hb⟩; replace E := E.made hb hm hI hcap hO (I2.out); clear hb hm hI hcap hsh hO; clear p84x p85x p86x p87x p88x p89x p90x))
                        obtain ⟨V9, hV9⟩ : ∃ V : World, w9.alloc (.cells #[.slice a9 X2.length c9, .slice b9 Y2.length d9] 26) = V := ⟨_, rfl⟩
                        replace E := E.box (.slice a9 X2.length c9) (.slice b9 Y2.length d9) 26
                        rw [hV9] at E ⊢
                        clear hV9
                        have p91x := E.cellN 2 rfl
                        have p92x := E.cellN 3 rfl
                        have p93x := E.cellN 0 rfl
                        have p94x := E.cellN 1 rfl
                        go_upto_region 24 with (first | (go_at_call 10; refine (hM2 _ _ _ _ _ _ _ _ _ (E.tenN 0 rfl) (E.tenN 1 rfl)).out.mono ?_; rintro e w10 ⟨a10, c10, b10, d10, m10, rfl, _, hm, hI, ⟨hcap, hsh⟩, hO, hb⟩; replace E := E.made hb hm hI hcap hO (I3.out); clear hb hm hI hcap hsh hO; clear p91x p92x p93x p94x))
                        obtain ⟨V10, hV10⟩ : ∃ V : World, w10.alloc (.cells #[.slice a10 X3.length c10, .slice b10 Y3.length d10] 26) = V := ⟨_, rfl⟩
                        replace E := E.box (.slice a10 X3.length c10) (.slice b10 Y3.length d10) 26
                        rw [hV10] at E ⊢
                        clear hV10
                        have p95x := E.cellN 6 rfl
                        have p96x := E.cellN 7 rfl
                        go_upto_region 25 with (first | (go_at_call 16; refine (hTP _ _ _ _ _ (E.tenN 3 rfl)).out.mono ?_; rintro e w11 ⟨a11, c11, b11, d11, m11, rfl, _, hm, hI, ⟨hcap, hsh⟩, hO, hb⟩; replace E := E.made hb hm hI hcap hO (I3.out); clear hb hm hI hcap hsh hO; clear p95x p96x))
                        obtain ⟨V11, hV11⟩ : ∃ V : World, w11.alloc (.cells #[.slice a11 X3.length c11, .slice b11 Y3.length d11] 26) = V := ⟨_, rfl⟩
                        replace E := E.box (.slice a11 X3.length c11) (.slice b11 Y3.length d11) 26
                        rw [hV11] at E ⊢
                        clear hV11
                        have p97x := E.cellN 2 rfl
                        have p98x := E.cellN 3 rfl
                        have p99x := E.cellN 0 rfl
                        have p100x := E.cellN 1 rfl
                        have p101x := E.cellN 9 rfl
                        have p102x := E.cellN 14 rfl
                        have p103x := E.cellN 15 rfl
                        have p104x := E.cellN 16 rfl
                        have p105x := E.cellN 17 rfl
                        have p106x := E.cellN 18 rfl
                        obtain ⟨bz, oz, ez, _, cz⟩ := (E.tenN 8 rfl).sh.cell 1 hb3
                        have hy1 : xsB[1]?.getD 0 = (C : Int) := by rw [HXB.out]; rfl
                        rw [hy1] at cz
                        clear hy1
                        subst ez
                        obtain ⟨by2, oy2, ey2, _, cw⟩ := (E.tenN 7 rfl).sh.cell 0 hl0
                        have hx0 : xsA[0]?.getD 0 = (R : Int) := by rw [HXA.out]; rfl
                        rw [hx0] at cw
                        clear hx0 cx cx0
                        cases ey2
                        obtain ⟨RC, HRCC, e5⟩ : ∃ RC : Nat, Hid (RC = R * C) ∧ IntKind.i64.wrap ((R : Int) * C) = (RC : Int) := ⟨R * C, Lib.hid rfl, by have := HRC.out; rw [← Int.natCast_mul, IntWalk.i64_left]; exact wrap_nat' _ (by omega)⟩
                        have e6 : ((YP.length : Int) != (RC : Int)) = false := by rw [HLY.out, HRCC.out]; simp
                        replace e5 : ∀ [Inhabited Unit], IntKind.i64.wrap ((R : Int) * C) = (RC : Int) := e5
                        have hi0 : (0 : Int) < (xsA.length : Int) := by omega
                        have hEqX := fun W (hb : Below V11.heap.size V11 W) => hEq3 a10 b10 a11 b11 c10 d10 c11 d11 W ((E.next hb).tenN 1 rfl).sh ((E.next hb).tenN 1 rfl).da ((E.next hb).tenN 0 rfl).sh ((E.next hb).tenN 0 rfl).da
                        have HS0 : Hid (Below V11.heap.size V11 V11 ∧ V11.cell? ⟨w10.heap.size, 0, none⟩ = some (.slice a10 X3.length c10) ∧ V11.cell? ⟨w10.heap.size, 1, none⟩ = some (.slice b10 Y3.length d10) ∧ V11.cell? ⟨w11.heap.size, 0, none⟩ = some (.slice a11 X3.length c11) ∧ V11.cell? ⟨w11.heap.size, 1, none⟩ = some (.slice b11 Y3.length d11) ∧ V11.cell? ⟨w7.heap.size, 1, none⟩ = some (.slice b7 YP.length d7) ∧ V11.cell? ⟨wo.heap.size, 0, none⟩ = some (.slice (some ⟨bx, ox, none⟩) xsA.length cA) ∧ V11.cell? ⟨wo.heap.size, 2, none⟩ = some (.slice (some ⟨bz, oz, none⟩) xsB.length cB) ∧ V11.cell? ⟨bx, ox, none⟩ = some (.int .i64 R) ∧ V11.cell? ⟨bz, oz + 1, none⟩ = some (.int .i64 C)) := Lib.hid ⟨Below.refl _ _, E.cellN 2 rfl, E.cellN 3 rfl, E.cellN 0 rfl, E.cellN 1 rfl, E.cellN 9 rfl, E.cellN 14 rfl, E.cellN 16 rfl, cw, cz⟩
                        have HE := Lib.hid E
                        clear E hEq3 cw cz p97x p98x p99x p100x p101x p102x p103x p104x p105x p106x
                        go_cut [193] from 153 to 193 (fun s193 wx => s193 = .bool false ∧ Below V11.heap.size V11 wx)
                        case first =>
                          as_aux_lemma =>
                            go_region_held3 (fun w' => Below V11.heap.size V11 w' ∧ w'.cell? ⟨w10.heap.size, 0, none⟩ = some (.slice a10 X3.length c10) ∧ w'.cell? ⟨w10.heap.size, 1, none⟩ = some (.slice b10 Y3.length d10) ∧ w'.cell? ⟨w11.heap.size, 0, none⟩ = some (.slice a11 X3.length c11) ∧ w'.cell? ⟨w11.heap.size, 1, none⟩ = some (.slice b11 Y3.length d11) ∧ w'.cell? ⟨w7.heap.size, 1, none⟩ = some (.slice b7 YP.length d7) ∧ w'.cell? ⟨wo.heap.size, 0, none⟩ = some (.slice (some ⟨bx, ox, none⟩) xsA.length cA) ∧ w'.cell? ⟨wo.heap.size, 2, none⟩ = some (.slice (some ⟨bz, oz, none⟩) xsB.length cB) ∧ w'.cell? ⟨bx, ox, none⟩ = some (.int .i64 R) ∧ w'.cell? ⟨bz, oz + 1, none⟩ = some (.int .i64 C)) (first | assumption | exact held9 HS0.out (Below.drew (Below.refl _ _)) | exact held9 (by assumption) (by assumption)) (first | (go_at_call 12; refine (num10_any _ _).mono ?_; rintro e w' ⟨rfl, rfl⟩) | (go_at_call 17; refine (hEqX _ (held9B (by assumption))).out.mono ?_; rintro e w12 ⟨rfl, hb12⟩))
                            all_goals
                              go_wp2_with fail
                              go_meet
                              exact ⟨rfl, held9B (by assumption)⟩
                        case rest =>
                          as_aux_lemma =>
                            obtain ⟨rfl, hb12⟩ := hcut
                            have E := HE.out.next hb12
                            clear HE HS0 hEqX hb12 hTA hTB hTP hM2
                            obtain ⟨by3, oy3, ey3, _, cw⟩ := (E.tenN 7 rfl).sh.cell 0 hl0
                            have hx0 : xsA[0]?.getD 0 = (R : Int) := by rw [HXA.out]; rfl
                            rw [hx0, Nat.add_zero] at cw
                            clear hx0
                            cases ey3
                            have p107x := E.cellN 14 rfl
                            have p108x := E.cellN 18 rfl
                            obtain ⟨r, hr, hrR⟩ : ∃ r : Nat, withinN F R = (r : Int) ∧ r < R := ⟨(withinN F R).toNat, by have := withinN_bound F R (by omega); omega, by have := withinN_bound F R (by omega); omega⟩
                            have hWt := fun w => Lib.hid (within0_any F (R : Int) w ⟨F0, F1⟩ (by omega) (by omega))
                            rw [hr] at hWt
                            clear hr
                            go_upto_region 27 with fail
                            go_quiet (first | (go_at_call 19; exact quietSame (hWt _).out))
                            replace E := E.drewN nq
                            obtain ⟨V13, hV13⟩ : ∃ V : World, wc.drewN nq = V := ⟨_, rfl⟩
                            rw [hV13] at E ⊢
                            clear hV13 hWt cw p107x p108x
                            obtain ⟨tR, eR, yR⟩ := HROW.out r hrR
                            have hle : (r + 1) * m ≤ R * m := Nat.mul_le_mul hrR (Nat.le_refl _)
                            rw [Nat.add_mul, Nat.one_mul] at hle
                            have hleC : (r + 1) * C ≤ R * C := Nat.mul_le_mul hrR (Nat.le_refl _)
                            rw [Nat.add_mul, Nat.one_mul] at hleC
                            obtain ⟨rm, hrm⟩ : ∃ rm : Nat, Hid (rm = r * m) := ⟨r * m, Lib.hid rfl⟩
                            obtain ⟨rC, hrC⟩ : ∃ rC : Nat, Hid (rC = r * C) := ⟨r * C, Lib.hid rfl⟩
                            have hA1 : rm + m ≤ ysA.length := by rw [hrm.out, HLA.out]; exact hle
                            have hB1 : rC + C ≤ YP.length := by rw [hrC.out, HLY.out]; exact hleC
                            clear hle hleC
                            rw [← hrm.out] at tR eR yR
                            rw [← hrC.out] at yR
                            have hdA := (E.tenN 7 rfl).d1
                            have hdA2 := (E.tenN 7 rfl).d2
                            have hdX := (E.tenN 4 rfl).d1
                            have hdX2 := (E.tenN 4 rfl).d2
                            have hA2 : rm + m ≤ dA := Nat.le_trans hA1 hdA
                            have hA3 : ¬ dA = rm := by omega
                            have hB2 : rC + C ≤ d7 := Nat.le_trans hB1 hdX
                            have hB4 : ¬ d7 = rC := by omega
                            obtain ⟨bu, ou, eu, _, _⟩ := (E.tenN 7 rfl).da.cell 0 (by omega)
                            subst eu
                            obtain ⟨bt, ot, et, _, _⟩ := (E.tenN 4 rfl).da.cell 0 (by omega)
                            subst et
                            have g1 : ∀ [Inhabited Unit], RowKit.wrap64 ((r : Int) * m) = (rm : Int) := by intro _; rw [← Int.natCast_mul, ← hrm.out]; exact wrap_nat' _ (by omega)
                            have g2 : ∀ [Inhabited Unit], RowKit.wrap64 (((r : Int) + 1) * m) = ((rm + m : Nat) : Int) := by intro _; rw [show ((r : Int) + 1) * m = ((r * m + m : Nat) : Int) by simp [Int.add_mul], ← hrm.out]; exact wrap_nat' _ (by omega)
                            have hwl : wo.heap.size < V13.heap.size := E.ltN 14 rfl
                            have hwn : ¬ wo.heap.size = V13.heap.size := by omega
                            have p109x := E.cellN 14 rfl
                            have p110x := E.cellN 15 rfl
                            go_upto_region 29 with fail
                            (try rw [Nat.add_sub_cancel_left])
                            obtain ⟨V14, hV14⟩ : ∃ V : World, V13.alloc (.cells #[.int .i64 1, .int .i64 (m : Int)] 3) = V := ⟨_, rfl⟩
                            have hI14 : Ints .i64 V14 V14.heap.size (some ⟨V13.heap.size, 0, none⟩) [((1 : Nat) : Int), (m : Int)] := by rw [← hV14]; exact ints2 (by simp [go_sem]) (by simp [go_sem]) (by decide) (wf_i64_iff.2 ⟨by omega, by omega⟩)
                            replace E := E.alloc (.cells #[.int .i64 1, .int .i64 (m : Int)] 3)
                            rw [hV14] at E ⊢
                            obtain ⟨iY, lY⟩ := intsSub (E.tenN 7 rfl).da rm m hA1
                            have tr : Ten V14 V14.heap.size (some ⟨V13.heap.size, 0, none⟩) 2 (some ⟨bu, ou + rm, none⟩) (dA - rm) [((1 : Nat) : Int), (m : Int)] ((ysA.drop rm).take m) := ⟨hI14, iY, by simp, by decide, by rw [lY]; omega, by omega⟩
                            replace E := (E.addT tr).box (.slice (some ⟨V13.heap.size, 0, none⟩) 2 2) (.slice (some ⟨bu, ou + rm, none⟩) m (dA - rm)) 26
                            have s14 : V14.heap.size = V13.heap.size + 1 := by rw [← hV14]; simp
                            rw [s14] at E
                            clear s14
                            obtain ⟨V15, hV15⟩ : ∃ V : World, V14.alloc (.cells #[.slice (some ⟨V13.heap.size, 0, none⟩) 2 2, .slice (some ⟨bu, ou + rm, none⟩) m (dA - rm)] 26) = V := ⟨_, rfl⟩
                            rw [hV15] at E ⊢
                            have LY := Lib.hid lY
                            clear hV14 hV15 hI14 iY lY tr g1 g2 p109x p110x
                            have hM5 : ∀ a b c d a2 b2 c2 d2 W, Ten W W.heap.size a c b d [((1 : Nat) : Int), (m : Int)] ((ysA.drop rm).take m) → Ten W W.heap.size a2 c2 b2 d2 xsB ysB → Hid (Calls Try.prog 10 #[.agg #[.slice a 2 c, .slice b m d], .agg #[.slice a2 xsB.length c2, .slice b2 ysB.length d2], .int .i64 f] W (RetTen W (mulX [((1 : Nat) : Int), (m : Int)] ((ysA.drop rm).take m) xsB ysB f) ((YP.drop rC).take C) 0)) := by
                              intro a b c d a2 b2 c2 d2 W h1 h2
                              have h := matMul_any a b a2 b2 c d c2 d2 f _ _ xsB ysB W h1 h2 tR TB.out hf0 hf1
                              rw [eR, yR, LY.out] at h
                              exact Lib.hid h
                            have i5 : ∀ y ∈ (YP.drop rC).take C, isW y = true := by rw [← yR]; exact mulY_isW _ _ _ _ _
                            have lY5 : ((YP.drop rC).take C).length = C := by simp; omega
                            have I5 := Lib.hid i5
                            clear i5 tR eR yR
                            generalize mulX [((1 : Nat) : Int), (m : Int)] ((ysA.drop rm).take m) xsB ysB f = X5 at *
                            obtain ⟨Y5, hY5⟩ : ∃ Y, (YP.drop rC).take C = Y := ⟨_, rfl⟩
                            rw [hY5] at hM5 I5 lY5
                            have HY5 := Lib.hid hY5
                            have LY5 := Lib.hid lY5
                            clear hY5 lY5
                            have p111x := E.cellN 0 rfl
                            have p112x := E.cellN 1 rfl
                            have p113x := E.cellN 18 rfl
                            have p114x := E.cellN 19 rfl
                            go_upto_region 30 with (first | (go_at_call 10; refine (hM5 _ _ _ _ _ _ _ _ _ (E.tenN 0 rfl) (E.tenN 9 rfl)).out.mono ?_; rintro e w16 ⟨a16, c16, b16, d16, m16, rfl, _, hm, hI, ⟨hcap, hsh⟩, hO, hb⟩; replace E := E.made hb hm hI hcap hO (I5.out); clear hb hm hI hcap hsh hO; clear p111x p112x p113x p114x))
                            obtain ⟨V16, hV16⟩ : ∃ V : World, w16.alloc (.cells #[.slice a16 X5.length c16, .slice b16 Y5.length d16] 26) = V := ⟨_, rfl⟩
                            replace E := E.box (.slice a16 X5.length c16) (.slice b16 Y5.length d16) 26
                            rw [hV16] at E ⊢
                            clear hV16
                            have p115x := E.cellN 1 rfl
                            have p116x := E.cellN 13 rfl
                            have p117x := E.cellN 20 rfl
                            obtain ⟨bz2, oz2, ez2, _, cz⟩ := (E.tenN 10 rfl).sh.cell 1 hb3
                            have hy1 : xsB[1]?.getD 0 = (C : Int) := by rw [HXB.out]; rfl
                            rw [hy1] at cz
                            clear hy1
                            cases ez2
                            have hq := fun W (hb : Below V16.heap.size V16 W) => eqWords_any b16 (some ⟨bt, ot + rC, none⟩) d16 (d7 - rC) V16.heap.size Y5 ((YP.drop rC).take C) W ((E.tenN 0 rfl).da.below hb (Nat.le_refl _)) ((intsSub (E.tenN 6 rfl).da rC C hB1).1.below hb (Nat.le_refl _))
                            have hqq : ∀ W, Below V16.heap.size V16 W → Hid (Calls Try.prog 14 #[.slice b16 Y5.length d16, .slice (some ⟨bt, ot + rC, none⟩) C (d7 - rC)] W fun e w' => e = .returned (.bool true) ∧ ∃ q, w' = W.drewN q) := by
                              intro W hb
                              have h := hq W hb
                              have e : ((YP.drop rC).take C).length = C := by rw [HY5.out]; exact LY5.out
                              rw [e, decide_eq_true (show Y5 = (YP.drop rC).take C from HY5.out.symm)] at h
                              exact Lib.hid h
                            clear hq
                            have g3 : ∀ [Inhabited Unit], IntKind.i64.wrap ((r : Int) * C) = (rC : Int) := by intro _; rw [← Int.natCast_mul, IntWalk.i64_left, ← hrC.out]; exact wrap_nat' _ (by omega)
                            have g4 : ∀ [Inhabited Unit], IntKind.i64.wrap (((r : Int) + 1) * C) = ((rC + C : Nat) : Int) := by intro _; rw [show ((r : Int) + 1) * C = ((r * C + C : Nat) : Int) by simp [Int.add_mul], IntWalk.i64_left, ← hrC.out]; exact wrap_nat' _ (by omega)
                            have g5 : ∀ [Inhabited Unit], IntKind.i64.wrap ((r : Int) + 1) = (r : Int) + 1 := by intro _; rw [IntWalk.i64_left]; exact IntWalk.wrap64_in _ ⟨by omega, by omega⟩
                            go_upto_region 31 with fail
                            go_quiet (first | (go_at_call 12; exact quietSame (num10_any _ _)) | (go_at_call 14; exact Calls.quiet_of (hqq _ (below_drewN (Below.refl _ _) _)).out))
                            replace E := E.drewN nq
                            go_wp2
                            go_roundw
                            case rel => exact ⟨k + 1, by omega, by go_num, HB.out.trans (E.bel.mono hsz)⟩
                            case measure => simp [intOf]; omega
                      · have hd3 : ((xsB.length : Int) != 2) = true := by simp; omega
                        clear hz
                        go_wp2_with (first | (go_at_call 12; refine (num10_any _ _).mono ?_; rintro e w' ⟨rfl, rfl⟩))
                        go_roundw
                        case rel => exact ⟨k + 1, by omega, by go_num, HB.out.trans (E.bel.mono hsz)⟩
                        case measure => simp [intOf]; omega
                    · have hz1 : (ZP != 0) = true := by simp [hz]
                      clear hz
                      go_wp2_with (first | (go_at_call 12; refine (num10_any _ _).mono ?_; rintro e w' ⟨rfl, rfl⟩))
                      go_roundw
                      case rel => exact ⟨k + 1, by omega, by go_num, HB.out.trans (E.bel.mono hsz)⟩
                      case measure => simp [intOf]; omega
    · -- the end
      have HB := Lib.hid hbel
      have hsz := hbel.size
      have HW := Lib.hid (wakes10_any wo)
      clear hbel h
      by_cases hlt : k < n
      · have h20 : ¬ k < 6 := fun h => hend ⟨hlt, h⟩
        clear hend
        go_wp2_with (go_at_call 15; refine HW.out.mono ?_; rintro e w1 ⟨rfl, hb⟩)
        go_ret
        exact ⟨rfl, HB.out.trans (hb.mono hsz)⟩
      · clear hend
        go_wp2_with (go_at_call 15; refine HW.out.mono ?_; rintro e w1 ⟨rfl, hb⟩)
        go_ret
        exact ⟨rfl, HB.out.trans (hb.mono hsz)⟩

end Go.Proofs.Ytjjgmdnmhfoacaa
