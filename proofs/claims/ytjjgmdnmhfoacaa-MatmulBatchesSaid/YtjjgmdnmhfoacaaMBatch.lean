/- The law MatmulBatches, walked. -/
import Derived.Test.YtjjgmdnmhfoacaaMBatch2
import Derived.Test.YtjjgmdnmhfoacaaMArg
import Derived.WalkMore
import Derived.Deep.RegionHeld3
import Derived.Deep.RegionWith
import Derived.BigRegion
import Derived.Deep.Cut
import Derived.Deep.CutBlock
import Derived.Deep.CutRange
set_option linter.unusedVariables false
set_option linter.unusedSimpArgs false
namespace Go.Proofs.Ytjjgmdnmhfoacaa
open Go.RowKit Go.Rt

set_option maxHeartbeats 8000000 in
set_option maxRecDepth 100000 in
theorem batches_any (a : Option Addr) (n c : Nat) (w : World) (h : TwosAt w w.heap.size a n) :
    Calls Try.prog 3 #[.slice a n c] w fun e w' => e = .returned (.bool true) ∧ Below w.heap.size w w' := by
  have hm := h.len
  go_enter Try.func3, Try.ntmps3
  go_wp2_with fail
  go_loopw [3] (fun i wr => ∃ k : Nat, k ≤ n ∧ i = .int .i64 k ∧ Below w.heap.size w wr) (fun i _ => n - (intOf i).toNat)
  case atStart => exact ⟨0, Nat.zero_le _, rfl, Below.refl _ _⟩
  case round =>
    obtain ⟨k, hk, rfl, hbel⟩ := hrel
    obtain ⟨wo, rfl⟩ : ∃ wo : World, wo = wr := ⟨_, rfl⟩
    by_cases hend : k < n ∧ k < 6
    · obtain ⟨hlt, h6⟩ := hend
      obtain ⟨b, off, ⟨aA, cA, bA, dA, xsA, ysA⟩, ⟨aB, cB, bB, dB, xsB, ysB⟩, F, rfl, ht⟩ := h.at_ k hlt
      replace ht := ht.below hbel
      have hsz := hbel.size
      obtain ⟨hbl, c0, c1, c2, c3, c4, tA, tB, F0, F1⟩ := ht
      replace tA := tA.mono hsz
      replace tB := tB.mono hsz
      have HB := Lib.hid hbel
      simp only at c0 c1 c2 c3 tA tB
      have E : TEnv wo.heap.size wo (wo.alloc (.cells #[.slice aA xsA.length cA, .slice bA ysA.length dA, .slice aB xsB.length cB, .slice bB ysB.length dB, .int .i64 F] 28))
          [⟨aA, cA, bA, dA, xsA, ysA⟩, ⟨aB, cB, bB, dB, xsB, ysB⟩] [(⟨wo.heap.size, 0, none⟩, .slice aA xsA.length cA), (⟨wo.heap.size, 1, none⟩, .slice bA ysA.length dA), (⟨wo.heap.size, 2, none⟩, .slice aB xsB.length cB), (⟨wo.heap.size, 3, none⟩, .slice bB ysB.length dB), (⟨wo.heap.size, 4, none⟩, .int .i64 F)] :=
        ((((((((TEnv.start wo).addT tB).addT tA).alloc _).addC (by simp [go_sem])).addC (by simp [go_sem])).addC (by simp [go_sem])).addC (by simp [go_sem])).addC (by simp [go_sem])
      have lA := tA.sh.len
      have lB := tB.sh.len
      have mA := tA.da.len
      have mB := tB.da.len
      have HH := Lib.hid (heavy10_any aA bA aB bB xsA.length cA ysA.length dA xsB.length cB ysB.length dB F (wo.alloc (.cells #[.slice aA xsA.length cA, .slice bA ysA.length dA, .slice aB xsB.length cB, .slice bB ysB.length dB, .int .i64 F] 28)) lA mA lB mB)
      clear tA tB hbel h
      cases hhv : heavy2 xsA.length ysA.length xsB.length ysB.length with
      | true =>
        rw [hhv] at HH
        clear hhv
        go_wp2_with fail
        refine HH.out.mono ?_
        rintro e w1 ⟨rfl, hb⟩
        have HE := Lib.hid (E.bel.trans (hb.mono E.hB))
        clear hb E HH
        go_wp2_with fail
        go_ret
        exact ⟨rfl, HB.out.trans (HE.out.mono hsz)⟩
      | false =>
        rw [hhv] at HH
        have hA40 : ysA.length ≤ 40 ∧ xsA.length ≤ 8 ∧ ysB.length ≤ 40 ∧ xsB.length ≤ 8 := by
          unfold heavy2 at hhv
          simp at hhv
          omega
        obtain ⟨hA40, hA8, hB40, hB8⟩ := hA40
        clear hhv lA lB mA mB
        go_upto_region 7 with (refine HH.out.mono ?_; rintro e w1 ⟨rfl, hb⟩; replace E := E.next hb; clear hb HH c0 c1 c2 c3 c4)
        have MA := True.intro
        have MB := True.intro
        cases tA : tenB xsA ysA with
        | false =>
          have p1x := E.cellN 0 rfl
          have p2x := E.cellN 1 rfl
          have p3x := E.cellN 2 rfl
          have p4x := E.cellN 3 rfl
          have p5x := E.cellN 4 rfl
          go_wp2_with (first | (go_at_call 8; have hmk := MA; clear hmk MA; refine (tenMay_any _ _ _ _ _ _ _ (E.tenN 0 rfl).sh (E.tenN 0 rfl).da).mono ?_; rintro e w2 ⟨he, hb⟩; rw [tA] at he; subst he; replace E := E.next hb; clear p1x p2x p3x p4x p5x; have p6x := E.cellN 0 rfl; have p7x := E.cellN 1 rfl; have p8x := E.cellN 2 rfl; have p9x := E.cellN 3 rfl; have p10x := E.cellN 4 rfl; clear hb))
          go_roundw
          case rel => exact ⟨k + 1, by omega, by go_num, HB.out.trans (E.bel.mono hsz)⟩
          case measure => simp [intOf]; omega
        | true =>
          cases tB : tenB xsB ysB with
          | false =>
            have p11x := E.cellN 0 rfl
            have p12x := E.cellN 1 rfl
            have p13x := E.cellN 2 rfl
            have p14x := E.cellN 3 rfl
            have p15x := E.cellN 4 rfl
            go_wp2_with (first | (go_at_call 8; have hmk := MA; clear hmk MA; refine (tenMay_any _ _ _ _ _ _ _ (E.tenN 0 rfl).sh (E.tenN 0 rfl).da).mono ?_; rintro e w2 ⟨he, hb⟩; rw [tA] at he; subst he; replace E := E.next hb; clear p11x p12x p13x p14x p15x; have p16x := E.cellN 0 rfl; have p17x := E.cellN 1 rfl; have p18x := E.cellN 2 rfl; have p19x := E.cellN 3 rfl; have p20x := E.cellN 4 rfl; clear hb) | (go_at_call 8; have hmk := MB; clear hmk MB; refine (tenMay_any _ _ _ _ _ _ _ (E.tenN 1 rfl).sh (E.tenN 1 rfl).da).mono ?_; rintro e w3 ⟨he, hb⟩; rw [tB] at he; subst he; replace E := E.next hb; clear p16x p17x p18x p19x p20x; have p21x := E.cellN 0 rfl; have p22x := E.cellN 1 rfl; have p23x := E.cellN 2 rfl; have p24x := E.cellN 3 rfl; have p25x := E.cellN 4 rfl; clear hb))
            go_roundw
            case rel => exact ⟨k + 1, by omega, by go_num, HB.out.trans (E.bel.mono hsz)⟩
            case measure => simp [intOf]; omega
          | true =>
            by_cases h2 : ¬ xsA.length = 3
            · have hd2 : ((xsA.length : Int) != 3) = true := by simp; omega
              have p26x := E.cellN 0 rfl
              have p27x := E.cellN 1 rfl
              have p28x := E.cellN 2 rfl
              have p29x := E.cellN 3 rfl
              have p30x := E.cellN 4 rfl
              go_wp2_with (first | (go_at_call 8; have hmk := MA; clear hmk MA; refine (tenMay_any _ _ _ _ _ _ _ (E.tenN 0 rfl).sh (E.tenN 0 rfl).da).mono ?_; rintro e w2 ⟨he, hb⟩; rw [tA] at he; subst he; replace E := E.next hb; clear p26x p27x p28x p29x p30x; have p31x := E.cellN 0 rfl; have p32x := E.cellN 1 rfl; have p33x := E.cellN 2 rfl; have p34x := E.cellN 3 rfl; have p35x := E.cellN 4 rfl; clear hb) | (go_at_call 8; have hmk := MB; clear hmk MB; refine (tenMay_any _ _ _ _ _ _ _ (E.tenN 1 rfl).sh (E.tenN 1 rfl).da).mono ?_; rintro e w3 ⟨he, hb⟩; rw [tB] at he; subst he; replace E := E.next hb; clear p31x p32x p33x p34x p35x; have p36x := E.cellN 0 rfl; have p37x := E.cellN 1 rfl; have p38x := E.cellN 2 rfl; have p39x := E.cellN 3 rfl; have p40x := E.cellN 4 rfl; clear hb))
              go_roundw
              case rel => exact ⟨k + 1, by omega, by go_num, HB.out.trans (E.bel.mono hsz)⟩
              case measure => simp [intOf]; omega
            · have hd2 : ((xsA.length : Int) != 3) = false := by simp; omega
              replace h2 : xsA.length = 3 := by omega
              have hl0 : 0 < xsA.length := by omega
              have hl1 : 1 < xsA.length := by omega
              have hl2 : 2 < xsA.length := by omega
              have hk0 : (0 : Int) < (xsA.length : Int) := by omega
              have hk1 : (1 : Int) < (xsA.length : Int) := by omega
              have hk2 : (2 : Int) < (xsA.length : Int) := by omega
              obtain ⟨f, hf, hf0, hf1⟩ : ∃ f : Nat, 8 + withinN F 25 = (f : Int) ∧ 8 ≤ f ∧ f ≤ 32 := ⟨(8 + withinN F 25).toNat, by have := withinN_bound F 25 (by decide); omega, by have := withinN_bound F 25 (by decide); omega, by have := withinN_bound F 25 (by decide); omega⟩
              have hF := fun w => Lib.hid (f_any F w ⟨F0, F1⟩)
              rw [hf] at hF
              clear hf
              obtain ⟨P, R, I, hxA⟩ := list3 h2 (tenB_iff.1 tA).1
              have hM1 := fun a b c d a2 b2 c2 d2 W h1 h2 => Lib.hid (matMul_any a b a2 b2 c d c2 d2 f xsA ysA xsB ysB W h1 h2 tA tB hf0 hf1)
              have HPY := Lib.hid (mulY_isW xsA ysA xsB ysB f)
              have HFA := Lib.hid (fun h => batch_facts (f := f) hxA tA tB h)
              have hSH := fun a c a2 c2 W h1 h2 k1 k2 k3 k4 => Lib.hid (mulShape_any a a2 c c2 xsA xsB W h1 h2 (goodB_iff.1 (tenB_iff.1 tA).1).1 (goodB_iff.1 (tenB_iff.1 tB).1).1 k1 k2 k3 k4)
              have hXA4 := Lib.hid (goodB_iff.1 (tenB_iff.1 tA).1).1
              generalize mulX xsA ysA xsB ysB f = XP at *
              generalize mulY xsA ysA xsB ysB f = YP at *
              generalize mulE xsA ysA xsB ysB f = ZP at *
              have HX2 := Lib.hid h2
              have HXA := Lib.hid hxA
              have TA := Lib.hid tA
              have TB := Lib.hid tB
              clear hxA h2
              have p41x := E.cellN 0 rfl
              have p42x := E.cellN 1 rfl
              have p43x := E.cellN 2 rfl
              have p44x := E.cellN 3 rfl
              have p45x := E.cellN 4 rfl
              go_upto_region 9 with (first | (go_at_call 8; have hmk := MA; clear hmk MA; refine (tenMay_any _ _ _ _ _ _ _ (E.tenN 0 rfl).sh (E.tenN 0 rfl).da).mono ?_; rintro e w2 ⟨he, hb⟩; rw [tA] at he; subst he; replace E := E.next hb; clear p41x p42x p43x p44x p45x; have p46x := E.cellN 0 rfl; have p47x := E.cellN 1 rfl; have p48x := E.cellN 2 rfl; have p49x := E.cellN 3 rfl; have p50x := E.cellN 4 rfl; clear hb) | (go_at_call 8; have hmk := MB; clear hmk MB; refine (tenMay_any _ _ _ _ _ _ _ (E.tenN 1 rfl).sh (E.tenN 1 rfl).da).mono ?_; rintro e w3 ⟨he, hb⟩; rw [tB] at he; subst he; replace E := E.next hb; clear p46x p47x p48x p49x p50x; have p51x := E.cellN 0 rfl; have p52x := E.cellN 1 rfl; have p53x := E.cellN 2 rfl; have p54x := E.cellN 3 rfl; have p55x := E.cellN 4 rfl; clear hb) | (go_at_call 9; refine (hF _).out.mono ?_; rintro e w' ⟨rfl, rfl⟩))
              clear tA tB
              go_upto_region 10 with (first | (go_at_call 10; refine (hM1 _ _ _ _ _ _ _ _ _ (E.tenN 0 rfl) (E.tenN 1 rfl)).out.mono ?_; rintro e w7 ⟨a7, c7, b7, d7, m7, rfl, _, hm, hI, ⟨hcap, hsh⟩, hO, hb⟩; replace E := E.made hb hm hI hcap hO (HPY.out); clear hb hm hI hcap hsh hO; clear p51x p52x p53x p54x p55x))
              obtain ⟨V7, hV7⟩ : ∃ V : World, w7.alloc (.cells #[.slice a7 XP.length c7, .slice b7 YP.length d7] 26) = V := ⟨_, rfl⟩
              replace E := E.box (.slice a7 XP.length c7) (.slice b7 YP.length d7) 26
              rw [hV7] at E ⊢
              clear hV7
              have p56x := E.cellN 2 rfl
              have p57x := E.cellN 3 rfl
              have p58x := E.cellN 4 rfl
              have p59x := E.cellN 5 rfl
              have p60x := E.cellN 6 rfl
              clear hM1
              generalize hoR : outR xsA xsB = SR at *
              generalize hoE : outE xsA xsB = SE at *
              have HOR := Lib.hid hoR
              have HOE := Lib.hid hoE
              clear hoR hoE
              go_upto_region 11 with (first | (go_at_call 11; refine (hSH _ _ _ _ _ (E.tenN 1 rfl).sh (E.tenN 2 rfl).sh (E.tenN 1 rfl).c1 (E.tenN 2 rfl).c1 (E.tenN 1 rfl).c2 (E.tenN 2 rfl).c2).out.mono ?_; rintro e w8 ⟨v8, rfl, hO8, hb⟩; have HO8 := Lib.hid hO8; obtain ⟨a8, c8, rfl, _⟩ := own_shape hO8; replace E := E.next hb; clear hb hO8; clear p56x p57x p58x p59x p60x))
              clear hSH
              by_cases hz : ZP = 0
              · obtain ⟨C, BF⟩ := HFA.out hz
                have hz1 : (ZP != 0) = false := by simp [hz]
                have hse : SE = 0 := by rw [← HOE.out]; exact BF.oE
                subst hse
                clear hz HFA
                have hsr : SR = [(P : Int), (R : Int), (C : Int)] := by rw [← HOR.out]; unfold outR; rw [if_pos HOE.out, BF.oL]
                have g1 := BF.p1
                have g2 := BF.r1
                have g3 := BF.i1
                have g4 := BF.c1
                obtain ⟨a9, c9, he, I8⟩ := own_ints HO8.out (by rw [hsr]; intro x hx; simp at hx; rcases hx with rfl | rfl | rfl <;> exact wf_i64_iff.2 ⟨by omega, by omega⟩)
                have hl8 : SR.length = 3 := by rw [hsr]; rfl
                cases he
                have HSR := Lib.hid hsr
                have HL8 := Lib.hid hl8
                have hs0 : 1 < SR.length := by omega
                have hs2 : 2 < SR.length := by omega
                have hs1 : (1 : Int) < (SR.length : Int) := by omega
                have hs3 : (2 : Int) < (SR.length : Int) := by omega
                obtain ⟨bs, os, es, _, cs1⟩ := I8.cell 1 hs0
                have q1 : SR[1]?.getD 0 = (R : Int) := by rw [hsr]; rfl
                rw [q1] at cs1
                clear q1
                obtain ⟨bs2, os2, es2, _, cs2⟩ := I8.cell 2 hs2
                have q1 : SR[2]?.getD 0 = (C : Int) := by rw [hsr]; rfl
                rw [q1] at cs2
                clear q1
                rw [es] at es2
                cases es2
                subst es
                have hcnt : countE SR = ((P * (R * C) : Nat) : Int) := by rw [hsr]; exact count3 BF.bT g1 g2 g4
                have HCN := Lib.hid hcnt
                have hD8 : Dims SR := by rw [hsr]; exact goodB_dims (good3_iff.2 ⟨g1, g2, g4, BF.bT⟩)
                have HD8 := Lib.hid hD8
                have HBF := Lib.hid BF
                clear BF hsr hl8 hcnt hD8
                obtain ⟨bx, ox, ex, _, cx1⟩ := (E.tenN 1 rfl).sh.cell 1 hl1
                have q1 : xsA[1]?.getD 0 = (R : Int) := by rw [HXA.out]; rfl
                rw [q1] at cx1
                clear q1
                obtain ⟨bx2, ox2, ex2, _, cx2⟩ := (E.tenN 1 rfl).sh.cell 2 hl2
                have q1 : xsA[2]?.getD 0 = (I : Int) := by rw [HXA.out]; rfl
                rw [q1] at cx2
                clear q1
                rw [ex] at ex2
                cases ex2
                subst ex
                obtain ⟨RI, hRI, ri1, ri2, q1⟩ : ∃ RI : Nat, Hid (RI = R * I) ∧ 1 ≤ RI ∧ RI ≤ 40 ∧ RowKit.wrap64 ((R : Int) * I) = (RI : Int) := batch_ri HBF.out hA40
                obtain ⟨RC, hRC, rc1, rc2, q2⟩ : ∃ RC : Nat, Hid (RC = R * C) ∧ 1 ≤ RC ∧ RC ≤ 65536 ∧ RowKit.wrap64 ((R : Int) * C) = (RC : Int) := batch_rc HBF.out
                have q1i : ∀ [Inhabited Unit], IntKind.i64.wrap ((R : Int) * I) = (RI : Int) := by intro _; rw [IntWalk.i64_left]; exact q1
                have q2i : ∀ [Inhabited Unit], IntKind.i64.wrap ((R : Int) * C) = (RC : Int) := by intro _; rw [IntWalk.i64_left]; exact q2
                replace q1 : ∀ [Inhabited Unit], RowKit.wrap64 ((R : Int) * I) = (RI : Int) := q1
                replace q2 : ∀ [Inhabited Unit], RowKit.wrap64 ((R : Int) * C) = (RC : Int) := q2
                obtain ⟨bx3, ox3, ex3, _, cx0⟩ := (E.tenN 1 rfl).sh.cell 0 hl0
                have q3 : xsA[0]?.getD 0 = (P : Int) := by rw [HXA.out]; rfl
                rw [q3, Nat.add_zero] at cx0
                clear q3
                cases ex3
                replace E := ((((E.addC cx0).addC cx1).addC cx2).addC cs1).addC cs2
                clear cx0 cx1 cx2 cs1 cs2
                have p61x := E.cellN 7 rfl
                have p62x := E.cellN 3 rfl
                have p63x := E.cellN 2 rfl
                go_upto_region 12 with (first | (go_at_call 12; refine (num10_any _ _).mono ?_; rintro e w' ⟨rfl, rfl⟩))
                go_quiet (fail)
                replace E := E.drewN nq
                obtain ⟨V9, hV9⟩ : ∃ V : World, w8.drewN nq = V := ⟨_, rfl⟩
                rw [hV9] at E ⊢
                have b9 : Below w8.heap.size w8 V9 := by rw [← hV9]; exact below_drewN (Below.refl _ _) _
                clear hV9
                clear p61x p62x p63x
                have p64x := E.cellN 1 rfl
                have p65x := E.cellN 0 rfl
                go_upto_region 13 with fail
                go_quiet (fail)
                replace E := E.drewN nq
                obtain ⟨V10, hV10⟩ : ∃ V : World, V9.drewN nq = V := ⟨_, rfl⟩
                rw [hV10] at E ⊢
                have b10 : Below w8.heap.size w8 V10 := by rw [← hV10]; exact below_drewN b9 _
                clear hV10 b9
                clear p64x p65x
                have p66x := E.cellN 6 rfl
                have hCt := fun W (hb : Below w8.heap.size w8 W) => Lib.hid (rcount_any _ c8 w8.heap.size SR W (I8.below hb (Nat.le_refl _)) HD8.out)
                rw [HCN.out] at hCt
                have e6 : ((YP.length : Int) != ((P * (R * C) : Nat) : Int)) = false := by rw [HBF.out.eY]; simp
                generalize P * (R * C) = PRC at *
                go_upto_region 14 with fail
                go_quiet (first | (go_at_call 13; exact quietSame (hCt _ (below_drewN b10 _)).out))
                replace E := E.drewN nq
                obtain ⟨V11, hV11⟩ : ∃ V : World, V10.drewN nq = V := ⟨_, rfl⟩
                rw [hV11] at E ⊢
                clear hV11 hCt e6 b10 I8
                clear p66x
                have HE := Lib.hid E
                generalize hQ7 : w7.heap.size = Q7 at *
                clear hQ7
                have HE0 : Hid (TEnv wo.heap.size wo V11 [⟨a7, c7, b7, d7, XP, YP⟩, ⟨some ⟨bx, ox, none⟩, cA, bA, dA, xsA, ysA⟩, ⟨aB, cB, bB, dB, xsB, ysB⟩] [(⟨bs, os + 2, none⟩, .int .i64 C), (⟨bs, os + 1, none⟩, .int .i64 R), (⟨bx, ox + 2, none⟩, .int .i64 I), (⟨bx, ox + 1, none⟩, .int .i64 R), (⟨bx, ox, none⟩, .int .i64 P), (⟨Q7, 0, none⟩, .slice a7 XP.length c7), (⟨Q7, 1, none⟩, .slice b7 YP.length d7), (⟨wo.heap.size, 0, none⟩, .slice (some ⟨bx, ox, none⟩) xsA.length cA), (⟨wo.heap.size, 1, none⟩, .slice bA ysA.length dA), (⟨wo.heap.size, 2, none⟩, .slice aB xsB.length cB), (⟨wo.heap.size, 3, none⟩, .slice bB ysB.length dB), (⟨wo.heap.size, 4, none⟩, .int .i64 F)]) := HE
                clear HE E
                go_wp2_with fail
                go_loopw [12] (fun i wr => ∃ j : Nat, j ≤ P ∧ i = .int .i64 j ∧ Hid (TEnv wo.heap.size wo wr [⟨a7, c7, b7, d7, XP, YP⟩, ⟨some ⟨bx, ox, none⟩, cA, bA, dA, xsA, ysA⟩, ⟨aB, cB, bB, dB, xsB, ysB⟩] [(⟨bs, os + 2, none⟩, .int .i64 C), (⟨bs, os + 1, none⟩, .int .i64 R), (⟨bx, ox + 2, none⟩, .int .i64 I), (⟨bx, ox + 1, none⟩, .int .i64 R), (⟨bx, ox, none⟩, .int .i64 P), (⟨Q7, 0, none⟩, .slice a7 XP.length c7), (⟨Q7, 1, none⟩, .slice b7 YP.length d7), (⟨wo.heap.size, 0, none⟩, .slice (some ⟨bx, ox, none⟩) xsA.length cA), (⟨wo.heap.size, 1, none⟩, .slice bA ysA.length dA), (⟨wo.heap.size, 2, none⟩, .slice aB xsB.length cB), (⟨wo.heap.size, 3, none⟩, .slice bB ysB.length dB), (⟨wo.heap.size, 4, none⟩, .int .i64 F)])) (fun i _ => P - (intOf i).toNat)
                case atStart => exact ⟨0, Nat.zero_le _, rfl, HE0⟩
                case round =>
                  obtain ⟨j, hj, rfl, HE⟩ := hrel
                  clear HE0
                  obtain ⟨wi, rfl⟩ : ∃ wi : World, wi = wr := ⟨_, rfl⟩
                  have E := HE.out
                  clear HE
                  have p67x := E.cellN 7 rfl
                  have p68x := E.cellN 4 rfl
                  by_cases hjl : j < P
                  · have g1 := HBF.out.p1
                    obtain ⟨jRI, eRI, hjRI, hA1, hA0, hAs, p1, p2⟩ := batch_place (n := RI) HBF.out.lA hjl hRI.out (by omega) (by omega)
                    obtain ⟨jRC, eRC, hjRC, hY1, hY0, hYs, p3, p4⟩ := batch_place (n := RC) HBF.out.eY hjl hRC.out rc2 (by rw [HBF.out.eY]; exact HBF.out.bT)
                    have hdA := (E.tenN 1 rfl).d1
                    have hdA2 := (E.tenN 1 rfl).d2
                    have hcA := (E.tenN 1 rfl).c1
                    have hcA2 := (E.tenN 1 rfl).c2
                    have hcA3 : ¬ cA = 1 := by omega
                    have hcA4 : 1 ≤ cA := by omega
                    have hx1 : 1 ≤ xsA.length := by omega
                    have hx1i : (1 : Int) ≤ (xsA.length : Int) := by omega
                    have hA6 : (jRI : Int) ≤ (eRI : Int) := by omega
                    have hj1 : ∀ [Inhabited Unit], IntKind.i64.wrap ((j : Int) + 1) = (j : Int) + 1 := by intro _; rw [IntWalk.i64_left]; exact IntWalk.wrap64_in _ ⟨by omega, by omega⟩
                    have hA2 : eRI ≤ dA := Nat.le_trans hA1 hdA
                    have hA3 : ¬ dA = jRI := by omega
                    have hA4 : jRI ≤ dA := by omega
                    have hA7 : (eRI : Int) ≤ (dA : Int) := by omega
                    have hjn : (0 : Int) ≤ (j : Int) := by omega
                    obtain ⟨bu, ou, eu, _, _⟩ := (E.tenN 1 rfl).da.cell 0 (by omega)
                    subst eu
                    have p69x := E.cellN 8 rfl
                    go_upto_region 19 with fail
                    refine wp_region_held_drew (S := (fun w' => w'.cell? ⟨wo.heap.size, 0, none⟩ = some (.slice (some ⟨bx, ox, none⟩) xsA.length cA) ∧ w'.cell? ⟨wo.heap.size, 1, none⟩ = some (.slice (some ⟨bu, ou, none⟩) ysA.length dA))) (by kernel_rfl) (by go_keep) (fun hHeld => ?_)
                    refine takeY (i := 0) (dst := (some 113)) (v := ?_) rfl rfl (by kernel_rfl) (by kernel_rfl) (by kernel_rfl) (fun _ _ _ h => h) (by rfl) ?hy1w0 (by assumption) ?rest1w0
                    case hy1w0 => (intro w hSw; (try dsimp only at hSw); go_simp; (try with_reducible rfl))
                    try simp only [Act.put, List.setIfInBounds_toArray, List.set_cons_zero, List.set_cons_succ]
                    refine takeY (i := 1) (dst := (some 114)) (v := ?_) rfl rfl (by kernel_rfl) (by kernel_rfl) (by kernel_rfl) (fun _ _ _ h => h) (by rfl) ?hy1w1 (by assumption) ?rest1w1
                    case hy1w1 => (intro w hSw; (try dsimp only at hSw); go_simp; (try with_reducible rfl))
                    try simp only [Act.put, List.setIfInBounds_toArray, List.set_cons_zero, List.set_cons_succ]
                    refine takeY (i := 2) (dst := (some 115)) (v := ?_) rfl rfl (by kernel_rfl) (by kernel_rfl) (by kernel_rfl) (fun _ _ _ h => h) (by rfl) ?hy1w2 (by assumption) ?rest1w2
                    case hy1w2 => (intro w hSw; (try dsimp only at hSw); go_simp; (try with_reducible rfl))
                    try simp only [Act.put, List.setIfInBounds_toArray, List.set_cons_zero, List.set_cons_succ]
                    refine takeY (i := 3) (dst := (some 116)) (v := ?_) rfl rfl (by kernel_rfl) (by kernel_rfl) (by kernel_rfl) (fun _ _ _ h => h) (by rfl) ?hy1w3 (by assumption) ?rest1w3
                    case hy1w3 => (intro w hSw; (try dsimp only at hSw); go_simp; (try with_reducible rfl))
                    try simp only [Act.put, List.setIfInBounds_toArray, List.set_cons_zero, List.set_cons_succ]
                    refine takeY (i := 4) (dst := (some 117)) (v := ?_) rfl rfl (by kernel_rfl) (by kernel_rfl) (by kernel_rfl) (fun _ _ _ h => h) (by rfl) ?hy1w4 (by assumption) ?rest1w4
                    case hy1w4 => (intro w hSw; (try dsimp only at hSw); go_simp; (try with_reducible rfl))
                    try simp only [Act.put, List.setIfInBounds_toArray, List.set_cons_zero, List.set_cons_succ]
                    refine takeY (i := 5) (dst := (some 118)) (v := ?_) rfl rfl (by kernel_rfl) (by kernel_rfl) (by kernel_rfl) (fun _ _ _ h => h) (by rfl) ?hy1w5 (by assumption) ?rest1w5
                    case hy1w5 => (intro w hSw; (try dsimp only at hSw); go_simp; (try with_reducible rfl))
                    try simp only [Act.put, List.setIfInBounds_toArray, List.set_cons_zero, List.set_cons_succ]
                    refine takeY (i := 6) (dst := (some 119)) (v := ?_) rfl rfl (by kernel_rfl) (by kernel_rfl) (by kernel_rfl) (fun _ _ _ h => h) (by rfl) ?hy1w6 (by assumption) ?rest1w6
                    case hy1w6 => (intro w hSw; (try dsimp only at hSw); go_simp; (try with_reducible rfl))
                    try simp only [Act.put, List.setIfInBounds_toArray, List.set_cons_zero, List.set_cons_succ]
                    refine takeY (i := 7) (dst := (some 120)) (v := ?_) rfl rfl (by kernel_rfl) (by kernel_rfl) (by kernel_rfl) (fun _ _ _ h => h) (by rfl) ?hy1w7 (by assumption) ?rest1w7
                    case hy1w7 => (intro w hSw; (try dsimp only at hSw); go_simp; (try with_reducible rfl))
                    try simp only [Act.put, List.setIfInBounds_toArray, List.set_cons_zero, List.set_cons_succ]
                    refine takeY (i := 8) (dst := (some 121)) (v := ?_) rfl rfl (by kernel_rfl) (by kernel_rfl) (by kernel_rfl) (fun _ _ _ h => h) (by rfl) ?hy1w8 (by assumption) ?rest1w8
                    case hy1w8 => (intro w hSw; (try dsimp only at hSw); go_simp; (try with_reducible rfl))
                    try simp only [Act.put, List.setIfInBounds_toArray, List.set_cons_zero, List.set_cons_succ]
                    refine takeY (i := 9) (dst := (some 122)) (v := ?_) rfl rfl (by kernel_rfl) (by kernel_rfl) (by kernel_rfl) (fun _ _ _ h => h) (by rfl) ?hy1w9 (by assumption) ?rest1w9
                    case hy1w9 => (intro w hSw; (try dsimp only at hSw); go_simp; (try with_reducible rfl))
                    try simp only [Act.put, List.setIfInBounds_toArray, List.set_cons_zero, List.set_cons_succ]
                    refine takeY (i := 10) (dst := (some 123)) (v := ?_) rfl rfl (by kernel_rfl) (by kernel_rfl) (by kernel_rfl) (fun _ _ _ h => h) (by rfl) ?hy1w10 (by assumption) ?rest1w10
                    case hy1w10 => (intro w hSw; (try dsimp only at hSw); go_simp; (try with_reducible rfl))
                    try simp only [Act.put, List.setIfInBounds_toArray, List.set_cons_zero, List.set_cons_succ]
                    refine takeY (i := 11) (dst := (some 124)) (v := ?_) rfl rfl (by kernel_rfl) (by kernel_rfl) (by kernel_rfl) (fun _ _ _ h => h) (by rfl) ?hy1w11 (by assumption) ?rest1w11
                    case hy1w11 => (intro w hSw; (try dsimp only at hSw); go_simp; (try with_reducible rfl))
                    try simp only [Act.put, List.setIfInBounds_toArray, List.set_cons_zero, List.set_cons_succ]
                    refine takeY (i := 12) (dst := (some 125)) (v := ?_) rfl rfl (by kernel_rfl) (by kernel_rfl) (by kernel_rfl) (fun _ _ _ h => h) (by rfl) ?hy1w12 (by assumption) ?rest1w12
                    case hy1w12 => (intro w hSw; (try dsimp only at hSw); go_simp; (try with_reducible rfl))
                    try simp only [Act.put, List.setIfInBounds_toArray, List.set_cons_zero, List.set_cons_succ]
                    refine takeY (i := 13) (dst := (some 126)) (v := ?_) rfl rfl (by kernel_rfl) (by kernel_rfl) (by kernel_rfl) (fun _ _ _ h => h) (by rfl) ?hy1w13 (by assumption) ?rest1w13
                    case hy1w13 => (intro w hSw; (try dsimp only at hSw); go_simp; (try with_reducible rfl))
                    try simp only [Act.put, List.setIfInBounds_toArray, List.set_cons_zero, List.set_cons_succ]
                    refine takeY (i := 14) (dst := (some 127)) (v := ?_) rfl rfl (by kernel_rfl) (by kernel_rfl) (by kernel_rfl) (fun _ _ _ h => h) (by rfl) ?hy1w14 (by assumption) ?rest1w14
                    case hy1w14 => (intro w hSw; (try dsimp only at hSw); go_simp; (try with_reducible rfl))
                    try simp only [Act.put, List.setIfInBounds_toArray, List.set_cons_zero, List.set_cons_succ]
                    refine takeY (i := 15) (dst := (some 128)) (v := ?_) rfl rfl (by kernel_rfl) (by kernel_rfl) (by kernel_rfl) (fun _ _ _ h => h) (by rfl) ?hy1w15 (by assumption) ?rest1w15
                    case hy1w15 => (intro w hSw; (try dsimp only at hSw); go_simp; (try with_reducible rfl))
                    try simp only [Act.put, List.setIfInBounds_toArray, List.set_cons_zero, List.set_cons_succ]
                    refine wpAnyH_ready (rs := [16]) (by kernel_rfl) (by simp) (AllReadyH.cons rfl (fun K hK => ?_) AllReadyH.nil)
                    go_simp
                    skip
                    (try go_wp2_with fail)
                    refine hK.out _ _ (by go_keep) (fun hHeld => ?_)
                    clear hK K
                    try simp only [Act.put, List.setIfInBounds_toArray, List.set_cons_zero, List.set_cons_succ]
                    refine wpAnyH_ready (rs := [17]) (by kernel_rfl) (by simp) (AllReadyH.cons rfl (fun K hK => ?_) AllReadyH.nil)
                    go_simp
                    skip
                    (try go_wp2_with fail)
                    refine hK.out _ _ (by go_keep) (fun hHeld => ?_)
                    clear hK K
                    try simp only [Act.put, List.setIfInBounds_toArray, List.set_cons_zero, List.set_cons_succ]
                    refine wpAnyH_done (by kernel_rfl) ?_ _
                    obtain ⟨ta, la⟩ := blk_tens (E.tenN 1 rfl) HXA.out hjRI hA1
                    replace E := ((E.addT ta).box (.slice (some ⟨bx, ox + 1, none⟩) (xsA.length - 1) (cA - 1)) (.slice (some ⟨bu, ou + jRI, none⟩) RI (dA - jRI)) 26).next (Below.drew (Below.refl _ _))
                    obtain ⟨V19, hV19⟩ : ∃ V : World, (wi.alloc (.cells #[.slice (some ⟨bx, ox + 1, none⟩) (xsA.length - 1) (cA - 1), .slice (some ⟨bu, ou + jRI, none⟩) RI (dA - jRI)] 26)).drew = V := ⟨_, rfl⟩
                    rw [hV19] at E ⊢
                    clear hV19 p1 p2 hHeld 
                    have HLA := Lib.hid la
                    clear ta la
                    generalize hQ1 : wi.heap.size = Q1 at *
                    have HQ1 := Lib.hid hQ1
                    clear hQ1
                    have p70x := E.cellN 11 rfl
                    have p71x := E.cellN 12 rfl
                    go_upto_region 21 with fail
                    have hC20 := Lib.hid (fun p hp => (E.cells p hp).2)
                    have hB20 := E.hB
                    have X20 := box2_new V19 (.slice aB xsB.length cB) (.slice bB ysB.length dB) 26
                    replace E := E.box (.slice aB xsB.length cB) (.slice bB ysB.length dB) 26
                    obtain ⟨V20, hV20⟩ : ∃ V : World, V19.alloc (.cells #[.slice aB xsB.length cB, .slice bB ysB.length dB] 26) = V := ⟨_, rfl⟩
                    rw [hV20] at E X20 ⊢
                    have HX20 := Lib.hid X20
                    clear hV20 X20
                    clear p70x p71x
                    have p72x := E.cellN 13 rfl
                    rcases HBF.out.len with hb2 | hb3
                    · have e21 : ((xsB.length : Int) == 3) = false := by simp; omega
                      as_aux_lemma =>
                        obtain ⟨z0, zY⟩ := HBF.out.two hb2 j hjl
                        rw [← hRI.out] at z0 zY
                        rw [← hRC.out] at zY
                        have tAj := HBF.out.tA j hjl
                        rw [← hRI.out] at tAj
                        have hM2 := fun a b c d a2 b2 c2 d2 W h1 h2 => blk_mul (n := xsA.length - 1) (m := RI) tAj TB.out hf0 hf1 z0 zY (by rw [HX2.out]; rfl) HLA.out rfl rfl a b a2 b2 c d c2 d2 W h1 h2
                        have i5 : ∀ y ∈ blk YP j RC, isW y = true := blk_mem HBF.out.iY
                        generalize mulX [(R : Int), (I : Int)] (blk ysA j RI) xsB ysB f = X5 at *
                        clear z0 zY tAj hb2
                        have I5 := Lib.hid i5
                        obtain ⟨Y5, hY5⟩ : ∃ Y, blk YP j RC = Y := ⟨_, rfl⟩
                        rw [hY5] at hM2 I5
                        have HY5 := Lib.hid hY5
                        clear hY5
                        go_upto_region 24 with fail
                        clear p72x
                        have p73x := E.cellN 2 rfl
                        have p74x := E.cellN 3 rfl
                        have p75x := E.cellN 0 rfl
                        have p76x := E.cellN 1 rfl
                        go_upto_region 25 with (first | (go_at_call 10; refine (hM2 _ _ _ _ _ _ _ _ _ (E.tenN 0 rfl) (E.tenN 3 rfl)).out.mono ?_; rintro e w24 ⟨a24, c24, b24, d24, m24, rfl, _, hm, hI, ⟨hcap, hsh⟩, hO, hb⟩; replace E := E.made hb hm hI hcap hO (I5.out); clear hb hm hI hcap hsh hO; clear p73x p74x p75x p76x))
                        obtain ⟨V24, hV24⟩ : ∃ V : World, w24.alloc (.cells #[.slice a24 X5.length c24, .slice b24 Y5.length d24] 26) = V := ⟨_, rfl⟩
                        replace E := E.box (.slice a24 X5.length c24) (.slice b24 Y5.length d24) 26
                        rw [hV24] at E ⊢
                        clear hV24
                        have p77x := E.cellN 1 rfl
                        have p78x := E.cellN 12 rfl
                        have hdY := (E.tenN 2 rfl).d1
                        have hdY2 := (E.tenN 2 rfl).d2
                        have hY2 : eRC ≤ d7 := Nat.le_trans hY1 hdY
                        have hY3 : ¬ d7 = jRC := by omega
                        have hY6 : (jRC : Int) ≤ (eRC : Int) := by omega
                        have hY7 : (eRC : Int) ≤ (d7 : Int) := by omega
                        obtain ⟨bt, ot, et, _, _⟩ := (E.tenN 2 rfl).da.cell 0 (by omega)
                        subst et
                        obtain ⟨iY, lY⟩ := intsSub (E.tenN 2 rfl).da jRC RC (by have := hjRC.out.2; omega)
                        have eY : (YP.drop jRC).take RC = Y5 := by rw [hjRC.out.1]; exact HY5.out
                        rw [eY] at iY lY
                        have hq : ∀ W, Below V24.heap.size V24 W → Hid (Calls Try.prog 14 #[.slice b24 Y5.length d24, .slice (some ⟨bt, ot + jRC, none⟩) RC (d7 - jRC)] W fun e w' => e = .returned (.bool true) ∧ ∃ q, w' = W.drewN q) := by
                          intro W hb
                          have h := eqWords_any b24 (some ⟨bt, ot + jRC, none⟩) d24 (d7 - jRC) V24.heap.size Y5 Y5 W ((E.tenN 0 rfl).da.below hb (Nat.le_refl _)) (iY.below hb (Nat.le_refl _))
                          rw [decide_eq_true (show Y5 = Y5 from rfl), lY] at h
                          rw [lY]
                          exact Lib.hid h
                        clear iY lY eY
                        go_quiet (first | (go_at_call 12; exact quietSame (num10_any _ _)) | (go_at_call 14; exact Calls.quiet_of (hq _ (below_drewN (Below.refl _ _) _)).out))
                        replace E := E.drewN nq
                        go_wp2
                        have HEn : Hid (TEnv wo.heap.size wo (V24.drewN nq) [⟨a7, c7, some ⟨bt, ot, none⟩, d7, XP, YP⟩, ⟨some ⟨bx, ox, none⟩, cA, some ⟨bu, ou, none⟩, dA, xsA, ysA⟩, ⟨aB, cB, bB, dB, xsB, ysB⟩] [(⟨bs, os + 2, none⟩, .int .i64 C), (⟨bs, os + 1, none⟩, .int .i64 R), (⟨bx, ox + 2, none⟩, .int .i64 I), (⟨bx, ox + 1, none⟩, .int .i64 R), (⟨bx, ox, none⟩, .int .i64 P), (⟨Q7, 0, none⟩, .slice a7 XP.length c7), (⟨Q7, 1, none⟩, .slice (some ⟨bt, ot, none⟩) YP.length d7), (⟨wo.heap.size, 0, none⟩, .slice (some ⟨bx, ox, none⟩) xsA.length cA), (⟨wo.heap.size, 1, none⟩, .slice (some ⟨bu, ou, none⟩) ysA.length dA), (⟨wo.heap.size, 2, none⟩, .slice aB xsB.length cB), (⟨wo.heap.size, 3, none⟩, .slice bB ysB.length dB), (⟨wo.heap.size, 4, none⟩, .int .i64 F)]) := Lib.hid E.tailT.tailT.tailC.tailC.tailC.tailC.tailC.tailC
                        go_roundw
                        case rel => exact ⟨j + 1, by omega, by go_num, HEn⟩
                        case measure => simp [intOf]; omega
                    · have e21 : ((xsB.length : Int) == 3) = true := by simp; omega
                      as_aux_lemma =>
                        obtain ⟨hxB, hlB, hk3⟩ := HBF.out.three hb3
                        obtain ⟨tbj, z0, zY⟩ := hk3 j hjl
                        rw [← hRI.out] at z0 zY
                        rw [← hRC.out] at zY
                        have tAj := HBF.out.tA j hjl
                        rw [← hRI.out] at tAj
                        obtain ⟨IC, hIC, ic1, ic2, q3⟩ := batch_ic HBF.out hB40 hlB
                        have q3i : ∀ [Inhabited Unit], IntKind.i64.wrap ((I : Int) * C) = (IC : Int) := by intro _; rw [IntWalk.i64_left]; exact q3
                        clear q3
                        rw [← hIC.out] at tbj z0 zY
                        obtain ⟨jIC, eIC, hjIC, hB1, hB0, hBs, p5, p6⟩ := batch_place (n := IC) hlB hjl hIC.out (by omega) (by omega)
                        obtain ⟨bz, oz, ez, _, cz1⟩ := (E.tenN 3 rfl).sh.cell 1 (by omega)
                        have q4 : xsB[1]?.getD 0 = (I : Int) := by rw [hxB]; rfl
                        rw [q4] at cz1
                        clear q4
                        obtain ⟨bz2, oz2, ez2, _, cz2⟩ := (E.tenN 3 rfl).sh.cell 2 (by omega)
                        have q4 : xsB[2]?.getD 0 = (C : Int) := by rw [hxB]; rfl
                        rw [q4] at cz2
                        clear q4
                        rw [ez] at ez2
                        cases ez2
                        subst ez
                        obtain ⟨bv, ov, ev, _, _⟩ := (E.tenN 3 rfl).da.cell 0 (by omega)
                        subst ev
                        have hcB := (E.tenN 3 rfl).c1
                        have hcB2 := (E.tenN 3 rfl).c2
                        have hdB := (E.tenN 3 rfl).d1
                        have hdB2 := (E.tenN 3 rfl).d2
                        have hl3 : (1 : Int) < (xsB.length : Int) := by omega
                        have hl4 : 1 < xsB.length := by omega
                        have hl5 : (2 : Int) < (xsB.length : Int) := by omega
                        have hl6 : 2 < xsB.length := by omega
                        have hcB3 : ¬ cB = 1 := by omega
                        have hcB4 : 1 ≤ cB := by omega
                        have hxB1 : 1 ≤ xsB.length := by omega
                        have hxB2 : (1 : Int) ≤ (xsB.length : Int) := by omega
                        have hB2 : eIC ≤ dB := Nat.le_trans hB1 hdB
                        have hB3 : ¬ dB = jIC := by omega
                        have hB4 : jIC ≤ dB := by omega
                        have hB7 : (eIC : Int) ≤ (dB : Int) := by omega
                        have hB6 : (jIC : Int) ≤ (eIC : Int) := by omega
                        have HXB := Lib.hid hxB
                        have HB3 := Lib.hid hb3
                        clear hxB hb3 hlB hk3
                        go_upto_region 22 with fail
                        go_quiet (fail)
                        replace E := E.drewN nq
                        obtain ⟨V22, hV22⟩ : ∃ V : World, V20.drewN nq = V := ⟨_, rfl⟩
                        rw [hV22] at E ⊢
                        have X22 := HX20.out.below (w' := V22) (n := V20.heap.size) (by rw [← hV22]; exact below_drewN (Below.refl _ _) _) (World.block_lt_of_cell? V20 _ HX20.out.c0)
                        obtain ⟨_, _, x2, x3⟩ := X22
                        clear hV22 cz1 cz2
                        clear p72x
                        have p79x := E.cellN 13 rfl
                        have p80x := E.cellN 14 rfl
                        have p81x := E.cellN 0 rfl
                        have p82x := E.cellN 1 rfl
                        go_upto_region 23 with fail
                        have hq2 : wo.heap.size < V19.heap.size := hC20.out _ (List.mem_of_getElem? (i := 11) rfl)
                        have hq3 : ¬ V19.heap.size = wo.heap.size := by omega
                        have hq4 : ¬ wo.heap.size = V19.heap.size := by omega
                        refine wp_region_held_drew (S := (fun w' => w'.cell? ⟨wo.heap.size, 2, none⟩ = some (.slice (some ⟨bz, oz, none⟩) xsB.length cB) ∧ w'.cell? ⟨wo.heap.size, 3, none⟩ = some (.slice (some ⟨bv, ov, none⟩) ysB.length dB))) (by kernel_rfl) (by go_keep) (fun hHeld => ?_)
                        refine takeY (i := 0) (dst := (some 147)) (v := ?_) rfl rfl (by kernel_rfl) (by kernel_rfl) (by kernel_rfl) (fun _ _ _ h => h) (by rfl) ?hy2w0 (by assumption) ?rest2w0
                        case hy2w0 => (intro w hSw; (try dsimp only at hSw); go_simp; (try with_reducible rfl))
                        try simp only [Act.put, List.setIfInBounds_toArray, List.set_cons_zero, List.set_cons_succ]
                        refine takeY (i := 1) (dst := (some 148)) (v := ?_) rfl rfl (by kernel_rfl) (by kernel_rfl) (by kernel_rfl) (fun _ _ _ h => h) (by rfl) ?hy2w1 (by assumption) ?rest2w1
                        case hy2w1 => (intro w hSw; (try dsimp only at hSw); go_simp; (try with_reducible rfl))
                        try simp only [Act.put, List.setIfInBounds_toArray, List.set_cons_zero, List.set_cons_succ]
                        refine takeY (i := 2) (dst := (some 149)) (v := ?_) rfl rfl (by kernel_rfl) (by kernel_rfl) (by kernel_rfl) (fun _ _ _ h => h) (by rfl) ?hy2w2 (by assumption) ?rest2w2
                        case hy2w2 => (intro w hSw; (try dsimp only at hSw); go_simp; (try with_reducible rfl))
                        try simp only [Act.put, List.setIfInBounds_toArray, List.set_cons_zero, List.set_cons_succ]
                        refine takeY (i := 3) (dst := (some 150)) (v := ?_) rfl rfl (by kernel_rfl) (by kernel_rfl) (by kernel_rfl) (fun _ _ _ h => h) (by rfl) ?hy2w3 (by assumption) ?rest2w3
                        case hy2w3 => (intro w hSw; (try dsimp only at hSw); go_simp; (try with_reducible rfl))
                        try simp only [Act.put, List.setIfInBounds_toArray, List.set_cons_zero, List.set_cons_succ]
                        refine takeY (i := 4) (dst := (some 151)) (v := ?_) rfl rfl (by kernel_rfl) (by kernel_rfl) (by kernel_rfl) (fun _ _ _ h => h) (by rfl) ?hy2w4 (by assumption) ?rest2w4
                        case hy2w4 => (intro w hSw; (try dsimp only at hSw); go_simp; (try with_reducible rfl))
                        try simp only [Act.put, List.setIfInBounds_toArray, List.set_cons_zero, List.set_cons_succ]
                        refine takeY (i := 5) (dst := (some 152)) (v := ?_) rfl rfl (by kernel_rfl) (by kernel_rfl) (by kernel_rfl) (fun _ _ _ h => h) (by rfl) ?hy2w5 (by assumption) ?rest2w5
                        case hy2w5 => (intro w hSw; (try dsimp only at hSw); go_simp; (try with_reducible rfl))
                        try simp only [Act.put, List.setIfInBounds_toArray, List.set_cons_zero, List.set_cons_succ]
                        refine takeY (i := 6) (dst := (some 153)) (v := ?_) rfl rfl (by kernel_rfl) (by kernel_rfl) (by kernel_rfl) (fun _ _ _ h => h) (by rfl) ?hy2w6 (by assumption) ?rest2w6
                        case hy2w6 => (intro w hSw; (try dsimp only at hSw); go_simp; (try with_reducible rfl))
                        try simp only [Act.put, List.setIfInBounds_toArray, List.set_cons_zero, List.set_cons_succ]
                        refine takeY (i := 7) (dst := (some 154)) (v := ?_) rfl rfl (by kernel_rfl) (by kernel_rfl) (by kernel_rfl) (fun _ _ _ h => h) (by rfl) ?hy2w7 (by assumption) ?rest2w7
                        case hy2w7 => (intro w hSw; (try dsimp only at hSw); go_simp; (try with_reducible rfl))
                        try simp only [Act.put, List.setIfInBounds_toArray, List.set_cons_zero, List.set_cons_succ]
                        refine takeY (i := 8) (dst := (some 155)) (v := ?_) rfl rfl (by kernel_rfl) (by kernel_rfl) (by kernel_rfl) (fun _ _ _ h => h) (by rfl) ?hy2w8 (by assumption) ?rest2w8
                        case hy2w8 => (intro w hSw; (try dsimp only at hSw); go_simp; (try with_reducible rfl))
                        try simp only [Act.put, List.setIfInBounds_toArray, List.set_cons_zero, List.set_cons_succ]
                        refine takeY (i := 9) (dst := (some 156)) (v := ?_) rfl rfl (by kernel_rfl) (by kernel_rfl) (by kernel_rfl) (fun _ _ _ h => h) (by rfl) ?hy2w9 (by assumption) ?rest2w9
                        case hy2w9 => (intro w hSw; (try dsimp only at hSw); go_simp; (try with_reducible rfl))
                        try simp only [Act.put, List.setIfInBounds_toArray, List.set_cons_zero, List.set_cons_succ]
                        refine takeY (i := 10) (dst := (some 157)) (v := ?_) rfl rfl (by kernel_rfl) (by kernel_rfl) (by kernel_rfl) (fun _ _ _ h => h) (by rfl) ?hy2w10 (by assumption) ?rest2w10
                        case hy2w10 => (intro w hSw; (try dsimp only at hSw); go_simp; (try with_reducible rfl))
                        try simp only [Act.put, List.setIfInBounds_toArray, List.set_cons_zero, List.set_cons_succ]
                        refine takeY (i := 11) (dst := (some 158)) (v := ?_) rfl rfl (by kernel_rfl) (by kernel_rfl) (by kernel_rfl) (fun _ _ _ h => h) (by rfl) ?hy2w11 (by assumption) ?rest2w11
                        case hy2w11 => (intro w hSw; (try dsimp only at hSw); go_simp; (try with_reducible rfl))
                        try simp only [Act.put, List.setIfInBounds_toArray, List.set_cons_zero, List.set_cons_succ]
                        refine takeY (i := 12) (dst := (some 159)) (v := ?_) rfl rfl (by kernel_rfl) (by kernel_rfl) (by kernel_rfl) (fun _ _ _ h => h) (by rfl) ?hy2w12 (by assumption) ?rest2w12
                        case hy2w12 => (intro w hSw; (try dsimp only at hSw); go_simp; (try with_reducible rfl))
                        try simp only [Act.put, List.setIfInBounds_toArray, List.set_cons_zero, List.set_cons_succ]
                        refine takeY (i := 13) (dst := (some 160)) (v := ?_) rfl rfl (by kernel_rfl) (by kernel_rfl) (by kernel_rfl) (fun _ _ _ h => h) (by rfl) ?hy2w13 (by assumption) ?rest2w13
                        case hy2w13 => (intro w hSw; (try dsimp only at hSw); go_simp; (try with_reducible rfl))
                        try simp only [Act.put, List.setIfInBounds_toArray, List.set_cons_zero, List.set_cons_succ]
                        refine takeY (i := 14) (dst := (some 161)) (v := ?_) rfl rfl (by kernel_rfl) (by kernel_rfl) (by kernel_rfl) (fun _ _ _ h => h) (by rfl) ?hy2w14 (by assumption) ?rest2w14
                        case hy2w14 => (intro w hSw; (try dsimp only at hSw); go_simp; (try with_reducible rfl))
                        try simp only [Act.put, List.setIfInBounds_toArray, List.set_cons_zero, List.set_cons_succ]
                        refine takeY (i := 15) (dst := (some 162)) (v := ?_) rfl rfl (by kernel_rfl) (by kernel_rfl) (by kernel_rfl) (fun _ _ _ h => h) (by rfl) ?hy2w15 (by assumption) ?rest2w15
                        case hy2w15 => (intro w hSw; (try dsimp only at hSw); go_simp; (try with_reducible rfl))
                        try simp only [Act.put, List.setIfInBounds_toArray, List.set_cons_zero, List.set_cons_succ]
                        refine wpAnyH_ready (rs := [16]) (by kernel_rfl) (by simp) (AllReadyH.cons rfl (fun K hK => ?_) AllReadyH.nil)
                        go_simp
                        skip
                        (try go_wp2_with fail)
                        refine hK.out _ _ (by go_keep) (fun hHeld => ?_)
                        clear hK K
                        try simp only [Act.put, List.setIfInBounds_toArray, List.set_cons_zero, List.set_cons_succ]
                        refine wpAnyH_done (by kernel_rfl) ?_ _
                        obtain ⟨tb, lb⟩ := blk_tens (E.tenN 3 rfl) HXB.out hjIC hB1
                        have HLB := Lib.hid lb
                        replace E := ((E.addT tb).setBox hB20 hC20.out (.slice (some ⟨bz, oz + 1, none⟩) (xsB.length - 1) (cB - 1)) (.slice (some ⟨bv, ov + jIC, none⟩) IC (dB - jIC))).next (Below.drew (Below.refl _ _))
                        obtain ⟨V23, hV23⟩ : ∃ V : World, ((V22.setCell ⟨V19.heap.size, 0, none⟩ (.slice (some ⟨bz, oz + 1, none⟩) (xsB.length - 1) (cB - 1))).setCell ⟨V19.heap.size, 1, none⟩ (.slice (some ⟨bv, ov + jIC, none⟩) IC (dB - jIC))).drew = V := ⟨_, rfl⟩
                        rw [hV23] at E ⊢
                        clear hV23 tb lb hHeld x2 x3 p5 p6
                        have hM2 := fun a b c d a2 b2 c2 d2 W h1 h2 => blk_mul (n := xsA.length - 1) (m := RI) (n' := xsB.length - 1) (m' := IC) tAj tbj hf0 hf1 z0 zY (by rw [HX2.out]; rfl) HLA.out (by rw [HB3.out]; rfl) HLB.out a b a2 b2 c d c2 d2 W h1 h2
                        have i5 : ∀ y ∈ blk YP j RC, isW y = true := blk_mem HBF.out.iY
                        generalize mulX [(R : Int), (I : Int)] (blk ysA j RI) [(I : Int), (C : Int)] (blk ysB j IC) f = X5 at *
                        clear z0 zY tAj tbj
                        have I5 := Lib.hid i5
                        obtain ⟨Y5, hY5⟩ : ∃ Y, blk YP j RC = Y := ⟨_, rfl⟩
                        rw [hY5] at hM2 I5
                        have HY5 := Lib.hid hY5
                        clear hY5
                        clear p79x p80x p81x p82x
                        have p83x := E.cellN 2 rfl
                        have p84x := E.cellN 3 rfl
                        have p85x := E.cellN 0 rfl
                        have p86x := E.cellN 1 rfl
                        go_upto_region 25 with (first | (go_at_call 10; refine (hM2 _ _ _ _ _ _ _ _ _ (E.tenN 1 rfl) (E.tenN 0 rfl)).out.mono ?_; rintro e w24 ⟨a24, c24, b24, d24, m24, rfl, _, hm, hI, ⟨hcap, hsh⟩, hO, hb⟩; replace E := E.made hb hm hI hcap hO (I5.out); clear hb hm hI hcap hsh hO; clear p83x p84x p85x p86x))
                        obtain ⟨V24, hV24⟩ : ∃ V : World, w24.alloc (.cells #[.slice a24 X5.length c24, .slice b24 Y5.length d24] 26) = V := ⟨_, rfl⟩
                        replace E := E.box (.slice a24 X5.length c24) (.slice b24 Y5.length d24) 26
                        rw [hV24] at E ⊢
                        clear hV24
                        have p87x := E.cellN 1 rfl
                        have p88x := E.cellN 12 rfl
                        have hdY := (E.tenN 3 rfl).d1
                        have hdY2 := (E.tenN 3 rfl).d2
                        have hY2 : eRC ≤ d7 := Nat.le_trans hY1 hdY
                        have hY3 : ¬ d7 = jRC := by omega
                        have hY6 : (jRC : Int) ≤ (eRC : Int) := by omega
                        have hY7 : (eRC : Int) ≤ (d7 : Int) := by omega
                        obtain ⟨bt, ot, et, _, _⟩ := (E.tenN 3 rfl).da.cell 0 (by omega)
                        subst et
                        obtain ⟨iY, lY⟩ := intsSub (E.tenN 3 rfl).da jRC RC (by have := hjRC.out.2; omega)
                        have eY : (YP.drop jRC).take RC = Y5 := by rw [hjRC.out.1]; exact HY5.out
                        rw [eY] at iY lY
                        have hq : ∀ W, Below V24.heap.size V24 W → Hid (Calls Try.prog 14 #[.slice b24 Y5.length d24, .slice (some ⟨bt, ot + jRC, none⟩) RC (d7 - jRC)] W fun e w' => e = .returned (.bool true) ∧ ∃ q, w' = W.drewN q) := by
                          intro W hb
                          have h := eqWords_any b24 (some ⟨bt, ot + jRC, none⟩) d24 (d7 - jRC) V24.heap.size Y5 Y5 W ((E.tenN 0 rfl).da.below hb (Nat.le_refl _)) (iY.below hb (Nat.le_refl _))
                          rw [decide_eq_true (show Y5 = Y5 from rfl), lY] at h
                          rw [lY]
                          exact Lib.hid h
                        clear iY lY eY
                        go_quiet (first | (go_at_call 12; exact quietSame (num10_any _ _)) | (go_at_call 14; exact Calls.quiet_of (hq _ (below_drewN (Below.refl _ _) _)).out))
                        replace E := E.drewN nq
                        go_wp2
                        have HEn : Hid (TEnv wo.heap.size wo (V24.drewN nq) [⟨a7, c7, some ⟨bt, ot, none⟩, d7, XP, YP⟩, ⟨some ⟨bx, ox, none⟩, cA, some ⟨bu, ou, none⟩, dA, xsA, ysA⟩, ⟨some ⟨bz, oz, none⟩, cB, some ⟨bv, ov, none⟩, dB, xsB, ysB⟩] [(⟨bs, os + 2, none⟩, .int .i64 C), (⟨bs, os + 1, none⟩, .int .i64 R), (⟨bx, ox + 2, none⟩, .int .i64 I), (⟨bx, ox + 1, none⟩, .int .i64 R), (⟨bx, ox, none⟩, .int .i64 P), (⟨Q7, 0, none⟩, .slice a7 XP.length c7), (⟨Q7, 1, none⟩, .slice (some ⟨bt, ot, none⟩) YP.length d7), (⟨wo.heap.size, 0, none⟩, .slice (some ⟨bx, ox, none⟩) xsA.length cA), (⟨wo.heap.size, 1, none⟩, .slice (some ⟨bu, ou, none⟩) ysA.length dA), (⟨wo.heap.size, 2, none⟩, .slice (some ⟨bz, oz, none⟩) xsB.length cB), (⟨wo.heap.size, 3, none⟩, .slice (some ⟨bv, ov, none⟩) ysB.length dB), (⟨wo.heap.size, 4, none⟩, .int .i64 F)]) := Lib.hid E.tailT.tailT.tailT.tailC.tailC.tailC.tailC.tailC.tailC
                        go_roundw
                        case rel => exact ⟨j + 1, by omega, by go_num, HEn⟩
                        case measure => simp [intOf]; omega
                  · have hje : j = P := by omega
                    clear hj
                    go_wp2
                    go_roundw
                    case rel => exact ⟨k + 1, by omega, by go_num, HB.out.trans (E.bel.mono hsz)⟩
                    case measure => simp [intOf]; omega
              · have hz1 : (ZP != 0) = true := by simp [hz]
                clear hz HFA
                by_cases hse : SE = 0
                · have hse1 : (SE != 0) = false := by simp [hse]
                  go_wp2_with (first | (go_at_call 12; refine (num10_any _ _).mono ?_; rintro e w' ⟨rfl, rfl⟩))
                  go_roundw
                  case rel => exact ⟨k + 1, by omega, by go_num, HB.out.trans (E.bel.mono hsz)⟩
                  case measure => simp [intOf]; omega
                · have hse1 : (SE != 0) = true := by simp [hse]
                  go_wp2_with (first | (go_at_call 12; refine (num10_any _ _).mono ?_; rintro e w' ⟨rfl, rfl⟩))
                  go_roundw
                  case rel => exact ⟨k + 1, by omega, by go_num, HB.out.trans (E.bel.mono hsz)⟩
                  case measure => simp [intOf]; omega
    · -- the end
      have HB := Lib.hid hbel
      have hsz := hbel.size
      have HW := Lib.hid (wakes10_any wo)
      clear hbel h
      by_cases hlt : k < n
      · have h20 : ¬ k < 6 := fun h => hend ⟨hlt, h⟩
        clear hend
        go_wp2_with (go_at_call 15; refine HW.out.mono ?_; rintro e w1 ⟨rfl, hb⟩)
        go_ret
        exact ⟨rfl, HB.out.trans (hb.mono hsz)⟩
      · clear hend
        go_wp2_with (go_at_call 15; refine HW.out.mono ?_; rintro e w1 ⟨rfl, hb⟩)
        go_ret
        exact ⟨rfl, HB.out.trans (hb.mono hsz)⟩

end Go.Proofs.Ytjjgmdnmhfoacaa
