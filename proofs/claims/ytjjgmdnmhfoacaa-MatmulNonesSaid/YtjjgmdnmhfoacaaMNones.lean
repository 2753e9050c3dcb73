/- The law MatmulNones, walked. -/
import Derived.Test.YtjjgmdnmhfoacaaMArg
import Derived.WalkMore
import Derived.Deep.RegionHeld3
import Derived.Deep.RegionWith
import Derived.BigRegion
import Derived.Deep.Cut
import Derived.Deep.CutBlock
import Derived.Deep.CutRange
set_option linter.unusedVariables false
set_option linter.unusedSimpArgs false
namespace Go.Proofs.Ytjjgmdnmhfoacaa
open Go.RowKit Go.Rt

set_option maxHeartbeats 8000000 in
set_option maxRecDepth 100000 in
theorem nones_any (a : Option Addr) (n c : Nat) (w : World) (h : TwosAt w w.heap.size a n) :
    Calls Try.prog 4 #[.slice a n c] w fun e w' => e = .returned (.bool true) ∧ Below w.heap.size w w' := by
  have hm := h.len
  go_enter Try.func4, Try.ntmps4
  go_wp2_with fail
  go_loopw [3] (fun i wr => ∃ k : Nat, k ≤ n ∧ i = .int .i64 k ∧ Below w.heap.size w wr) (fun i _ => n - (intOf i).toNat)
  case atStart => exact ⟨0, Nat.zero_le _, rfl, Below.refl _ _⟩
  case round =>
    obtain ⟨k, hk, rfl, hbel⟩ := hrel
    obtain ⟨wo, rfl⟩ : ∃ wo : World, wo = wr := ⟨_, rfl⟩
    by_cases hend : k < n ∧ k < 6
    · obtain ⟨hlt, h6⟩ := hend
      obtain ⟨b, off, ⟨aA, cA, bA, dA, xsA, ysA⟩, ⟨aB, cB, bB, dB, xsB, ysB⟩, F, rfl, ht⟩ := h.at_ k hlt
      replace ht := ht.below hbel
      have hsz := hbel.size
      obtain ⟨hbl, c0, c1, c2, c3, c4, tA, tB, F0, F1⟩ := ht
      replace tA := tA.mono hsz
      replace tB := tB.mono hsz
      have HB := Lib.hid hbel
      simp only at c0 c1 c2 c3 tA tB
      have E : TEnv wo.heap.size wo (wo.alloc (.cells #[.slice aA xsA.length cA, .slice bA ysA.length dA, .slice aB xsB.length cB, .slice bB ysB.length dB, .int .i64 F] 28))
          [⟨aA, cA, bA, dA, xsA, ysA⟩, ⟨aB, cB, bB, dB, xsB, ysB⟩] [(⟨wo.heap.size, 0, none⟩, .slice aA xsA.length cA), (⟨wo.heap.size, 1, none⟩, .slice bA ysA.length dA), (⟨wo.heap.size, 2, none⟩, .slice aB xsB.length cB), (⟨wo.heap.size, 3, none⟩, .slice bB ysB.length dB), (⟨wo.heap.size, 4, none⟩, .int .i64 F)] :=
        ((((((((TEnv.start wo).addT tB).addT tA).alloc _).addC (by simp [go_sem])).addC (by simp [go_sem])).addC (by simp [go_sem])).addC (by simp [go_sem])).addC (by simp [go_sem])
      have lA := tA.sh.len
      have lB := tB.sh.len
      have mA := tA.da.len
      have mB := tB.da.len
      have HH := Lib.hid (heavy10_any aA bA aB bB xsA.length cA ysA.length dA xsB.length cB ysB.length dB F (wo.alloc (.cells #[.slice aA xsA.length cA, .slice bA ysA.length dA, .slice aB xsB.length cB, .slice bB ysB.length dB, .int .i64 F] 28)) lA mA lB mB)
      clear tA tB hbel h
      cases hhv : heavy2 xsA.length ysA.length xsB.length ysB.length with
      | true =>
        rw [hhv] at HH
        clear hhv
        go_wp2_with fail
        refine HH.out.mono ?_
        rintro e w1 ⟨rfl, hb⟩
        have HE := Lib.hid (E.bel.trans (hb.mono E.hB))
        clear hb E HH
        go_wp2_with fail
        go_ret
        exact ⟨rfl, HB.out.trans (HE.out.mono hsz)⟩
      | false =>
        rw [hhv] at HH
        have hA40 : ysA.length ≤ 40 ∧ xsA.length ≤ 8 ∧ ysB.length ≤ 40 ∧ xsB.length ≤ 8 := by
          unfold heavy2 at hhv
          simp at hhv
          omega
        obtain ⟨hA40, hA8, hB40, hB8⟩ := hA40
        clear hhv lA lB mA mB
        go_upto_region 7 with (refine HH.out.mono ?_; rintro e w1 ⟨rfl, hb⟩; replace E := E.next hb; clear hb HH c0 c1 c2 c3 c4)
        have MA := True.intro
        have MB := True.intro
        cases tA : tenB xsA ysA with
        | false =>
          have p1x := E.cellN 0 rfl
          have p2x := E.cellN 1 rfl
          have p3x := E.cellN 2 rfl
          have p4x := E.cellN 3 rfl
          have p5x := E.cellN 4 rfl
          go_wp2_with (first | (go_at_call 8; have hmk := MA; clear hmk MA; refine (tenMay_any _ _ _ _ _ _ _ (E.tenN 0 rfl).sh (E.tenN 0 rfl).da).mono ?_; rintro e w2 ⟨he, hb⟩; rw [tA] at he; subst he; replace E := E.next hb; clear p1x p2x p3x p4x p5x; have p6x := E.cellN 0 rfl; have p7x := E.cellN 1 rfl; have p8x := E.cellN 2 rfl; have p9x := E.cellN 3 rfl; have p10x := E.cellN 4 rfl; clear hb))
          go_roundw
          case rel => exact ⟨k + 1, by omega, by go_num, HB.out.trans (E.bel.mono hsz)⟩
          case measure => simp [intOf]; omega
        | true =>
          cases tB : tenB xsB ysB with
          | false =>
            have p11x := E.cellN 0 rfl
            have p12x := E.cellN 1 rfl
            have p13x := E.cellN 2 rfl
            have p14x := E.cellN 3 rfl
            have p15x := E.cellN 4 rfl
            go_wp2_with (first | (go_at_call 8; have hmk := MA; clear hmk MA; refine (tenMay_any _ _ _ _ _ _ _ (E.tenN 0 rfl).sh (E.tenN 0 rfl).da).mono ?_; rintro e w2 ⟨he, hb⟩; rw [tA] at he; subst he; replace E := E.next hb; clear p11x p12x p13x p14x p15x; have p16x := E.cellN 0 rfl; have p17x := E.cellN 1 rfl; have p18x := E.cellN 2 rfl; have p19x := E.cellN 3 rfl; have p20x := E.cellN 4 rfl; clear hb) | (go_at_call 8; have hmk := MB; clear hmk MB; refine (tenMay_any _ _ _ _ _ _ _ (E.tenN 1 rfl).sh (E.tenN 1 rfl).da).mono ?_; rintro e w3 ⟨he, hb⟩; rw [tB] at he; subst he; replace E := E.next hb; clear p16x p17x p18x p19x p20x; have p21x := E.cellN 0 rfl; have p22x := E.cellN 1 rfl; have p23x := E.cellN 2 rfl; have p24x := E.cellN 3 rfl; have p25x := E.cellN 4 rfl; clear hb))
            go_roundw
            case rel => exact ⟨k + 1, by omega, by go_num, HB.out.trans (E.bel.mono hsz)⟩
            case measure => simp [intOf]; omega
          | true =>
            by_cases h2 : xsA.length < 2
            · have hd2 : decide ((xsA.length : Int) < 2) = true := by simp; omega
              have p26x := E.cellN 0 rfl
              have p27x := E.cellN 1 rfl
              have p28x := E.cellN 2 rfl
              have p29x := E.cellN 3 rfl
              have p30x := E.cellN 4 rfl
              go_wp2_with (first | (go_at_call 8; have hmk := MA; clear hmk MA; refine (tenMay_any _ _ _ _ _ _ _ (E.tenN 0 rfl).sh (E.tenN 0 rfl).da).mono ?_; rintro e w2 ⟨he, hb⟩; rw [tA] at he; subst he; replace E := E.next hb; clear p26x p27x p28x p29x p30x; have p31x := E.cellN 0 rfl; have p32x := E.cellN 1 rfl; have p33x := E.cellN 2 rfl; have p34x := E.cellN 3 rfl; have p35x := E.cellN 4 rfl; clear hb) | (go_at_call 8; have hmk := MB; clear hmk MB; refine (tenMay_any _ _ _ _ _ _ _ (E.tenN 1 rfl).sh (E.tenN 1 rfl).da).mono ?_; rintro e w3 ⟨he, hb⟩; rw [tB] at he; subst he; replace E := E.next hb; clear p31x p32x p33x p34x p35x; have p36x := E.cellN 0 rfl; have p37x := E.cellN 1 rfl; have p38x := E.cellN 2 rfl; have p39x := E.cellN 3 rfl; have p40x := E.cellN 4 rfl; clear hb))
              go_roundw
              case rel => exact ⟨k + 1, by omega, by go_num, HB.out.trans (E.bel.mono hsz)⟩
              case measure => simp [intOf]; omega
            · have hd2 : decide ((xsA.length : Int) < 2) = false := by simp; omega
              replace h2 : 2 ≤ xsA.length := by omega
              have p41x := E.cellN 0 rfl
              have p42x := E.cellN 1 rfl
              have p43x := E.cellN 2 rfl
              have p44x := E.cellN 3 rfl
              have p45x := E.cellN 4 rfl
              obtain ⟨f, hf, hf0, hf1⟩ : ∃ f : Nat, 8 + withinN F 25 = (f : Int) ∧ 8 ≤ f ∧ f ≤ 32 := ⟨(8 + withinN F 25).toNat, by have := withinN_bound F 25 (by decide); omega, by have := withinN_bound F 25 (by decide); omega, by have := withinN_bound F 25 (by decide); omega⟩
              have hF := fun w => Lib.hid (f_any F w ⟨F0, F1⟩)
              rw [hf] at hF
              clear hf
              go_upto_region 9 with (first | (go_at_call 8; have hmk := MA; clear hmk MA; refine (tenMay_any _ _ _ _ _ _ _ (E.tenN 0 rfl).sh (E.tenN 0 rfl).da).mono ?_; rintro e w2 ⟨he, hb⟩; rw [tA] at he; subst he; replace E := E.next hb; clear p41x p42x p43x p44x p45x; have p46x := E.cellN 0 rfl; have p47x := E.cellN 1 rfl; have p48x := E.cellN 2 rfl; have p49x := E.cellN 3 rfl; have p50x := E.cellN 4 rfl; clear hb) | (go_at_call 8; have hmk := MB; clear hmk MB; refine (tenMay_any _ _ _ _ _ _ _ (E.tenN 1 rfl).sh (E.tenN 1 rfl).da).mono ?_; rintro e w3 ⟨he, hb⟩; rw [tB] at he; subst he; replace E := E.next hb; clear p46x p47x p48x p49x p50x; have p51x := E.cellN 0 rfl; have p52x := E.cellN 1 rfl; have p53x := E.cellN 2 rfl; have p54x := E.cellN 3 rfl; have p55x := E.cellN 4 rfl; clear hb) | (go_at_call 9; refine (hF _).out.mono ?_; rintro e w' ⟨rfl, rfl⟩))
              have hT1 := fun a b c d W hT => Lib.hid (turn_any a b c d xsA ysA W hT tA h2)
              have tT := turn_ten tA h2
              have hs2 : 2 ≤ (swapL xsA).length := by rw [swapL_len]; exact h2
              have hT2 := fun a b c d W hT => Lib.hid (turn_any a b c d (swapL xsA) (turnL xsA ysA) W hT tT hs2)
              rw [swapL_swapL h2, turn_turn tA h2] at hT2
              have iT := (tenB_iff.1 tT).2.2
              have iA := (tenB_iff.1 tA).2.2
              generalize swapL xsA = X1 at *
              generalize turnL xsA ysA = Y1 at *
              have hEq := fun a b a2 b2 c d c2 d2 W h1 h2 h3 h4 => Lib.hid (eqTensor_any a b a2 b2 c d c2 d2 xsA ysA xsA ysA W h1 h2 h3 h4)
              rw [decide_eq_true (show xsA = xsA from rfl), decide_eq_true (show ysA = ysA from rfl)] at hEq
              have hCp := fun a b c d W hT => Lib.hid (copyTensor_any a b c d xsA ysA W hT (by omega) (by omega))
              have ITT := Lib.hid iT
              have IAA := Lib.hid iA
              have TA := Lib.hid tA
              have TB := Lib.hid tB
              clear tT iT iA tA tB
              go_upto_region 10 with (first | (go_at_call 16; refine (hT1 _ _ _ _ _ (E.tenN 0 rfl)).out.mono ?_; rintro e w4 ⟨a4, c4, b4, d4, m4, rfl, _, hm, hI, ⟨hcap, hsh⟩, hO, hb⟩; replace E := E.made hb hm hI hcap hO (ITT.out); clear hb hm hI hcap hsh hO; clear p51x p52x p53x p54x p55x))
              obtain ⟨V4, hV4⟩ : ∃ V : World, w4.alloc (.cells #[.slice a4 X1.length c4, .slice b4 Y1.length d4] 26) = V := ⟨_, rfl⟩
              replace E := E.box (.slice a4 X1.length c4) (.slice b4 Y1.length d4) 26
              rw [hV4] at E ⊢
              clear hV4
              have p56x := E.cellN 0 rfl
              have p57x := E.cellN 1 rfl
              go_upto_region 11 with (first | (go_at_call 16; refine (hT2 _ _ _ _ _ (E.tenN 0 rfl)).out.mono ?_; rintro e w5 ⟨a5, c5, b5, d5, m5, rfl, _, hm, hI, ⟨hcap, hsh⟩, hO, hb⟩; replace E := E.made hb hm hI hcap hO (IAA.out); clear hb hm hI hcap hsh hO; clear p56x p57x))
              obtain ⟨V5, hV5⟩ : ∃ V : World, w5.alloc (.cells #[.slice a5 xsA.length c5, .slice b5 ysA.length d5] 26) = V := ⟨_, rfl⟩
              replace E := E.box (.slice a5 xsA.length c5) (.slice b5 ysA.length d5) 26
              rw [hV5] at E ⊢
              clear hV5
              have p58x := E.cellN 4 rfl
              have p59x := E.cellN 5 rfl
              have p60x := E.cellN 0 rfl
              have p61x := E.cellN 1 rfl
              go_upto_region 13 with (first | (go_at_call 12; refine (num10_any _ _).mono ?_; rintro e w' ⟨rfl, rfl⟩) | (go_at_call 17; refine (hEq _ _ _ _ _ _ _ _ _ (E.tenN 0 rfl).sh (E.tenN 0 rfl).da (E.tenN 2 rfl).sh (E.tenN 2 rfl).da).out.mono ?_; rintro e w6 ⟨rfl, hb⟩; replace E := E.next hb; clear p58x p59x p60x p61x; have p62x := E.cellN 4 rfl; have p63x := E.cellN 5 rfl; clear hb))
              have E0 := Lib.hid E
              go_upto_region 14 with (first | (go_at_call 18; refine (hCp _ _ _ _ _ (E.tenN 2 rfl)).out.mono ?_; rintro e w7 ⟨a7, c7, b7, d7, m7, rfl, hm0, hm, hI, hcap, hO, hb⟩; have HB7 := Lib.hid hb; clear p62x p63x; clear hb E))
              have hy1 : 1 ≤ ysA.length := by have h := (tenB_iff.1 TA.out).2.1; have h2 := goodB_prod (tenB_iff.1 TA.out).1; omega
              obtain ⟨g7, hg7, hmg, hQ7, hF7⟩ := fill_start (a := a7) (c := c7) (xs := xsA) hO hy1 26
              subst hg7
              obtain ⟨V7, hV7⟩ : ∃ V : World, w7.alloc (.cells #[.slice a7 xsA.length c7, .slice (some ⟨g7, 0, none⟩) ysA.length d7] 26) = V := ⟨_, rfl⟩
              have b7V : Below w7.heap.size w7 V7 := by rw [← hV7]; exact (Below.refl _ _).alloc (Nat.le_refl _) _
              have b67 : Below w6.heap.size w6 V7 := HB7.out.trans (b7V.mono HB7.out.size)
              have HI7 := Lib.hid (hI.below b7V hm)
              have HB67 := Lib.hid b67
              have HCAP := Lib.hid hcap
              rw [hV7] at hF7 ⊢
              obtain ⟨fn, hfn⟩ : ∃ fn : Nat → Int, (fun j => -(ysA[j]?.getD 0)) = fn := ⟨_, rfl⟩
              have HFN := Lib.hid hfn
              have HF0 : Hid (Fill V7 V7 m7 w7.heap.size g7 d7 ysA.length (.slice a7 xsA.length c7) (.slice (some ⟨g7, 0, none⟩) ysA.length d7) (mixL fn ysA 0)) := Lib.hid (by rw [mixL_zero]; exact hF7)
              clear hV7 b7V b67 hO hI hcap hF7 hfn HB7
              generalize w7.heap.size = Q7 at *
              go_wp2_with fail
              go_loopw [11] (fun i wr => ∃ j : Nat, j ≤ ysA.length ∧ i = .int .i64 j ∧ Hid (Fill V7 wr m7 Q7 g7 d7 ysA.length (.slice a7 xsA.length c7) (.slice (some ⟨g7, 0, none⟩) ysA.length d7) (mixL fn ysA j))) (fun i _ => ysA.length - (intOf i).toNat)
              case atStart => exact ⟨0, Nat.zero_le _, rfl, HF0⟩
              case round =>
                obtain ⟨j, hj, rfl, HF⟩ := hrel
                obtain ⟨wi, rfl⟩ : ∃ wi : World, wi = wr := ⟨_, rfl⟩
                obtain ⟨t0, t1, t2, t3⟩ := HF.out.box
                clear HF0
                by_cases hjl : j < ysA.length
                · obtain ⟨fc1, fc2⟩ := HF.out.cell j hjl
                  rw [mixL_get _ _ _ hjl, List.getElem?_eq_getElem hjl] at fc1
                  simp only [Option.getD_some] at fc1
                  have hw := isW_iff.1 (IAA.out _ (List.getElem_mem hjl))
                  have hfj : fn j = -ysA[j] := by rw [← HFN.out]; show -(ysA[j]?.getD 0) = -ysA[j]; rw [List.getElem?_eq_getElem hjl]; rfl
                  have HF8 := Lib.hid ((HF.out.set j (fn j) hQ7).next (below_drewN (Below.refl _ _) 1))
                  rw [mixL_set, hfj] at HF8
                  generalize ysA[j] = y at *
                  clear hfj HF
                  go_upto_region 17 with fail
                  go_region
                  all_goals
                    go_wp2
                    go_roundw
                    case rel => exact ⟨j + 1, by omega, by go_num, HF8⟩
                    case measure => simp [intOf]; omega
                · have hje : j = ysA.length := by omega
                  subst hje
                  have E := E0.out.next (HB67.out.trans (HF.out.bel.mono hm0))
                  have hrow := HF.out.row
                  rw [mixL_full, ← HFN.out, map_range_get ysA (fun x => -x)] at hrow
                  have hNl : (ysA.map fun x => -x).length = ysA.length := List.length_map _
                  have iN : ∀ y ∈ ysA.map (fun x => -x), isW y = true := by
                    intro y hy
                    obtain ⟨x, hx, rfl⟩ := List.mem_map.1 hy
                    rw [isW_neg]
                    exact IAA.out x hx
                  have tN : tenB xsA (ysA.map fun x => -x) = true := tenB_iff.2 ⟨(tenB_iff.1 TA.out).1, by rw [hNl]; exact (tenB_iff.1 TA.out).2.1, iN⟩
                  have hM1 := fun a b c d a2 b2 c2 d2 W h1 h2 => Lib.hid (matMul_any a b a2 b2 c d c2 d2 f xsA ysA xsB ysB W h1 h2 TA.out TB.out hf0 hf1)
                  have hM2 := fun a b c d a2 b2 c2 d2 W h1 h2 => Lib.hid (matMul_any a b a2 b2 c d c2 d2 f xsA (ysA.map fun x => -x) xsB ysB W h1 h2 tN TB.out hf0 hf1)
                  rw [mulX_neg, mulY_neg, mulE_neg] at hM2
                  have hZl : (List.replicate ysA.length (0 : Int)).length = ysA.length := List.length_replicate
                  have tZ : tenB xsA (List.replicate ysA.length 0) = true := tenB_iff.2 ⟨(tenB_iff.1 TA.out).1, by rw [hZl]; exact (tenB_iff.1 TA.out).2.1, by intro y hy; rw [(List.mem_replicate.1 hy).2]; rfl⟩
                  have hM3 := fun a b c d a2 b2 c2 d2 W h1 h2 => Lib.hid (matMul_any a b a2 b2 c d c2 d2 f xsA (List.replicate ysA.length 0) xsB ysB W h1 h2 tZ TB.out hf0 hf1)
                  have HM4 := Lib.hid (mulE_none ysA.length xsA ysA xsB ysB f)
                  have HM5 := Lib.hid (mulY_none ysA.length xsA xsB ysB f)
                  have HM6 := Lib.hid (mulY_isW xsA ysA xsB ysB f)
                  have HM7 := Lib.hid (mulY_isW xsA (List.replicate ysA.length 0) xsB ysB f)
                  have iNN : ∀ y ∈ (mulY xsA ysA xsB ysB f).map (fun x => -x), isW y = true := by
                    intro y hy
                    obtain ⟨x, hx, rfl⟩ := List.mem_map.1 hy
                    rw [isW_neg]
                    exact HM6.out x hx
                  have hYl : ((mulY xsA ysA xsB ysB f).map fun x => -x).length = (mulY xsA ysA xsB ysB f).length := List.length_map _
                  have hYg : ∀ j, ((mulY xsA ysA xsB ysB f).map fun x => -x)[j]?.getD 0 = -((mulY xsA ysA xsB ysB f)[j]?.getD 0) := fun j => getD_map _ _ rfl j
                  generalize mulX xsA ysA xsB ysB f = XP at *
                  generalize mulX xsA (List.replicate ysA.length 0) xsB ysB f = XN at *
                  generalize (mulY xsA ysA xsB ysB f).map (fun x => -x) = YQ at *
                  generalize mulY xsA ysA xsB ysB f = YP at *
                  generalize mulE xsA ysA xsB ysB f = ZP at *
                  generalize mulY xsA (List.replicate ysA.length 0) xsB ysB f = YN at *
                  generalize mulE xsA (List.replicate ysA.length 0) xsB ysB f = ZN at *
                  generalize ysA.map (fun x => -x) = NY at *
                  have tn := ten_made (W' := wi) (xs := xsA) (ys := NY) (c := c7) (d := d7) (Nat.le_of_lt (Nat.lt_of_le_of_lt HF.out.lt.1 HF.out.lt.2)) (HI7.out.below HF.out.bel (Nat.le_refl _)) HCAP.out (by rw [hNl]; exact hrow) iN
                  replace E := ((E.addT tn).addC t1).addC t0
                  rw [hNl] at hM2
                  have HYQ := Lib.hid hYl
                  have HYG := Lib.hid hYg
                  have INN := Lib.hid iNN
                  have HZL := Lib.hid hZl
                  have INY := Lib.hid iN
                  have hzz : (ZP != ZP) = false := by simp
                  have hll : ((YP.length : Int) != (YQ.length : Int)) = false := by rw [hYl]; simp
                  clear tn hrow HF hNl iN tN tZ iNN hYl hYg hZl t0 t1 t2 t3
                  have p64x := E.cellN 6 rfl
                  have p65x := E.cellN 7 rfl
                  have p66x := E.cellN 8 rfl
                  have p67x := E.cellN 9 rfl
                  have p68x := E.cellN 10 rfl
                  have p69x := E.cellN 1 rfl
                  go_upto_region 19 with (first | (go_at_call 10; refine (hM1 _ _ _ _ _ _ _ _ _ (E.tenN 3 rfl) (E.tenN 4 rfl)).out.mono ?_; rintro e w8 ⟨a8, c8, b8, d8, m8, rfl, _, hm, hI, ⟨hcap, hsh⟩, hO, hb⟩; replace E := E.made hb hm hI hcap hO (HM6.out); clear hb hm hI hcap hsh hO; clear p64x p65x p66x p67x p68x p69x))
                  obtain ⟨V8, hV8⟩ : ∃ V : World, w8.alloc (.cells #[.slice a8 XP.length c8, .slice b8 YP.length d8] 26) = V := ⟨_, rfl⟩
                  replace E := E.box (.slice a8 XP.length c8) (.slice b8 YP.length d8) 26
                  rw [hV8] at E ⊢
                  clear hV8
                  have p70x := E.cellN 8 rfl
                  have p71x := E.cellN 9 rfl
                  have p72x := E.cellN 10 rfl
                  have p73x := E.cellN 11 rfl
                  have p74x := E.cellN 12 rfl
                  have p75x := E.cellN 2 rfl
                  have p76x := E.cellN 3 rfl
                  go_upto_region 20 with (first | (go_at_call 10; refine (hM2 _ _ _ _ _ _ _ _ _ (E.tenN 1 rfl) (E.tenN 5 rfl)).out.mono ?_; rintro e w9 ⟨a9, c9, b9, d9, m9, rfl, _, hm, hI, ⟨hcap, hsh⟩, hO, hb⟩; replace E := E.made hb hm hI hcap hO (INN.out); clear hb hm hI hcap hsh hO; clear p70x p71x p72x p73x p74x p75x p76x))
                  obtain ⟨V9, hV9⟩ : ∃ V : World, w9.alloc (.cells #[.slice a9 XP.length c9, .slice b9 YQ.length d9] 26) = V := ⟨_, rfl⟩
                  replace E := E.box (.slice a9 XP.length c9) (.slice b9 YQ.length d9) 26
                  rw [hV9] at E ⊢
                  clear hV9
                  have p77x := E.cellN 3 rfl
                  have p78x := E.cellN 1 rfl
                  go_upto_region 22 with (first | (go_at_call 12; refine (num10_any _ _).mono ?_; rintro e w' ⟨rfl, rfl⟩))
                  go_wp2_with fail
                  go_loopw [16] (fun i wr => ∃ j q : Nat, j ≤ YP.length ∧ i = .int .i64 j ∧ wr = V9.drewN q) (fun i _ => YP.length - (intOf i).toNat)
                  case atStart => exact ⟨0, 0, Nat.zero_le _, rfl, rfl⟩
                  case round =>
                    obtain ⟨j, q, hj, rfl, rfl⟩ := hrel
                    by_cases hjl : j < YP.length
                    · obtain ⟨bx, ox, ex, _, cx⟩ := (E.tenN 1 rfl).da.cell j hjl
                      obtain ⟨bz, oz, ez, _, cz⟩ := (E.tenN 0 rfl).da.cell j (by rw [HYQ.out]; exact hjl)
                      rw [HYG.out j] at cz
                      rw [List.getElem?_eq_getElem hjl] at cx cz
                      simp only [Option.getD_some] at cx cz
                      have hwx := isW_iff.1 (HM6.out _ (List.getElem_mem hjl))
                      subst ex
                      subst ez
                      have hjq : j < YQ.length := by rw [HYQ.out]; exact hjl
                      have hYb := (E.tenN 1 rfl).da.len
                      have hi1 : (0 : Int) ≤ (j : Int) := by omega
                      have hi2 : (j : Int) < (YP.length : Int) := by omega
                      have hi3 : (j : Int) < (YQ.length : Int) := by omega
                      generalize YP[j] = x at *
                      have e1 : ∀ [Inhabited Unit], IntKind.i64.wrap (- -x) = x := by intro _; rw [Int.neg_neg, IntWalk.i64_left]; exact IntWalk.wrap64_in _ ⟨by omega, by omega⟩
                      go_upto_region 25 with fail
                      go_quiet (fail)
                      go_wp2
                      go_roundw
                      case rel => exact ⟨j + 1, _, by omega, by go_num, rfl⟩
                      case measure => simp [intOf]; omega
                    · have hje : j = YP.length := by omega
                      subst hje
                      replace E := E.drewN q
                      obtain ⟨VA, hVA⟩ : ∃ VA : World, V9.drewN q = VA := ⟨_, rfl⟩
                      rw [hVA] at E ⊢
                      clear hVA p77x p78x
                      have p79x := E.cellN 10 rfl
                      have p80x := E.cellN 11 rfl
                      have p81x := E.cellN 3 rfl
                      have hmk : ∀ w : World, (Instr.makeSlice 24 (.int .i64 (ysA.length : Int)) (.int .i64 (ysA.length : Int))).run Try.prog w = .ok (.slice (some ⟨w.heap.size, 0, none⟩) ysA.length ysA.length) (w.alloc (.cells (madeCells #[Value.int .i64 0] ysA.length) 2)) := make_words ysA.length (by omega)
                      have hA := (E.tenN 5 rfl)
                      have HTA := Lib.hid hA
                      have HE := Lib.hid E
                      go_upto_region 27 with fail
                      go_cut [17] from 153 to 161 (fun s17 wx => NoneOK wo.heap.size wo [⟨a9, c9, b9, d9, XP, YQ⟩, ⟨a8, c8, b8, d8, XP, YP⟩, ⟨a7, c7, some ⟨g7, 0, none⟩, d7, xsA, NY⟩, ⟨a5, c5, b5, d5, xsA, ysA⟩, ⟨a4, c4, b4, d4, X1, Y1⟩, ⟨aA, cA, bA, dA, xsA, ysA⟩, ⟨aB, cB, bB, dB, xsB, ysB⟩] [(⟨w9.heap.size, 0, none⟩, .slice a9 XP.length c9), (⟨w9.heap.size, 1, none⟩, .slice b9 YQ.length d9), (⟨w8.heap.size, 0, none⟩, .slice a8 XP.length c8), (⟨w8.heap.size, 1, none⟩, .slice b8 YP.length d8), (⟨Q7, 0, none⟩, .slice a7 xsA.length c7), (⟨Q7, 1, none⟩, .slice (some ⟨g7, 0, none⟩) ysA.length d7), (⟨w5.heap.size, 0, none⟩, .slice a5 xsA.length c5), (⟨w5.heap.size, 1, none⟩, .slice b5 ysA.length d5), (⟨w4.heap.size, 0, none⟩, .slice a4 X1.length c4), (⟨w4.heap.size, 1, none⟩, .slice b4 Y1.length d4), (⟨wo.heap.size, 0, none⟩, .slice aA xsA.length cA), (⟨wo.heap.size, 1, none⟩, .slice bA ysA.length dA), (⟨wo.heap.size, 2, none⟩, .slice aB xsB.length cB), (⟨wo.heap.size, 3, none⟩, .slice bB ysB.length dB), (⟨wo.heap.size, 4, none⟩, .int .i64 F)] aA cA ysA.length xsA s17 wx)
                      case first =>
                        clear E hA
                        go_region_held3 (fun w' => w'.cell? ⟨wo.heap.size, 0, none⟩ = some (.slice aA xsA.length cA) ∧ w'.cell? ⟨wo.heap.size, 1, none⟩ = some (.slice bA ysA.length dA)) (go_keep) (fail)
                        all_goals
                          go_wp2_with fail
                          go_meet
                          first
                            | exact none_ok1 HE.out HTA.out.sh ⟨HTA.out.c1, HTA.out.c2⟩ (by omega)
                            | exact none_ok2 HE.out HTA.out.sh ⟨HTA.out.c1, HTA.out.c2⟩ (by omega)
                      case rest =>
                        clear E hA HE HTA hmk p79x p80x p81x
                        obtain ⟨q17, g17, rfl, E⟩ := hcut
                        rw [HZL.out] at hM3
                        have p82x := E.cellN 0 rfl
                        have p83x := E.cellN 1 rfl
                        have p84x := E.cellN 14 rfl
                        have p85x := E.cellN 15 rfl
                        go_upto_region 29 with (first | (go_at_call 10; refine (hM3 _ _ _ _ _ _ _ _ _ (E.tenN 0 rfl) (E.tenN 7 rfl)).out.mono ?_; rintro e w10 ⟨a10, c10, b10, d10, m10, rfl, _, hm, hI, ⟨hcap, hsh⟩, hO, hb⟩; replace E := E.made hb hm hI hcap hO (HM7.out); clear hb hm hI hcap hsh hO; clear p82x p83x p84x p85x))
                        obtain ⟨V10, hV10⟩ : ∃ V : World, w10.alloc (.cells #[.slice a10 XN.length c10, .slice b10 YN.length d10] 26) = V := ⟨_, rfl⟩
                        replace E := E.box (.slice a10 XN.length c10) (.slice b10 YN.length d10) 26
                        rw [hV10] at E ⊢
                        clear hV10
                        have p86x := E.cellN 1 rfl
                        by_cases hz : ZP = 0
                        · have hz1 : (ZP == 0) = true := by simp [hz]
                          have hz2 : (ZN != 0) = false := by simp [HM4.out hz]
                          clear hz
                          go_upto_region 31 with (first | (go_at_call 12; refine (num10_any _ _).mono ?_; rintro e w' ⟨rfl, rfl⟩))
                          go_wp2_with fail
                          go_loopw [20] (fun i wr => ∃ j : Nat, j ≤ YN.length ∧ i = .int .i64 j ∧ wr = V10) (fun i _ => YN.length - (intOf i).toNat)
                          case atStart => exact ⟨0, Nat.zero_le _, rfl, rfl⟩
                          case round =>
                            obtain ⟨j, hj, rfl, rfl⟩ := hrel
                            have hYb := (E.tenN 0 rfl).da.len
                            by_cases hjl : j < YN.length
                            · obtain ⟨bx, ox, ex, _, cx⟩ := (E.tenN 0 rfl).da.cell j hjl
                              rw [List.getElem?_eq_getElem hjl] at cx
                              simp only [Option.getD_some] at cx
                              rw [HM5.out _ (List.getElem_mem hjl)] at cx
                              subst ex
                              go_wp2
                              go_roundw
                              case rel => exact ⟨j + 1, by omega, by go_num, trivial⟩
                              case measure => simp [intOf]; omega
                            · clear hj
                              go_wp2
                              go_roundw
                              case rel => exact ⟨k + 1, by omega, by go_num, HB.out.trans (E.bel.mono hsz)⟩
                              case measure => simp [intOf]; omega
                        · have hz1 : (ZP == 0) = false := by simp [hz]
                          clear hz
                          go_upto_region 31 with (first | (go_at_call 12; refine (num10_any _ _).mono ?_; rintro e w' ⟨rfl, rfl⟩))
                          go_wp2_with fail
                          go_loopw [20] (fun i wr => ∃ j : Nat, j ≤ YN.length ∧ i = .int .i64 j ∧ wr = V10) (fun i _ => YN.length - (intOf i).toNat)
                          case atStart => exact ⟨0, Nat.zero_le _, rfl, rfl⟩
                          case round =>
                            obtain ⟨j, hj, rfl, rfl⟩ := hrel
                            have hYb := (E.tenN 0 rfl).da.len
                            by_cases hjl : j < YN.length
                            · obtain ⟨bx, ox, ex, _, cx⟩ := (E.tenN 0 rfl).da.cell j hjl
                              rw [List.getElem?_eq_getElem hjl] at cx
                              simp only [Option.getD_some] at cx
                              rw [HM5.out _ (List.getElem_mem hjl)] at cx
                              subst ex
                              go_wp2
                              go_roundw
                              case rel => exact ⟨j + 1, by omega, by go_num, trivial⟩
                              case measure => simp [intOf]; omega
                            · clear hj
                              go_wp2
                              go_roundw
                              case rel => exact ⟨k + 1, by omega, by go_num, HB.out.trans (E.bel.mono hsz)⟩
                              case measure => simp [intOf]; omega
    · -- the end
      have HB := Lib.hid hbel
      have hsz := hbel.size
      have HW := Lib.hid (wakes10_any wo)
      clear hbel h
      by_cases hlt : k < n
      · have h20 : ¬ k < 6 := fun h => hend ⟨hlt, h⟩
        clear hend
        go_wp2_with (go_at_call 15; refine HW.out.mono ?_; rintro e w1 ⟨rfl, hb⟩)
        go_ret
        exact ⟨rfl, HB.out.trans (hb.mono hsz)⟩
      · clear hend
        go_wp2_with (go_at_call 15; refine HW.out.mono ?_; rintro e w1 ⟨rfl, hb⟩)
        go_ret
        exact ⟨rfl, HB.out.trans (hb.mono hsz)⟩

end Go.Proofs.Ytjjgmdnmhfoacaa
