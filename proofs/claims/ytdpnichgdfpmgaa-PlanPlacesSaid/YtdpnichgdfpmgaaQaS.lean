/- Walks: the merge of two runs in place. -/
import Derived.Test.YtdpnichgdfpmgaaQaW
import Derived.Deep.CutRange
set_option linter.unusedVariables false
set_option linter.unusedSimpArgs false
namespace Go.Proofs.Ytdpnichgdfpmgaa
open Go.RowKit Go.Rt
attribute [local go_sem] Oper.semAt_some
theorem ls11 {α : Type} {l : List α} (h : l.length = 11) : ∃ x0 x1 x2 x3 x4 x5 x6 x7 x8 x9 x10, l = [x0, x1, x2, x3, x4, x5, x6, x7, x8, x9, x10] := by
  match l, h with
  | [x0, x1, x2, x3, x4, x5, x6, x7, x8, x9, x10], _ => exact ⟨x0, x1, x2, x3, x4, x5, x6, x7, x8, x9, x10, rfl⟩
theorem ls12 {α : Type} {l : List α} (h : l.length = 12) : ∃ x0 x1 x2 x3 x4 x5 x6 x7 x8 x9 x10 x11, l = [x0, x1, x2, x3, x4, x5, x6, x7, x8, x9, x10, x11] := by
  match l, h with
  | [x0, x1, x2, x3, x4, x5, x6, x7, x8, x9, x10, x11], _ => exact ⟨x0, x1, x2, x3, x4, x5, x6, x7, x8, x9, x10, x11, rfl⟩
theorem ls13 {α : Type} {l : List α} (h : l.length = 13) : ∃ x0 x1 x2 x3 x4 x5 x6 x7 x8 x9 x10 x11 x12, l = [x0, x1, x2, x3, x4, x5, x6, x7, x8, x9, x10, x11, x12] := by
  match l, h with
  | [x0, x1, x2, x3, x4, x5, x6, x7, x8, x9, x10, x11, x12], _ => exact ⟨x0, x1, x2, x3, x4, x5, x6, x7, x8, x9, x10, x11, x12, rfl⟩
theorem ls14 {α : Type} {l : List α} (h : l.length = 14) : ∃ x0 x1 x2 x3 x4 x5 x6 x7 x8 x9 x10 x11 x12 x13, l = [x0, x1, x2, x3, x4, x5, x6, x7, x8, x9, x10, x11, x12, x13] := by
  match l, h with
  | [x0, x1, x2, x3, x4, x5, x6, x7, x8, x9, x10, x11, x12, x13], _ => exact ⟨x0, x1, x2, x3, x4, x5, x6, x7, x8, x9, x10, x11, x12, x13, rfl⟩
theorem ls18 {α : Type} {l : List α} (h : l.length = 18) : ∃ x0 x1 x2 x3 x4 x5 x6 x7 x8 x9 x10 x11 x12 x13 x14 x15 x16 x17, l = [x0, x1, x2, x3, x4, x5, x6, x7, x8, x9, x10, x11, x12, x13, x14, x15, x16, x17] := by
  match l, h with
  | [x0, x1, x2, x3, x4, x5, x6, x7, x8, x9, x10, x11, x12, x13, x14, x15, x16, x17], _ => exact ⟨x0, x1, x2, x3, x4, x5, x6, x7, x8, x9, x10, x11, x12, x13, x14, x15, x16, x17, rfl⟩
set_option maxRecDepth 100000 in
set_option maxHeartbeats 4000000 in
theorem psym_l (bk q n cp lc : Nat) (al : Option Addr) (key : Nat → Int) (f : Nat → Nat) (a m e : Nat) (za zm ze : Int) (w : World) (h : SF w w bk n f) (hk : KA w bk q n al lc key) (hza : za = (a : Nat)) (hzm : zm = (m : Nat)) (hze : ze = (e : Nat)) (ham : m = a + 1) (hme : m < e) (hen : e ≤ n) (hR : Runs key f a m e) (hv : ∀ i, i < n → f i < n) :
    Calls Try.prog 29 #[.slice (some ⟨bk, 0, none⟩) n cp, .int .i64 za, .int .i64 zm, .int .i64 ze, .func (.func 19) #[] #[.pointer (some ⟨q, 0, none⟩)]] w fun en w' => en = .returned (.tuple #[]) ∧ ∃ g, SF w w' bk n g ∧ Srt key g a e ∧ Within f g a e := by
  subst hza; subst hzm; subst hze
  have hnb := hk.nb
  have F0 := Lib.hid h
  have K0 := Lib.hid hk
  clear h hk
  have HR := Lib.hid hR
  have HV := Lib.hid hv
  have HCM := Lib.hid (fun x y W hx hy hK => pcmp_any bk q n lc al key x y W hx hy hK)
  have hma : (m : Int) - (a : Int) = 1 := by omega
  clear hv hR
  go_enter Try.func29, Try.ntmps29
  go_wp2
  go_loopw [10, 11] (fun s10 s11 wr => ∃ (i j : Nat), s10 = .int .i64 (i : Nat) ∧ s11 = .int .i64 (j : Nat) ∧ m ≤ i ∧ i ≤ j ∧ j ≤ e ∧ Hid (∀ p, m ≤ p → p < i → ltk key (f p) (f a)) ∧ Hid (∀ p, j ≤ p → p < e → ltk key (f a) (f p)) ∧ Hid (SF w wr bk n f) ∧ Hid (KA wr bk q n al lc key)) (fun s10 s11 _ => (intOf s11).toNat - (intOf s10).toNat)
  case atStart => exact ⟨m, e, rfl, rfl, Nat.le_refl _, by omega, Nat.le_refl _, Lib.hid (fun p h1 h2 => by omega), Lib.hid (fun p h1 h2 => by omega), F0, K0⟩
  case round =>
    obtain ⟨i, j, rfl, rfl, hi, hij, hj, HLO, HHI, F1, K1⟩ := hrel
    clear F0 K0
    obtain ⟨wo, rfl⟩ : ∃ x : World, x = wr := ⟨_, rfl⟩
    by_cases hlt : i < j
    · skip
      go_upto_region 5 with fail
      obtain ⟨c, hc⟩ : ∃ z, (i + j) / 2 = z := ⟨_, rfl⟩
      have hcI : (((i : Nat) : Int) + ((j : Nat) : Int)) / 2 = (c : Int) := by omega
      rw [hcI]
      have hci : i ≤ c := by omega
      have hcj : c < j := by omega
      clear hcI hc
      obtain ⟨ex, hex⟩ : ∃ z, f c = z := ⟨_, rfl⟩
      obtain ⟨ey, hey⟩ : ∃ z, f a = z := ⟨_, rfl⟩
      have HI := Lib.hid (show c < n by omega)
      have HJ := Lib.hid (show a < n by omega)
      obtain ⟨kd, hkd⟩ : ∃ z, key ex - key ey = z := ⟨_, rfl⟩
      have hcm := fun W hK => HCM.out ex ey W (by rw [← hex]; exact HV.out c HI.out) (by rw [← hey]; exact HV.out a HJ.out) hK
      rw [hkd] at hcm
      have HC := Lib.hid hcm
      have HKD := Lib.hid hkd
      have HX1 := Lib.hid hex
      have HX2 := Lib.hid hey
      clear hex hey hkd hcm
      by_cases hkl : kd < 0
      · skip
        refine wp_region_inv (w := wo) 11 (fun _ _ => True) (fun _ W => SF w W bk n f ∧ KA W bk q n al lc key) [] [(fun u _ => u = .func (.func 19) #[] #[.pointer (some ⟨q, 0, none⟩)]), (fun u _ => u = .slice (some ⟨bk, 0, none⟩) n cp), (fun u _ => u = .int .i64 (c : Nat)), (fun u _ => u = .pointer (some ⟨bk, c, none⟩)), (fun u _ => u = .int .i64 (ex : Nat)), (fun u _ => u = .slice (some ⟨bk, 0, none⟩) n cp), (fun u _ => u = .int .i64 (a : Nat)), (fun u _ => u = .pointer (some ⟨bk, a, none⟩)), (fun u _ => u = .int .i64 (ey : Nat)), (fun u _ => u = .int .i64 kd), (fun u _ => u = .bool true)] [some 40, some 41, some 42, some 43, some 44, some 45, some 46, some 47, some 48, some 49, some 50] (by kernel_rfl) (by kernel_rfl) rfl (by kernel_rfl) (by kernel_rfl) (by decide) (by decide) (fun _ _ => trivial) trivial ⟨F1.out.drew, K1.out.next (Below.drew (Below.refl _ _))⟩ (BorneAll.at (.cons (borne_eq _) (.cons (borne_eq _) (.cons (borne_eq _) (.cons (borne_eq _) (.cons (borne_eq _) (.cons (borne_eq _) (.cons (borne_eq _) (.cons (borne_eq _) (.cons (borne_eq _) (.cons (borne_eq _) (.cons (borne_eq _) .nil)))))))))))) (fun vs b hvl hvb => ?_)
        obtain ⟨x0, x1, x2, x3, x4, x5, x6, x7, x8, x9, x10, rfl⟩ : ∃ x0 x1 x2 x3 x4 x5 x6 x7 x8 x9 x10, vs = [x0, x1, x2, x3, x4, x5, x6, x7, x8, x9, x10] := ls11 hvl
        clear hvl
        simp only [putAll, Act.put, List.setIfInBounds_toArray, List.set_cons_zero, List.set_cons_succ] at hvb
        subst hvb
        refine ⟨(.snoc (.snoc (.snoc (.snoc (.snoc (.snoc (.snoc (.snoc (.snoc (.snoc (.snoc .zero (InvOb.intro (d := (some 40)) (r := fun u _ => u = .func (.func 19) #[] #[.pointer (some ⟨q, 0, none⟩)]) 0 0 rfl rfl rfl (by kernel_rfl) (by kernel_rfl) rfl ?io5tx0)) (InvOb.intro (d := (some 41)) (r := fun u _ => u = .slice (some ⟨bk, 0, none⟩) n cp) 0 0 rfl rfl rfl (by kernel_rfl) (by kernel_rfl) rfl ?io5tx1)) (InvOb.intro (d := (some 42)) (r := fun u _ => u = .int .i64 (c : Nat)) 0 0 rfl rfl rfl (by kernel_rfl) (by kernel_rfl) rfl ?io5tx2)) (InvOb.intro (d := (some 43)) (r := fun u _ => u = .pointer (some ⟨bk, c, none⟩)) 0 0 rfl rfl rfl (by kernel_rfl) (by kernel_rfl) rfl ?io5tx3)) (InvOb.intro (d := (some 44)) (r := fun u _ => u = .int .i64 (ex : Nat)) 0 0 rfl rfl rfl (by kernel_rfl) (by kernel_rfl) rfl ?io5tx4)) (InvOb.intro (d := (some 45)) (r := fun u _ => u = .slice (some ⟨bk, 0, none⟩) n cp) 0 0 rfl rfl rfl (by kernel_rfl) (by kernel_rfl) rfl ?io5tx5)) (InvOb.intro (d := (some 46)) (r := fun u _ => u = .int .i64 (a : Nat)) 0 0 rfl rfl rfl (by kernel_rfl) (by kernel_rfl) rfl ?io5tx6)) (InvOb.intro (d := (some 47)) (r := fun u _ => u = .pointer (some ⟨bk, a, none⟩)) 0 0 rfl rfl rfl (by kernel_rfl) (by kernel_rfl) rfl ?io5tx7)) (InvOb.intro (d := (some 48)) (r := fun u _ => u = .int .i64 (ey : Nat)) 0 0 rfl rfl rfl (by kernel_rfl) (by kernel_rfl) rfl ?io5tx8)) (InvOb.intro (d := (some 49)) (r := fun u _ => u = .int .i64 kd) 0 0 rfl rfl rfl (by kernel_rfl) (by kernel_rfl) rfl ?io5tx9)) (InvOb.intro (d := (some 50)) (r := fun u _ => u = .bool true) 0 0 rfl rfl rfl (by kernel_rfl) (by kernel_rfl) rfl ?io5tx10)), ?iend5t⟩
        case io5tx0 =>
          intro k1 w1 hk0 hk1 hb1 hS hd KK hK
          clear hd
          simp only [Act.put, List.setIfInBounds_toArray, List.set_cons_zero, List.set_cons_succ] at hK
          go_simp
          first | exact hK.out _ _ trivial hS rfl | (have hk := hK.out _ _ trivial hS rfl; revert hk; go_simp)
        case io5tx1 =>
          intro k1 w1 hk0 hk1 hb1 hS hd KK hK
          clear hd
          simp only [Act.put, List.setIfInBounds_toArray, List.set_cons_zero, List.set_cons_succ] at hK
          go_simp
          first | exact hK.out _ _ trivial hS rfl | (have hk := hK.out _ _ trivial hS rfl; revert hk; go_simp)
        case io5tx2 =>
          intro k1 w1 hk0 hk1 hb1 hS hd KK hK
          clear hd
          simp only [Act.put, List.setIfInBounds_toArray, List.set_cons_zero, List.set_cons_succ] at hK
          go_simp
          first | exact hK.out _ _ trivial hS rfl | (have hk := hK.out _ _ trivial hS rfl; revert hk; go_simp)
        case io5tx3 =>
          intro k1 w1 hk0 hk1 hb1 hS hd KK hK
          have d1 : x1 = .slice (some ⟨bk, 0, none⟩) n cp := hd 1 (by kernel_rfl)
          have d2 : x2 = .int .i64 (c : Nat) := hd 2 (by kernel_rfl)
          clear hd
          subst d1
          subst d2
          have g1 := HI.out
          have g2 : (c : Int) < (n : Int) := by omega
          simp only [Act.put, List.setIfInBounds_toArray, List.set_cons_zero, List.set_cons_succ] at hK
          go_simp
          first | exact hK.out _ _ trivial hS rfl | (have hk := hK.out _ _ trivial hS rfl; revert hk; go_simp)
        case io5tx4 =>
          intro k1 w1 hk0 hk1 hb1 hS hd KK hK
          have d3 : x3 = .pointer (some ⟨bk, c, none⟩) := hd 3 (by kernel_rfl)
          clear hd
          subst d3
          have hv := hS.1.val c HI.out
          rw [HX1.out] at hv
          simp only [Act.put, List.setIfInBounds_toArray, List.set_cons_zero, List.set_cons_succ] at hK
          go_simp
          first | exact hK.out _ _ trivial hS rfl | (have hk := hK.out _ _ trivial hS rfl; revert hk; go_simp)
        case io5tx5 =>
          intro k1 w1 hk0 hk1 hb1 hS hd KK hK
          clear hd
          simp only [Act.put, List.setIfInBounds_toArray, List.set_cons_zero, List.set_cons_succ] at hK
          go_simp
          first | exact hK.out _ _ trivial hS rfl | (have hk := hK.out _ _ trivial hS rfl; revert hk; go_simp)
        case io5tx6 =>
          intro k1 w1 hk0 hk1 hb1 hS hd KK hK
          clear hd
          simp only [Act.put, List.setIfInBounds_toArray, List.set_cons_zero, List.set_cons_succ] at hK
          go_simp
          first | exact hK.out _ _ trivial hS rfl | (have hk := hK.out _ _ trivial hS rfl; revert hk; go_simp)
        case io5tx7 =>
          intro k1 w1 hk0 hk1 hb1 hS hd KK hK
          have d5 : x5 = .slice (some ⟨bk, 0, none⟩) n cp := hd 5 (by kernel_rfl)
          have d6 : x6 = .int .i64 (a : Nat) := hd 6 (by kernel_rfl)
          clear hd
          subst d5
          subst d6
          have g1 := HJ.out
          have g2 : (a : Int) < (n : Int) := by omega
          simp only [Act.put, List.setIfInBounds_toArray, List.set_cons_zero, List.set_cons_succ] at hK
          go_simp
          first | exact hK.out _ _ trivial hS rfl | (have hk := hK.out _ _ trivial hS rfl; revert hk; go_simp)
        case io5tx8 =>
          intro k1 w1 hk0 hk1 hb1 hS hd KK hK
          have d7 : x7 = .pointer (some ⟨bk, a, none⟩) := hd 7 (by kernel_rfl)
          clear hd
          subst d7
          have hv := hS.1.val a HJ.out
          rw [HX2.out] at hv
          simp only [Act.put, List.setIfInBounds_toArray, List.set_cons_zero, List.set_cons_succ] at hK
          go_simp
          first | exact hK.out _ _ trivial hS rfl | (have hk := hK.out _ _ trivial hS rfl; revert hk; go_simp)
        case io5tx9 =>
          intro k1 w1 hk0 hk1 hb1 hS hd KK hK
          have d0 : x0 = .func (.func 19) #[] #[.pointer (some ⟨q, 0, none⟩)] := hd 0 (by kernel_rfl)
          have d4 : x4 = .int .i64 (ex : Nat) := hd 4 (by kernel_rfl)
          have d8 : x8 = .int .i64 (ey : Nat) := hd 8 (by kernel_rfl)
          clear hd
          subst d0
          subst d4
          subst d8
          simp only [Act.put, List.setIfInBounds_toArray, List.set_cons_zero, List.set_cons_succ] at hK
          go_simp
          go_at_call 19
          refine (HC.out w1 hS.2).mono ?_
          rintro e w2 ⟨rfl, hb⟩
          (try go_wp2_with fail)
          first | exact hK.out _ _ trivial ⟨hS.1.next hb, hS.2.next hb⟩ rfl | (have hk := hK.out _ _ trivial ⟨hS.1.next hb, hS.2.next hb⟩ rfl; revert hk; go_simp)
        case io5tx10 =>
          intro k1 w1 hk0 hk1 hb1 hS hd KK hK
          have d9 : x9 = .int .i64 kd := hd 9 (by kernel_rfl)
          clear hd
          subst d9
          have g1 := hkl
          simp only [Act.put, List.setIfInBounds_toArray, List.set_cons_zero, List.set_cons_succ] at hK
          go_simp
          first | exact hK.out _ _ trivial hS rfl | (have hk := hK.out _ _ trivial hS rfl; revert hk; go_simp)
        case iend5t =>
          intro w1 hb1 hS hR
          have d0 : x0 = .func (.func 19) #[] #[.pointer (some ⟨q, 0, none⟩)] := hR 0 (by decide)
          have d1 : x1 = .slice (some ⟨bk, 0, none⟩) n cp := hR 1 (by decide)
          have d2 : x2 = .int .i64 (c : Nat) := hR 2 (by decide)
          have d3 : x3 = .pointer (some ⟨bk, c, none⟩) := hR 3 (by decide)
          have d4 : x4 = .int .i64 (ex : Nat) := hR 4 (by decide)
          have d5 : x5 = .slice (some ⟨bk, 0, none⟩) n cp := hR 5 (by decide)
          have d6 : x6 = .int .i64 (a : Nat) := hR 6 (by decide)
          have d7 : x7 = .pointer (some ⟨bk, a, none⟩) := hR 7 (by decide)
          have d8 : x8 = .int .i64 (ey : Nat) := hR 8 (by decide)
          have d9 : x9 = .int .i64 kd := hR 9 (by decide)
          have d10 : x10 = .bool true := hR 10 (by decide)
          clear hR
          subst d0
          subst d1
          subst d2
          subst d3
          subst d4
          subst d5
          subst d6
          subst d7
          subst d8
          subst d9
          subst d10
          try simp only [putAll, Act.put, List.setIfInBounds_toArray, List.set_cons_zero, List.set_cons_succ]
          have F2 := Lib.hid hS.1
          have K2 := Lib.hid hS.2
          clear hS hb1 F1 K1
          obtain ⟨wj, rfl⟩ : ∃ x : World, x = w1 := ⟨_, rfl⟩
          have hlt2 := hlt
          have hj2 := hj
          have HLO2 : Hid (∀ p, m ≤ p → p < c + 1 → ltk key (f p) (f a)) := Lib.hid (fun p p1 p2 => by
            have hca := (HR.out.lt (i := a) (j := c) (Nat.le_refl _) (by omega) (by omega) (by omega)).2 (by rw [HX1.out, HX2.out]; have := HKD.out; omega)
            by_cases hpc : p = c
            · rw [hpc]; exact hca
            · exact (HR.out.r p c p1 (by omega) (by omega)).trans hca)
          go_wp2
          go_roundw
          case rel => exact ⟨c + 1, j, by first | rfl | go_num, rfl, by omega, by omega, hj, HLO2, HHI, F2, K2⟩
          case measure => (simp only [intOf]; omega)
      · skip
        refine wp_region_inv (w := wo) 11 (fun _ _ => True) (fun _ W => SF w W bk n f ∧ KA W bk q n al lc key) [] [(fun u _ => u = .func (.func 19) #[] #[.pointer (some ⟨q, 0, none⟩)]), (fun u _ => u = .slice (some ⟨bk, 0, none⟩) n cp), (fun u _ => u = .int .i64 (c : Nat)), (fun u _ => u = .pointer (some ⟨bk, c, none⟩)), (fun u _ => u = .int .i64 (ex : Nat)), (fun u _ => u = .slice (some ⟨bk, 0, none⟩) n cp), (fun u _ => u = .int .i64 (a : Nat)), (fun u _ => u = .pointer (some ⟨bk, a, none⟩)), (fun u _ => u = .int .i64 (ey : Nat)), (fun u _ => u = .int .i64 kd), (fun u _ => u = .bool false)] [some 40, some 41, some 42, some 43, some 44, some 45, some 46, some 47, some 48, some 49, some 50] (by kernel_rfl) (by kernel_rfl) rfl (by kernel_rfl) (by kernel_rfl) (by decide) (by decide) (fun _ _ => trivial) trivial ⟨F1.out.drew, K1.out.next (Below.drew (Below.refl _ _))⟩ (BorneAll.at (.cons (borne_eq _) (.cons (borne_eq _) (.cons (borne_eq _) (.cons (borne_eq _) (.cons (borne_eq _) (.cons (borne_eq _) (.cons (borne_eq _) (.cons (borne_eq _) (.cons (borne_eq _) (.cons (borne_eq _) (.cons (borne_eq _) .nil)))))))))))) (fun vs b hvl hvb => ?_)
        obtain ⟨x0, x1, x2, x3, x4, x5, x6, x7, x8, x9, x10, rfl⟩ : ∃ x0 x1 x2 x3 x4 x5 x6 x7 x8 x9 x10, vs = [x0, x1, x2, x3, x4, x5, x6, x7, x8, x9, x10] := ls11 hvl
        clear hvl
        simp only [putAll, Act.put, List.setIfInBounds_toArray, List.set_cons_zero, List.set_cons_succ] at hvb
        subst hvb
        refine ⟨(.snoc (.snoc (.snoc (.snoc (.snoc (.snoc (.snoc (.snoc (.snoc (.snoc (.snoc .zero (InvOb.intro (d := (some 40)) (r := fun u _ => u = .func (.func 19) #[] #[.pointer (some ⟨q, 0, none⟩)]) 0 0 rfl rfl rfl (by kernel_rfl) (by kernel_rfl) rfl ?io5fx0)) (InvOb.intro (d := (some 41)) (r := fun u _ => u = .slice (some ⟨bk, 0, none⟩) n cp) 0 0 rfl rfl rfl (by kernel_rfl) (by kernel_rfl) rfl ?io5fx1)) (InvOb.intro (d := (some 42)) (r := fun u _ => u = .int .i64 (c : Nat)) 0 0 rfl rfl rfl (by kernel_rfl) (by kernel_rfl) rfl ?io5fx2)) (InvOb.intro (d := (some 43)) (r := fun u _ => u = .pointer (some ⟨bk, c, none⟩)) 0 0 rfl rfl rfl (by kernel_rfl) (by kernel_rfl) rfl ?io5fx3)) (InvOb.intro (d := (some 44)) (r := fun u _ => u = .int .i64 (ex : Nat)) 0 0 rfl rfl rfl (by kernel_rfl) (by kernel_rfl) rfl ?io5fx4)) (InvOb.intro (d := (some 45)) (r := fun u _ => u = .slice (some ⟨bk, 0, none⟩) n cp) 0 0 rfl rfl rfl (by kernel_rfl) (by kernel_rfl) rfl ?io5fx5)) (InvOb.intro (d := (some 46)) (r := fun u _ => u = .int .i64 (a : Nat)) 0 0 rfl rfl rfl (by kernel_rfl) (by kernel_rfl) rfl ?io5fx6)) (InvOb.intro (d := (some 47)) (r := fun u _ => u = .pointer (some ⟨bk, a, none⟩)) 0 0 rfl rfl rfl (by kernel_rfl) (by kernel_rfl) rfl ?io5fx7)) (InvOb.intro (d := (some 48)) (r := fun u _ => u = .int .i64 (ey : Nat)) 0 0 rfl rfl rfl (by kernel_rfl) (by kernel_rfl) rfl ?io5fx8)) (InvOb.intro (d := (some 49)) (r := fun u _ => u = .int .i64 kd) 0 0 rfl rfl rfl (by kernel_rfl) (by kernel_rfl) rfl ?io5fx9)) (InvOb.intro (d := (some 50)) (r := fun u _ => u = .bool false) 0 0 rfl rfl rfl (by kernel_rfl) (by kernel_rfl) rfl ?io5fx10)), ?iend5f⟩
        case io5fx0 =>
          intro k1 w1 hk0 hk1 hb1 hS hd KK hK
          clear hd
          simp only [Act.put, List.setIfInBounds_toArray, List.set_cons_zero, List.set_cons_succ] at hK
          go_simp
          first | exact hK.out _ _ trivial hS rfl | (have hk := hK.out _ _ trivial hS rfl; revert hk; go_simp)
        case io5fx1 =>
          intro k1 w1 hk0 hk1 hb1 hS hd KK hK
          clear hd
          simp only [Act.put, List.setIfInBounds_toArray, List.set_cons_zero, List.set_cons_succ] at hK
          go_simp
          first | exact hK.out _ _ trivial hS rfl | (have hk := hK.out _ _ trivial hS rfl; revert hk; go_simp)
        case io5fx2 =>
          intro k1 w1 hk0 hk1 hb1 hS hd KK hK
          clear hd
          simp only [Act.put, List.setIfInBounds_toArray, List.set_cons_zero, List.set_cons_succ] at hK
          go_simp
          first | exact hK.out _ _ trivial hS rfl | (have hk := hK.out _ _ trivial hS rfl; revert hk; go_simp)
        case io5fx3 =>
          intro k1 w1 hk0 hk1 hb1 hS hd KK hK
          have d1 : x1 = .slice (some ⟨bk, 0, none⟩) n cp := hd 1 (by kernel_rfl)
          have d2 : x2 = .int .i64 (c : Nat) := hd 2 (by kernel_rfl)
          clear hd
          subst d1
          subst d2
          have g1 := HI.out
          have g2 : (c : Int) < (n : Int) := by omega
          simp only [Act.put, List.setIfInBounds_toArray, List.set_cons_zero, List.set_cons_succ] at hK
          go_simp
          first | exact hK.out _ _ trivial hS rfl | (have hk := hK.out _ _ trivial hS rfl; revert hk; go_simp)
        case io5fx4 =>
          intro k1 w1 hk0 hk1 hb1 hS hd KK hK
          have d3 : x3 = .pointer (some ⟨bk, c, none⟩) := hd 3 (by kernel_rfl)
          clear hd
          subst d3
          have hv := hS.1.val c HI.out
          rw [HX1.out] at hv
          simp only [Act.put, List.setIfInBounds_toArray, List.set_cons_zero, List.set_cons_succ] at hK
          go_simp
          first | exact hK.out _ _ trivial hS rfl | (have hk := hK.out _ _ trivial hS rfl; revert hk; go_simp)
        case io5fx5 =>
          intro k1 w1 hk0 hk1 hb1 hS hd KK hK
          clear hd
          simp only [Act.put, List.setIfInBounds_toArray, List.set_cons_zero, List.set_cons_succ] at hK
          go_simp
          first | exact hK.out _ _ trivial hS rfl | (have hk := hK.out _ _ trivial hS rfl; revert hk; go_simp)
        case io5fx6 =>
          intro k1 w1 hk0 hk1 hb1 hS hd KK hK
          clear hd
          simp only [Act.put, List.setIfInBounds_toArray, List.set_cons_zero, List.set_cons_succ] at hK
          go_simp
          first | exact hK.out _ _ trivial hS rfl | (have hk := hK.out _ _ trivial hS rfl; revert hk; go_simp)
        case io5fx7 =>
          intro k1 w1 hk0 hk1 hb1 hS hd KK hK
          have d5 : x5 = .slice (some ⟨bk, 0, none⟩) n cp := hd 5 (by kernel_rfl)
          have d6 : x6 = .int .i64 (a : Nat) := hd 6 (by kernel_rfl)
          clear hd
          subst d5
          subst d6
          have g1 := HJ.out
          have g2 : (a : Int) < (n : Int) := by omega
          simp only [Act.put, List.setIfInBounds_toArray, List.set_cons_zero, List.set_cons_succ] at hK
          go_simp
          first | exact hK.out _ _ trivial hS rfl | (have hk := hK.out _ _ trivial hS rfl; revert hk; go_simp)
        case io5fx8 =>
          intro k1 w1 hk0 hk1 hb1 hS hd KK hK
          have d7 : x7 = .pointer (some ⟨bk, a, none⟩) := hd 7 (by kernel_rfl)
          clear hd
          subst d7
          have hv := hS.1.val a HJ.out
          rw [HX2.out] at hv
          simp only [Act.put, List.setIfInBounds_toArray, List.set_cons_zero, List.set_cons_succ] at hK
          go_simp
          first | exact hK.out _ _ trivial hS rfl | (have hk := hK.out _ _ trivial hS rfl; revert hk; go_simp)
        case io5fx9 =>
          intro k1 w1 hk0 hk1 hb1 hS hd KK hK
          have d0 : x0 = .func (.func 19) #[] #[.pointer (some ⟨q, 0, none⟩)] := hd 0 (by kernel_rfl)
          have d4 : x4 = .int .i64 (ex : Nat) := hd 4 (by kernel_rfl)
          have d8 : x8 = .int .i64 (ey : Nat) := hd 8 (by kernel_rfl)
          clear hd
          subst d0
          subst d4
          subst d8
          simp only [Act.put, List.setIfInBounds_toArray, List.set_cons_zero, List.set_cons_succ] at hK
          go_simp
          go_at_call 19
          refine (HC.out w1 hS.2).mono ?_
          rintro e w2 ⟨rfl, hb⟩
          (try go_wp2_with fail)
          first | exact hK.out _ _ trivial ⟨hS.1.next hb, hS.2.next hb⟩ rfl | (have hk := hK.out _ _ trivial ⟨hS.1.next hb, hS.2.next hb⟩ rfl; revert hk; go_simp)
        case io5fx10 =>
          intro k1 w1 hk0 hk1 hb1 hS hd KK hK
          have d9 : x9 = .int .i64 kd := hd 9 (by kernel_rfl)
          clear hd
          subst d9
          have g1 := hkl
          simp only [Act.put, List.setIfInBounds_toArray, List.set_cons_zero, List.set_cons_succ] at hK
          go_simp
          first | exact hK.out _ _ trivial hS rfl | (have hk := hK.out _ _ trivial hS rfl; revert hk; go_simp)
        case iend5f =>
          intro w1 hb1 hS hR
          have d0 : x0 = .func (.func 19) #[] #[.pointer (some ⟨q, 0, none⟩)] := hR 0 (by decide)
          have d1 : x1 = .slice (some ⟨bk, 0, none⟩) n cp := hR 1 (by decide)
          have d2 : x2 = .int .i64 (c : Nat) := hR 2 (by decide)
          have d3 : x3 = .pointer (some ⟨bk, c, none⟩) := hR 3 (by decide)
          have d4 : x4 = .int .i64 (ex : Nat) := hR 4 (by decide)
          have d5 : x5 = .slice (some ⟨bk, 0, none⟩) n cp := hR 5 (by decide)
          have d6 : x6 = .int .i64 (a : Nat) := hR 6 (by decide)
          have d7 : x7 = .pointer (some ⟨bk, a, none⟩) := hR 7 (by decide)
          have d8 : x8 = .int .i64 (ey : Nat) := hR 8 (by decide)
          have d9 : x9 = .int .i64 kd := hR 9 (by decide)
          have d10 : x10 = .bool false := hR 10 (by decide)
          clear hR
          subst d0
          subst d1
          subst d2
          subst d3
          subst d4
          subst d5
          subst d6
          subst d7
          subst d8
          subst d9
          subst d10
          try simp only [putAll, Act.put, List.setIfInBounds_toArray, List.set_cons_zero, List.set_cons_succ]
          have F2 := Lib.hid hS.1
          have K2 := Lib.hid hS.2
          clear hS hb1 F1 K1
          obtain ⟨wj, rfl⟩ : ∃ x : World, x = w1 := ⟨_, rfl⟩
          have hlt2 := hlt
          have hj2 := hj
          have HHI2 : Hid (∀ p, c ≤ p → p < e → ltk key (f a) (f p)) := Lib.hid (fun p p1 p2 => by
            have hca := (HR.out.ge (i := a) (j := c) (Nat.le_refl _) (by omega) (by omega) (by omega)).2 (by rw [HX1.out, HX2.out]; have := HKD.out; omega)
            by_cases hpc : p = c
            · rw [hpc]; exact hca
            · exact hca.trans (HR.out.r c p (by omega) (by omega) p2))
          go_wp2
          go_roundw
          case rel => exact ⟨i, c, rfl, rfl, hi, by omega, by omega, HLO, HHI2, F2, K2⟩
          case measure => (simp only [intOf]; omega)
    · obtain rfl : i = j := by omega
      obtain ⟨i1, hi1⟩ : ∃ z, i = z + 1 := ⟨i - 1, by omega⟩
      have hmg := merge_one_left (by rw [← ham]; exact HR.out) (by omega) hj (by rw [← ham]; exact HLO.out) HHI.out
      rw [show i - 1 = i1 by omega] at hmg
      have HMG := Lib.hid hmg
      clear hmg HLO HHI
      go_wp2
      go_loopw [13] (fun s13 wr => ∃ (k : Nat), s13 = .int .i64 (k : Nat) ∧ a ≤ k ∧ k ≤ i1 ∧ Hid (SF w wr bk n (upJ f a k)) ∧ Hid (KA wr bk q n al lc key)) (fun s13 _ => i1 - (intOf s13).toNat)
      case atStart => exact ⟨a, rfl, Nat.le_refl _, by omega, by rw [upJ_self]; exact F1, K1⟩
      case round =>
        obtain ⟨k, rfl, hk1, hk2, F3, K3⟩ := hrel
        clear F1 K1
        obtain ⟨wi, rfl⟩ : ∃ x : World, x = wr := ⟨_, rfl⟩
        by_cases hki : k < i1
        · skip
          obtain ⟨k2, hk3⟩ : ∃ z, k + 1 = z := ⟨_, rfl⟩
          obtain ⟨G, hG⟩ : ∃ z, upJ f a k = z := ⟨_, rfl⟩
          have hst := upJ_step f hk1
          rw [hG, hk3] at hst
          rw [hG] at F3
          obtain ⟨ex, hex⟩ : ∃ z, G k = z := ⟨_, rfl⟩
          obtain ⟨ey, hey⟩ : ∃ z, G k2 = z := ⟨_, rfl⟩
          rw [hex, hey] at hst
          have HX1 := Lib.hid hex
          have HX2 := Lib.hid hey
          have HST := Lib.hid hst
          have HI := Lib.hid (show k < n by omega)
          have HJ := Lib.hid (show k2 < n by omega)
          have HK2 := Lib.hid (show IntKind.i64.wrap ((k : Int) + 1) = (k2 : Int) from (IntWalk.i64_in _ (by omega)).trans (by omega))
          have HKE := Lib.hid hk3
          clear hex hey hst hk3 hG
          have hk9 : (k : Int) < (i : Int) - 1 := by omega
          go_upto_region 11 with fail
          refine wp_region_inv (w := wi) 18 (fun _ _ => True) (fun k9 W => (k9 = 0 → SF w W bk n G) ∧ (k9 = 1 → SF w W bk n (upd G k ey)) ∧ (k9 = 2 → SF w W bk n (upd (upd G k ey) k2 ex)) ∧ KA W bk q n al lc key) [15, 17] [(fun u _ => u = .slice (some ⟨bk, 0, none⟩) n cp), (fun u _ => u = .int .i64 (k : Nat)), (fun u _ => u = .slice (some ⟨bk, 0, none⟩) n cp), (fun u _ => u = .int .i64 (k : Nat)), (fun u _ => u = .int .i64 (k2 : Nat)), (fun u _ => u = .slice (some ⟨bk, 0, none⟩) n cp), (fun u _ => u = .int .i64 (k : Nat)), (fun u _ => u = .int .i64 (k2 : Nat)), (fun u _ => u = .pointer (some ⟨bk, k2, none⟩)), (fun u _ => u = .int .i64 (ey : Nat)), (fun u _ => u = .slice (some ⟨bk, 0, none⟩) n cp), (fun u _ => u = .int .i64 (k : Nat)), (fun u _ => u = .pointer (some ⟨bk, k, none⟩)), (fun u _ => u = .int .i64 (ex : Nat)), (fun u _ => u = .pointer (some ⟨bk, k, none⟩)), (fun _ _ => True), (fun u _ => u = .pointer (some ⟨bk, k2, none⟩)), (fun _ _ => True)] [some 61, some 62, some 63, some 64, some 65, some 66, some 67, some 68, some 69, some 70, some 71, some 72, some 73, some 74, some 75, none, some 76, none] (by kernel_rfl) (by kernel_rfl) rfl (by kernel_rfl) (by kernel_rfl) (by decide) (by decide) (fun _ _ => trivial) trivial ⟨fun _ => F3.out.drew, fun h => absurd h (by decide), fun h => absurd h (by decide), K3.out.next (Below.drew (Below.refl _ _))⟩ (BorneAll.at (.cons (borne_eq _) (.cons (borne_eq _) (.cons (borne_eq _) (.cons (borne_eq _) (.cons (borne_eq _) (.cons (borne_eq _) (.cons (borne_eq _) (.cons (borne_eq _) (.cons (borne_eq _) (.cons (borne_eq _) (.cons (borne_eq _) (.cons (borne_eq _) (.cons (borne_eq _) (.cons (borne_eq _) (.cons (borne_eq _) (.cons (fun _ _ _ _ _ => trivial) (.cons (borne_eq _) (.cons (fun _ _ _ _ _ => trivial) .nil))))))))))))))))))) (fun vs b hvl hvb => ?_)
          obtain ⟨x0, x1, x2, x3, x4, x5, x6, x7, x8, x9, x10, x11, x12, x13, x14, x15, x16, x17, rfl⟩ : ∃ x0 x1 x2 x3 x4 x5 x6 x7 x8 x9 x10 x11 x12 x13 x14 x15 x16 x17, vs = [x0, x1, x2, x3, x4, x5, x6, x7, x8, x9, x10, x11, x12, x13, x14, x15, x16, x17] := ls18 hvl
          clear hvl
          simp only [putAll, Act.put, List.setIfInBounds_toArray, List.set_cons_zero, List.set_cons_succ] at hvb
          subst hvb
          refine ⟨(.snoc (.snoc (.snoc (.snoc (.snoc (.snoc (.snoc (.snoc (.snoc (.snoc (.snoc (.snoc (.snoc (.snoc (.snoc (.snoc (.snoc (.snoc .zero (InvOb.intro (d := (some 61)) (r := fun u _ => u = .slice (some ⟨bk, 0, none⟩) n cp) 0 0 rfl rfl rfl (by kernel_rfl) (by kernel_rfl) rfl ?io11x0)) (InvOb.intro (d := (some 62)) (r := fun u _ => u = .int .i64 (k : Nat)) 0 0 rfl rfl rfl (by kernel_rfl) (by kernel_rfl) rfl ?io11x1)) (InvOb.intro (d := (some 63)) (r := fun u _ => u = .slice (some ⟨bk, 0, none⟩) n cp) 0 1 rfl rfl rfl (by kernel_rfl) (by kernel_rfl) rfl ?io11x2)) (InvOb.intro (d := (some 64)) (r := fun u _ => u = .int .i64 (k : Nat)) 0 1 rfl rfl rfl (by kernel_rfl) (by kernel_rfl) rfl ?io11x3)) (InvOb.intro (d := (some 65)) (r := fun u _ => u = .int .i64 (k2 : Nat)) 0 1 rfl rfl rfl (by kernel_rfl) (by kernel_rfl) rfl ?io11x4)) (InvOb.intro (d := (some 66)) (r := fun u _ => u = .slice (some ⟨bk, 0, none⟩) n cp) 0 0 rfl rfl rfl (by kernel_rfl) (by kernel_rfl) rfl ?io11x5)) (InvOb.intro (d := (some 67)) (r := fun u _ => u = .int .i64 (k : Nat)) 0 0 rfl rfl rfl (by kernel_rfl) (by kernel_rfl) rfl ?io11x6)) (InvOb.intro (d := (some 68)) (r := fun u _ => u = .int .i64 (k2 : Nat)) 0 0 rfl rfl rfl (by kernel_rfl) (by kernel_rfl) rfl ?io11x7)) (InvOb.intro (d := (some 69)) (r := fun u _ => u = .pointer (some ⟨bk, k2, none⟩)) 0 0 rfl rfl rfl (by kernel_rfl) (by kernel_rfl) rfl ?io11x8)) (InvOb.intro (d := (some 70)) (r := fun u _ => u = .int .i64 (ey : Nat)) 0 0 rfl rfl rfl (by kernel_rfl) (by kernel_rfl) rfl ?io11x9)) (InvOb.intro (d := (some 71)) (r := fun u _ => u = .slice (some ⟨bk, 0, none⟩) n cp) 0 0 rfl rfl rfl (by kernel_rfl) (by kernel_rfl) rfl ?io11x10)) (InvOb.intro (d := (some 72)) (r := fun u _ => u = .int .i64 (k : Nat)) 0 0 rfl rfl rfl (by kernel_rfl) (by kernel_rfl) rfl ?io11x11)) (InvOb.intro (d := (some 73)) (r := fun u _ => u = .pointer (some ⟨bk, k, none⟩)) 0 0 rfl rfl rfl (by kernel_rfl) (by kernel_rfl) rfl ?io11x12)) (InvOb.intro (d := (some 74)) (r := fun u _ => u = .int .i64 (ex : Nat)) 0 0 rfl rfl rfl (by kernel_rfl) (by kernel_rfl) rfl ?io11x13)) (InvOb.intro (d := (some 75)) (r := fun u _ => u = .pointer (some ⟨bk, k, none⟩)) 0 0 rfl rfl rfl (by kernel_rfl) (by kernel_rfl) rfl ?io11x14)) (InvOb.put (d := none) (r := fun _ _ => True) 0 rfl rfl rfl (by kernel_rfl) (by kernel_rfl) rfl ?io11x15)) (InvOb.intro (d := (some 76)) (r := fun u _ => u = .pointer (some ⟨bk, k2, none⟩)) 1 1 rfl rfl rfl (by kernel_rfl) (by kernel_rfl) rfl ?io11x16)) (InvOb.put (d := none) (r := fun _ _ => True) 1 rfl rfl rfl (by kernel_rfl) (by kernel_rfl) rfl ?io11x17)), ?iend11⟩
          case io11x0 =>
            intro k1 w1 hk0 hk1 hb1 hS hd KK hK
            clear hd
            simp only [Act.put, List.setIfInBounds_toArray, List.set_cons_zero, List.set_cons_succ] at hK
            go_simp
            first | exact hK.out _ _ trivial hS rfl | (have hk := hK.out _ _ trivial hS rfl; revert hk; go_simp)
          case io11x1 =>
            intro k1 w1 hk0 hk1 hb1 hS hd KK hK
            clear hd
            simp only [Act.put, List.setIfInBounds_toArray, List.set_cons_zero, List.set_cons_succ] at hK
            go_simp
            first | exact hK.out _ _ trivial hS rfl | (have hk := hK.out _ _ trivial hS rfl; revert hk; go_simp)
          case io11x2 =>
            intro k1 w1 hk0 hk1 hb1 hS hd KK hK
            clear hd
            simp only [Act.put, List.setIfInBounds_toArray, List.set_cons_zero, List.set_cons_succ] at hK
            go_simp
            first | exact hK.out _ _ trivial hS rfl | (have hk := hK.out _ _ trivial hS rfl; revert hk; go_simp)
          case io11x3 =>
            intro k1 w1 hk0 hk1 hb1 hS hd KK hK
            clear hd
            simp only [Act.put, List.setIfInBounds_toArray, List.set_cons_zero, List.set_cons_succ] at hK
            go_simp
            first | exact hK.out _ _ trivial hS rfl | (have hk := hK.out _ _ trivial hS rfl; revert hk; go_simp)
          case io11x4 =>
            intro k1 w1 hk0 hk1 hb1 hS hd KK hK
            have d3 : x3 = .int .i64 (k : Nat) := hd 3 (by kernel_rfl)
            clear hd
            subst d3
            have dx := HK2.out
            simp only [Act.put, List.setIfInBounds_toArray, List.set_cons_zero, List.set_cons_succ] at hK
            go_simp
            first | exact hK.out _ _ trivial hS rfl | (have hk := hK.out _ _ trivial hS rfl; revert hk; go_simp)
          case io11x5 =>
            intro k1 w1 hk0 hk1 hb1 hS hd KK hK
            clear hd
            simp only [Act.put, List.setIfInBounds_toArray, List.set_cons_zero, List.set_cons_succ] at hK
            go_simp
            first | exact hK.out _ _ trivial hS rfl | (have hk := hK.out _ _ trivial hS rfl; revert hk; go_simp)
          case io11x6 =>
            intro k1 w1 hk0 hk1 hb1 hS hd KK hK
            clear hd
            simp only [Act.put, List.setIfInBounds_toArray, List.set_cons_zero, List.set_cons_succ] at hK
            go_simp
            first | exact hK.out _ _ trivial hS rfl | (have hk := hK.out _ _ trivial hS rfl; revert hk; go_simp)
          case io11x7 =>
            intro k1 w1 hk0 hk1 hb1 hS hd KK hK
            have d6 : x6 = .int .i64 (k : Nat) := hd 6 (by kernel_rfl)
            clear hd
            subst d6
            have dx := HK2.out
            simp only [Act.put, List.setIfInBounds_toArray, List.set_cons_zero, List.set_cons_succ] at hK
            go_simp
            first | exact hK.out _ _ trivial hS rfl | (have hk := hK.out _ _ trivial hS rfl; revert hk; go_simp)
          case io11x8 =>
            intro k1 w1 hk0 hk1 hb1 hS hd KK hK
            have d5 : x5 = .slice (some ⟨bk, 0, none⟩) n cp := hd 5 (by kernel_rfl)
            have d7 : x7 = .int .i64 (k2 : Nat) := hd 7 (by kernel_rfl)
            clear hd
            subst d5
            subst d7
            have g1 := HJ.out
            have g2 : (k2 : Int) < (n : Int) := by omega
            simp only [Act.put, List.setIfInBounds_toArray, List.set_cons_zero, List.set_cons_succ] at hK
            go_simp
            first | exact hK.out _ _ trivial hS rfl | (have hk := hK.out _ _ trivial hS rfl; revert hk; go_simp)
          case io11x9 =>
            intro k1 w1 hk0 hk1 hb1 hS hd KK hK
            have d8 : x8 = .pointer (some ⟨bk, k2, none⟩) := hd 8 (by kernel_rfl)
            clear hd
            subst d8
            have hF := hS.1 (by omega)
            have hv := hF.val k2 HJ.out
            rw [HX2.out] at hv
            simp only [Act.put, List.setIfInBounds_toArray, List.set_cons_zero, List.set_cons_succ] at hK
            go_simp
            first | exact hK.out _ _ trivial hS rfl | (have hk := hK.out _ _ trivial hS rfl; revert hk; go_simp)
          case io11x10 =>
            intro k1 w1 hk0 hk1 hb1 hS hd KK hK
            clear hd
            simp only [Act.put, List.setIfInBounds_toArray, List.set_cons_zero, List.set_cons_succ] at hK
            go_simp
            first | exact hK.out _ _ trivial hS rfl | (have hk := hK.out _ _ trivial hS rfl; revert hk; go_simp)
          case io11x11 =>
            intro k1 w1 hk0 hk1 hb1 hS hd KK hK
            clear hd
            simp only [Act.put, List.setIfInBounds_toArray, List.set_cons_zero, List.set_cons_succ] at hK
            go_simp
            first | exact hK.out _ _ trivial hS rfl | (have hk := hK.out _ _ trivial hS rfl; revert hk; go_simp)
          case io11x12 =>
            intro k1 w1 hk0 hk1 hb1 hS hd KK hK
            have d10 : x10 = .slice (some ⟨bk, 0, none⟩) n cp := hd 10 (by kernel_rfl)
            have d11 : x11 = .int .i64 (k : Nat) := hd 11 (by kernel_rfl)
            clear hd
            subst d10
            subst d11
            have g1 := HI.out
            have g2 : (k : Int) < (n : Int) := by omega
            simp only [Act.put, List.setIfInBounds_toArray, List.set_cons_zero, List.set_cons_succ] at hK
            go_simp
            first | exact hK.out _ _ trivial hS rfl | (have hk := hK.out _ _ trivial hS rfl; revert hk; go_simp)
          case io11x13 =>
            intro k1 w1 hk0 hk1 hb1 hS hd KK hK
            have d12 : x12 = .pointer (some ⟨bk, k, none⟩) := hd 12 (by kernel_rfl)
            clear hd
            subst d12
            have hF := hS.1 (by omega)
            have hv := hF.val k HI.out
            rw [HX1.out] at hv
            simp only [Act.put, List.setIfInBounds_toArray, List.set_cons_zero, List.set_cons_succ] at hK
            go_simp
            first | exact hK.out _ _ trivial hS rfl | (have hk := hK.out _ _ trivial hS rfl; revert hk; go_simp)
          case io11x14 =>
            intro k1 w1 hk0 hk1 hb1 hS hd KK hK
            have d0 : x0 = .slice (some ⟨bk, 0, none⟩) n cp := hd 0 (by kernel_rfl)
            have d1 : x1 = .int .i64 (k : Nat) := hd 1 (by kernel_rfl)
            have d5 : x5 = .slice (some ⟨bk, 0, none⟩) n cp := hd 5 (by kernel_rfl)
            have d6 : x6 = .int .i64 (k : Nat) := hd 6 (by kernel_rfl)
            have d7 : x7 = .int .i64 (k2 : Nat) := hd 7 (by kernel_rfl)
            have d8 : x8 = .pointer (some ⟨bk, k2, none⟩) := hd 8 (by kernel_rfl)
            have d9 : x9 = .int .i64 (ey : Nat) := hd 9 (by kernel_rfl)
            have d13 : x13 = .int .i64 (ex : Nat) := hd 13 (by kernel_rfl)
            clear hd
            subst d0
            subst d1
            subst d5
            subst d6
            subst d7
            subst d8
            subst d9
            subst d13
            have g1 := HI.out
            have g2 : (k : Int) < (n : Int) := by omega
            simp only [Act.put, List.setIfInBounds_toArray, List.set_cons_zero, List.set_cons_succ] at hK
            go_simp
            first | exact hK.out _ _ trivial hS rfl | (have hk := hK.out _ _ trivial hS rfl; revert hk; go_simp)
          case io11x15 =>
            intro w1 hb1 hS hd KK hK
            have d0 : x0 = .slice (some ⟨bk, 0, none⟩) n cp := hd 0 (by kernel_rfl)
            have d1 : x1 = .int .i64 (k : Nat) := hd 1 (by kernel_rfl)
            have d5 : x5 = .slice (some ⟨bk, 0, none⟩) n cp := hd 5 (by kernel_rfl)
            have d6 : x6 = .int .i64 (k : Nat) := hd 6 (by kernel_rfl)
            have d7 : x7 = .int .i64 (k2 : Nat) := hd 7 (by kernel_rfl)
            have d8 : x8 = .pointer (some ⟨bk, k2, none⟩) := hd 8 (by kernel_rfl)
            have d9 : x9 = .int .i64 (ey : Nat) := hd 9 (by kernel_rfl)
            have d13 : x13 = .int .i64 (ex : Nat) := hd 13 (by kernel_rfl)
            have d14 : x14 = .pointer (some ⟨bk, k, none⟩) := hd 14 (by kernel_rfl)
            clear hd
            subst d0
            subst d1
            subst d5
            subst d6
            subst d7
            subst d8
            subst d9
            subst d13
            subst d14
            have hF := hS.1 rfl
            have hv := hF.val k HI.out
            have hf := hF.free k HI.out
            simp only [Act.put, List.setIfInBounds_toArray, List.set_cons_zero, List.set_cons_succ] at hK
            go_simp
            first | exact hK.out undef _ trivial ⟨fun h => absurd h (by decide), fun _ => (hS.1 rfl).put k ey, fun h => absurd h (by decide), hS.2.2.2.grown (Go.Lib.grownBy_setCell w1 bk k _)⟩ trivial | (have hk := hK.out undef _ trivial ⟨fun h => absurd h (by decide), fun _ => (hS.1 rfl).put k ey, fun h => absurd h (by decide), hS.2.2.2.grown (Go.Lib.grownBy_setCell w1 bk k _)⟩ trivial; revert hk; go_simp)
          case io11x16 =>
            intro k1 w1 hk0 hk1 hb1 hS hd KK hK
            have d0 : x0 = .slice (some ⟨bk, 0, none⟩) n cp := hd 0 (by kernel_rfl)
            have d1 : x1 = .int .i64 (k : Nat) := hd 1 (by kernel_rfl)
            have d2 : x2 = .slice (some ⟨bk, 0, none⟩) n cp := hd 2 (by kernel_rfl)
            have d3 : x3 = .int .i64 (k : Nat) := hd 3 (by kernel_rfl)
            have d4 : x4 = .int .i64 (k2 : Nat) := hd 4 (by kernel_rfl)
            have d5 : x5 = .slice (some ⟨bk, 0, none⟩) n cp := hd 5 (by kernel_rfl)
            have d6 : x6 = .int .i64 (k : Nat) := hd 6 (by kernel_rfl)
            have d7 : x7 = .int .i64 (k2 : Nat) := hd 7 (by kernel_rfl)
            have d8 : x8 = .pointer (some ⟨bk, k2, none⟩) := hd 8 (by kernel_rfl)
            have d9 : x9 = .int .i64 (ey : Nat) := hd 9 (by kernel_rfl)
            have d10 : x10 = .slice (some ⟨bk, 0, none⟩) n cp := hd 10 (by kernel_rfl)
            have d11 : x11 = .int .i64 (k : Nat) := hd 11 (by kernel_rfl)
            have d12 : x12 = .pointer (some ⟨bk, k, none⟩) := hd 12 (by kernel_rfl)
            have d13 : x13 = .int .i64 (ex : Nat) := hd 13 (by kernel_rfl)
            have d14 : x14 = .pointer (some ⟨bk, k, none⟩) := hd 14 (by kernel_rfl)
            clear hd
            subst d0
            subst d1
            subst d2
            subst d3
            subst d4
            subst d5
            subst d6
            subst d7
            subst d8
            subst d9
            subst d10
            subst d11
            subst d12
            subst d13
            subst d14
            have g1 := HJ.out
            have g2 : (k2 : Int) < (n : Int) := by omega
            simp only [Act.put, List.setIfInBounds_toArray, List.set_cons_zero, List.set_cons_succ] at hK
            go_simp
            first | exact hK.out _ _ trivial hS rfl | (have hk := hK.out _ _ trivial hS rfl; revert hk; go_simp)
          case io11x17 =>
            intro w1 hb1 hS hd KK hK
            have d0 : x0 = .slice (some ⟨bk, 0, none⟩) n cp := hd 0 (by kernel_rfl)
            have d1 : x1 = .int .i64 (k : Nat) := hd 1 (by kernel_rfl)
            have d2 : x2 = .slice (some ⟨bk, 0, none⟩) n cp := hd 2 (by kernel_rfl)
            have d3 : x3 = .int .i64 (k : Nat) := hd 3 (by kernel_rfl)
            have d4 : x4 = .int .i64 (k2 : Nat) := hd 4 (by kernel_rfl)
            have d5 : x5 = .slice (some ⟨bk, 0, none⟩) n cp := hd 5 (by kernel_rfl)
            have d6 : x6 = .int .i64 (k : Nat) := hd 6 (by kernel_rfl)
            have d7 : x7 = .int .i64 (k2 : Nat) := hd 7 (by kernel_rfl)
            have d8 : x8 = .pointer (some ⟨bk, k2, none⟩) := hd 8 (by kernel_rfl)
            have d9 : x9 = .int .i64 (ey : Nat) := hd 9 (by kernel_rfl)
            have d10 : x10 = .slice (some ⟨bk, 0, none⟩) n cp := hd 10 (by kernel_rfl)
            have d11 : x11 = .int .i64 (k : Nat) := hd 11 (by kernel_rfl)
            have d12 : x12 = .pointer (some ⟨bk, k, none⟩) := hd 12 (by kernel_rfl)
            have d13 : x13 = .int .i64 (ex : Nat) := hd 13 (by kernel_rfl)
            have d14 : x14 = .pointer (some ⟨bk, k, none⟩) := hd 14 (by kernel_rfl)
            have d16 : x16 = .pointer (some ⟨bk, k2, none⟩) := hd 16 (by kernel_rfl)
            clear hd
            subst d0
            subst d1
            subst d2
            subst d3
            subst d4
            subst d5
            subst d6
            subst d7
            subst d8
            subst d9
            subst d10
            subst d11
            subst d12
            subst d13
            subst d14
            subst d16
            have hF := hS.2.1 rfl
            have hv := hF.val k2 HJ.out
            have hf := hF.free k2 HJ.out
            simp only [Act.put, List.setIfInBounds_toArray, List.set_cons_zero, List.set_cons_succ] at hK
            go_simp
            first | exact hK.out undef _ trivial ⟨fun h => absurd h (by decide), fun h => absurd h (by decide), fun _ => (hS.2.1 rfl).put k2 ex, hS.2.2.2.grown (Go.Lib.grownBy_setCell w1 bk k2 _)⟩ trivial | (have hk := hK.out undef _ trivial ⟨fun h => absurd h (by decide), fun h => absurd h (by decide), fun _ => (hS.2.1 rfl).put k2 ex, hS.2.2.2.grown (Go.Lib.grownBy_setCell w1 bk k2 _)⟩ trivial; revert hk; go_simp)
          case iend11 =>
            intro w1 hb1 hS hR
            have d0 : x0 = .slice (some ⟨bk, 0, none⟩) n cp := hR 0 (by decide)
            have d1 : x1 = .int .i64 (k : Nat) := hR 1 (by decide)
            have d2 : x2 = .slice (some ⟨bk, 0, none⟩) n cp := hR 2 (by decide)
            have d3 : x3 = .int .i64 (k : Nat) := hR 3 (by decide)
            have d4 : x4 = .int .i64 (k2 : Nat) := hR 4 (by decide)
            have d5 : x5 = .slice (some ⟨bk, 0, none⟩) n cp := hR 5 (by decide)
            have d6 : x6 = .int .i64 (k : Nat) := hR 6 (by decide)
            have d7 : x7 = .int .i64 (k2 : Nat) := hR 7 (by decide)
            have d8 : x8 = .pointer (some ⟨bk, k2, none⟩) := hR 8 (by decide)
            have d9 : x9 = .int .i64 (ey : Nat) := hR 9 (by decide)
            have d10 : x10 = .slice (some ⟨bk, 0, none⟩) n cp := hR 10 (by decide)
            have d11 : x11 = .int .i64 (k : Nat) := hR 11 (by decide)
            have d12 : x12 = .pointer (some ⟨bk, k, none⟩) := hR 12 (by decide)
            have d13 : x13 = .int .i64 (ex : Nat) := hR 13 (by decide)
            have d14 : x14 = .pointer (some ⟨bk, k, none⟩) := hR 14 (by decide)
            have d16 : x16 = .pointer (some ⟨bk, k2, none⟩) := hR 16 (by decide)
            clear hR
            subst d0
            subst d1
            subst d2
            subst d3
            subst d4
            subst d5
            subst d6
            subst d7
            subst d8
            subst d9
            subst d10
            subst d11
            subst d12
            subst d13
            subst d14
            subst d16
            try simp only [putAll, Act.put, List.setIfInBounds_toArray, List.set_cons_zero, List.set_cons_succ]
            have F4 := hS.2.2.1 rfl
            have K4 := Lib.hid hS.2.2.2
            clear hS hb1 F3 K3
            rw [HST.out] at F4
            have F5 := Lib.hid F4
            clear F4
            obtain ⟨wk, rfl⟩ : ∃ x : World, x = w1 := ⟨_, rfl⟩
            go_wp2
            have hke := HKE.out
            go_roundw
            case rel => exact ⟨k2, congrArg (Value.int .i64) (by omega), by omega, by omega, F5, K4⟩
            case measure => (simp only [intOf]; omega)
        · obtain rfl : k = i1 := by omega
          have hk9 : ¬ (k : Int) < (i : Int) - 1 := by omega
          go_wp2
          refine bodyPost_ret (results_none rfl _ _ _) rfl ?_
          exact ⟨rfl, _, F3.out, HMG.out.1, HMG.out.2⟩
end Go.Proofs.Ytdpnichgdfpmgaa
