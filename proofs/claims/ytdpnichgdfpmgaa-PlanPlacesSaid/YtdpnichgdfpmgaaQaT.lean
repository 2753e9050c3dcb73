/- Walks: the merge of two runs in place: part 2. -/
import Derived.Test.YtdpnichgdfpmgaaQaS
set_option linter.unusedVariables false
set_option linter.unusedSimpArgs false
namespace Go.Proofs.Ytdpnichgdfpmgaa
open Go.RowKit Go.Rt
attribute [local go_sem] Oper.semAt_some
set_option maxRecDepth 100000 in
set_option maxHeartbeats 4000000 in
theorem psym_r (bk q n cp lc : Nat) (al : Option Addr) (key : Nat → Int) (f : Nat → Nat) (a m e : Nat) (za zm ze : Int) (w : World) (h : SF w w bk n f) (hk : KA w bk q n al lc key) (hza : za = (a : Nat)) (hzm : zm = (m : Nat)) (hze : ze = (e : Nat)) (ham : a + 1 < m) (hme : e = m + 1) (hen : e ≤ n) (hR : Runs key f a m e) (hv : ∀ i, i < n → f i < n) :
    Calls Try.prog 29 #[.slice (some ⟨bk, 0, none⟩) n cp, .int .i64 za, .int .i64 zm, .int .i64 ze, .func (.func 19) #[] #[.pointer (some ⟨q, 0, none⟩)]] w fun en w' => en = .returned (.tuple #[]) ∧ ∃ g, SF w w' bk n g ∧ Srt key g a e ∧ Within f g a e := by
  subst hza; subst hzm; subst hze
  have hnb := hk.nb
  have F0 := Lib.hid h
  have K0 := Lib.hid hk
  clear h hk
  have HR := Lib.hid hR
  have HV := Lib.hid hv
  have HCM := Lib.hid (fun x y W hx hy hK => pcmp_any bk q n lc al key x y W hx hy hK)
  have hma : ¬ (m : Int) - (a : Int) = 1 := by omega
  have hem : (e : Int) - (m : Int) = 1 := by omega
  clear hv hR
  go_enter Try.func29, Try.ntmps29
  go_wp2
  go_loopw [14, 15] (fun s14 s15 wr => ∃ (i j : Nat), s14 = .int .i64 (i : Nat) ∧ s15 = .int .i64 (j : Nat) ∧ a ≤ i ∧ i ≤ j ∧ j ≤ m ∧ Hid (∀ p, a ≤ p → p < i → ltk key (f p) (f m)) ∧ Hid (∀ p, j ≤ p → p < m → ltk key (f m) (f p)) ∧ Hid (SF w wr bk n f) ∧ Hid (KA wr bk q n al lc key)) (fun s14 s15 _ => (intOf s15).toNat - (intOf s14).toNat)
  case atStart => exact ⟨a, m, rfl, rfl, Nat.le_refl _, by omega, Nat.le_refl _, Lib.hid (fun p h1 h2 => by omega), Lib.hid (fun p h1 h2 => by omega), F0, K0⟩
  case round =>
    obtain ⟨i, j, rfl, rfl, hi, hij, hj, HLO, HHI, F1, K1⟩ := hrel
    clear F0 K0
    obtain ⟨wo, rfl⟩ : ∃ x : World, x = wr := ⟨_, rfl⟩
    by_cases hlt : i < j
    · skip
      go_upto_region 17 with fail
      obtain ⟨c, hc⟩ : ∃ z, (i + j) / 2 = z := ⟨_, rfl⟩
      have hcI : (((i : Nat) : Int) + ((j : Nat) : Int)) / 2 = (c : Int) := by omega
      rw [hcI]
      have hci : i ≤ c := by omega
      have hcj : c < j := by omega
      clear hcI hc
      obtain ⟨ex, hex⟩ : ∃ z, f m = z := ⟨_, rfl⟩
      obtain ⟨ey, hey⟩ : ∃ z, f c = z := ⟨_, rfl⟩
      have HI := Lib.hid (show m < n by omega)
      have HJ := Lib.hid (show c < n by omega)
      obtain ⟨kd, hkd⟩ : ∃ z, key ex - key ey = z := ⟨_, rfl⟩
      have hcm := fun W hK => HCM.out ex ey W (by rw [← hex]; exact HV.out m HI.out) (by rw [← hey]; exact HV.out c HJ.out) hK
      rw [hkd] at hcm
      have HC := Lib.hid hcm
      have HKD := Lib.hid hkd
      have HX1 := Lib.hid hex
      have HX2 := Lib.hid hey
      clear hex hey hkd hcm
      by_cases hkl : kd < 0
      · skip
        refine wp_region_inv (w := wo) 12 (fun _ _ => True) (fun _ W => SF w W bk n f ∧ KA W bk q n al lc key) [] [(fun u _ => u = .func (.func 19) #[] #[.pointer (some ⟨q, 0, none⟩)]), (fun u _ => u = .slice (some ⟨bk, 0, none⟩) n cp), (fun u _ => u = .int .i64 (m : Nat)), (fun u _ => u = .pointer (some ⟨bk, m, none⟩)), (fun u _ => u = .int .i64 (ex : Nat)), (fun u _ => u = .slice (some ⟨bk, 0, none⟩) n cp), (fun u _ => u = .int .i64 (c : Nat)), (fun u _ => u = .pointer (some ⟨bk, c, none⟩)), (fun u _ => u = .int .i64 (ey : Nat)), (fun u _ => u = .int .i64 kd), (fun u _ => u = .bool true), (fun u _ => u = .bool false)] [some 92, some 93, some 94, some 95, some 96, some 97, some 98, some 99, some 100, some 101, some 102, some 103] (by kernel_rfl) (by kernel_rfl) rfl (by kernel_rfl) (by kernel_rfl) (by decide) (by decide) (fun _ _ => trivial) trivial ⟨F1.out.drew, K1.out.next (Below.drew (Below.refl _ _))⟩ (BorneAll.at (.cons (borne_eq _) (.cons (borne_eq _) (.cons (borne_eq _) (.cons (borne_eq _) (.cons (borne_eq _) (.cons (borne_eq _) (.cons (borne_eq _) (.cons (borne_eq _) (.cons (borne_eq _) (.cons (borne_eq _) (.cons (borne_eq _) (.cons (borne_eq _) .nil))))))))))))) (fun vs b hvl hvb => ?_)
        obtain ⟨x0, x1, x2, x3, x4, x5, x6, x7, x8, x9, x10, x11, rfl⟩ : ∃ x0 x1 x2 x3 x4 x5 x6 x7 x8 x9 x10 x11, vs = [x0, x1, x2, x3, x4, x5, x6, x7, x8, x9, x10, x11] := ls12 hvl
        clear hvl
        simp only [putAll, Act.put, List.setIfInBounds_toArray, List.set_cons_zero, List.set_cons_succ] at hvb
        subst hvb
        refine ⟨(.snoc (.snoc (.snoc (.snoc (.snoc (.snoc (.snoc (.snoc (.snoc (.snoc (.snoc (.snoc .zero (InvOb.intro (d := (some 92)) (r := fun u _ => u = .func (.func 19) #[] #[.pointer (some ⟨q, 0, none⟩)]) 0 0 rfl rfl rfl (by kernel_rfl) (by kernel_rfl) rfl ?io17tx0)) (InvOb.intro (d := (some 93)) (r := fun u _ => u = .slice (some ⟨bk, 0, none⟩) n cp) 0 0 rfl rfl rfl (by kernel_rfl) (by kernel_rfl) rfl ?io17tx1)) (InvOb.intro (d := (some 94)) (r := fun u _ => u = .int .i64 (m : Nat)) 0 0 rfl rfl rfl (by kernel_rfl) (by kernel_rfl) rfl ?io17tx2)) (InvOb.intro (d := (some 95)) (r := fun u _ => u = .pointer (some ⟨bk, m, none⟩)) 0 0 rfl rfl rfl (by kernel_rfl) (by kernel_rfl) rfl ?io17tx3)) (InvOb.intro (d := (some 96)) (r := fun u _ => u = .int .i64 (ex : Nat)) 0 0 rfl rfl rfl (by kernel_rfl) (by kernel_rfl) rfl ?io17tx4)) (InvOb.intro (d := (some 97)) (r := fun u _ => u = .slice (some ⟨bk, 0, none⟩) n cp) 0 0 rfl rfl rfl (by kernel_rfl) (by kernel_rfl) rfl ?io17tx5)) (InvOb.intro (d := (some 98)) (r := fun u _ => u = .int .i64 (c : Nat)) 0 0 rfl rfl rfl (by kernel_rfl) (by kernel_rfl) rfl ?io17tx6)) (InvOb.intro (d := (some 99)) (r := fun u _ => u = .pointer (some ⟨bk, c, none⟩)) 0 0 rfl rfl rfl (by kernel_rfl) (by kernel_rfl) rfl ?io17tx7)) (InvOb.intro (d := (some 100)) (r := fun u _ => u = .int .i64 (ey : Nat)) 0 0 rfl rfl rfl (by kernel_rfl) (by kernel_rfl) rfl ?io17tx8)) (InvOb.intro (d := (some 101)) (r := fun u _ => u = .int .i64 kd) 0 0 rfl rfl rfl (by kernel_rfl) (by kernel_rfl) rfl ?io17tx9)) (InvOb.intro (d := (some 102)) (r := fun u _ => u = .bool true) 0 0 rfl rfl rfl (by kernel_rfl) (by kernel_rfl) rfl ?io17tx10)) (InvOb.intro (d := (some 103)) (r := fun u _ => u = .bool false) 0 0 rfl rfl rfl (by kernel_rfl) (by kernel_rfl) rfl ?io17tx11)), ?iend17t⟩
        case io17tx0 =>
          intro k1 w1 hk0 hk1 hb1 hS hd KK hK
          clear hd
          simp only [Act.put, List.setIfInBounds_toArray, List.set_cons_zero, List.set_cons_succ] at hK
          go_simp
          first | exact hK.out _ _ trivial hS rfl | (have hk := hK.out _ _ trivial hS rfl; revert hk; go_simp)
        case io17tx1 =>
          intro k1 w1 hk0 hk1 hb1 hS hd KK hK
          clear hd
          simp only [Act.put, List.setIfInBounds_toArray, List.set_cons_zero, List.set_cons_succ] at hK
          go_simp
          first | exact hK.out _ _ trivial hS rfl | (have hk := hK.out _ _ trivial hS rfl; revert hk; go_simp)
        case io17tx2 =>
          intro k1 w1 hk0 hk1 hb1 hS hd KK hK
          clear hd
          simp only [Act.put, List.setIfInBounds_toArray, List.set_cons_zero, List.set_cons_succ] at hK
          go_simp
          first | exact hK.out _ _ trivial hS rfl | (have hk := hK.out _ _ trivial hS rfl; revert hk; go_simp)
        case io17tx3 =>
          intro k1 w1 hk0 hk1 hb1 hS hd KK hK
          have d1 : x1 = .slice (some ⟨bk, 0, none⟩) n cp := hd 1 (by kernel_rfl)
          have d2 : x2 = .int .i64 (m : Nat) := hd 2 (by kernel_rfl)
          clear hd
          subst d1
          subst d2
          have g1 := HI.out
          have g2 : (m : Int) < (n : Int) := by omega
          simp only [Act.put, List.setIfInBounds_toArray, List.set_cons_zero, List.set_cons_succ] at hK
          go_simp
          first | exact hK.out _ _ trivial hS rfl | (have hk := hK.out _ _ trivial hS rfl; revert hk; go_simp)
        case io17tx4 =>
          intro k1 w1 hk0 hk1 hb1 hS hd KK hK
          have d3 : x3 = .pointer (some ⟨bk, m, none⟩) := hd 3 (by kernel_rfl)
          clear hd
          subst d3
          have hv := hS.1.val m HI.out
          rw [HX1.out] at hv
          simp only [Act.put, List.setIfInBounds_toArray, List.set_cons_zero, List.set_cons_succ] at hK
          go_simp
          first | exact hK.out _ _ trivial hS rfl | (have hk := hK.out _ _ trivial hS rfl; revert hk; go_simp)
        case io17tx5 =>
          intro k1 w1 hk0 hk1 hb1 hS hd KK hK
          clear hd
          simp only [Act.put, List.setIfInBounds_toArray, List.set_cons_zero, List.set_cons_succ] at hK
          go_simp
          first | exact hK.out _ _ trivial hS rfl | (have hk := hK.out _ _ trivial hS rfl; revert hk; go_simp)
        case io17tx6 =>
          intro k1 w1 hk0 hk1 hb1 hS hd KK hK
          clear hd
          simp only [Act.put, List.setIfInBounds_toArray, List.set_cons_zero, List.set_cons_succ] at hK
          go_simp
          first | exact hK.out _ _ trivial hS rfl | (have hk := hK.out _ _ trivial hS rfl; revert hk; go_simp)
        case io17tx7 =>
          intro k1 w1 hk0 hk1 hb1 hS hd KK hK
          have d5 : x5 = .slice (some ⟨bk, 0, none⟩) n cp := hd 5 (by kernel_rfl)
          have d6 : x6 = .int .i64 (c : Nat) := hd 6 (by kernel_rfl)
          clear hd
          subst d5
          subst d6
          have g1 := HJ.out
          have g2 : (c : Int) < (n : Int) := by omega
          simp only [Act.put, List.setIfInBounds_toArray, List.set_cons_zero, List.set_cons_succ] at hK
          go_simp
          first | exact hK.out _ _ trivial hS rfl | (have hk := hK.out _ _ trivial hS rfl; revert hk; go_simp)
        case io17tx8 =>
          intro k1 w1 hk0 hk1 hb1 hS hd KK hK
          have d7 : x7 = .pointer (some ⟨bk, c, none⟩) := hd 7 (by kernel_rfl)
          clear hd
          subst d7
          have hv := hS.1.val c HJ.out
          rw [HX2.out] at hv
          simp only [Act.put, List.setIfInBounds_toArray, List.set_cons_zero, List.set_cons_succ] at hK
          go_simp
          first | exact hK.out _ _ trivial hS rfl | (have hk := hK.out _ _ trivial hS rfl; revert hk; go_simp)
        case io17tx9 =>
          intro k1 w1 hk0 hk1 hb1 hS hd KK hK
          have d0 : x0 = .func (.func 19) #[] #[.pointer (some ⟨q, 0, none⟩)] := hd 0 (by kernel_rfl)
          have d4 : x4 = .int .i64 (ex : Nat) := hd 4 (by kernel_rfl)
          have d8 : x8 = .int .i64 (ey : Nat) := hd 8 (by kernel_rfl)
          clear hd
          subst d0
          subst d4
          subst d8
          simp only [Act.put, List.setIfInBounds_toArray, List.set_cons_zero, List.set_cons_succ] at hK
          go_simp
          go_at_call 19
          refine (HC.out w1 hS.2).mono ?_
          rintro e w2 ⟨rfl, hb⟩
          (try go_wp2_with fail)
          first | exact hK.out _ _ trivial ⟨hS.1.next hb, hS.2.next hb⟩ rfl | (have hk := hK.out _ _ trivial ⟨hS.1.next hb, hS.2.next hb⟩ rfl; revert hk; go_simp)
        case io17tx10 =>
          intro k1 w1 hk0 hk1 hb1 hS hd KK hK
          have d9 : x9 = .int .i64 kd := hd 9 (by kernel_rfl)
          clear hd
          subst d9
          have g1 := hkl
          simp only [Act.put, List.setIfInBounds_toArray, List.set_cons_zero, List.set_cons_succ] at hK
          go_simp
          first | exact hK.out _ _ trivial hS rfl | (have hk := hK.out _ _ trivial hS rfl; revert hk; go_simp)
        case io17tx11 =>
          intro k1 w1 hk0 hk1 hb1 hS hd KK hK
          have d10 : x10 = .bool true := hd 10 (by kernel_rfl)
          clear hd
          subst d10
          simp only [Act.put, List.setIfInBounds_toArray, List.set_cons_zero, List.set_cons_succ] at hK
          go_simp
          first | exact hK.out _ _ trivial hS rfl | (have hk := hK.out _ _ trivial hS rfl; revert hk; go_simp)
        case iend17t =>
          intro w1 hb1 hS hR
          have d0 : x0 = .func (.func 19) #[] #[.pointer (some ⟨q, 0, none⟩)] := hR 0 (by decide)
          have d1 : x1 = .slice (some ⟨bk, 0, none⟩) n cp := hR 1 (by decide)
          have d2 : x2 = .int .i64 (m : Nat) := hR 2 (by decide)
          have d3 : x3 = .pointer (some ⟨bk, m, none⟩) := hR 3 (by decide)
          have d4 : x4 = .int .i64 (ex : Nat) := hR 4 (by decide)
          have d5 : x5 = .slice (some ⟨bk, 0, none⟩) n cp := hR 5 (by decide)
          have d6 : x6 = .int .i64 (c : Nat) := hR 6 (by decide)
          have d7 : x7 = .pointer (some ⟨bk, c, none⟩) := hR 7 (by decide)
          have d8 : x8 = .int .i64 (ey : Nat) := hR 8 (by decide)
          have d9 : x9 = .int .i64 kd := hR 9 (by decide)
          have d10 : x10 = .bool true := hR 10 (by decide)
          have d11 : x11 = .bool false := hR 11 (by decide)
          clear hR
          subst d0
          subst d1
          subst d2
          subst d3
          subst d4
          subst d5
          subst d6
          subst d7
          subst d8
          subst d9
          subst d10
          subst d11
          try simp only [putAll, Act.put, List.setIfInBounds_toArray, List.set_cons_zero, List.set_cons_succ]
          have F2 := Lib.hid hS.1
          have K2 := Lib.hid hS.2
          clear hS hb1 F1 K1
          obtain ⟨wj, rfl⟩ : ∃ x : World, x = w1 := ⟨_, rfl⟩
          have hlt2 := hlt
          have hj2 := hj
          have HHI2 : Hid (∀ p, c ≤ p → p < m → ltk key (f m) (f p)) := Lib.hid (fun p p1 p2 => by
            have hca := (HR.out.lt (i := c) (j := m) (by omega) (by omega) (Nat.le_refl _) (by omega)).2 (by rw [HX1.out, HX2.out]; have := HKD.out; omega)
            by_cases hpc : p = c
            · rw [hpc]; exact hca
            · exact hca.trans (HR.out.l c p (by omega) (by omega) p2))
          go_wp2
          go_roundw
          case rel => exact ⟨i, c, rfl, rfl, hi, by omega, by omega, HLO, HHI2, F2, K2⟩
          case measure => (simp only [intOf]; omega)
      · skip
        refine wp_region_inv (w := wo) 12 (fun _ _ => True) (fun _ W => SF w W bk n f ∧ KA W bk q n al lc key) [] [(fun u _ => u = .func (.func 19) #[] #[.pointer (some ⟨q, 0, none⟩)]), (fun u _ => u = .slice (some ⟨bk, 0, none⟩) n cp), (fun u _ => u = .int .i64 (m : Nat)), (fun u _ => u = .pointer (some ⟨bk, m, none⟩)), (fun u _ => u = .int .i64 (ex : Nat)), (fun u _ => u = .slice (some ⟨bk, 0, none⟩) n cp), (fun u _ => u = .int .i64 (c : Nat)), (fun u _ => u = .pointer (some ⟨bk, c, none⟩)), (fun u _ => u = .int .i64 (ey : Nat)), (fun u _ => u = .int .i64 kd), (fun u _ => u = .bool false), (fun u _ => u = .bool true)] [some 92, some 93, some 94, some 95, some 96, some 97, some 98, some 99, some 100, some 101, some 102, some 103] (by kernel_rfl) (by kernel_rfl) rfl (by kernel_rfl) (by kernel_rfl) (by decide) (by decide) (fun _ _ => trivial) trivial ⟨F1.out.drew, K1.out.next (Below.drew (Below.refl _ _))⟩ (BorneAll.at (.cons (borne_eq _) (.cons (borne_eq _) (.cons (borne_eq _) (.cons (borne_eq _) (.cons (borne_eq _) (.cons (borne_eq _) (.cons (borne_eq _) (.cons (borne_eq _) (.cons (borne_eq _) (.cons (borne_eq _) (.cons (borne_eq _) (.cons (borne_eq _) .nil))))))))))))) (fun vs b hvl hvb => ?_)
        obtain ⟨x0, x1, x2, x3, x4, x5, x6, x7, x8, x9, x10, x11, rfl⟩ : ∃ x0 x1 x2 x3 x4 x5 x6 x7 x8 x9 x10 x11, vs = [x0, x1, x2, x3, x4, x5, x6, x7, x8, x9, x10, x11] := ls12 hvl
        clear hvl
        simp only [putAll, Act.put, List.setIfInBounds_toArray, List.set_cons_zero, List.set_cons_succ] at hvb
        subst hvb
        refine ⟨(.snoc (.snoc (.snoc (.snoc (.snoc (.snoc (.snoc (.snoc (.snoc (.snoc (.snoc (.snoc .zero (InvOb.intro (d := (some 92)) (r := fun u _ => u = .func (.func 19) #[] #[.pointer (some ⟨q, 0, none⟩)]) 0 0 rfl rfl rfl (by kernel_rfl) (by kernel_rfl) rfl ?io17fx0)) (InvOb.intro (d := (some 93)) (r := fun u _ => u = .slice (some ⟨bk, 0, none⟩) n cp) 0 0 rfl rfl rfl (by kernel_rfl) (by kernel_rfl) rfl ?io17fx1)) (InvOb.intro (d := (some 94)) (r := fun u _ => u = .int .i64 (m : Nat)) 0 0 rfl rfl rfl (by kernel_rfl) (by kernel_rfl) rfl ?io17fx2)) (InvOb.intro (d := (some 95)) (r := fun u _ => u = .pointer (some ⟨bk, m, none⟩)) 0 0 rfl rfl rfl (by kernel_rfl) (by kernel_rfl) rfl ?io17fx3)) (InvOb.intro (d := (some 96)) (r := fun u _ => u = .int .i64 (ex : Nat)) 0 0 rfl rfl rfl (by kernel_rfl) (by kernel_rfl) rfl ?io17fx4)) (InvOb.intro (d := (some 97)) (r := fun u _ => u = .slice (some ⟨bk, 0, none⟩) n cp) 0 0 rfl rfl rfl (by kernel_rfl) (by kernel_rfl) rfl ?io17fx5)) (InvOb.intro (d := (some 98)) (r := fun u _ => u = .int .i64 (c : Nat)) 0 0 rfl rfl rfl (by kernel_rfl) (by kernel_rfl) rfl ?io17fx6)) (InvOb.intro (d := (some 99)) (r := fun u _ => u = .pointer (some ⟨bk, c, none⟩)) 0 0 rfl rfl rfl (by kernel_rfl) (by kernel_rfl) rfl ?io17fx7)) (InvOb.intro (d := (some 100)) (r := fun u _ => u = .int .i64 (ey : Nat)) 0 0 rfl rfl rfl (by kernel_rfl) (by kernel_rfl) rfl ?io17fx8)) (InvOb.intro (d := (some 101)) (r := fun u _ => u = .int .i64 kd) 0 0 rfl rfl rfl (by kernel_rfl) (by kernel_rfl) rfl ?io17fx9)) (InvOb.intro (d := (some 102)) (r := fun u _ => u = .bool false) 0 0 rfl rfl rfl (by kernel_rfl) (by kernel_rfl) rfl ?io17fx10)) (InvOb.intro (d := (some 103)) (r := fun u _ => u = .bool true) 0 0 rfl rfl rfl (by kernel_rfl) (by kernel_rfl) rfl ?io17fx11)), ?iend17f⟩
        case io17fx0 =>
          intro k1 w1 hk0 hk1 hb1 hS hd KK hK
          clear hd
          simp only [Act.put, List.setIfInBounds_toArray, List.set_cons_zero, List.set_cons_succ] at hK
          go_simp
          first | exact hK.out _ _ trivial hS rfl | (have hk := hK.out _ _ trivial hS rfl; revert hk; go_simp)
        case io17fx1 =>
          intro k1 w1 hk0 hk1 hb1 hS hd KK hK
          clear hd
          simp only [Act.put, List.setIfInBounds_toArray, List.set_cons_zero, List.set_cons_succ] at hK
          go_simp
          first | exact hK.out _ _ trivial hS rfl | (have hk := hK.out _ _ trivial hS rfl; revert hk; go_simp)
        case io17fx2 =>
          intro k1 w1 hk0 hk1 hb1 hS hd KK hK
          clear hd
          simp only [Act.put, List.setIfInBounds_toArray, List.set_cons_zero, List.set_cons_succ] at hK
          go_simp
          first | exact hK.out _ _ trivial hS rfl | (have hk := hK.out _ _ trivial hS rfl; revert hk; go_simp)
        case io17fx3 =>
          intro k1 w1 hk0 hk1 hb1 hS hd KK hK
          have d1 : x1 = .slice (some ⟨bk, 0, none⟩) n cp := hd 1 (by kernel_rfl)
          have d2 : x2 = .int .i64 (m : Nat) := hd 2 (by kernel_rfl)
          clear hd
          subst d1
          subst d2
          have g1 := HI.out
          have g2 : (m : Int) < (n : Int) := by omega
          simp only [Act.put, List.setIfInBounds_toArray, List.set_cons_zero, List.set_cons_succ] at hK
          go_simp
          first | exact hK.out _ _ trivial hS rfl | (have hk := hK.out _ _ trivial hS rfl; revert hk; go_simp)
        case io17fx4 =>
          intro k1 w1 hk0 hk1 hb1 hS hd KK hK
          have d3 : x3 = .pointer (some ⟨bk, m, none⟩) := hd 3 (by kernel_rfl)
          clear hd
          subst d3
          have hv := hS.1.val m HI.out
          rw [HX1.out] at hv
          simp only [Act.put, List.setIfInBounds_toArray, List.set_cons_zero, List.set_cons_succ] at hK
          go_simp
          first | exact hK.out _ _ trivial hS rfl | (have hk := hK.out _ _ trivial hS rfl; revert hk; go_simp)
        case io17fx5 =>
          intro k1 w1 hk0 hk1 hb1 hS hd KK hK
          clear hd
          simp only [Act.put, List.setIfInBounds_toArray, List.set_cons_zero, List.set_cons_succ] at hK
          go_simp
          first | exact hK.out _ _ trivial hS rfl | (have hk := hK.out _ _ trivial hS rfl; revert hk; go_simp)
        case io17fx6 =>
          intro k1 w1 hk0 hk1 hb1 hS hd KK hK
          clear hd
          simp only [Act.put, List.setIfInBounds_toArray, List.set_cons_zero, List.set_cons_succ] at hK
          go_simp
          first | exact hK.out _ _ trivial hS rfl | (have hk := hK.out _ _ trivial hS rfl; revert hk; go_simp)
        case io17fx7 =>
          intro k1 w1 hk0 hk1 hb1 hS hd KK hK
          have d5 : x5 = .slice (some ⟨bk, 0, none⟩) n cp := hd 5 (by kernel_rfl)
          have d6 : x6 = .int .i64 (c : Nat) := hd 6 (by kernel_rfl)
          clear hd
          subst d5
          subst d6
          have g1 := HJ.out
          have g2 : (c : Int) < (n : Int) := by omega
          simp only [Act.put, List.setIfInBounds_toArray, List.set_cons_zero, List.set_cons_succ] at hK
          go_simp
          first | exact hK.out _ _ trivial hS rfl | (have hk := hK.out _ _ trivial hS rfl; revert hk; go_simp)
        case io17fx8 =>
          intro k1 w1 hk0 hk1 hb1 hS hd KK hK
          have d7 : x7 = .pointer (some ⟨bk, c, none⟩) := hd 7 (by kernel_rfl)
          clear hd
          subst d7
          have hv := hS.1.val c HJ.out
          rw [HX2.out] at hv
          simp only [Act.put, List.setIfInBounds_toArray, List.set_cons_zero, List.set_cons_succ] at hK
          go_simp
          first | exact hK.out _ _ trivial hS rfl | (have hk := hK.out _ _ trivial hS rfl; revert hk; go_simp)
        case io17fx9 =>
          intro k1 w1 hk0 hk1 hb1 hS hd KK hK
          have d0 : x0 = .func (.func 19) #[] #[.pointer (some ⟨q, 0, none⟩)] := hd 0 (by kernel_rfl)
          have d4 : x4 = .int .i64 (ex : Nat) := hd 4 (by kernel_rfl)
          have d8 : x8 = .int .i64 (ey : Nat) := hd 8 (by kernel_rfl)
          clear hd
          subst d0
          subst d4
          subst d8
          simp only [Act.put, List.setIfInBounds_toArray, List.set_cons_zero, List.set_cons_succ] at hK
          go_simp
          go_at_call 19
          refine (HC.out w1 hS.2).mono ?_
          rintro e w2 ⟨rfl, hb⟩
          (try go_wp2_with fail)
          first | exact hK.out _ _ trivial ⟨hS.1.next hb, hS.2.next hb⟩ rfl | (have hk := hK.out _ _ trivial ⟨hS.1.next hb, hS.2.next hb⟩ rfl; revert hk; go_simp)
        case io17fx10 =>
          intro k1 w1 hk0 hk1 hb1 hS hd KK hK
          have d9 : x9 = .int .i64 kd := hd 9 (by kernel_rfl)
          clear hd
          subst d9
          have g1 := hkl
          simp only [Act.put, List.setIfInBounds_toArray, List.set_cons_zero, List.set_cons_succ] at hK
          go_simp
          first | exact hK.out _ _ trivial hS rfl | (have hk := hK.out _ _ trivial hS rfl; revert hk; go_simp)
        case io17fx11 =>
          intro k1 w1 hk0 hk1 hb1 hS hd KK hK
          have d10 : x10 = .bool false := hd 10 (by kernel_rfl)
          clear hd
          subst d10
          simp only [Act.put, List.setIfInBounds_toArray, List.set_cons_zero, List.set_cons_succ] at hK
          go_simp
          first | exact hK.out _ _ trivial hS rfl | (have hk := hK.out _ _ trivial hS rfl; revert hk; go_simp)
        case iend17f =>
          intro w1 hb1 hS hR
          have d0 : x0 = .func (.func 19) #[] #[.pointer (some ⟨q, 0, none⟩)] := hR 0 (by decide)
          have d1 : x1 = .slice (some ⟨bk, 0, none⟩) n cp := hR 1 (by decide)
          have d2 : x2 = .int .i64 (m : Nat) := hR 2 (by decide)
          have d3 : x3 = .pointer (some ⟨bk, m, none⟩) := hR 3 (by decide)
          have d4 : x4 = .int .i64 (ex : Nat) := hR 4 (by decide)
          have d5 : x5 = .slice (some ⟨bk, 0, none⟩) n cp := hR 5 (by decide)
          have d6 : x6 = .int .i64 (c : Nat) := hR 6 (by decide)
          have d7 : x7 = .pointer (some ⟨bk, c, none⟩) := hR 7 (by decide)
          have d8 : x8 = .int .i64 (ey : Nat) := hR 8 (by decide)
          have d9 : x9 = .int .i64 kd := hR 9 (by decide)
          have d10 : x10 = .bool false := hR 10 (by decide)
          have d11 : x11 = .bool true := hR 11 (by decide)
          clear hR
          subst d0
          subst d1
          subst d2
          subst d3
          subst d4
          subst d5
          subst d6
          subst d7
          subst d8
          subst d9
          subst d10
          subst d11
          try simp only [putAll, Act.put, List.setIfInBounds_toArray, List.set_cons_zero, List.set_cons_succ]
          have F2 := Lib.hid hS.1
          have K2 := Lib.hid hS.2
          clear hS hb1 F1 K1
          obtain ⟨wj, rfl⟩ : ∃ x : World, x = w1 := ⟨_, rfl⟩
          have hlt2 := hlt
          have hj2 := hj
          have HLO2 : Hid (∀ p, a ≤ p → p < c + 1 → ltk key (f p) (f m)) := Lib.hid (fun p p1 p2 => by
            have hca := (HR.out.ge (i := c) (j := m) (by omega) (by omega) (Nat.le_refl _) (by omega)).2 (by rw [HX1.out, HX2.out]; have := HKD.out; omega)
            by_cases hpc : p = c
            · rw [hpc]; exact hca
            · exact (HR.out.l p c p1 (by omega) (by omega)).trans hca)
          go_wp2
          go_roundw
          case rel => exact ⟨c + 1, j, by first | rfl | go_num, rfl, by omega, by omega, hj, HLO2, HHI, F2, K2⟩
          case measure => (simp only [intOf]; omega)
    · obtain rfl : i = j := by omega
      have hmg := merge_one_right (by rw [← hme]; exact HR.out) hi hj HLO.out HHI.out
      rw [← hme] at hmg
      have HMG := Lib.hid hmg
      clear hmg HLO HHI
      go_wp2
      go_loopw [17] (fun s17 wr => ∃ (k : Nat), s17 = .int .i64 (k : Nat) ∧ i ≤ k ∧ k ≤ m ∧ Hid (SF w wr bk n (insJ f m k)) ∧ Hid (KA wr bk q n al lc key)) (fun s17 _ => (intOf s17).toNat)
      case atStart => exact ⟨m, rfl, hj, Nat.le_refl _, by rw [insJ_self]; exact F1, K1⟩
      case round =>
        obtain ⟨k, rfl, hk1, hk2, F3, K3⟩ := hrel
        clear F1 K1
        obtain ⟨wi, rfl⟩ : ∃ x : World, x = wr := ⟨_, rfl⟩
        by_cases hki : i < k
        · skip
          obtain ⟨k2, hk3⟩ : ∃ z, k = z + 1 := ⟨k - 1, by omega⟩
          obtain ⟨G, hG⟩ : ∃ z, insJ f m k = z := ⟨_, rfl⟩
          have hst := insJ_step f hk2 (by omega)
          rw [hG, show k - 1 = k2 by omega] at hst
          rw [hG] at F3
          obtain ⟨ex, hex⟩ : ∃ z, G k = z := ⟨_, rfl⟩
          obtain ⟨ey, hey⟩ : ∃ z, G k2 = z := ⟨_, rfl⟩
          rw [hex, hey] at hst
          have HX1 := Lib.hid hex
          have HX2 := Lib.hid hey
          have HST := Lib.hid hst
          have HI := Lib.hid (show k < n by omega)
          have HJ := Lib.hid (show k2 < n by omega)
          have HK2 := Lib.hid (show IntKind.i64.wrap ((k : Int) - 1) = (k2 : Int) from (IntWalk.i64_in _ (by omega)).trans (by omega))
          have HKE := Lib.hid hk3
          clear hex hey hst hk3 hG
          go_upto_region 23 with fail
          refine wp_region_inv (w := wi) 18 (fun _ _ => True) (fun k9 W => (k9 = 0 → SF w W bk n G) ∧ (k9 = 1 → SF w W bk n (upd G k ey)) ∧ (k9 = 2 → SF w W bk n (upd (upd G k ey) k2 ex)) ∧ KA W bk q n al lc key) [15, 17] [(fun u _ => u = .slice (some ⟨bk, 0, none⟩) n cp), (fun u _ => u = .int .i64 (k : Nat)), (fun u _ => u = .slice (some ⟨bk, 0, none⟩) n cp), (fun u _ => u = .int .i64 (k : Nat)), (fun u _ => u = .int .i64 (k2 : Nat)), (fun u _ => u = .slice (some ⟨bk, 0, none⟩) n cp), (fun u _ => u = .int .i64 (k : Nat)), (fun u _ => u = .int .i64 (k2 : Nat)), (fun u _ => u = .pointer (some ⟨bk, k2, none⟩)), (fun u _ => u = .int .i64 (ey : Nat)), (fun u _ => u = .slice (some ⟨bk, 0, none⟩) n cp), (fun u _ => u = .int .i64 (k : Nat)), (fun u _ => u = .pointer (some ⟨bk, k, none⟩)), (fun u _ => u = .int .i64 (ex : Nat)), (fun u _ => u = .pointer (some ⟨bk, k, none⟩)), (fun _ _ => True), (fun u _ => u = .pointer (some ⟨bk, k2, none⟩)), (fun _ _ => True)] [some 113, some 114, some 115, some 116, some 117, some 118, some 119, some 120, some 121, some 122, some 123, some 124, some 125, some 126, some 127, none, some 128, none] (by kernel_rfl) (by kernel_rfl) rfl (by kernel_rfl) (by kernel_rfl) (by decide) (by decide) (fun _ _ => trivial) trivial ⟨fun _ => F3.out.drew, fun h => absurd h (by decide), fun h => absurd h (by decide), K3.out.next (Below.drew (Below.refl _ _))⟩ (BorneAll.at (.cons (borne_eq _) (.cons (borne_eq _) (.cons (borne_eq _) (.cons (borne_eq _) (.cons (borne_eq _) (.cons (borne_eq _) (.cons (borne_eq _) (.cons (borne_eq _) (.cons (borne_eq _) (.cons (borne_eq _) (.cons (borne_eq _) (.cons (borne_eq _) (.cons (borne_eq _) (.cons (borne_eq _) (.cons (borne_eq _) (.cons (fun _ _ _ _ _ => trivial) (.cons (borne_eq _) (.cons (fun _ _ _ _ _ => trivial) .nil))))))))))))))))))) (fun vs b hvl hvb => ?_)
          obtain ⟨x0, x1, x2, x3, x4, x5, x6, x7, x8, x9, x10, x11, x12, x13, x14, x15, x16, x17, rfl⟩ : ∃ x0 x1 x2 x3 x4 x5 x6 x7 x8 x9 x10 x11 x12 x13 x14 x15 x16 x17, vs = [x0, x1, x2, x3, x4, x5, x6, x7, x8, x9, x10, x11, x12, x13, x14, x15, x16, x17] := ls18 hvl
          clear hvl
          simp only [putAll, Act.put, List.setIfInBounds_toArray, List.set_cons_zero, List.set_cons_succ] at hvb
          subst hvb
          refine ⟨(.snoc (.snoc (.snoc (.snoc (.snoc (.snoc (.snoc (.snoc (.snoc (.snoc (.snoc (.snoc (.snoc (.snoc (.snoc (.snoc (.snoc (.snoc .zero (InvOb.intro (d := (some 113)) (r := fun u _ => u = .slice (some ⟨bk, 0, none⟩) n cp) 0 0 rfl rfl rfl (by kernel_rfl) (by kernel_rfl) rfl ?io23x0)) (InvOb.intro (d := (some 114)) (r := fun u _ => u = .int .i64 (k : Nat)) 0 0 rfl rfl rfl (by kernel_rfl) (by kernel_rfl) rfl ?io23x1)) (InvOb.intro (d := (some 115)) (r := fun u _ => u = .slice (some ⟨bk, 0, none⟩) n cp) 0 1 rfl rfl rfl (by kernel_rfl) (by kernel_rfl) rfl ?io23x2)) (InvOb.intro (d := (some 116)) (r := fun u _ => u = .int .i64 (k : Nat)) 0 1 rfl rfl rfl (by kernel_rfl) (by kernel_rfl) rfl ?io23x3)) (InvOb.intro (d := (some 117)) (r := fun u _ => u = .int .i64 (k2 : Nat)) 0 1 rfl rfl rfl (by kernel_rfl) (by kernel_rfl) rfl ?io23x4)) (InvOb.intro (d := (some 118)) (r := fun u _ => u = .slice (some ⟨bk, 0, none⟩) n cp) 0 0 rfl rfl rfl (by kernel_rfl) (by kernel_rfl) rfl ?io23x5)) (InvOb.intro (d := (some 119)) (r := fun u _ => u = .int .i64 (k : Nat)) 0 0 rfl rfl rfl (by kernel_rfl) (by kernel_rfl) rfl ?io23x6)) (InvOb.intro (d := (some 120)) (r := fun u _ => u = .int .i64 (k2 : Nat)) 0 0 rfl rfl rfl (by kernel_rfl) (by kernel_rfl) rfl ?io23x7)) (InvOb.intro (d := (some 121)) (r := fun u _ => u = .pointer (some ⟨bk, k2, none⟩)) 0 0 rfl rfl rfl (by kernel_rfl) (by kernel_rfl) rfl ?io23x8)) (InvOb.intro (d := (some 122)) (r := fun u _ => u = .int .i64 (ey : Nat)) 0 0 rfl rfl rfl (by kernel_rfl) (by kernel_rfl) rfl ?io23x9)) (InvOb.intro (d := (some 123)) (r := fun u _ => u = .slice (some ⟨bk, 0, none⟩) n cp) 0 0 rfl rfl rfl (by kernel_rfl) (by kernel_rfl) rfl ?io23x10)) (InvOb.intro (d := (some 124)) (r := fun u _ => u = .int .i64 (k : Nat)) 0 0 rfl rfl rfl (by kernel_rfl) (by kernel_rfl) rfl ?io23x11)) (InvOb.intro (d := (some 125)) (r := fun u _ => u = .pointer (some ⟨bk, k, none⟩)) 0 0 rfl rfl rfl (by kernel_rfl) (by kernel_rfl) rfl ?io23x12)) (InvOb.intro (d := (some 126)) (r := fun u _ => u = .int .i64 (ex : Nat)) 0 0 rfl rfl rfl (by kernel_rfl) (by kernel_rfl) rfl ?io23x13)) (InvOb.intro (d := (some 127)) (r := fun u _ => u = .pointer (some ⟨bk, k, none⟩)) 0 0 rfl rfl rfl (by kernel_rfl) (by kernel_rfl) rfl ?io23x14)) (InvOb.put (d := none) (r := fun _ _ => True) 0 rfl rfl rfl (by kernel_rfl) (by kernel_rfl) rfl ?io23x15)) (InvOb.intro (d := (some 128)) (r := fun u _ => u = .pointer (some ⟨bk, k2, none⟩)) 1 1 rfl rfl rfl (by kernel_rfl) (by kernel_rfl) rfl ?io23x16)) (InvOb.put (d := none) (r := fun _ _ => True) 1 rfl rfl rfl (by kernel_rfl) (by kernel_rfl) rfl ?io23x17)), ?iend23⟩
          case io23x0 =>
            intro k1 w1 hk0 hk1 hb1 hS hd KK hK
            clear hd
            simp only [Act.put, List.setIfInBounds_toArray, List.set_cons_zero, List.set_cons_succ] at hK
            go_simp
            first | exact hK.out _ _ trivial hS rfl | (have hk := hK.out _ _ trivial hS rfl; revert hk; go_simp)
          case io23x1 =>
            intro k1 w1 hk0 hk1 hb1 hS hd KK hK
            clear hd
            simp only [Act.put, List.setIfInBounds_toArray, List.set_cons_zero, List.set_cons_succ] at hK
            go_simp
            first | exact hK.out _ _ trivial hS rfl | (have hk := hK.out _ _ trivial hS rfl; revert hk; go_simp)
          case io23x2 =>
            intro k1 w1 hk0 hk1 hb1 hS hd KK hK
            clear hd
            simp only [Act.put, List.setIfInBounds_toArray, List.set_cons_zero, List.set_cons_succ] at hK
            go_simp
            first | exact hK.out _ _ trivial hS rfl | (have hk := hK.out _ _ trivial hS rfl; revert hk; go_simp)
          case io23x3 =>
            intro k1 w1 hk0 hk1 hb1 hS hd KK hK
            clear hd
            simp only [Act.put, List.setIfInBounds_toArray, List.set_cons_zero, List.set_cons_succ] at hK
            go_simp
            first | exact hK.out _ _ trivial hS rfl | (have hk := hK.out _ _ trivial hS rfl; revert hk; go_simp)
          case io23x4 =>
            intro k1 w1 hk0 hk1 hb1 hS hd KK hK
            have d3 : x3 = .int .i64 (k : Nat) := hd 3 (by kernel_rfl)
            clear hd
            subst d3
            have dx := HK2.out
            simp only [Act.put, List.setIfInBounds_toArray, List.set_cons_zero, List.set_cons_succ] at hK
            go_simp
            first | exact hK.out _ _ trivial hS rfl | (have hk := hK.out _ _ trivial hS rfl; revert hk; go_simp)
          case io23x5 =>
            intro k1 w1 hk0 hk1 hb1 hS hd KK hK
            clear hd
            simp only [Act.put, List.setIfInBounds_toArray, List.set_cons_zero, List.set_cons_succ] at hK
            go_simp
            first | exact hK.out _ _ trivial hS rfl | (have hk := hK.out _ _ trivial hS rfl; revert hk; go_simp)
          case io23x6 =>
            intro k1 w1 hk0 hk1 hb1 hS hd KK hK
            clear hd
            simp only [Act.put, List.setIfInBounds_toArray, List.set_cons_zero, List.set_cons_succ] at hK
            go_simp
            first | exact hK.out _ _ trivial hS rfl | (have hk := hK.out _ _ trivial hS rfl; revert hk; go_simp)
          case io23x7 =>
            intro k1 w1 hk0 hk1 hb1 hS hd KK hK
            have d6 : x6 = .int .i64 (k : Nat) := hd 6 (by kernel_rfl)
            clear hd
            subst d6
            have dx := HK2.out
            simp only [Act.put, List.setIfInBounds_toArray, List.set_cons_zero, List.set_cons_succ] at hK
            go_simp
            first | exact hK.out _ _ trivial hS rfl | (have hk := hK.out _ _ trivial hS rfl; revert hk; go_simp)
          case io23x8 =>
            intro k1 w1 hk0 hk1 hb1 hS hd KK hK
            have d5 : x5 = .slice (some ⟨bk, 0, none⟩) n cp := hd 5 (by kernel_rfl)
            have d7 : x7 = .int .i64 (k2 : Nat) := hd 7 (by kernel_rfl)
            clear hd
            subst d5
            subst d7
            have g1 := HJ.out
            have g2 : (k2 : Int) < (n : Int) := by omega
            simp only [Act.put, List.setIfInBounds_toArray, List.set_cons_zero, List.set_cons_succ] at hK
            go_simp
            first | exact hK.out _ _ trivial hS rfl | (have hk := hK.out _ _ trivial hS rfl; revert hk; go_simp)
          case io23x9 =>
            intro k1 w1 hk0 hk1 hb1 hS hd KK hK
            have d8 : x8 = .pointer (some ⟨bk, k2, none⟩) := hd 8 (by kernel_rfl)
            clear hd
            subst d8
            have hF := hS.1 (by omega)
            have hv := hF.val k2 HJ.out
            rw [HX2.out] at hv
            simp only [Act.put, List.setIfInBounds_toArray, List.set_cons_zero, List.set_cons_succ] at hK
            go_simp
            first | exact hK.out _ _ trivial hS rfl | (have hk := hK.out _ _ trivial hS rfl; revert hk; go_simp)
          case io23x10 =>
            intro k1 w1 hk0 hk1 hb1 hS hd KK hK
            clear hd
            simp only [Act.put, List.setIfInBounds_toArray, List.set_cons_zero, List.set_cons_succ] at hK
            go_simp
            first | exact hK.out _ _ trivial hS rfl | (have hk := hK.out _ _ trivial hS rfl; revert hk; go_simp)
          case io23x11 =>
            intro k1 w1 hk0 hk1 hb1 hS hd KK hK
            clear hd
            simp only [Act.put, List.setIfInBounds_toArray, List.set_cons_zero, List.set_cons_succ] at hK
            go_simp
            first | exact hK.out _ _ trivial hS rfl | (have hk := hK.out _ _ trivial hS rfl; revert hk; go_simp)
          case io23x12 =>
            intro k1 w1 hk0 hk1 hb1 hS hd KK hK
            have d10 : x10 = .slice (some ⟨bk, 0, none⟩) n cp := hd 10 (by kernel_rfl)
            have d11 : x11 = .int .i64 (k : Nat) := hd 11 (by kernel_rfl)
            clear hd
            subst d10
            subst d11
            have g1 := HI.out
            have g2 : (k : Int) < (n : Int) := by omega
            simp only [Act.put, List.setIfInBounds_toArray, List.set_cons_zero, List.set_cons_succ] at hK
            go_simp
            first | exact hK.out _ _ trivial hS rfl | (have hk := hK.out _ _ trivial hS rfl; revert hk; go_simp)
          case io23x13 =>
            intro k1 w1 hk0 hk1 hb1 hS hd KK hK
            have d12 : x12 = .pointer (some ⟨bk, k, none⟩) := hd 12 (by kernel_rfl)
            clear hd
            subst d12
            have hF := hS.1 (by omega)
            have hv := hF.val k HI.out
            rw [HX1.out] at hv
            simp only [Act.put, List.setIfInBounds_toArray, List.set_cons_zero, List.set_cons_succ] at hK
            go_simp
            first | exact hK.out _ _ trivial hS rfl | (have hk := hK.out _ _ trivial hS rfl; revert hk; go_simp)
          case io23x14 =>
            intro k1 w1 hk0 hk1 hb1 hS hd KK hK
            have d0 : x0 = .slice (some ⟨bk, 0, none⟩) n cp := hd 0 (by kernel_rfl)
            have d1 : x1 = .int .i64 (k : Nat) := hd 1 (by kernel_rfl)
            have d5 : x5 = .slice (some ⟨bk, 0, none⟩) n cp := hd 5 (by kernel_rfl)
            have d6 : x6 = .int .i64 (k : Nat) := hd 6 (by kernel_rfl)
            have d7 : x7 = .int .i64 (k2 : Nat) := hd 7 (by kernel_rfl)
            have d8 : x8 = .pointer (some ⟨bk, k2, none⟩) := hd 8 (by kernel_rfl)
            have d9 : x9 = .int .i64 (ey : Nat) := hd 9 (by kernel_rfl)
            have d13 : x13 = .int .i64 (ex : Nat) := hd 13 (by kernel_rfl)
            clear hd
            subst d0
            subst d1
            subst d5
            subst d6
            subst d7
            subst d8
            subst d9
            subst d13
            have g1 := HI.out
            have g2 : (k : Int) < (n : Int) := by omega
            simp only [Act.put, List.setIfInBounds_toArray, List.set_cons_zero, List.set_cons_succ] at hK
            go_simp
            first | exact hK.out _ _ trivial hS rfl | (have hk := hK.out _ _ trivial hS rfl; revert hk; go_simp)
          case io23x15 =>
            intro w1 hb1 hS hd KK hK
            have d0 : x0 = .slice (some ⟨bk, 0, none⟩) n cp := hd 0 (by kernel_rfl)
            have d1 : x1 = .int .i64 (k : Nat) := hd 1 (by kernel_rfl)
            have d5 : x5 = .slice (some ⟨bk, 0, none⟩) n cp := hd 5 (by kernel_rfl)
            have d6 : x6 = .int .i64 (k : Nat) := hd 6 (by kernel_rfl)
            have d7 : x7 = .int .i64 (k2 : Nat) := hd 7 (by kernel_rfl)
            have d8 : x8 = .pointer (some ⟨bk, k2, none⟩) := hd 8 (by kernel_rfl)
            have d9 : x9 = .int .i64 (ey : Nat) := hd 9 (by kernel_rfl)
            have d13 : x13 = .int .i64 (ex : Nat) := hd 13 (by kernel_rfl)
            have d14 : x14 = .pointer (some ⟨bk, k, none⟩) := hd 14 (by kernel_rfl)
            clear hd
            subst d0
            subst d1
            subst d5
            subst d6
            subst d7
            subst d8
            subst d9
            subst d13
            subst d14
            have hF := hS.1 rfl
            have hv := hF.val k HI.out
            have hf := hF.free k HI.out
            simp only [Act.put, List.setIfInBounds_toArray, List.set_cons_zero, List.set_cons_succ] at hK
            go_simp
            first | exact hK.out undef _ trivial ⟨fun h => absurd h (by decide), fun _ => (hS.1 rfl).put k ey, fun h => absurd h (by decide), hS.2.2.2.grown (Go.Lib.grownBy_setCell w1 bk k _)⟩ trivial | (have hk := hK.out undef _ trivial ⟨fun h => absurd h (by decide), fun _ => (hS.1 rfl).put k ey, fun h => absurd h (by decide), hS.2.2.2.grown (Go.Lib.grownBy_setCell w1 bk k _)⟩ trivial; revert hk; go_simp)
          case io23x16 =>
            intro k1 w1 hk0 hk1 hb1 hS hd KK hK
            have d0 : x0 = .slice (some ⟨bk, 0, none⟩) n cp := hd 0 (by kernel_rfl)
            have d1 : x1 = .int .i64 (k : Nat) := hd 1 (by kernel_rfl)
            have d2 : x2 = .slice (some ⟨bk, 0, none⟩) n cp := hd 2 (by kernel_rfl)
            have d3 : x3 = .int .i64 (k : Nat) := hd 3 (by kernel_rfl)
            have d4 : x4 = .int .i64 (k2 : Nat) := hd 4 (by kernel_rfl)
            have d5 : x5 = .slice (some ⟨bk, 0, none⟩) n cp := hd 5 (by kernel_rfl)
            have d6 : x6 = .int .i64 (k : Nat) := hd 6 (by kernel_rfl)
            have d7 : x7 = .int .i64 (k2 : Nat) := hd 7 (by kernel_rfl)
            have d8 : x8 = .pointer (some ⟨bk, k2, none⟩) := hd 8 (by kernel_rfl)
            have d9 : x9 = .int .i64 (ey : Nat) := hd 9 (by kernel_rfl)
            have d10 : x10 = .slice (some ⟨bk, 0, none⟩) n cp := hd 10 (by kernel_rfl)
            have d11 : x11 = .int .i64 (k : Nat) := hd 11 (by kernel_rfl)
            have d12 : x12 = .pointer (some ⟨bk, k, none⟩) := hd 12 (by kernel_rfl)
            have d13 : x13 = .int .i64 (ex : Nat) := hd 13 (by kernel_rfl)
            have d14 : x14 = .pointer (some ⟨bk, k, none⟩) := hd 14 (by kernel_rfl)
            clear hd
            subst d0
            subst d1
            subst d2
            subst d3
            subst d4
            subst d5
            subst d6
            subst d7
            subst d8
            subst d9
            subst d10
            subst d11
            subst d12
            subst d13
            subst d14
            have g1 := HJ.out
            have g2 : (k2 : Int) < (n : Int) := by omega
            simp only [Act.put, List.setIfInBounds_toArray, List.set_cons_zero, List.set_cons_succ] at hK
            go_simp
            first | exact hK.out _ _ trivial hS rfl | (have hk := hK.out _ _ trivial hS rfl; revert hk; go_simp)
          case io23x17 =>
            intro w1 hb1 hS hd KK hK
            have d0 : x0 = .slice (some ⟨bk, 0, none⟩) n cp := hd 0 (by kernel_rfl)
            have d1 : x1 = .int .i64 (k : Nat) := hd 1 (by kernel_rfl)
            have d2 : x2 = .slice (some ⟨bk, 0, none⟩) n cp := hd 2 (by kernel_rfl)
            have d3 : x3 = .int .i64 (k : Nat) := hd 3 (by kernel_rfl)
            have d4 : x4 = .int .i64 (k2 : Nat) := hd 4 (by kernel_rfl)
            have d5 : x5 = .slice (some ⟨bk, 0, none⟩) n cp := hd 5 (by kernel_rfl)
            have d6 : x6 = .int .i64 (k : Nat) := hd 6 (by kernel_rfl)
            have d7 : x7 = .int .i64 (k2 : Nat) := hd 7 (by kernel_rfl)
            have d8 : x8 = .pointer (some ⟨bk, k2, none⟩) := hd 8 (by kernel_rfl)
            have d9 : x9 = .int .i64 (ey : Nat) := hd 9 (by kernel_rfl)
            have d10 : x10 = .slice (some ⟨bk, 0, none⟩) n cp := hd 10 (by kernel_rfl)
            have d11 : x11 = .int .i64 (k : Nat) := hd 11 (by kernel_rfl)
            have d12 : x12 = .pointer (some ⟨bk, k, none⟩) := hd 12 (by kernel_rfl)
            have d13 : x13 = .int .i64 (ex : Nat) := hd 13 (by kernel_rfl)
            have d14 : x14 = .pointer (some ⟨bk, k, none⟩) := hd 14 (by kernel_rfl)
            have d16 : x16 = .pointer (some ⟨bk, k2, none⟩) := hd 16 (by kernel_rfl)
            clear hd
            subst d0
            subst d1
            subst d2
            subst d3
            subst d4
            subst d5
            subst d6
            subst d7
            subst d8
            subst d9
            subst d10
            subst d11
            subst d12
            subst d13
            subst d14
            subst d16
            have hF := hS.2.1 rfl
            have hv := hF.val k2 HJ.out
            have hf := hF.free k2 HJ.out
            simp only [Act.put, List.setIfInBounds_toArray, List.set_cons_zero, List.set_cons_succ] at hK
            go_simp
            first | exact hK.out undef _ trivial ⟨fun h => absurd h (by decide), fun h => absurd h (by decide), fun _ => (hS.2.1 rfl).put k2 ex, hS.2.2.2.grown (Go.Lib.grownBy_setCell w1 bk k2 _)⟩ trivial | (have hk := hK.out undef _ trivial ⟨fun h => absurd h (by decide), fun h => absurd h (by decide), fun _ => (hS.2.1 rfl).put k2 ex, hS.2.2.2.grown (Go.Lib.grownBy_setCell w1 bk k2 _)⟩ trivial; revert hk; go_simp)
          case iend23 =>
            intro w1 hb1 hS hR
            have d0 : x0 = .slice (some ⟨bk, 0, none⟩) n cp := hR 0 (by decide)
            have d1 : x1 = .int .i64 (k : Nat) := hR 1 (by decide)
            have d2 : x2 = .slice (some ⟨bk, 0, none⟩) n cp := hR 2 (by decide)
            have d3 : x3 = .int .i64 (k : Nat) := hR 3 (by decide)
            have d4 : x4 = .int .i64 (k2 : Nat) := hR 4 (by decide)
            have d5 : x5 = .slice (some ⟨bk, 0, none⟩) n cp := hR 5 (by decide)
            have d6 : x6 = .int .i64 (k : Nat) := hR 6 (by decide)
            have d7 : x7 = .int .i64 (k2 : Nat) := hR 7 (by decide)
            have d8 : x8 = .pointer (some ⟨bk, k2, none⟩) := hR 8 (by decide)
            have d9 : x9 = .int .i64 (ey : Nat) := hR 9 (by decide)
            have d10 : x10 = .slice (some ⟨bk, 0, none⟩) n cp := hR 10 (by decide)
            have d11 : x11 = .int .i64 (k : Nat) := hR 11 (by decide)
            have d12 : x12 = .pointer (some ⟨bk, k, none⟩) := hR 12 (by decide)
            have d13 : x13 = .int .i64 (ex : Nat) := hR 13 (by decide)
            have d14 : x14 = .pointer (some ⟨bk, k, none⟩) := hR 14 (by decide)
            have d16 : x16 = .pointer (some ⟨bk, k2, none⟩) := hR 16 (by decide)
            clear hR
            subst d0
            subst d1
            subst d2
            subst d3
            subst d4
            subst d5
            subst d6
            subst d7
            subst d8
            subst d9
            subst d10
            subst d11
            subst d12
            subst d13
            subst d14
            subst d16
            try simp only [putAll, Act.put, List.setIfInBounds_toArray, List.set_cons_zero, List.set_cons_succ]
            have F4 := hS.2.2.1 rfl
            have K4 := Lib.hid hS.2.2.2
            clear hS hb1 F3 K3
            rw [HST.out] at F4
            have F5 := Lib.hid F4
            clear F4
            obtain ⟨wk, rfl⟩ : ∃ x : World, x = w1 := ⟨_, rfl⟩
            go_wp2
            have hke := HKE.out
            go_roundw
            case rel => exact ⟨k2, congrArg (Value.int .i64) (by omega), by omega, by omega, F5, K4⟩
            case measure => (simp only [intOf]; omega)
        · obtain rfl : k = i := by omega
          go_wp2
          refine bodyPost_ret (results_none rfl _ _ _) rfl ?_
          exact ⟨rfl, _, F3.out, HMG.out.1, HMG.out.2⟩
end Go.Proofs.Ytdpnichgdfpmgaa
