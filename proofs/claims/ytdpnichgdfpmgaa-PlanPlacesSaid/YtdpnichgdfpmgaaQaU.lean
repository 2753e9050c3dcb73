/- Walks: the merge of two runs in place: part 3. -/
import Derived.Test.YtdpnichgdfpmgaaQaT
set_option linter.unusedVariables false
set_option linter.unusedSimpArgs false
namespace Go.Proofs.Ytdpnichgdfpmgaa
open Go.RowKit Go.Rt
attribute [local go_sem] Oper.semAt_some
set_option maxRecDepth 100000 in
set_option maxHeartbeats 4000000 in
theorem psym_rec (bk q n cp lc : Nat) (al : Option Addr) (key : Nat → Int) (f : Nat → Nat) (a m e : Nat) (za zm ze : Int) (w : World) (h : SF w w bk n f) (hk : KA w bk q n al lc key) (hza : za = (a : Nat)) (hzm : zm = (m : Nat)) (hze : ze = (e : Nat)) (ham : a + 1 < m) (hme : m + 1 < e) (hen : e ≤ n) (hR : Runs key f a m e) (hv : ∀ i, i < n → f i < n)
    (ih : ∀ (a2 m2 e2 : Nat) (za zm ze : Int) (f2 : Nat → Nat) (W : World), e2 - a2 < e - a → SF W W bk n f2 → KA W bk q n al lc key → za = (a2 : Nat) → zm = (m2 : Nat) → ze = (e2 : Nat) → a2 < m2 → m2 < e2 → e2 ≤ n → Runs key f2 a2 m2 e2 → (∀ i, i < n → f2 i < n) →
      Calls Try.prog 29 #[.slice (some ⟨bk, 0, none⟩) n cp, .int .i64 za, .int .i64 zm, .int .i64 ze, .func (.func 19) #[] #[.pointer (some ⟨q, 0, none⟩)]] W fun en w' => en = .returned (.tuple #[]) ∧ ∃ g, SF W w' bk n g ∧ Srt key g a2 e2 ∧ Within f2 g a2 e2) :
    Calls Try.prog 29 #[.slice (some ⟨bk, 0, none⟩) n cp, .int .i64 za, .int .i64 zm, .int .i64 ze, .func (.func 19) #[] #[.pointer (some ⟨q, 0, none⟩)]] w fun en w' => en = .returned (.tuple #[]) ∧ ∃ g, SF w w' bk n g ∧ Srt key g a e ∧ Within f g a e := by
  subst hza; subst hzm; subst hze
  have hnb := hk.nb
  have F0 := Lib.hid h
  have K0 := Lib.hid hk
  clear h hk
  have HR := Lib.hid hR
  have HV := Lib.hid hv
  have HIH := Lib.hid ih
  have HCM := Lib.hid (fun x y W hx hy hK => pcmp_any bk q n lc al key x y W hx hy hK)
  have HRO := Lib.hid (fun g a m e za zm ze W h hk ha hm he h1 h2 h3 => prot_any bk q n cp lc al key g a m e za zm ze W h hk ha hm he h1 h2 h3)
  have hma : ¬ (m : Int) - (a : Int) = 1 := by omega
  have hem : ¬ (e : Int) - (m : Int) = 1 := by omega
  obtain ⟨mid, hmid⟩ : ∃ z, (a + e) / 2 = z := ⟨_, rfl⟩
  obtain ⟨p, hp⟩ : ∃ z, mid + m = z + 1 := ⟨mid + m - 1, by omega⟩
  obtain ⟨s0, hs0⟩ : ∃ z, (if mid < m then mid + m - e else a) = z := ⟨_, rfl⟩
  obtain ⟨r0, hr0⟩ : ∃ z, (if mid < m then mid else m) = z := ⟨_, rfl⟩
  have hB : SeekB a m e mid p s0 r0 := ⟨by omega, by omega, hmid.symm, hp.symm, hs0.symm, hr0.symm⟩
  have HB := Lib.hid hB
  obtain ⟨hb1, hb2, hb3, hb4, hb5, hb6⟩ := hB.facts
  have HB6 := Lib.hid hb6
  have hmI : ((a : Int) + (e : Int)) / 2 = (mid : Int) := by omega
  have HP := Lib.hid hp
  have hmd1 : a < mid := by omega
  have hmd2 : mid < e := by omega
  have hmd3 : a + e ≤ 2 * mid + 1 := by omega
  clear hv hR ih hB hb6 hmid hp
  go_enter Try.func29, Try.ntmps29
  go_upto_region 25 with fail
  clear hmI
  go_upto_if 140 with fail
  go_cut [20, 21] from 138 to 146 (fun s20 s21 wx => s20 = .int .i64 (s0 : Nat) ∧ s21 = .int .i64 (r0 : Nat) ∧ wx = w)
  case first =>
    by_cases hc : mid < m
    · rw [if_pos hc] at hs0 hr0
      go_wp2
      go_meet
      exact ⟨congrArg (Value.int .i64) (by omega), congrArg (Value.int .i64) (by omega), rfl⟩
    · rw [if_neg hc] at hs0 hr0
      go_wp2
      go_meet
      exact ⟨congrArg (Value.int .i64) (by omega), congrArg (Value.int .i64) (by omega), rfl⟩
  case rest =>
    obtain ⟨rfl, rfl, hw9⟩ := hcut
    have hw9 := hw9.symm
    subst hw9
    clear hs0 hr0
    go_wp2
    have hpe : ((mid : Int) + (m : Int)) - 1 = (p : Int) := by have := HP.out; omega
    rw [hpe]
    clear hpe
    go_loopw [20, 21] (fun s20 s21 wr => ∃ (s r : Nat), s20 = .int .i64 (s : Nat) ∧ s21 = .int .i64 (r : Nat) ∧ Hid (Seek key f p s0 r0 s r) ∧ Hid (SF w wr bk n f) ∧ Hid (KA wr bk q n al lc key)) (fun s20 s21 _ => (intOf s21).toNat - (intOf s20).toNat)
    case atStart => exact ⟨s0, r0, rfl, rfl, Lib.hid ⟨Nat.le_refl _, hb2, Nat.le_refl _, fun c h1 h2 => by omega, fun c h1 h2 => by omega⟩, F0, K0⟩
    case round =>
      obtain ⟨s, r, rfl, rfl, HSK, F1, K1⟩ := hrel
      clear F0 K0
      obtain ⟨wo, rfl⟩ : ∃ x : World, x = wr := ⟨_, rfl⟩
      have hk0 := HSK.out.h0
      have hk1 := HSK.out.h1
      have hk2 := HSK.out.h2
      by_cases hlt : s < r
      · skip
        go_upto_region 35 with fail
        obtain ⟨c, hc⟩ : ∃ z, (s + r) / 2 = z := ⟨_, rfl⟩
        have hcI : (((s : Nat) : Int) + ((r : Nat) : Int)) / 2 = (c : Int) := by omega
        rw [hcI]
        have hci : s ≤ c := by omega
        have hcj : c < r := by omega
        clear hcI hc
        have hfc := HB6.out c (by omega) (by omega)
        obtain ⟨hf1, hf2, hf3, hf4, hf5⟩ := hfc
        obtain ⟨d, hd⟩ : ∃ z, p - c = z := ⟨_, rfl⟩
        rw [hd] at hf3 hf4
        have HD := Lib.hid hd
        obtain ⟨ex, hex⟩ : ∃ z, f d = z := ⟨_, rfl⟩
        obtain ⟨ey, hey⟩ : ∃ z, f c = z := ⟨_, rfl⟩
        have HI := Lib.hid (show d < n by omega)
        have HJ := Lib.hid (show c < n by omega)
        obtain ⟨kd, hkd⟩ : ∃ z, key ex - key ey = z := ⟨_, rfl⟩
        have hcm := fun W hK => HCM.out ex ey W (by rw [← hex]; exact HV.out d HI.out) (by rw [← hey]; exact HV.out c HJ.out) hK
        rw [hkd] at hcm
        have HC := Lib.hid hcm
        have HKD := Lib.hid hkd
        have HX1 := Lib.hid hex
        have HX2 := Lib.hid hey
        clear hex hey hkd hcm
        have HDW := Lib.hid (show IntKind.i64.wrap ((p : Int) - (c : Int)) = (d : Int) from (IntWalk.i64_in _ (by omega)).trans (by omega))
        clear hd
        by_cases hkl : kd < 0
        · skip
          refine wp_region_inv (w := wo) 14 (fun _ _ => True) (fun _ W => SF w W bk n f ∧ KA W bk q n al lc key) [] [(fun u _ => u = .func (.func 19) #[] #[.pointer (some ⟨q, 0, none⟩)]), (fun u _ => u = .slice (some ⟨bk, 0, none⟩) n cp), (fun u _ => u = .int .i64 (p : Nat)), (fun u _ => u = .int .i64 (c : Nat)), (fun u _ => u = .int .i64 (d : Nat)), (fun u _ => u = .pointer (some ⟨bk, d, none⟩)), (fun u _ => u = .int .i64 (ex : Nat)), (fun u _ => u = .slice (some ⟨bk, 0, none⟩) n cp), (fun u _ => u = .int .i64 (c : Nat)), (fun u _ => u = .pointer (some ⟨bk, c, none⟩)), (fun u _ => u = .int .i64 (ey : Nat)), (fun u _ => u = .int .i64 kd), (fun u _ => u = .bool true), (fun u _ => u = .bool false)] [some 158, some 159, some 160, some 161, some 162, some 163, some 164, some 165, some 166, some 167, some 168, some 169, some 170, some 171] (by kernel_rfl) (by kernel_rfl) rfl (by kernel_rfl) (by kernel_rfl) (by decide) (by decide) (fun _ _ => trivial) trivial ⟨F1.out.drew, K1.out.next (Below.drew (Below.refl _ _))⟩ (BorneAll.at (.cons (borne_eq _) (.cons (borne_eq _) (.cons (borne_eq _) (.cons (borne_eq _) (.cons (borne_eq _) (.cons (borne_eq _) (.cons (borne_eq _) (.cons (borne_eq _) (.cons (borne_eq _) (.cons (borne_eq _) (.cons (borne_eq _) (.cons (borne_eq _) (.cons (borne_eq _) (.cons (borne_eq _) .nil))))))))))))))) (fun vs b hvl hvb => ?_)
          obtain ⟨x0, x1, x2, x3, x4, x5, x6, x7, x8, x9, x10, x11, x12, x13, rfl⟩ : ∃ x0 x1 x2 x3 x4 x5 x6 x7 x8 x9 x10 x11 x12 x13, vs = [x0, x1, x2, x3, x4, x5, x6, x7, x8, x9, x10, x11, x12, x13] := ls14 hvl
          clear hvl
          simp only [putAll, Act.put, List.setIfInBounds_toArray, List.set_cons_zero, List.set_cons_succ] at hvb
          subst hvb
          refine ⟨(.snoc (.snoc (.snoc (.snoc (.snoc (.snoc (.snoc (.snoc (.snoc (.snoc (.snoc (.snoc (.snoc (.snoc .zero (InvOb.intro (d := (some 158)) (r := fun u _ => u = .func (.func 19) #[] #[.pointer (some ⟨q, 0, none⟩)]) 0 0 rfl rfl rfl (by kernel_rfl) (by kernel_rfl) rfl ?io35tx0)) (InvOb.intro (d := (some 159)) (r := fun u _ => u = .slice (some ⟨bk, 0, none⟩) n cp) 0 0 rfl rfl rfl (by kernel_rfl) (by kernel_rfl) rfl ?io35tx1)) (InvOb.intro (d := (some 160)) (r := fun u _ => u = .int .i64 (p : Nat)) 0 0 rfl rfl rfl (by kernel_rfl) (by kernel_rfl) rfl ?io35tx2)) (InvOb.intro (d := (some 161)) (r := fun u _ => u = .int .i64 (c : Nat)) 0 0 rfl rfl rfl (by kernel_rfl) (by kernel_rfl) rfl ?io35tx3)) (InvOb.intro (d := (some 162)) (r := fun u _ => u = .int .i64 (d : Nat)) 0 0 rfl rfl rfl (by kernel_rfl) (by kernel_rfl) rfl ?io35tx4)) (InvOb.intro (d := (some 163)) (r := fun u _ => u = .pointer (some ⟨bk, d, none⟩)) 0 0 rfl rfl rfl (by kernel_rfl) (by kernel_rfl) rfl ?io35tx5)) (InvOb.intro (d := (some 164)) (r := fun u _ => u = .int .i64 (ex : Nat)) 0 0 rfl rfl rfl (by kernel_rfl) (by kernel_rfl) rfl ?io35tx6)) (InvOb.intro (d := (some 165)) (r := fun u _ => u = .slice (some ⟨bk, 0, none⟩) n cp) 0 0 rfl rfl rfl (by kernel_rfl) (by kernel_rfl) rfl ?io35tx7)) (InvOb.intro (d := (some 166)) (r := fun u _ => u = .int .i64 (c : Nat)) 0 0 rfl rfl rfl (by kernel_rfl) (by kernel_rfl) rfl ?io35tx8)) (InvOb.intro (d := (some 167)) (r := fun u _ => u = .pointer (some ⟨bk, c, none⟩)) 0 0 rfl rfl rfl (by kernel_rfl) (by kernel_rfl) rfl ?io35tx9)) (InvOb.intro (d := (some 168)) (r := fun u _ => u = .int .i64 (ey : Nat)) 0 0 rfl rfl rfl (by kernel_rfl) (by kernel_rfl) rfl ?io35tx10)) (InvOb.intro (d := (some 169)) (r := fun u _ => u = .int .i64 kd) 0 0 rfl rfl rfl (by kernel_rfl) (by kernel_rfl) rfl ?io35tx11)) (InvOb.intro (d := (some 170)) (r := fun u _ => u = .bool true) 0 0 rfl rfl rfl (by kernel_rfl) (by kernel_rfl) rfl ?io35tx12)) (InvOb.intro (d := (some 171)) (r := fun u _ => u = .bool false) 0 0 rfl rfl rfl (by kernel_rfl) (by kernel_rfl) rfl ?io35tx13)), ?iend35t⟩
          case io35tx0 =>
            intro k1 w1 hk0 hk1 hb1 hS hd KK hK
            clear hd
            simp only [Act.put, List.setIfInBounds_toArray, List.set_cons_zero, List.set_cons_succ] at hK
            go_simp
            first | exact hK.out _ _ trivial hS rfl | (have hk := hK.out _ _ trivial hS rfl; revert hk; go_simp)
          case io35tx1 =>
            intro k1 w1 hk0 hk1 hb1 hS hd KK hK
            clear hd
            simp only [Act.put, List.setIfInBounds_toArray, List.set_cons_zero, List.set_cons_succ] at hK
            go_simp
            first | exact hK.out _ _ trivial hS rfl | (have hk := hK.out _ _ trivial hS rfl; revert hk; go_simp)
          case io35tx2 =>
            intro k1 w1 hk0 hk1 hb1 hS hd KK hK
            clear hd
            simp only [Act.put, List.setIfInBounds_toArray, List.set_cons_zero, List.set_cons_succ] at hK
            go_simp
            first | exact hK.out _ _ trivial hS rfl | (have hk := hK.out _ _ trivial hS rfl; revert hk; go_simp)
          case io35tx3 =>
            intro k1 w1 hk0 hk1 hb1 hS hd KK hK
            clear hd
            simp only [Act.put, List.setIfInBounds_toArray, List.set_cons_zero, List.set_cons_succ] at hK
            go_simp
            first | exact hK.out _ _ trivial hS rfl | (have hk := hK.out _ _ trivial hS rfl; revert hk; go_simp)
          case io35tx4 =>
            intro k1 w1 hk0 hk1 hb1 hS hd KK hK
            have d2 : x2 = .int .i64 (p : Nat) := hd 2 (by kernel_rfl)
            have d3 : x3 = .int .i64 (c : Nat) := hd 3 (by kernel_rfl)
            clear hd
            subst d2
            subst d3
            have dx := HDW.out
            simp only [Act.put, List.setIfInBounds_toArray, List.set_cons_zero, List.set_cons_succ] at hK
            go_simp
            first | exact hK.out _ _ trivial hS rfl | (have hk := hK.out _ _ trivial hS rfl; revert hk; go_simp)
          case io35tx5 =>
            intro k1 w1 hk0 hk1 hb1 hS hd KK hK
            have d1 : x1 = .slice (some ⟨bk, 0, none⟩) n cp := hd 1 (by kernel_rfl)
            have d4 : x4 = .int .i64 (d : Nat) := hd 4 (by kernel_rfl)
            clear hd
            subst d1
            subst d4
            have g1 := HI.out
            have g2 : (d : Int) < (n : Int) := by omega
            simp only [Act.put, List.setIfInBounds_toArray, List.set_cons_zero, List.set_cons_succ] at hK
            go_simp
            first | exact hK.out _ _ trivial hS rfl | (have hk := hK.out _ _ trivial hS rfl; revert hk; go_simp)
          case io35tx6 =>
            intro k1 w1 hk0 hk1 hb1 hS hd KK hK
            have d5 : x5 = .pointer (some ⟨bk, d, none⟩) := hd 5 (by kernel_rfl)
            clear hd
            subst d5
            have hv := hS.1.val d HI.out
            rw [HX1.out] at hv
            simp only [Act.put, List.setIfInBounds_toArray, List.set_cons_zero, List.set_cons_succ] at hK
            go_simp
            first | exact hK.out _ _ trivial hS rfl | (have hk := hK.out _ _ trivial hS rfl; revert hk; go_simp)
          case io35tx7 =>
            intro k1 w1 hk0 hk1 hb1 hS hd KK hK
            clear hd
            simp only [Act.put, List.setIfInBounds_toArray, List.set_cons_zero, List.set_cons_succ] at hK
            go_simp
            first | exact hK.out _ _ trivial hS rfl | (have hk := hK.out _ _ trivial hS rfl; revert hk; go_simp)
          case io35tx8 =>
            intro k1 w1 hk0 hk1 hb1 hS hd KK hK
            clear hd
            simp only [Act.put, List.setIfInBounds_toArray, List.set_cons_zero, List.set_cons_succ] at hK
            go_simp
            first | exact hK.out _ _ trivial hS rfl | (have hk := hK.out _ _ trivial hS rfl; revert hk; go_simp)
          case io35tx9 =>
            intro k1 w1 hk0 hk1 hb1 hS hd KK hK
            have d7 : x7 = .slice (some ⟨bk, 0, none⟩) n cp := hd 7 (by kernel_rfl)
            have d8 : x8 = .int .i64 (c : Nat) := hd 8 (by kernel_rfl)
            clear hd
            subst d7
            subst d8
            have g1 := HJ.out
            have g2 : (c : Int) < (n : Int) := by omega
            simp only [Act.put, List.setIfInBounds_toArray, List.set_cons_zero, List.set_cons_succ] at hK
            go_simp
            first | exact hK.out _ _ trivial hS rfl | (have hk := hK.out _ _ trivial hS rfl; revert hk; go_simp)
          case io35tx10 =>
            intro k1 w1 hk0 hk1 hb1 hS hd KK hK
            have d9 : x9 = .pointer (some ⟨bk, c, none⟩) := hd 9 (by kernel_rfl)
            clear hd
            subst d9
            have hv := hS.1.val c HJ.out
            rw [HX2.out] at hv
            simp only [Act.put, List.setIfInBounds_toArray, List.set_cons_zero, List.set_cons_succ] at hK
            go_simp
            first | exact hK.out _ _ trivial hS rfl | (have hk := hK.out _ _ trivial hS rfl; revert hk; go_simp)
          case io35tx11 =>
            intro k1 w1 hk0 hk1 hb1 hS hd KK hK
            have d0 : x0 = .func (.func 19) #[] #[.pointer (some ⟨q, 0, none⟩)] := hd 0 (by kernel_rfl)
            have d6 : x6 = .int .i64 (ex : Nat) := hd 6 (by kernel_rfl)
            have d10 : x10 = .int .i64 (ey : Nat) := hd 10 (by kernel_rfl)
            clear hd
            subst d0
            subst d6
            subst d10
            simp only [Act.put, List.setIfInBounds_toArray, List.set_cons_zero, List.set_cons_succ] at hK
            go_simp
            go_at_call 19
            refine (HC.out w1 hS.2).mono ?_
            rintro e w2 ⟨rfl, hb⟩
            (try go_wp2_with fail)
            first | exact hK.out _ _ trivial ⟨hS.1.next hb, hS.2.next hb⟩ rfl | (have hk := hK.out _ _ trivial ⟨hS.1.next hb, hS.2.next hb⟩ rfl; revert hk; go_simp)
          case io35tx12 =>
            intro k1 w1 hk0 hk1 hb1 hS hd KK hK
            have d11 : x11 = .int .i64 kd := hd 11 (by kernel_rfl)
            clear hd
            subst d11
            have g1 := hkl
            simp only [Act.put, List.setIfInBounds_toArray, List.set_cons_zero, List.set_cons_succ] at hK
            go_simp
            first | exact hK.out _ _ trivial hS rfl | (have hk := hK.out _ _ trivial hS rfl; revert hk; go_simp)
          case io35tx13 =>
            intro k1 w1 hk0 hk1 hb1 hS hd KK hK
            have d12 : x12 = .bool true := hd 12 (by kernel_rfl)
            clear hd
            subst d12
            simp only [Act.put, List.setIfInBounds_toArray, List.set_cons_zero, List.set_cons_succ] at hK
            go_simp
            first | exact hK.out _ _ trivial hS rfl | (have hk := hK.out _ _ trivial hS rfl; revert hk; go_simp)
          case iend35t =>
            intro w1 hb1 hS hR
            have d0 : x0 = .func (.func 19) #[] #[.pointer (some ⟨q, 0, none⟩)] := hR 0 (by decide)
            have d1 : x1 = .slice (some ⟨bk, 0, none⟩) n cp := hR 1 (by decide)
            have d2 : x2 = .int .i64 (p : Nat) := hR 2 (by decide)
            have d3 : x3 = .int .i64 (c : Nat) := hR 3 (by decide)
            have d4 : x4 = .int .i64 (d : Nat) := hR 4 (by decide)
            have d5 : x5 = .pointer (some ⟨bk, d, none⟩) := hR 5 (by decide)
            have d6 : x6 = .int .i64 (ex : Nat) := hR 6 (by decide)
            have d7 : x7 = .slice (some ⟨bk, 0, none⟩) n cp := hR 7 (by decide)
            have d8 : x8 = .int .i64 (c : Nat) := hR 8 (by decide)
            have d9 : x9 = .pointer (some ⟨bk, c, none⟩) := hR 9 (by decide)
            have d10 : x10 = .int .i64 (ey : Nat) := hR 10 (by decide)
            have d11 : x11 = .int .i64 kd := hR 11 (by decide)
            have d12 : x12 = .bool true := hR 12 (by decide)
            have d13 : x13 = .bool false := hR 13 (by decide)
            clear hR
            subst d0
            subst d1
            subst d2
            subst d3
            subst d4
            subst d5
            subst d6
            subst d7
            subst d8
            subst d9
            subst d10
            subst d11
            subst d12
            subst d13
            try simp only [putAll, Act.put, List.setIfInBounds_toArray, List.set_cons_zero, List.set_cons_succ]
            have F2 := Lib.hid hS.1
            have K2 := Lib.hid hS.2
            clear hS hb1 F1 K1
            obtain ⟨wj, rfl⟩ : ∃ x : World, x = w1 := ⟨_, rfl⟩
            have hlt2 := hlt
            have HS2 : Hid (Seek key f p s0 r0 s c) := Lib.hid (seek_down HB.out HR.out HSK.out hci hcj (by rw [HD.out, HX1.out, HX2.out]; have := HKD.out; omega))
            go_wp2
            go_roundw
            case rel => exact ⟨s, c, rfl, rfl, HS2, F2, K2⟩
            case measure => (simp only [intOf]; omega)
        · skip
          refine wp_region_inv (w := wo) 14 (fun _ _ => True) (fun _ W => SF w W bk n f ∧ KA W bk q n al lc key) [] [(fun u _ => u = .func (.func 19) #[] #[.pointer (some ⟨q, 0, none⟩)]), (fun u _ => u = .slice (some ⟨bk, 0, none⟩) n cp), (fun u _ => u = .int .i64 (p : Nat)), (fun u _ => u = .int .i64 (c : Nat)), (fun u _ => u = .int .i64 (d : Nat)), (fun u _ => u = .pointer (some ⟨bk, d, none⟩)), (fun u _ => u = .int .i64 (ex : Nat)), (fun u _ => u = .slice (some ⟨bk, 0, none⟩) n cp), (fun u _ => u = .int .i64 (c : Nat)), (fun u _ => u = .pointer (some ⟨bk, c, none⟩)), (fun u _ => u = .int .i64 (ey : Nat)), (fun u _ => u = .int .i64 kd), (fun u _ => u = .bool false), (fun u _ => u = .bool true)] [some 158, some 159, some 160, some 161, some 162, some 163, some 164, some 165, some 166, some 167, some 168, some 169, some 170, some 171] (by kernel_rfl) (by kernel_rfl) rfl (by kernel_rfl) (by kernel_rfl) (by decide) (by decide) (fun _ _ => trivial) trivial ⟨F1.out.drew, K1.out.next (Below.drew (Below.refl _ _))⟩ (BorneAll.at (.cons (borne_eq _) (.cons (borne_eq _) (.cons (borne_eq _) (.cons (borne_eq _) (.cons (borne_eq _) (.cons (borne_eq _) (.cons (borne_eq _) (.cons (borne_eq _) (.cons (borne_eq _) (.cons (borne_eq _) (.cons (borne_eq _) (.cons (borne_eq _) (.cons (borne_eq _) (.cons (borne_eq _) .nil))))))))))))))) (fun vs b hvl hvb => ?_)
          obtain ⟨x0, x1, x2, x3, x4, x5, x6, x7, x8, x9, x10, x11, x12, x13, rfl⟩ : ∃ x0 x1 x2 x3 x4 x5 x6 x7 x8 x9 x10 x11 x12 x13, vs = [x0, x1, x2, x3, x4, x5, x6, x7, x8, x9, x10, x11, x12, x13] := ls14 hvl
          clear hvl
          simp only [putAll, Act.put, List.setIfInBounds_toArray, List.set_cons_zero, List.set_cons_succ] at hvb
          subst hvb
          refine ⟨(.snoc (.snoc (.snoc (.snoc (.snoc (.snoc (.snoc (.snoc (.snoc (.snoc (.snoc (.snoc (.snoc (.snoc .zero (InvOb.intro (d := (some 158)) (r := fun u _ => u = .func (.func 19) #[] #[.pointer (some ⟨q, 0, none⟩)]) 0 0 rfl rfl rfl (by kernel_rfl) (by kernel_rfl) rfl ?io35fx0)) (InvOb.intro (d := (some 159)) (r := fun u _ => u = .slice (some ⟨bk, 0, none⟩) n cp) 0 0 rfl rfl rfl (by kernel_rfl) (by kernel_rfl) rfl ?io35fx1)) (InvOb.intro (d := (some 160)) (r := fun u _ => u = .int .i64 (p : Nat)) 0 0 rfl rfl rfl (by kernel_rfl) (by kernel_rfl) rfl ?io35fx2)) (InvOb.intro (d := (some 161)) (r := fun u _ => u = .int .i64 (c : Nat)) 0 0 rfl rfl rfl (by kernel_rfl) (by kernel_rfl) rfl ?io35fx3)) (InvOb.intro (d := (some 162)) (r := fun u _ => u = .int .i64 (d : Nat)) 0 0 rfl rfl rfl (by kernel_rfl) (by kernel_rfl) rfl ?io35fx4)) (InvOb.intro (d := (some 163)) (r := fun u _ => u = .pointer (some ⟨bk, d, none⟩)) 0 0 rfl rfl rfl (by kernel_rfl) (by kernel_rfl) rfl ?io35fx5)) (InvOb.intro (d := (some 164)) (r := fun u _ => u = .int .i64 (ex : Nat)) 0 0 rfl rfl rfl (by kernel_rfl) (by kernel_rfl) rfl ?io35fx6)) (InvOb.intro (d := (some 165)) (r := fun u _ => u = .slice (some ⟨bk, 0, none⟩) n cp) 0 0 rfl rfl rfl (by kernel_rfl) (by kernel_rfl) rfl ?io35fx7)) (InvOb.intro (d := (some 166)) (r := fun u _ => u = .int .i64 (c : Nat)) 0 0 rfl rfl rfl (by kernel_rfl) (by kernel_rfl) rfl ?io35fx8)) (InvOb.intro (d := (some 167)) (r := fun u _ => u = .pointer (some ⟨bk, c, none⟩)) 0 0 rfl rfl rfl (by kernel_rfl) (by kernel_rfl) rfl ?io35fx9)) (InvOb.intro (d := (some 168)) (r := fun u _ => u = .int .i64 (ey : Nat)) 0 0 rfl rfl rfl (by kernel_rfl) (by kernel_rfl) rfl ?io35fx10)) (InvOb.intro (d := (some 169)) (r := fun u _ => u = .int .i64 kd) 0 0 rfl rfl rfl (by kernel_rfl) (by kernel_rfl) rfl ?io35fx11)) (InvOb.intro (d := (some 170)) (r := fun u _ => u = .bool false) 0 0 rfl rfl rfl (by kernel_rfl) (by kernel_rfl) rfl ?io35fx12)) (InvOb.intro (d := (some 171)) (r := fun u _ => u = .bool true) 0 0 rfl rfl rfl (by kernel_rfl) (by kernel_rfl) rfl ?io35fx13)), ?iend35f⟩
          case io35fx0 =>
            intro k1 w1 hk0 hk1 hb1 hS hd KK hK
            clear hd
            simp only [Act.put, List.setIfInBounds_toArray, List.set_cons_zero, List.set_cons_succ] at hK
            go_simp
            first | exact hK.out _ _ trivial hS rfl | (have hk := hK.out _ _ trivial hS rfl; revert hk; go_simp)
          case io35fx1 =>
            intro k1 w1 hk0 hk1 hb1 hS hd KK hK
            clear hd
            simp only [Act.put, List.setIfInBounds_toArray, List.set_cons_zero, List.set_cons_succ] at hK
            go_simp
            first | exact hK.out _ _ trivial hS rfl | (have hk := hK.out _ _ trivial hS rfl; revert hk; go_simp)
          case io35fx2 =>
            intro k1 w1 hk0 hk1 hb1 hS hd KK hK
            clear hd
            simp only [Act.put, List.setIfInBounds_toArray, List.set_cons_zero, List.set_cons_succ] at hK
            go_simp
            first | exact hK.out _ _ trivial hS rfl | (have hk := hK.out _ _ trivial hS rfl; revert hk; go_simp)
          case io35fx3 =>
            intro k1 w1 hk0 hk1 hb1 hS hd KK hK
            clear hd
            simp only [Act.put, List.setIfInBounds_toArray, List.set_cons_zero, List.set_cons_succ] at hK
            go_simp
            first | exact hK.out _ _ trivial hS rfl | (have hk := hK.out _ _ trivial hS rfl; revert hk; go_simp)
          case io35fx4 =>
            intro k1 w1 hk0 hk1 hb1 hS hd KK hK
            have d2 : x2 = .int .i64 (p : Nat) := hd 2 (by kernel_rfl)
            have d3 : x3 = .int .i64 (c : Nat) := hd 3 (by kernel_rfl)
            clear hd
            subst d2
            subst d3
            have dx := HDW.out
            simp only [Act.put, List.setIfInBounds_toArray, List.set_cons_zero, List.set_cons_succ] at hK
            go_simp
            first | exact hK.out _ _ trivial hS rfl | (have hk := hK.out _ _ trivial hS rfl; revert hk; go_simp)
          case io35fx5 =>
            intro k1 w1 hk0 hk1 hb1 hS hd KK hK
            have d1 : x1 = .slice (some ⟨bk, 0, none⟩) n cp := hd 1 (by kernel_rfl)
            have d4 : x4 = .int .i64 (d : Nat) := hd 4 (by kernel_rfl)
            clear hd
            subst d1
            subst d4
            have g1 := HI.out
            have g2 : (d : Int) < (n : Int) := by omega
            simp only [Act.put, List.setIfInBounds_toArray, List.set_cons_zero, List.set_cons_succ] at hK
            go_simp
            first | exact hK.out _ _ trivial hS rfl | (have hk := hK.out _ _ trivial hS rfl; revert hk; go_simp)
          case io35fx6 =>
            intro k1 w1 hk0 hk1 hb1 hS hd KK hK
            have d5 : x5 = .pointer (some ⟨bk, d, none⟩) := hd 5 (by kernel_rfl)
            clear hd
            subst d5
            have hv := hS.1.val d HI.out
            rw [HX1.out] at hv
            simp only [Act.put, List.setIfInBounds_toArray, List.set_cons_zero, List.set_cons_succ] at hK
            go_simp
            first | exact hK.out _ _ trivial hS rfl | (have hk := hK.out _ _ trivial hS rfl; revert hk; go_simp)
          case io35fx7 =>
            intro k1 w1 hk0 hk1 hb1 hS hd KK hK
            clear hd
            simp only [Act.put, List.setIfInBounds_toArray, List.set_cons_zero, List.set_cons_succ] at hK
            go_simp
            first | exact hK.out _ _ trivial hS rfl | (have hk := hK.out _ _ trivial hS rfl; revert hk; go_simp)
          case io35fx8 =>
            intro k1 w1 hk0 hk1 hb1 hS hd KK hK
            clear hd
            simp only [Act.put, List.setIfInBounds_toArray, List.set_cons_zero, List.set_cons_succ] at hK
            go_simp
            first | exact hK.out _ _ trivial hS rfl | (have hk := hK.out _ _ trivial hS rfl; revert hk; go_simp)
          case io35fx9 =>
            intro k1 w1 hk0 hk1 hb1 hS hd KK hK
            have d7 : x7 = .slice (some ⟨bk, 0, none⟩) n cp := hd 7 (by kernel_rfl)
            have d8 : x8 = .int .i64 (c : Nat) := hd 8 (by kernel_rfl)
            clear hd
            subst d7
            subst d8
            have g1 := HJ.out
            have g2 : (c : Int) < (n : Int) := by omega
            simp only [Act.put, List.setIfInBounds_toArray, List.set_cons_zero, List.set_cons_succ] at hK
            go_simp
            first | exact hK.out _ _ trivial hS rfl | (have hk := hK.out _ _ trivial hS rfl; revert hk; go_simp)
          case io35fx10 =>
            intro k1 w1 hk0 hk1 hb1 hS hd KK hK
            have d9 : x9 = .pointer (some ⟨bk, c, none⟩) := hd 9 (by kernel_rfl)
            clear hd
            subst d9
            have hv := hS.1.val c HJ.out
            rw [HX2.out] at hv
            simp only [Act.put, List.setIfInBounds_toArray, List.set_cons_zero, List.set_cons_succ] at hK
            go_simp
            first | exact hK.out _ _ trivial hS rfl | (have hk := hK.out _ _ trivial hS rfl; revert hk; go_simp)
          case io35fx11 =>
            intro k1 w1 hk0 hk1 hb1 hS hd KK hK
            have d0 : x0 = .func (.func 19) #[] #[.pointer (some ⟨q, 0, none⟩)] := hd 0 (by kernel_rfl)
            have d6 : x6 = .int .i64 (ex : Nat) := hd 6 (by kernel_rfl)
            have d10 : x10 = .int .i64 (ey : Nat) := hd 10 (by kernel_rfl)
            clear hd
            subst d0
            subst d6
            subst d10
            simp only [Act.put, List.setIfInBounds_toArray, List.set_cons_zero, List.set_cons_succ] at hK
            go_simp
            go_at_call 19
            refine (HC.out w1 hS.2).mono ?_
            rintro e w2 ⟨rfl, hb⟩
            (try go_wp2_with fail)
            first | exact hK.out _ _ trivial ⟨hS.1.next hb, hS.2.next hb⟩ rfl | (have hk := hK.out _ _ trivial ⟨hS.1.next hb, hS.2.next hb⟩ rfl; revert hk; go_simp)
          case io35fx12 =>
            intro k1 w1 hk0 hk1 hb1 hS hd KK hK
            have d11 : x11 = .int .i64 kd := hd 11 (by kernel_rfl)
            clear hd
            subst d11
            have g1 := hkl
            simp only [Act.put, List.setIfInBounds_toArray, List.set_cons_zero, List.set_cons_succ] at hK
            go_simp
            first | exact hK.out _ _ trivial hS rfl | (have hk := hK.out _ _ trivial hS rfl; revert hk; go_simp)
          case io35fx13 =>
            intro k1 w1 hk0 hk1 hb1 hS hd KK hK
            have d12 : x12 = .bool false := hd 12 (by kernel_rfl)
            clear hd
            subst d12
            simp only [Act.put, List.setIfInBounds_toArray, List.set_cons_zero, List.set_cons_succ] at hK
            go_simp
            first | exact hK.out _ _ trivial hS rfl | (have hk := hK.out _ _ trivial hS rfl; revert hk; go_simp)
          case iend35f =>
            intro w1 hb1 hS hR
            have d0 : x0 = .func (.func 19) #[] #[.pointer (some ⟨q, 0, none⟩)] := hR 0 (by decide)
            have d1 : x1 = .slice (some ⟨bk, 0, none⟩) n cp := hR 1 (by decide)
            have d2 : x2 = .int .i64 (p : Nat) := hR 2 (by decide)
            have d3 : x3 = .int .i64 (c : Nat) := hR 3 (by decide)
            have d4 : x4 = .int .i64 (d : Nat) := hR 4 (by decide)
            have d5 : x5 = .pointer (some ⟨bk, d, none⟩) := hR 5 (by decide)
            have d6 : x6 = .int .i64 (ex : Nat) := hR 6 (by decide)
            have d7 : x7 = .slice (some ⟨bk, 0, none⟩) n cp := hR 7 (by decide)
            have d8 : x8 = .int .i64 (c : Nat) := hR 8 (by decide)
            have d9 : x9 = .pointer (some ⟨bk, c, none⟩) := hR 9 (by decide)
            have d10 : x10 = .int .i64 (ey : Nat) := hR 10 (by decide)
            have d11 : x11 = .int .i64 kd := hR 11 (by decide)
            have d12 : x12 = .bool false := hR 12 (by decide)
            have d13 : x13 = .bool true := hR 13 (by decide)
            clear hR
            subst d0
            subst d1
            subst d2
            subst d3
            subst d4
            subst d5
            subst d6
            subst d7
            subst d8
            subst d9
            subst d10
            subst d11
            subst d12
            subst d13
            try simp only [putAll, Act.put, List.setIfInBounds_toArray, List.set_cons_zero, List.set_cons_succ]
            have F2 := Lib.hid hS.1
            have K2 := Lib.hid hS.2
            clear hS hb1 F1 K1
            obtain ⟨wj, rfl⟩ : ∃ x : World, x = w1 := ⟨_, rfl⟩
            have hlt2 := hlt
            have HS2 : Hid (Seek key f p s0 r0 (c + 1) r) := Lib.hid (seek_up HB.out HR.out HSK.out hci hcj (by rw [HD.out, HX1.out, HX2.out]; have := HKD.out; omega))
            go_wp2
            go_roundw
            case rel => exact ⟨c + 1, r, by first | rfl | go_num, rfl, HS2, F2, K2⟩
            case measure => (simp only [intOf]; omega)
      · obtain rfl : s = r := by omega
        have hcut := seek_done HB.out HR.out HSK.out
        obtain ⟨x, hx⟩ : ∃ z, mid + m - s = z := ⟨_, rfl⟩
        rw [hx] at hcut
        have HCUT := Lib.hid hcut
        have hu1 := hcut.as
        have hu2 := hcut.sm
        have hu3 := hcut.me
        have hu4 := hcut.eb
        have hu5 := hcut.sum
        have hmn : mid < n := by omega
        clear hcut hx HSK hk0 hk1 hk2 hb1 hb2 hb3 hb4 hb5
        have hxI : ((mid : Int) + (m : Int)) - (s : Int) = (x : Int) := by omega
        go_upto_region 39 with fail
        obtain ⟨B1, hB1⟩ : ∃ z, decide (s < m ∧ m < x) = z := ⟨_, rfl⟩
        go_cut [185] from 178 to 185 (fun s185 wx => s185 = .bool B1 ∧ wx = wo)
        case first =>
          by_cases h1 : s < m
          · by_cases h2 : m < x
            · have h3 : B1 = true := by rw [← hB1]; simp [h1, h2]
              go_wp2
              go_meet
              exact ⟨by rw [h3], rfl⟩
            · have h3 : B1 = false := by rw [← hB1]; simp [h1, h2]
              go_wp2
              go_meet
              exact ⟨by rw [h3], rfl⟩
          · have h3 : B1 = false := by rw [← hB1]; simp [h1]
            go_wp2
            go_meet
            exact ⟨by rw [h3], rfl⟩
        case rest =>
          obtain ⟨rfl, hw9⟩ := hcut
          have hw9 := hw9.symm
          subst hw9
          go_upto_if 185 with fail
          obtain ⟨G, hG⟩ : ∃ z, (rotR f s (m - s) (x - m)) = z := ⟨_, rfl⟩
          go_cut [] from 178 to 191 (fun wx => Hid (SF w wx bk n G) ∧ Hid (KA wx bk q n al lc key))
          case first =>
            by_cases hc : s < m ∧ m < x
            · obtain rfl : B1 = true := by rw [← hB1]; simpa using hc
              go_wp2_with (go_at_call 40; refine (HRO.out f s m x _ _ _ _ F1.out.here K1.out (by omega) (by omega) (by omega) hc.1 hc.2 (by omega)).mono ?_; rintro en w2 ⟨rfl, hs⟩; have hs2 := hs; rw [hG] at hs2; have F2 := Lib.hid (F1.out.join hs2); have K2 := Lib.hid (K1.out.grown hs.grown); clear hs hs2 F1 K1)
              go_meet
              exact ⟨F2, K2⟩
            · obtain rfl : B1 = false := by rw [← hB1]; simpa using hc
              have hno := rotR_none f (s := s) (i := m - s) (j := x - m) (by omega)
              go_wp2
              go_meet
              exact ⟨Lib.hid (by rw [← hG, hno]; exact F1.out), K1⟩
          case rest =>
            obtain ⟨F2, K2⟩ := hcut
            clear F1 K1 hxI hB1
            obtain ⟨wa, rfl⟩ : ∃ x : World, x = wc := ⟨_, rfl⟩
            have hRl := HCUT.out.left HR.out
            have hRr := HCUT.out.right HR.out
            have hX := fun i j h1 h2 h3 h4 => HCUT.out.cross HR.out (i := i) (j := j) h1 h2 h3 h4
            have hWi := rotR_within f (s := s) (i := m - s) (j := x - m) (a := a) (b := e) (by omega) (by omega)
            rw [hG] at hRl hRr hX hWi
            have HRL := Lib.hid hRl
            have HRR := Lib.hid hRr
            have HX := Lib.hid hX
            have HWI := Lib.hid hWi
            have hv2 : ∀ i, i < n → G i < n := fun i hi => by
              by_cases hc : a ≤ i ∧ i < e
              · obtain ⟨j, _, j2, e9⟩ := hWi.2 i hc.1 hc.2
                rw [e9]; exact HV.out j (by omega)
              · rw [hWi.1 i hc]; exact HV.out i hi
            have HV2 := Lib.hid hv2
            clear hG hRl hRr hX hWi hv2 HR HV HCUT HB HB6
            go_upto_region 41 with fail
            obtain ⟨B2, hB2⟩ : ∃ z, decide (a < s ∧ s < mid) = z := ⟨_, rfl⟩
            go_cut [199] from 192 to 199 (fun s199 wx => s199 = .bool B2 ∧ wx = wa)
            case first =>
              by_cases h1 : a < s
              · by_cases h2 : s < mid
                · have h3 : B2 = true := by rw [← hB2]; simp [h1, h2]
                  go_wp2
                  go_meet
                  exact ⟨by rw [h3], rfl⟩
                · have h3 : B2 = false := by rw [← hB2]; simp [h1, h2]
                  go_wp2
                  go_meet
                  exact ⟨by rw [h3], rfl⟩
              · have h3 : B2 = false := by rw [← hB2]; simp [h1]
                go_wp2
                go_meet
                exact ⟨by rw [h3], rfl⟩
            case rest =>
              obtain ⟨rfl, hw9⟩ := hcut
              have hw9 := hw9.symm
              subst hw9
              go_upto_if 199 with fail
              go_cut [] from 192 to 205 (fun wx => ∃ g, Hid (SF w wx bk n g) ∧ Hid (KA wx bk q n al lc key) ∧ Hid (Srt key g a mid ∧ Within G g a mid))
              case first =>
                by_cases hc : a < s ∧ s < mid
                · obtain rfl : B2 = true := by rw [← hB2]; simpa using hc
                  go_wp2_with (go_at_call 29; refine (HIH.out a s mid _ _ _ G _ (by omega) F2.out.here K2.out (by omega) (by omega) (by omega) (by omega) (by omega) (by omega) HRL.out HV2.out).mono ?_; rintro en w2 ⟨rfl, g2, hs, hs1, hs2⟩; have F3 := Lib.hid (F2.out.join hs); have K3 := Lib.hid (K2.out.grown hs.grown); have HS1 := Lib.hid (And.intro hs1 hs2); clear hs hs1 hs2 F2 K2)
                  go_meet
                  exact ⟨g2, F3, K3, HS1⟩
                · obtain rfl : B2 = false := by rw [← hB2]; simpa using hc
                  have hg : Srt key G a mid := fun i j h3 h4 h5 => by
                    by_cases h6 : a < s
                    · exact HRL.out.l i j h3 h4 (by omega)
                    · exact HRL.out.r i j (by omega) h4 h5
                  go_wp2
                  go_meet
                  exact ⟨G, F2, K2, Lib.hid ⟨hg, Within.refl _ _ _⟩⟩
              case rest =>
                obtain ⟨g, F3, K3, HS1⟩ := hcut
                clear F2 K2 hB2
                obtain ⟨wb, rfl⟩ : ∃ x : World, x = wc := ⟨_, rfl⟩
                have hsame : ∀ i, mid ≤ i → g i = G i := fun i h => HS1.out.2.1 i (by omega)
                have hRr2 : Runs key g mid x e := ⟨fun i j h1 h2 h3 => by rw [hsame i h1, hsame j (by omega)]; exact HRR.out.l i j h1 h2 h3, fun i j h1 h2 h3 => by rw [hsame i (by omega), hsame j (by omega)]; exact HRR.out.r i j h1 h2 h3, fun i j h1 h2 h3 h4 => by rw [hsame i h1, hsame j (by omega)]; exact HRR.out.lo i j h1 h2 h3 h4⟩
                have hv3 : ∀ i, i < n → g i < n := fun i hi => by
                  by_cases hc : a ≤ i ∧ i < mid
                  · obtain ⟨j, _, j2, e9⟩ := HS1.out.2.2 i hc.1 hc.2
                    rw [e9]; exact HV2.out j (by omega)
                  · rw [HS1.out.2.1 i hc]; exact HV2.out i hi
                have HV3 := Lib.hid hv3
                have HRR2 := Lib.hid hRr2
                have hfin : ∀ h, Srt key h mid e → Within g h mid e → Srt key h a e ∧ Within f h a e := fun h h1 h2 => by
                  have h3 := merge_join (by omega) (by omega) HX.out HS1.out.1 HS1.out.2 h1 h2
                  exact ⟨h3.1, HWI.out.trans h3.2⟩
                have HFIN := Lib.hid hfin
                clear hsame hRr2 hv3 hfin HS1
                go_upto_region 43 with fail
                obtain ⟨B3, hB3⟩ : ∃ z, decide (mid < x ∧ x < e) = z := ⟨_, rfl⟩
                go_cut [213] from 206 to 213 (fun s213 wx => s213 = .bool B3 ∧ wx = wb)
                case first =>
                  by_cases h1 : mid < x
                  · by_cases h2 : x < e
                    · have h3 : B3 = true := by rw [← hB3]; simp [h1, h2]
                      go_wp2
                      go_meet
                      exact ⟨by rw [h3], rfl⟩
                    · have h3 : B3 = false := by rw [← hB3]; simp [h1, h2]
                      go_wp2
                      go_meet
                      exact ⟨by rw [h3], rfl⟩
                  · have h3 : B3 = false := by rw [← hB3]; simp [h1]
                    go_wp2
                    go_meet
                    exact ⟨by rw [h3], rfl⟩
                case rest =>
                  obtain ⟨rfl, hw9⟩ := hcut
                  have hw9 := hw9.symm
                  subst hw9
                  go_upto_if 213 with fail
                  by_cases hc : mid < x ∧ x < e
                  · obtain rfl : B3 = true := by rw [← hB3]; simpa using hc
                    go_wp2_with (go_at_call 29; refine (HIH.out mid x e _ _ _ g _ (by omega) F3.out.here K3.out (by omega) (by omega) (by omega) (by omega) (by omega) (by omega) HRR2.out HV3.out).mono ?_; rintro en w2 ⟨rfl, g2, hs, hs1, hs2⟩; have F4 := Lib.hid (F3.out.join hs); have K4 := Lib.hid (K3.out.grown hs.grown); have HS1 := Lib.hid (And.intro hs1 hs2); clear hs hs1 hs2 F3 K3)
                    have h3 := HFIN.out _ HS1.out.1 HS1.out.2
                    go_end0
                    exact ⟨rfl, _, F4.out, h3.1, h3.2⟩
                  · obtain rfl : B3 = false := by rw [← hB3]; simpa using hc
                    have h3 := HFIN.out g (fun i j h5 h6 h7 => by
                      by_cases h8 : mid < x
                      · exact HRR2.out.l i j h5 h6 (by omega)
                      · exact HRR2.out.r i j (by omega) h6 h7) (Within.refl _ _ _)
                    go_wp2
                    go_end0
                    exact ⟨rfl, _, F3.out, h3.1, h3.2⟩
theorem psym_any (bk q n cp lc : Nat) (al : Option Addr) (key : Nat → Int) : ∀ (d a m e : Nat) (za zm ze : Int) (f : Nat → Nat) (w : World), e - a ≤ d → SF w w bk n f → KA w bk q n al lc key → za = (a : Nat) → zm = (m : Nat) → ze = (e : Nat) → a < m → m < e → e ≤ n → Runs key f a m e → (∀ i, i < n → f i < n) →
    Calls Try.prog 29 #[.slice (some ⟨bk, 0, none⟩) n cp, .int .i64 za, .int .i64 zm, .int .i64 ze, .func (.func 19) #[] #[.pointer (some ⟨q, 0, none⟩)]] w fun en w' => en = .returned (.tuple #[]) ∧ ∃ g, SF w w' bk n g ∧ Srt key g a e ∧ Within f g a e
  | 0, a, m, e, _, _, _, _, _, hd, _, _, _, _, _, h1, h2, _, _, _ => absurd hd (by omega)
  | d + 1, a, m, e, za, zm, ze, f, w, hd, hF, hK, ha, hm, he, h1, h2, h3, hR, hv => by
    by_cases c1 : m = a + 1
    · exact psym_l bk q n cp lc al key f a m e za zm ze w hF hK ha hm he c1 h2 h3 hR hv
    · by_cases c2 : e = m + 1
      · exact psym_r bk q n cp lc al key f a m e za zm ze w hF hK ha hm he (by omega) c2 h3 hR hv
      · exact psym_rec bk q n cp lc al key f a m e za zm ze w hF hK ha hm he (by omega) (by omega) h3 hR hv
          (fun a2 m2 e2 za zm ze f2 W hlt hF hK ha hm he h1 h2 h3 hR hv => psym_any bk q n cp lc al key d a2 m2 e2 za zm ze f2 W (by omega) hF hK ha hm he h1 h2 h3 hR hv)
end Go.Proofs.Ytdpnichgdfpmgaa
