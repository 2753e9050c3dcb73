/- Walks: the comparison, insertion, changes of ranges, rotation. -/
import Derived.Test.YtdpnichgdfpmgaaChecked
import Derived.Deep.CutBlock
import Derived.BigQuiet
import Derived.Test.YtdpnichgdfpmgaaQaF
import Derived.Test.YtdpnichgdfpmgaaInv
import Derived.RangeFuncBound
set_option linter.unusedVariables false
set_option linter.unusedSimpArgs false
namespace Go.Proofs.Ytdpnichgdfpmgaa
open Go.RowKit Go.Rt
attribute [local go_sem] Oper.semAt_some
theorem lq12 {α : Type} {l : List α} (h : l.length = 12) : ∃ x0 x1 x2 x3 x4 x5 x6 x7 x8 x9 x10 x11, l = [x0, x1, x2, x3, x4, x5, x6, x7, x8, x9, x10, x11] := by
  match l, h with
  | [x0, x1, x2, x3, x4, x5, x6, x7, x8, x9, x10, x11], _ => exact ⟨x0, x1, x2, x3, x4, x5, x6, x7, x8, x9, x10, x11, rfl⟩
theorem lq17 {α : Type} {l : List α} (h : l.length = 17) : ∃ x0 x1 x2 x3 x4 x5 x6 x7 x8 x9 x10 x11 x12 x13 x14 x15 x16, l = [x0, x1, x2, x3, x4, x5, x6, x7, x8, x9, x10, x11, x12, x13, x14, x15, x16] := by
  match l, h with
  | [x0, x1, x2, x3, x4, x5, x6, x7, x8, x9, x10, x11, x12, x13, x14, x15, x16], _ => exact ⟨x0, x1, x2, x3, x4, x5, x6, x7, x8, x9, x10, x11, x12, x13, x14, x15, x16, rfl⟩
theorem lq18 {α : Type} {l : List α} (h : l.length = 18) : ∃ x0 x1 x2 x3 x4 x5 x6 x7 x8 x9 x10 x11 x12 x13 x14 x15 x16 x17, l = [x0, x1, x2, x3, x4, x5, x6, x7, x8, x9, x10, x11, x12, x13, x14, x15, x16, x17] := by
  match l, h with
  | [x0, x1, x2, x3, x4, x5, x6, x7, x8, x9, x10, x11, x12, x13, x14, x15, x16, x17], _ => exact ⟨x0, x1, x2, x3, x4, x5, x6, x7, x8, x9, x10, x11, x12, x13, x14, x15, x16, x17, rfl⟩
theorem lq24 {α : Type} {l : List α} (h : l.length = 24) : ∃ x0 x1 x2 x3 x4 x5 x6 x7 x8 x9 x10 x11 x12 x13 x14 x15 x16 x17 x18 x19 x20 x21 x22 x23, l = [x0, x1, x2, x3, x4, x5, x6, x7, x8, x9, x10, x11, x12, x13, x14, x15, x16, x17, x18, x19, x20, x21, x22, x23] := by
  match l, h with
  | [x0, x1, x2, x3, x4, x5, x6, x7, x8, x9, x10, x11, x12, x13, x14, x15, x16, x17, x18, x19, x20, x21, x22, x23], _ => exact ⟨x0, x1, x2, x3, x4, x5, x6, x7, x8, x9, x10, x11, x12, x13, x14, x15, x16, x17, x18, x19, x20, x21, x22, x23, rfl⟩
theorem pcmp_any (bk q n lc : Nat) (al : Option Addr) (key : Nat → Int) (x y : Nat) (w : World) (hx : x < n) (hy : y < n) (h : KA w bk q n al lc key) :
    Calls Try.prog 19 #[.int .i64 (x : Nat), .int .i64 (y : Nat), .pointer (some ⟨q, 0, none⟩)] w fun e w' => e = .returned (.int .i64 (key x - key y)) ∧ Below w.heap.size w w' := by
  have hkx := h.kb x hx
  have hky := h.kb y hy
  have hnb := h.nb
  obtain ⟨lb, lo, rfl, hlb, hcx⟩ := h.kcell x hx
  obtain ⟨kx, hkx2⟩ : ∃ z, key x = z := ⟨_, rfl⟩
  obtain ⟨ky, hky2⟩ : ∃ z, key y = z := ⟨_, rfl⟩
  have HKX := Lib.hid hkx2
  have HKY := Lib.hid hky2
  rw [hkx2] at hkx ⊢
  rw [hky2] at hky ⊢
  have HD := Lib.hid (show IntKind.i64.wrap (kx - ky) = kx - ky from IntWalk.i64_in _ (by omega))
  have HX := Lib.hid hx
  have HY := Lib.hid hy
  have HK := Lib.hid h
  clear hkx hky hcx hkx2 hky2 h hx hy
  go_enter Try.func19, Try.ntmps19
  go_upto_region 1 with fail
  refine wp_region_inv (w := w) 12 (fun _ _ => True) (fun _ W => KA W bk q n (some ⟨lb, lo, none⟩) lc key ∧ Below w.heap.size w W) [] [(fun u _ => u = .slice (some ⟨lb, lo, none⟩) n lc), (fun u _ => u = .int .i64 (x : Nat)), (fun u _ => u = .pointer (some ⟨lb, lo + x * 4, none⟩)), (fun u _ => u = .pointer (some ⟨lb, lo + x * 4, none⟩)), (fun u _ => u = .int .i64 kx), (fun u _ => u = .slice (some ⟨lb, lo, none⟩) n lc), (fun u _ => u = .int .i64 (y : Nat)), (fun u _ => u = .pointer (some ⟨lb, lo + y * 4, none⟩)), (fun u _ => u = .pointer (some ⟨lb, lo + y * 4, none⟩)), (fun u _ => u = .int .i64 ky), (fun u _ => u = .int .i64 (kx - ky)), (fun u _ => u = .int .i64 (kx - ky))] [some 6, some 7, some 8, some 9, some 10, some 11, some 12, some 13, some 14, some 15, some 16, some 5] (by kernel_rfl) (by kernel_rfl) rfl (by kernel_rfl) (by kernel_rfl) (by decide) (by decide) (fun _ _ => trivial) trivial ⟨HK.out.next (Below.drew (Below.refl _ _)), Below.drew (Below.refl _ _)⟩ (BorneAll.at (.cons (borne_eq _) (.cons (borne_eq _) (.cons (borne_eq _) (.cons (borne_eq _) (.cons (borne_eq _) (.cons (borne_eq _) (.cons (borne_eq _) (.cons (borne_eq _) (.cons (borne_eq _) (.cons (borne_eq _) (.cons (borne_eq _) (.cons (borne_eq _) .nil))))))))))))) (fun vs b hvl hvb => ?_)
  obtain ⟨x0, x1, x2, x3, x4, x5, x6, x7, x8, x9, x10, x11, rfl⟩ : ∃ x0 x1 x2 x3 x4 x5 x6 x7 x8 x9 x10 x11, vs = [x0, x1, x2, x3, x4, x5, x6, x7, x8, x9, x10, x11] := lq12 hvl
  clear hvl
  simp only [putAll, Act.put, List.setIfInBounds_toArray, List.set_cons_zero, List.set_cons_succ] at hvb
  subst hvb
  refine ⟨(.snoc (.snoc (.snoc (.snoc (.snoc (.snoc (.snoc (.snoc (.snoc (.snoc (.snoc (.snoc .zero (InvOb.intro (d := (some 6)) (r := fun u _ => u = .slice (some ⟨lb, lo, none⟩) n lc) 0 0 rfl rfl rfl (by kernel_rfl) (by kernel_rfl) rfl ?io1x0)) (InvOb.intro (d := (some 7)) (r := fun u _ => u = .int .i64 (x : Nat)) 0 0 rfl rfl rfl (by kernel_rfl) (by kernel_rfl) rfl ?io1x1)) (InvOb.intro (d := (some 8)) (r := fun u _ => u = .pointer (some ⟨lb, lo + x * 4, none⟩)) 0 0 rfl rfl rfl (by kernel_rfl) (by kernel_rfl) rfl ?io1x2)) (InvOb.intro (d := (some 9)) (r := fun u _ => u = .pointer (some ⟨lb, lo + x * 4, none⟩)) 0 0 rfl rfl rfl (by kernel_rfl) (by kernel_rfl) rfl ?io1x3)) (InvOb.intro (d := (some 10)) (r := fun u _ => u = .int .i64 kx) 0 0 rfl rfl rfl (by kernel_rfl) (by kernel_rfl) rfl ?io1x4)) (InvOb.intro (d := (some 11)) (r := fun u _ => u = .slice (some ⟨lb, lo, none⟩) n lc) 0 0 rfl rfl rfl (by kernel_rfl) (by kernel_rfl) rfl ?io1x5)) (InvOb.intro (d := (some 12)) (r := fun u _ => u = .int .i64 (y : Nat)) 0 0 rfl rfl rfl (by kernel_rfl) (by kernel_rfl) rfl ?io1x6)) (InvOb.intro (d := (some 13)) (r := fun u _ => u = .pointer (some ⟨lb, lo + y * 4, none⟩)) 0 0 rfl rfl rfl (by kernel_rfl) (by kernel_rfl) rfl ?io1x7)) (InvOb.intro (d := (some 14)) (r := fun u _ => u = .pointer (some ⟨lb, lo + y * 4, none⟩)) 0 0 rfl rfl rfl (by kernel_rfl) (by kernel_rfl) rfl ?io1x8)) (InvOb.intro (d := (some 15)) (r := fun u _ => u = .int .i64 ky) 0 0 rfl rfl rfl (by kernel_rfl) (by kernel_rfl) rfl ?io1x9)) (InvOb.intro (d := (some 16)) (r := fun u _ => u = .int .i64 (kx - ky)) 0 0 rfl rfl rfl (by kernel_rfl) (by kernel_rfl) rfl ?io1x10)) (InvOb.intro (d := (some 5)) (r := fun u _ => u = .int .i64 (kx - ky)) 0 0 rfl rfl rfl (by kernel_rfl) (by kernel_rfl) rfl ?io1x11)), ?iend1⟩
  case io1x0 =>
    intro k1 w1 hk0 hk1 hb1 hS hd KK hK
    clear hd
    have k0 := hS.1.box
    simp only [Act.put, List.setIfInBounds_toArray, List.set_cons_zero, List.set_cons_succ] at hK
    go_simp
    first | exact hK.out _ _ trivial hS rfl | (have hk := hK.out _ _ trivial hS rfl; revert hk; go_simp)
  case io1x1 =>
    intro k1 w1 hk0 hk1 hb1 hS hd KK hK
    clear hd
    simp only [Act.put, List.setIfInBounds_toArray, List.set_cons_zero, List.set_cons_succ] at hK
    go_simp
    first | exact hK.out _ _ trivial hS rfl | (have hk := hK.out _ _ trivial hS rfl; revert hk; go_simp)
  case io1x2 =>
    intro k1 w1 hk0 hk1 hb1 hS hd KK hK
    have d0 : x0 = .slice (some ⟨lb, lo, none⟩) n lc := hd 0 (by kernel_rfl)
    have d1 : x1 = .int .i64 (x : Nat) := hd 1 (by kernel_rfl)
    clear hd
    subst d0
    subst d1
    have g1 := HX.out
    have g2 : (x : Int) < (n : Int) := by omega
    have g3 : (x : Int).toNat = x := by omega
    simp only [Act.put, List.setIfInBounds_toArray, List.set_cons_zero, List.set_cons_succ] at hK
    go_simp
    first | exact hK.out _ _ trivial hS rfl | (have hk := hK.out _ _ trivial hS rfl; revert hk; go_simp)
  case io1x3 =>
    intro k1 w1 hk0 hk1 hb1 hS hd KK hK
    have d2 : x2 = .pointer (some ⟨lb, lo + x * 4, none⟩) := hd 2 (by kernel_rfl)
    clear hd
    subst d2
    simp only [Act.put, List.setIfInBounds_toArray, List.set_cons_zero, List.set_cons_succ] at hK
    go_simp
    first | exact hK.out _ _ trivial hS rfl | (have hk := hK.out _ _ trivial hS rfl; revert hk; go_simp)
  case io1x4 =>
    intro k1 w1 hk0 hk1 hb1 hS hd KK hK
    have d3 : x3 = .pointer (some ⟨lb, lo + x * 4, none⟩) := hd 3 (by kernel_rfl)
    clear hd
    subst d3
    obtain ⟨b9, o9, he, _, hcx⟩ := hS.1.kcell x HX.out
    cases he
    rw [HKX.out] at hcx
    simp only [Act.put, List.setIfInBounds_toArray, List.set_cons_zero, List.set_cons_succ] at hK
    go_simp
    first | exact hK.out _ _ trivial hS rfl | (have hk := hK.out _ _ trivial hS rfl; revert hk; go_simp)
  case io1x5 =>
    intro k1 w1 hk0 hk1 hb1 hS hd KK hK
    clear hd
    have k0 := hS.1.box
    simp only [Act.put, List.setIfInBounds_toArray, List.set_cons_zero, List.set_cons_succ] at hK
    go_simp
    first | exact hK.out _ _ trivial hS rfl | (have hk := hK.out _ _ trivial hS rfl; revert hk; go_simp)
  case io1x6 =>
    intro k1 w1 hk0 hk1 hb1 hS hd KK hK
    clear hd
    simp only [Act.put, List.setIfInBounds_toArray, List.set_cons_zero, List.set_cons_succ] at hK
    go_simp
    first | exact hK.out _ _ trivial hS rfl | (have hk := hK.out _ _ trivial hS rfl; revert hk; go_simp)
  case io1x7 =>
    intro k1 w1 hk0 hk1 hb1 hS hd KK hK
    have d5 : x5 = .slice (some ⟨lb, lo, none⟩) n lc := hd 5 (by kernel_rfl)
    have d6 : x6 = .int .i64 (y : Nat) := hd 6 (by kernel_rfl)
    clear hd
    subst d5
    subst d6
    have g1 := HY.out
    have g2 : (y : Int) < (n : Int) := by omega
    have g3 : (y : Int).toNat = y := by omega
    simp only [Act.put, List.setIfInBounds_toArray, List.set_cons_zero, List.set_cons_succ] at hK
    go_simp
    first | exact hK.out _ _ trivial hS rfl | (have hk := hK.out _ _ trivial hS rfl; revert hk; go_simp)
  case io1x8 =>
    intro k1 w1 hk0 hk1 hb1 hS hd KK hK
    have d7 : x7 = .pointer (some ⟨lb, lo + y * 4, none⟩) := hd 7 (by kernel_rfl)
    clear hd
    subst d7
    simp only [Act.put, List.setIfInBounds_toArray, List.set_cons_zero, List.set_cons_succ] at hK
    go_simp
    first | exact hK.out _ _ trivial hS rfl | (have hk := hK.out _ _ trivial hS rfl; revert hk; go_simp)
  case io1x9 =>
    intro k1 w1 hk0 hk1 hb1 hS hd KK hK
    have d8 : x8 = .pointer (some ⟨lb, lo + y * 4, none⟩) := hd 8 (by kernel_rfl)
    clear hd
    subst d8
    obtain ⟨b9, o9, he, _, hcx⟩ := hS.1.kcell y HY.out
    cases he
    rw [HKY.out] at hcx
    simp only [Act.put, List.setIfInBounds_toArray, List.set_cons_zero, List.set_cons_succ] at hK
    go_simp
    first | exact hK.out _ _ trivial hS rfl | (have hk := hK.out _ _ trivial hS rfl; revert hk; go_simp)
  case io1x10 =>
    intro k1 w1 hk0 hk1 hb1 hS hd KK hK
    have d4 : x4 = .int .i64 kx := hd 4 (by kernel_rfl)
    have d9 : x9 = .int .i64 ky := hd 9 (by kernel_rfl)
    clear hd
    subst d4
    subst d9
    have dx := HD.out
    simp only [Act.put, List.setIfInBounds_toArray, List.set_cons_zero, List.set_cons_succ] at hK
    go_simp
    first | exact hK.out _ _ trivial hS rfl | (have hk := hK.out _ _ trivial hS rfl; revert hk; go_simp)
  case io1x11 =>
    intro k1 w1 hk0 hk1 hb1 hS hd KK hK
    have d0 : x0 = .slice (some ⟨lb, lo, none⟩) n lc := hd 0 (by kernel_rfl)
    have d1 : x1 = .int .i64 (x : Nat) := hd 1 (by kernel_rfl)
    have d2 : x2 = .pointer (some ⟨lb, lo + x * 4, none⟩) := hd 2 (by kernel_rfl)
    have d3 : x3 = .pointer (some ⟨lb, lo + x * 4, none⟩) := hd 3 (by kernel_rfl)
    have d4 : x4 = .int .i64 kx := hd 4 (by kernel_rfl)
    have d5 : x5 = .slice (some ⟨lb, lo, none⟩) n lc := hd 5 (by kernel_rfl)
    have d6 : x6 = .int .i64 (y : Nat) := hd 6 (by kernel_rfl)
    have d7 : x7 = .pointer (some ⟨lb, lo + y * 4, none⟩) := hd 7 (by kernel_rfl)
    have d8 : x8 = .pointer (some ⟨lb, lo + y * 4, none⟩) := hd 8 (by kernel_rfl)
    have d9 : x9 = .int .i64 ky := hd 9 (by kernel_rfl)
    have d10 : x10 = .int .i64 (kx - ky) := hd 10 (by kernel_rfl)
    clear hd
    subst d0
    subst d1
    subst d2
    subst d3
    subst d4
    subst d5
    subst d6
    subst d7
    subst d8
    subst d9
    subst d10
    simp only [Act.put, List.setIfInBounds_toArray, List.set_cons_zero, List.set_cons_succ] at hK
    go_simp
    first | exact hK.out _ _ trivial hS rfl | (have hk := hK.out _ _ trivial hS rfl; revert hk; go_simp)
  case iend1 =>
    intro w1 hb1 hS hR
    have d0 : x0 = .slice (some ⟨lb, lo, none⟩) n lc := hR 0 (by decide)
    have d1 : x1 = .int .i64 (x : Nat) := hR 1 (by decide)
    have d2 : x2 = .pointer (some ⟨lb, lo + x * 4, none⟩) := hR 2 (by decide)
    have d3 : x3 = .pointer (some ⟨lb, lo + x * 4, none⟩) := hR 3 (by decide)
    have d4 : x4 = .int .i64 kx := hR 4 (by decide)
    have d5 : x5 = .slice (some ⟨lb, lo, none⟩) n lc := hR 5 (by decide)
    have d6 : x6 = .int .i64 (y : Nat) := hR 6 (by decide)
    have d7 : x7 = .pointer (some ⟨lb, lo + y * 4, none⟩) := hR 7 (by decide)
    have d8 : x8 = .pointer (some ⟨lb, lo + y * 4, none⟩) := hR 8 (by decide)
    have d9 : x9 = .int .i64 ky := hR 9 (by decide)
    have d10 : x10 = .int .i64 (kx - ky) := hR 10 (by decide)
    have d11 : x11 = .int .i64 (kx - ky) := hR 11 (by decide)
    clear hR
    subst d0
    subst d1
    subst d2
    subst d3
    subst d4
    subst d5
    subst d6
    subst d7
    subst d8
    subst d9
    subst d10
    subst d11
    try simp only [putAll, Act.put, List.setIfInBounds_toArray, List.set_cons_zero, List.set_cons_succ]
    have FZ := hS.2
    clear hS hb1
    go_wp2
    go_ret
    exact ⟨rfl, FZ⟩
set_option maxRecDepth 100000 in
set_option maxHeartbeats 4000000 in
theorem pins_any (bk q n cp lc : Nat) (al : Option Addr) (key : Nat → Int) (f : Nat → Nat) (a e : Nat) (za ze : Int) (w : World) (h : SF w w bk n f) (hk : KA w bk q n al lc key) (hza : za = (a : Nat)) (hze : ze = (e : Nat)) (hae : a ≤ e) (hen : e ≤ n) (hid : ∀ i, a ≤ i → i < e → f i = i) :
    Calls Try.prog 28 #[.slice (some ⟨bk, 0, none⟩) n cp, .int .i64 za, .int .i64 ze, .func (.func 19) #[] #[.pointer (some ⟨q, 0, none⟩)]] w fun en w' => en = .returned (.tuple #[]) ∧ ∃ g, SF w w' bk n g ∧ Srt key g a e ∧ Within f g a e := by
  subst hza; subst hze
  have hnb := hk.nb
  have F0 := Lib.hid h
  have K0 := Lib.hid hk
  clear h hk
  have HID := Lib.hid hid
  have HCM := Lib.hid (fun x y W hx hy hK => pcmp_any bk q n lc al key x y W hx hy hK)
  clear hid
  go_enter Try.func28, Try.ntmps28
  go_wp2
  skip
  go_loopw [8] (fun s8 wr => ∃ (k : Nat) (g : Nat → Nat), s8 = .int .i64 (k : Nat) ∧ a + 1 ≤ k ∧ k ≤ a + 1 + (e - a) ∧ (k ≤ e ∨ k = a + 1) ∧ Hid (Srt key g a k) ∧ Hid (Within f g a k) ∧ Hid (k = a + 1 → g = f) ∧ Hid (SF w wr bk n g) ∧ Hid (KA wr bk q n al lc key)) (fun s8 _ => e - (intOf s8).toNat)
  case atStart => exact ⟨a + 1, f, by first | rfl | go_num, Nat.le_refl _, by omega, .inr rfl, Lib.hid (fun i j h1 h2 h3 => by omega), Lib.hid (Within.refl _ _ _), Lib.hid (fun _ => rfl), F0, K0⟩
  case round =>
    obtain ⟨k, g, rfl, hk1, hk2, hk3, HS, HW, HZ, F1, K1⟩ := hrel
    clear F0 K0
    obtain ⟨wo, rfl⟩ : ∃ x : World, x = wr := ⟨_, rfl⟩
    by_cases hke : k < e
    · skip
      go_wp2
      have HKE := Lib.hid hke
      have hin := HID.out k (by omega) hke
      have hgk : g k = k := by rw [HW.out.1 k (by omega)]; exact hin
      have hlow : ∀ i, a ≤ i → i < k → g i < k := fun i h1 h2 => by
        obtain ⟨j, j1, j2, e⟩ := HW.out.2 i h1 h2
        rw [e, HID.out j j1 (by omega)]; exact j2
      have HGK := Lib.hid hgk
      have HLOW := Lib.hid hlow
      clear hin hgk hlow
      go_loopw [9] (fun s9 wr => ∃ (j : Nat), s9 = .int .i64 (j : Nat) ∧ Hid (InsAt key g a k j) ∧ Hid (SF w wr bk n (insJ g k j)) ∧ Hid (KA wr bk q n al lc key)) (fun s9 _ => (intOf s9).toNat)
      case atStart => exact ⟨k, rfl, Lib.hid (InsAt.start (by omega) HS.out), by rw [insJ_self]; exact F1, K1⟩
      case round =>
        obtain ⟨j, rfl, HA, F2, K2⟩ := hrel
        clear F1 K1
        obtain ⟨wi, rfl⟩ : ∃ x : World, x = wr := ⟨_, rfl⟩
        have haj := HA.out.ai
        have hjk := HA.out.ji
        by_cases hlt : a < j
        · skip
          obtain ⟨j1, hj1⟩ : ∃ z, j = z + 1 := ⟨j - 1, by omega⟩
          obtain ⟨G, hG⟩ : ∃ z, insJ g k j = z := ⟨_, rfl⟩
          have hgj : G j = k := by rw [← hG, insJ_at]; exact HGK.out
          have hgj1 : G j1 = g j1 := by rw [← hG]; exact insJ_below g (by omega)
          obtain ⟨ey, hey⟩ : ∃ z, g j1 = z := ⟨_, rfl⟩
          rw [hey] at hgj1
          have heyk : ey < k := by rw [← hey]; exact HLOW.out j1 (by omega) (by omega)
          rw [hG] at F2
          have HG := Lib.hid hG
          have HX1 := Lib.hid hgj
          have HX2 := Lib.hid hgj1
          have HXG := Lib.hid hey
          have HI := Lib.hid (show j < n by omega)
          have HJ := Lib.hid (show j1 < n by omega)
          have HJ1 := Lib.hid (show IntKind.i64.wrap ((j : Int) - 1) = (j1 : Int) from (IntWalk.i64_in _ (by omega)).trans (by omega))
          have HJS := Lib.hid hj1
          have hajI : (a : Int) < (j : Int) := by omega
          obtain ⟨kd, hkd⟩ : ∃ z, key k - key ey = z := ⟨_, rfl⟩
          have hcm := fun W hK => HCM.out k ey W (by omega) (by omega) hK
          rw [hkd] at hcm
          have HC := Lib.hid hcm
          have HKD := Lib.hid hkd
          clear hG hgj hgj1 hey hj1 hcm hkd
          by_cases hkl : kd < 0
          · skip
            go_upto_region 4 with fail
            refine wp_region_inv (w := wi) 17 (fun _ _ => True) (fun _ W => SF w W bk n G ∧ KA W bk q n al lc key) [] [(fun u _ => u = .int .i64 (j : Nat)), (fun u _ => u = .int .i64 (a : Nat)), (fun u _ => u = .bool true), (fun u _ => u = .bool true), (fun u _ => u = .func (.func 19) #[] #[.pointer (some ⟨q, 0, none⟩)]), (fun u _ => u = .slice (some ⟨bk, 0, none⟩) n cp), (fun u _ => u = .int .i64 (j : Nat)), (fun u _ => u = .pointer (some ⟨bk, j, none⟩)), (fun u _ => u = .int .i64 (k : Nat)), (fun u _ => u = .slice (some ⟨bk, 0, none⟩) n cp), (fun u _ => u = .int .i64 (j : Nat)), (fun u _ => u = .int .i64 (j1 : Nat)), (fun u _ => u = .pointer (some ⟨bk, j1, none⟩)), (fun u _ => u = .int .i64 (ey : Nat)), (fun u _ => u = .int .i64 kd), (fun u _ => u = .bool true), (fun u _ => u = .bool true)] [some 18, some 19, some 20, some 21, some 22, some 23, some 24, some 25, some 26, some 27, some 28, some 29, some 30, some 31, some 32, some 33, some 34] (by kernel_rfl) (by kernel_rfl) rfl (by kernel_rfl) (by kernel_rfl) (by decide) (by decide) (fun _ _ => trivial) trivial ⟨F2.out.drew, K2.out.next (Below.drew (Below.refl _ _))⟩ (BorneAll.at (.cons (borne_eq _) (.cons (borne_eq _) (.cons (borne_eq _) (.cons (borne_eq _) (.cons (borne_eq _) (.cons (borne_eq _) (.cons (borne_eq _) (.cons (borne_eq _) (.cons (borne_eq _) (.cons (borne_eq _) (.cons (borne_eq _) (.cons (borne_eq _) (.cons (borne_eq _) (.cons (borne_eq _) (.cons (borne_eq _) (.cons (borne_eq _) (.cons (borne_eq _) .nil)))))))))))))))))) (fun vs b hvl hvb => ?_)
            obtain ⟨x0, x1, x2, x3, x4, x5, x6, x7, x8, x9, x10, x11, x12, x13, x14, x15, x16, rfl⟩ : ∃ x0 x1 x2 x3 x4 x5 x6 x7 x8 x9 x10 x11 x12 x13 x14 x15 x16, vs = [x0, x1, x2, x3, x4, x5, x6, x7, x8, x9, x10, x11, x12, x13, x14, x15, x16] := lq17 hvl
            clear hvl
            simp only [putAll, Act.put, List.setIfInBounds_toArray, List.set_cons_zero, List.set_cons_succ] at hvb
            subst hvb
            refine ⟨(.snoc (.snoc (.snoc (.snoc (.snoc (.snoc (.snoc (.snoc (.snoc (.snoc (.snoc (.snoc (.snoc (.snoc (.snoc (.snoc (.snoc .zero (InvOb.intro (d := (some 18)) (r := fun u _ => u = .int .i64 (j : Nat)) 0 0 rfl rfl rfl (by kernel_rfl) (by kernel_rfl) rfl ?io4tx0)) (InvOb.intro (d := (some 19)) (r := fun u _ => u = .int .i64 (a : Nat)) 0 0 rfl rfl rfl (by kernel_rfl) (by kernel_rfl) rfl ?io4tx1)) (InvOb.intro (d := (some 20)) (r := fun u _ => u = .bool true) 0 0 rfl rfl rfl (by kernel_rfl) (by kernel_rfl) rfl ?io4tx2)) (InvOb.intro (d := (some 21)) (r := fun u _ => u = .bool true) 0 0 rfl rfl rfl (by kernel_rfl) (by kernel_rfl) rfl ?io4tx3)) (InvOb.intro (d := (some 22)) (r := fun u _ => u = .func (.func 19) #[] #[.pointer (some ⟨q, 0, none⟩)]) 0 0 rfl rfl rfl (by kernel_rfl) (by kernel_rfl) rfl ?io4tx4)) (InvOb.intro (d := (some 23)) (r := fun u _ => u = .slice (some ⟨bk, 0, none⟩) n cp) 0 0 rfl rfl rfl (by kernel_rfl) (by kernel_rfl) rfl ?io4tx5)) (InvOb.intro (d := (some 24)) (r := fun u _ => u = .int .i64 (j : Nat)) 0 0 rfl rfl rfl (by kernel_rfl) (by kernel_rfl) rfl ?io4tx6)) (InvOb.intro (d := (some 25)) (r := fun u _ => u = .pointer (some ⟨bk, j, none⟩)) 0 0 rfl rfl rfl (by kernel_rfl) (by kernel_rfl) rfl ?io4tx7)) (InvOb.intro (d := (some 26)) (r := fun u _ => u = .int .i64 (k : Nat)) 0 0 rfl rfl rfl (by kernel_rfl) (by kernel_rfl) rfl ?io4tx8)) (InvOb.intro (d := (some 27)) (r := fun u _ => u = .slice (some ⟨bk, 0, none⟩) n cp) 0 0 rfl rfl rfl (by kernel_rfl) (by kernel_rfl) rfl ?io4tx9)) (InvOb.intro (d := (some 28)) (r := fun u _ => u = .int .i64 (j : Nat)) 0 0 rfl rfl rfl (by kernel_rfl) (by kernel_rfl) rfl ?io4tx10)) (InvOb.intro (d := (some 29)) (r := fun u _ => u = .int .i64 (j1 : Nat)) 0 0 rfl rfl rfl (by kernel_rfl) (by kernel_rfl) rfl ?io4tx11)) (InvOb.intro (d := (some 30)) (r := fun u _ => u = .pointer (some ⟨bk, j1, none⟩)) 0 0 rfl rfl rfl (by kernel_rfl) (by kernel_rfl) rfl ?io4tx12)) (InvOb.intro (d := (some 31)) (r := fun u _ => u = .int .i64 (ey : Nat)) 0 0 rfl rfl rfl (by kernel_rfl) (by kernel_rfl) rfl ?io4tx13)) (InvOb.intro (d := (some 32)) (r := fun u _ => u = .int .i64 kd) 0 0 rfl rfl rfl (by kernel_rfl) (by kernel_rfl) rfl ?io4tx14)) (InvOb.intro (d := (some 33)) (r := fun u _ => u = .bool true) 0 0 rfl rfl rfl (by kernel_rfl) (by kernel_rfl) rfl ?io4tx15)) (InvOb.intro (d := (some 34)) (r := fun u _ => u = .bool true) 0 0 rfl rfl rfl (by kernel_rfl) (by kernel_rfl) rfl ?io4tx16)), ?iend4t⟩
            case io4tx0 =>
              intro k1 w1 hk0 hk1 hb1 hS hd KK hK
              clear hd
              simp only [Act.put, List.setIfInBounds_toArray, List.set_cons_zero, List.set_cons_succ] at hK
              go_simp
              first | exact hK.out _ _ trivial hS rfl | (have hk := hK.out _ _ trivial hS rfl; revert hk; go_simp)
            case io4tx1 =>
              intro k1 w1 hk0 hk1 hb1 hS hd KK hK
              clear hd
              simp only [Act.put, List.setIfInBounds_toArray, List.set_cons_zero, List.set_cons_succ] at hK
              go_simp
              first | exact hK.out _ _ trivial hS rfl | (have hk := hK.out _ _ trivial hS rfl; revert hk; go_simp)
            case io4tx2 =>
              intro k1 w1 hk0 hk1 hb1 hS hd KK hK
              have d0 : x0 = .int .i64 (j : Nat) := hd 0 (by kernel_rfl)
              have d1 : x1 = .int .i64 (a : Nat) := hd 1 (by kernel_rfl)
              clear hd
              subst d0
              subst d1
              have g1 := hajI
              simp only [Act.put, List.setIfInBounds_toArray, List.set_cons_zero, List.set_cons_succ] at hK
              go_simp
              first | exact hK.out _ _ trivial hS rfl | (have hk := hK.out _ _ trivial hS rfl; revert hk; go_simp)
            case io4tx3 =>
              intro k1 w1 hk0 hk1 hb1 hS hd KK hK
              have d2 : x2 = .bool true := hd 2 (by kernel_rfl)
              clear hd
              subst d2
              simp only [Act.put, List.setIfInBounds_toArray, List.set_cons_zero, List.set_cons_succ] at hK
              go_simp
              first | exact hK.out _ _ trivial hS rfl | (have hk := hK.out _ _ trivial hS rfl; revert hk; go_simp)
            case io4tx4 =>
              intro k1 w1 hk0 hk1 hb1 hS hd KK hK
              have d3 : x3 = .bool true := hd 3 (by kernel_rfl)
              clear hd
              subst d3
              simp only [Act.put, List.setIfInBounds_toArray, List.set_cons_zero, List.set_cons_succ] at hK
              go_simp
              first | exact hK.out _ _ trivial hS rfl | (have hk := hK.out _ _ trivial hS rfl; revert hk; go_simp)
            case io4tx5 =>
              intro k1 w1 hk0 hk1 hb1 hS hd KK hK
              have d3 : x3 = .bool true := hd 3 (by kernel_rfl)
              clear hd
              subst d3
              simp only [Act.put, List.setIfInBounds_toArray, List.set_cons_zero, List.set_cons_succ] at hK
              go_simp
              first | exact hK.out _ _ trivial hS rfl | (have hk := hK.out _ _ trivial hS rfl; revert hk; go_simp)
            case io4tx6 =>
              intro k1 w1 hk0 hk1 hb1 hS hd KK hK
              have d3 : x3 = .bool true := hd 3 (by kernel_rfl)
              clear hd
              subst d3
              simp only [Act.put, List.setIfInBounds_toArray, List.set_cons_zero, List.set_cons_succ] at hK
              go_simp
              first | exact hK.out _ _ trivial hS rfl | (have hk := hK.out _ _ trivial hS rfl; revert hk; go_simp)
            case io4tx7 =>
              intro k1 w1 hk0 hk1 hb1 hS hd KK hK
              have d3 : x3 = .bool true := hd 3 (by kernel_rfl)
              have d5 : x5 = .slice (some ⟨bk, 0, none⟩) n cp := hd 5 (by kernel_rfl)
              have d6 : x6 = .int .i64 (j : Nat) := hd 6 (by kernel_rfl)
              clear hd
              subst d3
              subst d5
              subst d6
              have g1 := HI.out
              have g2 : (j : Int) < (n : Int) := by omega
              simp only [Act.put, List.setIfInBounds_toArray, List.set_cons_zero, List.set_cons_succ] at hK
              go_simp
              first | exact hK.out _ _ trivial hS rfl | (have hk := hK.out _ _ trivial hS rfl; revert hk; go_simp)
            case io4tx8 =>
              intro k1 w1 hk0 hk1 hb1 hS hd KK hK
              have d3 : x3 = .bool true := hd 3 (by kernel_rfl)
              have d7 : x7 = .pointer (some ⟨bk, j, none⟩) := hd 7 (by kernel_rfl)
              clear hd
              subst d3
              subst d7
              have hv := hS.1.val j HI.out
              rw [HX1.out] at hv
              simp only [Act.put, List.setIfInBounds_toArray, List.set_cons_zero, List.set_cons_succ] at hK
              go_simp
              first | exact hK.out _ _ trivial hS rfl | (have hk := hK.out _ _ trivial hS rfl; revert hk; go_simp)
            case io4tx9 =>
              intro k1 w1 hk0 hk1 hb1 hS hd KK hK
              have d3 : x3 = .bool true := hd 3 (by kernel_rfl)
              clear hd
              subst d3
              simp only [Act.put, List.setIfInBounds_toArray, List.set_cons_zero, List.set_cons_succ] at hK
              go_simp
              first | exact hK.out _ _ trivial hS rfl | (have hk := hK.out _ _ trivial hS rfl; revert hk; go_simp)
            case io4tx10 =>
              intro k1 w1 hk0 hk1 hb1 hS hd KK hK
              have d3 : x3 = .bool true := hd 3 (by kernel_rfl)
              clear hd
              subst d3
              simp only [Act.put, List.setIfInBounds_toArray, List.set_cons_zero, List.set_cons_succ] at hK
              go_simp
              first | exact hK.out _ _ trivial hS rfl | (have hk := hK.out _ _ trivial hS rfl; revert hk; go_simp)
            case io4tx11 =>
              intro k1 w1 hk0 hk1 hb1 hS hd KK hK
              have d3 : x3 = .bool true := hd 3 (by kernel_rfl)
              have d10 : x10 = .int .i64 (j : Nat) := hd 10 (by kernel_rfl)
              clear hd
              subst d3
              subst d10
              have dx := HJ1.out
              simp only [Act.put, List.setIfInBounds_toArray, List.set_cons_zero, List.set_cons_succ] at hK
              go_simp
              first | exact hK.out _ _ trivial hS rfl | (have hk := hK.out _ _ trivial hS rfl; revert hk; go_simp)
            case io4tx12 =>
              intro k1 w1 hk0 hk1 hb1 hS hd KK hK
              have d3 : x3 = .bool true := hd 3 (by kernel_rfl)
              have d9 : x9 = .slice (some ⟨bk, 0, none⟩) n cp := hd 9 (by kernel_rfl)
              have d11 : x11 = .int .i64 (j1 : Nat) := hd 11 (by kernel_rfl)
              clear hd
              subst d3
              subst d9
              subst d11
              have g1 := HJ.out
              have g2 : (j1 : Int) < (n : Int) := by omega
              simp only [Act.put, List.setIfInBounds_toArray, List.set_cons_zero, List.set_cons_succ] at hK
              go_simp
              first | exact hK.out _ _ trivial hS rfl | (have hk := hK.out _ _ trivial hS rfl; revert hk; go_simp)
            case io4tx13 =>
              intro k1 w1 hk0 hk1 hb1 hS hd KK hK
              have d3 : x3 = .bool true := hd 3 (by kernel_rfl)
              have d12 : x12 = .pointer (some ⟨bk, j1, none⟩) := hd 12 (by kernel_rfl)
              clear hd
              subst d3
              subst d12
              have hv := hS.1.val j1 HJ.out
              rw [HX2.out] at hv
              simp only [Act.put, List.setIfInBounds_toArray, List.set_cons_zero, List.set_cons_succ] at hK
              go_simp
              first | exact hK.out _ _ trivial hS rfl | (have hk := hK.out _ _ trivial hS rfl; revert hk; go_simp)
            case io4tx14 =>
              intro k1 w1 hk0 hk1 hb1 hS hd KK hK
              have d3 : x3 = .bool true := hd 3 (by kernel_rfl)
              have d4 : x4 = .func (.func 19) #[] #[.pointer (some ⟨q, 0, none⟩)] := hd 4 (by kernel_rfl)
              have d8 : x8 = .int .i64 (k : Nat) := hd 8 (by kernel_rfl)
              have d13 : x13 = .int .i64 (ey : Nat) := hd 13 (by kernel_rfl)
              clear hd
              subst d3
              subst d4
              subst d8
              subst d13
              simp only [Act.put, List.setIfInBounds_toArray, List.set_cons_zero, List.set_cons_succ] at hK
              go_simp
              go_at_call 19
              refine (HC.out w1 hS.2).mono ?_
              rintro e w2 ⟨rfl, hb⟩
              (try go_wp2_with fail)
              first | exact hK.out _ _ trivial ⟨hS.1.next hb, hS.2.next hb⟩ rfl | (have hk := hK.out _ _ trivial ⟨hS.1.next hb, hS.2.next hb⟩ rfl; revert hk; go_simp)
            case io4tx15 =>
              intro k1 w1 hk0 hk1 hb1 hS hd KK hK
              have d3 : x3 = .bool true := hd 3 (by kernel_rfl)
              have d14 : x14 = .int .i64 kd := hd 14 (by kernel_rfl)
              clear hd
              subst d3
              subst d14
              have g1 := hkl
              simp only [Act.put, List.setIfInBounds_toArray, List.set_cons_zero, List.set_cons_succ] at hK
              go_simp
              first | exact hK.out _ _ trivial hS rfl | (have hk := hK.out _ _ trivial hS rfl; revert hk; go_simp)
            case io4tx16 =>
              intro k1 w1 hk0 hk1 hb1 hS hd KK hK
              have d3 : x3 = .bool true := hd 3 (by kernel_rfl)
              have d15 : x15 = .bool true := hd 15 (by kernel_rfl)
              clear hd
              subst d3
              subst d15
              simp only [Act.put, List.setIfInBounds_toArray, List.set_cons_zero, List.set_cons_succ] at hK
              go_simp
              first | exact hK.out _ _ trivial hS rfl | (have hk := hK.out _ _ trivial hS rfl; revert hk; go_simp)
            case iend4t =>
              intro w1 hb1 hS hR
              have d0 : x0 = .int .i64 (j : Nat) := hR 0 (by decide)
              have d1 : x1 = .int .i64 (a : Nat) := hR 1 (by decide)
              have d2 : x2 = .bool true := hR 2 (by decide)
              have d3 : x3 = .bool true := hR 3 (by decide)
              have d4 : x4 = .func (.func 19) #[] #[.pointer (some ⟨q, 0, none⟩)] := hR 4 (by decide)
              have d5 : x5 = .slice (some ⟨bk, 0, none⟩) n cp := hR 5 (by decide)
              have d6 : x6 = .int .i64 (j : Nat) := hR 6 (by decide)
              have d7 : x7 = .pointer (some ⟨bk, j, none⟩) := hR 7 (by decide)
              have d8 : x8 = .int .i64 (k : Nat) := hR 8 (by decide)
              have d9 : x9 = .slice (some ⟨bk, 0, none⟩) n cp := hR 9 (by decide)
              have d10 : x10 = .int .i64 (j : Nat) := hR 10 (by decide)
              have d11 : x11 = .int .i64 (j1 : Nat) := hR 11 (by decide)
              have d12 : x12 = .pointer (some ⟨bk, j1, none⟩) := hR 12 (by decide)
              have d13 : x13 = .int .i64 (ey : Nat) := hR 13 (by decide)
              have d14 : x14 = .int .i64 kd := hR 14 (by decide)
              have d15 : x15 = .bool true := hR 15 (by decide)
              have d16 : x16 = .bool true := hR 16 (by decide)
              clear hR
              subst d0
              subst d1
              subst d2
              subst d3
              subst d4
              subst d5
              subst d6
              subst d7
              subst d8
              subst d9
              subst d10
              subst d11
              subst d12
              subst d13
              subst d14
              subst d15
              subst d16
              try simp only [putAll, Act.put, List.setIfInBounds_toArray, List.set_cons_zero, List.set_cons_succ]
              have F3 := Lib.hid hS.1
              have K3 := Lib.hid hS.2
              clear hS hb1 F2 K2
              obtain ⟨wj, rfl⟩ : ∃ x : World, x = w1 := ⟨_, rfl⟩
              go_upto_region 6 with fail
              refine wp_region_inv (w := wj) 18 (fun _ _ => True) (fun k9 W => (k9 = 0 → SF w W bk n G) ∧ (k9 = 1 → SF w W bk n (upd G j ey)) ∧ (k9 = 2 → SF w W bk n (upd (upd G j ey) j1 k)) ∧ KA W bk q n al lc key) [15, 17] [(fun u _ => u = .slice (some ⟨bk, 0, none⟩) n cp), (fun u _ => u = .int .i64 (j : Nat)), (fun u _ => u = .slice (some ⟨bk, 0, none⟩) n cp), (fun u _ => u = .int .i64 (j : Nat)), (fun u _ => u = .int .i64 (j1 : Nat)), (fun u _ => u = .slice (some ⟨bk, 0, none⟩) n cp), (fun u _ => u = .int .i64 (j : Nat)), (fun u _ => u = .int .i64 (j1 : Nat)), (fun u _ => u = .pointer (some ⟨bk, j1, none⟩)), (fun u _ => u = .int .i64 (ey : Nat)), (fun u _ => u = .slice (some ⟨bk, 0, none⟩) n cp), (fun u _ => u = .int .i64 (j : Nat)), (fun u _ => u = .pointer (some ⟨bk, j, none⟩)), (fun u _ => u = .int .i64 (k : Nat)), (fun u _ => u = .pointer (some ⟨bk, j, none⟩)), (fun _ _ => True), (fun u _ => u = .pointer (some ⟨bk, j1, none⟩)), (fun _ _ => True)] [some 37, some 38, some 39, some 40, some 41, some 42, some 43, some 44, some 45, some 46, some 47, some 48, some 49, some 50, some 51, none, some 52, none] (by kernel_rfl) (by kernel_rfl) rfl (by kernel_rfl) (by kernel_rfl) (by decide) (by decide) (fun _ _ => trivial) trivial ⟨fun _ => F3.out.drew, fun h => absurd h (by decide), fun h => absurd h (by decide), K3.out.next (Below.drew (Below.refl _ _))⟩ (BorneAll.at (.cons (borne_eq _) (.cons (borne_eq _) (.cons (borne_eq _) (.cons (borne_eq _) (.cons (borne_eq _) (.cons (borne_eq _) (.cons (borne_eq _) (.cons (borne_eq _) (.cons (borne_eq _) (.cons (borne_eq _) (.cons (borne_eq _) (.cons (borne_eq _) (.cons (borne_eq _) (.cons (borne_eq _) (.cons (borne_eq _) (.cons (fun _ _ _ _ _ => trivial) (.cons (borne_eq _) (.cons (fun _ _ _ _ _ => trivial) .nil))))))))))))))))))) (fun vs b hvl hvb => ?_)
              obtain ⟨x0, x1, x2, x3, x4, x5, x6, x7, x8, x9, x10, x11, x12, x13, x14, x15, x16, x17, rfl⟩ : ∃ x0 x1 x2 x3 x4 x5 x6 x7 x8 x9 x10 x11 x12 x13 x14 x15 x16 x17, vs = [x0, x1, x2, x3, x4, x5, x6, x7, x8, x9, x10, x11, x12, x13, x14, x15, x16, x17] := lq18 hvl
              clear hvl
              simp only [putAll, Act.put, List.setIfInBounds_toArray, List.set_cons_zero, List.set_cons_succ] at hvb
              subst hvb
              refine ⟨(.snoc (.snoc (.snoc (.snoc (.snoc (.snoc (.snoc (.snoc (.snoc (.snoc (.snoc (.snoc (.snoc (.snoc (.snoc (.snoc (.snoc (.snoc .zero (InvOb.intro (d := (some 37)) (r := fun u _ => u = .slice (some ⟨bk, 0, none⟩) n cp) 0 0 rfl rfl rfl (by kernel_rfl) (by kernel_rfl) rfl ?io6x0)) (InvOb.intro (d := (some 38)) (r := fun u _ => u = .int .i64 (j : Nat)) 0 0 rfl rfl rfl (by kernel_rfl) (by kernel_rfl) rfl ?io6x1)) (InvOb.intro (d := (some 39)) (r := fun u _ => u = .slice (some ⟨bk, 0, none⟩) n cp) 0 1 rfl rfl rfl (by kernel_rfl) (by kernel_rfl) rfl ?io6x2)) (InvOb.intro (d := (some 40)) (r := fun u _ => u = .int .i64 (j : Nat)) 0 1 rfl rfl rfl (by kernel_rfl) (by kernel_rfl) rfl ?io6x3)) (InvOb.intro (d := (some 41)) (r := fun u _ => u = .int .i64 (j1 : Nat)) 0 1 rfl rfl rfl (by kernel_rfl) (by kernel_rfl) rfl ?io6x4)) (InvOb.intro (d := (some 42)) (r := fun u _ => u = .slice (some ⟨bk, 0, none⟩) n cp) 0 0 rfl rfl rfl (by kernel_rfl) (by kernel_rfl) rfl ?io6x5)) (InvOb.intro (d := (some 43)) (r := fun u _ => u = .int .i64 (j : Nat)) 0 0 rfl rfl rfl (by kernel_rfl) (by kernel_rfl) rfl ?io6x6)) (InvOb.intro (d := (some 44)) (r := fun u _ => u = .int .i64 (j1 : Nat)) 0 0 rfl rfl rfl (by kernel_rfl) (by kernel_rfl) rfl ?io6x7)) (InvOb.intro (d := (some 45)) (r := fun u _ => u = .pointer (some ⟨bk, j1, none⟩)) 0 0 rfl rfl rfl (by kernel_rfl) (by kernel_rfl) rfl ?io6x8)) (InvOb.intro (d := (some 46)) (r := fun u _ => u = .int .i64 (ey : Nat)) 0 0 rfl rfl rfl (by kernel_rfl) (by kernel_rfl) rfl ?io6x9)) (InvOb.intro (d := (some 47)) (r := fun u _ => u = .slice (some ⟨bk, 0, none⟩) n cp) 0 0 rfl rfl rfl (by kernel_rfl) (by kernel_rfl) rfl ?io6x10)) (InvOb.intro (d := (some 48)) (r := fun u _ => u = .int .i64 (j : Nat)) 0 0 rfl rfl rfl (by kernel_rfl) (by kernel_rfl) rfl ?io6x11)) (InvOb.intro (d := (some 49)) (r := fun u _ => u = .pointer (some ⟨bk, j, none⟩)) 0 0 rfl rfl rfl (by kernel_rfl) (by kernel_rfl) rfl ?io6x12)) (InvOb.intro (d := (some 50)) (r := fun u _ => u = .int .i64 (k : Nat)) 0 0 rfl rfl rfl (by kernel_rfl) (by kernel_rfl) rfl ?io6x13)) (InvOb.intro (d := (some 51)) (r := fun u _ => u = .pointer (some ⟨bk, j, none⟩)) 0 0 rfl rfl rfl (by kernel_rfl) (by kernel_rfl) rfl ?io6x14)) (InvOb.put (d := none) (r := fun _ _ => True) 0 rfl rfl rfl (by kernel_rfl) (by kernel_rfl) rfl ?io6x15)) (InvOb.intro (d := (some 52)) (r := fun u _ => u = .pointer (some ⟨bk, j1, none⟩)) 1 1 rfl rfl rfl (by kernel_rfl) (by kernel_rfl) rfl ?io6x16)) (InvOb.put (d := none) (r := fun _ _ => True) 1 rfl rfl rfl (by kernel_rfl) (by kernel_rfl) rfl ?io6x17)), ?iend6⟩
              case io6x0 =>
                intro k1 w1 hk0 hk1 hb1 hS hd KK hK
                clear hd
                simp only [Act.put, List.setIfInBounds_toArray, List.set_cons_zero, List.set_cons_succ] at hK
                go_simp
                first | exact hK.out _ _ trivial hS rfl | (have hk := hK.out _ _ trivial hS rfl; revert hk; go_simp)
              case io6x1 =>
                intro k1 w1 hk0 hk1 hb1 hS hd KK hK
                clear hd
                simp only [Act.put, List.setIfInBounds_toArray, List.set_cons_zero, List.set_cons_succ] at hK
                go_simp
                first | exact hK.out _ _ trivial hS rfl | (have hk := hK.out _ _ trivial hS rfl; revert hk; go_simp)
              case io6x2 =>
                intro k1 w1 hk0 hk1 hb1 hS hd KK hK
                clear hd
                simp only [Act.put, List.setIfInBounds_toArray, List.set_cons_zero, List.set_cons_succ] at hK
                go_simp
                first | exact hK.out _ _ trivial hS rfl | (have hk := hK.out _ _ trivial hS rfl; revert hk; go_simp)
              case io6x3 =>
                intro k1 w1 hk0 hk1 hb1 hS hd KK hK
                clear hd
                simp only [Act.put, List.setIfInBounds_toArray, List.set_cons_zero, List.set_cons_succ] at hK
                go_simp
                first | exact hK.out _ _ trivial hS rfl | (have hk := hK.out _ _ trivial hS rfl; revert hk; go_simp)
              case io6x4 =>
                intro k1 w1 hk0 hk1 hb1 hS hd KK hK
                have d3 : x3 = .int .i64 (j : Nat) := hd 3 (by kernel_rfl)
                clear hd
                subst d3
                have dx := HJ1.out
                simp only [Act.put, List.setIfInBounds_toArray, List.set_cons_zero, List.set_cons_succ] at hK
                go_simp
                first | exact hK.out _ _ trivial hS rfl | (have hk := hK.out _ _ trivial hS rfl; revert hk; go_simp)
              case io6x5 =>
                intro k1 w1 hk0 hk1 hb1 hS hd KK hK
                clear hd
                simp only [Act.put, List.setIfInBounds_toArray, List.set_cons_zero, List.set_cons_succ] at hK
                go_simp
                first | exact hK.out _ _ trivial hS rfl | (have hk := hK.out _ _ trivial hS rfl; revert hk; go_simp)
              case io6x6 =>
                intro k1 w1 hk0 hk1 hb1 hS hd KK hK
                clear hd
                simp only [Act.put, List.setIfInBounds_toArray, List.set_cons_zero, List.set_cons_succ] at hK
                go_simp
                first | exact hK.out _ _ trivial hS rfl | (have hk := hK.out _ _ trivial hS rfl; revert hk; go_simp)
              case io6x7 =>
                intro k1 w1 hk0 hk1 hb1 hS hd KK hK
                have d6 : x6 = .int .i64 (j : Nat) := hd 6 (by kernel_rfl)
                clear hd
                subst d6
                have dx := HJ1.out
                simp only [Act.put, List.setIfInBounds_toArray, List.set_cons_zero, List.set_cons_succ] at hK
                go_simp
                first | exact hK.out _ _ trivial hS rfl | (have hk := hK.out _ _ trivial hS rfl; revert hk; go_simp)
              case io6x8 =>
                intro k1 w1 hk0 hk1 hb1 hS hd KK hK
                have d5 : x5 = .slice (some ⟨bk, 0, none⟩) n cp := hd 5 (by kernel_rfl)
                have d7 : x7 = .int .i64 (j1 : Nat) := hd 7 (by kernel_rfl)
                clear hd
                subst d5
                subst d7
                have g1 := HJ.out
                have g2 : (j1 : Int) < (n : Int) := by omega
                simp only [Act.put, List.setIfInBounds_toArray, List.set_cons_zero, List.set_cons_succ] at hK
                go_simp
                first | exact hK.out _ _ trivial hS rfl | (have hk := hK.out _ _ trivial hS rfl; revert hk; go_simp)
              case io6x9 =>
                intro k1 w1 hk0 hk1 hb1 hS hd KK hK
                have d8 : x8 = .pointer (some ⟨bk, j1, none⟩) := hd 8 (by kernel_rfl)
                clear hd
                subst d8
                have hF := hS.1 (by omega)
                have hv := hF.val j1 HJ.out
                rw [HX2.out] at hv
                simp only [Act.put, List.setIfInBounds_toArray, List.set_cons_zero, List.set_cons_succ] at hK
                go_simp
                first | exact hK.out _ _ trivial hS rfl | (have hk := hK.out _ _ trivial hS rfl; revert hk; go_simp)
              case io6x10 =>
                intro k1 w1 hk0 hk1 hb1 hS hd KK hK
                clear hd
                simp only [Act.put, List.setIfInBounds_toArray, List.set_cons_zero, List.set_cons_succ] at hK
                go_simp
                first | exact hK.out _ _ trivial hS rfl | (have hk := hK.out _ _ trivial hS rfl; revert hk; go_simp)
              case io6x11 =>
                intro k1 w1 hk0 hk1 hb1 hS hd KK hK
                clear hd
                simp only [Act.put, List.setIfInBounds_toArray, List.set_cons_zero, List.set_cons_succ] at hK
                go_simp
                first | exact hK.out _ _ trivial hS rfl | (have hk := hK.out _ _ trivial hS rfl; revert hk; go_simp)
              case io6x12 =>
                intro k1 w1 hk0 hk1 hb1 hS hd KK hK
                have d10 : x10 = .slice (some ⟨bk, 0, none⟩) n cp := hd 10 (by kernel_rfl)
                have d11 : x11 = .int .i64 (j : Nat) := hd 11 (by kernel_rfl)
                clear hd
                subst d10
                subst d11
                have g1 := HI.out
                have g2 : (j : Int) < (n : Int) := by omega
                simp only [Act.put, List.setIfInBounds_toArray, List.set_cons_zero, List.set_cons_succ] at hK
                go_simp
                first | exact hK.out _ _ trivial hS rfl | (have hk := hK.out _ _ trivial hS rfl; revert hk; go_simp)
              case io6x13 =>
                intro k1 w1 hk0 hk1 hb1 hS hd KK hK
                have d12 : x12 = .pointer (some ⟨bk, j, none⟩) := hd 12 (by kernel_rfl)
                clear hd
                subst d12
                have hF := hS.1 (by omega)
                have hv := hF.val j HI.out
                rw [HX1.out] at hv
                simp only [Act.put, List.setIfInBounds_toArray, List.set_cons_zero, List.set_cons_succ] at hK
                go_simp
                first | exact hK.out _ _ trivial hS rfl | (have hk := hK.out _ _ trivial hS rfl; revert hk; go_simp)
              case io6x14 =>
                intro k1 w1 hk0 hk1 hb1 hS hd KK hK
                have d0 : x0 = .slice (some ⟨bk, 0, none⟩) n cp := hd 0 (by kernel_rfl)
                have d1 : x1 = .int .i64 (j : Nat) := hd 1 (by kernel_rfl)
                have d5 : x5 = .slice (some ⟨bk, 0, none⟩) n cp := hd 5 (by kernel_rfl)
                have d6 : x6 = .int .i64 (j : Nat) := hd 6 (by kernel_rfl)
                have d7 : x7 = .int .i64 (j1 : Nat) := hd 7 (by kernel_rfl)
                have d8 : x8 = .pointer (some ⟨bk, j1, none⟩) := hd 8 (by kernel_rfl)
                have d9 : x9 = .int .i64 (ey : Nat) := hd 9 (by kernel_rfl)
                have d13 : x13 = .int .i64 (k : Nat) := hd 13 (by kernel_rfl)
                clear hd
                subst d0
                subst d1
                subst d5
                subst d6
                subst d7
                subst d8
                subst d9
                subst d13
                have g1 := HI.out
                have g2 : (j : Int) < (n : Int) := by omega
                simp only [Act.put, List.setIfInBounds_toArray, List.set_cons_zero, List.set_cons_succ] at hK
                go_simp
                first | exact hK.out _ _ trivial hS rfl | (have hk := hK.out _ _ trivial hS rfl; revert hk; go_simp)
              case io6x15 =>
                intro w1 hb1 hS hd KK hK
                have d0 : x0 = .slice (some ⟨bk, 0, none⟩) n cp := hd 0 (by kernel_rfl)
                have d1 : x1 = .int .i64 (j : Nat) := hd 1 (by kernel_rfl)
                have d5 : x5 = .slice (some ⟨bk, 0, none⟩) n cp := hd 5 (by kernel_rfl)
                have d6 : x6 = .int .i64 (j : Nat) := hd 6 (by kernel_rfl)
                have d7 : x7 = .int .i64 (j1 : Nat) := hd 7 (by kernel_rfl)
                have d8 : x8 = .pointer (some ⟨bk, j1, none⟩) := hd 8 (by kernel_rfl)
                have d9 : x9 = .int .i64 (ey : Nat) := hd 9 (by kernel_rfl)
                have d13 : x13 = .int .i64 (k : Nat) := hd 13 (by kernel_rfl)
                have d14 : x14 = .pointer (some ⟨bk, j, none⟩) := hd 14 (by kernel_rfl)
                clear hd
                subst d0
                subst d1
                subst d5
                subst d6
                subst d7
                subst d8
                subst d9
                subst d13
                subst d14
                have hF := hS.1 rfl
                have hv := hF.val j HI.out
                have hf := hF.free j HI.out
                simp only [Act.put, List.setIfInBounds_toArray, List.set_cons_zero, List.set_cons_succ] at hK
                go_simp
                first | exact hK.out undef _ trivial ⟨fun h => absurd h (by decide), fun _ => (hS.1 rfl).put j ey, fun h => absurd h (by decide), hS.2.2.2.grown (Go.Lib.grownBy_setCell w1 bk j _)⟩ trivial | (have hk := hK.out undef _ trivial ⟨fun h => absurd h (by decide), fun _ => (hS.1 rfl).put j ey, fun h => absurd h (by decide), hS.2.2.2.grown (Go.Lib.grownBy_setCell w1 bk j _)⟩ trivial; revert hk; go_simp)
              case io6x16 =>
                intro k1 w1 hk0 hk1 hb1 hS hd KK hK
                have d0 : x0 = .slice (some ⟨bk, 0, none⟩) n cp := hd 0 (by kernel_rfl)
                have d1 : x1 = .int .i64 (j : Nat) := hd 1 (by kernel_rfl)
                have d2 : x2 = .slice (some ⟨bk, 0, none⟩) n cp := hd 2 (by kernel_rfl)
                have d3 : x3 = .int .i64 (j : Nat) := hd 3 (by kernel_rfl)
                have d4 : x4 = .int .i64 (j1 : Nat) := hd 4 (by kernel_rfl)
                have d5 : x5 = .slice (some ⟨bk, 0, none⟩) n cp := hd 5 (by kernel_rfl)
                have d6 : x6 = .int .i64 (j : Nat) := hd 6 (by kernel_rfl)
                have d7 : x7 = .int .i64 (j1 : Nat) := hd 7 (by kernel_rfl)
                have d8 : x8 = .pointer (some ⟨bk, j1, none⟩) := hd 8 (by kernel_rfl)
                have d9 : x9 = .int .i64 (ey : Nat) := hd 9 (by kernel_rfl)
                have d10 : x10 = .slice (some ⟨bk, 0, none⟩) n cp := hd 10 (by kernel_rfl)
                have d11 : x11 = .int .i64 (j : Nat) := hd 11 (by kernel_rfl)
                have d12 : x12 = .pointer (some ⟨bk, j, none⟩) := hd 12 (by kernel_rfl)
                have d13 : x13 = .int .i64 (k : Nat) := hd 13 (by kernel_rfl)
                have d14 : x14 = .pointer (some ⟨bk, j, none⟩) := hd 14 (by kernel_rfl)
                clear hd
                subst d0
                subst d1
                subst d2
                subst d3
                subst d4
                subst d5
                subst d6
                subst d7
                subst d8
                subst d9
                subst d10
                subst d11
                subst d12
                subst d13
                subst d14
                have g1 := HJ.out
                have g2 : (j1 : Int) < (n : Int) := by omega
                simp only [Act.put, List.setIfInBounds_toArray, List.set_cons_zero, List.set_cons_succ] at hK
                go_simp
                first | exact hK.out _ _ trivial hS rfl | (have hk := hK.out _ _ trivial hS rfl; revert hk; go_simp)
              case io6x17 =>
                intro w1 hb1 hS hd KK hK
                have d0 : x0 = .slice (some ⟨bk, 0, none⟩) n cp := hd 0 (by kernel_rfl)
                have d1 : x1 = .int .i64 (j : Nat) := hd 1 (by kernel_rfl)
                have d2 : x2 = .slice (some ⟨bk, 0, none⟩) n cp := hd 2 (by kernel_rfl)
                have d3 : x3 = .int .i64 (j : Nat) := hd 3 (by kernel_rfl)
                have d4 : x4 = .int .i64 (j1 : Nat) := hd 4 (by kernel_rfl)
                have d5 : x5 = .slice (some ⟨bk, 0, none⟩) n cp := hd 5 (by kernel_rfl)
                have d6 : x6 = .int .i64 (j : Nat) := hd 6 (by kernel_rfl)
                have d7 : x7 = .int .i64 (j1 : Nat) := hd 7 (by kernel_rfl)
                have d8 : x8 = .pointer (some ⟨bk, j1, none⟩) := hd 8 (by kernel_rfl)
                have d9 : x9 = .int .i64 (ey : Nat) := hd 9 (by kernel_rfl)
                have d10 : x10 = .slice (some ⟨bk, 0, none⟩) n cp := hd 10 (by kernel_rfl)
                have d11 : x11 = .int .i64 (j : Nat) := hd 11 (by kernel_rfl)
                have d12 : x12 = .pointer (some ⟨bk, j, none⟩) := hd 12 (by kernel_rfl)
                have d13 : x13 = .int .i64 (k : Nat) := hd 13 (by kernel_rfl)
                have d14 : x14 = .pointer (some ⟨bk, j, none⟩) := hd 14 (by kernel_rfl)
                have d16 : x16 = .pointer (some ⟨bk, j1, none⟩) := hd 16 (by kernel_rfl)
                clear hd
                subst d0
                subst d1
                subst d2
                subst d3
                subst d4
                subst d5
                subst d6
                subst d7
                subst d8
                subst d9
                subst d10
                subst d11
                subst d12
                subst d13
                subst d14
                subst d16
                have hF := hS.2.1 rfl
                have hv := hF.val j1 HJ.out
                have hf := hF.free j1 HJ.out
                simp only [Act.put, List.setIfInBounds_toArray, List.set_cons_zero, List.set_cons_succ] at hK
                go_simp
                first | exact hK.out undef _ trivial ⟨fun h => absurd h (by decide), fun h => absurd h (by decide), fun _ => (hS.2.1 rfl).put j1 k, hS.2.2.2.grown (Go.Lib.grownBy_setCell w1 bk j1 _)⟩ trivial | (have hk := hK.out undef _ trivial ⟨fun h => absurd h (by decide), fun h => absurd h (by decide), fun _ => (hS.2.1 rfl).put j1 k, hS.2.2.2.grown (Go.Lib.grownBy_setCell w1 bk j1 _)⟩ trivial; revert hk; go_simp)
              case iend6 =>
                intro w1 hb1 hS hR
                have d0 : x0 = .slice (some ⟨bk, 0, none⟩) n cp := hR 0 (by decide)
                have d1 : x1 = .int .i64 (j : Nat) := hR 1 (by decide)
                have d2 : x2 = .slice (some ⟨bk, 0, none⟩) n cp := hR 2 (by decide)
                have d3 : x3 = .int .i64 (j : Nat) := hR 3 (by decide)
                have d4 : x4 = .int .i64 (j1 : Nat) := hR 4 (by decide)
                have d5 : x5 = .slice (some ⟨bk, 0, none⟩) n cp := hR 5 (by decide)
                have d6 : x6 = .int .i64 (j : Nat) := hR 6 (by decide)
                have d7 : x7 = .int .i64 (j1 : Nat) := hR 7 (by decide)
                have d8 : x8 = .pointer (some ⟨bk, j1, none⟩) := hR 8 (by decide)
                have d9 : x9 = .int .i64 (ey : Nat) := hR 9 (by decide)
                have d10 : x10 = .slice (some ⟨bk, 0, none⟩) n cp := hR 10 (by decide)
                have d11 : x11 = .int .i64 (j : Nat) := hR 11 (by decide)
                have d12 : x12 = .pointer (some ⟨bk, j, none⟩) := hR 12 (by decide)
                have d13 : x13 = .int .i64 (k : Nat) := hR 13 (by decide)
                have d14 : x14 = .pointer (some ⟨bk, j, none⟩) := hR 14 (by decide)
                have d16 : x16 = .pointer (some ⟨bk, j1, none⟩) := hR 16 (by decide)
                clear hR
                subst d0
                subst d1
                subst d2
                subst d3
                subst d4
                subst d5
                subst d6
                subst d7
                subst d8
                subst d9
                subst d10
                subst d11
                subst d12
                subst d13
                subst d14
                subst d16
                try simp only [putAll, Act.put, List.setIfInBounds_toArray, List.set_cons_zero, List.set_cons_succ]
                have F4 := hS.2.2.1 rfl
                have K4 := Lib.hid hS.2.2.2
                clear hS hb1 F3 K3
                obtain ⟨wk, rfl⟩ : ∃ x : World, x = w1 := ⟨_, rfl⟩
                have hst := insJ_step g hjk (show 0 < j by omega)
                have hj1e : j - 1 = j1 := by have := HJS.out; omega
                rw [hj1e, HG.out, HX1.out, HX2.out] at hst
                rw [hst] at F4
                have F5 := Lib.hid F4
                have HA2 : Hid (InsAt key g a k j1) := Lib.hid (by rw [← hj1e]; refine HA.out.next hlt ?_; rw [hj1e, HXG.out, HGK.out]; unfold ltk; have := HKD.out; omega)
                clear hst F4 hj1e
                go_wp2
                go_roundw
                case rel => exact ⟨j1, congrArg (Value.int .i64) (by have := HJS.out; omega), HA2, F5, K4⟩
                case measure => (have := HJS.out; simp only [intOf]; omega)
          · skip
            go_upto_region 4 with fail
            refine wp_region_inv (w := wi) 17 (fun _ _ => True) (fun _ W => SF w W bk n G ∧ KA W bk q n al lc key) [] [(fun u _ => u = .int .i64 (j : Nat)), (fun u _ => u = .int .i64 (a : Nat)), (fun u _ => u = .bool true), (fun u _ => u = .bool true), (fun u _ => u = .func (.func 19) #[] #[.pointer (some ⟨q, 0, none⟩)]), (fun u _ => u = .slice (some ⟨bk, 0, none⟩) n cp), (fun u _ => u = .int .i64 (j : Nat)), (fun u _ => u = .pointer (some ⟨bk, j, none⟩)), (fun u _ => u = .int .i64 (k : Nat)), (fun u _ => u = .slice (some ⟨bk, 0, none⟩) n cp), (fun u _ => u = .int .i64 (j : Nat)), (fun u _ => u = .int .i64 (j1 : Nat)), (fun u _ => u = .pointer (some ⟨bk, j1, none⟩)), (fun u _ => u = .int .i64 (ey : Nat)), (fun u _ => u = .int .i64 kd), (fun u _ => u = .bool false), (fun u _ => u = .bool false)] [some 18, some 19, some 20, some 21, some 22, some 23, some 24, some 25, some 26, some 27, some 28, some 29, some 30, some 31, some 32, some 33, some 34] (by kernel_rfl) (by kernel_rfl) rfl (by kernel_rfl) (by kernel_rfl) (by decide) (by decide) (fun _ _ => trivial) trivial ⟨F2.out.drew, K2.out.next (Below.drew (Below.refl _ _))⟩ (BorneAll.at (.cons (borne_eq _) (.cons (borne_eq _) (.cons (borne_eq _) (.cons (borne_eq _) (.cons (borne_eq _) (.cons (borne_eq _) (.cons (borne_eq _) (.cons (borne_eq _) (.cons (borne_eq _) (.cons (borne_eq _) (.cons (borne_eq _) (.cons (borne_eq _) (.cons (borne_eq _) (.cons (borne_eq _) (.cons (borne_eq _) (.cons (borne_eq _) (.cons (borne_eq _) .nil)))))))))))))))))) (fun vs b hvl hvb => ?_)
            obtain ⟨x0, x1, x2, x3, x4, x5, x6, x7, x8, x9, x10, x11, x12, x13, x14, x15, x16, rfl⟩ : ∃ x0 x1 x2 x3 x4 x5 x6 x7 x8 x9 x10 x11 x12 x13 x14 x15 x16, vs = [x0, x1, x2, x3, x4, x5, x6, x7, x8, x9, x10, x11, x12, x13, x14, x15, x16] := lq17 hvl
            clear hvl
            simp only [putAll, Act.put, List.setIfInBounds_toArray, List.set_cons_zero, List.set_cons_succ] at hvb
            subst hvb
            refine ⟨(.snoc (.snoc (.snoc (.snoc (.snoc (.snoc (.snoc (.snoc (.snoc (.snoc (.snoc (.snoc (.snoc (.snoc (.snoc (.snoc (.snoc .zero (InvOb.intro (d := (some 18)) (r := fun u _ => u = .int .i64 (j : Nat)) 0 0 rfl rfl rfl (by kernel_rfl) (by kernel_rfl) rfl ?io4fx0)) (InvOb.intro (d := (some 19)) (r := fun u _ => u = .int .i64 (a : Nat)) 0 0 rfl rfl rfl (by kernel_rfl) (by kernel_rfl) rfl ?io4fx1)) (InvOb.intro (d := (some 20)) (r := fun u _ => u = .bool true) 0 0 rfl rfl rfl (by kernel_rfl) (by kernel_rfl) rfl ?io4fx2)) (InvOb.intro (d := (some 21)) (r := fun u _ => u = .bool true) 0 0 rfl rfl rfl (by kernel_rfl) (by kernel_rfl) rfl ?io4fx3)) (InvOb.intro (d := (some 22)) (r := fun u _ => u = .func (.func 19) #[] #[.pointer (some ⟨q, 0, none⟩)]) 0 0 rfl rfl rfl (by kernel_rfl) (by kernel_rfl) rfl ?io4fx4)) (InvOb.intro (d := (some 23)) (r := fun u _ => u = .slice (some ⟨bk, 0, none⟩) n cp) 0 0 rfl rfl rfl (by kernel_rfl) (by kernel_rfl) rfl ?io4fx5)) (InvOb.intro (d := (some 24)) (r := fun u _ => u = .int .i64 (j : Nat)) 0 0 rfl rfl rfl (by kernel_rfl) (by kernel_rfl) rfl ?io4fx6)) (InvOb.intro (d := (some 25)) (r := fun u _ => u = .pointer (some ⟨bk, j, none⟩)) 0 0 rfl rfl rfl (by kernel_rfl) (by kernel_rfl) rfl ?io4fx7)) (InvOb.intro (d := (some 26)) (r := fun u _ => u = .int .i64 (k : Nat)) 0 0 rfl rfl rfl (by kernel_rfl) (by kernel_rfl) rfl ?io4fx8)) (InvOb.intro (d := (some 27)) (r := fun u _ => u = .slice (some ⟨bk, 0, none⟩) n cp) 0 0 rfl rfl rfl (by kernel_rfl) (by kernel_rfl) rfl ?io4fx9)) (InvOb.intro (d := (some 28)) (r := fun u _ => u = .int .i64 (j : Nat)) 0 0 rfl rfl rfl (by kernel_rfl) (by kernel_rfl) rfl ?io4fx10)) (InvOb.intro (d := (some 29)) (r := fun u _ => u = .int .i64 (j1 : Nat)) 0 0 rfl rfl rfl (by kernel_rfl) (by kernel_rfl) rfl ?io4fx11)) (InvOb.intro (d := (some 30)) (r := fun u _ => u = .pointer (some ⟨bk, j1, none⟩)) 0 0 rfl rfl rfl (by kernel_rfl) (by kernel_rfl) rfl ?io4fx12)) (InvOb.intro (d := (some 31)) (r := fun u _ => u = .int .i64 (ey : Nat)) 0 0 rfl rfl rfl (by kernel_rfl) (by kernel_rfl) rfl ?io4fx13)) (InvOb.intro (d := (some 32)) (r := fun u _ => u = .int .i64 kd) 0 0 rfl rfl rfl (by kernel_rfl) (by kernel_rfl) rfl ?io4fx14)) (InvOb.intro (d := (some 33)) (r := fun u _ => u = .bool false) 0 0 rfl rfl rfl (by kernel_rfl) (by kernel_rfl) rfl ?io4fx15)) (InvOb.intro (d := (some 34)) (r := fun u _ => u = .bool false) 0 0 rfl rfl rfl (by kernel_rfl) (by kernel_rfl) rfl ?io4fx16)), ?iend4f⟩
            case io4fx0 =>
              intro k1 w1 hk0 hk1 hb1 hS hd KK hK
              clear hd
              simp only [Act.put, List.setIfInBounds_toArray, List.set_cons_zero, List.set_cons_succ] at hK
              go_simp
              first | exact hK.out _ _ trivial hS rfl | (have hk := hK.out _ _ trivial hS rfl; revert hk; go_simp)
            case io4fx1 =>
              intro k1 w1 hk0 hk1 hb1 hS hd KK hK
              clear hd
              simp only [Act.put, List.setIfInBounds_toArray, List.set_cons_zero, List.set_cons_succ] at hK
              go_simp
              first | exact hK.out _ _ trivial hS rfl | (have hk := hK.out _ _ trivial hS rfl; revert hk; go_simp)
            case io4fx2 =>
              intro k1 w1 hk0 hk1 hb1 hS hd KK hK
              have d0 : x0 = .int .i64 (j : Nat) := hd 0 (by kernel_rfl)
              have d1 : x1 = .int .i64 (a : Nat) := hd 1 (by kernel_rfl)
              clear hd
              subst d0
              subst d1
              have g1 := hajI
              simp only [Act.put, List.setIfInBounds_toArray, List.set_cons_zero, List.set_cons_succ] at hK
              go_simp
              first | exact hK.out _ _ trivial hS rfl | (have hk := hK.out _ _ trivial hS rfl; revert hk; go_simp)
            case io4fx3 =>
              intro k1 w1 hk0 hk1 hb1 hS hd KK hK
              have d2 : x2 = .bool true := hd 2 (by kernel_rfl)
              clear hd
              subst d2
              simp only [Act.put, List.setIfInBounds_toArray, List.set_cons_zero, List.set_cons_succ] at hK
              go_simp
              first | exact hK.out _ _ trivial hS rfl | (have hk := hK.out _ _ trivial hS rfl; revert hk; go_simp)
            case io4fx4 =>
              intro k1 w1 hk0 hk1 hb1 hS hd KK hK
              have d3 : x3 = .bool true := hd 3 (by kernel_rfl)
              clear hd
              subst d3
              simp only [Act.put, List.setIfInBounds_toArray, List.set_cons_zero, List.set_cons_succ] at hK
              go_simp
              first | exact hK.out _ _ trivial hS rfl | (have hk := hK.out _ _ trivial hS rfl; revert hk; go_simp)
            case io4fx5 =>
              intro k1 w1 hk0 hk1 hb1 hS hd KK hK
              have d3 : x3 = .bool true := hd 3 (by kernel_rfl)
              clear hd
              subst d3
              simp only [Act.put, List.setIfInBounds_toArray, List.set_cons_zero, List.set_cons_succ] at hK
              go_simp
              first | exact hK.out _ _ trivial hS rfl | (have hk := hK.out _ _ trivial hS rfl; revert hk; go_simp)
            case io4fx6 =>
              intro k1 w1 hk0 hk1 hb1 hS hd KK hK
              have d3 : x3 = .bool true := hd 3 (by kernel_rfl)
              clear hd
              subst d3
              simp only [Act.put, List.setIfInBounds_toArray, List.set_cons_zero, List.set_cons_succ] at hK
              go_simp
              first | exact hK.out _ _ trivial hS rfl | (have hk := hK.out _ _ trivial hS rfl; revert hk; go_simp)
            case io4fx7 =>
              intro k1 w1 hk0 hk1 hb1 hS hd KK hK
              have d3 : x3 = .bool true := hd 3 (by kernel_rfl)
              have d5 : x5 = .slice (some ⟨bk, 0, none⟩) n cp := hd 5 (by kernel_rfl)
              have d6 : x6 = .int .i64 (j : Nat) := hd 6 (by kernel_rfl)
              clear hd
              subst d3
              subst d5
              subst d6
              have g1 := HI.out
              have g2 : (j : Int) < (n : Int) := by omega
              simp only [Act.put, List.setIfInBounds_toArray, List.set_cons_zero, List.set_cons_succ] at hK
              go_simp
              first | exact hK.out _ _ trivial hS rfl | (have hk := hK.out _ _ trivial hS rfl; revert hk; go_simp)
            case io4fx8 =>
              intro k1 w1 hk0 hk1 hb1 hS hd KK hK
              have d3 : x3 = .bool true := hd 3 (by kernel_rfl)
              have d7 : x7 = .pointer (some ⟨bk, j, none⟩) := hd 7 (by kernel_rfl)
              clear hd
              subst d3
              subst d7
              have hv := hS.1.val j HI.out
              rw [HX1.out] at hv
              simp only [Act.put, List.setIfInBounds_toArray, List.set_cons_zero, List.set_cons_succ] at hK
              go_simp
              first | exact hK.out _ _ trivial hS rfl | (have hk := hK.out _ _ trivial hS rfl; revert hk; go_simp)
            case io4fx9 =>
              intro k1 w1 hk0 hk1 hb1 hS hd KK hK
              have d3 : x3 = .bool true := hd 3 (by kernel_rfl)
              clear hd
              subst d3
              simp only [Act.put, List.setIfInBounds_toArray, List.set_cons_zero, List.set_cons_succ] at hK
              go_simp
              first | exact hK.out _ _ trivial hS rfl | (have hk := hK.out _ _ trivial hS rfl; revert hk; go_simp)
            case io4fx10 =>
              intro k1 w1 hk0 hk1 hb1 hS hd KK hK
              have d3 : x3 = .bool true := hd 3 (by kernel_rfl)
              clear hd
              subst d3
              simp only [Act.put, List.setIfInBounds_toArray, List.set_cons_zero, List.set_cons_succ] at hK
              go_simp
              first | exact hK.out _ _ trivial hS rfl | (have hk := hK.out _ _ trivial hS rfl; revert hk; go_simp)
            case io4fx11 =>
              intro k1 w1 hk0 hk1 hb1 hS hd KK hK
              have d3 : x3 = .bool true := hd 3 (by kernel_rfl)
              have d10 : x10 = .int .i64 (j : Nat) := hd 10 (by kernel_rfl)
              clear hd
              subst d3
              subst d10
              have dx := HJ1.out
              simp only [Act.put, List.setIfInBounds_toArray, List.set_cons_zero, List.set_cons_succ] at hK
              go_simp
              first | exact hK.out _ _ trivial hS rfl | (have hk := hK.out _ _ trivial hS rfl; revert hk; go_simp)
            case io4fx12 =>
              intro k1 w1 hk0 hk1 hb1 hS hd KK hK
              have d3 : x3 = .bool true := hd 3 (by kernel_rfl)
              have d9 : x9 = .slice (some ⟨bk, 0, none⟩) n cp := hd 9 (by kernel_rfl)
              have d11 : x11 = .int .i64 (j1 : Nat) := hd 11 (by kernel_rfl)
              clear hd
              subst d3
              subst d9
              subst d11
              have g1 := HJ.out
              have g2 : (j1 : Int) < (n : Int) := by omega
              simp only [Act.put, List.setIfInBounds_toArray, List.set_cons_zero, List.set_cons_succ] at hK
              go_simp
              first | exact hK.out _ _ trivial hS rfl | (have hk := hK.out _ _ trivial hS rfl; revert hk; go_simp)
            case io4fx13 =>
              intro k1 w1 hk0 hk1 hb1 hS hd KK hK
              have d3 : x3 = .bool true := hd 3 (by kernel_rfl)
              have d12 : x12 = .pointer (some ⟨bk, j1, none⟩) := hd 12 (by kernel_rfl)
              clear hd
              subst d3
              subst d12
              have hv := hS.1.val j1 HJ.out
              rw [HX2.out] at hv
              simp only [Act.put, List.setIfInBounds_toArray, List.set_cons_zero, List.set_cons_succ] at hK
              go_simp
              first | exact hK.out _ _ trivial hS rfl | (have hk := hK.out _ _ trivial hS rfl; revert hk; go_simp)
            case io4fx14 =>
              intro k1 w1 hk0 hk1 hb1 hS hd KK hK
              have d3 : x3 = .bool true := hd 3 (by kernel_rfl)
              have d4 : x4 = .func (.func 19) #[] #[.pointer (some ⟨q, 0, none⟩)] := hd 4 (by kernel_rfl)
              have d8 : x8 = .int .i64 (k : Nat) := hd 8 (by kernel_rfl)
              have d13 : x13 = .int .i64 (ey : Nat) := hd 13 (by kernel_rfl)
              clear hd
              subst d3
              subst d4
              subst d8
              subst d13
              simp only [Act.put, List.setIfInBounds_toArray, List.set_cons_zero, List.set_cons_succ] at hK
              go_simp
              go_at_call 19
              refine (HC.out w1 hS.2).mono ?_
              rintro e w2 ⟨rfl, hb⟩
              (try go_wp2_with fail)
              first | exact hK.out _ _ trivial ⟨hS.1.next hb, hS.2.next hb⟩ rfl | (have hk := hK.out _ _ trivial ⟨hS.1.next hb, hS.2.next hb⟩ rfl; revert hk; go_simp)
            case io4fx15 =>
              intro k1 w1 hk0 hk1 hb1 hS hd KK hK
              have d3 : x3 = .bool true := hd 3 (by kernel_rfl)
              have d14 : x14 = .int .i64 kd := hd 14 (by kernel_rfl)
              clear hd
              subst d3
              subst d14
              have g1 := hkl
              simp only [Act.put, List.setIfInBounds_toArray, List.set_cons_zero, List.set_cons_succ] at hK
              go_simp
              first | exact hK.out _ _ trivial hS rfl | (have hk := hK.out _ _ trivial hS rfl; revert hk; go_simp)
            case io4fx16 =>
              intro k1 w1 hk0 hk1 hb1 hS hd KK hK
              have d3 : x3 = .bool true := hd 3 (by kernel_rfl)
              have d15 : x15 = .bool false := hd 15 (by kernel_rfl)
              clear hd
              subst d3
              subst d15
              simp only [Act.put, List.setIfInBounds_toArray, List.set_cons_zero, List.set_cons_succ] at hK
              go_simp
              first | exact hK.out _ _ trivial hS rfl | (have hk := hK.out _ _ trivial hS rfl; revert hk; go_simp)
            case iend4f =>
              intro w1 hb1 hS hR
              have d0 : x0 = .int .i64 (j : Nat) := hR 0 (by decide)
              have d1 : x1 = .int .i64 (a : Nat) := hR 1 (by decide)
              have d2 : x2 = .bool true := hR 2 (by decide)
              have d3 : x3 = .bool true := hR 3 (by decide)
              have d4 : x4 = .func (.func 19) #[] #[.pointer (some ⟨q, 0, none⟩)] := hR 4 (by decide)
              have d5 : x5 = .slice (some ⟨bk, 0, none⟩) n cp := hR 5 (by decide)
              have d6 : x6 = .int .i64 (j : Nat) := hR 6 (by decide)
              have d7 : x7 = .pointer (some ⟨bk, j, none⟩) := hR 7 (by decide)
              have d8 : x8 = .int .i64 (k : Nat) := hR 8 (by decide)
              have d9 : x9 = .slice (some ⟨bk, 0, none⟩) n cp := hR 9 (by decide)
              have d10 : x10 = .int .i64 (j : Nat) := hR 10 (by decide)
              have d11 : x11 = .int .i64 (j1 : Nat) := hR 11 (by decide)
              have d12 : x12 = .pointer (some ⟨bk, j1, none⟩) := hR 12 (by decide)
              have d13 : x13 = .int .i64 (ey : Nat) := hR 13 (by decide)
              have d14 : x14 = .int .i64 kd := hR 14 (by decide)
              have d15 : x15 = .bool false := hR 15 (by decide)
              have d16 : x16 = .bool false := hR 16 (by decide)
              clear hR
              subst d0
              subst d1
              subst d2
              subst d3
              subst d4
              subst d5
              subst d6
              subst d7
              subst d8
              subst d9
              subst d10
              subst d11
              subst d12
              subst d13
              subst d14
              subst d15
              subst d16
              try simp only [putAll, Act.put, List.setIfInBounds_toArray, List.set_cons_zero, List.set_cons_succ]
              have F3 := Lib.hid hS.1
              have K3 := Lib.hid hS.2
              clear hS hb1 F2 K2
              obtain ⟨wj, rfl⟩ : ∃ x : World, x = w1 := ⟨_, rfl⟩
              have hdn := HA.out.done (fun _ => by rw [show j - 1 = j1 by have := HJS.out; omega, HXG.out, HGK.out]; have h9 := HLOW.out j1 (by have := HJS.out; omega) (by have := HJS.out; omega); rw [HXG.out] at h9; unfold ltk; have := HKD.out; omega)
              rw [HG.out] at hdn
              have HD1 := Lib.hid hdn.1
              have HD2 := Lib.hid hdn.2
              have HGS : Hid (k + 1 = a + 1 → G = f) := Lib.hid (fun h9 => by omega)
              clear hdn
              go_wp2
              go_roundw
              case rel => exact ⟨k + 1, G, by first | rfl | go_num, by omega, by omega, .inl (by omega), HD1, Lib.hid ((HW.out.wide (Nat.le_refl _) (Nat.le_succ _)).trans HD2.out), HGS, F3, K3⟩
              case measure => (simp only [intOf]; omega)
        · obtain rfl : j = a := by omega
          have hdn := HA.out.done (fun h9 => absurd h9 (by omega))
          have HD1 := Lib.hid hdn.1
          have HD2 := Lib.hid hdn.2
          skip
          have hdn := HA.out.done (fun h9 => absurd h9 (by omega))
          have HD1 := Lib.hid hdn.1
          have HD2 := Lib.hid hdn.2
          clear hdn
          go_upto_region 4 with fail
          obtain ⟨G, hG⟩ : ∃ z, insJ g k j = z := ⟨_, rfl⟩
          rw [hG] at F2 HD1 HD2
          refine wp_region_inv (w := wi) 17 (fun _ _ => True) (fun _ W => SF w W bk n G ∧ KA W bk q n al lc key) [] [(fun u _ => u = .int .i64 (j : Nat)), (fun u _ => u = .int .i64 (j : Nat)), (fun u _ => u = .bool false), (fun u _ => u = .bool false), (fun u _ => u = undef), (fun u _ => u = undef), (fun u _ => u = undef), (fun u _ => u = undef), (fun u _ => u = undef), (fun u _ => u = undef), (fun u _ => u = undef), (fun u _ => u = undef), (fun u _ => u = undef), (fun u _ => u = undef), (fun u _ => u = undef), (fun u _ => u = undef), (fun u _ => u = .bool false)] [some 18, some 19, some 20, some 21, some 22, some 23, some 24, some 25, some 26, some 27, some 28, some 29, some 30, some 31, some 32, some 33, some 34] (by kernel_rfl) (by kernel_rfl) rfl (by kernel_rfl) (by kernel_rfl) (by decide) (by decide) (fun _ _ => trivial) trivial ⟨F2.out.drew, K2.out.next (Below.drew (Below.refl _ _))⟩ (BorneAll.at (.cons (borne_eq _) (.cons (borne_eq _) (.cons (borne_eq _) (.cons (borne_eq _) (.cons (borne_eq _) (.cons (borne_eq _) (.cons (borne_eq _) (.cons (borne_eq _) (.cons (borne_eq _) (.cons (borne_eq _) (.cons (borne_eq _) (.cons (borne_eq _) (.cons (borne_eq _) (.cons (borne_eq _) (.cons (borne_eq _) (.cons (borne_eq _) (.cons (borne_eq _) .nil)))))))))))))))))) (fun vs b hvl hvb => ?_)
          obtain ⟨x0, x1, x2, x3, x4, x5, x6, x7, x8, x9, x10, x11, x12, x13, x14, x15, x16, rfl⟩ : ∃ x0 x1 x2 x3 x4 x5 x6 x7 x8 x9 x10 x11 x12 x13 x14 x15 x16, vs = [x0, x1, x2, x3, x4, x5, x6, x7, x8, x9, x10, x11, x12, x13, x14, x15, x16] := lq17 hvl
          clear hvl
          simp only [putAll, Act.put, List.setIfInBounds_toArray, List.set_cons_zero, List.set_cons_succ] at hvb
          subst hvb
          refine ⟨(.snoc (.snoc (.snoc (.snoc (.snoc (.snoc (.snoc (.snoc (.snoc (.snoc (.snoc (.snoc (.snoc (.snoc (.snoc (.snoc (.snoc .zero (InvOb.intro (d := (some 18)) (r := fun u _ => u = .int .i64 (j : Nat)) 0 0 rfl rfl rfl (by kernel_rfl) (by kernel_rfl) rfl ?io4ex0)) (InvOb.intro (d := (some 19)) (r := fun u _ => u = .int .i64 (j : Nat)) 0 0 rfl rfl rfl (by kernel_rfl) (by kernel_rfl) rfl ?io4ex1)) (InvOb.intro (d := (some 20)) (r := fun u _ => u = .bool false) 0 0 rfl rfl rfl (by kernel_rfl) (by kernel_rfl) rfl ?io4ex2)) (InvOb.intro (d := (some 21)) (r := fun u _ => u = .bool false) 0 0 rfl rfl rfl (by kernel_rfl) (by kernel_rfl) rfl ?io4ex3)) (InvOb.intro (d := (some 22)) (r := fun u _ => u = undef) 0 0 rfl rfl rfl (by kernel_rfl) (by kernel_rfl) rfl ?io4ex4)) (InvOb.intro (d := (some 23)) (r := fun u _ => u = undef) 0 0 rfl rfl rfl (by kernel_rfl) (by kernel_rfl) rfl ?io4ex5)) (InvOb.intro (d := (some 24)) (r := fun u _ => u = undef) 0 0 rfl rfl rfl (by kernel_rfl) (by kernel_rfl) rfl ?io4ex6)) (InvOb.intro (d := (some 25)) (r := fun u _ => u = undef) 0 0 rfl rfl rfl (by kernel_rfl) (by kernel_rfl) rfl ?io4ex7)) (InvOb.intro (d := (some 26)) (r := fun u _ => u = undef) 0 0 rfl rfl rfl (by kernel_rfl) (by kernel_rfl) rfl ?io4ex8)) (InvOb.intro (d := (some 27)) (r := fun u _ => u = undef) 0 0 rfl rfl rfl (by kernel_rfl) (by kernel_rfl) rfl ?io4ex9)) (InvOb.intro (d := (some 28)) (r := fun u _ => u = undef) 0 0 rfl rfl rfl (by kernel_rfl) (by kernel_rfl) rfl ?io4ex10)) (InvOb.intro (d := (some 29)) (r := fun u _ => u = undef) 0 0 rfl rfl rfl (by kernel_rfl) (by kernel_rfl) rfl ?io4ex11)) (InvOb.intro (d := (some 30)) (r := fun u _ => u = undef) 0 0 rfl rfl rfl (by kernel_rfl) (by kernel_rfl) rfl ?io4ex12)) (InvOb.intro (d := (some 31)) (r := fun u _ => u = undef) 0 0 rfl rfl rfl (by kernel_rfl) (by kernel_rfl) rfl ?io4ex13)) (InvOb.intro (d := (some 32)) (r := fun u _ => u = undef) 0 0 rfl rfl rfl (by kernel_rfl) (by kernel_rfl) rfl ?io4ex14)) (InvOb.intro (d := (some 33)) (r := fun u _ => u = undef) 0 0 rfl rfl rfl (by kernel_rfl) (by kernel_rfl) rfl ?io4ex15)) (InvOb.intro (d := (some 34)) (r := fun u _ => u = .bool false) 0 0 rfl rfl rfl (by kernel_rfl) (by kernel_rfl) rfl ?io4ex16)), ?iend4e⟩
          case io4ex0 =>
            intro k1 w1 hk0 hk1 hb1 hS hd KK hK
            clear hd
            simp only [Act.put, List.setIfInBounds_toArray, List.set_cons_zero, List.set_cons_succ] at hK
            go_simp
            first | exact hK.out _ _ trivial hS rfl | (have hk := hK.out _ _ trivial hS rfl; revert hk; go_simp)
          case io4ex1 =>
            intro k1 w1 hk0 hk1 hb1 hS hd KK hK
            clear hd
            simp only [Act.put, List.setIfInBounds_toArray, List.set_cons_zero, List.set_cons_succ] at hK
            go_simp
            first | exact hK.out _ _ trivial hS rfl | (have hk := hK.out _ _ trivial hS rfl; revert hk; go_simp)
          case io4ex2 =>
            intro k1 w1 hk0 hk1 hb1 hS hd KK hK
            have d0 : x0 = .int .i64 (j : Nat) := hd 0 (by kernel_rfl)
            have d1 : x1 = .int .i64 (j : Nat) := hd 1 (by kernel_rfl)
            clear hd
            subst d0
            subst d1
            simp only [Act.put, List.setIfInBounds_toArray, List.set_cons_zero, List.set_cons_succ] at hK
            go_simp
            first | exact hK.out _ _ trivial hS rfl | (have hk := hK.out _ _ trivial hS rfl; revert hk; go_simp)
          case io4ex3 =>
            intro k1 w1 hk0 hk1 hb1 hS hd KK hK
            have d2 : x2 = .bool false := hd 2 (by kernel_rfl)
            clear hd
            subst d2
            simp only [Act.put, List.setIfInBounds_toArray, List.set_cons_zero, List.set_cons_succ] at hK
            go_simp
            first | exact hK.out _ _ trivial hS rfl | (have hk := hK.out _ _ trivial hS rfl; revert hk; go_simp)
          case io4ex4 =>
            intro k1 w1 hk0 hk1 hb1 hS hd KK hK
            have d3 : x3 = .bool false := hd 3 (by kernel_rfl)
            clear hd
            subst d3
            simp only [Act.put, List.setIfInBounds_toArray, List.set_cons_zero, List.set_cons_succ] at hK
            go_simp
            first | exact hK.out _ _ trivial hS rfl | (have hk := hK.out _ _ trivial hS rfl; revert hk; go_simp)
          case io4ex5 =>
            intro k1 w1 hk0 hk1 hb1 hS hd KK hK
            have d3 : x3 = .bool false := hd 3 (by kernel_rfl)
            clear hd
            subst d3
            simp only [Act.put, List.setIfInBounds_toArray, List.set_cons_zero, List.set_cons_succ] at hK
            go_simp
            first | exact hK.out _ _ trivial hS rfl | (have hk := hK.out _ _ trivial hS rfl; revert hk; go_simp)
          case io4ex6 =>
            intro k1 w1 hk0 hk1 hb1 hS hd KK hK
            have d3 : x3 = .bool false := hd 3 (by kernel_rfl)
            clear hd
            subst d3
            simp only [Act.put, List.setIfInBounds_toArray, List.set_cons_zero, List.set_cons_succ] at hK
            go_simp
            first | exact hK.out _ _ trivial hS rfl | (have hk := hK.out _ _ trivial hS rfl; revert hk; go_simp)
          case io4ex7 =>
            intro k1 w1 hk0 hk1 hb1 hS hd KK hK
            have d3 : x3 = .bool false := hd 3 (by kernel_rfl)
            have d5 : x5 = undef := hd 5 (by kernel_rfl)
            have d6 : x6 = undef := hd 6 (by kernel_rfl)
            clear hd
            subst d3
            subst d5
            subst d6
            simp only [Act.put, List.setIfInBounds_toArray, List.set_cons_zero, List.set_cons_succ] at hK
            go_simp
            first | exact hK.out _ _ trivial hS rfl | (have hk := hK.out _ _ trivial hS rfl; revert hk; go_simp)
          case io4ex8 =>
            intro k1 w1 hk0 hk1 hb1 hS hd KK hK
            have d3 : x3 = .bool false := hd 3 (by kernel_rfl)
            have d7 : x7 = undef := hd 7 (by kernel_rfl)
            clear hd
            subst d3
            subst d7
            simp only [Act.put, List.setIfInBounds_toArray, List.set_cons_zero, List.set_cons_succ] at hK
            go_simp
            first | exact hK.out _ _ trivial hS rfl | (have hk := hK.out _ _ trivial hS rfl; revert hk; go_simp)
          case io4ex9 =>
            intro k1 w1 hk0 hk1 hb1 hS hd KK hK
            have d3 : x3 = .bool false := hd 3 (by kernel_rfl)
            clear hd
            subst d3
            simp only [Act.put, List.setIfInBounds_toArray, List.set_cons_zero, List.set_cons_succ] at hK
            go_simp
            first | exact hK.out _ _ trivial hS rfl | (have hk := hK.out _ _ trivial hS rfl; revert hk; go_simp)
          case io4ex10 =>
            intro k1 w1 hk0 hk1 hb1 hS hd KK hK
            have d3 : x3 = .bool false := hd 3 (by kernel_rfl)
            clear hd
            subst d3
            simp only [Act.put, List.setIfInBounds_toArray, List.set_cons_zero, List.set_cons_succ] at hK
            go_simp
            first | exact hK.out _ _ trivial hS rfl | (have hk := hK.out _ _ trivial hS rfl; revert hk; go_simp)
          case io4ex11 =>
            intro k1 w1 hk0 hk1 hb1 hS hd KK hK
            have d3 : x3 = .bool false := hd 3 (by kernel_rfl)
            have d10 : x10 = undef := hd 10 (by kernel_rfl)
            clear hd
            subst d3
            subst d10
            simp only [Act.put, List.setIfInBounds_toArray, List.set_cons_zero, List.set_cons_succ] at hK
            go_simp
            first | exact hK.out _ _ trivial hS rfl | (have hk := hK.out _ _ trivial hS rfl; revert hk; go_simp)
          case io4ex12 =>
            intro k1 w1 hk0 hk1 hb1 hS hd KK hK
            have d3 : x3 = .bool false := hd 3 (by kernel_rfl)
            have d9 : x9 = undef := hd 9 (by kernel_rfl)
            have d11 : x11 = undef := hd 11 (by kernel_rfl)
            clear hd
            subst d3
            subst d9
            subst d11
            simp only [Act.put, List.setIfInBounds_toArray, List.set_cons_zero, List.set_cons_succ] at hK
            go_simp
            first | exact hK.out _ _ trivial hS rfl | (have hk := hK.out _ _ trivial hS rfl; revert hk; go_simp)
          case io4ex13 =>
            intro k1 w1 hk0 hk1 hb1 hS hd KK hK
            have d3 : x3 = .bool false := hd 3 (by kernel_rfl)
            have d12 : x12 = undef := hd 12 (by kernel_rfl)
            clear hd
            subst d3
            subst d12
            simp only [Act.put, List.setIfInBounds_toArray, List.set_cons_zero, List.set_cons_succ] at hK
            go_simp
            first | exact hK.out _ _ trivial hS rfl | (have hk := hK.out _ _ trivial hS rfl; revert hk; go_simp)
          case io4ex14 =>
            intro k1 w1 hk0 hk1 hb1 hS hd KK hK
            have d3 : x3 = .bool false := hd 3 (by kernel_rfl)
            have d4 : x4 = undef := hd 4 (by kernel_rfl)
            have d8 : x8 = undef := hd 8 (by kernel_rfl)
            have d13 : x13 = undef := hd 13 (by kernel_rfl)
            clear hd
            subst d3
            subst d4
            subst d8
            subst d13
            simp only [Act.put, List.setIfInBounds_toArray, List.set_cons_zero, List.set_cons_succ] at hK
            go_simp
            first | exact hK.out _ _ trivial hS rfl | (have hk := hK.out _ _ trivial hS rfl; revert hk; go_simp)
          case io4ex15 =>
            intro k1 w1 hk0 hk1 hb1 hS hd KK hK
            have d3 : x3 = .bool false := hd 3 (by kernel_rfl)
            have d14 : x14 = undef := hd 14 (by kernel_rfl)
            clear hd
            subst d3
            subst d14
            simp only [Act.put, List.setIfInBounds_toArray, List.set_cons_zero, List.set_cons_succ] at hK
            go_simp
            first | exact hK.out _ _ trivial hS rfl | (have hk := hK.out _ _ trivial hS rfl; revert hk; go_simp)
          case io4ex16 =>
            intro k1 w1 hk0 hk1 hb1 hS hd KK hK
            have d3 : x3 = .bool false := hd 3 (by kernel_rfl)
            have d15 : x15 = undef := hd 15 (by kernel_rfl)
            clear hd
            subst d3
            subst d15
            simp only [Act.put, List.setIfInBounds_toArray, List.set_cons_zero, List.set_cons_succ] at hK
            go_simp
            first | exact hK.out _ _ trivial hS rfl | (have hk := hK.out _ _ trivial hS rfl; revert hk; go_simp)
          case iend4e =>
            intro w1 hb1 hS hR
            have d0 : x0 = .int .i64 (j : Nat) := hR 0 (by decide)
            have d1 : x1 = .int .i64 (j : Nat) := hR 1 (by decide)
            have d2 : x2 = .bool false := hR 2 (by decide)
            have d3 : x3 = .bool false := hR 3 (by decide)
            have d4 : x4 = undef := hR 4 (by decide)
            have d5 : x5 = undef := hR 5 (by decide)
            have d6 : x6 = undef := hR 6 (by decide)
            have d7 : x7 = undef := hR 7 (by decide)
            have d8 : x8 = undef := hR 8 (by decide)
            have d9 : x9 = undef := hR 9 (by decide)
            have d10 : x10 = undef := hR 10 (by decide)
            have d11 : x11 = undef := hR 11 (by decide)
            have d12 : x12 = undef := hR 12 (by decide)
            have d13 : x13 = undef := hR 13 (by decide)
            have d14 : x14 = undef := hR 14 (by decide)
            have d15 : x15 = undef := hR 15 (by decide)
            have d16 : x16 = .bool false := hR 16 (by decide)
            clear hR
            subst d0
            subst d1
            subst d2
            subst d3
            subst d4
            subst d5
            subst d6
            subst d7
            subst d8
            subst d9
            subst d10
            subst d11
            subst d12
            subst d13
            subst d14
            subst d15
            subst d16
            try simp only [putAll, Act.put, List.setIfInBounds_toArray, List.set_cons_zero, List.set_cons_succ]
            have F3 := Lib.hid hS.1
            have K3 := Lib.hid hS.2
            clear hS hb1 F2 K2
            obtain ⟨wj, rfl⟩ : ∃ x : World, x = w1 := ⟨_, rfl⟩
            have HGS : Hid (k + 1 = j + 1 → G = f) := Lib.hid (fun h9 => by omega)
            go_wp2
            go_roundw
            case rel => exact ⟨k + 1, G, by first | rfl | go_num, by omega, by omega, .inl (by omega), HD1, Lib.hid ((HW.out.wide (Nat.le_refl _) (Nat.le_succ _)).trans HD2.out), HGS, F3, K3⟩
            case measure => (simp only [intOf]; omega)
    · skip
      go_wp2
      go_end0
      refine ⟨rfl, g, F1.out, ?_, ?_⟩
      · exact fun i j h1 h2 h3 => HS.out i j h1 h2 (by omega)
      · rcases hk3 with h9 | h9
        · obtain rfl : k = e := by omega
          exact HW.out
        · rw [HZ.out h9]; exact Within.refl _ _ _
set_option maxRecDepth 100000 in
set_option maxHeartbeats 4000000 in
theorem pswp_any (bk q n cp lc : Nat) (al : Option Addr) (key : Nat → Int) (f : Nat → Nat) (a e m : Nat) (za ze zm : Int) (w : World) (h : SF w w bk n f) (hk : KA w bk q n al lc key) (hza : za = (a : Nat)) (hze : ze = (e : Nat)) (hzm : zm = (m : Nat)) (hae : a + m ≤ e) (hen : e + m ≤ n) :
    Calls Try.prog 46 #[.slice (some ⟨bk, 0, none⟩) n cp, .int .i64 za, .int .i64 ze, .int .i64 zm, .func (.func 19) #[] #[.pointer (some ⟨q, 0, none⟩)]] w fun en w' => en = .returned (.tuple #[]) ∧ SF w w' bk n (swpR f a e m) := by
  subst hza; subst hze; subst hzm
  have hnb := hk.nb
  have F0 := Lib.hid h
  have K0 := Lib.hid hk
  clear h hk
  go_enter Try.func46, Try.ntmps46
  go_wp2
  go_loopw [10] (fun s10 wr => ∃ (k : Nat), s10 = .int .i64 (k : Nat) ∧ k ≤ m ∧ Hid (SF w wr bk n (swpR f a e k)) ∧ Hid (KA wr bk q n al lc key)) (fun s10 _ => m - (intOf s10).toNat)
  case atStart => exact ⟨0, rfl, Nat.zero_le _, by rw [swpR_zero]; exact F0, K0⟩
  case round =>
    obtain ⟨k, rfl, hk1, F1, K1⟩ := hrel
    clear F0 K0
    obtain ⟨wo, rfl⟩ : ∃ x : World, x = wr := ⟨_, rfl⟩
    by_cases hke : k < m
    · skip
      obtain ⟨p, hp⟩ : ∃ z, a + k = z := ⟨_, rfl⟩
      obtain ⟨r, hr⟩ : ∃ z, e + k = z := ⟨_, rfl⟩
      obtain ⟨G, hG⟩ : ∃ z, swpR f a e k = z := ⟨_, rfl⟩
      have hst := swpR_step f hae hke
      rw [hG, hp, hr] at hst
      rw [hG] at F1
      obtain ⟨ex, hex⟩ : ∃ z, G p = z := ⟨_, rfl⟩
      obtain ⟨ey, hey⟩ : ∃ z, G r = z := ⟨_, rfl⟩
      rw [hex, hey] at hst
      have HX1 := Lib.hid hex
      have HX2 := Lib.hid hey
      have HST := Lib.hid hst
      have HI := Lib.hid (show p < n by omega)
      have HJ := Lib.hid (show r < n by omega)
      have HPW := Lib.hid (show IntKind.i64.wrap ((a : Int) + (k : Int)) = (p : Int) from (IntWalk.i64_in _ (by omega)).trans (by omega))
      have HRW := Lib.hid (show IntKind.i64.wrap ((e : Int) + (k : Int)) = (r : Int) from (IntWalk.i64_in _ (by omega)).trans (by omega))
      have HKE := Lib.hid hke
      clear hex hey hst hp hr hG
      go_upto_region 3 with fail
      refine wp_region_inv (w := wo) 24 (fun _ _ => True) (fun k9 W => (k9 = 0 → SF w W bk n G) ∧ (k9 = 1 → SF w W bk n (upd G p ey)) ∧ (k9 = 2 → SF w W bk n (upd (upd G p ey) r ex)) ∧ KA W bk q n al lc key) [21, 23] [(fun u _ => u = .slice (some ⟨bk, 0, none⟩) n cp), (fun u _ => u = .int .i64 (a : Nat)), (fun u _ => u = .int .i64 (k : Nat)), (fun u _ => u = .int .i64 (p : Nat)), (fun u _ => u = .slice (some ⟨bk, 0, none⟩) n cp), (fun u _ => u = .int .i64 (e : Nat)), (fun u _ => u = .int .i64 (k : Nat)), (fun u _ => u = .int .i64 (r : Nat)), (fun u _ => u = .slice (some ⟨bk, 0, none⟩) n cp), (fun u _ => u = .int .i64 (e : Nat)), (fun u _ => u = .int .i64 (k : Nat)), (fun u _ => u = .int .i64 (r : Nat)), (fun u _ => u = .pointer (some ⟨bk, r, none⟩)), (fun u _ => u = .int .i64 (ey : Nat)), (fun u _ => u = .slice (some ⟨bk, 0, none⟩) n cp), (fun u _ => u = .int .i64 (a : Nat)), (fun u _ => u = .int .i64 (k : Nat)), (fun u _ => u = .int .i64 (p : Nat)), (fun u _ => u = .pointer (some ⟨bk, p, none⟩)), (fun u _ => u = .int .i64 (ex : Nat)), (fun u _ => u = .pointer (some ⟨bk, p, none⟩)), (fun _ _ => True), (fun u _ => u = .pointer (some ⟨bk, r, none⟩)), (fun _ _ => True)] [some 16, some 17, some 18, some 19, some 20, some 21, some 22, some 23, some 24, some 25, some 26, some 27, some 28, some 29, some 30, some 31, some 32, some 33, some 34, some 35, some 36, none, some 37, none] (by kernel_rfl) (by kernel_rfl) rfl (by kernel_rfl) (by kernel_rfl) (by decide) (by decide) (fun _ _ => trivial) trivial ⟨fun _ => F1.out.drew, fun h => absurd h (by decide), fun h => absurd h (by decide), K1.out.next (Below.drew (Below.refl _ _))⟩ (BorneAll.at (.cons (borne_eq _) (.cons (borne_eq _) (.cons (borne_eq _) (.cons (borne_eq _) (.cons (borne_eq _) (.cons (borne_eq _) (.cons (borne_eq _) (.cons (borne_eq _) (.cons (borne_eq _) (.cons (borne_eq _) (.cons (borne_eq _) (.cons (borne_eq _) (.cons (borne_eq _) (.cons (borne_eq _) (.cons (borne_eq _) (.cons (borne_eq _) (.cons (borne_eq _) (.cons (borne_eq _) (.cons (borne_eq _) (.cons (borne_eq _) (.cons (borne_eq _) (.cons (fun _ _ _ _ _ => trivial) (.cons (borne_eq _) (.cons (fun _ _ _ _ _ => trivial) .nil))))))))))))))))))))))))) (fun vs b hvl hvb => ?_)
      obtain ⟨x0, x1, x2, x3, x4, x5, x6, x7, x8, x9, x10, x11, x12, x13, x14, x15, x16, x17, x18, x19, x20, x21, x22, x23, rfl⟩ : ∃ x0 x1 x2 x3 x4 x5 x6 x7 x8 x9 x10 x11 x12 x13 x14 x15 x16 x17 x18 x19 x20 x21 x22 x23, vs = [x0, x1, x2, x3, x4, x5, x6, x7, x8, x9, x10, x11, x12, x13, x14, x15, x16, x17, x18, x19, x20, x21, x22, x23] := lq24 hvl
      clear hvl
      simp only [putAll, Act.put, List.setIfInBounds_toArray, List.set_cons_zero, List.set_cons_succ] at hvb
      subst hvb
      refine ⟨(.snoc (.snoc (.snoc (.snoc (.snoc (.snoc (.snoc (.snoc (.snoc (.snoc (.snoc (.snoc (.snoc (.snoc (.snoc (.snoc (.snoc (.snoc (.snoc (.snoc (.snoc (.snoc (.snoc (.snoc .zero (InvOb.intro (d := (some 16)) (r := fun u _ => u = .slice (some ⟨bk, 0, none⟩) n cp) 0 0 rfl rfl rfl (by kernel_rfl) (by kernel_rfl) rfl ?io3x0)) (InvOb.intro (d := (some 17)) (r := fun u _ => u = .int .i64 (a : Nat)) 0 0 rfl rfl rfl (by kernel_rfl) (by kernel_rfl) rfl ?io3x1)) (InvOb.intro (d := (some 18)) (r := fun u _ => u = .int .i64 (k : Nat)) 0 0 rfl rfl rfl (by kernel_rfl) (by kernel_rfl) rfl ?io3x2)) (InvOb.intro (d := (some 19)) (r := fun u _ => u = .int .i64 (p : Nat)) 0 0 rfl rfl rfl (by kernel_rfl) (by kernel_rfl) rfl ?io3x3)) (InvOb.intro (d := (some 20)) (r := fun u _ => u = .slice (some ⟨bk, 0, none⟩) n cp) 0 1 rfl rfl rfl (by kernel_rfl) (by kernel_rfl) rfl ?io3x4)) (InvOb.intro (d := (some 21)) (r := fun u _ => u = .int .i64 (e : Nat)) 0 1 rfl rfl rfl (by kernel_rfl) (by kernel_rfl) rfl ?io3x5)) (InvOb.intro (d := (some 22)) (r := fun u _ => u = .int .i64 (k : Nat)) 0 1 rfl rfl rfl (by kernel_rfl) (by kernel_rfl) rfl ?io3x6)) (InvOb.intro (d := (some 23)) (r := fun u _ => u = .int .i64 (r : Nat)) 0 1 rfl rfl rfl (by kernel_rfl) (by kernel_rfl) rfl ?io3x7)) (InvOb.intro (d := (some 24)) (r := fun u _ => u = .slice (some ⟨bk, 0, none⟩) n cp) 0 0 rfl rfl rfl (by kernel_rfl) (by kernel_rfl) rfl ?io3x8)) (InvOb.intro (d := (some 25)) (r := fun u _ => u = .int .i64 (e : Nat)) 0 0 rfl rfl rfl (by kernel_rfl) (by kernel_rfl) rfl ?io3x9)) (InvOb.intro (d := (some 26)) (r := fun u _ => u = .int .i64 (k : Nat)) 0 0 rfl rfl rfl (by kernel_rfl) (by kernel_rfl) rfl ?io3x10)) (InvOb.intro (d := (some 27)) (r := fun u _ => u = .int .i64 (r : Nat)) 0 0 rfl rfl rfl (by kernel_rfl) (by kernel_rfl) rfl ?io3x11)) (InvOb.intro (d := (some 28)) (r := fun u _ => u = .pointer (some ⟨bk, r, none⟩)) 0 0 rfl rfl rfl (by kernel_rfl) (by kernel_rfl) rfl ?io3x12)) (InvOb.intro (d := (some 29)) (r := fun u _ => u = .int .i64 (ey : Nat)) 0 0 rfl rfl rfl (by kernel_rfl) (by kernel_rfl) rfl ?io3x13)) (InvOb.intro (d := (some 30)) (r := fun u _ => u = .slice (some ⟨bk, 0, none⟩) n cp) 0 0 rfl rfl rfl (by kernel_rfl) (by kernel_rfl) rfl ?io3x14)) (InvOb.intro (d := (some 31)) (r := fun u _ => u = .int .i64 (a : Nat)) 0 0 rfl rfl rfl (by kernel_rfl) (by kernel_rfl) rfl ?io3x15)) (InvOb.intro (d := (some 32)) (r := fun u _ => u = .int .i64 (k : Nat)) 0 0 rfl rfl rfl (by kernel_rfl) (by kernel_rfl) rfl ?io3x16)) (InvOb.intro (d := (some 33)) (r := fun u _ => u = .int .i64 (p : Nat)) 0 0 rfl rfl rfl (by kernel_rfl) (by kernel_rfl) rfl ?io3x17)) (InvOb.intro (d := (some 34)) (r := fun u _ => u = .pointer (some ⟨bk, p, none⟩)) 0 0 rfl rfl rfl (by kernel_rfl) (by kernel_rfl) rfl ?io3x18)) (InvOb.intro (d := (some 35)) (r := fun u _ => u = .int .i64 (ex : Nat)) 0 0 rfl rfl rfl (by kernel_rfl) (by kernel_rfl) rfl ?io3x19)) (InvOb.intro (d := (some 36)) (r := fun u _ => u = .pointer (some ⟨bk, p, none⟩)) 0 0 rfl rfl rfl (by kernel_rfl) (by kernel_rfl) rfl ?io3x20)) (InvOb.put (d := none) (r := fun _ _ => True) 0 rfl rfl rfl (by kernel_rfl) (by kernel_rfl) rfl ?io3x21)) (InvOb.intro (d := (some 37)) (r := fun u _ => u = .pointer (some ⟨bk, r, none⟩)) 1 1 rfl rfl rfl (by kernel_rfl) (by kernel_rfl) rfl ?io3x22)) (InvOb.put (d := none) (r := fun _ _ => True) 1 rfl rfl rfl (by kernel_rfl) (by kernel_rfl) rfl ?io3x23)), ?iend3⟩
      case io3x0 =>
        intro k1 w1 hk0 hk1 hb1 hS hd KK hK
        clear hd
        simp only [Act.put, List.setIfInBounds_toArray, List.set_cons_zero, List.set_cons_succ] at hK
        go_simp
        first | exact hK.out _ _ trivial hS rfl | (have hk := hK.out _ _ trivial hS rfl; revert hk; go_simp)
      case io3x1 =>
        intro k1 w1 hk0 hk1 hb1 hS hd KK hK
        clear hd
        simp only [Act.put, List.setIfInBounds_toArray, List.set_cons_zero, List.set_cons_succ] at hK
        go_simp
        first | exact hK.out _ _ trivial hS rfl | (have hk := hK.out _ _ trivial hS rfl; revert hk; go_simp)
      case io3x2 =>
        intro k1 w1 hk0 hk1 hb1 hS hd KK hK
        clear hd
        simp only [Act.put, List.setIfInBounds_toArray, List.set_cons_zero, List.set_cons_succ] at hK
        go_simp
        first | exact hK.out _ _ trivial hS rfl | (have hk := hK.out _ _ trivial hS rfl; revert hk; go_simp)
      case io3x3 =>
        intro k1 w1 hk0 hk1 hb1 hS hd KK hK
        have d1 : x1 = .int .i64 (a : Nat) := hd 1 (by kernel_rfl)
        have d2 : x2 = .int .i64 (k : Nat) := hd 2 (by kernel_rfl)
        clear hd
        subst d1
        subst d2
        have dx := HPW.out
        simp only [Act.put, List.setIfInBounds_toArray, List.set_cons_zero, List.set_cons_succ] at hK
        go_simp
        first | exact hK.out _ _ trivial hS rfl | (have hk := hK.out _ _ trivial hS rfl; revert hk; go_simp)
      case io3x4 =>
        intro k1 w1 hk0 hk1 hb1 hS hd KK hK
        clear hd
        simp only [Act.put, List.setIfInBounds_toArray, List.set_cons_zero, List.set_cons_succ] at hK
        go_simp
        first | exact hK.out _ _ trivial hS rfl | (have hk := hK.out _ _ trivial hS rfl; revert hk; go_simp)
      case io3x5 =>
        intro k1 w1 hk0 hk1 hb1 hS hd KK hK
        clear hd
        simp only [Act.put, List.setIfInBounds_toArray, List.set_cons_zero, List.set_cons_succ] at hK
        go_simp
        first | exact hK.out _ _ trivial hS rfl | (have hk := hK.out _ _ trivial hS rfl; revert hk; go_simp)
      case io3x6 =>
        intro k1 w1 hk0 hk1 hb1 hS hd KK hK
        clear hd
        simp only [Act.put, List.setIfInBounds_toArray, List.set_cons_zero, List.set_cons_succ] at hK
        go_simp
        first | exact hK.out _ _ trivial hS rfl | (have hk := hK.out _ _ trivial hS rfl; revert hk; go_simp)
      case io3x7 =>
        intro k1 w1 hk0 hk1 hb1 hS hd KK hK
        have d5 : x5 = .int .i64 (e : Nat) := hd 5 (by kernel_rfl)
        have d6 : x6 = .int .i64 (k : Nat) := hd 6 (by kernel_rfl)
        clear hd
        subst d5
        subst d6
        have dx := HRW.out
        simp only [Act.put, List.setIfInBounds_toArray, List.set_cons_zero, List.set_cons_succ] at hK
        go_simp
        first | exact hK.out _ _ trivial hS rfl | (have hk := hK.out _ _ trivial hS rfl; revert hk; go_simp)
      case io3x8 =>
        intro k1 w1 hk0 hk1 hb1 hS hd KK hK
        clear hd
        simp only [Act.put, List.setIfInBounds_toArray, List.set_cons_zero, List.set_cons_succ] at hK
        go_simp
        first | exact hK.out _ _ trivial hS rfl | (have hk := hK.out _ _ trivial hS rfl; revert hk; go_simp)
      case io3x9 =>
        intro k1 w1 hk0 hk1 hb1 hS hd KK hK
        clear hd
        simp only [Act.put, List.setIfInBounds_toArray, List.set_cons_zero, List.set_cons_succ] at hK
        go_simp
        first | exact hK.out _ _ trivial hS rfl | (have hk := hK.out _ _ trivial hS rfl; revert hk; go_simp)
      case io3x10 =>
        intro k1 w1 hk0 hk1 hb1 hS hd KK hK
        clear hd
        simp only [Act.put, List.setIfInBounds_toArray, List.set_cons_zero, List.set_cons_succ] at hK
        go_simp
        first | exact hK.out _ _ trivial hS rfl | (have hk := hK.out _ _ trivial hS rfl; revert hk; go_simp)
      case io3x11 =>
        intro k1 w1 hk0 hk1 hb1 hS hd KK hK
        have d9 : x9 = .int .i64 (e : Nat) := hd 9 (by kernel_rfl)
        have d10 : x10 = .int .i64 (k : Nat) := hd 10 (by kernel_rfl)
        clear hd
        subst d9
        subst d10
        have dx := HRW.out
        simp only [Act.put, List.setIfInBounds_toArray, List.set_cons_zero, List.set_cons_succ] at hK
        go_simp
        first | exact hK.out _ _ trivial hS rfl | (have hk := hK.out _ _ trivial hS rfl; revert hk; go_simp)
      case io3x12 =>
        intro k1 w1 hk0 hk1 hb1 hS hd KK hK
        have d8 : x8 = .slice (some ⟨bk, 0, none⟩) n cp := hd 8 (by kernel_rfl)
        have d11 : x11 = .int .i64 (r : Nat) := hd 11 (by kernel_rfl)
        clear hd
        subst d8
        subst d11
        have g1 := HJ.out
        have g2 : (r : Int) < (n : Int) := by omega
        simp only [Act.put, List.setIfInBounds_toArray, List.set_cons_zero, List.set_cons_succ] at hK
        go_simp
        first | exact hK.out _ _ trivial hS rfl | (have hk := hK.out _ _ trivial hS rfl; revert hk; go_simp)
      case io3x13 =>
        intro k1 w1 hk0 hk1 hb1 hS hd KK hK
        have d12 : x12 = .pointer (some ⟨bk, r, none⟩) := hd 12 (by kernel_rfl)
        clear hd
        subst d12
        have hF := hS.1 (by omega)
        have hv := hF.val r HJ.out
        rw [HX2.out] at hv
        simp only [Act.put, List.setIfInBounds_toArray, List.set_cons_zero, List.set_cons_succ] at hK
        go_simp
        first | exact hK.out _ _ trivial hS rfl | (have hk := hK.out _ _ trivial hS rfl; revert hk; go_simp)
      case io3x14 =>
        intro k1 w1 hk0 hk1 hb1 hS hd KK hK
        clear hd
        simp only [Act.put, List.setIfInBounds_toArray, List.set_cons_zero, List.set_cons_succ] at hK
        go_simp
        first | exact hK.out _ _ trivial hS rfl | (have hk := hK.out _ _ trivial hS rfl; revert hk; go_simp)
      case io3x15 =>
        intro k1 w1 hk0 hk1 hb1 hS hd KK hK
        clear hd
        simp only [Act.put, List.setIfInBounds_toArray, List.set_cons_zero, List.set_cons_succ] at hK
        go_simp
        first | exact hK.out _ _ trivial hS rfl | (have hk := hK.out _ _ trivial hS rfl; revert hk; go_simp)
      case io3x16 =>
        intro k1 w1 hk0 hk1 hb1 hS hd KK hK
        clear hd
        simp only [Act.put, List.setIfInBounds_toArray, List.set_cons_zero, List.set_cons_succ] at hK
        go_simp
        first | exact hK.out _ _ trivial hS rfl | (have hk := hK.out _ _ trivial hS rfl; revert hk; go_simp)
      case io3x17 =>
        intro k1 w1 hk0 hk1 hb1 hS hd KK hK
        have d15 : x15 = .int .i64 (a : Nat) := hd 15 (by kernel_rfl)
        have d16 : x16 = .int .i64 (k : Nat) := hd 16 (by kernel_rfl)
        clear hd
        subst d15
        subst d16
        have dx := HPW.out
        simp only [Act.put, List.setIfInBounds_toArray, List.set_cons_zero, List.set_cons_succ] at hK
        go_simp
        first | exact hK.out _ _ trivial hS rfl | (have hk := hK.out _ _ trivial hS rfl; revert hk; go_simp)
      case io3x18 =>
        intro k1 w1 hk0 hk1 hb1 hS hd KK hK
        have d14 : x14 = .slice (some ⟨bk, 0, none⟩) n cp := hd 14 (by kernel_rfl)
        have d17 : x17 = .int .i64 (p : Nat) := hd 17 (by kernel_rfl)
        clear hd
        subst d14
        subst d17
        have g1 := HI.out
        have g2 : (p : Int) < (n : Int) := by omega
        simp only [Act.put, List.setIfInBounds_toArray, List.set_cons_zero, List.set_cons_succ] at hK
        go_simp
        first | exact hK.out _ _ trivial hS rfl | (have hk := hK.out _ _ trivial hS rfl; revert hk; go_simp)
      case io3x19 =>
        intro k1 w1 hk0 hk1 hb1 hS hd KK hK
        have d18 : x18 = .pointer (some ⟨bk, p, none⟩) := hd 18 (by kernel_rfl)
        clear hd
        subst d18
        have hF := hS.1 (by omega)
        have hv := hF.val p HI.out
        rw [HX1.out] at hv
        simp only [Act.put, List.setIfInBounds_toArray, List.set_cons_zero, List.set_cons_succ] at hK
        go_simp
        first | exact hK.out _ _ trivial hS rfl | (have hk := hK.out _ _ trivial hS rfl; revert hk; go_simp)
      case io3x20 =>
        intro k1 w1 hk0 hk1 hb1 hS hd KK hK
        have d0 : x0 = .slice (some ⟨bk, 0, none⟩) n cp := hd 0 (by kernel_rfl)
        have d1 : x1 = .int .i64 (a : Nat) := hd 1 (by kernel_rfl)
        have d2 : x2 = .int .i64 (k : Nat) := hd 2 (by kernel_rfl)
        have d3 : x3 = .int .i64 (p : Nat) := hd 3 (by kernel_rfl)
        have d8 : x8 = .slice (some ⟨bk, 0, none⟩) n cp := hd 8 (by kernel_rfl)
        have d9 : x9 = .int .i64 (e : Nat) := hd 9 (by kernel_rfl)
        have d10 : x10 = .int .i64 (k : Nat) := hd 10 (by kernel_rfl)
        have d11 : x11 = .int .i64 (r : Nat) := hd 11 (by kernel_rfl)
        have d12 : x12 = .pointer (some ⟨bk, r, none⟩) := hd 12 (by kernel_rfl)
        have d13 : x13 = .int .i64 (ey : Nat) := hd 13 (by kernel_rfl)
        have d19 : x19 = .int .i64 (ex : Nat) := hd 19 (by kernel_rfl)
        clear hd
        subst d0
        subst d1
        subst d2
        subst d3
        subst d8
        subst d9
        subst d10
        subst d11
        subst d12
        subst d13
        subst d19
        have g1 := HI.out
        have g2 : (p : Int) < (n : Int) := by omega
        simp only [Act.put, List.setIfInBounds_toArray, List.set_cons_zero, List.set_cons_succ] at hK
        go_simp
        first | exact hK.out _ _ trivial hS rfl | (have hk := hK.out _ _ trivial hS rfl; revert hk; go_simp)
      case io3x21 =>
        intro w1 hb1 hS hd KK hK
        have d0 : x0 = .slice (some ⟨bk, 0, none⟩) n cp := hd 0 (by kernel_rfl)
        have d1 : x1 = .int .i64 (a : Nat) := hd 1 (by kernel_rfl)
        have d2 : x2 = .int .i64 (k : Nat) := hd 2 (by kernel_rfl)
        have d3 : x3 = .int .i64 (p : Nat) := hd 3 (by kernel_rfl)
        have d8 : x8 = .slice (some ⟨bk, 0, none⟩) n cp := hd 8 (by kernel_rfl)
        have d9 : x9 = .int .i64 (e : Nat) := hd 9 (by kernel_rfl)
        have d10 : x10 = .int .i64 (k : Nat) := hd 10 (by kernel_rfl)
        have d11 : x11 = .int .i64 (r : Nat) := hd 11 (by kernel_rfl)
        have d12 : x12 = .pointer (some ⟨bk, r, none⟩) := hd 12 (by kernel_rfl)
        have d13 : x13 = .int .i64 (ey : Nat) := hd 13 (by kernel_rfl)
        have d19 : x19 = .int .i64 (ex : Nat) := hd 19 (by kernel_rfl)
        have d20 : x20 = .pointer (some ⟨bk, p, none⟩) := hd 20 (by kernel_rfl)
        clear hd
        subst d0
        subst d1
        subst d2
        subst d3
        subst d8
        subst d9
        subst d10
        subst d11
        subst d12
        subst d13
        subst d19
        subst d20
        have hF := hS.1 rfl
        have hv := hF.val p HI.out
        have hf := hF.free p HI.out
        simp only [Act.put, List.setIfInBounds_toArray, List.set_cons_zero, List.set_cons_succ] at hK
        go_simp
        first | exact hK.out undef _ trivial ⟨fun h => absurd h (by decide), fun _ => (hS.1 rfl).put p ey, fun h => absurd h (by decide), hS.2.2.2.grown (Go.Lib.grownBy_setCell w1 bk p _)⟩ trivial | (have hk := hK.out undef _ trivial ⟨fun h => absurd h (by decide), fun _ => (hS.1 rfl).put p ey, fun h => absurd h (by decide), hS.2.2.2.grown (Go.Lib.grownBy_setCell w1 bk p _)⟩ trivial; revert hk; go_simp)
      case io3x22 =>
        intro k1 w1 hk0 hk1 hb1 hS hd KK hK
        have d0 : x0 = .slice (some ⟨bk, 0, none⟩) n cp := hd 0 (by kernel_rfl)
        have d1 : x1 = .int .i64 (a : Nat) := hd 1 (by kernel_rfl)
        have d2 : x2 = .int .i64 (k : Nat) := hd 2 (by kernel_rfl)
        have d3 : x3 = .int .i64 (p : Nat) := hd 3 (by kernel_rfl)
        have d4 : x4 = .slice (some ⟨bk, 0, none⟩) n cp := hd 4 (by kernel_rfl)
        have d5 : x5 = .int .i64 (e : Nat) := hd 5 (by kernel_rfl)
        have d6 : x6 = .int .i64 (k : Nat) := hd 6 (by kernel_rfl)
        have d7 : x7 = .int .i64 (r : Nat) := hd 7 (by kernel_rfl)
        have d8 : x8 = .slice (some ⟨bk, 0, none⟩) n cp := hd 8 (by kernel_rfl)
        have d9 : x9 = .int .i64 (e : Nat) := hd 9 (by kernel_rfl)
        have d10 : x10 = .int .i64 (k : Nat) := hd 10 (by kernel_rfl)
        have d11 : x11 = .int .i64 (r : Nat) := hd 11 (by kernel_rfl)
        have d12 : x12 = .pointer (some ⟨bk, r, none⟩) := hd 12 (by kernel_rfl)
        have d13 : x13 = .int .i64 (ey : Nat) := hd 13 (by kernel_rfl)
        have d14 : x14 = .slice (some ⟨bk, 0, none⟩) n cp := hd 14 (by kernel_rfl)
        have d15 : x15 = .int .i64 (a : Nat) := hd 15 (by kernel_rfl)
        have d16 : x16 = .int .i64 (k : Nat) := hd 16 (by kernel_rfl)
        have d17 : x17 = .int .i64 (p : Nat) := hd 17 (by kernel_rfl)
        have d18 : x18 = .pointer (some ⟨bk, p, none⟩) := hd 18 (by kernel_rfl)
        have d19 : x19 = .int .i64 (ex : Nat) := hd 19 (by kernel_rfl)
        have d20 : x20 = .pointer (some ⟨bk, p, none⟩) := hd 20 (by kernel_rfl)
        clear hd
        subst d0
        subst d1
        subst d2
        subst d3
        subst d4
        subst d5
        subst d6
        subst d7
        subst d8
        subst d9
        subst d10
        subst d11
        subst d12
        subst d13
        subst d14
        subst d15
        subst d16
        subst d17
        subst d18
        subst d19
        subst d20
        have g1 := HJ.out
        have g2 : (r : Int) < (n : Int) := by omega
        simp only [Act.put, List.setIfInBounds_toArray, List.set_cons_zero, List.set_cons_succ] at hK
        go_simp
        first | exact hK.out _ _ trivial hS rfl | (have hk := hK.out _ _ trivial hS rfl; revert hk; go_simp)
      case io3x23 =>
        intro w1 hb1 hS hd KK hK
        have d0 : x0 = .slice (some ⟨bk, 0, none⟩) n cp := hd 0 (by kernel_rfl)
        have d1 : x1 = .int .i64 (a : Nat) := hd 1 (by kernel_rfl)
        have d2 : x2 = .int .i64 (k : Nat) := hd 2 (by kernel_rfl)
        have d3 : x3 = .int .i64 (p : Nat) := hd 3 (by kernel_rfl)
        have d4 : x4 = .slice (some ⟨bk, 0, none⟩) n cp := hd 4 (by kernel_rfl)
        have d5 : x5 = .int .i64 (e : Nat) := hd 5 (by kernel_rfl)
        have d6 : x6 = .int .i64 (k : Nat) := hd 6 (by kernel_rfl)
        have d7 : x7 = .int .i64 (r : Nat) := hd 7 (by kernel_rfl)
        have d8 : x8 = .slice (some ⟨bk, 0, none⟩) n cp := hd 8 (by kernel_rfl)
        have d9 : x9 = .int .i64 (e : Nat) := hd 9 (by kernel_rfl)
        have d10 : x10 = .int .i64 (k : Nat) := hd 10 (by kernel_rfl)
        have d11 : x11 = .int .i64 (r : Nat) := hd 11 (by kernel_rfl)
        have d12 : x12 = .pointer (some ⟨bk, r, none⟩) := hd 12 (by kernel_rfl)
        have d13 : x13 = .int .i64 (ey : Nat) := hd 13 (by kernel_rfl)
        have d14 : x14 = .slice (some ⟨bk, 0, none⟩) n cp := hd 14 (by kernel_rfl)
        have d15 : x15 = .int .i64 (a : Nat) := hd 15 (by kernel_rfl)
        have d16 : x16 = .int .i64 (k : Nat) := hd 16 (by kernel_rfl)
        have d17 : x17 = .int .i64 (p : Nat) := hd 17 (by kernel_rfl)
        have d18 : x18 = .pointer (some ⟨bk, p, none⟩) := hd 18 (by kernel_rfl)
        have d19 : x19 = .int .i64 (ex : Nat) := hd 19 (by kernel_rfl)
        have d20 : x20 = .pointer (some ⟨bk, p, none⟩) := hd 20 (by kernel_rfl)
        have d22 : x22 = .pointer (some ⟨bk, r, none⟩) := hd 22 (by kernel_rfl)
        clear hd
        subst d0
        subst d1
        subst d2
        subst d3
        subst d4
        subst d5
        subst d6
        subst d7
        subst d8
        subst d9
        subst d10
        subst d11
        subst d12
        subst d13
        subst d14
        subst d15
        subst d16
        subst d17
        subst d18
        subst d19
        subst d20
        subst d22
        have hF := hS.2.1 rfl
        have hv := hF.val r HJ.out
        have hf := hF.free r HJ.out
        simp only [Act.put, List.setIfInBounds_toArray, List.set_cons_zero, List.set_cons_succ] at hK
        go_simp
        first | exact hK.out undef _ trivial ⟨fun h => absurd h (by decide), fun h => absurd h (by decide), fun _ => (hS.2.1 rfl).put r ex, hS.2.2.2.grown (Go.Lib.grownBy_setCell w1 bk r _)⟩ trivial | (have hk := hK.out undef _ trivial ⟨fun h => absurd h (by decide), fun h => absurd h (by decide), fun _ => (hS.2.1 rfl).put r ex, hS.2.2.2.grown (Go.Lib.grownBy_setCell w1 bk r _)⟩ trivial; revert hk; go_simp)
      case iend3 =>
        intro w1 hb1 hS hR
        have d0 : x0 = .slice (some ⟨bk, 0, none⟩) n cp := hR 0 (by decide)
        have d1 : x1 = .int .i64 (a : Nat) := hR 1 (by decide)
        have d2 : x2 = .int .i64 (k : Nat) := hR 2 (by decide)
        have d3 : x3 = .int .i64 (p : Nat) := hR 3 (by decide)
        have d4 : x4 = .slice (some ⟨bk, 0, none⟩) n cp := hR 4 (by decide)
        have d5 : x5 = .int .i64 (e : Nat) := hR 5 (by decide)
        have d6 : x6 = .int .i64 (k : Nat) := hR 6 (by decide)
        have d7 : x7 = .int .i64 (r : Nat) := hR 7 (by decide)
        have d8 : x8 = .slice (some ⟨bk, 0, none⟩) n cp := hR 8 (by decide)
        have d9 : x9 = .int .i64 (e : Nat) := hR 9 (by decide)
        have d10 : x10 = .int .i64 (k : Nat) := hR 10 (by decide)
        have d11 : x11 = .int .i64 (r : Nat) := hR 11 (by decide)
        have d12 : x12 = .pointer (some ⟨bk, r, none⟩) := hR 12 (by decide)
        have d13 : x13 = .int .i64 (ey : Nat) := hR 13 (by decide)
        have d14 : x14 = .slice (some ⟨bk, 0, none⟩) n cp := hR 14 (by decide)
        have d15 : x15 = .int .i64 (a : Nat) := hR 15 (by decide)
        have d16 : x16 = .int .i64 (k : Nat) := hR 16 (by decide)
        have d17 : x17 = .int .i64 (p : Nat) := hR 17 (by decide)
        have d18 : x18 = .pointer (some ⟨bk, p, none⟩) := hR 18 (by decide)
        have d19 : x19 = .int .i64 (ex : Nat) := hR 19 (by decide)
        have d20 : x20 = .pointer (some ⟨bk, p, none⟩) := hR 20 (by decide)
        have d22 : x22 = .pointer (some ⟨bk, r, none⟩) := hR 22 (by decide)
        clear hR
        subst d0
        subst d1
        subst d2
        subst d3
        subst d4
        subst d5
        subst d6
        subst d7
        subst d8
        subst d9
        subst d10
        subst d11
        subst d12
        subst d13
        subst d14
        subst d15
        subst d16
        subst d17
        subst d18
        subst d19
        subst d20
        subst d22
        try simp only [putAll, Act.put, List.setIfInBounds_toArray, List.set_cons_zero, List.set_cons_succ]
        have F4 := hS.2.2.1 rfl
        have K4 := Lib.hid hS.2.2.2
        clear hS hb1 F1 K1
        rw [HST.out] at F4
        have F5 := Lib.hid F4
        clear F4
        obtain ⟨wk, rfl⟩ : ∃ x : World, x = w1 := ⟨_, rfl⟩
        go_wp2
        have hke := HKE.out
        go_roundw
        case rel => exact ⟨k + 1, by first | rfl | go_num, by omega, F5, K4⟩
        case measure => (simp only [intOf]; omega)
    · obtain rfl : k = m := by omega
      go_wp2
      go_end0
      exact ⟨rfl, F1.out⟩
set_option maxRecDepth 100000 in
set_option maxHeartbeats 4000000 in
theorem prot_any (bk q n cp lc : Nat) (al : Option Addr) (key : Nat → Int) (f : Nat → Nat) (a m e : Nat) (za zm ze : Int) (w : World) (h : SF w w bk n f) (hk : KA w bk q n al lc key) (hza : za = (a : Nat)) (hzm : zm = (m : Nat)) (hze : ze = (e : Nat)) (ham : a < m) (hme : m < e) (hen : e ≤ n) :
    Calls Try.prog 40 #[.slice (some ⟨bk, 0, none⟩) n cp, .int .i64 za, .int .i64 zm, .int .i64 ze, .func (.func 19) #[] #[.pointer (some ⟨q, 0, none⟩)]] w fun en w' => en = .returned (.tuple #[]) ∧ SF w w' bk n (rotR f a (m - a) (e - m)) := by
  subst hza; subst hzm; subst hze
  have hnb := hk.nb
  have F0 := Lib.hid h
  have K0 := Lib.hid hk
  clear h hk
  have HSW := Lib.hid (fun g a e m za ze zm W h hk ha he hm h1 h2 => pswp_any bk q n cp lc al key g a e m za ze zm W h hk ha he hm h1 h2)
  go_enter Try.func40, Try.ntmps40
  go_wp2
  go_loopw [10, 11] (fun s10 s11 wr => ∃ (i j : Nat) (g : Nat → Nat), s10 = .int .i64 (i : Nat) ∧ s11 = .int .i64 (j : Nat) ∧ 1 ≤ i ∧ 1 ≤ j ∧ a + i ≤ m ∧ m + j ≤ e ∧ Hid (rotR g (m - i) i j = rotR f a (m - a) (e - m)) ∧ Hid (SF w wr bk n g) ∧ Hid (KA wr bk q n al lc key)) (fun s10 s11 _ => (intOf s10).toNat + (intOf s11).toNat)
  case atStart => exact ⟨m - a, e - m, f, by first | go_num | exact congrArg (Value.int .i64) (by omega), by first | go_num | exact congrArg (Value.int .i64) (by omega), by omega, by omega, by omega, by omega, Lib.hid (by rw [show m - (m - a) = a by omega]), F0, K0⟩
  case round =>
    obtain ⟨i, j, g, rfl, rfl, hi1, hj1, hi2, hj2, HR, F1, K1⟩ := hrel
    clear F0 K0
    obtain ⟨wo, rfl⟩ : ∃ x : World, x = wr := ⟨_, rfl⟩
    by_cases hij : i = j
    · subst hij
      have hsame := rotR_same g (show (m - i) + i = m by omega)
      go_wp2_with (go_at_call 46; refine (HSW.out g (m - i) (m) (i) _ _ _ _ F1.out.here K1.out (by omega) (by omega) (by omega) (by omega) (by omega)).mono ?_; rintro en w2 ⟨rfl, hs⟩; have F2 := Lib.hid (F1.out.join hs); have K2 := Lib.hid (K1.out.grown hs.grown); clear hs F1 K1)
      go_end0
      refine ⟨rfl, ?_⟩
      rw [← HR.out, ← hsame]
      exact F2.out
    · skip
      by_cases hlt : j < i
      · skip
        have hmore := rotR_more g (show (m - i) + i = m by omega) hlt
        rw [HR.out, show m - i + j = m - (i - j) by omega] at hmore
        have HM := Lib.hid hmore
        clear hmore
        go_wp2_with (go_at_call 46; refine (HSW.out g (m - i) (m) (j) _ _ _ _ F1.out.here K1.out (by omega) (by omega) (by omega) (by omega) (by omega)).mono ?_; rintro en w2 ⟨rfl, hs⟩; have F2 := Lib.hid (F1.out.join hs); have K2 := Lib.hid (K1.out.grown hs.grown); clear hs F1 K1)
        go_roundw
        case rel => exact ⟨i - j, j, _, congrArg (Value.int .i64) (by omega), rfl, by omega, by omega, by omega, by omega, HM, F2, K2⟩
        case measure => (simp only [intOf]; omega)
      · skip
        have hless := rotR_less g (show (m - i) + i = m by omega) (show i < j by omega)
        rw [HR.out] at hless
        have HM := Lib.hid hless
        clear hless
        go_wp2_with (go_at_call 46; refine (HSW.out g (m - i) (m + j - i) (i) _ _ _ _ F1.out.here K1.out (by omega) (by omega) (by omega) (by omega) (by omega)).mono ?_; rintro en w2 ⟨rfl, hs⟩; have F2 := Lib.hid (F1.out.join hs); have K2 := Lib.hid (K1.out.grown hs.grown); clear hs F1 K1)
        go_roundw
        case rel => exact ⟨i, j - i, _, rfl, congrArg (Value.int .i64) (by omega), by omega, by omega, by omega, by omega, HM, F2, K2⟩
        case measure => (simp only [intOf]; omega)
end Go.Proofs.Ytdpnichgdfpmgaa
