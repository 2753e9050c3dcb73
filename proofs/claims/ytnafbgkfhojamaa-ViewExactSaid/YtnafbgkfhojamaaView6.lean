/- Walks: words laid where a view shows them: what may be laid. -/
import Derived.Test.YtnafbgkfhojamaaView5
set_option linter.unusedVariables false
set_option linter.unusedSimpArgs false
namespace Go.Proofs.Ytnafbgkfhojamaa
open Go.RowKit Go.Rt
/-- What 'Lay' tells: laid words, or none. -/
def layR (sh st : List Int) (off : Int) (ys data : List Int) : List Int := if onceV sh st off = true then layV sh st off ys data else []
def layZ (sh st : List Int) (off : Int) : Int := if onceV sh st off = true then 0 else 2

set_option maxRecDepth 100000 in
set_option maxHeartbeats 4000000 in
theorem vlay_shape (a b ad p q : Option Addr) (c d cd cp cq : Nat) (sh st data tsh tys : List Int) (off : Int) (w : World) (h : Ints .i64 w w.heap.size a sh) (h2 : Ints .i64 w w.heap.size b st) (h3 : Ints .i64 w w.heap.size ad data) (h5 : Ints .i64 w w.heap.size p tsh) (h6 : Ints .i64 w w.heap.size q tys) (hc0 : viewB sh st off data.length = true) (hc1 : data.all isW = true) (hc2 : goodB tsh = true) (hc3 : (tys.length : Int) = prodI tsh) (hc4 : tys.all isW = true) (hne : ¬ tsh = sh) :
    Calls Try.prog 17 #[.agg #[.slice a sh.length c, .slice b st.length d, .int .i64 off], .agg #[.slice p tsh.length cp, .slice q tys.length cq], .slice ad data.length cd] w (RetWV w [] 2) := by
  have HA := Lib.hid h
  have HB := Lib.hid h2
  have HD := Lib.hid h3
  have HP := Lib.hid h5
  have HQ := Lib.hid h6
  have hl1 := h.len
  have hl2 := h2.len
  have hl3 := h3.len
  have hl5 := h5.len
  have hl6 := h6.len
  clear h h2 h3 h5 h6
  have HC0 := Lib.hid hc0
  have HC1 := Lib.hid hc1
  have HC2 := Lib.hid hc2
  have HC3 := Lib.hid hc3
  have HC4 := Lib.hid hc4
  have HNE := Lib.hid hne
  clear hc0 hc1 hc2 hc3 hc4 hne
  go_enter Try.func17, Try.ntmps17
  have F1 := Lib.hid (((((Fr.start (w := w) (I := [(.i64, a, sh), (.i64, b, st), (.i64, ad, data), (.i64, p, tsh), (.i64, q, tys)]) (by intro z hz; simp at hz; rcases hz with rfl | rfl | rfl | rfl | rfl; exact HA.out; exact HB.out; exact HD.out; exact HP.out; exact HQ.out)).box1 (b := w.heap.size) (by simp) [.slice a sh.length c, .slice b st.length d, .int .i64 off] 25).box1 (b := w.heap.size + 1) (by simp) [.slice p tsh.length cp, .slice q tys.length cq] 28).box1 (b := w.heap.size + 1 + 1) (by simp) [.slice none 0 0] 26).box1 (b := w.heap.size + 1 + 1 + 1) (by simp) [.int .i64 0] 40)
  simp only [List.nil_append, List.cons_append] at F1
  go_upto_region 1 with fail
  obtain ⟨W0, hW0⟩ : ∃ W0, ((((w.alloc (.cells #[.slice a sh.length c, .slice b st.length d, .int .i64 off] 25)).alloc (.cells #[.slice p tsh.length cp, .slice q tys.length cq] 28)).alloc (.cells #[.slice none 0 0] 26)).alloc (.cells #[.int .i64 0] 40)) = W0 := ⟨_, rfl⟩
  rw [hW0] at F1 ⊢
  clear hW0
  refine wp_region_parts2 (w := W0) 31 0 none [] [(fun u _ => u = .agg #[.slice a sh.length c, .slice b st.length d, .int .i64 off]), (fun u _ => u = .slice ad data.length cd), (fun u _ => u = .int .i64 (data.length : Int)), (fun u _ => u = .bool true), (fun u _ => u = .bool false), (fun u _ => u = .bool false), (fun u _ => u = .slice ad data.length cd), (fun u _ => u = .bool true), (fun u _ => u = .bool false), (fun u _ => u = .bool false), (fun u _ => u = .bool false), (fun u _ => u = .pointer (some ⟨w.heap.size + 1, 0, none⟩)), (fun u _ => u = .slice p tsh.length cp), (fun u _ => u = .bool true), (fun u _ => u = .bool false), (fun u _ => u = .bool false), (fun u _ => u = .bool false), (fun u _ => u = .pointer (some ⟨w.heap.size + 1, 1, none⟩)), (fun u _ => u = .slice q tys.length cq), (fun u _ => u = .int .i64 (tys.length : Int)), (fun u _ => u = .pointer (some ⟨w.heap.size + 1, 0, none⟩)), (fun u _ => u = .slice p tsh.length cp), (fun u _ => u = .int .i64 (tys.length : Int)), (fun u _ => u = .bool false), (fun u _ => u = .bool false), (fun u _ => u = .bool false), (fun u _ => u = .pointer (some ⟨w.heap.size + 1, 1, none⟩)), (fun u _ => u = .slice q tys.length cq), (fun u _ => u = .bool true), (fun u _ => u = .bool false), (fun u _ => u = .bool false)] [some 12, some 13, some 14, some 15, some 16, some 17, some 18, some 19, some 20, some 21, some 22, some 23, some 24, some 25, some 26, some 27, some 28, some 29, some 30, some 31, some 32, some 33, some 34, some 35, some 36, some 37, some 38, some 39, some 40, some 41, some 42] #[true, true, true, true, true, true, true, true, true, true, true, true, true, true, true, true, true, true, true, true, true, true, true, true, true, true, true, true, true, true, true] #[true, true, true, true, true, true, true, true, true, true, true, true, true, true, true, true, true, true, true, true, true, true, true, true, true, true, true, true, true, true, true] (by kernel_rfl) rfl (by kernel_rfl) (by kernel_rfl) rfl (by kernel_rfl) (by kernel_rfl) (.cons (carries_eq _) (.cons (carries_eq _) (.cons (carries_eq _) (.cons (carries_eq _) (.cons (carries_eq _) (.cons (carries_eq _) (.cons (carries_eq _) (.cons (carries_eq _) (.cons (carries_eq _) (.cons (carries_eq _) (.cons (carries_eq _) (.cons (carries_eq _) (.cons (carries_eq _) (.cons (carries_eq _) (.cons (carries_eq _) (.cons (carries_eq _) (.cons (carries_eq _) (.cons (carries_eq _) (.cons (carries_eq _) (.cons (carries_eq _) (.cons (carries_eq _) (.cons (carries_eq _) (.cons (carries_eq _) (.cons (carries_eq _) (.cons (carries_eq _) (.cons (carries_eq _) (.cons (carries_eq _) (.cons (carries_eq _) (.cons (carries_eq _) (.cons (carries_eq _) (.cons (carries_eq _) .nil))))))))))))))))))))))))))))))) (fun vs b hvl hvb => ?_)
  obtain ⟨x0, x1, x2, x3, x4, x5, x6, x7, x8, x9, x10, x11, x12, x13, x14, x15, x16, x17, x18, x19, x20, x21, x22, x23, x24, x25, x26, x27, x28, x29, x30, rfl⟩ : ∃ x0 x1 x2 x3 x4 x5 x6 x7 x8 x9 x10 x11 x12 x13 x14 x15 x16 x17 x18 x19 x20 x21 x22 x23 x24 x25 x26 x27 x28 x29 x30, vs = [x0, x1, x2, x3, x4, x5, x6, x7, x8, x9, x10, x11, x12, x13, x14, x15, x16, x17, x18, x19, x20, x21, x22, x23, x24, x25, x26, x27, x28, x29, x30] := lst31 hvl
  clear hvl
  simp only [putAll, Act.put, List.setIfInBounds_toArray, List.set_cons_zero, List.set_cons_succ] at hvb
  subst hvb
  refine ⟨(.snoc (.snoc (.snoc (.snoc (.snoc (.snoc (.snoc (.snoc (.snoc (.snoc (.snoc (.snoc (.snoc (.snoc (.snoc (.snoc (.snoc (.snoc (.snoc (.snoc (.snoc (.snoc (.snoc (.snoc (.snoc (.snoc (.snoc (.snoc (.snoc (.snoc (.snoc .zero (PartOb.intro (d := (some 12)) (r := fun u _ => u = .agg #[.slice a sh.length c, .slice b st.length d, .int .i64 off]) rfl rfl rfl rfl ?po1x0)) (PartOb.intro (d := (some 13)) (r := fun u _ => u = .slice ad data.length cd) rfl rfl rfl rfl ?po1x1)) (PartOb.intro (d := (some 14)) (r := fun u _ => u = .int .i64 (data.length : Int)) rfl rfl rfl rfl ?po1x2)) (PartOb.intro (d := (some 15)) (r := fun u _ => u = .bool true) rfl rfl rfl rfl ?po1x3)) (PartOb.intro (d := (some 16)) (r := fun u _ => u = .bool false) rfl rfl rfl rfl ?po1x4)) (PartOb.intro (d := (some 17)) (r := fun u _ => u = .bool false) rfl rfl rfl rfl ?po1x5)) (PartOb.intro (d := (some 18)) (r := fun u _ => u = .slice ad data.length cd) rfl rfl rfl rfl ?po1x6)) (PartOb.intro (d := (some 19)) (r := fun u _ => u = .bool true) rfl rfl rfl rfl ?po1x7)) (PartOb.intro (d := (some 20)) (r := fun u _ => u = .bool false) rfl rfl rfl rfl ?po1x8)) (PartOb.intro (d := (some 21)) (r := fun u _ => u = .bool false) rfl rfl rfl rfl ?po1x9)) (PartOb.intro (d := (some 22)) (r := fun u _ => u = .bool false) rfl rfl rfl rfl ?po1x10)) (PartOb.intro (d := (some 23)) (r := fun u _ => u = .pointer (some ⟨w.heap.size + 1, 0, none⟩)) rfl rfl rfl rfl ?po1x11)) (PartOb.intro (d := (some 24)) (r := fun u _ => u = .slice p tsh.length cp) rfl rfl rfl rfl ?po1x12)) (PartOb.intro (d := (some 25)) (r := fun u _ => u = .bool true) rfl rfl rfl rfl ?po1x13)) (PartOb.intro (d := (some 26)) (r := fun u _ => u = .bool false) rfl rfl rfl rfl ?po1x14)) (PartOb.intro (d := (some 27)) (r := fun u _ => u = .bool false) rfl rfl rfl rfl ?po1x15)) (PartOb.intro (d := (some 28)) (r := fun u _ => u = .bool false) rfl rfl rfl rfl ?po1x16)) (PartOb.intro (d := (some 29)) (r := fun u _ => u = .pointer (some ⟨w.heap.size + 1, 1, none⟩)) rfl rfl rfl rfl ?po1x17)) (PartOb.intro (d := (some 30)) (r := fun u _ => u = .slice q tys.length cq) rfl rfl rfl rfl ?po1x18)) (PartOb.intro (d := (some 31)) (r := fun u _ => u = .int .i64 (tys.length : Int)) rfl rfl rfl rfl ?po1x19)) (PartOb.intro (d := (some 32)) (r := fun u _ => u = .pointer (some ⟨w.heap.size + 1, 0, none⟩)) rfl rfl rfl rfl ?po1x20)) (PartOb.intro (d := (some 33)) (r := fun u _ => u = .slice p tsh.length cp) rfl rfl rfl rfl ?po1x21)) (PartOb.intro (d := (some 34)) (r := fun u _ => u = .int .i64 (tys.length : Int)) rfl rfl rfl rfl ?po1x22)) (PartOb.intro (d := (some 35)) (r := fun u _ => u = .bool false) rfl rfl rfl rfl ?po1x23)) (PartOb.intro (d := (some 36)) (r := fun u _ => u = .bool false) rfl rfl rfl rfl ?po1x24)) (PartOb.intro (d := (some 37)) (r := fun u _ => u = .bool false) rfl rfl rfl rfl ?po1x25)) (PartOb.intro (d := (some 38)) (r := fun u _ => u = .pointer (some ⟨w.heap.size + 1, 1, none⟩)) rfl rfl rfl rfl ?po1x26)) (PartOb.intro (d := (some 39)) (r := fun u _ => u = .slice q tys.length cq) rfl rfl rfl rfl ?po1x27)) (PartOb.intro (d := (some 40)) (r := fun u _ => u = .bool true) rfl rfl rfl rfl ?po1x28)) (PartOb.intro (d := (some 41)) (r := fun u _ => u = .bool false) rfl rfl rfl rfl ?po1x29)) (PartOb.intro (d := (some 42)) (r := fun u _ => u = .bool false) rfl rfl rfl rfl ?po1x30)), ?pend1, ?pfl1⟩
  case po1x0 =>
    intro w1 hb1 hd KK hK
    clear hd
    have hF := F1.out.next hb1
    have k0 := hF.c 0 0 rfl rfl
    have k1 := hF.c 0 1 rfl rfl
    have k2 := hF.c 0 2 rfl rfl
    simp only [Act.put, List.setIfInBounds_toArray, List.set_cons_zero, List.set_cons_succ] at hK
    go_simp
    first | exact hK.out _ _ (Below.refl _ _) rfl | (have hk := hK.out _ _ (Below.refl _ _) rfl; revert hk; go_simp)
  case po1x1 =>
    intro w1 hb1 hd KK hK
    clear hd
    simp only [Act.put, List.setIfInBounds_toArray, List.set_cons_zero, List.set_cons_succ] at hK
    go_simp
    first | exact hK.out _ _ (Below.refl _ _) rfl | (have hk := hK.out _ _ (Below.refl _ _) rfl; revert hk; go_simp)
  case po1x2 =>
    intro w1 hb1 hd KK hK
    have d1 : x1 = .slice ad data.length cd := hd 1 (by kernel_rfl)
    clear hd
    subst d1
    simp only [Act.put, List.setIfInBounds_toArray, List.set_cons_zero, List.set_cons_succ] at hK
    go_simp
    first | exact hK.out _ _ (Below.refl _ _) rfl | (have hk := hK.out _ _ (Below.refl _ _) rfl; revert hk; go_simp)
  case po1x3 =>
    intro w1 hb1 hd KK hK
    have d0 : x0 = .agg #[.slice a sh.length c, .slice b st.length d, .int .i64 off] := hd 0 (by kernel_rfl)
    have d2 : x2 = .int .i64 (data.length : Int) := hd 2 (by kernel_rfl)
    clear hd
    subst d0
    subst d2
    simp only [Act.put, List.setIfInBounds_toArray, List.set_cons_zero, List.set_cons_succ] at hK
    go_simp
    go_at_call 49
    refine (vgood_any a b c d w1.heap.size sh st off (data.length : Int) w1 ((F1.out.next hb1).lw 0 rfl) ((F1.out.next hb1).lw 1 rfl) (Nat.le_refl _)).mono ?_
    rintro e w2 ⟨rfl, hb⟩
    rw [HC0.out]
    (try go_wp2_with fail)
    first | exact hK.out _ _ hb rfl | (have hk := hK.out _ _ hb rfl; revert hk; go_simp)
  case po1x4 =>
    intro w1 hb1 hd KK hK
    have d3 : x3 = .bool true := hd 3 (by kernel_rfl)
    clear hd
    subst d3
    simp only [Act.put, List.setIfInBounds_toArray, List.set_cons_zero, List.set_cons_succ] at hK
    go_simp
    first | exact hK.out _ _ (Below.refl _ _) rfl | (have hk := hK.out _ _ (Below.refl _ _) rfl; revert hk; go_simp)
  case po1x5 =>
    intro w1 hb1 hd KK hK
    have d3 : x3 = .bool true := hd 3 (by kernel_rfl)
    have d4 : x4 = .bool false := hd 4 (by kernel_rfl)
    clear hd
    subst d3
    subst d4
    simp only [Act.put, List.setIfInBounds_toArray, List.set_cons_zero, List.set_cons_succ] at hK
    go_simp
    first | exact hK.out _ _ (Below.refl _ _) rfl | (have hk := hK.out _ _ (Below.refl _ _) rfl; revert hk; go_simp)
  case po1x6 =>
    intro w1 hb1 hd KK hK
    have d5 : x5 = .bool false := hd 5 (by kernel_rfl)
    clear hd
    subst d5
    simp only [Act.put, List.setIfInBounds_toArray, List.set_cons_zero, List.set_cons_succ] at hK
    go_simp
    first | exact hK.out _ _ (Below.refl _ _) rfl | (have hk := hK.out _ _ (Below.refl _ _) rfl; revert hk; go_simp)
  case po1x7 =>
    intro w1 hb1 hd KK hK
    have d5 : x5 = .bool false := hd 5 (by kernel_rfl)
    have d6 : x6 = .slice ad data.length cd := hd 6 (by kernel_rfl)
    clear hd
    subst d5
    subst d6
    simp only [Act.put, List.setIfInBounds_toArray, List.set_cons_zero, List.set_cons_succ] at hK
    go_simp
    go_at_call 50
    refine (vwords_any _ _ _ data _ ((F1.out.next hb1).lw 2 rfl)).mono ?_
    rintro e w' ⟨rfl, rfl⟩
    rw [HC1.out]
    (try go_wp2_with fail)
    first | exact hK.out _ _ (Below.refl _ _) rfl | (have hk := hK.out _ _ (Below.refl _ _) rfl; revert hk; go_simp)
  case po1x8 =>
    intro w1 hb1 hd KK hK
    have d5 : x5 = .bool false := hd 5 (by kernel_rfl)
    have d7 : x7 = .bool true := hd 7 (by kernel_rfl)
    clear hd
    subst d5
    subst d7
    simp only [Act.put, List.setIfInBounds_toArray, List.set_cons_zero, List.set_cons_succ] at hK
    go_simp
    first | exact hK.out _ _ (Below.refl _ _) rfl | (have hk := hK.out _ _ (Below.refl _ _) rfl; revert hk; go_simp)
  case po1x9 =>
    intro w1 hb1 hd KK hK
    have d5 : x5 = .bool false := hd 5 (by kernel_rfl)
    have d8 : x8 = .bool false := hd 8 (by kernel_rfl)
    clear hd
    subst d5
    subst d8
    simp only [Act.put, List.setIfInBounds_toArray, List.set_cons_zero, List.set_cons_succ] at hK
    go_simp
    first | exact hK.out _ _ (Below.refl _ _) rfl | (have hk := hK.out _ _ (Below.refl _ _) rfl; revert hk; go_simp)
  case po1x10 =>
    intro w1 hb1 hd KK hK
    have d7 : x7 = .bool true := hd 7 (by kernel_rfl)
    have d9 : x9 = .bool false := hd 9 (by kernel_rfl)
    clear hd
    subst d7
    subst d9
    simp only [Act.put, List.setIfInBounds_toArray, List.set_cons_zero, List.set_cons_succ] at hK
    go_simp
    first | exact hK.out _ _ (Below.refl _ _) rfl | (have hk := hK.out _ _ (Below.refl _ _) rfl; revert hk; go_simp)
  case po1x11 =>
    intro w1 hb1 hd KK hK
    have d10 : x10 = .bool false := hd 10 (by kernel_rfl)
    clear hd
    subst d10
    simp only [Act.put, List.setIfInBounds_toArray, List.set_cons_zero, List.set_cons_succ] at hK
    go_simp
    first | exact hK.out _ _ (Below.refl _ _) rfl | (have hk := hK.out _ _ (Below.refl _ _) rfl; revert hk; go_simp)
  case po1x12 =>
    intro w1 hb1 hd KK hK
    have d10 : x10 = .bool false := hd 10 (by kernel_rfl)
    have d11 : x11 = .pointer (some ⟨w.heap.size + 1, 0, none⟩) := hd 11 (by kernel_rfl)
    clear hd
    subst d10
    subst d11
    have hF := F1.out.next hb1
    have k0 := hF.c 1 0 rfl rfl
    have k1 := hF.c 1 1 rfl rfl
    simp only [Act.put, List.setIfInBounds_toArray, List.set_cons_zero, List.set_cons_succ] at hK
    go_simp
    first | exact hK.out _ _ (Below.refl _ _) rfl | (have hk := hK.out _ _ (Below.refl _ _) rfl; revert hk; go_simp)
  case po1x13 =>
    intro w1 hb1 hd KK hK
    have d10 : x10 = .bool false := hd 10 (by kernel_rfl)
    have d12 : x12 = .slice p tsh.length cp := hd 12 (by kernel_rfl)
    clear hd
    subst d10
    subst d12
    simp only [Act.put, List.setIfInBounds_toArray, List.set_cons_zero, List.set_cons_succ] at hK
    go_simp
    go_at_call 54
    refine (good_any _ _ _ tsh _ ((F1.out.next hb1).lw 3 rfl)).mono ?_
    rintro e w' ⟨rfl, rfl⟩
    rw [HC2.out]
    (try go_wp2_with fail)
    first | exact hK.out _ _ (Below.refl _ _) rfl | (have hk := hK.out _ _ (Below.refl _ _) rfl; revert hk; go_simp)
  case po1x14 =>
    intro w1 hb1 hd KK hK
    have d10 : x10 = .bool false := hd 10 (by kernel_rfl)
    have d13 : x13 = .bool true := hd 13 (by kernel_rfl)
    clear hd
    subst d10
    subst d13
    simp only [Act.put, List.setIfInBounds_toArray, List.set_cons_zero, List.set_cons_succ] at hK
    go_simp
    first | exact hK.out _ _ (Below.refl _ _) rfl | (have hk := hK.out _ _ (Below.refl _ _) rfl; revert hk; go_simp)
  case po1x15 =>
    intro w1 hb1 hd KK hK
    have d10 : x10 = .bool false := hd 10 (by kernel_rfl)
    have d14 : x14 = .bool false := hd 14 (by kernel_rfl)
    clear hd
    subst d10
    subst d14
    simp only [Act.put, List.setIfInBounds_toArray, List.set_cons_zero, List.set_cons_succ] at hK
    go_simp
    first | exact hK.out _ _ (Below.refl _ _) rfl | (have hk := hK.out _ _ (Below.refl _ _) rfl; revert hk; go_simp)
  case po1x16 =>
    intro w1 hb1 hd KK hK
    have d13 : x13 = .bool true := hd 13 (by kernel_rfl)
    have d15 : x15 = .bool false := hd 15 (by kernel_rfl)
    clear hd
    subst d13
    subst d15
    simp only [Act.put, List.setIfInBounds_toArray, List.set_cons_zero, List.set_cons_succ] at hK
    go_simp
    first | exact hK.out _ _ (Below.refl _ _) rfl | (have hk := hK.out _ _ (Below.refl _ _) rfl; revert hk; go_simp)
  case po1x17 =>
    intro w1 hb1 hd KK hK
    have d16 : x16 = .bool false := hd 16 (by kernel_rfl)
    clear hd
    subst d16
    simp only [Act.put, List.setIfInBounds_toArray, List.set_cons_zero, List.set_cons_succ] at hK
    go_simp
    first | exact hK.out _ _ (Below.refl _ _) rfl | (have hk := hK.out _ _ (Below.refl _ _) rfl; revert hk; go_simp)
  case po1x18 =>
    intro w1 hb1 hd KK hK
    have d16 : x16 = .bool false := hd 16 (by kernel_rfl)
    have d17 : x17 = .pointer (some ⟨w.heap.size + 1, 1, none⟩) := hd 17 (by kernel_rfl)
    clear hd
    subst d16
    subst d17
    have hF := F1.out.next hb1
    have k0 := hF.c 1 0 rfl rfl
    have k1 := hF.c 1 1 rfl rfl
    simp only [Act.put, List.setIfInBounds_toArray, List.set_cons_zero, List.set_cons_succ] at hK
    go_simp
    first | exact hK.out _ _ (Below.refl _ _) rfl | (have hk := hK.out _ _ (Below.refl _ _) rfl; revert hk; go_simp)
  case po1x19 =>
    intro w1 hb1 hd KK hK
    have d16 : x16 = .bool false := hd 16 (by kernel_rfl)
    have d18 : x18 = .slice q tys.length cq := hd 18 (by kernel_rfl)
    clear hd
    subst d16
    subst d18
    simp only [Act.put, List.setIfInBounds_toArray, List.set_cons_zero, List.set_cons_succ] at hK
    go_simp
    first | exact hK.out _ _ (Below.refl _ _) rfl | (have hk := hK.out _ _ (Below.refl _ _) rfl; revert hk; go_simp)
  case po1x20 =>
    intro w1 hb1 hd KK hK
    have d16 : x16 = .bool false := hd 16 (by kernel_rfl)
    clear hd
    subst d16
    simp only [Act.put, List.setIfInBounds_toArray, List.set_cons_zero, List.set_cons_succ] at hK
    go_simp
    first | exact hK.out _ _ (Below.refl _ _) rfl | (have hk := hK.out _ _ (Below.refl _ _) rfl; revert hk; go_simp)
  case po1x21 =>
    intro w1 hb1 hd KK hK
    have d16 : x16 = .bool false := hd 16 (by kernel_rfl)
    have d20 : x20 = .pointer (some ⟨w.heap.size + 1, 0, none⟩) := hd 20 (by kernel_rfl)
    clear hd
    subst d16
    subst d20
    have hF := F1.out.next hb1
    have k0 := hF.c 1 0 rfl rfl
    have k1 := hF.c 1 1 rfl rfl
    simp only [Act.put, List.setIfInBounds_toArray, List.set_cons_zero, List.set_cons_succ] at hK
    go_simp
    first | exact hK.out _ _ (Below.refl _ _) rfl | (have hk := hK.out _ _ (Below.refl _ _) rfl; revert hk; go_simp)
  case po1x22 =>
    intro w1 hb1 hd KK hK
    have d16 : x16 = .bool false := hd 16 (by kernel_rfl)
    have d21 : x21 = .slice p tsh.length cp := hd 21 (by kernel_rfl)
    clear hd
    subst d16
    subst d21
    simp only [Act.put, List.setIfInBounds_toArray, List.set_cons_zero, List.set_cons_succ] at hK
    go_simp
    go_at_call 52
    refine (size_any _ _ _ tsh _ ((F1.out.next hb1).lw 3 rfl) HC2.out).mono ?_
    rintro e w' ⟨rfl, rfl⟩
    rw [← HC3.out]
    (try go_wp2_with fail)
    first | exact hK.out _ _ (Below.refl _ _) rfl | (have hk := hK.out _ _ (Below.refl _ _) rfl; revert hk; go_simp)
  case po1x23 =>
    intro w1 hb1 hd KK hK
    have d16 : x16 = .bool false := hd 16 (by kernel_rfl)
    have d19 : x19 = .int .i64 (tys.length : Int) := hd 19 (by kernel_rfl)
    have d22 : x22 = .int .i64 (tys.length : Int) := hd 22 (by kernel_rfl)
    clear hd
    subst d16
    subst d19
    subst d22
    simp only [Act.put, List.setIfInBounds_toArray, List.set_cons_zero, List.set_cons_succ] at hK
    go_simp
    first | exact hK.out _ _ (Below.refl _ _) rfl | (have hk := hK.out _ _ (Below.refl _ _) rfl; revert hk; go_simp)
  case po1x24 =>
    intro w1 hb1 hd KK hK
    have d16 : x16 = .bool false := hd 16 (by kernel_rfl)
    have d23 : x23 = .bool false := hd 23 (by kernel_rfl)
    clear hd
    subst d16
    subst d23
    simp only [Act.put, List.setIfInBounds_toArray, List.set_cons_zero, List.set_cons_succ] at hK
    go_simp
    first | exact hK.out _ _ (Below.refl _ _) rfl | (have hk := hK.out _ _ (Below.refl _ _) rfl; revert hk; go_simp)
  case po1x25 =>
    intro w1 hb1 hd KK hK
    have d22 : x22 = .int .i64 (tys.length : Int) := hd 22 (by kernel_rfl)
    have d24 : x24 = .bool false := hd 24 (by kernel_rfl)
    clear hd
    subst d22
    subst d24
    simp only [Act.put, List.setIfInBounds_toArray, List.set_cons_zero, List.set_cons_succ] at hK
    go_simp
    first | exact hK.out _ _ (Below.refl _ _) rfl | (have hk := hK.out _ _ (Below.refl _ _) rfl; revert hk; go_simp)
  case po1x26 =>
    intro w1 hb1 hd KK hK
    have d25 : x25 = .bool false := hd 25 (by kernel_rfl)
    clear hd
    subst d25
    simp only [Act.put, List.setIfInBounds_toArray, List.set_cons_zero, List.set_cons_succ] at hK
    go_simp
    first | exact hK.out _ _ (Below.refl _ _) rfl | (have hk := hK.out _ _ (Below.refl _ _) rfl; revert hk; go_simp)
  case po1x27 =>
    intro w1 hb1 hd KK hK
    have d25 : x25 = .bool false := hd 25 (by kernel_rfl)
    have d26 : x26 = .pointer (some ⟨w.heap.size + 1, 1, none⟩) := hd 26 (by kernel_rfl)
    clear hd
    subst d25
    subst d26
    have hF := F1.out.next hb1
    have k0 := hF.c 1 0 rfl rfl
    have k1 := hF.c 1 1 rfl rfl
    simp only [Act.put, List.setIfInBounds_toArray, List.set_cons_zero, List.set_cons_succ] at hK
    go_simp
    first | exact hK.out _ _ (Below.refl _ _) rfl | (have hk := hK.out _ _ (Below.refl _ _) rfl; revert hk; go_simp)
  case po1x28 =>
    intro w1 hb1 hd KK hK
    have d25 : x25 = .bool false := hd 25 (by kernel_rfl)
    have d27 : x27 = .slice q tys.length cq := hd 27 (by kernel_rfl)
    clear hd
    subst d25
    subst d27
    simp only [Act.put, List.setIfInBounds_toArray, List.set_cons_zero, List.set_cons_succ] at hK
    go_simp
    go_at_call 50
    refine (vwords_any _ _ _ tys _ ((F1.out.next hb1).lw 4 rfl)).mono ?_
    rintro e w' ⟨rfl, rfl⟩
    rw [HC4.out]
    (try go_wp2_with fail)
    first | exact hK.out _ _ (Below.refl _ _) rfl | (have hk := hK.out _ _ (Below.refl _ _) rfl; revert hk; go_simp)
  case po1x29 =>
    intro w1 hb1 hd KK hK
    have d25 : x25 = .bool false := hd 25 (by kernel_rfl)
    have d28 : x28 = .bool true := hd 28 (by kernel_rfl)
    clear hd
    subst d25
    subst d28
    simp only [Act.put, List.setIfInBounds_toArray, List.set_cons_zero, List.set_cons_succ] at hK
    go_simp
    first | exact hK.out _ _ (Below.refl _ _) rfl | (have hk := hK.out _ _ (Below.refl _ _) rfl; revert hk; go_simp)
  case po1x30 =>
    intro w1 hb1 hd KK hK
    have d25 : x25 = .bool false := hd 25 (by kernel_rfl)
    have d29 : x29 = .bool false := hd 29 (by kernel_rfl)
    clear hd
    subst d25
    subst d29
    simp only [Act.put, List.setIfInBounds_toArray, List.set_cons_zero, List.set_cons_succ] at hK
    go_simp
    first | exact hK.out _ _ (Below.refl _ _) rfl | (have hk := hK.out _ _ (Below.refl _ _) rfl; revert hk; go_simp)
  case pfl1 => (intro f hf; cases hf)
  case pend1 =>
  intro w1 hb1 hR hD
  have d0 : x0 = .agg #[.slice a sh.length c, .slice b st.length d, .int .i64 off] := hR 0 (by decide)
  have d1 : x1 = .slice ad data.length cd := hR 1 (by decide)
  have d2 : x2 = .int .i64 (data.length : Int) := hR 2 (by decide)
  have d3 : x3 = .bool true := hR 3 (by decide)
  have d4 : x4 = .bool false := hR 4 (by decide)
  have d5 : x5 = .bool false := hR 5 (by decide)
  have d6 : x6 = .slice ad data.length cd := hR 6 (by decide)
  have d7 : x7 = .bool true := hR 7 (by decide)
  have d8 : x8 = .bool false := hR 8 (by decide)
  have d9 : x9 = .bool false := hR 9 (by decide)
  have d10 : x10 = .bool false := hR 10 (by decide)
  have d11 : x11 = .pointer (some ⟨w.heap.size + 1, 0, none⟩) := hR 11 (by decide)
  have d12 : x12 = .slice p tsh.length cp := hR 12 (by decide)
  have d13 : x13 = .bool true := hR 13 (by decide)
  have d14 : x14 = .bool false := hR 14 (by decide)
  have d15 : x15 = .bool false := hR 15 (by decide)
  have d16 : x16 = .bool false := hR 16 (by decide)
  have d17 : x17 = .pointer (some ⟨w.heap.size + 1, 1, none⟩) := hR 17 (by decide)
  have d18 : x18 = .slice q tys.length cq := hR 18 (by decide)
  have d19 : x19 = .int .i64 (tys.length : Int) := hR 19 (by decide)
  have d20 : x20 = .pointer (some ⟨w.heap.size + 1, 0, none⟩) := hR 20 (by decide)
  have d21 : x21 = .slice p tsh.length cp := hR 21 (by decide)
  have d22 : x22 = .int .i64 (tys.length : Int) := hR 22 (by decide)
  have d23 : x23 = .bool false := hR 23 (by decide)
  have d24 : x24 = .bool false := hR 24 (by decide)
  have d25 : x25 = .bool false := hR 25 (by decide)
  have d26 : x26 = .pointer (some ⟨w.heap.size + 1, 1, none⟩) := hR 26 (by decide)
  have d27 : x27 = .slice q tys.length cq := hR 27 (by decide)
  have d28 : x28 = .bool true := hR 28 (by decide)
  have d29 : x29 = .bool false := hR 29 (by decide)
  have d30 : x30 = .bool false := hR 30 (by decide)
  clear hR hD
  subst d0
  subst d1
  subst d2
  subst d3
  subst d4
  subst d5
  subst d6
  subst d7
  subst d8
  subst d9
  subst d10
  subst d11
  subst d12
  subst d13
  subst d14
  subst d15
  subst d16
  subst d17
  subst d18
  subst d19
  subst d20
  subst d21
  subst d22
  subst d23
  subst d24
  subst d25
  subst d26
  subst d27
  subst d28
  subst d29
  subst d30
  refine wpAny_done (by kernel_rfl) ?_ _
  have F2 := Lib.hid (F1.out.next hb1)
  clear hb1 F1
  have d0_0 := F2.out.c 0 0 rfl rfl
  have d0_1 := F2.out.c 0 1 rfl rfl
  have d0_2 := F2.out.c 0 2 rfl rfl
  have d1_0 := F2.out.c 1 0 rfl rfl
  have d1_1 := F2.out.c 1 1 rfl rfl
  have d2_0 := F2.out.c 2 0 rfl rfl
  have d3_0 := F2.out.c 3 0 rfl rfl
  have df2_0 := F2.out.f 2 0 rfl rfl
  have df3_0 := F2.out.f 3 0 rfl rfl
  go_wp2_with (go_at_call 55; refine (slicesEqual_any _ _ _ _ _ tsh sh _ (F2.out.lw 3 rfl) (F2.out.lw 0 rfl)).mono ?_; rintro e w' ⟨rfl, q, rfl⟩; rw [decide_eq_false HNE.out]; have F3 := Lib.hid (F2.out.drewN q); clear d0_0 d0_1 d0_2 d1_0 d1_1 d2_0 d3_0 df2_0 df3_0; have e2_0 := F3.out.c 2 0 rfl rfl; have e3_0 := F3.out.c 3 0 rfl rfl; have ef2_0 := F3.out.f 2 0 rfl rfl; have ef3_0 := F3.out.f 3 0 rfl rfl)
  have FZ := (F3.out.set 2 rfl (by simp) [.slice none 0 0] rfl).set 3 rfl (by simp) [.int .i64 2] rfl
  simp only [setL, Nat.reduceAdd, List.set_cons_zero, List.set_cons_succ] at FZ
  have z0 := FZ.c 2 0 rfl rfl
  have z1 := FZ.c 3 0 rfl rfl
  refine bodyPost_ret (v := .tuple #[.slice none 0 0, .int .i64 2]) ?_ rfl (retWV_none FZ)
  rw [results_ccV rfl]
  go_simp
attribute [local go_sem] Oper.semAt_some
set_option maxRecDepth 100000 in
set_option maxHeartbeats 4000000 in
theorem vlay_good (a b ad p q : Option Addr) (c d cd cp cq : Nat) (sh st data tys : List Int) (off : Int) (w : World) (h : Ints .i64 w w.heap.size a sh) (h2 : Ints .i64 w w.heap.size b st) (h3 : Ints .i64 w w.heap.size ad data) (h5 : Ints .i64 w w.heap.size p sh) (h6 : Ints .i64 w w.heap.size q tys) (hc0 : viewB sh st off data.length = true) (hc1 : data.all isW = true) (hc3 : (tys.length : Int) = prodI sh) (hc4 : tys.all isW = true) :
    Calls Try.prog 17 #[.agg #[.slice a sh.length c, .slice b st.length d, .int .i64 off], .agg #[.slice p sh.length cp, .slice q tys.length cq], .slice ad data.length cd] w (RetWV w (layR sh st off tys data) (layZ sh st off)) := by
  have HA := Lib.hid h
  have HB := Lib.hid h2
  have HD := Lib.hid h3
  have HP := Lib.hid h5
  have HQ := Lib.hid h6
  have hl1 := h.len
  have hl2 := h2.len
  have hl3 := h3.len
  have hl5 := h5.len
  have hl6 := h6.len
  have hv0 := viewB_iff.1 hc0
  have HG := Lib.hid hv0.1
  have hN64 := hv0.2.2.2.1
  have hn1 : 1 ≤ data.length := by have := hv0.2.2.1; have := hv0.2.2.2.2.1; omega
  have hP := goodB_prod hv0.1
  have HV := Lib.hid hc0
  have HC0 := Lib.hid hc0
  have HC1 := Lib.hid hc1
  have HC2 := HG
  have HC3 := Lib.hid hc3
  have HC4 := Lib.hid hc4
  obtain ⟨N, hN⟩ : ∃ N : Nat, prodI sh = N := ⟨(prodI sh).toNat, by omega⟩
  have hNt : tys.length = N := by omega
  have HN := Lib.hid hN
  have HNT := Lib.hid hNt
  have hN2 : N ≤ 65536 := by omega
  clear h h2 h3 h5 h6 hc0 hc1 hc3 hc4 hP hN hv0 hNt
  refine (callsIn_wide (n := 20)).1 ?_
  refine callsIn_of_wp_marks Try.func17 rfl trivial ?_ rfl
  simp only [Try.ntmps17, List.size_toArray, List.length_cons, List.length_nil, Nat.reduceAdd, Nat.reduceSub, Array.replicate_succ, Array.replicate_zero, List.push_toArray, List.append_toArray, List.nil_append, List.cons_append]
  refine wpIn_wide.2 ?_
  have F1 := Lib.hid (((((Fr.start (w := w) (I := [(.i64, a, sh), (.i64, b, st), (.i64, ad, data), (.i64, p, sh), (.i64, q, tys)]) (by intro z hz; simp at hz; rcases hz with rfl | rfl | rfl | rfl | rfl; exact HA.out; exact HB.out; exact HD.out; exact HP.out; exact HQ.out)).box1 (b := w.heap.size) (by simp) [.slice a sh.length c, .slice b st.length d, .int .i64 off] 25).box1 (b := w.heap.size + 1) (by simp) [.slice p sh.length cp, .slice q tys.length cq] 28).box1 (b := w.heap.size + 1 + 1) (by simp) [.slice none 0 0] 26).box1 (b := w.heap.size + 1 + 1 + 1) (by simp) [.int .i64 0] 40)
  simp only [List.nil_append, List.cons_append] at F1
  go_upto_region 1 with fail
  obtain ⟨W0, hW0⟩ : ∃ W0, ((((w.alloc (.cells #[.slice a sh.length c, .slice b st.length d, .int .i64 off] 25)).alloc (.cells #[.slice p sh.length cp, .slice q tys.length cq] 28)).alloc (.cells #[.slice none 0 0] 26)).alloc (.cells #[.int .i64 0] 40)) = W0 := ⟨_, rfl⟩
  rw [hW0] at F1 ⊢
  clear hW0
  refine wp_region_parts2 (w := W0) 31 0 none [] [(fun u _ => u = .agg #[.slice a sh.length c, .slice b st.length d, .int .i64 off]), (fun u _ => u = .slice ad data.length cd), (fun u _ => u = .int .i64 (data.length : Int)), (fun u _ => u = .bool true), (fun u _ => u = .bool false), (fun u _ => u = .bool false), (fun u _ => u = .slice ad data.length cd), (fun u _ => u = .bool true), (fun u _ => u = .bool false), (fun u _ => u = .bool false), (fun u _ => u = .bool false), (fun u _ => u = .pointer (some ⟨w.heap.size + 1, 0, none⟩)), (fun u _ => u = .slice p sh.length cp), (fun u _ => u = .bool true), (fun u _ => u = .bool false), (fun u _ => u = .bool false), (fun u _ => u = .bool false), (fun u _ => u = .pointer (some ⟨w.heap.size + 1, 1, none⟩)), (fun u _ => u = .slice q tys.length cq), (fun u _ => u = .int .i64 (tys.length : Int)), (fun u _ => u = .pointer (some ⟨w.heap.size + 1, 0, none⟩)), (fun u _ => u = .slice p sh.length cp), (fun u _ => u = .int .i64 (tys.length : Int)), (fun u _ => u = .bool false), (fun u _ => u = .bool false), (fun u _ => u = .bool false), (fun u _ => u = .pointer (some ⟨w.heap.size + 1, 1, none⟩)), (fun u _ => u = .slice q tys.length cq), (fun u _ => u = .bool true), (fun u _ => u = .bool false), (fun u _ => u = .bool false)] [some 12, some 13, some 14, some 15, some 16, some 17, some 18, some 19, some 20, some 21, some 22, some 23, some 24, some 25, some 26, some 27, some 28, some 29, some 30, some 31, some 32, some 33, some 34, some 35, some 36, some 37, some 38, some 39, some 40, some 41, some 42] #[true, true, true, true, true, true, true, true, true, true, true, true, true, true, true, true, true, true, true, true, true, true, true, true, true, true, true, true, true, true, true] #[true, true, true, true, true, true, true, true, true, true, true, true, true, true, true, true, true, true, true, true, true, true, true, true, true, true, true, true, true, true, true] (by kernel_rfl) rfl (by kernel_rfl) (by kernel_rfl) rfl (by kernel_rfl) (by kernel_rfl) (.cons (carries_eq _) (.cons (carries_eq _) (.cons (carries_eq _) (.cons (carries_eq _) (.cons (carries_eq _) (.cons (carries_eq _) (.cons (carries_eq _) (.cons (carries_eq _) (.cons (carries_eq _) (.cons (carries_eq _) (.cons (carries_eq _) (.cons (carries_eq _) (.cons (carries_eq _) (.cons (carries_eq _) (.cons (carries_eq _) (.cons (carries_eq _) (.cons (carries_eq _) (.cons (carries_eq _) (.cons (carries_eq _) (.cons (carries_eq _) (.cons (carries_eq _) (.cons (carries_eq _) (.cons (carries_eq _) (.cons (carries_eq _) (.cons (carries_eq _) (.cons (carries_eq _) (.cons (carries_eq _) (.cons (carries_eq _) (.cons (carries_eq _) (.cons (carries_eq _) (.cons (carries_eq _) .nil))))))))))))))))))))))))))))))) (fun vs b hvl hvb => ?_)
  obtain ⟨x0, x1, x2, x3, x4, x5, x6, x7, x8, x9, x10, x11, x12, x13, x14, x15, x16, x17, x18, x19, x20, x21, x22, x23, x24, x25, x26, x27, x28, x29, x30, rfl⟩ : ∃ x0 x1 x2 x3 x4 x5 x6 x7 x8 x9 x10 x11 x12 x13 x14 x15 x16 x17 x18 x19 x20 x21 x22 x23 x24 x25 x26 x27 x28 x29 x30, vs = [x0, x1, x2, x3, x4, x5, x6, x7, x8, x9, x10, x11, x12, x13, x14, x15, x16, x17, x18, x19, x20, x21, x22, x23, x24, x25, x26, x27, x28, x29, x30] := lst31 hvl
  clear hvl
  simp only [putAll, Act.put, List.setIfInBounds_toArray, List.set_cons_zero, List.set_cons_succ] at hvb
  subst hvb
  refine ⟨(.snoc (.snoc (.snoc (.snoc (.snoc (.snoc (.snoc (.snoc (.snoc (.snoc (.snoc (.snoc (.snoc (.snoc (.snoc (.snoc (.snoc (.snoc (.snoc (.snoc (.snoc (.snoc (.snoc (.snoc (.snoc (.snoc (.snoc (.snoc (.snoc (.snoc (.snoc .zero (PartOb.intro (d := (some 12)) (r := fun u _ => u = .agg #[.slice a sh.length c, .slice b st.length d, .int .i64 off]) rfl rfl rfl rfl ?po1x0)) (PartOb.intro (d := (some 13)) (r := fun u _ => u = .slice ad data.length cd) rfl rfl rfl rfl ?po1x1)) (PartOb.intro (d := (some 14)) (r := fun u _ => u = .int .i64 (data.length : Int)) rfl rfl rfl rfl ?po1x2)) (PartOb.intro (d := (some 15)) (r := fun u _ => u = .bool true) rfl rfl rfl rfl ?po1x3)) (PartOb.intro (d := (some 16)) (r := fun u _ => u = .bool false) rfl rfl rfl rfl ?po1x4)) (PartOb.intro (d := (some 17)) (r := fun u _ => u = .bool false) rfl rfl rfl rfl ?po1x5)) (PartOb.intro (d := (some 18)) (r := fun u _ => u = .slice ad data.length cd) rfl rfl rfl rfl ?po1x6)) (PartOb.intro (d := (some 19)) (r := fun u _ => u = .bool true) rfl rfl rfl rfl ?po1x7)) (PartOb.intro (d := (some 20)) (r := fun u _ => u = .bool false) rfl rfl rfl rfl ?po1x8)) (PartOb.intro (d := (some 21)) (r := fun u _ => u = .bool false) rfl rfl rfl rfl ?po1x9)) (PartOb.intro (d := (some 22)) (r := fun u _ => u = .bool false) rfl rfl rfl rfl ?po1x10)) (PartOb.intro (d := (some 23)) (r := fun u _ => u = .pointer (some ⟨w.heap.size + 1, 0, none⟩)) rfl rfl rfl rfl ?po1x11)) (PartOb.intro (d := (some 24)) (r := fun u _ => u = .slice p sh.length cp) rfl rfl rfl rfl ?po1x12)) (PartOb.intro (d := (some 25)) (r := fun u _ => u = .bool true) rfl rfl rfl rfl ?po1x13)) (PartOb.intro (d := (some 26)) (r := fun u _ => u = .bool false) rfl rfl rfl rfl ?po1x14)) (PartOb.intro (d := (some 27)) (r := fun u _ => u = .bool false) rfl rfl rfl rfl ?po1x15)) (PartOb.intro (d := (some 28)) (r := fun u _ => u = .bool false) rfl rfl rfl rfl ?po1x16)) (PartOb.intro (d := (some 29)) (r := fun u _ => u = .pointer (some ⟨w.heap.size + 1, 1, none⟩)) rfl rfl rfl rfl ?po1x17)) (PartOb.intro (d := (some 30)) (r := fun u _ => u = .slice q tys.length cq) rfl rfl rfl rfl ?po1x18)) (PartOb.intro (d := (some 31)) (r := fun u _ => u = .int .i64 (tys.length : Int)) rfl rfl rfl rfl ?po1x19)) (PartOb.intro (d := (some 32)) (r := fun u _ => u = .pointer (some ⟨w.heap.size + 1, 0, none⟩)) rfl rfl rfl rfl ?po1x20)) (PartOb.intro (d := (some 33)) (r := fun u _ => u = .slice p sh.length cp) rfl rfl rfl rfl ?po1x21)) (PartOb.intro (d := (some 34)) (r := fun u _ => u = .int .i64 (tys.length : Int)) rfl rfl rfl rfl ?po1x22)) (PartOb.intro (d := (some 35)) (r := fun u _ => u = .bool false) rfl rfl rfl rfl ?po1x23)) (PartOb.intro (d := (some 36)) (r := fun u _ => u = .bool false) rfl rfl rfl rfl ?po1x24)) (PartOb.intro (d := (some 37)) (r := fun u _ => u = .bool false) rfl rfl rfl rfl ?po1x25)) (PartOb.intro (d := (some 38)) (r := fun u _ => u = .pointer (some ⟨w.heap.size + 1, 1, none⟩)) rfl rfl rfl rfl ?po1x26)) (PartOb.intro (d := (some 39)) (r := fun u _ => u = .slice q tys.length cq) rfl rfl rfl rfl ?po1x27)) (PartOb.intro (d := (some 40)) (r := fun u _ => u = .bool true) rfl rfl rfl rfl ?po1x28)) (PartOb.intro (d := (some 41)) (r := fun u _ => u = .bool false) rfl rfl rfl rfl ?po1x29)) (PartOb.intro (d := (some 42)) (r := fun u _ => u = .bool false) rfl rfl rfl rfl ?po1x30)), ?pend1, ?pfl1⟩
  case po1x0 =>
    intro w1 hb1 hd KK hK
    clear hd
    have hF := F1.out.next hb1
    have k0 := hF.c 0 0 rfl rfl
    have k1 := hF.c 0 1 rfl rfl
    have k2 := hF.c 0 2 rfl rfl
    simp only [Act.put, List.setIfInBounds_toArray, List.set_cons_zero, List.set_cons_succ] at hK
    go_simp
    first | exact hK.out _ _ (Below.refl _ _) rfl | (have hk := hK.out _ _ (Below.refl _ _) rfl; revert hk; go_simp)
  case po1x1 =>
    intro w1 hb1 hd KK hK
    clear hd
    simp only [Act.put, List.setIfInBounds_toArray, List.set_cons_zero, List.set_cons_succ] at hK
    go_simp
    first | exact hK.out _ _ (Below.refl _ _) rfl | (have hk := hK.out _ _ (Below.refl _ _) rfl; revert hk; go_simp)
  case po1x2 =>
    intro w1 hb1 hd KK hK
    have d1 : x1 = .slice ad data.length cd := hd 1 (by kernel_rfl)
    clear hd
    subst d1
    simp only [Act.put, List.setIfInBounds_toArray, List.set_cons_zero, List.set_cons_succ] at hK
    go_simp
    first | exact hK.out _ _ (Below.refl _ _) rfl | (have hk := hK.out _ _ (Below.refl _ _) rfl; revert hk; go_simp)
  case po1x3 =>
    intro w1 hb1 hd KK hK
    have d0 : x0 = .agg #[.slice a sh.length c, .slice b st.length d, .int .i64 off] := hd 0 (by kernel_rfl)
    have d2 : x2 = .int .i64 (data.length : Int) := hd 2 (by kernel_rfl)
    clear hd
    subst d0
    subst d2
    simp only [Act.put, List.setIfInBounds_toArray, List.set_cons_zero, List.set_cons_succ] at hK
    go_simp
    go_at_call 49
    refine (vgood_any a b c d w1.heap.size sh st off (data.length : Int) w1 ((F1.out.next hb1).lw 0 rfl) ((F1.out.next hb1).lw 1 rfl) (Nat.le_refl _)).mono ?_
    rintro e w2 ⟨rfl, hb⟩
    rw [HC0.out]
    (try go_wp2_with fail)
    first | exact hK.out _ _ hb rfl | (have hk := hK.out _ _ hb rfl; revert hk; go_simp)
  case po1x4 =>
    intro w1 hb1 hd KK hK
    have d3 : x3 = .bool true := hd 3 (by kernel_rfl)
    clear hd
    subst d3
    simp only [Act.put, List.setIfInBounds_toArray, List.set_cons_zero, List.set_cons_succ] at hK
    go_simp
    first | exact hK.out _ _ (Below.refl _ _) rfl | (have hk := hK.out _ _ (Below.refl _ _) rfl; revert hk; go_simp)
  case po1x5 =>
    intro w1 hb1 hd KK hK
    have d3 : x3 = .bool true := hd 3 (by kernel_rfl)
    have d4 : x4 = .bool false := hd 4 (by kernel_rfl)
    clear hd
    subst d3
    subst d4
    simp only [Act.put, List.setIfInBounds_toArray, List.set_cons_zero, List.set_cons_succ] at hK
    go_simp
    first | exact hK.out _ _ (Below.refl _ _) rfl | (have hk := hK.out _ _ (Below.refl _ _) rfl; revert hk; go_simp)
  case po1x6 =>
    intro w1 hb1 hd KK hK
    have d5 : x5 = .bool false := hd 5 (by kernel_rfl)
    clear hd
    subst d5
    simp only [Act.put, List.setIfInBounds_toArray, List.set_cons_zero, List.set_cons_succ] at hK
    go_simp
    first | exact hK.out _ _ (Below.refl _ _) rfl | (have hk := hK.out _ _ (Below.refl _ _) rfl; revert hk; go_simp)
  case po1x7 =>
    intro w1 hb1 hd KK hK
    have d5 : x5 = .bool false := hd 5 (by kernel_rfl)
    have d6 : x6 = .slice ad data.length cd := hd 6 (by kernel_rfl)
    clear hd
    subst d5
    subst d6
    simp only [Act.put, List.setIfInBounds_toArray, List.set_cons_zero, List.set_cons_succ] at hK
    go_simp
    go_at_call 50
    refine (vwords_any _ _ _ data _ ((F1.out.next hb1).lw 2 rfl)).mono ?_
    rintro e w' ⟨rfl, rfl⟩
    rw [HC1.out]
    (try go_wp2_with fail)
    first | exact hK.out _ _ (Below.refl _ _) rfl | (have hk := hK.out _ _ (Below.refl _ _) rfl; revert hk; go_simp)
  case po1x8 =>
    intro w1 hb1 hd KK hK
    have d5 : x5 = .bool false := hd 5 (by kernel_rfl)
    have d7 : x7 = .bool true := hd 7 (by kernel_rfl)
    clear hd
    subst d5
    subst d7
    simp only [Act.put, List.setIfInBounds_toArray, List.set_cons_zero, List.set_cons_succ] at hK
    go_simp
    first | exact hK.out _ _ (Below.refl _ _) rfl | (have hk := hK.out _ _ (Below.refl _ _) rfl; revert hk; go_simp)
  case po1x9 =>
    intro w1 hb1 hd KK hK
    have d5 : x5 = .bool false := hd 5 (by kernel_rfl)
    have d8 : x8 = .bool false := hd 8 (by kernel_rfl)
    clear hd
    subst d5
    subst d8
    simp only [Act.put, List.setIfInBounds_toArray, List.set_cons_zero, List.set_cons_succ] at hK
    go_simp
    first | exact hK.out _ _ (Below.refl _ _) rfl | (have hk := hK.out _ _ (Below.refl _ _) rfl; revert hk; go_simp)
  case po1x10 =>
    intro w1 hb1 hd KK hK
    have d7 : x7 = .bool true := hd 7 (by kernel_rfl)
    have d9 : x9 = .bool false := hd 9 (by kernel_rfl)
    clear hd
    subst d7
    subst d9
    simp only [Act.put, List.setIfInBounds_toArray, List.set_cons_zero, List.set_cons_succ] at hK
    go_simp
    first | exact hK.out _ _ (Below.refl _ _) rfl | (have hk := hK.out _ _ (Below.refl _ _) rfl; revert hk; go_simp)
  case po1x11 =>
    intro w1 hb1 hd KK hK
    have d10 : x10 = .bool false := hd 10 (by kernel_rfl)
    clear hd
    subst d10
    simp only [Act.put, List.setIfInBounds_toArray, List.set_cons_zero, List.set_cons_succ] at hK
    go_simp
    first | exact hK.out _ _ (Below.refl _ _) rfl | (have hk := hK.out _ _ (Below.refl _ _) rfl; revert hk; go_simp)
  case po1x12 =>
    intro w1 hb1 hd KK hK
    have d10 : x10 = .bool false := hd 10 (by kernel_rfl)
    have d11 : x11 = .pointer (some ⟨w.heap.size + 1, 0, none⟩) := hd 11 (by kernel_rfl)
    clear hd
    subst d10
    subst d11
    have hF := F1.out.next hb1
    have k0 := hF.c 1 0 rfl rfl
    have k1 := hF.c 1 1 rfl rfl
    simp only [Act.put, List.setIfInBounds_toArray, List.set_cons_zero, List.set_cons_succ] at hK
    go_simp
    first | exact hK.out _ _ (Below.refl _ _) rfl | (have hk := hK.out _ _ (Below.refl _ _) rfl; revert hk; go_simp)
  case po1x13 =>
    intro w1 hb1 hd KK hK
    have d10 : x10 = .bool false := hd 10 (by kernel_rfl)
    have d12 : x12 = .slice p sh.length cp := hd 12 (by kernel_rfl)
    clear hd
    subst d10
    subst d12
    simp only [Act.put, List.setIfInBounds_toArray, List.set_cons_zero, List.set_cons_succ] at hK
    go_simp
    go_at_call 54
    refine (good_any _ _ _ sh _ ((F1.out.next hb1).lw 3 rfl)).mono ?_
    rintro e w' ⟨rfl, rfl⟩
    rw [HC2.out]
    (try go_wp2_with fail)
    first | exact hK.out _ _ (Below.refl _ _) rfl | (have hk := hK.out _ _ (Below.refl _ _) rfl; revert hk; go_simp)
  case po1x14 =>
    intro w1 hb1 hd KK hK
    have d10 : x10 = .bool false := hd 10 (by kernel_rfl)
    have d13 : x13 = .bool true := hd 13 (by kernel_rfl)
    clear hd
    subst d10
    subst d13
    simp only [Act.put, List.setIfInBounds_toArray, List.set_cons_zero, List.set_cons_succ] at hK
    go_simp
    first | exact hK.out _ _ (Below.refl _ _) rfl | (have hk := hK.out _ _ (Below.refl _ _) rfl; revert hk; go_simp)
  case po1x15 =>
    intro w1 hb1 hd KK hK
    have d10 : x10 = .bool false := hd 10 (by kernel_rfl)
    have d14 : x14 = .bool false := hd 14 (by kernel_rfl)
    clear hd
    subst d10
    subst d14
    simp only [Act.put, List.setIfInBounds_toArray, List.set_cons_zero, List.set_cons_succ] at hK
    go_simp
    first | exact hK.out _ _ (Below.refl _ _) rfl | (have hk := hK.out _ _ (Below.refl _ _) rfl; revert hk; go_simp)
  case po1x16 =>
    intro w1 hb1 hd KK hK
    have d13 : x13 = .bool true := hd 13 (by kernel_rfl)
    have d15 : x15 = .bool false := hd 15 (by kernel_rfl)
    clear hd
    subst d13
    subst d15
    simp only [Act.put, List.setIfInBounds_toArray, List.set_cons_zero, List.set_cons_succ] at hK
    go_simp
    first | exact hK.out _ _ (Below.refl _ _) rfl | (have hk := hK.out _ _ (Below.refl _ _) rfl; revert hk; go_simp)
  case po1x17 =>
    intro w1 hb1 hd KK hK
    have d16 : x16 = .bool false := hd 16 (by kernel_rfl)
    clear hd
    subst d16
    simp only [Act.put, List.setIfInBounds_toArray, List.set_cons_zero, List.set_cons_succ] at hK
    go_simp
    first | exact hK.out _ _ (Below.refl _ _) rfl | (have hk := hK.out _ _ (Below.refl _ _) rfl; revert hk; go_simp)
  case po1x18 =>
    intro w1 hb1 hd KK hK
    have d16 : x16 = .bool false := hd 16 (by kernel_rfl)
    have d17 : x17 = .pointer (some ⟨w.heap.size + 1, 1, none⟩) := hd 17 (by kernel_rfl)
    clear hd
    subst d16
    subst d17
    have hF := F1.out.next hb1
    have k0 := hF.c 1 0 rfl rfl
    have k1 := hF.c 1 1 rfl rfl
    simp only [Act.put, List.setIfInBounds_toArray, List.set_cons_zero, List.set_cons_succ] at hK
    go_simp
    first | exact hK.out _ _ (Below.refl _ _) rfl | (have hk := hK.out _ _ (Below.refl _ _) rfl; revert hk; go_simp)
  case po1x19 =>
    intro w1 hb1 hd KK hK
    have d16 : x16 = .bool false := hd 16 (by kernel_rfl)
    have d18 : x18 = .slice q tys.length cq := hd 18 (by kernel_rfl)
    clear hd
    subst d16
    subst d18
    simp only [Act.put, List.setIfInBounds_toArray, List.set_cons_zero, List.set_cons_succ] at hK
    go_simp
    first | exact hK.out _ _ (Below.refl _ _) rfl | (have hk := hK.out _ _ (Below.refl _ _) rfl; revert hk; go_simp)
  case po1x20 =>
    intro w1 hb1 hd KK hK
    have d16 : x16 = .bool false := hd 16 (by kernel_rfl)
    clear hd
    subst d16
    simp only [Act.put, List.setIfInBounds_toArray, List.set_cons_zero, List.set_cons_succ] at hK
    go_simp
    first | exact hK.out _ _ (Below.refl _ _) rfl | (have hk := hK.out _ _ (Below.refl _ _) rfl; revert hk; go_simp)
  case po1x21 =>
    intro w1 hb1 hd KK hK
    have d16 : x16 = .bool false := hd 16 (by kernel_rfl)
    have d20 : x20 = .pointer (some ⟨w.heap.size + 1, 0, none⟩) := hd 20 (by kernel_rfl)
    clear hd
    subst d16
    subst d20
    have hF := F1.out.next hb1
    have k0 := hF.c 1 0 rfl rfl
    have k1 := hF.c 1 1 rfl rfl
    simp only [Act.put, List.setIfInBounds_toArray, List.set_cons_zero, List.set_cons_succ] at hK
    go_simp
    first | exact hK.out _ _ (Below.refl _ _) rfl | (have hk := hK.out _ _ (Below.refl _ _) rfl; revert hk; go_simp)
  case po1x22 =>
    intro w1 hb1 hd KK hK
    have d16 : x16 = .bool false := hd 16 (by kernel_rfl)
    have d21 : x21 = .slice p sh.length cp := hd 21 (by kernel_rfl)
    clear hd
    subst d16
    subst d21
    simp only [Act.put, List.setIfInBounds_toArray, List.set_cons_zero, List.set_cons_succ] at hK
    go_simp
    go_at_call 52
    refine (size_any _ _ _ sh _ ((F1.out.next hb1).lw 3 rfl) HC2.out).mono ?_
    rintro e w' ⟨rfl, rfl⟩
    rw [← HC3.out]
    (try go_wp2_with fail)
    first | exact hK.out _ _ (Below.refl _ _) rfl | (have hk := hK.out _ _ (Below.refl _ _) rfl; revert hk; go_simp)
  case po1x23 =>
    intro w1 hb1 hd KK hK
    have d16 : x16 = .bool false := hd 16 (by kernel_rfl)
    have d19 : x19 = .int .i64 (tys.length : Int) := hd 19 (by kernel_rfl)
    have d22 : x22 = .int .i64 (tys.length : Int) := hd 22 (by kernel_rfl)
    clear hd
    subst d16
    subst d19
    subst d22
    simp only [Act.put, List.setIfInBounds_toArray, List.set_cons_zero, List.set_cons_succ] at hK
    go_simp
    first | exact hK.out _ _ (Below.refl _ _) rfl | (have hk := hK.out _ _ (Below.refl _ _) rfl; revert hk; go_simp)
  case po1x24 =>
    intro w1 hb1 hd KK hK
    have d16 : x16 = .bool false := hd 16 (by kernel_rfl)
    have d23 : x23 = .bool false := hd 23 (by kernel_rfl)
    clear hd
    subst d16
    subst d23
    simp only [Act.put, List.setIfInBounds_toArray, List.set_cons_zero, List.set_cons_succ] at hK
    go_simp
    first | exact hK.out _ _ (Below.refl _ _) rfl | (have hk := hK.out _ _ (Below.refl _ _) rfl; revert hk; go_simp)
  case po1x25 =>
    intro w1 hb1 hd KK hK
    have d22 : x22 = .int .i64 (tys.length : Int) := hd 22 (by kernel_rfl)
    have d24 : x24 = .bool false := hd 24 (by kernel_rfl)
    clear hd
    subst d22
    subst d24
    simp only [Act.put, List.setIfInBounds_toArray, List.set_cons_zero, List.set_cons_succ] at hK
    go_simp
    first | exact hK.out _ _ (Below.refl _ _) rfl | (have hk := hK.out _ _ (Below.refl _ _) rfl; revert hk; go_simp)
  case po1x26 =>
    intro w1 hb1 hd KK hK
    have d25 : x25 = .bool false := hd 25 (by kernel_rfl)
    clear hd
    subst d25
    simp only [Act.put, List.setIfInBounds_toArray, List.set_cons_zero, List.set_cons_succ] at hK
    go_simp
    first | exact hK.out _ _ (Below.refl _ _) rfl | (have hk := hK.out _ _ (Below.refl _ _) rfl; revert hk; go_simp)
  case po1x27 =>
    intro w1 hb1 hd KK hK
    have d25 : x25 = .bool false := hd 25 (by kernel_rfl)
    have d26 : x26 = .pointer (some ⟨w.heap.size + 1, 1, none⟩) := hd 26 (by kernel_rfl)
    clear hd
    subst d25
    subst d26
    have hF := F1.out.next hb1
    have k0 := hF.c 1 0 rfl rfl
    have k1 := hF.c 1 1 rfl rfl
    simp only [Act.put, List.setIfInBounds_toArray, List.set_cons_zero, List.set_cons_succ] at hK
    go_simp
    first | exact hK.out _ _ (Below.refl _ _) rfl | (have hk := hK.out _ _ (Below.refl _ _) rfl; revert hk; go_simp)
  case po1x28 =>
    intro w1 hb1 hd KK hK
    have d25 : x25 = .bool false := hd 25 (by kernel_rfl)
    have d27 : x27 = .slice q tys.length cq := hd 27 (by kernel_rfl)
    clear hd
    subst d25
    subst d27
    simp only [Act.put, List.setIfInBounds_toArray, List.set_cons_zero, List.set_cons_succ] at hK
    go_simp
    go_at_call 50
    refine (vwords_any _ _ _ tys _ ((F1.out.next hb1).lw 4 rfl)).mono ?_
    rintro e w' ⟨rfl, rfl⟩
    rw [HC4.out]
    (try go_wp2_with fail)
    first | exact hK.out _ _ (Below.refl _ _) rfl | (have hk := hK.out _ _ (Below.refl _ _) rfl; revert hk; go_simp)
  case po1x29 =>
    intro w1 hb1 hd KK hK
    have d25 : x25 = .bool false := hd 25 (by kernel_rfl)
    have d28 : x28 = .bool true := hd 28 (by kernel_rfl)
    clear hd
    subst d25
    subst d28
    simp only [Act.put, List.setIfInBounds_toArray, List.set_cons_zero, List.set_cons_succ] at hK
    go_simp
    first | exact hK.out _ _ (Below.refl _ _) rfl | (have hk := hK.out _ _ (Below.refl _ _) rfl; revert hk; go_simp)
  case po1x30 =>
    intro w1 hb1 hd KK hK
    have d25 : x25 = .bool false := hd 25 (by kernel_rfl)
    have d29 : x29 = .bool false := hd 29 (by kernel_rfl)
    clear hd
    subst d25
    subst d29
    simp only [Act.put, List.setIfInBounds_toArray, List.set_cons_zero, List.set_cons_succ] at hK
    go_simp
    first | exact hK.out _ _ (Below.refl _ _) rfl | (have hk := hK.out _ _ (Below.refl _ _) rfl; revert hk; go_simp)
  case pfl1 => (intro f hf; cases hf)
  case pend1 =>
  intro w1 hb1 hR hD
  have d0 : x0 = .agg #[.slice a sh.length c, .slice b st.length d, .int .i64 off] := hR 0 (by decide)
  have d1 : x1 = .slice ad data.length cd := hR 1 (by decide)
  have d2 : x2 = .int .i64 (data.length : Int) := hR 2 (by decide)
  have d3 : x3 = .bool true := hR 3 (by decide)
  have d4 : x4 = .bool false := hR 4 (by decide)
  have d5 : x5 = .bool false := hR 5 (by decide)
  have d6 : x6 = .slice ad data.length cd := hR 6 (by decide)
  have d7 : x7 = .bool true := hR 7 (by decide)
  have d8 : x8 = .bool false := hR 8 (by decide)
  have d9 : x9 = .bool false := hR 9 (by decide)
  have d10 : x10 = .bool false := hR 10 (by decide)
  have d11 : x11 = .pointer (some ⟨w.heap.size + 1, 0, none⟩) := hR 11 (by decide)
  have d12 : x12 = .slice p sh.length cp := hR 12 (by decide)
  have d13 : x13 = .bool true := hR 13 (by decide)
  have d14 : x14 = .bool false := hR 14 (by decide)
  have d15 : x15 = .bool false := hR 15 (by decide)
  have d16 : x16 = .bool false := hR 16 (by decide)
  have d17 : x17 = .pointer (some ⟨w.heap.size + 1, 1, none⟩) := hR 17 (by decide)
  have d18 : x18 = .slice q tys.length cq := hR 18 (by decide)
  have d19 : x19 = .int .i64 (tys.length : Int) := hR 19 (by decide)
  have d20 : x20 = .pointer (some ⟨w.heap.size + 1, 0, none⟩) := hR 20 (by decide)
  have d21 : x21 = .slice p sh.length cp := hR 21 (by decide)
  have d22 : x22 = .int .i64 (tys.length : Int) := hR 22 (by decide)
  have d23 : x23 = .bool false := hR 23 (by decide)
  have d24 : x24 = .bool false := hR 24 (by decide)
  have d25 : x25 = .bool false := hR 25 (by decide)
  have d26 : x26 = .pointer (some ⟨w.heap.size + 1, 1, none⟩) := hR 26 (by decide)
  have d27 : x27 = .slice q tys.length cq := hR 27 (by decide)
  have d28 : x28 = .bool true := hR 28 (by decide)
  have d29 : x29 = .bool false := hR 29 (by decide)
  have d30 : x30 = .bool false := hR 30 (by decide)
  clear hR hD
  subst d0
  subst d1
  subst d2
  subst d3
  subst d4
  subst d5
  subst d6
  subst d7
  subst d8
  subst d9
  subst d10
  subst d11
  subst d12
  subst d13
  subst d14
  subst d15
  subst d16
  subst d17
  subst d18
  subst d19
  subst d20
  subst d21
  subst d22
  subst d23
  subst d24
  subst d25
  subst d26
  subst d27
  subst d28
  subst d29
  subst d30
  refine wpAny_done (by kernel_rfl) ?_ _
  have F2 := Lib.hid (F1.out.next hb1)
  obtain ⟨W2, rfl⟩ : ∃ W2 : World, W2 = w1 := ⟨_, rfl⟩
  clear hb1 F1
  have d0_0 := F2.out.c 0 0 rfl rfl
  have d0_1 := F2.out.c 0 1 rfl rfl
  have d0_2 := F2.out.c 0 2 rfl rfl
  have d1_0 := F2.out.c 1 0 rfl rfl
  have d1_1 := F2.out.c 1 1 rfl rfl
  go_upto_region 5 with (go_at_call 55; refine (slicesEqual_any _ _ _ _ _ sh sh _ (F2.out.lw 3 rfl) (F2.out.lw 0 rfl)).mono ?_; rintro e w' ⟨rfl, q9, rfl⟩; simp only [decide_true]; have F3 := Lib.hid (F2.out.drewN q9); clear d0_0 d0_1 d0_2 d1_0 d1_1 F2)
  generalize W2.drewN q9 = W3 at F3 ⊢
  go_upto_region 6 with (go_at_call 56; refine (cloneW_any ad cd data W3 (F3.out.lw 2 rfl) (by omega)).mono ?_; rintro e w4 ⟨v, rfl, hown, hb⟩; obtain ⟨al, cl, rfl, hsh⟩ := own_shape hown; obtain ⟨gl, rfl, _⟩ := hsh.resolve_left (by omega); clear hsh; have F4 := Lib.hid (F3.out.addO hb hown); clear hown hb F3)
  obtain ⟨Q, hQ⟩ : ∃ x, w4.heap.size = x := ⟨_, rfl⟩
  rw [hQ]
  have F5 := Lib.hid (F4.out.box1 (b := Q) hQ [.slice (some ⟨gl, 0, none⟩) data.length cl] 26)
  simp only [List.nil_append, List.cons_append] at F5
  obtain ⟨W5, hW5⟩ : ∃ x, (w4.alloc (.cells #[.slice (some ⟨gl, 0, none⟩) data.length cl] 26)) = x := ⟨_, rfl⟩
  rw [hW5] at F5 ⊢
  clear hW5 hQ F4
  go_upto_region 7 with (at_make; (refine wpl_makeV 75 4 (.bool false) 1 (by omega) rfl infoBool Try.underlying75 W5.heap.size data.length _ _ _ _ rfl rfl rfl rfl rfl rfl (by omega) (Nat.le_refl _) ?_); intro w6 hown hgrow hsz6; have F6 := Lib.hid (F5.out.addO (hgrow _ (Nat.le_refl _)) hown); clear hown hgrow F5)
  obtain ⟨gt, hgt⟩ : ∃ x, W5.heap.size = x := ⟨_, rfl⟩
  simp only [hgt, List.nil_append, List.cons_append] at F6
  rw [hgt] at hsz6
  (try simp only [hgt])
  clear hgt
  obtain ⟨Q2, hQ2⟩ : ∃ x, gt + 1 = x := ⟨_, rfl⟩
  rw [hQ2] at hsz6 ⊢
  have F7 := Lib.hid (F6.out.box1 (b := Q2) hsz6 [.slice (some ⟨gt, 0, none⟩) data.length data.length] 75)
  simp only [List.nil_append, List.cons_append] at F7
  obtain ⟨W7, hW7⟩ : ∃ x, (w6.alloc (.cells #[.slice (some ⟨gt, 0, none⟩) data.length data.length] 75)) = x := ⟨_, rfl⟩
  rw [hW7] at F7 ⊢
  clear hW7 hQ2 hsz6 F6
  have e0_0 := F7.out.c 0 0 rfl rfl
  have e0_1 := F7.out.c 0 1 rfl rfl
  have e0_2 := F7.out.c 0 2 rfl rfl
  have hpl := fun W => Lib.hid (places_any a b sh.length c st.length d off W)
  go_upto_block 0 with (go_at_call 53; refine (hpl _).out.mono ?_; rintro e w8 ⟨rfl, rfl⟩)
  clear hpl e0_0 e0_1 e0_2
  obtain ⟨P, hP⟩ : ∃ P, W7.heap.size = P := ⟨_, rfl⟩
  rw [hP]
  have F8 := Lib.hid (F7.out.box1 (b := P) hP [.slice a sh.length c, .slice b st.length d, .int .i64 off] 25)
  simp only [List.nil_append, List.cons_append] at F8
  have hWz : (W7.alloc (.cells #[.slice a sh.length c, .slice b st.length d, .int .i64 off] 25)).heap.size = P + 1 := by simp [hP]
  obtain ⟨W8, hW8⟩ : ∃ W8, (W7.alloc (.cells #[.slice a sh.length c, .slice b st.length d, .int .i64 off] 25)) = W8 := ⟨_, rfl⟩
  rw [hW8] at F8 hWz ⊢
  clear hW8 hP F7
  obtain ⟨PL, hPL⟩ : ∃ x, placesV sh st off = x := ⟨_, rfl⟩
  have hPLl : PL.length = N := by rw [← hPL, placesV_len]; have := HN.out; omega
  have hPLg := fun k (hk : k < N) => placesV_get sh st off (k := k) (by have := HN.out; omega)
  rw [hPL] at hPLg
  have HPL := Lib.hid hPL
  have HPLl := Lib.hid hPLl
  have HPLg := Lib.hid hPLg
  have hO : onceV sh st off = decide PL.Nodup := by unfold onceV; rw [hPL]
  have hLY : layV sh st off tys data = layP data PL tys := by unfold layV; rw [hPL]
  have HO := Lib.hid hO
  have HLY := Lib.hid hLY
  clear hPL hPLl hPLg hO hLY
  have e0 : seenV data.length (PL.take 0) = List.replicate data.length (.bool false) := by rw [List.take_zero, seenV_nil]
  have e1 : layP data (PL.take 0) (tys.take 0) = data := by simp [layP]
  have F9 : Hid (Fr w.heap.size w W8 [(w.heap.size, [.slice a sh.length c, .slice b st.length d, .int .i64 off]), (w.heap.size + 1, [.slice p sh.length cp, .slice q tys.length cq]), (w.heap.size + 1 + 1, [.slice none 0 0]), (w.heap.size + 1 + 1 + 1, [.int .i64 0]), (Q, [.slice (some ⟨gl, 0, none⟩) data.length cl]), (Q2, [.slice (some ⟨gt, 0, none⟩) data.length data.length]), (P, [.slice a sh.length c, .slice b st.length d, .int .i64 off])] [(.i64, a, sh), (.i64, b, st), (.i64, ad, data), (.i64, p, sh), (.i64, q, tys)] [⟨2, .slice (some ⟨gl, 0, none⟩) data.length cl, data.length, (layP data (PL.take 0) (tys.take 0)).map (Value.int .i64)⟩, ⟨4, .slice (some ⟨gt, 0, none⟩) data.length data.length, data.length, seenV data.length (PL.take 0)⟩] []) := Lib.hid (by rw [e0, e1]; exact F8.out)
  clear e0 e1 F8
  go_wp2
  refine wpIn_wide.1 (wpIn_rangeFunc_any (n := 20) rfl (by omega) (gf := 68) (lb := #[.pointer (some ⟨P, 0, none⟩)]) rfl trivial (enters_of Try.func68 (by kernel_rfl) rfl) (P + 1) hWz
    (fun W2 => (∃ o, Fr w.heap.size w W2 [(w.heap.size, [.slice a sh.length c, .slice b st.length d, .int .i64 off]), (w.heap.size + 1, [.slice p sh.length cp, .slice q tys.length cq]), (w.heap.size + 1 + 1, [.slice none 0 0]), (w.heap.size + 1 + 1 + 1, [.int .i64 0]), (Q, [.slice (some ⟨gl, 0, none⟩) data.length cl]), (Q2, [.slice (some ⟨gt, 0, none⟩) data.length data.length]), (P, [.slice a sh.length c, .slice b st.length d, .int .i64 off])] [(.i64, a, sh), (.i64, b, st), (.i64, ad, data), (.i64, p, sh), (.i64, q, tys)] [⟨2, .slice (some ⟨gl, 0, none⟩) data.length cl, data.length, (layP data (PL.take N) (tys.take N)).map (Value.int .i64)⟩, ⟨4, .slice (some ⟨gt, 0, none⟩) data.length data.length, data.length, seenV data.length (PL.take N)⟩] [(P + 1, .deferred (some [])), (P + 1 + 1, o)]) ∧ onceV sh st off = true) (fun cc W2 => cc = .ret ∧ (∃ o, Fr w.heap.size w W2 [(w.heap.size, [.slice a sh.length c, .slice b st.length d, .int .i64 off]), (w.heap.size + 1, [.slice p sh.length cp, .slice q tys.length cq]), (w.heap.size + 1 + 1, [.slice none 0 0]), (w.heap.size + 1 + 1 + 1, [.int .i64 2]), (Q, [.slice (some ⟨gl, 0, none⟩) data.length cl]), (Q2, [.slice (some ⟨gt, 0, none⟩) data.length data.length]), (P, [.slice a sh.length c, .slice b st.length d, .int .i64 off])] [(.i64, a, sh), (.i64, b, st), (.i64, ad, data), (.i64, p, sh), (.i64, q, tys)] [] [(P + 1, .deferred (some [])), (P + 1 + 1, o)]) ∧ onceV sh st off = false) ?hcall ?hdone ?hstop)
  case hcall =>
    intro fn R hfn hR
    have HR := Lib.hid hR
    clear hR
    have F10 := Lib.hid ((F9.out.recM hWz (.deferred (some [])) rfl).recM (b := P + 1 + 1) (by simp [hWz]) (.loop (R .ready none)) rfl)
    simp only [List.nil_append, List.cons_append] at F10
    have hW3s : ((W8.alloc (.deferred (some []))).alloc (.loop (R .ready none))).heap.size = P + 3 := by simp [hWz]
    obtain ⟨W10, hW10⟩ : ∃ W10, ((W8.alloc (.deferred (some []))).alloc (.loop (R .ready none))) = W10 := ⟨_, rfl⟩
    rw [hW10] at F10 hW3s ⊢
    have H0 := Lib.hid (FrS.of F10.out (by simp [hW3s]))
    rw [hW3s] at H0
    clear hW10 F9 F10
    refine (placesIter 19 (by omega) (P + 1 + 1) P N (P + 3) a b c d sh st off (data.length : Int) W10 hW3s (fun k V => FrS (P + 3) w.heap.size w V [(w.heap.size, [.slice a sh.length c, .slice b st.length d, .int .i64 off]), (w.heap.size + 1, [.slice p sh.length cp, .slice q tys.length cq]), (w.heap.size + 1 + 1, [.slice none 0 0]), (w.heap.size + 1 + 1 + 1, [.int .i64 0]), (Q, [.slice (some ⟨gl, 0, none⟩) data.length cl]), (Q2, [.slice (some ⟨gt, 0, none⟩) data.length data.length]), (P, [.slice a sh.length c, .slice b st.length d, .int .i64 off])] [(.i64, a, sh), (.i64, b, st), (.i64, ad, data), (.i64, p, sh), (.i64, q, tys)] [⟨2, .slice (some ⟨gl, 0, none⟩) data.length cl, data.length, (layP data (PL.take k) (tys.take k)).map (Value.int .i64)⟩, ⟨4, .slice (some ⟨gt, 0, none⟩) data.length data.length, data.length, seenV data.length (PL.take k)⟩] [(P + 1, .deferred (some [])), (P + 1 + 1, .loop (R .ready none))] ∧ (PL.take k).Nodup) (fun V => FrS (P + 3) w.heap.size w V [(w.heap.size, [.slice a sh.length c, .slice b st.length d, .int .i64 off]), (w.heap.size + 1, [.slice p sh.length cp, .slice q tys.length cq]), (w.heap.size + 1 + 1, [.slice none 0 0]), (w.heap.size + 1 + 1 + 1, [.int .i64 2]), (Q, [.slice (some ⟨gl, 0, none⟩) data.length cl]), (Q2, [.slice (some ⟨gt, 0, none⟩) data.length data.length]), (P, [.slice a sh.length c, .slice b st.length d, .int .i64 off])] [(.i64, a, sh), (.i64, b, st), (.i64, ad, data), (.i64, p, sh), (.i64, q, tys)] [] [(P + 1, .deferred (some [])), (P + 1 + 1, .loop (R .done (some .ret)))] ∧ onceV sh st off = false) HV.out HN.out (fun k W1 W2 h hb => ⟨h.1.below hb, h.2⟩) (fun _ _ h hb => ⟨h.1.below hb, h.2⟩) (fun _ h => h.1.sz) ?hJB ?hY ⟨H0.out, by simp⟩).mono ?post
    case post =>
      rintro e V ⟨hv, ⟨h, hnd⟩ | ⟨h, ho⟩⟩
      · exact ⟨hv, .inl ⟨⟨⟨_, h.fr⟩, by rw [List.take_of_length_le (by rw [HPLl.out]; exact Nat.le_refl _)] at hnd; rw [HO.out]; simp [hnd]⟩, h.fr.m 1 rfl⟩⟩
      · exact ⟨hv, .inr ⟨.ret, ⟨rfl, ⟨_, h.fr⟩, ho⟩, h.fr.m 1 rfl⟩⟩
    case hJB =>
      rintro k V ⟨h, _⟩
      exact ⟨h.sz, (h.fr.box _ (List.mem_of_getElem? (i := 6) rfl)).1, (h.fr.l 0 rfl).mono h.lS, (h.fr.l 1 rfl).mono h.lS⟩
    case hY =>
      rintro k V1 hk ⟨hj, hnd⟩
      refine yieldAt_roundR hfn HR.out (hj.fr.m 1 rfl) rfl ?_
      have G1 := Lib.hid (hj.fr.putM 1 rfl (.loop (R .busy none)) rfl)
      simp only [List.set_cons_zero, List.set_cons_succ] at G1
      have HJ := Lib.hid hj
      have HND := Lib.hid hnd
      have HK := Lib.hid (Kept.putObj (P + 3) V1 (P + 1 + 1) (.loop (R .busy none)) (by omega))
      clear hj hfn H0 hnd
      gi_wp2
      refine ⟨HJ.out.fr.m 1 rfl, ?_⟩
      obtain ⟨V, hV⟩ : ∃ V, V1.putObj (P + 1 + 1) (.loop (R .busy none)) = V := ⟨_, rfl⟩
      rw [hV] at G1 HK ⊢
      clear hV
      have hat := atV_bound (n := (k : Int)) HV.out
      have hpg := HPLg.out k hk
      obtain ⟨z, hz⟩ : ∃ z : Nat, atV sh st off k = z := ⟨(atV sh st off k).toNat, by omega⟩
      rw [hz] at hat hpg ⊢
      have hzd : z < data.length := by omega
      have hkl : k < PL.length := by rw [HPLl.out]; exact hk
      have hkt : k < tys.length := by rw [HNT.out]; exact hk
      have hpk : PL[k] = (z : Int) := by rw [List.getElem?_eq_getElem hkl] at hpg; injection hpg
      have htk := take_snoc PL k hkl
      have hlt := layP_take_succ data PL tys k hkl hkt
      rw [hpk] at htk hlt
      rw [Int.toNat_natCast] at hlt
      have hsg := seenV_get data.length (PL.take k) z hzd
      have t12 := G1.out.rc 1 z rfl hsg
      obtain ⟨t1, t2⟩ := t12
      have n0 := G1.out.c 5 0 rfl rfl
      cases hbm : (PL.take k).contains (z : Int) with
      | true =>
        rw [hbm] at t1
        have HOF : Hid (onceV sh st off = false) := Lib.hid (by rw [HO.out]; have := not_nodup_take hkl (by rw [hpk]; exact List.contains_iff_mem.1 hbm); simp [this])
        have r0 := G1.out.f 2 0 rfl rfl
        have r1 := G1.out.f 3 0 rfl rfl
        have r2 := G1.out.c 2 0 rfl rfl
        have r3 := G1.out.c 3 0 rfl rfl
        clear hat hpg hz hpk htk hlt hsg hbm t2
        gi_wp2
        have G2 := Lib.hid ((G1.out.set 2 rfl (by simp) [.slice none 0 0] rfl).set 3 rfl (by simp) [.int .i64 2] rfl)
        simp only [setL, Nat.reduceAdd, List.set_cons_zero, List.set_cons_succ] at G2
        have HK2 := Lib.hid ((HK.out.trans (Kept.of_grown (row := some (w.heap.size + 1 + 1)) (Go.Lib.grownBy_setCell V (w.heap.size + 1 + 1) 0 (.slice none 0 0)) (fun e he => by injection he with he; have := HJ.out.bB _ (List.mem_of_getElem? (i := 2) rfl); omega))).trans (Kept.of_grown (row := some (w.heap.size + 1 + 1 + 1)) (Go.Lib.grownBy_setCell _ (w.heap.size + 1 + 1 + 1) 0 (.int .i64 2)) (fun e he => by injection he with he; have := HJ.out.bB _ (List.mem_of_getElem? (i := 3) rfl); omega)))
        obtain ⟨V9, hV9⟩ : ∃ V9, ((V.setCell ⟨w.heap.size + 1 + 1, 0, none⟩ (.slice none 0 0)).setCell ⟨w.heap.size + 1 + 1 + 1, 0, none⟩ (.int .i64 2)) = V9 := ⟨_, rfl⟩
        rw [hV9] at G2 HK2 ⊢
        clear hV9 G1 t1 n0 r0 r1 r2 r3
        (try simp only [Exit.noGoto, Exit.inBlock, Exit.then])
        refine ⟨G2.out.m 1 rfl, HK2.out.trans (Kept.putObj _ _ _ _ (by omega)), ?_, HOF.out⟩
        have G3 := (G2.out.putM 1 rfl (.loop (R .done (some .ret))) rfl).less (List.Sublist.refl _) (List.Sublist.refl _) (List.nil_sublist _) (List.Sublist.refl _)
        simp only [List.set_cons_zero, List.set_cons_succ] at G3
        have hj := HJ.out
        exact ⟨G3, hj.lS, by have := HK2.out.1; have := hj.sz; simp; omega, by have := hj.bB; simp only [List.mem_cons, List.not_mem_nil, or_false, forall_eq_or_imp, forall_eq] at this ⊢; exact this, by simp, by have := hj.bM; simp only [List.mem_cons, List.not_mem_nil, or_false, forall_eq_or_imp, forall_eq] at this ⊢; exact this⟩
      | false =>
        rw [hbm] at t1
        have HNM : Hid (¬ PL[k] ∈ PL.take k) := Lib.hid (by rw [hpk]; intro hin; have := List.contains_iff_mem.2 hin; rw [hbm] at this; cases this)
        have G2 := Lib.hid (G1.out.put 1 z rfl (.bool true))
        simp only [List.set_cons_zero, List.set_cons_succ] at G2
        rw [seenV_snoc _ _ _ hzd, ← htk] at G2
        have HK2 := Lib.hid (HK.out.trans (Kept.of_grown (row := some gt) (Go.Lib.grownBy_setCell V gt z (.bool true)) (fun e he => by injection he with he; have := HJ.out.bO _ (List.mem_of_getElem? (i := 1) rfl) gt rfl; omega)))
        have HLT := Lib.hid hlt
        clear hat hpg hz hpk htk hlt hsg hbm
        (repeat gi_step)
        obtain ⟨V3, hV3⟩ : ∃ V3, V.setCell ⟨gt, z, none⟩ (.bool true) = V3 := ⟨_, rfl⟩
        rw [hV3] at G2 HK2 ⊢
        clear hV3 G1 t1 t2 n0
        obtain ⟨gy, oy, rfl, hlb, hcd⟩ := (G2.out.l 4 rfl).cell k hkt
        obtain ⟨y, hy⟩ : ∃ y, tys[k] = y := ⟨_, rfl⟩
        rw [List.getElem?_eq_getElem hkt, hy] at hcd
        simp only [Option.getD_some] at hcd
        rw [hy] at HLT
        have HCD := Lib.hid hcd
        have hget : ((layP data (PL.take k) (tys.take k)).map (Value.int .i64))[z]? = some (.int .i64 ((layP data (PL.take k) (tys.take k))[z]?.getD 0)) := by
          have hl := layP_len data (PL.take k) (tys.take k)
          rw [List.getElem?_map, List.getElem?_eq_getElem (by omega)]
          rfl
        have HGET := Lib.hid hget
        clear hget hcd hy
        refine wpIn_region_parts2 (w := V3) 8 1 none [] [(fun u _ => u = .slice (some ⟨gl, 0, none⟩) data.length cl), (fun u _ => u = .int .i64 (z : Int)), (fun u _ => u = .pointer (some ⟨w.heap.size + 1, 1, none⟩)), (fun u _ => u = .slice (some ⟨gy, oy, none⟩) tys.length cq), (fun u _ => u = .int .i64 (k : Int)), (fun u _ => u = .pointer (some ⟨gy, oy + k, none⟩)), (fun u _ => u = .int .i64 y), (fun u _ => u = .pointer (some ⟨gl, z, none⟩))] [some 65, some 66, some 67, some 68, some 69, some 70, some 71, some 72, none] #[true, true, true, true, true, true, true, true, false] #[true, true, true, true, true, true, true, true, false] (by kernel_rfl) rfl (by kernel_rfl) (by kernel_rfl) rfl (by kernel_rfl) (by kernel_rfl) (.cons (carries_eq _) (.cons (carries_eq _) (.cons (carries_eq _) (.cons (carries_eq _) (.cons (carries_eq _) (.cons (carries_eq _) (.cons (carries_eq _) (.cons (carries_eq _) .nil)))))))) (fun vs b hvl hvb => ?_)
        obtain ⟨x0, x1, x2, x3, x4, x5, x6, x7, x8, rfl⟩ : ∃ x0 x1 x2 x3 x4 x5 x6 x7 x8, vs = [x0, x1, x2, x3, x4, x5, x6, x7, x8] := lst9 hvl
        clear hvl
        simp only [putAll, Act.put, List.setIfInBounds_toArray, List.set_cons_zero, List.set_cons_succ] at hvb
        subst hvb
        refine ⟨(.snoc (.snoc (.snoc (.snoc (.snoc (.snoc (.snoc (.snoc .zero (PartObIn.intro (d := (some 65)) (r := fun u _ => u = .slice (some ⟨gl, 0, none⟩) data.length cl) rfl rfl rfl rfl ?po13x0)) (PartObIn.intro (d := (some 66)) (r := fun u _ => u = .int .i64 (z : Int)) rfl rfl rfl rfl ?po13x1)) (PartObIn.intro (d := (some 67)) (r := fun u _ => u = .pointer (some ⟨w.heap.size + 1, 1, none⟩)) rfl rfl rfl rfl ?po13x2)) (PartObIn.intro (d := (some 68)) (r := fun u _ => u = .slice (some ⟨gy, oy, none⟩) tys.length cq) rfl rfl rfl rfl ?po13x3)) (PartObIn.intro (d := (some 69)) (r := fun u _ => u = .int .i64 (k : Int)) rfl rfl rfl rfl ?po13x4)) (PartObIn.intro (d := (some 70)) (r := fun u _ => u = .pointer (some ⟨gy, oy + k, none⟩)) rfl rfl rfl rfl ?po13x5)) (PartObIn.intro (d := (some 71)) (r := fun u _ => u = .int .i64 y) rfl rfl rfl rfl ?po13x6)) (PartObIn.intro (d := (some 72)) (r := fun u _ => u = .pointer (some ⟨gl, z, none⟩)) rfl rfl rfl rfl ?po13x7)), ?pend13, ?pfl13⟩
        case po13x0 =>
          intro w1 hb1 hd KK hK
          clear hd
          have hF := G2.out.next hb1
          have k0 := hF.c 4 0 rfl rfl
          simp only [Act.put, List.setIfInBounds_toArray, List.set_cons_zero, List.set_cons_succ] at hK
          go_simp
          first | exact hK.out _ _ (Below.refl _ _) rfl | (have hk := hK.out _ _ (Below.refl _ _) rfl; revert hk; go_simp)
        case po13x1 =>
          intro w1 hb1 hd KK hK
          clear hd
          simp only [Act.put, List.setIfInBounds_toArray, List.set_cons_zero, List.set_cons_succ] at hK
          go_simp
          first | exact hK.out _ _ (Below.refl _ _) rfl | (have hk := hK.out _ _ (Below.refl _ _) rfl; revert hk; go_simp)
        case po13x2 =>
          intro w1 hb1 hd KK hK
          clear hd
          simp only [Act.put, List.setIfInBounds_toArray, List.set_cons_zero, List.set_cons_succ] at hK
          go_simp
          first | exact hK.out _ _ (Below.refl _ _) rfl | (have hk := hK.out _ _ (Below.refl _ _) rfl; revert hk; go_simp)
        case po13x3 =>
          intro w1 hb1 hd KK hK
          have d2 : x2 = .pointer (some ⟨w.heap.size + 1, 1, none⟩) := hd 2 (by kernel_rfl)
          clear hd
          subst d2
          have hF := G2.out.next hb1
          have k1 := hF.c 1 1 rfl rfl
          simp only [Act.put, List.setIfInBounds_toArray, List.set_cons_zero, List.set_cons_succ] at hK
          go_simp
          first | exact hK.out _ _ (Below.refl _ _) rfl | (have hk := hK.out _ _ (Below.refl _ _) rfl; revert hk; go_simp)
        case po13x4 =>
          intro w1 hb1 hd KK hK
          clear hd
          simp only [Act.put, List.setIfInBounds_toArray, List.set_cons_zero, List.set_cons_succ] at hK
          go_simp
          first | exact hK.out _ _ (Below.refl _ _) rfl | (have hk := hK.out _ _ (Below.refl _ _) rfl; revert hk; go_simp)
        case po13x5 =>
          intro w1 hb1 hd KK hK
          have d3 : x3 = .slice (some ⟨gy, oy, none⟩) tys.length cq := hd 3 (by kernel_rfl)
          have d4 : x4 = .int .i64 (k : Int) := hd 4 (by kernel_rfl)
          clear hd
          subst d3
          subst d4
          simp only [Act.put, List.setIfInBounds_toArray, List.set_cons_zero, List.set_cons_succ] at hK
          go_simp
          first | exact hK.out _ _ (Below.refl _ _) rfl | (have hk := hK.out _ _ (Below.refl _ _) rfl; revert hk; go_simp)
        case po13x6 =>
          intro w1 hb1 hd KK hK
          have d5 : x5 = .pointer (some ⟨gy, oy + k, none⟩) := hd 5 (by kernel_rfl)
          clear hd
          subst d5
          have hcx := (hb1.cell (p := ⟨gy, oy + k, none⟩) (Nat.lt_of_lt_of_le hlb G2.out.hlo)).trans HCD.out
          simp only [Act.put, List.setIfInBounds_toArray, List.set_cons_zero, List.set_cons_succ] at hK
          go_simp
          first | exact hK.out _ _ (Below.refl _ _) rfl | (have hk := hK.out _ _ (Below.refl _ _) rfl; revert hk; go_simp)
        case po13x7 =>
          intro w1 hb1 hd KK hK
          have d0 : x0 = .slice (some ⟨gl, 0, none⟩) data.length cl := hd 0 (by kernel_rfl)
          have d1 : x1 = .int .i64 (z : Int) := hd 1 (by kernel_rfl)
          have d2 : x2 = .pointer (some ⟨w.heap.size + 1, 1, none⟩) := hd 2 (by kernel_rfl)
          have d3 : x3 = .slice (some ⟨gy, oy, none⟩) tys.length cq := hd 3 (by kernel_rfl)
          have d4 : x4 = .int .i64 (k : Int) := hd 4 (by kernel_rfl)
          have d5 : x5 = .pointer (some ⟨gy, oy + k, none⟩) := hd 5 (by kernel_rfl)
          have d6 : x6 = .int .i64 y := hd 6 (by kernel_rfl)
          clear hd
          subst d0
          subst d1
          subst d2
          subst d3
          subst d4
          subst d5
          subst d6
          simp only [Act.put, List.setIfInBounds_toArray, List.set_cons_zero, List.set_cons_succ] at hK
          go_simp
          first | exact hK.out _ _ (Below.refl _ _) rfl | (have hk := hK.out _ _ (Below.refl _ _) rfl; revert hk; go_simp)
        case pfl13 => (intro f hf; cases hf)
        case pend13 =>
        intro w1 hb1 hR hD
        have d0 : x0 = .slice (some ⟨gl, 0, none⟩) data.length cl := hR 0 (by decide)
        have d1 : x1 = .int .i64 (z : Int) := hR 1 (by decide)
        have d2 : x2 = .pointer (some ⟨w.heap.size + 1, 1, none⟩) := hR 2 (by decide)
        have d3 : x3 = .slice (some ⟨gy, oy, none⟩) tys.length cq := hR 3 (by decide)
        have d4 : x4 = .int .i64 (k : Int) := hR 4 (by decide)
        have d5 : x5 = .pointer (some ⟨gy, oy + k, none⟩) := hR 5 (by decide)
        have d6 : x6 = .int .i64 y := hR 6 (by decide)
        have d7 : x7 = .pointer (some ⟨gl, z, none⟩) := hR 7 (by decide)
        clear hR hD
        subst d0
        subst d1
        subst d2
        subst d3
        subst d4
        subst d5
        subst d6
        subst d7
        refine wpAnyIn_ready (rs := [8]) (by kernel_rfl) (by simp) (AllReadyIn.cons rfl (fun KK hK => ?_) AllReadyIn.nil)
        have G3 := G2.out.next hb1
        obtain ⟨r1, r2⟩ := G3.rc 0 z rfl HGET.out
        go_simp
        refine hK _ _ ?_
        clear hK KK
        try simp only [putAll, Act.put, List.setIfInBounds_toArray, List.set_cons_zero, List.set_cons_succ]
        refine wpAnyIn_done (by kernel_rfl) ?_ _
        have G4 := Lib.hid (G3.put 0 z rfl (.int .i64 y))
        simp only [List.set_cons_zero, List.set_cons_succ] at G4
        rw [map_set, ← HLT.out] at G4
        have HK3 := Lib.hid ((HK2.out.trans (Kept.of_below hb1)).trans (Kept.of_grown (row := some gl) (Go.Lib.grownBy_setCell w1 gl z (.int .i64 y)) (fun e he => by injection he with he; have := HJ.out.bO _ (List.mem_of_getElem? (i := 0) rfl) gl rfl; omega)))
        obtain ⟨V9, hV9⟩ : ∃ V9, w1.setCell ⟨gl, z, none⟩ (.int .i64 y) = V9 := ⟨_, rfl⟩
        rw [hV9] at G4 HK3 ⊢
        clear hV9 G3 G2 r1 r2 hb1
        (repeat gi_step)
        refine ⟨G4.out.m 1 rfl, HK3.out.trans (Kept.putObj _ _ _ _ (by omega)), ?_, nodup_take_succ hkl HND.out HNM.out⟩
        have G5 := G4.out.putM 1 rfl (.loop (R .ready none)) rfl
        simp only [List.set_cons_zero, List.set_cons_succ] at G5
        have hj := HJ.out
        exact ⟨G5, hj.lS, by have := HK3.out.1; have := hj.sz; simp; omega, hj.bB, by have := hj.bO; simp only [List.mem_cons, List.not_mem_nil, or_false, forall_eq_or_imp, forall_eq] at this ⊢; exact this, by have := hj.bM; simp only [List.mem_cons, List.not_mem_nil, or_false, forall_eq_or_imp, forall_eq] at this ⊢; exact this⟩
  case hdone =>
    rintro V o ho ⟨⟨o2, FZ⟩, hon⟩
    have FY := Lib.hid (FZ.putM 1 rfl o ho)
    simp only [List.set_cons_zero, List.set_cons_succ] at FY
    generalize V.putObj (P + 1 + 1) o = V3 at *
    clear FZ F9
    have HON := Lib.hid hon
    clear hon
    have y2_0 := FY.out.c 2 0 rfl rfl
    have y3_0 := FY.out.c 3 0 rfl rfl
    have y4_0 := FY.out.c 4 0 rfl rfl
    have yf2_0 := FY.out.f 2 0 rfl rfl
    have yf3_0 := FY.out.f 3 0 rfl rfl
    go_wp2
    have FX := Lib.hid ((FY.out.set 2 rfl (by simp) [.slice (some ⟨gl, 0, none⟩) data.length cl] rfl).set 3 rfl (by simp) [.int .i64 0] rfl)
    simp only [setL, Nat.reduceAdd, List.set_cons_zero, List.set_cons_succ] at FX
    obtain ⟨W9, hW9⟩ : ∃ W9, ((V3.setCell ⟨w.heap.size + 1 + 1, 0, none⟩ (.slice (some ⟨gl, 0, none⟩) data.length cl)).setCell ⟨w.heap.size + 1 + 1 + 1, 0, none⟩ (.int .i64 0)) = W9 := ⟨_, rfl⟩
    rw [hW9] at FX ⊢
    clear hW9 FY y2_0 y3_0 y4_0 yf2_0 yf3_0
    refine ⟨by simp, .inl ⟨_, _, rfl, run_takeDeferred (FX.out.m 0 rfl), ?_⟩⟩
    have FV := FX.out.putM 0 rfl (.deferred none) rfl
    simp only [List.set_cons_zero, List.set_cons_succ] at FV
    generalize W9.putObj (P + 1) (.deferred none) = U at *
    have c0 := FV.c 2 0 rfl rfl
    have c1 := FV.c 3 0 rfl rfl
    have hp1 : PL.take N = PL := List.take_of_length_le (by rw [HPLl.out]; exact Nat.le_refl _)
    have hp2 : tys.take N = tys := List.take_of_length_le (by rw [HNT.out]; exact Nat.le_refl _)
    rw [hp1, hp2] at FV
    have hll := layP_len data PL tys
    have hpost : RetWV w (layP data PL tys) 0 (.returned (.tuple #[.slice (some ⟨gl, 0, none⟩) data.length cl, .int .i64 0])) U := ⟨some ⟨gl, 0, none⟩, cl, by rw [hll], by rw [hll]; exact FV.rows.less (List.Sublist.refl _) (List.Sublist.refl _) (by simp) (List.Sublist.refl _)⟩
    refine ⟨_, ?_, (by unfold layR layZ; rw [if_pos HON.out, if_pos HON.out, HLY.out]; exact hpost)⟩
    rw [results_ccV rfl]
    go_simp
  case hstop =>
    rintro cc V o ho ⟨rfl, ⟨o2, FZ⟩, hon⟩
    have FY := Lib.hid (FZ.putM 1 rfl o ho)
    simp only [List.set_cons_zero, List.set_cons_succ] at FY
    generalize V.putObj (P + 1 + 1) o = V3 at *
    clear FZ F9
    have HON := Lib.hid hon
    clear hon
    refine wpIn_wide.2 ?_
    go_wp2
    have FX := FY
    obtain ⟨W9, rfl⟩ : ∃ W9 : World, W9 = V3 := ⟨_, rfl⟩
    refine ⟨by simp, .inl ⟨_, _, rfl, run_takeDeferred (FX.out.m 0 rfl), ?_⟩⟩
    have FV := FX.out.putM 0 rfl (.deferred none) rfl
    simp only [List.set_cons_zero, List.set_cons_succ] at FV
    generalize W9.putObj (P + 1) (.deferred none) = U at *
    have c0 := FV.c 2 0 rfl rfl
    have c1 := FV.c 3 0 rfl rfl
    have hpost := retWV_none (z := 2) FV
    refine ⟨_, ?_, (by unfold layR layZ; rw [if_neg (by rw [HON.out]; decide), if_neg (by rw [HON.out]; decide)]; exact hpost)⟩
    rw [results_ccV rfl]
    go_simp
end Go.Proofs.Ytnafbgkfhojamaa
