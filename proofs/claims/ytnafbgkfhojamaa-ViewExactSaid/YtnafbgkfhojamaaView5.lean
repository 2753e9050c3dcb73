/- Walks: words laid where a view shows them. -/
import Derived.Test.YtnafbgkfhojamaaView4
import Derived.Test.YtnafbgkfhojamaaVOrd
set_option linter.unusedVariables false
set_option linter.unusedSimpArgs false
namespace Go.Proofs.Ytnafbgkfhojamaa
open Go.RowKit Go.Rt
theorem lstC {α : Type} {n : Nat} {l : List α} (h : l.length = n + 1) : ∃ x t, l = x :: t ∧ t.length = n := by
  cases l with
  | nil => cases h
  | cons x t => exact ⟨x, t, rfl, Nat.succ.inj h⟩
theorem lst31 {α : Type} {l0 : List α} (h0 : l0.length = 31) : ∃ x0 x1 x2 x3 x4 x5 x6 x7 x8 x9 x10 x11 x12 x13 x14 x15 x16 x17 x18 x19 x20 x21 x22 x23 x24 x25 x26 x27 x28 x29 x30, l0 = [x0, x1, x2, x3, x4, x5, x6, x7, x8, x9, x10, x11, x12, x13, x14, x15, x16, x17, x18, x19, x20, x21, x22, x23, x24, x25, x26, x27, x28, x29, x30] := by
  obtain ⟨x0, l1, rfl, h1⟩ := lstC h0
  obtain ⟨x1, l2, rfl, h2⟩ := lstC h1
  obtain ⟨x2, l3, rfl, h3⟩ := lstC h2
  obtain ⟨x3, l4, rfl, h4⟩ := lstC h3
  obtain ⟨x4, l5, rfl, h5⟩ := lstC h4
  obtain ⟨x5, l6, rfl, h6⟩ := lstC h5
  obtain ⟨x6, l7, rfl, h7⟩ := lstC h6
  obtain ⟨x7, l8, rfl, h8⟩ := lstC h7
  obtain ⟨x8, l9, rfl, h9⟩ := lstC h8
  obtain ⟨x9, l10, rfl, h10⟩ := lstC h9
  obtain ⟨x10, l11, rfl, h11⟩ := lstC h10
  obtain ⟨x11, l12, rfl, h12⟩ := lstC h11
  obtain ⟨x12, l13, rfl, h13⟩ := lstC h12
  obtain ⟨x13, l14, rfl, h14⟩ := lstC h13
  obtain ⟨x14, l15, rfl, h15⟩ := lstC h14
  obtain ⟨x15, l16, rfl, h16⟩ := lstC h15
  obtain ⟨x16, l17, rfl, h17⟩ := lstC h16
  obtain ⟨x17, l18, rfl, h18⟩ := lstC h17
  obtain ⟨x18, l19, rfl, h19⟩ := lstC h18
  obtain ⟨x19, l20, rfl, h20⟩ := lstC h19
  obtain ⟨x20, l21, rfl, h21⟩ := lstC h20
  obtain ⟨x21, l22, rfl, h22⟩ := lstC h21
  obtain ⟨x22, l23, rfl, h23⟩ := lstC h22
  obtain ⟨x23, l24, rfl, h24⟩ := lstC h23
  obtain ⟨x24, l25, rfl, h25⟩ := lstC h24
  obtain ⟨x25, l26, rfl, h26⟩ := lstC h25
  obtain ⟨x26, l27, rfl, h27⟩ := lstC h26
  obtain ⟨x27, l28, rfl, h28⟩ := lstC h27
  obtain ⟨x28, l29, rfl, h29⟩ := lstC h28
  obtain ⟨x29, l30, rfl, h30⟩ := lstC h29
  obtain ⟨x30, l31, rfl, h31⟩ := lstC h30
  obtain rfl := List.length_eq_zero_iff.1 h31
  exact ⟨x0, x1, x2, x3, x4, x5, x6, x7, x8, x9, x10, x11, x12, x13, x14, x15, x16, x17, x18, x19, x20, x21, x22, x23, x24, x25, x26, x27, x28, x29, x30, rfl⟩

theorem results_ccV {fn : Func} {p q : Tmp} {ty ty2 : TypeId} (h : fn.results = #[.cell p ty, .cell q ty2]) (tmps : Array Value) (P : Program) (w : World) :
    (results fn tmps).run P w = ((asAddr (tmps.getD p undef)).run P w).andThen fun a w₁ => ((loadVar ty a).run P w₁).andThen fun v w₂ => ((asAddr (tmps.getD q undef)).run P w₂).andThen fun a2 w₃ => ((loadVar ty2 a2).run P w₃).andThen fun v2 w₄ => .ok (.tuple #[v, v2]) w₄ := by
  simp only [results, h]
  simp [Sem.run_bind, Result.andThen]
/-- Words and an error, handed back. -/
def RetWV (w : World) (ys : List Int) (z : Int) (e : Ending) (w' : World) : Prop :=
  ∃ a c, e = .returned (.tuple #[.slice a ys.length c, .int .i64 z]) ∧ Fr w.heap.size w w' [] [] [⟨2, .slice a ys.length c, ys.length, ys.map (Value.int .i64)⟩] []
theorem retWV_none {w w' : World} {z : Int} {B : List (Nat × List Value)} {I : List (IntKind × Option Addr × List Int)} {M : List (Nat × Obj)} (h : Fr w.heap.size w w' B I [] M) : RetWV w [] z (.returned (.tuple #[.slice none 0 0, .int .i64 z])) w' :=
  ⟨none, 0, rfl, (h.rows.addNil _)⟩

set_option maxRecDepth 100000 in
set_option maxHeartbeats 4000000 in
theorem vlay_bad0 (a b ad p q : Option Addr) (c d cd cp cq : Nat) (sh st data tsh tys : List Int) (off : Int) (w : World) (h : Ints .i64 w w.heap.size a sh) (h2 : Ints .i64 w w.heap.size b st) (h3 : Ints .i64 w w.heap.size ad data) (h5 : Ints .i64 w w.heap.size p tsh) (h6 : Ints .i64 w w.heap.size q tys) (hc0 : viewB sh st off data.length = false) :
    Calls Try.prog 17 #[.agg #[.slice a sh.length c, .slice b st.length d, .int .i64 off], .agg #[.slice p tsh.length cp, .slice q tys.length cq], .slice ad data.length cd] w (RetWV w [] 1) := by
  have HA := Lib.hid h
  have HB := Lib.hid h2
  have HD := Lib.hid h3
  have HP := Lib.hid h5
  have HQ := Lib.hid h6
  have hl1 := h.len
  have hl2 := h2.len
  have hl3 := h3.len
  have hl5 := h5.len
  have hl6 := h6.len
  clear h h2 h3 h5 h6
  have HC0 := Lib.hid hc0
  clear hc0
  go_enter Try.func17, Try.ntmps17
  have F1 := Lib.hid (((((Fr.start (w := w) (I := [(.i64, a, sh), (.i64, b, st), (.i64, ad, data), (.i64, p, tsh), (.i64, q, tys)]) (by intro z hz; simp at hz; rcases hz with rfl | rfl | rfl | rfl | rfl; exact HA.out; exact HB.out; exact HD.out; exact HP.out; exact HQ.out)).box1 (b := w.heap.size) (by simp) [.slice a sh.length c, .slice b st.length d, .int .i64 off] 25).box1 (b := w.heap.size + 1) (by simp) [.slice p tsh.length cp, .slice q tys.length cq] 28).box1 (b := w.heap.size + 1 + 1) (by simp) [.slice none 0 0] 26).box1 (b := w.heap.size + 1 + 1 + 1) (by simp) [.int .i64 0] 40)
  simp only [List.nil_append, List.cons_append] at F1
  go_upto_region 1 with fail
  obtain ⟨W0, hW0⟩ : ∃ W0, ((((w.alloc (.cells #[.slice a sh.length c, .slice b st.length d, .int .i64 off] 25)).alloc (.cells #[.slice p tsh.length cp, .slice q tys.length cq] 28)).alloc (.cells #[.slice none 0 0] 26)).alloc (.cells #[.int .i64 0] 40)) = W0 := ⟨_, rfl⟩
  rw [hW0] at F1 ⊢
  clear hW0
  refine wp_region_parts2 (w := W0) 31 0 none [] [(fun u _ => u = .agg #[.slice a sh.length c, .slice b st.length d, .int .i64 off]), (fun u _ => u = .slice ad data.length cd), (fun u _ => u = .int .i64 (data.length : Int)), (fun u _ => u = .bool false), (fun u _ => u = .bool true), (fun u _ => u = .bool true), (fun u _ => u = undef), (fun u _ => u = undef), (fun u _ => u = undef), (fun u _ => u = .bool true), (fun u _ => u = .bool true), (fun u _ => u = undef), (fun u _ => u = undef), (fun u _ => u = undef), (fun u _ => u = undef), (fun u _ => u = .bool true), (fun u _ => u = .bool true), (fun u _ => u = undef), (fun u _ => u = undef), (fun u _ => u = undef), (fun u _ => u = undef), (fun u _ => u = undef), (fun u _ => u = undef), (fun u _ => u = undef), (fun u _ => u = .bool true), (fun u _ => u = .bool true), (fun u _ => u = undef), (fun u _ => u = undef), (fun u _ => u = undef), (fun u _ => u = undef), (fun u _ => u = .bool true)] [some 12, some 13, some 14, some 15, some 16, some 17, some 18, some 19, some 20, some 21, some 22, some 23, some 24, some 25, some 26, some 27, some 28, some 29, some 30, some 31, some 32, some 33, some 34, some 35, some 36, some 37, some 38, some 39, some 40, some 41, some 42] #[true, true, true, true, true, true, true, true, true, true, true, true, true, true, true, true, true, true, true, true, true, true, true, true, true, true, true, true, true, true, true] #[true, true, true, true, true, true, true, true, true, true, true, true, true, true, true, true, true, true, true, true, true, true, true, true, true, true, true, true, true, true, true] (by kernel_rfl) rfl (by kernel_rfl) (by kernel_rfl) rfl (by kernel_rfl) (by kernel_rfl) (.cons (carries_eq _) (.cons (carries_eq _) (.cons (carries_eq _) (.cons (carries_eq _) (.cons (carries_eq _) (.cons (carries_eq _) (.cons (carries_eq _) (.cons (carries_eq _) (.cons (carries_eq _) (.cons (carries_eq _) (.cons (carries_eq _) (.cons (carries_eq _) (.cons (carries_eq _) (.cons (carries_eq _) (.cons (carries_eq _) (.cons (carries_eq _) (.cons (carries_eq _) (.cons (carries_eq _) (.cons (carries_eq _) (.cons (carries_eq _) (.cons (carries_eq _) (.cons (carries_eq _) (.cons (carries_eq _) (.cons (carries_eq _) (.cons (carries_eq _) (.cons (carries_eq _) (.cons (carries_eq _) (.cons (carries_eq _) (.cons (carries_eq _) (.cons (carries_eq _) (.cons (carries_eq _) .nil))))))))))))))))))))))))))))))) (fun vs b hvl hvb => ?_)
  obtain ⟨x0, x1, x2, x3, x4, x5, x6, x7, x8, x9, x10, x11, x12, x13, x14, x15, x16, x17, x18, x19, x20, x21, x22, x23, x24, x25, x26, x27, x28, x29, x30, rfl⟩ : ∃ x0 x1 x2 x3 x4 x5 x6 x7 x8 x9 x10 x11 x12 x13 x14 x15 x16 x17 x18 x19 x20 x21 x22 x23 x24 x25 x26 x27 x28 x29 x30, vs = [x0, x1, x2, x3, x4, x5, x6, x7, x8, x9, x10, x11, x12, x13, x14, x15, x16, x17, x18, x19, x20, x21, x22, x23, x24, x25, x26, x27, x28, x29, x30] := lst31 hvl
  clear hvl
  simp only [putAll, Act.put, List.setIfInBounds_toArray, List.set_cons_zero, List.set_cons_succ] at hvb
  subst hvb
  refine ⟨(.snoc (.snoc (.snoc (.snoc (.snoc (.snoc (.snoc (.snoc (.snoc (.snoc (.snoc (.snoc (.snoc (.snoc (.snoc (.snoc (.snoc (.snoc (.snoc (.snoc (.snoc (.snoc (.snoc (.snoc (.snoc (.snoc (.snoc (.snoc (.snoc (.snoc (.snoc .zero (PartOb.intro (d := (some 12)) (r := fun u _ => u = .agg #[.slice a sh.length c, .slice b st.length d, .int .i64 off]) rfl rfl rfl rfl ?po1x0)) (PartOb.intro (d := (some 13)) (r := fun u _ => u = .slice ad data.length cd) rfl rfl rfl rfl ?po1x1)) (PartOb.intro (d := (some 14)) (r := fun u _ => u = .int .i64 (data.length : Int)) rfl rfl rfl rfl ?po1x2)) (PartOb.intro (d := (some 15)) (r := fun u _ => u = .bool false) rfl rfl rfl rfl ?po1x3)) (PartOb.intro (d := (some 16)) (r := fun u _ => u = .bool true) rfl rfl rfl rfl ?po1x4)) (PartOb.intro (d := (some 17)) (r := fun u _ => u = .bool true) rfl rfl rfl rfl ?po1x5)) (PartOb.intro (d := (some 18)) (r := fun u _ => u = undef) rfl rfl rfl rfl ?po1x6)) (PartOb.intro (d := (some 19)) (r := fun u _ => u = undef) rfl rfl rfl rfl ?po1x7)) (PartOb.intro (d := (some 20)) (r := fun u _ => u = undef) rfl rfl rfl rfl ?po1x8)) (PartOb.intro (d := (some 21)) (r := fun u _ => u = .bool true) rfl rfl rfl rfl ?po1x9)) (PartOb.intro (d := (some 22)) (r := fun u _ => u = .bool true) rfl rfl rfl rfl ?po1x10)) (PartOb.intro (d := (some 23)) (r := fun u _ => u = undef) rfl rfl rfl rfl ?po1x11)) (PartOb.intro (d := (some 24)) (r := fun u _ => u = undef) rfl rfl rfl rfl ?po1x12)) (PartOb.intro (d := (some 25)) (r := fun u _ => u = undef) rfl rfl rfl rfl ?po1x13)) (PartOb.intro (d := (some 26)) (r := fun u _ => u = undef) rfl rfl rfl rfl ?po1x14)) (PartOb.intro (d := (some 27)) (r := fun u _ => u = .bool true) rfl rfl rfl rfl ?po1x15)) (PartOb.intro (d := (some 28)) (r := fun u _ => u = .bool true) rfl rfl rfl rfl ?po1x16)) (PartOb.intro (d := (some 29)) (r := fun u _ => u = undef) rfl rfl rfl rfl ?po1x17)) (PartOb.intro (d := (some 30)) (r := fun u _ => u = undef) rfl rfl rfl rfl ?po1x18)) (PartOb.intro (d := (some 31)) (r := fun u _ => u = undef) rfl rfl rfl rfl ?po1x19)) (PartOb.intro (d := (some 32)) (r := fun u _ => u = undef) rfl rfl rfl rfl ?po1x20)) (PartOb.intro (d := (some 33)) (r := fun u _ => u = undef) rfl rfl rfl rfl ?po1x21)) (PartOb.intro (d := (some 34)) (r := fun u _ => u = undef) rfl rfl rfl rfl ?po1x22)) (PartOb.intro (d := (some 35)) (r := fun u _ => u = undef) rfl rfl rfl rfl ?po1x23)) (PartOb.intro (d := (some 36)) (r := fun u _ => u = .bool true) rfl rfl rfl rfl ?po1x24)) (PartOb.intro (d := (some 37)) (r := fun u _ => u = .bool true) rfl rfl rfl rfl ?po1x25)) (PartOb.intro (d := (some 38)) (r := fun u _ => u = undef) rfl rfl rfl rfl ?po1x26)) (PartOb.intro (d := (some 39)) (r := fun u _ => u = undef) rfl rfl rfl rfl ?po1x27)) (PartOb.intro (d := (some 40)) (r := fun u _ => u = undef) rfl rfl rfl rfl ?po1x28)) (PartOb.intro (d := (some 41)) (r := fun u _ => u = undef) rfl rfl rfl rfl ?po1x29)) (PartOb.intro (d := (some 42)) (r := fun u _ => u = .bool true) rfl rfl rfl rfl ?po1x30)), ?pend1, ?pfl1⟩
  case po1x0 =>
    intro w1 hb1 hd KK hK
    clear hd
    have hF := F1.out.next hb1
    have k0 := hF.c 0 0 rfl rfl
    have k1 := hF.c 0 1 rfl rfl
    have k2 := hF.c 0 2 rfl rfl
    simp only [Act.put, List.setIfInBounds_toArray, List.set_cons_zero, List.set_cons_succ] at hK
    go_simp
    first | exact hK.out _ _ (Below.refl _ _) rfl | (have hk := hK.out _ _ (Below.refl _ _) rfl; revert hk; go_simp)
  case po1x1 =>
    intro w1 hb1 hd KK hK
    clear hd
    simp only [Act.put, List.setIfInBounds_toArray, List.set_cons_zero, List.set_cons_succ] at hK
    go_simp
    first | exact hK.out _ _ (Below.refl _ _) rfl | (have hk := hK.out _ _ (Below.refl _ _) rfl; revert hk; go_simp)
  case po1x2 =>
    intro w1 hb1 hd KK hK
    have d1 : x1 = .slice ad data.length cd := hd 1 (by kernel_rfl)
    clear hd
    subst d1
    simp only [Act.put, List.setIfInBounds_toArray, List.set_cons_zero, List.set_cons_succ] at hK
    go_simp
    first | exact hK.out _ _ (Below.refl _ _) rfl | (have hk := hK.out _ _ (Below.refl _ _) rfl; revert hk; go_simp)
  case po1x3 =>
    intro w1 hb1 hd KK hK
    have d0 : x0 = .agg #[.slice a sh.length c, .slice b st.length d, .int .i64 off] := hd 0 (by kernel_rfl)
    have d2 : x2 = .int .i64 (data.length : Int) := hd 2 (by kernel_rfl)
    clear hd
    subst d0
    subst d2
    simp only [Act.put, List.setIfInBounds_toArray, List.set_cons_zero, List.set_cons_succ] at hK
    go_simp
    go_at_call 49
    refine (vgood_any a b c d w1.heap.size sh st off (data.length : Int) w1 ((F1.out.next hb1).lw 0 rfl) ((F1.out.next hb1).lw 1 rfl) (Nat.le_refl _)).mono ?_
    rintro e w2 ⟨rfl, hb⟩
    rw [HC0.out]
    (try go_wp2_with fail)
    first | exact hK.out _ _ hb rfl | (have hk := hK.out _ _ hb rfl; revert hk; go_simp)
  case po1x4 =>
    intro w1 hb1 hd KK hK
    have d3 : x3 = .bool false := hd 3 (by kernel_rfl)
    clear hd
    subst d3
    simp only [Act.put, List.setIfInBounds_toArray, List.set_cons_zero, List.set_cons_succ] at hK
    go_simp
    first | exact hK.out _ _ (Below.refl _ _) rfl | (have hk := hK.out _ _ (Below.refl _ _) rfl; revert hk; go_simp)
  case po1x5 =>
    intro w1 hb1 hd KK hK
    have d3 : x3 = .bool false := hd 3 (by kernel_rfl)
    have d4 : x4 = .bool true := hd 4 (by kernel_rfl)
    clear hd
    subst d3
    subst d4
    simp only [Act.put, List.setIfInBounds_toArray, List.set_cons_zero, List.set_cons_succ] at hK
    go_simp
    first | exact hK.out _ _ (Below.refl _ _) rfl | (have hk := hK.out _ _ (Below.refl _ _) rfl; revert hk; go_simp)
  case po1x6 =>
    intro w1 hb1 hd KK hK
    have d5 : x5 = .bool true := hd 5 (by kernel_rfl)
    clear hd
    subst d5
    simp only [Act.put, List.setIfInBounds_toArray, List.set_cons_zero, List.set_cons_succ] at hK
    go_simp
    first | exact hK.out _ _ (Below.refl _ _) rfl | (have hk := hK.out _ _ (Below.refl _ _) rfl; revert hk; go_simp)
  case po1x7 =>
    intro w1 hb1 hd KK hK
    have d5 : x5 = .bool true := hd 5 (by kernel_rfl)
    have d6 : x6 = undef := hd 6 (by kernel_rfl)
    clear hd
    subst d5
    subst d6
    simp only [Act.put, List.setIfInBounds_toArray, List.set_cons_zero, List.set_cons_succ] at hK
    go_simp
    first | exact hK.out _ _ (Below.refl _ _) rfl | (have hk := hK.out _ _ (Below.refl _ _) rfl; revert hk; go_simp)
  case po1x8 =>
    intro w1 hb1 hd KK hK
    have d5 : x5 = .bool true := hd 5 (by kernel_rfl)
    have d7 : x7 = undef := hd 7 (by kernel_rfl)
    clear hd
    subst d5
    subst d7
    simp only [Act.put, List.setIfInBounds_toArray, List.set_cons_zero, List.set_cons_succ] at hK
    go_simp
    first | exact hK.out _ _ (Below.refl _ _) rfl | (have hk := hK.out _ _ (Below.refl _ _) rfl; revert hk; go_simp)
  case po1x9 =>
    intro w1 hb1 hd KK hK
    have d5 : x5 = .bool true := hd 5 (by kernel_rfl)
    have d8 : x8 = undef := hd 8 (by kernel_rfl)
    clear hd
    subst d5
    subst d8
    simp only [Act.put, List.setIfInBounds_toArray, List.set_cons_zero, List.set_cons_succ] at hK
    go_simp
    first | exact hK.out _ _ (Below.refl _ _) rfl | (have hk := hK.out _ _ (Below.refl _ _) rfl; revert hk; go_simp)
  case po1x10 =>
    intro w1 hb1 hd KK hK
    have d7 : x7 = undef := hd 7 (by kernel_rfl)
    have d9 : x9 = .bool true := hd 9 (by kernel_rfl)
    clear hd
    subst d7
    subst d9
    simp only [Act.put, List.setIfInBounds_toArray, List.set_cons_zero, List.set_cons_succ] at hK
    go_simp
    first | exact hK.out _ _ (Below.refl _ _) rfl | (have hk := hK.out _ _ (Below.refl _ _) rfl; revert hk; go_simp)
  case po1x11 =>
    intro w1 hb1 hd KK hK
    have d10 : x10 = .bool true := hd 10 (by kernel_rfl)
    clear hd
    subst d10
    simp only [Act.put, List.setIfInBounds_toArray, List.set_cons_zero, List.set_cons_succ] at hK
    go_simp
    first | exact hK.out _ _ (Below.refl _ _) rfl | (have hk := hK.out _ _ (Below.refl _ _) rfl; revert hk; go_simp)
  case po1x12 =>
    intro w1 hb1 hd KK hK
    have d10 : x10 = .bool true := hd 10 (by kernel_rfl)
    have d11 : x11 = undef := hd 11 (by kernel_rfl)
    clear hd
    subst d10
    subst d11
    simp only [Act.put, List.setIfInBounds_toArray, List.set_cons_zero, List.set_cons_succ] at hK
    go_simp
    first | exact hK.out _ _ (Below.refl _ _) rfl | (have hk := hK.out _ _ (Below.refl _ _) rfl; revert hk; go_simp)
  case po1x13 =>
    intro w1 hb1 hd KK hK
    have d10 : x10 = .bool true := hd 10 (by kernel_rfl)
    have d12 : x12 = undef := hd 12 (by kernel_rfl)
    clear hd
    subst d10
    subst d12
    simp only [Act.put, List.setIfInBounds_toArray, List.set_cons_zero, List.set_cons_succ] at hK
    go_simp
    first | exact hK.out _ _ (Below.refl _ _) rfl | (have hk := hK.out _ _ (Below.refl _ _) rfl; revert hk; go_simp)
  case po1x14 =>
    intro w1 hb1 hd KK hK
    have d10 : x10 = .bool true := hd 10 (by kernel_rfl)
    have d13 : x13 = undef := hd 13 (by kernel_rfl)
    clear hd
    subst d10
    subst d13
    simp only [Act.put, List.setIfInBounds_toArray, List.set_cons_zero, List.set_cons_succ] at hK
    go_simp
    first | exact hK.out _ _ (Below.refl _ _) rfl | (have hk := hK.out _ _ (Below.refl _ _) rfl; revert hk; go_simp)
  case po1x15 =>
    intro w1 hb1 hd KK hK
    have d10 : x10 = .bool true := hd 10 (by kernel_rfl)
    have d14 : x14 = undef := hd 14 (by kernel_rfl)
    clear hd
    subst d10
    subst d14
    simp only [Act.put, List.setIfInBounds_toArray, List.set_cons_zero, List.set_cons_succ] at hK
    go_simp
    first | exact hK.out _ _ (Below.refl _ _) rfl | (have hk := hK.out _ _ (Below.refl _ _) rfl; revert hk; go_simp)
  case po1x16 =>
    intro w1 hb1 hd KK hK
    have d13 : x13 = undef := hd 13 (by kernel_rfl)
    have d15 : x15 = .bool true := hd 15 (by kernel_rfl)
    clear hd
    subst d13
    subst d15
    simp only [Act.put, List.setIfInBounds_toArray, List.set_cons_zero, List.set_cons_succ] at hK
    go_simp
    first | exact hK.out _ _ (Below.refl _ _) rfl | (have hk := hK.out _ _ (Below.refl _ _) rfl; revert hk; go_simp)
  case po1x17 =>
    intro w1 hb1 hd KK hK
    have d16 : x16 = .bool true := hd 16 (by kernel_rfl)
    clear hd
    subst d16
    simp only [Act.put, List.setIfInBounds_toArray, List.set_cons_zero, List.set_cons_succ] at hK
    go_simp
    first | exact hK.out _ _ (Below.refl _ _) rfl | (have hk := hK.out _ _ (Below.refl _ _) rfl; revert hk; go_simp)
  case po1x18 =>
    intro w1 hb1 hd KK hK
    have d16 : x16 = .bool true := hd 16 (by kernel_rfl)
    have d17 : x17 = undef := hd 17 (by kernel_rfl)
    clear hd
    subst d16
    subst d17
    simp only [Act.put, List.setIfInBounds_toArray, List.set_cons_zero, List.set_cons_succ] at hK
    go_simp
    first | exact hK.out _ _ (Below.refl _ _) rfl | (have hk := hK.out _ _ (Below.refl _ _) rfl; revert hk; go_simp)
  case po1x19 =>
    intro w1 hb1 hd KK hK
    have d16 : x16 = .bool true := hd 16 (by kernel_rfl)
    have d18 : x18 = undef := hd 18 (by kernel_rfl)
    clear hd
    subst d16
    subst d18
    simp only [Act.put, List.setIfInBounds_toArray, List.set_cons_zero, List.set_cons_succ] at hK
    go_simp
    first | exact hK.out _ _ (Below.refl _ _) rfl | (have hk := hK.out _ _ (Below.refl _ _) rfl; revert hk; go_simp)
  case po1x20 =>
    intro w1 hb1 hd KK hK
    have d16 : x16 = .bool true := hd 16 (by kernel_rfl)
    clear hd
    subst d16
    simp only [Act.put, List.setIfInBounds_toArray, List.set_cons_zero, List.set_cons_succ] at hK
    go_simp
    first | exact hK.out _ _ (Below.refl _ _) rfl | (have hk := hK.out _ _ (Below.refl _ _) rfl; revert hk; go_simp)
  case po1x21 =>
    intro w1 hb1 hd KK hK
    have d16 : x16 = .bool true := hd 16 (by kernel_rfl)
    have d20 : x20 = undef := hd 20 (by kernel_rfl)
    clear hd
    subst d16
    subst d20
    simp only [Act.put, List.setIfInBounds_toArray, List.set_cons_zero, List.set_cons_succ] at hK
    go_simp
    first | exact hK.out _ _ (Below.refl _ _) rfl | (have hk := hK.out _ _ (Below.refl _ _) rfl; revert hk; go_simp)
  case po1x22 =>
    intro w1 hb1 hd KK hK
    have d16 : x16 = .bool true := hd 16 (by kernel_rfl)
    have d21 : x21 = undef := hd 21 (by kernel_rfl)
    clear hd
    subst d16
    subst d21
    simp only [Act.put, List.setIfInBounds_toArray, List.set_cons_zero, List.set_cons_succ] at hK
    go_simp
    first | exact hK.out _ _ (Below.refl _ _) rfl | (have hk := hK.out _ _ (Below.refl _ _) rfl; revert hk; go_simp)
  case po1x23 =>
    intro w1 hb1 hd KK hK
    have d16 : x16 = .bool true := hd 16 (by kernel_rfl)
    have d19 : x19 = undef := hd 19 (by kernel_rfl)
    have d22 : x22 = undef := hd 22 (by kernel_rfl)
    clear hd
    subst d16
    subst d19
    subst d22
    simp only [Act.put, List.setIfInBounds_toArray, List.set_cons_zero, List.set_cons_succ] at hK
    go_simp
    first | exact hK.out _ _ (Below.refl _ _) rfl | (have hk := hK.out _ _ (Below.refl _ _) rfl; revert hk; go_simp)
  case po1x24 =>
    intro w1 hb1 hd KK hK
    have d16 : x16 = .bool true := hd 16 (by kernel_rfl)
    have d23 : x23 = undef := hd 23 (by kernel_rfl)
    clear hd
    subst d16
    subst d23
    simp only [Act.put, List.setIfInBounds_toArray, List.set_cons_zero, List.set_cons_succ] at hK
    go_simp
    first | exact hK.out _ _ (Below.refl _ _) rfl | (have hk := hK.out _ _ (Below.refl _ _) rfl; revert hk; go_simp)
  case po1x25 =>
    intro w1 hb1 hd KK hK
    have d22 : x22 = undef := hd 22 (by kernel_rfl)
    have d24 : x24 = .bool true := hd 24 (by kernel_rfl)
    clear hd
    subst d22
    subst d24
    simp only [Act.put, List.setIfInBounds_toArray, List.set_cons_zero, List.set_cons_succ] at hK
    go_simp
    first | exact hK.out _ _ (Below.refl _ _) rfl | (have hk := hK.out _ _ (Below.refl _ _) rfl; revert hk; go_simp)
  case po1x26 =>
    intro w1 hb1 hd KK hK
    have d25 : x25 = .bool true := hd 25 (by kernel_rfl)
    clear hd
    subst d25
    simp only [Act.put, List.setIfInBounds_toArray, List.set_cons_zero, List.set_cons_succ] at hK
    go_simp
    first | exact hK.out _ _ (Below.refl _ _) rfl | (have hk := hK.out _ _ (Below.refl _ _) rfl; revert hk; go_simp)
  case po1x27 =>
    intro w1 hb1 hd KK hK
    have d25 : x25 = .bool true := hd 25 (by kernel_rfl)
    have d26 : x26 = undef := hd 26 (by kernel_rfl)
    clear hd
    subst d25
    subst d26
    simp only [Act.put, List.setIfInBounds_toArray, List.set_cons_zero, List.set_cons_succ] at hK
    go_simp
    first | exact hK.out _ _ (Below.refl _ _) rfl | (have hk := hK.out _ _ (Below.refl _ _) rfl; revert hk; go_simp)
  case po1x28 =>
    intro w1 hb1 hd KK hK
    have d25 : x25 = .bool true := hd 25 (by kernel_rfl)
    have d27 : x27 = undef := hd 27 (by kernel_rfl)
    clear hd
    subst d25
    subst d27
    simp only [Act.put, List.setIfInBounds_toArray, List.set_cons_zero, List.set_cons_succ] at hK
    go_simp
    first | exact hK.out _ _ (Below.refl _ _) rfl | (have hk := hK.out _ _ (Below.refl _ _) rfl; revert hk; go_simp)
  case po1x29 =>
    intro w1 hb1 hd KK hK
    have d25 : x25 = .bool true := hd 25 (by kernel_rfl)
    have d28 : x28 = undef := hd 28 (by kernel_rfl)
    clear hd
    subst d25
    subst d28
    simp only [Act.put, List.setIfInBounds_toArray, List.set_cons_zero, List.set_cons_succ] at hK
    go_simp
    first | exact hK.out _ _ (Below.refl _ _) rfl | (have hk := hK.out _ _ (Below.refl _ _) rfl; revert hk; go_simp)
  case po1x30 =>
    intro w1 hb1 hd KK hK
    have d25 : x25 = .bool true := hd 25 (by kernel_rfl)
    have d29 : x29 = undef := hd 29 (by kernel_rfl)
    clear hd
    subst d25
    subst d29
    simp only [Act.put, List.setIfInBounds_toArray, List.set_cons_zero, List.set_cons_succ] at hK
    go_simp
    first | exact hK.out _ _ (Below.refl _ _) rfl | (have hk := hK.out _ _ (Below.refl _ _) rfl; revert hk; go_simp)
  case pfl1 => (intro f hf; cases hf)
  case pend1 =>
  intro w1 hb1 hR hD
  have d0 : x0 = .agg #[.slice a sh.length c, .slice b st.length d, .int .i64 off] := hR 0 (by decide)
  have d1 : x1 = .slice ad data.length cd := hR 1 (by decide)
  have d2 : x2 = .int .i64 (data.length : Int) := hR 2 (by decide)
  have d3 : x3 = .bool false := hR 3 (by decide)
  have d4 : x4 = .bool true := hR 4 (by decide)
  have d5 : x5 = .bool true := hR 5 (by decide)
  have d6 : x6 = undef := hR 6 (by decide)
  have d7 : x7 = undef := hR 7 (by decide)
  have d8 : x8 = undef := hR 8 (by decide)
  have d9 : x9 = .bool true := hR 9 (by decide)
  have d10 : x10 = .bool true := hR 10 (by decide)
  have d11 : x11 = undef := hR 11 (by decide)
  have d12 : x12 = undef := hR 12 (by decide)
  have d13 : x13 = undef := hR 13 (by decide)
  have d14 : x14 = undef := hR 14 (by decide)
  have d15 : x15 = .bool true := hR 15 (by decide)
  have d16 : x16 = .bool true := hR 16 (by decide)
  have d17 : x17 = undef := hR 17 (by decide)
  have d18 : x18 = undef := hR 18 (by decide)
  have d19 : x19 = undef := hR 19 (by decide)
  have d20 : x20 = undef := hR 20 (by decide)
  have d21 : x21 = undef := hR 21 (by decide)
  have d22 : x22 = undef := hR 22 (by decide)
  have d23 : x23 = undef := hR 23 (by decide)
  have d24 : x24 = .bool true := hR 24 (by decide)
  have d25 : x25 = .bool true := hR 25 (by decide)
  have d26 : x26 = undef := hR 26 (by decide)
  have d27 : x27 = undef := hR 27 (by decide)
  have d28 : x28 = undef := hR 28 (by decide)
  have d29 : x29 = undef := hR 29 (by decide)
  have d30 : x30 = .bool true := hR 30 (by decide)
  clear hR hD
  subst d0
  subst d1
  subst d2
  subst d3
  subst d4
  subst d5
  subst d6
  subst d7
  subst d8
  subst d9
  subst d10
  subst d11
  subst d12
  subst d13
  subst d14
  subst d15
  subst d16
  subst d17
  subst d18
  subst d19
  subst d20
  subst d21
  subst d22
  subst d23
  subst d24
  subst d25
  subst d26
  subst d27
  subst d28
  subst d29
  subst d30
  refine wpAny_done (by kernel_rfl) ?_ _
  have F2 := Lib.hid (F1.out.next hb1)
  clear hb1 F1
  have d2_0 := F2.out.c 2 0 rfl rfl
  have d3_0 := F2.out.c 3 0 rfl rfl
  have df2_0 := F2.out.f 2 0 rfl rfl
  have df3_0 := F2.out.f 3 0 rfl rfl
  go_wp2
  have FZ := (F2.out.set 2 rfl (by simp) [.slice none 0 0] rfl).set 3 rfl (by simp) [.int .i64 1] rfl
  simp only [setL, Nat.reduceAdd, List.set_cons_zero, List.set_cons_succ] at FZ
  have z0 := FZ.c 2 0 rfl rfl
  have z1 := FZ.c 3 0 rfl rfl
  refine bodyPost_ret (v := .tuple #[.slice none 0 0, .int .i64 1]) ?_ rfl (retWV_none FZ)
  rw [results_ccV rfl]
  go_simp
set_option maxRecDepth 100000 in
set_option maxHeartbeats 4000000 in
theorem vlay_bad1 (a b ad p q : Option Addr) (c d cd cp cq : Nat) (sh st data tsh tys : List Int) (off : Int) (w : World) (h : Ints .i64 w w.heap.size a sh) (h2 : Ints .i64 w w.heap.size b st) (h3 : Ints .i64 w w.heap.size ad data) (h5 : Ints .i64 w w.heap.size p tsh) (h6 : Ints .i64 w w.heap.size q tys) (hc0 : viewB sh st off data.length = true) (hc1 : data.all isW = false) :
    Calls Try.prog 17 #[.agg #[.slice a sh.length c, .slice b st.length d, .int .i64 off], .agg #[.slice p tsh.length cp, .slice q tys.length cq], .slice ad data.length cd] w (RetWV w [] 1) := by
  have HA := Lib.hid h
  have HB := Lib.hid h2
  have HD := Lib.hid h3
  have HP := Lib.hid h5
  have HQ := Lib.hid h6
  have hl1 := h.len
  have hl2 := h2.len
  have hl3 := h3.len
  have hl5 := h5.len
  have hl6 := h6.len
  clear h h2 h3 h5 h6
  have HC0 := Lib.hid hc0
  have HC1 := Lib.hid hc1
  clear hc0 hc1
  go_enter Try.func17, Try.ntmps17
  have F1 := Lib.hid (((((Fr.start (w := w) (I := [(.i64, a, sh), (.i64, b, st), (.i64, ad, data), (.i64, p, tsh), (.i64, q, tys)]) (by intro z hz; simp at hz; rcases hz with rfl | rfl | rfl | rfl | rfl; exact HA.out; exact HB.out; exact HD.out; exact HP.out; exact HQ.out)).box1 (b := w.heap.size) (by simp) [.slice a sh.length c, .slice b st.length d, .int .i64 off] 25).box1 (b := w.heap.size + 1) (by simp) [.slice p tsh.length cp, .slice q tys.length cq] 28).box1 (b := w.heap.size + 1 + 1) (by simp) [.slice none 0 0] 26).box1 (b := w.heap.size + 1 + 1 + 1) (by simp) [.int .i64 0] 40)
  simp only [List.nil_append, List.cons_append] at F1
  go_upto_region 1 with fail
  obtain ⟨W0, hW0⟩ : ∃ W0, ((((w.alloc (.cells #[.slice a sh.length c, .slice b st.length d, .int .i64 off] 25)).alloc (.cells #[.slice p tsh.length cp, .slice q tys.length cq] 28)).alloc (.cells #[.slice none 0 0] 26)).alloc (.cells #[.int .i64 0] 40)) = W0 := ⟨_, rfl⟩
  rw [hW0] at F1 ⊢
  clear hW0
  refine wp_region_parts2 (w := W0) 31 0 none [] [(fun u _ => u = .agg #[.slice a sh.length c, .slice b st.length d, .int .i64 off]), (fun u _ => u = .slice ad data.length cd), (fun u _ => u = .int .i64 (data.length : Int)), (fun u _ => u = .bool true), (fun u _ => u = .bool false), (fun u _ => u = .bool false), (fun u _ => u = .slice ad data.length cd), (fun u _ => u = .bool false), (fun u _ => u = .bool true), (fun u _ => u = .bool true), (fun u _ => u = .bool true), (fun u _ => u = undef), (fun u _ => u = undef), (fun u _ => u = undef), (fun u _ => u = undef), (fun u _ => u = .bool true), (fun u _ => u = .bool true), (fun u _ => u = undef), (fun u _ => u = undef), (fun u _ => u = undef), (fun u _ => u = undef), (fun u _ => u = undef), (fun u _ => u = undef), (fun u _ => u = undef), (fun u _ => u = .bool true), (fun u _ => u = .bool true), (fun u _ => u = undef), (fun u _ => u = undef), (fun u _ => u = undef), (fun u _ => u = undef), (fun u _ => u = .bool true)] [some 12, some 13, some 14, some 15, some 16, some 17, some 18, some 19, some 20, some 21, some 22, some 23, some 24, some 25, some 26, some 27, some 28, some 29, some 30, some 31, some 32, some 33, some 34, some 35, some 36, some 37, some 38, some 39, some 40, some 41, some 42] #[true, true, true, true, true, true, true, true, true, true, true, true, true, true, true, true, true, true, true, true, true, true, true, true, true, true, true, true, true, true, true] #[true, true, true, true, true, true, true, true, true, true, true, true, true, true, true, true, true, true, true, true, true, true, true, true, true, true, true, true, true, true, true] (by kernel_rfl) rfl (by kernel_rfl) (by kernel_rfl) rfl (by kernel_rfl) (by kernel_rfl) (.cons (carries_eq _) (.cons (carries_eq _) (.cons (carries_eq _) (.cons (carries_eq _) (.cons (carries_eq _) (.cons (carries_eq _) (.cons (carries_eq _) (.cons (carries_eq _) (.cons (carries_eq _) (.cons (carries_eq _) (.cons (carries_eq _) (.cons (carries_eq _) (.cons (carries_eq _) (.cons (carries_eq _) (.cons (carries_eq _) (.cons (carries_eq _) (.cons (carries_eq _) (.cons (carries_eq _) (.cons (carries_eq _) (.cons (carries_eq _) (.cons (carries_eq _) (.cons (carries_eq _) (.cons (carries_eq _) (.cons (carries_eq _) (.cons (carries_eq _) (.cons (carries_eq _) (.cons (carries_eq _) (.cons (carries_eq _) (.cons (carries_eq _) (.cons (carries_eq _) (.cons (carries_eq _) .nil))))))))))))))))))))))))))))))) (fun vs b hvl hvb => ?_)
  obtain ⟨x0, x1, x2, x3, x4, x5, x6, x7, x8, x9, x10, x11, x12, x13, x14, x15, x16, x17, x18, x19, x20, x21, x22, x23, x24, x25, x26, x27, x28, x29, x30, rfl⟩ : ∃ x0 x1 x2 x3 x4 x5 x6 x7 x8 x9 x10 x11 x12 x13 x14 x15 x16 x17 x18 x19 x20 x21 x22 x23 x24 x25 x26 x27 x28 x29 x30, vs = [x0, x1, x2, x3, x4, x5, x6, x7, x8, x9, x10, x11, x12, x13, x14, x15, x16, x17, x18, x19, x20, x21, x22, x23, x24, x25, x26, x27, x28, x29, x30] := lst31 hvl
  clear hvl
  simp only [putAll, Act.put, List.setIfInBounds_toArray, List.set_cons_zero, List.set_cons_succ] at hvb
  subst hvb
  refine ⟨(.snoc (.snoc (.snoc (.snoc (.snoc (.snoc (.snoc (.snoc (.snoc (.snoc (.snoc (.snoc (.snoc (.snoc (.snoc (.snoc (.snoc (.snoc (.snoc (.snoc (.snoc (.snoc (.snoc (.snoc (.snoc (.snoc (.snoc (.snoc (.snoc (.snoc (.snoc .zero (PartOb.intro (d := (some 12)) (r := fun u _ => u = .agg #[.slice a sh.length c, .slice b st.length d, .int .i64 off]) rfl rfl rfl rfl ?po1x0)) (PartOb.intro (d := (some 13)) (r := fun u _ => u = .slice ad data.length cd) rfl rfl rfl rfl ?po1x1)) (PartOb.intro (d := (some 14)) (r := fun u _ => u = .int .i64 (data.length : Int)) rfl rfl rfl rfl ?po1x2)) (PartOb.intro (d := (some 15)) (r := fun u _ => u = .bool true) rfl rfl rfl rfl ?po1x3)) (PartOb.intro (d := (some 16)) (r := fun u _ => u = .bool false) rfl rfl rfl rfl ?po1x4)) (PartOb.intro (d := (some 17)) (r := fun u _ => u = .bool false) rfl rfl rfl rfl ?po1x5)) (PartOb.intro (d := (some 18)) (r := fun u _ => u = .slice ad data.length cd) rfl rfl rfl rfl ?po1x6)) (PartOb.intro (d := (some 19)) (r := fun u _ => u = .bool false) rfl rfl rfl rfl ?po1x7)) (PartOb.intro (d := (some 20)) (r := fun u _ => u = .bool true) rfl rfl rfl rfl ?po1x8)) (PartOb.intro (d := (some 21)) (r := fun u _ => u = .bool true) rfl rfl rfl rfl ?po1x9)) (PartOb.intro (d := (some 22)) (r := fun u _ => u = .bool true) rfl rfl rfl rfl ?po1x10)) (PartOb.intro (d := (some 23)) (r := fun u _ => u = undef) rfl rfl rfl rfl ?po1x11)) (PartOb.intro (d := (some 24)) (r := fun u _ => u = undef) rfl rfl rfl rfl ?po1x12)) (PartOb.intro (d := (some 25)) (r := fun u _ => u = undef) rfl rfl rfl rfl ?po1x13)) (PartOb.intro (d := (some 26)) (r := fun u _ => u = undef) rfl rfl rfl rfl ?po1x14)) (PartOb.intro (d := (some 27)) (r := fun u _ => u = .bool true) rfl rfl rfl rfl ?po1x15)) (PartOb.intro (d := (some 28)) (r := fun u _ => u = .bool true) rfl rfl rfl rfl ?po1x16)) (PartOb.intro (d := (some 29)) (r := fun u _ => u = undef) rfl rfl rfl rfl ?po1x17)) (PartOb.intro (d := (some 30)) (r := fun u _ => u = undef) rfl rfl rfl rfl ?po1x18)) (PartOb.intro (d := (some 31)) (r := fun u _ => u = undef) rfl rfl rfl rfl ?po1x19)) (PartOb.intro (d := (some 32)) (r := fun u _ => u = undef) rfl rfl rfl rfl ?po1x20)) (PartOb.intro (d := (some 33)) (r := fun u _ => u = undef) rfl rfl rfl rfl ?po1x21)) (PartOb.intro (d := (some 34)) (r := fun u _ => u = undef) rfl rfl rfl rfl ?po1x22)) (PartOb.intro (d := (some 35)) (r := fun u _ => u = undef) rfl rfl rfl rfl ?po1x23)) (PartOb.intro (d := (some 36)) (r := fun u _ => u = .bool true) rfl rfl rfl rfl ?po1x24)) (PartOb.intro (d := (some 37)) (r := fun u _ => u = .bool true) rfl rfl rfl rfl ?po1x25)) (PartOb.intro (d := (some 38)) (r := fun u _ => u = undef) rfl rfl rfl rfl ?po1x26)) (PartOb.intro (d := (some 39)) (r := fun u _ => u = undef) rfl rfl rfl rfl ?po1x27)) (PartOb.intro (d := (some 40)) (r := fun u _ => u = undef) rfl rfl rfl rfl ?po1x28)) (PartOb.intro (d := (some 41)) (r := fun u _ => u = undef) rfl rfl rfl rfl ?po1x29)) (PartOb.intro (d := (some 42)) (r := fun u _ => u = .bool true) rfl rfl rfl rfl ?po1x30)), ?pend1, ?pfl1⟩
  case po1x0 =>
    intro w1 hb1 hd KK hK
    clear hd
    have hF := F1.out.next hb1
    have k0 := hF.c 0 0 rfl rfl
    have k1 := hF.c 0 1 rfl rfl
    have k2 := hF.c 0 2 rfl rfl
    simp only [Act.put, List.setIfInBounds_toArray, List.set_cons_zero, List.set_cons_succ] at hK
    go_simp
    first | exact hK.out _ _ (Below.refl _ _) rfl | (have hk := hK.out _ _ (Below.refl _ _) rfl; revert hk; go_simp)
  case po1x1 =>
    intro w1 hb1 hd KK hK
    clear hd
    simp only [Act.put, List.setIfInBounds_toArray, List.set_cons_zero, List.set_cons_succ] at hK
    go_simp
    first | exact hK.out _ _ (Below.refl _ _) rfl | (have hk := hK.out _ _ (Below.refl _ _) rfl; revert hk; go_simp)
  case po1x2 =>
    intro w1 hb1 hd KK hK
    have d1 : x1 = .slice ad data.length cd := hd 1 (by kernel_rfl)
    clear hd
    subst d1
    simp only [Act.put, List.setIfInBounds_toArray, List.set_cons_zero, List.set_cons_succ] at hK
    go_simp
    first | exact hK.out _ _ (Below.refl _ _) rfl | (have hk := hK.out _ _ (Below.refl _ _) rfl; revert hk; go_simp)
  case po1x3 =>
    intro w1 hb1 hd KK hK
    have d0 : x0 = .agg #[.slice a sh.length c, .slice b st.length d, .int .i64 off] := hd 0 (by kernel_rfl)
    have d2 : x2 = .int .i64 (data.length : Int) := hd 2 (by kernel_rfl)
    clear hd
    subst d0
    subst d2
    simp only [Act.put, List.setIfInBounds_toArray, List.set_cons_zero, List.set_cons_succ] at hK
    go_simp
    go_at_call 49
    refine (vgood_any a b c d w1.heap.size sh st off (data.length : Int) w1 ((F1.out.next hb1).lw 0 rfl) ((F1.out.next hb1).lw 1 rfl) (Nat.le_refl _)).mono ?_
    rintro e w2 ⟨rfl, hb⟩
    rw [HC0.out]
    (try go_wp2_with fail)
    first | exact hK.out _ _ hb rfl | (have hk := hK.out _ _ hb rfl; revert hk; go_simp)
  case po1x4 =>
    intro w1 hb1 hd KK hK
    have d3 : x3 = .bool true := hd 3 (by kernel_rfl)
    clear hd
    subst d3
    simp only [Act.put, List.setIfInBounds_toArray, List.set_cons_zero, List.set_cons_succ] at hK
    go_simp
    first | exact hK.out _ _ (Below.refl _ _) rfl | (have hk := hK.out _ _ (Below.refl _ _) rfl; revert hk; go_simp)
  case po1x5 =>
    intro w1 hb1 hd KK hK
    have d3 : x3 = .bool true := hd 3 (by kernel_rfl)
    have d4 : x4 = .bool false := hd 4 (by kernel_rfl)
    clear hd
    subst d3
    subst d4
    simp only [Act.put, List.setIfInBounds_toArray, List.set_cons_zero, List.set_cons_succ] at hK
    go_simp
    first | exact hK.out _ _ (Below.refl _ _) rfl | (have hk := hK.out _ _ (Below.refl _ _) rfl; revert hk; go_simp)
  case po1x6 =>
    intro w1 hb1 hd KK hK
    have d5 : x5 = .bool false := hd 5 (by kernel_rfl)
    clear hd
    subst d5
    simp only [Act.put, List.setIfInBounds_toArray, List.set_cons_zero, List.set_cons_succ] at hK
    go_simp
    first | exact hK.out _ _ (Below.refl _ _) rfl | (have hk := hK.out _ _ (Below.refl _ _) rfl; revert hk; go_simp)
  case po1x7 =>
    intro w1 hb1 hd KK hK
    have d5 : x5 = .bool false := hd 5 (by kernel_rfl)
    have d6 : x6 = .slice ad data.length cd := hd 6 (by kernel_rfl)
    clear hd
    subst d5
    subst d6
    simp only [Act.put, List.setIfInBounds_toArray, List.set_cons_zero, List.set_cons_succ] at hK
    go_simp
    go_at_call 50
    refine (vwords_any _ _ _ data _ ((F1.out.next hb1).lw 2 rfl)).mono ?_
    rintro e w' ⟨rfl, rfl⟩
    rw [HC1.out]
    (try go_wp2_with fail)
    first | exact hK.out _ _ (Below.refl _ _) rfl | (have hk := hK.out _ _ (Below.refl _ _) rfl; revert hk; go_simp)
  case po1x8 =>
    intro w1 hb1 hd KK hK
    have d5 : x5 = .bool false := hd 5 (by kernel_rfl)
    have d7 : x7 = .bool false := hd 7 (by kernel_rfl)
    clear hd
    subst d5
    subst d7
    simp only [Act.put, List.setIfInBounds_toArray, List.set_cons_zero, List.set_cons_succ] at hK
    go_simp
    first | exact hK.out _ _ (Below.refl _ _) rfl | (have hk := hK.out _ _ (Below.refl _ _) rfl; revert hk; go_simp)
  case po1x9 =>
    intro w1 hb1 hd KK hK
    have d5 : x5 = .bool false := hd 5 (by kernel_rfl)
    have d8 : x8 = .bool true := hd 8 (by kernel_rfl)
    clear hd
    subst d5
    subst d8
    simp only [Act.put, List.setIfInBounds_toArray, List.set_cons_zero, List.set_cons_succ] at hK
    go_simp
    first | exact hK.out _ _ (Below.refl _ _) rfl | (have hk := hK.out _ _ (Below.refl _ _) rfl; revert hk; go_simp)
  case po1x10 =>
    intro w1 hb1 hd KK hK
    have d7 : x7 = .bool false := hd 7 (by kernel_rfl)
    have d9 : x9 = .bool true := hd 9 (by kernel_rfl)
    clear hd
    subst d7
    subst d9
    simp only [Act.put, List.setIfInBounds_toArray, List.set_cons_zero, List.set_cons_succ] at hK
    go_simp
    first | exact hK.out _ _ (Below.refl _ _) rfl | (have hk := hK.out _ _ (Below.refl _ _) rfl; revert hk; go_simp)
  case po1x11 =>
    intro w1 hb1 hd KK hK
    have d10 : x10 = .bool true := hd 10 (by kernel_rfl)
    clear hd
    subst d10
    simp only [Act.put, List.setIfInBounds_toArray, List.set_cons_zero, List.set_cons_succ] at hK
    go_simp
    first | exact hK.out _ _ (Below.refl _ _) rfl | (have hk := hK.out _ _ (Below.refl _ _) rfl; revert hk; go_simp)
  case po1x12 =>
    intro w1 hb1 hd KK hK
    have d10 : x10 = .bool true := hd 10 (by kernel_rfl)
    have d11 : x11 = undef := hd 11 (by kernel_rfl)
    clear hd
    subst d10
    subst d11
    simp only [Act.put, List.setIfInBounds_toArray, List.set_cons_zero, List.set_cons_succ] at hK
    go_simp
    first | exact hK.out _ _ (Below.refl _ _) rfl | (have hk := hK.out _ _ (Below.refl _ _) rfl; revert hk; go_simp)
  case po1x13 =>
    intro w1 hb1 hd KK hK
    have d10 : x10 = .bool true := hd 10 (by kernel_rfl)
    have d12 : x12 = undef := hd 12 (by kernel_rfl)
    clear hd
    subst d10
    subst d12
    simp only [Act.put, List.setIfInBounds_toArray, List.set_cons_zero, List.set_cons_succ] at hK
    go_simp
    first | exact hK.out _ _ (Below.refl _ _) rfl | (have hk := hK.out _ _ (Below.refl _ _) rfl; revert hk; go_simp)
  case po1x14 =>
    intro w1 hb1 hd KK hK
    have d10 : x10 = .bool true := hd 10 (by kernel_rfl)
    have d13 : x13 = undef := hd 13 (by kernel_rfl)
    clear hd
    subst d10
    subst d13
    simp only [Act.put, List.setIfInBounds_toArray, List.set_cons_zero, List.set_cons_succ] at hK
    go_simp
    first | exact hK.out _ _ (Below.refl _ _) rfl | (have hk := hK.out _ _ (Below.refl _ _) rfl; revert hk; go_simp)
  case po1x15 =>
    intro w1 hb1 hd KK hK
    have d10 : x10 = .bool true := hd 10 (by kernel_rfl)
    have d14 : x14 = undef := hd 14 (by kernel_rfl)
    clear hd
    subst d10
    subst d14
    simp only [Act.put, List.setIfInBounds_toArray, List.set_cons_zero, List.set_cons_succ] at hK
    go_simp
    first | exact hK.out _ _ (Below.refl _ _) rfl | (have hk := hK.out _ _ (Below.refl _ _) rfl; revert hk; go_simp)
  case po1x16 =>
    intro w1 hb1 hd KK hK
    have d13 : x13 = undef := hd 13 (by kernel_rfl)
    have d15 : x15 = .bool true := hd 15 (by kernel_rfl)
    clear hd
    subst d13
    subst d15
    simp only [Act.put, List.setIfInBounds_toArray, List.set_cons_zero, List.set_cons_succ] at hK
    go_simp
    first | exact hK.out _ _ (Below.refl _ _) rfl | (have hk := hK.out _ _ (Below.refl _ _) rfl; revert hk; go_simp)
  case po1x17 =>
    intro w1 hb1 hd KK hK
    have d16 : x16 = .bool true := hd 16 (by kernel_rfl)
    clear hd
    subst d16
    simp only [Act.put, List.setIfInBounds_toArray, List.set_cons_zero, List.set_cons_succ] at hK
    go_simp
    first | exact hK.out _ _ (Below.refl _ _) rfl | (have hk := hK.out _ _ (Below.refl _ _) rfl; revert hk; go_simp)
  case po1x18 =>
    intro w1 hb1 hd KK hK
    have d16 : x16 = .bool true := hd 16 (by kernel_rfl)
    have d17 : x17 = undef := hd 17 (by kernel_rfl)
    clear hd
    subst d16
    subst d17
    simp only [Act.put, List.setIfInBounds_toArray, List.set_cons_zero, List.set_cons_succ] at hK
    go_simp
    first | exact hK.out _ _ (Below.refl _ _) rfl | (have hk := hK.out _ _ (Below.refl _ _) rfl; revert hk; go_simp)
  case po1x19 =>
    intro w1 hb1 hd KK hK
    have d16 : x16 = .bool true := hd 16 (by kernel_rfl)
    have d18 : x18 = undef := hd 18 (by kernel_rfl)
    clear hd
    subst d16
    subst d18
    simp only [Act.put, List.setIfInBounds_toArray, List.set_cons_zero, List.set_cons_succ] at hK
    go_simp
    first | exact hK.out _ _ (Below.refl _ _) rfl | (have hk := hK.out _ _ (Below.refl _ _) rfl; revert hk; go_simp)
  case po1x20 =>
    intro w1 hb1 hd KK hK
    have d16 : x16 = .bool true := hd 16 (by kernel_rfl)
    clear hd
    subst d16
    simp only [Act.put, List.setIfInBounds_toArray, List.set_cons_zero, List.set_cons_succ] at hK
    go_simp
    first | exact hK.out _ _ (Below.refl _ _) rfl | (have hk := hK.out _ _ (Below.refl _ _) rfl; revert hk; go_simp)
  case po1x21 =>
    intro w1 hb1 hd KK hK
    have d16 : x16 = .bool true := hd 16 (by kernel_rfl)
    have d20 : x20 = undef := hd 20 (by kernel_rfl)
    clear hd
    subst d16
    subst d20
    simp only [Act.put, List.setIfInBounds_toArray, List.set_cons_zero, List.set_cons_succ] at hK
    go_simp
    first | exact hK.out _ _ (Below.refl _ _) rfl | (have hk := hK.out _ _ (Below.refl _ _) rfl; revert hk; go_simp)
  case po1x22 =>
    intro w1 hb1 hd KK hK
    have d16 : x16 = .bool true := hd 16 (by kernel_rfl)
    have d21 : x21 = undef := hd 21 (by kernel_rfl)
    clear hd
    subst d16
    subst d21
    simp only [Act.put, List.setIfInBounds_toArray, List.set_cons_zero, List.set_cons_succ] at hK
    go_simp
    first | exact hK.out _ _ (Below.refl _ _) rfl | (have hk := hK.out _ _ (Below.refl _ _) rfl; revert hk; go_simp)
  case po1x23 =>
    intro w1 hb1 hd KK hK
    have d16 : x16 = .bool true := hd 16 (by kernel_rfl)
    have d19 : x19 = undef := hd 19 (by kernel_rfl)
    have d22 : x22 = undef := hd 22 (by kernel_rfl)
    clear hd
    subst d16
    subst d19
    subst d22
    simp only [Act.put, List.setIfInBounds_toArray, List.set_cons_zero, List.set_cons_succ] at hK
    go_simp
    first | exact hK.out _ _ (Below.refl _ _) rfl | (have hk := hK.out _ _ (Below.refl _ _) rfl; revert hk; go_simp)
  case po1x24 =>
    intro w1 hb1 hd KK hK
    have d16 : x16 = .bool true := hd 16 (by kernel_rfl)
    have d23 : x23 = undef := hd 23 (by kernel_rfl)
    clear hd
    subst d16
    subst d23
    simp only [Act.put, List.setIfInBounds_toArray, List.set_cons_zero, List.set_cons_succ] at hK
    go_simp
    first | exact hK.out _ _ (Below.refl _ _) rfl | (have hk := hK.out _ _ (Below.refl _ _) rfl; revert hk; go_simp)
  case po1x25 =>
    intro w1 hb1 hd KK hK
    have d22 : x22 = undef := hd 22 (by kernel_rfl)
    have d24 : x24 = .bool true := hd 24 (by kernel_rfl)
    clear hd
    subst d22
    subst d24
    simp only [Act.put, List.setIfInBounds_toArray, List.set_cons_zero, List.set_cons_succ] at hK
    go_simp
    first | exact hK.out _ _ (Below.refl _ _) rfl | (have hk := hK.out _ _ (Below.refl _ _) rfl; revert hk; go_simp)
  case po1x26 =>
    intro w1 hb1 hd KK hK
    have d25 : x25 = .bool true := hd 25 (by kernel_rfl)
    clear hd
    subst d25
    simp only [Act.put, List.setIfInBounds_toArray, List.set_cons_zero, List.set_cons_succ] at hK
    go_simp
    first | exact hK.out _ _ (Below.refl _ _) rfl | (have hk := hK.out _ _ (Below.refl _ _) rfl; revert hk; go_simp)
  case po1x27 =>
    intro w1 hb1 hd KK hK
    have d25 : x25 = .bool true := hd 25 (by kernel_rfl)
    have d26 : x26 = undef := hd 26 (by kernel_rfl)
    clear hd
    subst d25
    subst d26
    simp only [Act.put, List.setIfInBounds_toArray, List.set_cons_zero, List.set_cons_succ] at hK
    go_simp
    first | exact hK.out _ _ (Below.refl _ _) rfl | (have hk := hK.out _ _ (Below.refl _ _) rfl; revert hk; go_simp)
  case po1x28 =>
    intro w1 hb1 hd KK hK
    have d25 : x25 = .bool true := hd 25 (by kernel_rfl)
    have d27 : x27 = undef := hd 27 (by kernel_rfl)
    clear hd
    subst d25
    subst d27
    simp only [Act.put, List.setIfInBounds_toArray, List.set_cons_zero, List.set_cons_succ] at hK
    go_simp
    first | exact hK.out _ _ (Below.refl _ _) rfl | (have hk := hK.out _ _ (Below.refl _ _) rfl; revert hk; go_simp)
  case po1x29 =>
    intro w1 hb1 hd KK hK
    have d25 : x25 = .bool true := hd 25 (by kernel_rfl)
    have d28 : x28 = undef := hd 28 (by kernel_rfl)
    clear hd
    subst d25
    subst d28
    simp only [Act.put, List.setIfInBounds_toArray, List.set_cons_zero, List.set_cons_succ] at hK
    go_simp
    first | exact hK.out _ _ (Below.refl _ _) rfl | (have hk := hK.out _ _ (Below.refl _ _) rfl; revert hk; go_simp)
  case po1x30 =>
    intro w1 hb1 hd KK hK
    have d25 : x25 = .bool true := hd 25 (by kernel_rfl)
    have d29 : x29 = undef := hd 29 (by kernel_rfl)
    clear hd
    subst d25
    subst d29
    simp only [Act.put, List.setIfInBounds_toArray, List.set_cons_zero, List.set_cons_succ] at hK
    go_simp
    first | exact hK.out _ _ (Below.refl _ _) rfl | (have hk := hK.out _ _ (Below.refl _ _) rfl; revert hk; go_simp)
  case pfl1 => (intro f hf; cases hf)
  case pend1 =>
  intro w1 hb1 hR hD
  have d0 : x0 = .agg #[.slice a sh.length c, .slice b st.length d, .int .i64 off] := hR 0 (by decide)
  have d1 : x1 = .slice ad data.length cd := hR 1 (by decide)
  have d2 : x2 = .int .i64 (data.length : Int) := hR 2 (by decide)
  have d3 : x3 = .bool true := hR 3 (by decide)
  have d4 : x4 = .bool false := hR 4 (by decide)
  have d5 : x5 = .bool false := hR 5 (by decide)
  have d6 : x6 = .slice ad data.length cd := hR 6 (by decide)
  have d7 : x7 = .bool false := hR 7 (by decide)
  have d8 : x8 = .bool true := hR 8 (by decide)
  have d9 : x9 = .bool true := hR 9 (by decide)
  have d10 : x10 = .bool true := hR 10 (by decide)
  have d11 : x11 = undef := hR 11 (by decide)
  have d12 : x12 = undef := hR 12 (by decide)
  have d13 : x13 = undef := hR 13 (by decide)
  have d14 : x14 = undef := hR 14 (by decide)
  have d15 : x15 = .bool true := hR 15 (by decide)
  have d16 : x16 = .bool true := hR 16 (by decide)
  have d17 : x17 = undef := hR 17 (by decide)
  have d18 : x18 = undef := hR 18 (by decide)
  have d19 : x19 = undef := hR 19 (by decide)
  have d20 : x20 = undef := hR 20 (by decide)
  have d21 : x21 = undef := hR 21 (by decide)
  have d22 : x22 = undef := hR 22 (by decide)
  have d23 : x23 = undef := hR 23 (by decide)
  have d24 : x24 = .bool true := hR 24 (by decide)
  have d25 : x25 = .bool true := hR 25 (by decide)
  have d26 : x26 = undef := hR 26 (by decide)
  have d27 : x27 = undef := hR 27 (by decide)
  have d28 : x28 = undef := hR 28 (by decide)
  have d29 : x29 = undef := hR 29 (by decide)
  have d30 : x30 = .bool true := hR 30 (by decide)
  clear hR hD
  subst d0
  subst d1
  subst d2
  subst d3
  subst d4
  subst d5
  subst d6
  subst d7
  subst d8
  subst d9
  subst d10
  subst d11
  subst d12
  subst d13
  subst d14
  subst d15
  subst d16
  subst d17
  subst d18
  subst d19
  subst d20
  subst d21
  subst d22
  subst d23
  subst d24
  subst d25
  subst d26
  subst d27
  subst d28
  subst d29
  subst d30
  refine wpAny_done (by kernel_rfl) ?_ _
  have F2 := Lib.hid (F1.out.next hb1)
  clear hb1 F1
  have d2_0 := F2.out.c 2 0 rfl rfl
  have d3_0 := F2.out.c 3 0 rfl rfl
  have df2_0 := F2.out.f 2 0 rfl rfl
  have df3_0 := F2.out.f 3 0 rfl rfl
  go_wp2
  have FZ := (F2.out.set 2 rfl (by simp) [.slice none 0 0] rfl).set 3 rfl (by simp) [.int .i64 1] rfl
  simp only [setL, Nat.reduceAdd, List.set_cons_zero, List.set_cons_succ] at FZ
  have z0 := FZ.c 2 0 rfl rfl
  have z1 := FZ.c 3 0 rfl rfl
  refine bodyPost_ret (v := .tuple #[.slice none 0 0, .int .i64 1]) ?_ rfl (retWV_none FZ)
  rw [results_ccV rfl]
  go_simp
set_option maxRecDepth 100000 in
set_option maxHeartbeats 4000000 in
theorem vlay_bad2 (a b ad p q : Option Addr) (c d cd cp cq : Nat) (sh st data tsh tys : List Int) (off : Int) (w : World) (h : Ints .i64 w w.heap.size a sh) (h2 : Ints .i64 w w.heap.size b st) (h3 : Ints .i64 w w.heap.size ad data) (h5 : Ints .i64 w w.heap.size p tsh) (h6 : Ints .i64 w w.heap.size q tys) (hc0 : viewB sh st off data.length = true) (hc1 : data.all isW = true) (hc2 : goodB tsh = false) :
    Calls Try.prog 17 #[.agg #[.slice a sh.length c, .slice b st.length d, .int .i64 off], .agg #[.slice p tsh.length cp, .slice q tys.length cq], .slice ad data.length cd] w (RetWV w [] 1) := by
  have HA := Lib.hid h
  have HB := Lib.hid h2
  have HD := Lib.hid h3
  have HP := Lib.hid h5
  have HQ := Lib.hid h6
  have hl1 := h.len
  have hl2 := h2.len
  have hl3 := h3.len
  have hl5 := h5.len
  have hl6 := h6.len
  clear h h2 h3 h5 h6
  have HC0 := Lib.hid hc0
  have HC1 := Lib.hid hc1
  have HC2 := Lib.hid hc2
  clear hc0 hc1 hc2
  go_enter Try.func17, Try.ntmps17
  have F1 := Lib.hid (((((Fr.start (w := w) (I := [(.i64, a, sh), (.i64, b, st), (.i64, ad, data), (.i64, p, tsh), (.i64, q, tys)]) (by intro z hz; simp at hz; rcases hz with rfl | rfl | rfl | rfl | rfl; exact HA.out; exact HB.out; exact HD.out; exact HP.out; exact HQ.out)).box1 (b := w.heap.size) (by simp) [.slice a sh.length c, .slice b st.length d, .int .i64 off] 25).box1 (b := w.heap.size + 1) (by simp) [.slice p tsh.length cp, .slice q tys.length cq] 28).box1 (b := w.heap.size + 1 + 1) (by simp) [.slice none 0 0] 26).box1 (b := w.heap.size + 1 + 1 + 1) (by simp) [.int .i64 0] 40)
  simp only [List.nil_append, List.cons_append] at F1
  go_upto_region 1 with fail
  obtain ⟨W0, hW0⟩ : ∃ W0, ((((w.alloc (.cells #[.slice a sh.length c, .slice b st.length d, .int .i64 off] 25)).alloc (.cells #[.slice p tsh.length cp, .slice q tys.length cq] 28)).alloc (.cells #[.slice none 0 0] 26)).alloc (.cells #[.int .i64 0] 40)) = W0 := ⟨_, rfl⟩
  rw [hW0] at F1 ⊢
  clear hW0
  refine wp_region_parts2 (w := W0) 31 0 none [] [(fun u _ => u = .agg #[.slice a sh.length c, .slice b st.length d, .int .i64 off]), (fun u _ => u = .slice ad data.length cd), (fun u _ => u = .int .i64 (data.length : Int)), (fun u _ => u = .bool true), (fun u _ => u = .bool false), (fun u _ => u = .bool false), (fun u _ => u = .slice ad data.length cd), (fun u _ => u = .bool true), (fun u _ => u = .bool false), (fun u _ => u = .bool false), (fun u _ => u = .bool false), (fun u _ => u = .pointer (some ⟨w.heap.size + 1, 0, none⟩)), (fun u _ => u = .slice p tsh.length cp), (fun u _ => u = .bool false), (fun u _ => u = .bool true), (fun u _ => u = .bool true), (fun u _ => u = .bool true), (fun u _ => u = undef), (fun u _ => u = undef), (fun u _ => u = undef), (fun u _ => u = undef), (fun u _ => u = undef), (fun u _ => u = undef), (fun u _ => u = undef), (fun u _ => u = .bool true), (fun u _ => u = .bool true), (fun u _ => u = undef), (fun u _ => u = undef), (fun u _ => u = undef), (fun u _ => u = undef), (fun u _ => u = .bool true)] [some 12, some 13, some 14, some 15, some 16, some 17, some 18, some 19, some 20, some 21, some 22, some 23, some 24, some 25, some 26, some 27, some 28, some 29, some 30, some 31, some 32, some 33, some 34, some 35, some 36, some 37, some 38, some 39, some 40, some 41, some 42] #[true, true, true, true, true, true, true, true, true, true, true, true, true, true, true, true, true, true, true, true, true, true, true, true, true, true, true, true, true, true, true] #[true, true, true, true, true, true, true, true, true, true, true, true, true, true, true, true, true, true, true, true, true, true, true, true, true, true, true, true, true, true, true] (by kernel_rfl) rfl (by kernel_rfl) (by kernel_rfl) rfl (by kernel_rfl) (by kernel_rfl) (.cons (carries_eq _) (.cons (carries_eq _) (.cons (carries_eq _) (.cons (carries_eq _) (.cons (carries_eq _) (.cons (carries_eq _) (.cons (carries_eq _) (.cons (carries_eq _) (.cons (carries_eq _) (.cons (carries_eq _) (.cons (carries_eq _) (.cons (carries_eq _) (.cons (carries_eq _) (.cons (carries_eq _) (.cons (carries_eq _) (.cons (carries_eq _) (.cons (carries_eq _) (.cons (carries_eq _) (.cons (carries_eq _) (.cons (carries_eq _) (.cons (carries_eq _) (.cons (carries_eq _) (.cons (carries_eq _) (.cons (carries_eq _) (.cons (carries_eq _) (.cons (carries_eq _) (.cons (carries_eq _) (.cons (carries_eq _) (.cons (carries_eq _) (.cons (carries_eq _) (.cons (carries_eq _) .nil))))))))))))))))))))))))))))))) (fun vs b hvl hvb => ?_)
  obtain ⟨x0, x1, x2, x3, x4, x5, x6, x7, x8, x9, x10, x11, x12, x13, x14, x15, x16, x17, x18, x19, x20, x21, x22, x23, x24, x25, x26, x27, x28, x29, x30, rfl⟩ : ∃ x0 x1 x2 x3 x4 x5 x6 x7 x8 x9 x10 x11 x12 x13 x14 x15 x16 x17 x18 x19 x20 x21 x22 x23 x24 x25 x26 x27 x28 x29 x30, vs = [x0, x1, x2, x3, x4, x5, x6, x7, x8, x9, x10, x11, x12, x13, x14, x15, x16, x17, x18, x19, x20, x21, x22, x23, x24, x25, x26, x27, x28, x29, x30] := lst31 hvl
  clear hvl
  simp only [putAll, Act.put, List.setIfInBounds_toArray, List.set_cons_zero, List.set_cons_succ] at hvb
  subst hvb
  refine ⟨(.snoc (.snoc (.snoc (.snoc (.snoc (.snoc (.snoc (.snoc (.snoc (.snoc (.snoc (.snoc (.snoc (.snoc (.snoc (.snoc (.snoc (.snoc (.snoc (.snoc (.snoc (.snoc (.snoc (.snoc (.snoc (.snoc (.snoc (.snoc (.snoc (.snoc (.snoc .zero (PartOb.intro (d := (some 12)) (r := fun u _ => u = .agg #[.slice a sh.length c, .slice b st.length d, .int .i64 off]) rfl rfl rfl rfl ?po1x0)) (PartOb.intro (d := (some 13)) (r := fun u _ => u = .slice ad data.length cd) rfl rfl rfl rfl ?po1x1)) (PartOb.intro (d := (some 14)) (r := fun u _ => u = .int .i64 (data.length : Int)) rfl rfl rfl rfl ?po1x2)) (PartOb.intro (d := (some 15)) (r := fun u _ => u = .bool true) rfl rfl rfl rfl ?po1x3)) (PartOb.intro (d := (some 16)) (r := fun u _ => u = .bool false) rfl rfl rfl rfl ?po1x4)) (PartOb.intro (d := (some 17)) (r := fun u _ => u = .bool false) rfl rfl rfl rfl ?po1x5)) (PartOb.intro (d := (some 18)) (r := fun u _ => u = .slice ad data.length cd) rfl rfl rfl rfl ?po1x6)) (PartOb.intro (d := (some 19)) (r := fun u _ => u = .bool true) rfl rfl rfl rfl ?po1x7)) (PartOb.intro (d := (some 20)) (r := fun u _ => u = .bool false) rfl rfl rfl rfl ?po1x8)) (PartOb.intro (d := (some 21)) (r := fun u _ => u = .bool false) rfl rfl rfl rfl ?po1x9)) (PartOb.intro (d := (some 22)) (r := fun u _ => u = .bool false) rfl rfl rfl rfl ?po1x10)) (PartOb.intro (d := (some 23)) (r := fun u _ => u = .pointer (some ⟨w.heap.size + 1, 0, none⟩)) rfl rfl rfl rfl ?po1x11)) (PartOb.intro (d := (some 24)) (r := fun u _ => u = .slice p tsh.length cp) rfl rfl rfl rfl ?po1x12)) (PartOb.intro (d := (some 25)) (r := fun u _ => u = .bool false) rfl rfl rfl rfl ?po1x13)) (PartOb.intro (d := (some 26)) (r := fun u _ => u = .bool true) rfl rfl rfl rfl ?po1x14)) (PartOb.intro (d := (some 27)) (r := fun u _ => u = .bool true) rfl rfl rfl rfl ?po1x15)) (PartOb.intro (d := (some 28)) (r := fun u _ => u = .bool true) rfl rfl rfl rfl ?po1x16)) (PartOb.intro (d := (some 29)) (r := fun u _ => u = undef) rfl rfl rfl rfl ?po1x17)) (PartOb.intro (d := (some 30)) (r := fun u _ => u = undef) rfl rfl rfl rfl ?po1x18)) (PartOb.intro (d := (some 31)) (r := fun u _ => u = undef) rfl rfl rfl rfl ?po1x19)) (PartOb.intro (d := (some 32)) (r := fun u _ => u = undef) rfl rfl rfl rfl ?po1x20)) (PartOb.intro (d := (some 33)) (r := fun u _ => u = undef) rfl rfl rfl rfl ?po1x21)) (PartOb.intro (d := (some 34)) (r := fun u _ => u = undef) rfl rfl rfl rfl ?po1x22)) (PartOb.intro (d := (some 35)) (r := fun u _ => u = undef) rfl rfl rfl rfl ?po1x23)) (PartOb.intro (d := (some 36)) (r := fun u _ => u = .bool true) rfl rfl rfl rfl ?po1x24)) (PartOb.intro (d := (some 37)) (r := fun u _ => u = .bool true) rfl rfl rfl rfl ?po1x25)) (PartOb.intro (d := (some 38)) (r := fun u _ => u = undef) rfl rfl rfl rfl ?po1x26)) (PartOb.intro (d := (some 39)) (r := fun u _ => u = undef) rfl rfl rfl rfl ?po1x27)) (PartOb.intro (d := (some 40)) (r := fun u _ => u = undef) rfl rfl rfl rfl ?po1x28)) (PartOb.intro (d := (some 41)) (r := fun u _ => u = undef) rfl rfl rfl rfl ?po1x29)) (PartOb.intro (d := (some 42)) (r := fun u _ => u = .bool true) rfl rfl rfl rfl ?po1x30)), ?pend1, ?pfl1⟩
  case po1x0 =>
    intro w1 hb1 hd KK hK
    clear hd
    have hF := F1.out.next hb1
    have k0 := hF.c 0 0 rfl rfl
    have k1 := hF.c 0 1 rfl rfl
    have k2 := hF.c 0 2 rfl rfl
    simp only [Act.put, List.setIfInBounds_toArray, List.set_cons_zero, List.set_cons_succ] at hK
    go_simp
    first | exact hK.out _ _ (Below.refl _ _) rfl | (have hk := hK.out _ _ (Below.refl _ _) rfl; revert hk; go_simp)
  case po1x1 =>
    intro w1 hb1 hd KK hK
    clear hd
    simp only [Act.put, List.setIfInBounds_toArray, List.set_cons_zero, List.set_cons_succ] at hK
    go_simp
    first | exact hK.out _ _ (Below.refl _ _) rfl | (have hk := hK.out _ _ (Below.refl _ _) rfl; revert hk; go_simp)
  case po1x2 =>
    intro w1 hb1 hd KK hK
    have d1 : x1 = .slice ad data.length cd := hd 1 (by kernel_rfl)
    clear hd
    subst d1
    simp only [Act.put, List.setIfInBounds_toArray, List.set_cons_zero, List.set_cons_succ] at hK
    go_simp
    first | exact hK.out _ _ (Below.refl _ _) rfl | (have hk := hK.out _ _ (Below.refl _ _) rfl; revert hk; go_simp)
  case po1x3 =>
    intro w1 hb1 hd KK hK
    have d0 : x0 = .agg #[.slice a sh.length c, .slice b st.length d, .int .i64 off] := hd 0 (by kernel_rfl)
    have d2 : x2 = .int .i64 (data.length : Int) := hd 2 (by kernel_rfl)
    clear hd
    subst d0
    subst d2
    simp only [Act.put, List.setIfInBounds_toArray, List.set_cons_zero, List.set_cons_succ] at hK
    go_simp
    go_at_call 49
    refine (vgood_any a b c d w1.heap.size sh st off (data.length : Int) w1 ((F1.out.next hb1).lw 0 rfl) ((F1.out.next hb1).lw 1 rfl) (Nat.le_refl _)).mono ?_
    rintro e w2 ⟨rfl, hb⟩
    rw [HC0.out]
    (try go_wp2_with fail)
    first | exact hK.out _ _ hb rfl | (have hk := hK.out _ _ hb rfl; revert hk; go_simp)
  case po1x4 =>
    intro w1 hb1 hd KK hK
    have d3 : x3 = .bool true := hd 3 (by kernel_rfl)
    clear hd
    subst d3
    simp only [Act.put, List.setIfInBounds_toArray, List.set_cons_zero, List.set_cons_succ] at hK
    go_simp
    first | exact hK.out _ _ (Below.refl _ _) rfl | (have hk := hK.out _ _ (Below.refl _ _) rfl; revert hk; go_simp)
  case po1x5 =>
    intro w1 hb1 hd KK hK
    have d3 : x3 = .bool true := hd 3 (by kernel_rfl)
    have d4 : x4 = .bool false := hd 4 (by kernel_rfl)
    clear hd
    subst d3
    subst d4
    simp only [Act.put, List.setIfInBounds_toArray, List.set_cons_zero, List.set_cons_succ] at hK
    go_simp
    first | exact hK.out _ _ (Below.refl _ _) rfl | (have hk := hK.out _ _ (Below.refl _ _) rfl; revert hk; go_simp)
  case po1x6 =>
    intro w1 hb1 hd KK hK
    have d5 : x5 = .bool false := hd 5 (by kernel_rfl)
    clear hd
    subst d5
    simp only [Act.put, List.setIfInBounds_toArray, List.set_cons_zero, List.set_cons_succ] at hK
    go_simp
    first | exact hK.out _ _ (Below.refl _ _) rfl | (have hk := hK.out _ _ (Below.refl _ _) rfl; revert hk; go_simp)
  case po1x7 =>
    intro w1 hb1 hd KK hK
    have d5 : x5 = .bool false := hd 5 (by kernel_rfl)
    have d6 : x6 = .slice ad data.length cd := hd 6 (by kernel_rfl)
    clear hd
    subst d5
    subst d6
    simp only [Act.put, List.setIfInBounds_toArray, List.set_cons_zero, List.set_cons_succ] at hK
    go_simp
    go_at_call 50
    refine (vwords_any _ _ _ data _ ((F1.out.next hb1).lw 2 rfl)).mono ?_
    rintro e w' ⟨rfl, rfl⟩
    rw [HC1.out]
    (try go_wp2_with fail)
    first | exact hK.out _ _ (Below.refl _ _) rfl | (have hk := hK.out _ _ (Below.refl _ _) rfl; revert hk; go_simp)
  case po1x8 =>
    intro w1 hb1 hd KK hK
    have d5 : x5 = .bool false := hd 5 (by kernel_rfl)
    have d7 : x7 = .bool true := hd 7 (by kernel_rfl)
    clear hd
    subst d5
    subst d7
    simp only [Act.put, List.setIfInBounds_toArray, List.set_cons_zero, List.set_cons_succ] at hK
    go_simp
    first | exact hK.out _ _ (Below.refl _ _) rfl | (have hk := hK.out _ _ (Below.refl _ _) rfl; revert hk; go_simp)
  case po1x9 =>
    intro w1 hb1 hd KK hK
    have d5 : x5 = .bool false := hd 5 (by kernel_rfl)
    have d8 : x8 = .bool false := hd 8 (by kernel_rfl)
    clear hd
    subst d5
    subst d8
    simp only [Act.put, List.setIfInBounds_toArray, List.set_cons_zero, List.set_cons_succ] at hK
    go_simp
    first | exact hK.out _ _ (Below.refl _ _) rfl | (have hk := hK.out _ _ (Below.refl _ _) rfl; revert hk; go_simp)
  case po1x10 =>
    intro w1 hb1 hd KK hK
    have d7 : x7 = .bool true := hd 7 (by kernel_rfl)
    have d9 : x9 = .bool false := hd 9 (by kernel_rfl)
    clear hd
    subst d7
    subst d9
    simp only [Act.put, List.setIfInBounds_toArray, List.set_cons_zero, List.set_cons_succ] at hK
    go_simp
    first | exact hK.out _ _ (Below.refl _ _) rfl | (have hk := hK.out _ _ (Below.refl _ _) rfl; revert hk; go_simp)
  case po1x11 =>
    intro w1 hb1 hd KK hK
    have d10 : x10 = .bool false := hd 10 (by kernel_rfl)
    clear hd
    subst d10
    simp only [Act.put, List.setIfInBounds_toArray, List.set_cons_zero, List.set_cons_succ] at hK
    go_simp
    first | exact hK.out _ _ (Below.refl _ _) rfl | (have hk := hK.out _ _ (Below.refl _ _) rfl; revert hk; go_simp)
  case po1x12 =>
    intro w1 hb1 hd KK hK
    have d10 : x10 = .bool false := hd 10 (by kernel_rfl)
    have d11 : x11 = .pointer (some ⟨w.heap.size + 1, 0, none⟩) := hd 11 (by kernel_rfl)
    clear hd
    subst d10
    subst d11
    have hF := F1.out.next hb1
    have k0 := hF.c 1 0 rfl rfl
    have k1 := hF.c 1 1 rfl rfl
    simp only [Act.put, List.setIfInBounds_toArray, List.set_cons_zero, List.set_cons_succ] at hK
    go_simp
    first | exact hK.out _ _ (Below.refl _ _) rfl | (have hk := hK.out _ _ (Below.refl _ _) rfl; revert hk; go_simp)
  case po1x13 =>
    intro w1 hb1 hd KK hK
    have d10 : x10 = .bool false := hd 10 (by kernel_rfl)
    have d12 : x12 = .slice p tsh.length cp := hd 12 (by kernel_rfl)
    clear hd
    subst d10
    subst d12
    simp only [Act.put, List.setIfInBounds_toArray, List.set_cons_zero, List.set_cons_succ] at hK
    go_simp
    go_at_call 54
    refine (good_any _ _ _ tsh _ ((F1.out.next hb1).lw 3 rfl)).mono ?_
    rintro e w' ⟨rfl, rfl⟩
    rw [HC2.out]
    (try go_wp2_with fail)
    first | exact hK.out _ _ (Below.refl _ _) rfl | (have hk := hK.out _ _ (Below.refl _ _) rfl; revert hk; go_simp)
  case po1x14 =>
    intro w1 hb1 hd KK hK
    have d10 : x10 = .bool false := hd 10 (by kernel_rfl)
    have d13 : x13 = .bool false := hd 13 (by kernel_rfl)
    clear hd
    subst d10
    subst d13
    simp only [Act.put, List.setIfInBounds_toArray, List.set_cons_zero, List.set_cons_succ] at hK
    go_simp
    first | exact hK.out _ _ (Below.refl _ _) rfl | (have hk := hK.out _ _ (Below.refl _ _) rfl; revert hk; go_simp)
  case po1x15 =>
    intro w1 hb1 hd KK hK
    have d10 : x10 = .bool false := hd 10 (by kernel_rfl)
    have d14 : x14 = .bool true := hd 14 (by kernel_rfl)
    clear hd
    subst d10
    subst d14
    simp only [Act.put, List.setIfInBounds_toArray, List.set_cons_zero, List.set_cons_succ] at hK
    go_simp
    first | exact hK.out _ _ (Below.refl _ _) rfl | (have hk := hK.out _ _ (Below.refl _ _) rfl; revert hk; go_simp)
  case po1x16 =>
    intro w1 hb1 hd KK hK
    have d13 : x13 = .bool false := hd 13 (by kernel_rfl)
    have d15 : x15 = .bool true := hd 15 (by kernel_rfl)
    clear hd
    subst d13
    subst d15
    simp only [Act.put, List.setIfInBounds_toArray, List.set_cons_zero, List.set_cons_succ] at hK
    go_simp
    first | exact hK.out _ _ (Below.refl _ _) rfl | (have hk := hK.out _ _ (Below.refl _ _) rfl; revert hk; go_simp)
  case po1x17 =>
    intro w1 hb1 hd KK hK
    have d16 : x16 = .bool true := hd 16 (by kernel_rfl)
    clear hd
    subst d16
    simp only [Act.put, List.setIfInBounds_toArray, List.set_cons_zero, List.set_cons_succ] at hK
    go_simp
    first | exact hK.out _ _ (Below.refl _ _) rfl | (have hk := hK.out _ _ (Below.refl _ _) rfl; revert hk; go_simp)
  case po1x18 =>
    intro w1 hb1 hd KK hK
    have d16 : x16 = .bool true := hd 16 (by kernel_rfl)
    have d17 : x17 = undef := hd 17 (by kernel_rfl)
    clear hd
    subst d16
    subst d17
    simp only [Act.put, List.setIfInBounds_toArray, List.set_cons_zero, List.set_cons_succ] at hK
    go_simp
    first | exact hK.out _ _ (Below.refl _ _) rfl | (have hk := hK.out _ _ (Below.refl _ _) rfl; revert hk; go_simp)
  case po1x19 =>
    intro w1 hb1 hd KK hK
    have d16 : x16 = .bool true := hd 16 (by kernel_rfl)
    have d18 : x18 = undef := hd 18 (by kernel_rfl)
    clear hd
    subst d16
    subst d18
    simp only [Act.put, List.setIfInBounds_toArray, List.set_cons_zero, List.set_cons_succ] at hK
    go_simp
    first | exact hK.out _ _ (Below.refl _ _) rfl | (have hk := hK.out _ _ (Below.refl _ _) rfl; revert hk; go_simp)
  case po1x20 =>
    intro w1 hb1 hd KK hK
    have d16 : x16 = .bool true := hd 16 (by kernel_rfl)
    clear hd
    subst d16
    simp only [Act.put, List.setIfInBounds_toArray, List.set_cons_zero, List.set_cons_succ] at hK
    go_simp
    first | exact hK.out _ _ (Below.refl _ _) rfl | (have hk := hK.out _ _ (Below.refl _ _) rfl; revert hk; go_simp)
  case po1x21 =>
    intro w1 hb1 hd KK hK
    have d16 : x16 = .bool true := hd 16 (by kernel_rfl)
    have d20 : x20 = undef := hd 20 (by kernel_rfl)
    clear hd
    subst d16
    subst d20
    simp only [Act.put, List.setIfInBounds_toArray, List.set_cons_zero, List.set_cons_succ] at hK
    go_simp
    first | exact hK.out _ _ (Below.refl _ _) rfl | (have hk := hK.out _ _ (Below.refl _ _) rfl; revert hk; go_simp)
  case po1x22 =>
    intro w1 hb1 hd KK hK
    have d16 : x16 = .bool true := hd 16 (by kernel_rfl)
    have d21 : x21 = undef := hd 21 (by kernel_rfl)
    clear hd
    subst d16
    subst d21
    simp only [Act.put, List.setIfInBounds_toArray, List.set_cons_zero, List.set_cons_succ] at hK
    go_simp
    first | exact hK.out _ _ (Below.refl _ _) rfl | (have hk := hK.out _ _ (Below.refl _ _) rfl; revert hk; go_simp)
  case po1x23 =>
    intro w1 hb1 hd KK hK
    have d16 : x16 = .bool true := hd 16 (by kernel_rfl)
    have d19 : x19 = undef := hd 19 (by kernel_rfl)
    have d22 : x22 = undef := hd 22 (by kernel_rfl)
    clear hd
    subst d16
    subst d19
    subst d22
    simp only [Act.put, List.setIfInBounds_toArray, List.set_cons_zero, List.set_cons_succ] at hK
    go_simp
    first | exact hK.out _ _ (Below.refl _ _) rfl | (have hk := hK.out _ _ (Below.refl _ _) rfl; revert hk; go_simp)
  case po1x24 =>
    intro w1 hb1 hd KK hK
    have d16 : x16 = .bool true := hd 16 (by kernel_rfl)
    have d23 : x23 = undef := hd 23 (by kernel_rfl)
    clear hd
    subst d16
    subst d23
    simp only [Act.put, List.setIfInBounds_toArray, List.set_cons_zero, List.set_cons_succ] at hK
    go_simp
    first | exact hK.out _ _ (Below.refl _ _) rfl | (have hk := hK.out _ _ (Below.refl _ _) rfl; revert hk; go_simp)
  case po1x25 =>
    intro w1 hb1 hd KK hK
    have d22 : x22 = undef := hd 22 (by kernel_rfl)
    have d24 : x24 = .bool true := hd 24 (by kernel_rfl)
    clear hd
    subst d22
    subst d24
    simp only [Act.put, List.setIfInBounds_toArray, List.set_cons_zero, List.set_cons_succ] at hK
    go_simp
    first | exact hK.out _ _ (Below.refl _ _) rfl | (have hk := hK.out _ _ (Below.refl _ _) rfl; revert hk; go_simp)
  case po1x26 =>
    intro w1 hb1 hd KK hK
    have d25 : x25 = .bool true := hd 25 (by kernel_rfl)
    clear hd
    subst d25
    simp only [Act.put, List.setIfInBounds_toArray, List.set_cons_zero, List.set_cons_succ] at hK
    go_simp
    first | exact hK.out _ _ (Below.refl _ _) rfl | (have hk := hK.out _ _ (Below.refl _ _) rfl; revert hk; go_simp)
  case po1x27 =>
    intro w1 hb1 hd KK hK
    have d25 : x25 = .bool true := hd 25 (by kernel_rfl)
    have d26 : x26 = undef := hd 26 (by kernel_rfl)
    clear hd
    subst d25
    subst d26
    simp only [Act.put, List.setIfInBounds_toArray, List.set_cons_zero, List.set_cons_succ] at hK
    go_simp
    first | exact hK.out _ _ (Below.refl _ _) rfl | (have hk := hK.out _ _ (Below.refl _ _) rfl; revert hk; go_simp)
  case po1x28 =>
    intro w1 hb1 hd KK hK
    have d25 : x25 = .bool true := hd 25 (by kernel_rfl)
    have d27 : x27 = undef := hd 27 (by kernel_rfl)
    clear hd
    subst d25
    subst d27
    simp only [Act.put, List.setIfInBounds_toArray, List.set_cons_zero, List.set_cons_succ] at hK
    go_simp
    first | exact hK.out _ _ (Below.refl _ _) rfl | (have hk := hK.out _ _ (Below.refl _ _) rfl; revert hk; go_simp)
  case po1x29 =>
    intro w1 hb1 hd KK hK
    have d25 : x25 = .bool true := hd 25 (by kernel_rfl)
    have d28 : x28 = undef := hd 28 (by kernel_rfl)
    clear hd
    subst d25
    subst d28
    simp only [Act.put, List.setIfInBounds_toArray, List.set_cons_zero, List.set_cons_succ] at hK
    go_simp
    first | exact hK.out _ _ (Below.refl _ _) rfl | (have hk := hK.out _ _ (Below.refl _ _) rfl; revert hk; go_simp)
  case po1x30 =>
    intro w1 hb1 hd KK hK
    have d25 : x25 = .bool true := hd 25 (by kernel_rfl)
    have d29 : x29 = undef := hd 29 (by kernel_rfl)
    clear hd
    subst d25
    subst d29
    simp only [Act.put, List.setIfInBounds_toArray, List.set_cons_zero, List.set_cons_succ] at hK
    go_simp
    first | exact hK.out _ _ (Below.refl _ _) rfl | (have hk := hK.out _ _ (Below.refl _ _) rfl; revert hk; go_simp)
  case pfl1 => (intro f hf; cases hf)
  case pend1 =>
  intro w1 hb1 hR hD
  have d0 : x0 = .agg #[.slice a sh.length c, .slice b st.length d, .int .i64 off] := hR 0 (by decide)
  have d1 : x1 = .slice ad data.length cd := hR 1 (by decide)
  have d2 : x2 = .int .i64 (data.length : Int) := hR 2 (by decide)
  have d3 : x3 = .bool true := hR 3 (by decide)
  have d4 : x4 = .bool false := hR 4 (by decide)
  have d5 : x5 = .bool false := hR 5 (by decide)
  have d6 : x6 = .slice ad data.length cd := hR 6 (by decide)
  have d7 : x7 = .bool true := hR 7 (by decide)
  have d8 : x8 = .bool false := hR 8 (by decide)
  have d9 : x9 = .bool false := hR 9 (by decide)
  have d10 : x10 = .bool false := hR 10 (by decide)
  have d11 : x11 = .pointer (some ⟨w.heap.size + 1, 0, none⟩) := hR 11 (by decide)
  have d12 : x12 = .slice p tsh.length cp := hR 12 (by decide)
  have d13 : x13 = .bool false := hR 13 (by decide)
  have d14 : x14 = .bool true := hR 14 (by decide)
  have d15 : x15 = .bool true := hR 15 (by decide)
  have d16 : x16 = .bool true := hR 16 (by decide)
  have d17 : x17 = undef := hR 17 (by decide)
  have d18 : x18 = undef := hR 18 (by decide)
  have d19 : x19 = undef := hR 19 (by decide)
  have d20 : x20 = undef := hR 20 (by decide)
  have d21 : x21 = undef := hR 21 (by decide)
  have d22 : x22 = undef := hR 22 (by decide)
  have d23 : x23 = undef := hR 23 (by decide)
  have d24 : x24 = .bool true := hR 24 (by decide)
  have d25 : x25 = .bool true := hR 25 (by decide)
  have d26 : x26 = undef := hR 26 (by decide)
  have d27 : x27 = undef := hR 27 (by decide)
  have d28 : x28 = undef := hR 28 (by decide)
  have d29 : x29 = undef := hR 29 (by decide)
  have d30 : x30 = .bool true := hR 30 (by decide)
  clear hR hD
  subst d0
  subst d1
  subst d2
  subst d3
  subst d4
  subst d5
  subst d6
  subst d7
  subst d8
  subst d9
  subst d10
  subst d11
  subst d12
  subst d13
  subst d14
  subst d15
  subst d16
  subst d17
  subst d18
  subst d19
  subst d20
  subst d21
  subst d22
  subst d23
  subst d24
  subst d25
  subst d26
  subst d27
  subst d28
  subst d29
  subst d30
  refine wpAny_done (by kernel_rfl) ?_ _
  have F2 := Lib.hid (F1.out.next hb1)
  clear hb1 F1
  have d2_0 := F2.out.c 2 0 rfl rfl
  have d3_0 := F2.out.c 3 0 rfl rfl
  have df2_0 := F2.out.f 2 0 rfl rfl
  have df3_0 := F2.out.f 3 0 rfl rfl
  go_wp2
  have FZ := (F2.out.set 2 rfl (by simp) [.slice none 0 0] rfl).set 3 rfl (by simp) [.int .i64 1] rfl
  simp only [setL, Nat.reduceAdd, List.set_cons_zero, List.set_cons_succ] at FZ
  have z0 := FZ.c 2 0 rfl rfl
  have z1 := FZ.c 3 0 rfl rfl
  refine bodyPost_ret (v := .tuple #[.slice none 0 0, .int .i64 1]) ?_ rfl (retWV_none FZ)
  rw [results_ccV rfl]
  go_simp
set_option maxRecDepth 100000 in
set_option maxHeartbeats 4000000 in
theorem vlay_bad3 (a b ad p q : Option Addr) (c d cd cp cq : Nat) (sh st data tsh tys : List Int) (off : Int) (w : World) (h : Ints .i64 w w.heap.size a sh) (h2 : Ints .i64 w w.heap.size b st) (h3 : Ints .i64 w w.heap.size ad data) (h5 : Ints .i64 w w.heap.size p tsh) (h6 : Ints .i64 w w.heap.size q tys) (hc0 : viewB sh st off data.length = true) (hc1 : data.all isW = true) (hc2 : goodB tsh = true) (hc3 : ¬ (tys.length : Int) = prodI tsh) :
    Calls Try.prog 17 #[.agg #[.slice a sh.length c, .slice b st.length d, .int .i64 off], .agg #[.slice p tsh.length cp, .slice q tys.length cq], .slice ad data.length cd] w (RetWV w [] 1) := by
  have HA := Lib.hid h
  have HB := Lib.hid h2
  have HD := Lib.hid h3
  have HP := Lib.hid h5
  have HQ := Lib.hid h6
  have hl1 := h.len
  have hl2 := h2.len
  have hl3 := h3.len
  have hl5 := h5.len
  have hl6 := h6.len
  clear h h2 h3 h5 h6
  have HC0 := Lib.hid hc0
  have HC1 := Lib.hid hc1
  have HC2 := Lib.hid hc2
  have HC3 := Lib.hid hc3
  clear hc0 hc1 hc2 hc3
  go_enter Try.func17, Try.ntmps17
  have F1 := Lib.hid (((((Fr.start (w := w) (I := [(.i64, a, sh), (.i64, b, st), (.i64, ad, data), (.i64, p, tsh), (.i64, q, tys)]) (by intro z hz; simp at hz; rcases hz with rfl | rfl | rfl | rfl | rfl; exact HA.out; exact HB.out; exact HD.out; exact HP.out; exact HQ.out)).box1 (b := w.heap.size) (by simp) [.slice a sh.length c, .slice b st.length d, .int .i64 off] 25).box1 (b := w.heap.size + 1) (by simp) [.slice p tsh.length cp, .slice q tys.length cq] 28).box1 (b := w.heap.size + 1 + 1) (by simp) [.slice none 0 0] 26).box1 (b := w.heap.size + 1 + 1 + 1) (by simp) [.int .i64 0] 40)
  simp only [List.nil_append, List.cons_append] at F1
  go_upto_region 1 with fail
  obtain ⟨W0, hW0⟩ : ∃ W0, ((((w.alloc (.cells #[.slice a sh.length c, .slice b st.length d, .int .i64 off] 25)).alloc (.cells #[.slice p tsh.length cp, .slice q tys.length cq] 28)).alloc (.cells #[.slice none 0 0] 26)).alloc (.cells #[.int .i64 0] 40)) = W0 := ⟨_, rfl⟩
  rw [hW0] at F1 ⊢
  clear hW0
  refine wp_region_parts2 (w := W0) 31 0 none [] [(fun u _ => u = .agg #[.slice a sh.length c, .slice b st.length d, .int .i64 off]), (fun u _ => u = .slice ad data.length cd), (fun u _ => u = .int .i64 (data.length : Int)), (fun u _ => u = .bool true), (fun u _ => u = .bool false), (fun u _ => u = .bool false), (fun u _ => u = .slice ad data.length cd), (fun u _ => u = .bool true), (fun u _ => u = .bool false), (fun u _ => u = .bool false), (fun u _ => u = .bool false), (fun u _ => u = .pointer (some ⟨w.heap.size + 1, 0, none⟩)), (fun u _ => u = .slice p tsh.length cp), (fun u _ => u = .bool true), (fun u _ => u = .bool false), (fun u _ => u = .bool false), (fun u _ => u = .bool false), (fun u _ => u = .pointer (some ⟨w.heap.size + 1, 1, none⟩)), (fun u _ => u = .slice q tys.length cq), (fun u _ => u = .int .i64 (tys.length : Int)), (fun u _ => u = .pointer (some ⟨w.heap.size + 1, 0, none⟩)), (fun u _ => u = .slice p tsh.length cp), (fun u _ => u = .int .i64 (prodI tsh)), (fun u _ => u = .bool true), (fun u _ => u = .bool true), (fun u _ => u = .bool true), (fun u _ => u = undef), (fun u _ => u = undef), (fun u _ => u = undef), (fun u _ => u = undef), (fun u _ => u = .bool true)] [some 12, some 13, some 14, some 15, some 16, some 17, some 18, some 19, some 20, some 21, some 22, some 23, some 24, some 25, some 26, some 27, some 28, some 29, some 30, some 31, some 32, some 33, some 34, some 35, some 36, some 37, some 38, some 39, some 40, some 41, some 42] #[true, true, true, true, true, true, true, true, true, true, true, true, true, true, true, true, true, true, true, true, true, true, true, true, true, true, true, true, true, true, true] #[true, true, true, true, true, true, true, true, true, true, true, true, true, true, true, true, true, true, true, true, true, true, true, true, true, true, true, true, true, true, true] (by kernel_rfl) rfl (by kernel_rfl) (by kernel_rfl) rfl (by kernel_rfl) (by kernel_rfl) (.cons (carries_eq _) (.cons (carries_eq _) (.cons (carries_eq _) (.cons (carries_eq _) (.cons (carries_eq _) (.cons (carries_eq _) (.cons (carries_eq _) (.cons (carries_eq _) (.cons (carries_eq _) (.cons (carries_eq _) (.cons (carries_eq _) (.cons (carries_eq _) (.cons (carries_eq _) (.cons (carries_eq _) (.cons (carries_eq _) (.cons (carries_eq _) (.cons (carries_eq _) (.cons (carries_eq _) (.cons (carries_eq _) (.cons (carries_eq _) (.cons (carries_eq _) (.cons (carries_eq _) (.cons (carries_eq _) (.cons (carries_eq _) (.cons (carries_eq _) (.cons (carries_eq _) (.cons (carries_eq _) (.cons (carries_eq _) (.cons (carries_eq _) (.cons (carries_eq _) (.cons (carries_eq _) .nil))))))))))))))))))))))))))))))) (fun vs b hvl hvb => ?_)
  obtain ⟨x0, x1, x2, x3, x4, x5, x6, x7, x8, x9, x10, x11, x12, x13, x14, x15, x16, x17, x18, x19, x20, x21, x22, x23, x24, x25, x26, x27, x28, x29, x30, rfl⟩ : ∃ x0 x1 x2 x3 x4 x5 x6 x7 x8 x9 x10 x11 x12 x13 x14 x15 x16 x17 x18 x19 x20 x21 x22 x23 x24 x25 x26 x27 x28 x29 x30, vs = [x0, x1, x2, x3, x4, x5, x6, x7, x8, x9, x10, x11, x12, x13, x14, x15, x16, x17, x18, x19, x20, x21, x22, x23, x24, x25, x26, x27, x28, x29, x30] := lst31 hvl
  clear hvl
  simp only [putAll, Act.put, List.setIfInBounds_toArray, List.set_cons_zero, List.set_cons_succ] at hvb
  subst hvb
  refine ⟨(.snoc (.snoc (.snoc (.snoc (.snoc (.snoc (.snoc (.snoc (.snoc (.snoc (.snoc (.snoc (.snoc (.snoc (.snoc (.snoc (.snoc (.snoc (.snoc (.snoc (.snoc (.snoc (.snoc (.snoc (.snoc (.snoc (.snoc (.snoc (.snoc (.snoc (.snoc .zero (PartOb.intro (d := (some 12)) (r := fun u _ => u = .agg #[.slice a sh.length c, .slice b st.length d, .int .i64 off]) rfl rfl rfl rfl ?po1x0)) (PartOb.intro (d := (some 13)) (r := fun u _ => u = .slice ad data.length cd) rfl rfl rfl rfl ?po1x1)) (PartOb.intro (d := (some 14)) (r := fun u _ => u = .int .i64 (data.length : Int)) rfl rfl rfl rfl ?po1x2)) (PartOb.intro (d := (some 15)) (r := fun u _ => u = .bool true) rfl rfl rfl rfl ?po1x3)) (PartOb.intro (d := (some 16)) (r := fun u _ => u = .bool false) rfl rfl rfl rfl ?po1x4)) (PartOb.intro (d := (some 17)) (r := fun u _ => u = .bool false) rfl rfl rfl rfl ?po1x5)) (PartOb.intro (d := (some 18)) (r := fun u _ => u = .slice ad data.length cd) rfl rfl rfl rfl ?po1x6)) (PartOb.intro (d := (some 19)) (r := fun u _ => u = .bool true) rfl rfl rfl rfl ?po1x7)) (PartOb.intro (d := (some 20)) (r := fun u _ => u = .bool false) rfl rfl rfl rfl ?po1x8)) (PartOb.intro (d := (some 21)) (r := fun u _ => u = .bool false) rfl rfl rfl rfl ?po1x9)) (PartOb.intro (d := (some 22)) (r := fun u _ => u = .bool false) rfl rfl rfl rfl ?po1x10)) (PartOb.intro (d := (some 23)) (r := fun u _ => u = .pointer (some ⟨w.heap.size + 1, 0, none⟩)) rfl rfl rfl rfl ?po1x11)) (PartOb.intro (d := (some 24)) (r := fun u _ => u = .slice p tsh.length cp) rfl rfl rfl rfl ?po1x12)) (PartOb.intro (d := (some 25)) (r := fun u _ => u = .bool true) rfl rfl rfl rfl ?po1x13)) (PartOb.intro (d := (some 26)) (r := fun u _ => u = .bool false) rfl rfl rfl rfl ?po1x14)) (PartOb.intro (d := (some 27)) (r := fun u _ => u = .bool false) rfl rfl rfl rfl ?po1x15)) (PartOb.intro (d := (some 28)) (r := fun u _ => u = .bool false) rfl rfl rfl rfl ?po1x16)) (PartOb.intro (d := (some 29)) (r := fun u _ => u = .pointer (some ⟨w.heap.size + 1, 1, none⟩)) rfl rfl rfl rfl ?po1x17)) (PartOb.intro (d := (some 30)) (r := fun u _ => u = .slice q tys.length cq) rfl rfl rfl rfl ?po1x18)) (PartOb.intro (d := (some 31)) (r := fun u _ => u = .int .i64 (tys.length : Int)) rfl rfl rfl rfl ?po1x19)) (PartOb.intro (d := (some 32)) (r := fun u _ => u = .pointer (some ⟨w.heap.size + 1, 0, none⟩)) rfl rfl rfl rfl ?po1x20)) (PartOb.intro (d := (some 33)) (r := fun u _ => u = .slice p tsh.length cp) rfl rfl rfl rfl ?po1x21)) (PartOb.intro (d := (some 34)) (r := fun u _ => u = .int .i64 (prodI tsh)) rfl rfl rfl rfl ?po1x22)) (PartOb.intro (d := (some 35)) (r := fun u _ => u = .bool true) rfl rfl rfl rfl ?po1x23)) (PartOb.intro (d := (some 36)) (r := fun u _ => u = .bool true) rfl rfl rfl rfl ?po1x24)) (PartOb.intro (d := (some 37)) (r := fun u _ => u = .bool true) rfl rfl rfl rfl ?po1x25)) (PartOb.intro (d := (some 38)) (r := fun u _ => u = undef) rfl rfl rfl rfl ?po1x26)) (PartOb.intro (d := (some 39)) (r := fun u _ => u = undef) rfl rfl rfl rfl ?po1x27)) (PartOb.intro (d := (some 40)) (r := fun u _ => u = undef) rfl rfl rfl rfl ?po1x28)) (PartOb.intro (d := (some 41)) (r := fun u _ => u = undef) rfl rfl rfl rfl ?po1x29)) (PartOb.intro (d := (some 42)) (r := fun u _ => u = .bool true) rfl rfl rfl rfl ?po1x30)), ?pend1, ?pfl1⟩
  case po1x0 =>
    intro w1 hb1 hd KK hK
    clear hd
    have hF := F1.out.next hb1
    have k0 := hF.c 0 0 rfl rfl
    have k1 := hF.c 0 1 rfl rfl
    have k2 := hF.c 0 2 rfl rfl
    simp only [Act.put, List.setIfInBounds_toArray, List.set_cons_zero, List.set_cons_succ] at hK
    go_simp
    first | exact hK.out _ _ (Below.refl _ _) rfl | (have hk := hK.out _ _ (Below.refl _ _) rfl; revert hk; go_simp)
  case po1x1 =>
    intro w1 hb1 hd KK hK
    clear hd
    simp only [Act.put, List.setIfInBounds_toArray, List.set_cons_zero, List.set_cons_succ] at hK
    go_simp
    first | exact hK.out _ _ (Below.refl _ _) rfl | (have hk := hK.out _ _ (Below.refl _ _) rfl; revert hk; go_simp)
  case po1x2 =>
    intro w1 hb1 hd KK hK
    have d1 : x1 = .slice ad data.length cd := hd 1 (by kernel_rfl)
    clear hd
    subst d1
    simp only [Act.put, List.setIfInBounds_toArray, List.set_cons_zero, List.set_cons_succ] at hK
    go_simp
    first | exact hK.out _ _ (Below.refl _ _) rfl | (have hk := hK.out _ _ (Below.refl _ _) rfl; revert hk; go_simp)
  case po1x3 =>
    intro w1 hb1 hd KK hK
    have d0 : x0 = .agg #[.slice a sh.length c, .slice b st.length d, .int .i64 off] := hd 0 (by kernel_rfl)
    have d2 : x2 = .int .i64 (data.length : Int) := hd 2 (by kernel_rfl)
    clear hd
    subst d0
    subst d2
    simp only [Act.put, List.setIfInBounds_toArray, List.set_cons_zero, List.set_cons_succ] at hK
    go_simp
    go_at_call 49
    refine (vgood_any a b c d w1.heap.size sh st off (data.length : Int) w1 ((F1.out.next hb1).lw 0 rfl) ((F1.out.next hb1).lw 1 rfl) (Nat.le_refl _)).mono ?_
    rintro e w2 ⟨rfl, hb⟩
    rw [HC0.out]
    (try go_wp2_with fail)
    first | exact hK.out _ _ hb rfl | (have hk := hK.out _ _ hb rfl; revert hk; go_simp)
  case po1x4 =>
    intro w1 hb1 hd KK hK
    have d3 : x3 = .bool true := hd 3 (by kernel_rfl)
    clear hd
    subst d3
    simp only [Act.put, List.setIfInBounds_toArray, List.set_cons_zero, List.set_cons_succ] at hK
    go_simp
    first | exact hK.out _ _ (Below.refl _ _) rfl | (have hk := hK.out _ _ (Below.refl _ _) rfl; revert hk; go_simp)
  case po1x5 =>
    intro w1 hb1 hd KK hK
    have d3 : x3 = .bool true := hd 3 (by kernel_rfl)
    have d4 : x4 = .bool false := hd 4 (by kernel_rfl)
    clear hd
    subst d3
    subst d4
    simp only [Act.put, List.setIfInBounds_toArray, List.set_cons_zero, List.set_cons_succ] at hK
    go_simp
    first | exact hK.out _ _ (Below.refl _ _) rfl | (have hk := hK.out _ _ (Below.refl _ _) rfl; revert hk; go_simp)
  case po1x6 =>
    intro w1 hb1 hd KK hK
    have d5 : x5 = .bool false := hd 5 (by kernel_rfl)
    clear hd
    subst d5
    simp only [Act.put, List.setIfInBounds_toArray, List.set_cons_zero, List.set_cons_succ] at hK
    go_simp
    first | exact hK.out _ _ (Below.refl _ _) rfl | (have hk := hK.out _ _ (Below.refl _ _) rfl; revert hk; go_simp)
  case po1x7 =>
    intro w1 hb1 hd KK hK
    have d5 : x5 = .bool false := hd 5 (by kernel_rfl)
    have d6 : x6 = .slice ad data.length cd := hd 6 (by kernel_rfl)
    clear hd
    subst d5
    subst d6
    simp only [Act.put, List.setIfInBounds_toArray, List.set_cons_zero, List.set_cons_succ] at hK
    go_simp
    go_at_call 50
    refine (vwords_any _ _ _ data _ ((F1.out.next hb1).lw 2 rfl)).mono ?_
    rintro e w' ⟨rfl, rfl⟩
    rw [HC1.out]
    (try go_wp2_with fail)
    first | exact hK.out _ _ (Below.refl _ _) rfl | (have hk := hK.out _ _ (Below.refl _ _) rfl; revert hk; go_simp)
  case po1x8 =>
    intro w1 hb1 hd KK hK
    have d5 : x5 = .bool false := hd 5 (by kernel_rfl)
    have d7 : x7 = .bool true := hd 7 (by kernel_rfl)
    clear hd
    subst d5
    subst d7
    simp only [Act.put, List.setIfInBounds_toArray, List.set_cons_zero, List.set_cons_succ] at hK
    go_simp
    first | exact hK.out _ _ (Below.refl _ _) rfl | (have hk := hK.out _ _ (Below.refl _ _) rfl; revert hk; go_simp)
  case po1x9 =>
    intro w1 hb1 hd KK hK
    have d5 : x5 = .bool false := hd 5 (by kernel_rfl)
    have d8 : x8 = .bool false := hd 8 (by kernel_rfl)
    clear hd
    subst d5
    subst d8
    simp only [Act.put, List.setIfInBounds_toArray, List.set_cons_zero, List.set_cons_succ] at hK
    go_simp
    first | exact hK.out _ _ (Below.refl _ _) rfl | (have hk := hK.out _ _ (Below.refl _ _) rfl; revert hk; go_simp)
  case po1x10 =>
    intro w1 hb1 hd KK hK
    have d7 : x7 = .bool true := hd 7 (by kernel_rfl)
    have d9 : x9 = .bool false := hd 9 (by kernel_rfl)
    clear hd
    subst d7
    subst d9
    simp only [Act.put, List.setIfInBounds_toArray, List.set_cons_zero, List.set_cons_succ] at hK
    go_simp
    first | exact hK.out _ _ (Below.refl _ _) rfl | (have hk := hK.out _ _ (Below.refl _ _) rfl; revert hk; go_simp)
  case po1x11 =>
    intro w1 hb1 hd KK hK
    have d10 : x10 = .bool false := hd 10 (by kernel_rfl)
    clear hd
    subst d10
    simp only [Act.put, List.setIfInBounds_toArray, List.set_cons_zero, List.set_cons_succ] at hK
    go_simp
    first | exact hK.out _ _ (Below.refl _ _) rfl | (have hk := hK.out _ _ (Below.refl _ _) rfl; revert hk; go_simp)
  case po1x12 =>
    intro w1 hb1 hd KK hK
    have d10 : x10 = .bool false := hd 10 (by kernel_rfl)
    have d11 : x11 = .pointer (some ⟨w.heap.size + 1, 0, none⟩) := hd 11 (by kernel_rfl)
    clear hd
    subst d10
    subst d11
    have hF := F1.out.next hb1
    have k0 := hF.c 1 0 rfl rfl
    have k1 := hF.c 1 1 rfl rfl
    simp only [Act.put, List.setIfInBounds_toArray, List.set_cons_zero, List.set_cons_succ] at hK
    go_simp
    first | exact hK.out _ _ (Below.refl _ _) rfl | (have hk := hK.out _ _ (Below.refl _ _) rfl; revert hk; go_simp)
  case po1x13 =>
    intro w1 hb1 hd KK hK
    have d10 : x10 = .bool false := hd 10 (by kernel_rfl)
    have d12 : x12 = .slice p tsh.length cp := hd 12 (by kernel_rfl)
    clear hd
    subst d10
    subst d12
    simp only [Act.put, List.setIfInBounds_toArray, List.set_cons_zero, List.set_cons_succ] at hK
    go_simp
    go_at_call 54
    refine (good_any _ _ _ tsh _ ((F1.out.next hb1).lw 3 rfl)).mono ?_
    rintro e w' ⟨rfl, rfl⟩
    rw [HC2.out]
    (try go_wp2_with fail)
    first | exact hK.out _ _ (Below.refl _ _) rfl | (have hk := hK.out _ _ (Below.refl _ _) rfl; revert hk; go_simp)
  case po1x14 =>
    intro w1 hb1 hd KK hK
    have d10 : x10 = .bool false := hd 10 (by kernel_rfl)
    have d13 : x13 = .bool true := hd 13 (by kernel_rfl)
    clear hd
    subst d10
    subst d13
    simp only [Act.put, List.setIfInBounds_toArray, List.set_cons_zero, List.set_cons_succ] at hK
    go_simp
    first | exact hK.out _ _ (Below.refl _ _) rfl | (have hk := hK.out _ _ (Below.refl _ _) rfl; revert hk; go_simp)
  case po1x15 =>
    intro w1 hb1 hd KK hK
    have d10 : x10 = .bool false := hd 10 (by kernel_rfl)
    have d14 : x14 = .bool false := hd 14 (by kernel_rfl)
    clear hd
    subst d10
    subst d14
    simp only [Act.put, List.setIfInBounds_toArray, List.set_cons_zero, List.set_cons_succ] at hK
    go_simp
    first | exact hK.out _ _ (Below.refl _ _) rfl | (have hk := hK.out _ _ (Below.refl _ _) rfl; revert hk; go_simp)
  case po1x16 =>
    intro w1 hb1 hd KK hK
    have d13 : x13 = .bool true := hd 13 (by kernel_rfl)
    have d15 : x15 = .bool false := hd 15 (by kernel_rfl)
    clear hd
    subst d13
    subst d15
    simp only [Act.put, List.setIfInBounds_toArray, List.set_cons_zero, List.set_cons_succ] at hK
    go_simp
    first | exact hK.out _ _ (Below.refl _ _) rfl | (have hk := hK.out _ _ (Below.refl _ _) rfl; revert hk; go_simp)
  case po1x17 =>
    intro w1 hb1 hd KK hK
    have d16 : x16 = .bool false := hd 16 (by kernel_rfl)
    clear hd
    subst d16
    simp only [Act.put, List.setIfInBounds_toArray, List.set_cons_zero, List.set_cons_succ] at hK
    go_simp
    first | exact hK.out _ _ (Below.refl _ _) rfl | (have hk := hK.out _ _ (Below.refl _ _) rfl; revert hk; go_simp)
  case po1x18 =>
    intro w1 hb1 hd KK hK
    have d16 : x16 = .bool false := hd 16 (by kernel_rfl)
    have d17 : x17 = .pointer (some ⟨w.heap.size + 1, 1, none⟩) := hd 17 (by kernel_rfl)
    clear hd
    subst d16
    subst d17
    have hF := F1.out.next hb1
    have k0 := hF.c 1 0 rfl rfl
    have k1 := hF.c 1 1 rfl rfl
    simp only [Act.put, List.setIfInBounds_toArray, List.set_cons_zero, List.set_cons_succ] at hK
    go_simp
    first | exact hK.out _ _ (Below.refl _ _) rfl | (have hk := hK.out _ _ (Below.refl _ _) rfl; revert hk; go_simp)
  case po1x19 =>
    intro w1 hb1 hd KK hK
    have d16 : x16 = .bool false := hd 16 (by kernel_rfl)
    have d18 : x18 = .slice q tys.length cq := hd 18 (by kernel_rfl)
    clear hd
    subst d16
    subst d18
    simp only [Act.put, List.setIfInBounds_toArray, List.set_cons_zero, List.set_cons_succ] at hK
    go_simp
    first | exact hK.out _ _ (Below.refl _ _) rfl | (have hk := hK.out _ _ (Below.refl _ _) rfl; revert hk; go_simp)
  case po1x20 =>
    intro w1 hb1 hd KK hK
    have d16 : x16 = .bool false := hd 16 (by kernel_rfl)
    clear hd
    subst d16
    simp only [Act.put, List.setIfInBounds_toArray, List.set_cons_zero, List.set_cons_succ] at hK
    go_simp
    first | exact hK.out _ _ (Below.refl _ _) rfl | (have hk := hK.out _ _ (Below.refl _ _) rfl; revert hk; go_simp)
  case po1x21 =>
    intro w1 hb1 hd KK hK
    have d16 : x16 = .bool false := hd 16 (by kernel_rfl)
    have d20 : x20 = .pointer (some ⟨w.heap.size + 1, 0, none⟩) := hd 20 (by kernel_rfl)
    clear hd
    subst d16
    subst d20
    have hF := F1.out.next hb1
    have k0 := hF.c 1 0 rfl rfl
    have k1 := hF.c 1 1 rfl rfl
    simp only [Act.put, List.setIfInBounds_toArray, List.set_cons_zero, List.set_cons_succ] at hK
    go_simp
    first | exact hK.out _ _ (Below.refl _ _) rfl | (have hk := hK.out _ _ (Below.refl _ _) rfl; revert hk; go_simp)
  case po1x22 =>
    intro w1 hb1 hd KK hK
    have d16 : x16 = .bool false := hd 16 (by kernel_rfl)
    have d21 : x21 = .slice p tsh.length cp := hd 21 (by kernel_rfl)
    clear hd
    subst d16
    subst d21
    simp only [Act.put, List.setIfInBounds_toArray, List.set_cons_zero, List.set_cons_succ] at hK
    go_simp
    go_at_call 52
    refine (size_any _ _ _ tsh _ ((F1.out.next hb1).lw 3 rfl) HC2.out).mono ?_
    rintro e w' ⟨rfl, rfl⟩
    (try go_wp2_with fail)
    first | exact hK.out _ _ (Below.refl _ _) rfl | (have hk := hK.out _ _ (Below.refl _ _) rfl; revert hk; go_simp)
  case po1x23 =>
    intro w1 hb1 hd KK hK
    have d16 : x16 = .bool false := hd 16 (by kernel_rfl)
    have d19 : x19 = .int .i64 (tys.length : Int) := hd 19 (by kernel_rfl)
    have d22 : x22 = .int .i64 (prodI tsh) := hd 22 (by kernel_rfl)
    clear hd
    subst d16
    subst d19
    subst d22
    have hne := HC3.out
    have hne2 : ((tys.length : Int) != prodI tsh) = true := by simpa using hne
    simp only [Act.put, List.setIfInBounds_toArray, List.set_cons_zero, List.set_cons_succ] at hK
    go_simp
    first | exact hK.out _ _ (Below.refl _ _) rfl | (have hk := hK.out _ _ (Below.refl _ _) rfl; revert hk; go_simp)
  case po1x24 =>
    intro w1 hb1 hd KK hK
    have d16 : x16 = .bool false := hd 16 (by kernel_rfl)
    have d23 : x23 = .bool true := hd 23 (by kernel_rfl)
    clear hd
    subst d16
    subst d23
    simp only [Act.put, List.setIfInBounds_toArray, List.set_cons_zero, List.set_cons_succ] at hK
    go_simp
    first | exact hK.out _ _ (Below.refl _ _) rfl | (have hk := hK.out _ _ (Below.refl _ _) rfl; revert hk; go_simp)
  case po1x25 =>
    intro w1 hb1 hd KK hK
    have d22 : x22 = .int .i64 (prodI tsh) := hd 22 (by kernel_rfl)
    have d24 : x24 = .bool true := hd 24 (by kernel_rfl)
    clear hd
    subst d22
    subst d24
    simp only [Act.put, List.setIfInBounds_toArray, List.set_cons_zero, List.set_cons_succ] at hK
    go_simp
    first | exact hK.out _ _ (Below.refl _ _) rfl | (have hk := hK.out _ _ (Below.refl _ _) rfl; revert hk; go_simp)
  case po1x26 =>
    intro w1 hb1 hd KK hK
    have d25 : x25 = .bool true := hd 25 (by kernel_rfl)
    clear hd
    subst d25
    simp only [Act.put, List.setIfInBounds_toArray, List.set_cons_zero, List.set_cons_succ] at hK
    go_simp
    first | exact hK.out _ _ (Below.refl _ _) rfl | (have hk := hK.out _ _ (Below.refl _ _) rfl; revert hk; go_simp)
  case po1x27 =>
    intro w1 hb1 hd KK hK
    have d25 : x25 = .bool true := hd 25 (by kernel_rfl)
    have d26 : x26 = undef := hd 26 (by kernel_rfl)
    clear hd
    subst d25
    subst d26
    simp only [Act.put, List.setIfInBounds_toArray, List.set_cons_zero, List.set_cons_succ] at hK
    go_simp
    first | exact hK.out _ _ (Below.refl _ _) rfl | (have hk := hK.out _ _ (Below.refl _ _) rfl; revert hk; go_simp)
  case po1x28 =>
    intro w1 hb1 hd KK hK
    have d25 : x25 = .bool true := hd 25 (by kernel_rfl)
    have d27 : x27 = undef := hd 27 (by kernel_rfl)
    clear hd
    subst d25
    subst d27
    simp only [Act.put, List.setIfInBounds_toArray, List.set_cons_zero, List.set_cons_succ] at hK
    go_simp
    first | exact hK.out _ _ (Below.refl _ _) rfl | (have hk := hK.out _ _ (Below.refl _ _) rfl; revert hk; go_simp)
  case po1x29 =>
    intro w1 hb1 hd KK hK
    have d25 : x25 = .bool true := hd 25 (by kernel_rfl)
    have d28 : x28 = undef := hd 28 (by kernel_rfl)
    clear hd
    subst d25
    subst d28
    simp only [Act.put, List.setIfInBounds_toArray, List.set_cons_zero, List.set_cons_succ] at hK
    go_simp
    first | exact hK.out _ _ (Below.refl _ _) rfl | (have hk := hK.out _ _ (Below.refl _ _) rfl; revert hk; go_simp)
  case po1x30 =>
    intro w1 hb1 hd KK hK
    have d25 : x25 = .bool true := hd 25 (by kernel_rfl)
    have d29 : x29 = undef := hd 29 (by kernel_rfl)
    clear hd
    subst d25
    subst d29
    simp only [Act.put, List.setIfInBounds_toArray, List.set_cons_zero, List.set_cons_succ] at hK
    go_simp
    first | exact hK.out _ _ (Below.refl _ _) rfl | (have hk := hK.out _ _ (Below.refl _ _) rfl; revert hk; go_simp)
  case pfl1 => (intro f hf; cases hf)
  case pend1 =>
  intro w1 hb1 hR hD
  have d0 : x0 = .agg #[.slice a sh.length c, .slice b st.length d, .int .i64 off] := hR 0 (by decide)
  have d1 : x1 = .slice ad data.length cd := hR 1 (by decide)
  have d2 : x2 = .int .i64 (data.length : Int) := hR 2 (by decide)
  have d3 : x3 = .bool true := hR 3 (by decide)
  have d4 : x4 = .bool false := hR 4 (by decide)
  have d5 : x5 = .bool false := hR 5 (by decide)
  have d6 : x6 = .slice ad data.length cd := hR 6 (by decide)
  have d7 : x7 = .bool true := hR 7 (by decide)
  have d8 : x8 = .bool false := hR 8 (by decide)
  have d9 : x9 = .bool false := hR 9 (by decide)
  have d10 : x10 = .bool false := hR 10 (by decide)
  have d11 : x11 = .pointer (some ⟨w.heap.size + 1, 0, none⟩) := hR 11 (by decide)
  have d12 : x12 = .slice p tsh.length cp := hR 12 (by decide)
  have d13 : x13 = .bool true := hR 13 (by decide)
  have d14 : x14 = .bool false := hR 14 (by decide)
  have d15 : x15 = .bool false := hR 15 (by decide)
  have d16 : x16 = .bool false := hR 16 (by decide)
  have d17 : x17 = .pointer (some ⟨w.heap.size + 1, 1, none⟩) := hR 17 (by decide)
  have d18 : x18 = .slice q tys.length cq := hR 18 (by decide)
  have d19 : x19 = .int .i64 (tys.length : Int) := hR 19 (by decide)
  have d20 : x20 = .pointer (some ⟨w.heap.size + 1, 0, none⟩) := hR 20 (by decide)
  have d21 : x21 = .slice p tsh.length cp := hR 21 (by decide)
  have d22 : x22 = .int .i64 (prodI tsh) := hR 22 (by decide)
  have d23 : x23 = .bool true := hR 23 (by decide)
  have d24 : x24 = .bool true := hR 24 (by decide)
  have d25 : x25 = .bool true := hR 25 (by decide)
  have d26 : x26 = undef := hR 26 (by decide)
  have d27 : x27 = undef := hR 27 (by decide)
  have d28 : x28 = undef := hR 28 (by decide)
  have d29 : x29 = undef := hR 29 (by decide)
  have d30 : x30 = .bool true := hR 30 (by decide)
  clear hR hD
  subst d0
  subst d1
  subst d2
  subst d3
  subst d4
  subst d5
  subst d6
  subst d7
  subst d8
  subst d9
  subst d10
  subst d11
  subst d12
  subst d13
  subst d14
  subst d15
  subst d16
  subst d17
  subst d18
  subst d19
  subst d20
  subst d21
  subst d22
  subst d23
  subst d24
  subst d25
  subst d26
  subst d27
  subst d28
  subst d29
  subst d30
  refine wpAny_done (by kernel_rfl) ?_ _
  have F2 := Lib.hid (F1.out.next hb1)
  clear hb1 F1
  have d2_0 := F2.out.c 2 0 rfl rfl
  have d3_0 := F2.out.c 3 0 rfl rfl
  have df2_0 := F2.out.f 2 0 rfl rfl
  have df3_0 := F2.out.f 3 0 rfl rfl
  go_wp2
  have FZ := (F2.out.set 2 rfl (by simp) [.slice none 0 0] rfl).set 3 rfl (by simp) [.int .i64 1] rfl
  simp only [setL, Nat.reduceAdd, List.set_cons_zero, List.set_cons_succ] at FZ
  have z0 := FZ.c 2 0 rfl rfl
  have z1 := FZ.c 3 0 rfl rfl
  refine bodyPost_ret (v := .tuple #[.slice none 0 0, .int .i64 1]) ?_ rfl (retWV_none FZ)
  rw [results_ccV rfl]
  go_simp
set_option maxRecDepth 100000 in
set_option maxHeartbeats 4000000 in
theorem vlay_bad4 (a b ad p q : Option Addr) (c d cd cp cq : Nat) (sh st data tsh tys : List Int) (off : Int) (w : World) (h : Ints .i64 w w.heap.size a sh) (h2 : Ints .i64 w w.heap.size b st) (h3 : Ints .i64 w w.heap.size ad data) (h5 : Ints .i64 w w.heap.size p tsh) (h6 : Ints .i64 w w.heap.size q tys) (hc0 : viewB sh st off data.length = true) (hc1 : data.all isW = true) (hc2 : goodB tsh = true) (hc3 : (tys.length : Int) = prodI tsh) (hc4 : tys.all isW = false) :
    Calls Try.prog 17 #[.agg #[.slice a sh.length c, .slice b st.length d, .int .i64 off], .agg #[.slice p tsh.length cp, .slice q tys.length cq], .slice ad data.length cd] w (RetWV w [] 1) := by
  have HA := Lib.hid h
  have HB := Lib.hid h2
  have HD := Lib.hid h3
  have HP := Lib.hid h5
  have HQ := Lib.hid h6
  have hl1 := h.len
  have hl2 := h2.len
  have hl3 := h3.len
  have hl5 := h5.len
  have hl6 := h6.len
  clear h h2 h3 h5 h6
  have HC0 := Lib.hid hc0
  have HC1 := Lib.hid hc1
  have HC2 := Lib.hid hc2
  have HC3 := Lib.hid hc3
  have HC4 := Lib.hid hc4
  clear hc0 hc1 hc2 hc3 hc4
  go_enter Try.func17, Try.ntmps17
  have F1 := Lib.hid (((((Fr.start (w := w) (I := [(.i64, a, sh), (.i64, b, st), (.i64, ad, data), (.i64, p, tsh), (.i64, q, tys)]) (by intro z hz; simp at hz; rcases hz with rfl | rfl | rfl | rfl | rfl; exact HA.out; exact HB.out; exact HD.out; exact HP.out; exact HQ.out)).box1 (b := w.heap.size) (by simp) [.slice a sh.length c, .slice b st.length d, .int .i64 off] 25).box1 (b := w.heap.size + 1) (by simp) [.slice p tsh.length cp, .slice q tys.length cq] 28).box1 (b := w.heap.size + 1 + 1) (by simp) [.slice none 0 0] 26).box1 (b := w.heap.size + 1 + 1 + 1) (by simp) [.int .i64 0] 40)
  simp only [List.nil_append, List.cons_append] at F1
  go_upto_region 1 with fail
  obtain ⟨W0, hW0⟩ : ∃ W0, ((((w.alloc (.cells #[.slice a sh.length c, .slice b st.length d, .int .i64 off] 25)).alloc (.cells #[.slice p tsh.length cp, .slice q tys.length cq] 28)).alloc (.cells #[.slice none 0 0] 26)).alloc (.cells #[.int .i64 0] 40)) = W0 := ⟨_, rfl⟩
  rw [hW0] at F1 ⊢
  clear hW0
  refine wp_region_parts2 (w := W0) 31 0 none [] [(fun u _ => u = .agg #[.slice a sh.length c, .slice b st.length d, .int .i64 off]), (fun u _ => u = .slice ad data.length cd), (fun u _ => u = .int .i64 (data.length : Int)), (fun u _ => u = .bool true), (fun u _ => u = .bool false), (fun u _ => u = .bool false), (fun u _ => u = .slice ad data.length cd), (fun u _ => u = .bool true), (fun u _ => u = .bool false), (fun u _ => u = .bool false), (fun u _ => u = .bool false), (fun u _ => u = .pointer (some ⟨w.heap.size + 1, 0, none⟩)), (fun u _ => u = .slice p tsh.length cp), (fun u _ => u = .bool true), (fun u _ => u = .bool false), (fun u _ => u = .bool false), (fun u _ => u = .bool false), (fun u _ => u = .pointer (some ⟨w.heap.size + 1, 1, none⟩)), (fun u _ => u = .slice q tys.length cq), (fun u _ => u = .int .i64 (tys.length : Int)), (fun u _ => u = .pointer (some ⟨w.heap.size + 1, 0, none⟩)), (fun u _ => u = .slice p tsh.length cp), (fun u _ => u = .int .i64 (tys.length : Int)), (fun u _ => u = .bool false), (fun u _ => u = .bool false), (fun u _ => u = .bool false), (fun u _ => u = .pointer (some ⟨w.heap.size + 1, 1, none⟩)), (fun u _ => u = .slice q tys.length cq), (fun u _ => u = .bool false), (fun u _ => u = .bool true), (fun u _ => u = .bool true)] [some 12, some 13, some 14, some 15, some 16, some 17, some 18, some 19, some 20, some 21, some 22, some 23, some 24, some 25, some 26, some 27, some 28, some 29, some 30, some 31, some 32, some 33, some 34, some 35, some 36, some 37, some 38, some 39, some 40, some 41, some 42] #[true, true, true, true, true, true, true, true, true, true, true, true, true, true, true, true, true, true, true, true, true, true, true, true, true, true, true, true, true, true, true] #[true, true, true, true, true, true, true, true, true, true, true, true, true, true, true, true, true, true, true, true, true, true, true, true, true, true, true, true, true, true, true] (by kernel_rfl) rfl (by kernel_rfl) (by kernel_rfl) rfl (by kernel_rfl) (by kernel_rfl) (.cons (carries_eq _) (.cons (carries_eq _) (.cons (carries_eq _) (.cons (carries_eq _) (.cons (carries_eq _) (.cons (carries_eq _) (.cons (carries_eq _) (.cons (carries_eq _) (.cons (carries_eq _) (.cons (carries_eq _) (.cons (carries_eq _) (.cons (carries_eq _) (.cons (carries_eq _) (.cons (carries_eq _) (.cons (carries_eq _) (.cons (carries_eq _) (.cons (carries_eq _) (.cons (carries_eq _) (.cons (carries_eq _) (.cons (carries_eq _) (.cons (carries_eq _) (.cons (carries_eq _) (.cons (carries_eq _) (.cons (carries_eq _) (.cons (carries_eq _) (.cons (carries_eq _) (.cons (carries_eq _) (.cons (carries_eq _) (.cons (carries_eq _) (.cons (carries_eq _) (.cons (carries_eq _) .nil))))))))))))))))))))))))))))))) (fun vs b hvl hvb => ?_)
  obtain ⟨x0, x1, x2, x3, x4, x5, x6, x7, x8, x9, x10, x11, x12, x13, x14, x15, x16, x17, x18, x19, x20, x21, x22, x23, x24, x25, x26, x27, x28, x29, x30, rfl⟩ : ∃ x0 x1 x2 x3 x4 x5 x6 x7 x8 x9 x10 x11 x12 x13 x14 x15 x16 x17 x18 x19 x20 x21 x22 x23 x24 x25 x26 x27 x28 x29 x30, vs = [x0, x1, x2, x3, x4, x5, x6, x7, x8, x9, x10, x11, x12, x13, x14, x15, x16, x17, x18, x19, x20, x21, x22, x23, x24, x25, x26, x27, x28, x29, x30] := lst31 hvl
  clear hvl
  simp only [putAll, Act.put, List.setIfInBounds_toArray, List.set_cons_zero, List.set_cons_succ] at hvb
  subst hvb
  refine ⟨(.snoc (.snoc (.snoc (.snoc (.snoc (.snoc (.snoc (.snoc (.snoc (.snoc (.snoc (.snoc (.snoc (.snoc (.snoc (.snoc (.snoc (.snoc (.snoc (.snoc (.snoc (.snoc (.snoc (.snoc (.snoc (.snoc (.snoc (.snoc (.snoc (.snoc (.snoc .zero (PartOb.intro (d := (some 12)) (r := fun u _ => u = .agg #[.slice a sh.length c, .slice b st.length d, .int .i64 off]) rfl rfl rfl rfl ?po1x0)) (PartOb.intro (d := (some 13)) (r := fun u _ => u = .slice ad data.length cd) rfl rfl rfl rfl ?po1x1)) (PartOb.intro (d := (some 14)) (r := fun u _ => u = .int .i64 (data.length : Int)) rfl rfl rfl rfl ?po1x2)) (PartOb.intro (d := (some 15)) (r := fun u _ => u = .bool true) rfl rfl rfl rfl ?po1x3)) (PartOb.intro (d := (some 16)) (r := fun u _ => u = .bool false) rfl rfl rfl rfl ?po1x4)) (PartOb.intro (d := (some 17)) (r := fun u _ => u = .bool false) rfl rfl rfl rfl ?po1x5)) (PartOb.intro (d := (some 18)) (r := fun u _ => u = .slice ad data.length cd) rfl rfl rfl rfl ?po1x6)) (PartOb.intro (d := (some 19)) (r := fun u _ => u = .bool true) rfl rfl rfl rfl ?po1x7)) (PartOb.intro (d := (some 20)) (r := fun u _ => u = .bool false) rfl rfl rfl rfl ?po1x8)) (PartOb.intro (d := (some 21)) (r := fun u _ => u = .bool false) rfl rfl rfl rfl ?po1x9)) (PartOb.intro (d := (some 22)) (r := fun u _ => u = .bool false) rfl rfl rfl rfl ?po1x10)) (PartOb.intro (d := (some 23)) (r := fun u _ => u = .pointer (some ⟨w.heap.size + 1, 0, none⟩)) rfl rfl rfl rfl ?po1x11)) (PartOb.intro (d := (some 24)) (r := fun u _ => u = .slice p tsh.length cp) rfl rfl rfl rfl ?po1x12)) (PartOb.intro (d := (some 25)) (r := fun u _ => u = .bool true) rfl rfl rfl rfl ?po1x13)) (PartOb.intro (d := (some 26)) (r := fun u _ => u = .bool false) rfl rfl rfl rfl ?po1x14)) (PartOb.intro (d := (some 27)) (r := fun u _ => u = .bool false) rfl rfl rfl rfl ?po1x15)) (PartOb.intro (d := (some 28)) (r := fun u _ => u = .bool false) rfl rfl rfl rfl ?po1x16)) (PartOb.intro (d := (some 29)) (r := fun u _ => u = .pointer (some ⟨w.heap.size + 1, 1, none⟩)) rfl rfl rfl rfl ?po1x17)) (PartOb.intro (d := (some 30)) (r := fun u _ => u = .slice q tys.length cq) rfl rfl rfl rfl ?po1x18)) (PartOb.intro (d := (some 31)) (r := fun u _ => u = .int .i64 (tys.length : Int)) rfl rfl rfl rfl ?po1x19)) (PartOb.intro (d := (some 32)) (r := fun u _ => u = .pointer (some ⟨w.heap.size + 1, 0, none⟩)) rfl rfl rfl rfl ?po1x20)) (PartOb.intro (d := (some 33)) (r := fun u _ => u = .slice p tsh.length cp) rfl rfl rfl rfl ?po1x21)) (PartOb.intro (d := (some 34)) (r := fun u _ => u = .int .i64 (tys.length : Int)) rfl rfl rfl rfl ?po1x22)) (PartOb.intro (d := (some 35)) (r := fun u _ => u = .bool false) rfl rfl rfl rfl ?po1x23)) (PartOb.intro (d := (some 36)) (r := fun u _ => u = .bool false) rfl rfl rfl rfl ?po1x24)) (PartOb.intro (d := (some 37)) (r := fun u _ => u = .bool false) rfl rfl rfl rfl ?po1x25)) (PartOb.intro (d := (some 38)) (r := fun u _ => u = .pointer (some ⟨w.heap.size + 1, 1, none⟩)) rfl rfl rfl rfl ?po1x26)) (PartOb.intro (d := (some 39)) (r := fun u _ => u = .slice q tys.length cq) rfl rfl rfl rfl ?po1x27)) (PartOb.intro (d := (some 40)) (r := fun u _ => u = .bool false) rfl rfl rfl rfl ?po1x28)) (PartOb.intro (d := (some 41)) (r := fun u _ => u = .bool true) rfl rfl rfl rfl ?po1x29)) (PartOb.intro (d := (some 42)) (r := fun u _ => u = .bool true) rfl rfl rfl rfl ?po1x30)), ?pend1, ?pfl1⟩
  case po1x0 =>
    intro w1 hb1 hd KK hK
    clear hd
    have hF := F1.out.next hb1
    have k0 := hF.c 0 0 rfl rfl
    have k1 := hF.c 0 1 rfl rfl
    have k2 := hF.c 0 2 rfl rfl
    simp only [Act.put, List.setIfInBounds_toArray, List.set_cons_zero, List.set_cons_succ] at hK
    go_simp
    first | exact hK.out _ _ (Below.refl _ _) rfl | (have hk := hK.out _ _ (Below.refl _ _) rfl; revert hk; go_simp)
  case po1x1 =>
    intro w1 hb1 hd KK hK
    clear hd
    simp only [Act.put, List.setIfInBounds_toArray, List.set_cons_zero, List.set_cons_succ] at hK
    go_simp
    first | exact hK.out _ _ (Below.refl _ _) rfl | (have hk := hK.out _ _ (Below.refl _ _) rfl; revert hk; go_simp)
  case po1x2 =>
    intro w1 hb1 hd KK hK
    have d1 : x1 = .slice ad data.length cd := hd 1 (by kernel_rfl)
    clear hd
    subst d1
    simp only [Act.put, List.setIfInBounds_toArray, List.set_cons_zero, List.set_cons_succ] at hK
    go_simp
    first | exact hK.out _ _ (Below.refl _ _) rfl | (have hk := hK.out _ _ (Below.refl _ _) rfl; revert hk; go_simp)
  case po1x3 =>
    intro w1 hb1 hd KK hK
    have d0 : x0 = .agg #[.slice a sh.length c, .slice b st.length d, .int .i64 off] := hd 0 (by kernel_rfl)
    have d2 : x2 = .int .i64 (data.length : Int) := hd 2 (by kernel_rfl)
    clear hd
    subst d0
    subst d2
    simp only [Act.put, List.setIfInBounds_toArray, List.set_cons_zero, List.set_cons_succ] at hK
    go_simp
    go_at_call 49
    refine (vgood_any a b c d w1.heap.size sh st off (data.length : Int) w1 ((F1.out.next hb1).lw 0 rfl) ((F1.out.next hb1).lw 1 rfl) (Nat.le_refl _)).mono ?_
    rintro e w2 ⟨rfl, hb⟩
    rw [HC0.out]
    (try go_wp2_with fail)
    first | exact hK.out _ _ hb rfl | (have hk := hK.out _ _ hb rfl; revert hk; go_simp)
  case po1x4 =>
    intro w1 hb1 hd KK hK
    have d3 : x3 = .bool true := hd 3 (by kernel_rfl)
    clear hd
    subst d3
    simp only [Act.put, List.setIfInBounds_toArray, List.set_cons_zero, List.set_cons_succ] at hK
    go_simp
    first | exact hK.out _ _ (Below.refl _ _) rfl | (have hk := hK.out _ _ (Below.refl _ _) rfl; revert hk; go_simp)
  case po1x5 =>
    intro w1 hb1 hd KK hK
    have d3 : x3 = .bool true := hd 3 (by kernel_rfl)
    have d4 : x4 = .bool false := hd 4 (by kernel_rfl)
    clear hd
    subst d3
    subst d4
    simp only [Act.put, List.setIfInBounds_toArray, List.set_cons_zero, List.set_cons_succ] at hK
    go_simp
    first | exact hK.out _ _ (Below.refl _ _) rfl | (have hk := hK.out _ _ (Below.refl _ _) rfl; revert hk; go_simp)
  case po1x6 =>
    intro w1 hb1 hd KK hK
    have d5 : x5 = .bool false := hd 5 (by kernel_rfl)
    clear hd
    subst d5
    simp only [Act.put, List.setIfInBounds_toArray, List.set_cons_zero, List.set_cons_succ] at hK
    go_simp
    first | exact hK.out _ _ (Below.refl _ _) rfl | (have hk := hK.out _ _ (Below.refl _ _) rfl; revert hk; go_simp)
  case po1x7 =>
    intro w1 hb1 hd KK hK
    have d5 : x5 = .bool false := hd 5 (by kernel_rfl)
    have d6 : x6 = .slice ad data.length cd := hd 6 (by kernel_rfl)
    clear hd
    subst d5
    subst d6
    simp only [Act.put, List.setIfInBounds_toArray, List.set_cons_zero, List.set_cons_succ] at hK
    go_simp
    go_at_call 50
    refine (vwords_any _ _ _ data _ ((F1.out.next hb1).lw 2 rfl)).mono ?_
    rintro e w' ⟨rfl, rfl⟩
    rw [HC1.out]
    (try go_wp2_with fail)
    first | exact hK.out _ _ (Below.refl _ _) rfl | (have hk := hK.out _ _ (Below.refl _ _) rfl; revert hk; go_simp)
  case po1x8 =>
    intro w1 hb1 hd KK hK
    have d5 : x5 = .bool false := hd 5 (by kernel_rfl)
    have d7 : x7 = .bool true := hd 7 (by kernel_rfl)
    clear hd
    subst d5
    subst d7
    simp only [Act.put, List.setIfInBounds_toArray, List.set_cons_zero, List.set_cons_succ] at hK
    go_simp
    first | exact hK.out _ _ (Below.refl _ _) rfl | (have hk := hK.out _ _ (Below.refl _ _) rfl; revert hk; go_simp)
  case po1x9 =>
    intro w1 hb1 hd KK hK
    have d5 : x5 = .bool false := hd 5 (by kernel_rfl)
    have d8 : x8 = .bool false := hd 8 (by kernel_rfl)
    clear hd
    subst d5
    subst d8
    simp only [Act.put, List.setIfInBounds_toArray, List.set_cons_zero, List.set_cons_succ] at hK
    go_simp
    first | exact hK.out _ _ (Below.refl _ _) rfl | (have hk := hK.out _ _ (Below.refl _ _) rfl; revert hk; go_simp)
  case po1x10 =>
    intro w1 hb1 hd KK hK
    have d7 : x7 = .bool true := hd 7 (by kernel_rfl)
    have d9 : x9 = .bool false := hd 9 (by kernel_rfl)
    clear hd
    subst d7
    subst d9
    simp only [Act.put, List.setIfInBounds_toArray, List.set_cons_zero, List.set_cons_succ] at hK
    go_simp
    first | exact hK.out _ _ (Below.refl _ _) rfl | (have hk := hK.out _ _ (Below.refl _ _) rfl; revert hk; go_simp)
  case po1x11 =>
    intro w1 hb1 hd KK hK
    have d10 : x10 = .bool false := hd 10 (by kernel_rfl)
    clear hd
    subst d10
    simp only [Act.put, List.setIfInBounds_toArray, List.set_cons_zero, List.set_cons_succ] at hK
    go_simp
    first | exact hK.out _ _ (Below.refl _ _) rfl | (have hk := hK.out _ _ (Below.refl _ _) rfl; revert hk; go_simp)
  case po1x12 =>
    intro w1 hb1 hd KK hK
    have d10 : x10 = .bool false := hd 10 (by kernel_rfl)
    have d11 : x11 = .pointer (some ⟨w.heap.size + 1, 0, none⟩) := hd 11 (by kernel_rfl)
    clear hd
    subst d10
    subst d11
    have hF := F1.out.next hb1
    have k0 := hF.c 1 0 rfl rfl
    have k1 := hF.c 1 1 rfl rfl
    simp only [Act.put, List.setIfInBounds_toArray, List.set_cons_zero, List.set_cons_succ] at hK
    go_simp
    first | exact hK.out _ _ (Below.refl _ _) rfl | (have hk := hK.out _ _ (Below.refl _ _) rfl; revert hk; go_simp)
  case po1x13 =>
    intro w1 hb1 hd KK hK
    have d10 : x10 = .bool false := hd 10 (by kernel_rfl)
    have d12 : x12 = .slice p tsh.length cp := hd 12 (by kernel_rfl)
    clear hd
    subst d10
    subst d12
    simp only [Act.put, List.setIfInBounds_toArray, List.set_cons_zero, List.set_cons_succ] at hK
    go_simp
    go_at_call 54
    refine (good_any _ _ _ tsh _ ((F1.out.next hb1).lw 3 rfl)).mono ?_
    rintro e w' ⟨rfl, rfl⟩
    rw [HC2.out]
    (try go_wp2_with fail)
    first | exact hK.out _ _ (Below.refl _ _) rfl | (have hk := hK.out _ _ (Below.refl _ _) rfl; revert hk; go_simp)
  case po1x14 =>
    intro w1 hb1 hd KK hK
    have d10 : x10 = .bool false := hd 10 (by kernel_rfl)
    have d13 : x13 = .bool true := hd 13 (by kernel_rfl)
    clear hd
    subst d10
    subst d13
    simp only [Act.put, List.setIfInBounds_toArray, List.set_cons_zero, List.set_cons_succ] at hK
    go_simp
    first | exact hK.out _ _ (Below.refl _ _) rfl | (have hk := hK.out _ _ (Below.refl _ _) rfl; revert hk; go_simp)
  case po1x15 =>
    intro w1 hb1 hd KK hK
    have d10 : x10 = .bool false := hd 10 (by kernel_rfl)
    have d14 : x14 = .bool false := hd 14 (by kernel_rfl)
    clear hd
    subst d10
    subst d14
    simp only [Act.put, List.setIfInBounds_toArray, List.set_cons_zero, List.set_cons_succ] at hK
    go_simp
    first | exact hK.out _ _ (Below.refl _ _) rfl | (have hk := hK.out _ _ (Below.refl _ _) rfl; revert hk; go_simp)
  case po1x16 =>
    intro w1 hb1 hd KK hK
    have d13 : x13 = .bool true := hd 13 (by kernel_rfl)
    have d15 : x15 = .bool false := hd 15 (by kernel_rfl)
    clear hd
    subst d13
    subst d15
    simp only [Act.put, List.setIfInBounds_toArray, List.set_cons_zero, List.set_cons_succ] at hK
    go_simp
    first | exact hK.out _ _ (Below.refl _ _) rfl | (have hk := hK.out _ _ (Below.refl _ _) rfl; revert hk; go_simp)
  case po1x17 =>
    intro w1 hb1 hd KK hK
    have d16 : x16 = .bool false := hd 16 (by kernel_rfl)
    clear hd
    subst d16
    simp only [Act.put, List.setIfInBounds_toArray, List.set_cons_zero, List.set_cons_succ] at hK
    go_simp
    first | exact hK.out _ _ (Below.refl _ _) rfl | (have hk := hK.out _ _ (Below.refl _ _) rfl; revert hk; go_simp)
  case po1x18 =>
    intro w1 hb1 hd KK hK
    have d16 : x16 = .bool false := hd 16 (by kernel_rfl)
    have d17 : x17 = .pointer (some ⟨w.heap.size + 1, 1, none⟩) := hd 17 (by kernel_rfl)
    clear hd
    subst d16
    subst d17
    have hF := F1.out.next hb1
    have k0 := hF.c 1 0 rfl rfl
    have k1 := hF.c 1 1 rfl rfl
    simp only [Act.put, List.setIfInBounds_toArray, List.set_cons_zero, List.set_cons_succ] at hK
    go_simp
    first | exact hK.out _ _ (Below.refl _ _) rfl | (have hk := hK.out _ _ (Below.refl _ _) rfl; revert hk; go_simp)
  case po1x19 =>
    intro w1 hb1 hd KK hK
    have d16 : x16 = .bool false := hd 16 (by kernel_rfl)
    have d18 : x18 = .slice q tys.length cq := hd 18 (by kernel_rfl)
    clear hd
    subst d16
    subst d18
    simp only [Act.put, List.setIfInBounds_toArray, List.set_cons_zero, List.set_cons_succ] at hK
    go_simp
    first | exact hK.out _ _ (Below.refl _ _) rfl | (have hk := hK.out _ _ (Below.refl _ _) rfl; revert hk; go_simp)
  case po1x20 =>
    intro w1 hb1 hd KK hK
    have d16 : x16 = .bool false := hd 16 (by kernel_rfl)
    clear hd
    subst d16
    simp only [Act.put, List.setIfInBounds_toArray, List.set_cons_zero, List.set_cons_succ] at hK
    go_simp
    first | exact hK.out _ _ (Below.refl _ _) rfl | (have hk := hK.out _ _ (Below.refl _ _) rfl; revert hk; go_simp)
  case po1x21 =>
    intro w1 hb1 hd KK hK
    have d16 : x16 = .bool false := hd 16 (by kernel_rfl)
    have d20 : x20 = .pointer (some ⟨w.heap.size + 1, 0, none⟩) := hd 20 (by kernel_rfl)
    clear hd
    subst d16
    subst d20
    have hF := F1.out.next hb1
    have k0 := hF.c 1 0 rfl rfl
    have k1 := hF.c 1 1 rfl rfl
    simp only [Act.put, List.setIfInBounds_toArray, List.set_cons_zero, List.set_cons_succ] at hK
    go_simp
    first | exact hK.out _ _ (Below.refl _ _) rfl | (have hk := hK.out _ _ (Below.refl _ _) rfl; revert hk; go_simp)
  case po1x22 =>
    intro w1 hb1 hd KK hK
    have d16 : x16 = .bool false := hd 16 (by kernel_rfl)
    have d21 : x21 = .slice p tsh.length cp := hd 21 (by kernel_rfl)
    clear hd
    subst d16
    subst d21
    simp only [Act.put, List.setIfInBounds_toArray, List.set_cons_zero, List.set_cons_succ] at hK
    go_simp
    go_at_call 52
    refine (size_any _ _ _ tsh _ ((F1.out.next hb1).lw 3 rfl) HC2.out).mono ?_
    rintro e w' ⟨rfl, rfl⟩
    rw [← HC3.out]
    (try go_wp2_with fail)
    first | exact hK.out _ _ (Below.refl _ _) rfl | (have hk := hK.out _ _ (Below.refl _ _) rfl; revert hk; go_simp)
  case po1x23 =>
    intro w1 hb1 hd KK hK
    have d16 : x16 = .bool false := hd 16 (by kernel_rfl)
    have d19 : x19 = .int .i64 (tys.length : Int) := hd 19 (by kernel_rfl)
    have d22 : x22 = .int .i64 (tys.length : Int) := hd 22 (by kernel_rfl)
    clear hd
    subst d16
    subst d19
    subst d22
    simp only [Act.put, List.setIfInBounds_toArray, List.set_cons_zero, List.set_cons_succ] at hK
    go_simp
    first | exact hK.out _ _ (Below.refl _ _) rfl | (have hk := hK.out _ _ (Below.refl _ _) rfl; revert hk; go_simp)
  case po1x24 =>
    intro w1 hb1 hd KK hK
    have d16 : x16 = .bool false := hd 16 (by kernel_rfl)
    have d23 : x23 = .bool false := hd 23 (by kernel_rfl)
    clear hd
    subst d16
    subst d23
    simp only [Act.put, List.setIfInBounds_toArray, List.set_cons_zero, List.set_cons_succ] at hK
    go_simp
    first | exact hK.out _ _ (Below.refl _ _) rfl | (have hk := hK.out _ _ (Below.refl _ _) rfl; revert hk; go_simp)
  case po1x25 =>
    intro w1 hb1 hd KK hK
    have d22 : x22 = .int .i64 (tys.length : Int) := hd 22 (by kernel_rfl)
    have d24 : x24 = .bool false := hd 24 (by kernel_rfl)
    clear hd
    subst d22
    subst d24
    simp only [Act.put, List.setIfInBounds_toArray, List.set_cons_zero, List.set_cons_succ] at hK
    go_simp
    first | exact hK.out _ _ (Below.refl _ _) rfl | (have hk := hK.out _ _ (Below.refl _ _) rfl; revert hk; go_simp)
  case po1x26 =>
    intro w1 hb1 hd KK hK
    have d25 : x25 = .bool false := hd 25 (by kernel_rfl)
    clear hd
    subst d25
    simp only [Act.put, List.setIfInBounds_toArray, List.set_cons_zero, List.set_cons_succ] at hK
    go_simp
    first | exact hK.out _ _ (Below.refl _ _) rfl | (have hk := hK.out _ _ (Below.refl _ _) rfl; revert hk; go_simp)
  case po1x27 =>
    intro w1 hb1 hd KK hK
    have d25 : x25 = .bool false := hd 25 (by kernel_rfl)
    have d26 : x26 = .pointer (some ⟨w.heap.size + 1, 1, none⟩) := hd 26 (by kernel_rfl)
    clear hd
    subst d25
    subst d26
    have hF := F1.out.next hb1
    have k0 := hF.c 1 0 rfl rfl
    have k1 := hF.c 1 1 rfl rfl
    simp only [Act.put, List.setIfInBounds_toArray, List.set_cons_zero, List.set_cons_succ] at hK
    go_simp
    first | exact hK.out _ _ (Below.refl _ _) rfl | (have hk := hK.out _ _ (Below.refl _ _) rfl; revert hk; go_simp)
  case po1x28 =>
    intro w1 hb1 hd KK hK
    have d25 : x25 = .bool false := hd 25 (by kernel_rfl)
    have d27 : x27 = .slice q tys.length cq := hd 27 (by kernel_rfl)
    clear hd
    subst d25
    subst d27
    simp only [Act.put, List.setIfInBounds_toArray, List.set_cons_zero, List.set_cons_succ] at hK
    go_simp
    go_at_call 50
    refine (vwords_any _ _ _ tys _ ((F1.out.next hb1).lw 4 rfl)).mono ?_
    rintro e w' ⟨rfl, rfl⟩
    rw [HC4.out]
    (try go_wp2_with fail)
    first | exact hK.out _ _ (Below.refl _ _) rfl | (have hk := hK.out _ _ (Below.refl _ _) rfl; revert hk; go_simp)
  case po1x29 =>
    intro w1 hb1 hd KK hK
    have d25 : x25 = .bool false := hd 25 (by kernel_rfl)
    have d28 : x28 = .bool false := hd 28 (by kernel_rfl)
    clear hd
    subst d25
    subst d28
    simp only [Act.put, List.setIfInBounds_toArray, List.set_cons_zero, List.set_cons_succ] at hK
    go_simp
    first | exact hK.out _ _ (Below.refl _ _) rfl | (have hk := hK.out _ _ (Below.refl _ _) rfl; revert hk; go_simp)
  case po1x30 =>
    intro w1 hb1 hd KK hK
    have d25 : x25 = .bool false := hd 25 (by kernel_rfl)
    have d29 : x29 = .bool true := hd 29 (by kernel_rfl)
    clear hd
    subst d25
    subst d29
    simp only [Act.put, List.setIfInBounds_toArray, List.set_cons_zero, List.set_cons_succ] at hK
    go_simp
    first | exact hK.out _ _ (Below.refl _ _) rfl | (have hk := hK.out _ _ (Below.refl _ _) rfl; revert hk; go_simp)
  case pfl1 => (intro f hf; cases hf)
  case pend1 =>
  intro w1 hb1 hR hD
  have d0 : x0 = .agg #[.slice a sh.length c, .slice b st.length d, .int .i64 off] := hR 0 (by decide)
  have d1 : x1 = .slice ad data.length cd := hR 1 (by decide)
  have d2 : x2 = .int .i64 (data.length : Int) := hR 2 (by decide)
  have d3 : x3 = .bool true := hR 3 (by decide)
  have d4 : x4 = .bool false := hR 4 (by decide)
  have d5 : x5 = .bool false := hR 5 (by decide)
  have d6 : x6 = .slice ad data.length cd := hR 6 (by decide)
  have d7 : x7 = .bool true := hR 7 (by decide)
  have d8 : x8 = .bool false := hR 8 (by decide)
  have d9 : x9 = .bool false := hR 9 (by decide)
  have d10 : x10 = .bool false := hR 10 (by decide)
  have d11 : x11 = .pointer (some ⟨w.heap.size + 1, 0, none⟩) := hR 11 (by decide)
  have d12 : x12 = .slice p tsh.length cp := hR 12 (by decide)
  have d13 : x13 = .bool true := hR 13 (by decide)
  have d14 : x14 = .bool false := hR 14 (by decide)
  have d15 : x15 = .bool false := hR 15 (by decide)
  have d16 : x16 = .bool false := hR 16 (by decide)
  have d17 : x17 = .pointer (some ⟨w.heap.size + 1, 1, none⟩) := hR 17 (by decide)
  have d18 : x18 = .slice q tys.length cq := hR 18 (by decide)
  have d19 : x19 = .int .i64 (tys.length : Int) := hR 19 (by decide)
  have d20 : x20 = .pointer (some ⟨w.heap.size + 1, 0, none⟩) := hR 20 (by decide)
  have d21 : x21 = .slice p tsh.length cp := hR 21 (by decide)
  have d22 : x22 = .int .i64 (tys.length : Int) := hR 22 (by decide)
  have d23 : x23 = .bool false := hR 23 (by decide)
  have d24 : x24 = .bool false := hR 24 (by decide)
  have d25 : x25 = .bool false := hR 25 (by decide)
  have d26 : x26 = .pointer (some ⟨w.heap.size + 1, 1, none⟩) := hR 26 (by decide)
  have d27 : x27 = .slice q tys.length cq := hR 27 (by decide)
  have d28 : x28 = .bool false := hR 28 (by decide)
  have d29 : x29 = .bool true := hR 29 (by decide)
  have d30 : x30 = .bool true := hR 30 (by decide)
  clear hR hD
  subst d0
  subst d1
  subst d2
  subst d3
  subst d4
  subst d5
  subst d6
  subst d7
  subst d8
  subst d9
  subst d10
  subst d11
  subst d12
  subst d13
  subst d14
  subst d15
  subst d16
  subst d17
  subst d18
  subst d19
  subst d20
  subst d21
  subst d22
  subst d23
  subst d24
  subst d25
  subst d26
  subst d27
  subst d28
  subst d29
  subst d30
  refine wpAny_done (by kernel_rfl) ?_ _
  have F2 := Lib.hid (F1.out.next hb1)
  clear hb1 F1
  have d2_0 := F2.out.c 2 0 rfl rfl
  have d3_0 := F2.out.c 3 0 rfl rfl
  have df2_0 := F2.out.f 2 0 rfl rfl
  have df3_0 := F2.out.f 3 0 rfl rfl
  go_wp2
  have FZ := (F2.out.set 2 rfl (by simp) [.slice none 0 0] rfl).set 3 rfl (by simp) [.int .i64 1] rfl
  simp only [setL, Nat.reduceAdd, List.set_cons_zero, List.set_cons_succ] at FZ
  have z0 := FZ.c 2 0 rfl rfl
  have z1 := FZ.c 3 0 rfl rfl
  refine bodyPost_ret (v := .tuple #[.slice none 0 0, .int .i64 1]) ?_ rfl (retWV_none FZ)
  rw [results_ccV rfl]
  go_simp
end Go.Proofs.Ytnafbgkfhojamaa
