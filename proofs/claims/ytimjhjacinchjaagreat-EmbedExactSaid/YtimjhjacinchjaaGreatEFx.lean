/- Walks: products of words. -/
import Derived.Test.YtimjhjacinchjaaGreatETen
import Derived.Test.YtimjhjacinchjaaGreatParts
import Derived.Deep.CutBlock
set_option linter.unusedVariables false
set_option linter.unusedSimpArgs false
namespace Go.Proofs.YtimjhjacinchjaaGreat
open Go.RowKit Go.Rt

theorem cellAt {W w1 : World} {b o : Nat} {v : Value} (hb : Below W.heap.size W w1) (hc : W.cell? ⟨b, o, none⟩ = some v) : w1.cell? ⟨b, o, none⟩ = some v := (hb.cell (p := ⟨b, o, none⟩) (World.block_lt_of_cell? W _ hc)).trans hc
theorem word_mul {a b : Int} (ha : isW a = true) (hb : isW b = true) : -19807040628566084398385987584 ≤ a * b ∧ a * b ≤ 19807040628566084398385987584 := by
  have h1 := isW_iff.1 ha
  have h2 := isW_iff.1 hb
  have h3 : a.natAbs * b.natAbs ≤ 140737488355328 * 140737488355328 := Nat.mul_le_mul (by omega) (by omega)
  rw [← Int.natAbs_mul] at h3
  omega
set_option maxHeartbeats 1000000 in
theorem times_any (a b : Int) (f : Nat) (w : World) (ha : isW a = true) (hb : isW b = true) (f0 : 8 ≤ f) (f1 : f ≤ 32) :
    Calls Tryz.prog 81 #[.agg #[.int .i64 a, .int .i64 b, .int .i64 f]] w fun e w' => RetV (wordV (shI (a * b) f)) (wordE (shI (a * b) f)) e ∧ Below w.heap.size w w' := by
  have ha2 := isW_iff.1 ha
  have hb2 := isW_iff.1 hb
  have hm := fun w => Lib.hid (mul_any a b w (by omega) (by omega) (by omega) (by omega))
  have hp := word_mul ha hb
  have hW : WR (a * b / 18446744073709551616) (a * b % 18446744073709551616) := ⟨by omega, by omega, by omega, by omega⟩
  have hs := fun w => Lib.hid (shifted_any (a * b / 18446744073709551616) (a * b % 18446744073709551616) f w (by omega) (by omega) hW)
  rw [V_split3] at hs
  obtain ⟨SV, hSV⟩ : ∃ z, wordV (shI (a * b) f) = z := ⟨_, rfl⟩
  obtain ⟨SE, hSE⟩ : ∃ z, wordE (shI (a * b) f) = z := ⟨_, rfl⟩
  rw [hSV, hSE] at hs ⊢
  obtain ⟨MH, hMH⟩ : ∃ z, a * b / 18446744073709551616 = z := ⟨_, rfl⟩
  obtain ⟨ML, hML⟩ : ∃ z, a * b % 18446744073709551616 = z := ⟨_, rfl⟩
  rw [hMH, hML] at hm hs
  clear ha hb ha2 hb2 hp hW hSV hSE hMH hML
  go_enter Tryz.func81, Tryz.ntmps81
  go_upto_region 1 with fail
  have hBW : Below w.heap.size w (w.alloc (.cells #[.int .i64 a, .int .i64 b, .int .i64 f] 99)) := (Below.refl _ _).alloc (Nat.le_refl _) _
  have c0 : (w.alloc (.cells #[.int .i64 a, .int .i64 b, .int .i64 f] 99)).cell? ⟨w.heap.size, 0, none⟩ = some (.int .i64 a) := by simp [go_sem]
  have c1 : (w.alloc (.cells #[.int .i64 a, .int .i64 b, .int .i64 f] 99)).cell? ⟨w.heap.size, 1, none⟩ = some (.int .i64 b) := by simp [go_sem]
  have c2 : (w.alloc (.cells #[.int .i64 a, .int .i64 b, .int .i64 f] 99)).cell? ⟨w.heap.size, 2, none⟩ = some (.int .i64 f) := by simp [go_sem]
  generalize w.alloc (.cells #[.int .i64 a, .int .i64 b, .int .i64 f] 99) = W0 at hBW c0 c1 c2 ⊢
  have C0 := Lib.hid c0
  have C1 := Lib.hid c1
  have C2 := Lib.hid c2
  have HBW := Lib.hid hBW
  clear c0 c1 c2 hBW
  refine wp_region_parts2 (w := W0) 10 2 none [] [(fun u _ => u = .pointer (some ⟨w.heap.size, 0, none⟩)), (fun u _ => u = .int .i64 a), (fun u _ => u = .pointer (some ⟨w.heap.size, 1, none⟩)), (fun u _ => u = .int .i64 b), (fun u _ => u = .agg #[.int .i64 MH, .int .u64 ML]), (fun u _ => u = .pointer (some ⟨w.heap.size, 2, none⟩)), (fun u _ => u = .int .i64 f), (fun u _ => u = .tuple #[.int .i64 SV, .int .i64 SE]), (fun u _ => u = .int .i64 SV), (fun u _ => u = .int .i64 SE)] [some 4, some 5, some 6, some 7, some 8, some 9, some 10, some 11, some 12, some 13, some 2, some 3] #[true, true, true, true, true, true, true, true, true, true, false, false] #[true, true, true, true, true, true, true, true, true, true, false, false] (by kernel_rfl) rfl (by kernel_rfl) (by kernel_rfl) rfl (by kernel_rfl) (by kernel_rfl) (.cons (carries_eq _) (.cons (carries_eq _) (.cons (carries_eq _) (.cons (carries_eq _) (.cons (carries_eq _) (.cons (carries_eq _) (.cons (carries_eq _) (.cons (carries_eq _) (.cons (carries_eq _) (.cons (carries_eq _) .nil)))))))))) (fun vs b hvl hvb => ?_)
  obtain ⟨x0, x1, x2, x3, x4, x5, x6, x7, x8, x9, x10, x11, rfl⟩ : ∃ x0 x1 x2 x3 x4 x5 x6 x7 x8 x9 x10 x11, vs = [x0, x1, x2, x3, x4, x5, x6, x7, x8, x9, x10, x11] := lst12 hvl
  clear hvl
  simp only [putAll, Act.put, List.setIfInBounds_toArray, List.set_cons_zero, List.set_cons_succ] at hvb
  subst hvb
  refine ⟨(.snoc (.snoc (.snoc (.snoc (.snoc (.snoc (.snoc (.snoc (.snoc (.snoc .zero (PartOb.intro (d := (some 4)) (r := fun u _ => u = .pointer (some ⟨w.heap.size, 0, none⟩)) rfl rfl rfl rfl ?po1x0)) (PartOb.intro (d := (some 5)) (r := fun u _ => u = .int .i64 a) rfl rfl rfl rfl ?po1x1)) (PartOb.intro (d := (some 6)) (r := fun u _ => u = .pointer (some ⟨w.heap.size, 1, none⟩)) rfl rfl rfl rfl ?po1x2)) (PartOb.intro (d := (some 7)) (r := fun u _ => u = .int .i64 b) rfl rfl rfl rfl ?po1x3)) (PartOb.intro (d := (some 8)) (r := fun u _ => u = .agg #[.int .i64 MH, .int .u64 ML]) rfl rfl rfl rfl ?po1x4)) (PartOb.intro (d := (some 9)) (r := fun u _ => u = .pointer (some ⟨w.heap.size, 2, none⟩)) rfl rfl rfl rfl ?po1x5)) (PartOb.intro (d := (some 10)) (r := fun u _ => u = .int .i64 f) rfl rfl rfl rfl ?po1x6)) (PartOb.intro (d := (some 11)) (r := fun u _ => u = .tuple #[.int .i64 SV, .int .i64 SE]) rfl rfl rfl rfl ?po1x7)) (PartOb.intro (d := (some 12)) (r := fun u _ => u = .int .i64 SV) rfl rfl rfl rfl ?po1x8)) (PartOb.intro (d := (some 13)) (r := fun u _ => u = .int .i64 SE) rfl rfl rfl rfl ?po1x9)), ?pend1, ?pfl1⟩
  case po1x0 =>
    intro w1 hb1 hd KK hK
    clear hd
    simp only [Act.put, List.setIfInBounds_toArray, List.set_cons_zero, List.set_cons_succ] at hK
    go_simp
    first | exact hK.out _ _ (Below.refl _ _) rfl | (have hk := hK.out _ _ (Below.refl _ _) rfl; revert hk; go_simp)
  case po1x1 =>
    intro w1 hb1 hd KK hK
    have d0 : x0 = .pointer (some ⟨w.heap.size, 0, none⟩) := hd 0 (by kernel_rfl)
    clear hd
    subst d0
    have hc := cellAt hb1 C0.out
    simp only [Act.put, List.setIfInBounds_toArray, List.set_cons_zero, List.set_cons_succ] at hK
    go_simp
    first | exact hK.out _ _ (Below.refl _ _) rfl | (have hk := hK.out _ _ (Below.refl _ _) rfl; revert hk; go_simp)
  case po1x2 =>
    intro w1 hb1 hd KK hK
    clear hd
    simp only [Act.put, List.setIfInBounds_toArray, List.set_cons_zero, List.set_cons_succ] at hK
    go_simp
    first | exact hK.out _ _ (Below.refl _ _) rfl | (have hk := hK.out _ _ (Below.refl _ _) rfl; revert hk; go_simp)
  case po1x3 =>
    intro w1 hb1 hd KK hK
    have d2 : x2 = .pointer (some ⟨w.heap.size, 1, none⟩) := hd 2 (by kernel_rfl)
    clear hd
    subst d2
    have hc := cellAt hb1 C1.out
    simp only [Act.put, List.setIfInBounds_toArray, List.set_cons_zero, List.set_cons_succ] at hK
    go_simp
    first | exact hK.out _ _ (Below.refl _ _) rfl | (have hk := hK.out _ _ (Below.refl _ _) rfl; revert hk; go_simp)
  case po1x4 =>
    intro w1 hb1 hd KK hK
    have d1 : x1 = .int .i64 a := hd 1 (by kernel_rfl)
    have d3 : x3 = .int .i64 b := hd 3 (by kernel_rfl)
    clear hd
    subst d1
    subst d3
    simp only [Act.put, List.setIfInBounds_toArray, List.set_cons_zero, List.set_cons_succ] at hK
    go_simp
    go_at_call 88
    refine (hm _).out.mono ?_
    rintro e w2 ⟨he, hb2⟩
    (try unfold RetV at he)
    subst he
    (try go_wp2_with fail)
    first | exact hK.out _ _ hb2 rfl | (have hk := hK.out _ _ hb2 rfl; revert hk; go_simp)
  case po1x5 =>
    intro w1 hb1 hd KK hK
    clear hd
    simp only [Act.put, List.setIfInBounds_toArray, List.set_cons_zero, List.set_cons_succ] at hK
    go_simp
    first | exact hK.out _ _ (Below.refl _ _) rfl | (have hk := hK.out _ _ (Below.refl _ _) rfl; revert hk; go_simp)
  case po1x6 =>
    intro w1 hb1 hd KK hK
    have d5 : x5 = .pointer (some ⟨w.heap.size, 2, none⟩) := hd 5 (by kernel_rfl)
    clear hd
    subst d5
    have hc := cellAt hb1 C2.out
    simp only [Act.put, List.setIfInBounds_toArray, List.set_cons_zero, List.set_cons_succ] at hK
    go_simp
    first | exact hK.out _ _ (Below.refl _ _) rfl | (have hk := hK.out _ _ (Below.refl _ _) rfl; revert hk; go_simp)
  case po1x7 =>
    intro w1 hb1 hd KK hK
    have d4 : x4 = .agg #[.int .i64 MH, .int .u64 ML] := hd 4 (by kernel_rfl)
    have d6 : x6 = .int .i64 f := hd 6 (by kernel_rfl)
    clear hd
    subst d4
    subst d6
    simp only [Act.put, List.setIfInBounds_toArray, List.set_cons_zero, List.set_cons_succ] at hK
    go_simp
    go_at_call 87
    refine (hs _).out.mono ?_
    rintro e w2 ⟨he, hb2⟩
    (try unfold RetV at he)
    subst he
    (try go_wp2_with fail)
    first | exact hK.out _ _ hb2 rfl | (have hk := hK.out _ _ hb2 rfl; revert hk; go_simp)
  case po1x8 =>
    intro w1 hb1 hd KK hK
    have d7 : x7 = .tuple #[.int .i64 SV, .int .i64 SE] := hd 7 (by kernel_rfl)
    clear hd
    subst d7
    simp only [Act.put, List.setIfInBounds_toArray, List.set_cons_zero, List.set_cons_succ] at hK
    go_simp
    first | exact hK.out _ _ (Below.refl _ _) rfl | (have hk := hK.out _ _ (Below.refl _ _) rfl; revert hk; go_simp)
  case po1x9 =>
    intro w1 hb1 hd KK hK
    have d7 : x7 = .tuple #[.int .i64 SV, .int .i64 SE] := hd 7 (by kernel_rfl)
    clear hd
    subst d7
    simp only [Act.put, List.setIfInBounds_toArray, List.set_cons_zero, List.set_cons_succ] at hK
    go_simp
    first | exact hK.out _ _ (Below.refl _ _) rfl | (have hk := hK.out _ _ (Below.refl _ _) rfl; revert hk; go_simp)
  case pfl1 => (intro f hf; cases hf)
  case pend1 =>
  intro w1 hb1 hR hD
  have d0 : x0 = .pointer (some ⟨w.heap.size, 0, none⟩) := hR 0 (by decide)
  have d1 : x1 = .int .i64 a := hR 1 (by decide)
  have d2 : x2 = .pointer (some ⟨w.heap.size, 1, none⟩) := hR 2 (by decide)
  have d3 : x3 = .int .i64 b := hR 3 (by decide)
  have d4 : x4 = .agg #[.int .i64 MH, .int .u64 ML] := hR 4 (by decide)
  have d5 : x5 = .pointer (some ⟨w.heap.size, 2, none⟩) := hR 5 (by decide)
  have d6 : x6 = .int .i64 f := hR 6 (by decide)
  have d7 : x7 = .tuple #[.int .i64 SV, .int .i64 SE] := hR 7 (by decide)
  have d8 : x8 = .int .i64 SV := hR 8 (by decide)
  have d9 : x9 = .int .i64 SE := hR 9 (by decide)
  clear hR hD
  subst d0
  subst d1
  subst d2
  subst d3
  subst d4
  subst d5
  subst d6
  subst d7
  subst d8
  subst d9
  refine wpAny_ready (rs := [10]) (by kernel_rfl) (by simp) (AllReady.cons rfl (fun KK hK => ?_) AllReady.nil)
  go_simp
  refine hK _ _ ?_
  clear hK KK
  try simp only [putAll, Act.put, List.setIfInBounds_toArray, List.set_cons_zero, List.set_cons_succ]
  refine wpAny_ready (rs := [11]) (by kernel_rfl) (by simp) (AllReady.cons rfl (fun KK hK => ?_) AllReady.nil)
  go_simp
  refine hK _ _ ?_
  clear hK KK
  try simp only [putAll, Act.put, List.setIfInBounds_toArray, List.set_cons_zero, List.set_cons_succ]
  refine wpAny_done (by kernel_rfl) ?_ _
  go_wp2
  exact bodyPost_ret (by rw [results_tmp2 rfl]; go_simp) rfl ⟨rfl, HBW.out.trans (hb1.mono HBW.out.size)⟩

theorem way2_any (w : World) : Calls Tryz.prog 63 #[.int .i64 2] w fun e w' => e = .returned (.func (.func 81) #[] #[]) ∧ w = w' := by
  go_enter Tryz.func63, Tryz.ntmps63
  go_wp2
  go_ret
  exact ⟨rfl, rfl⟩

set_option maxHeartbeats 1000000 in
theorem reckon2_any (a b : Int) (f : Nat) (w : World) (ha : isW a = true) (hb : isW b = true) (f0 : 8 ≤ f) (f1 : f ≤ 32) :
    Calls Tryz.prog 52 #[.int .i64 2, .int .i64 a, .int .i64 b, .int .i64 f] w fun e w' => RetV (wordV (shI (a * b) f)) (wordE (shI (a * b) f)) e ∧ Below w.heap.size w w' := by
  have hg1 := fun w => Lib.hid (fxGood_any a w)
  have hg2 := fun w => Lib.hid (fxGood_any b w)
  have hgf := fun w => Lib.hid (goodF_any (f : Int) w)
  rw [ha] at hg1
  rw [hb] at hg2
  rw [decide_eq_true (show (8 : Int) ≤ f by omega), decide_eq_true (show (f : Int) ≤ 32 by omega)] at hgf
  have ht := fun w => Lib.hid (times_any a b f w ha hb f0 f1)
  have hw2 := fun w => Lib.hid (way2_any w)
  obtain ⟨SV, hSV⟩ : ∃ z, wordV (shI (a * b) f) = z := ⟨_, rfl⟩
  obtain ⟨SE, hSE⟩ : ∃ z, wordE (shI (a * b) f) = z := ⟨_, rfl⟩
  rw [hSV, hSE] at ht ⊢
  clear ha hb hSV hSE f0 f1
  have M1 := True.intro
  have M2 := True.intro
  go_enter Tryz.func52, Tryz.ntmps52
  go_wp2_with (first | (go_at_call 29; have hmk := M1; clear hmk M1; refine (hg1 _).out.mono ?_; rintro e w' ⟨rfl, rfl⟩) | (go_at_call 29; have hmk := M2; clear hmk M2; refine (hg2 _).out.mono ?_; rintro e w' ⟨rfl, rfl⟩) | (go_at_call 30; refine (hgf _).out.mono ?_; rintro e w' ⟨rfl, rfl⟩) | (go_at_call 63; refine (hw2 _).out.mono ?_; rintro e w' ⟨rfl, rfl⟩) | (go_at_call 81; refine (ht _).out.mono ?_; rintro e w2 ⟨he, hb⟩; unfold RetV at he; subst he; have HB2 := Lib.hid hb; clear hb))
  exact bodyPost_ret (by rw [results_tmp2 rfl]; go_simp) rfl ⟨rfl, HB2.out⟩

theorem fxMul_any (a b : Int) (f : Nat) (w : World) (ha : isW a = true) (hb : isW b = true) (f0 : 8 ≤ f) (f1 : f ≤ 32) :
    Calls Tryz.prog 32 #[.int .i64 a, .int .i64 b, .int .i64 f] w fun e w' => RetV (wordV (shI (a * b) f)) (wordE (shI (a * b) f)) e ∧ Below w.heap.size w w' := by
  have ht := fun w => Lib.hid (reckon2_any a b f w ha hb f0 f1)
  obtain ⟨SV, hSV⟩ : ∃ z, wordV (shI (a * b) f) = z := ⟨_, rfl⟩
  obtain ⟨SE, hSE⟩ : ∃ z, wordE (shI (a * b) f) = z := ⟨_, rfl⟩
  rw [hSV, hSE] at ht ⊢
  clear ha hb hSV hSE
  go_enter Tryz.func32, Tryz.ntmps32
  go_wp2_with (first | (go_at_call 52; refine (ht _).out.mono ?_; rintro e w2 ⟨he, hb⟩; unfold RetV at he; subst he; have HB2 := Lib.hid hb; clear hb))
  exact bodyPost_ret (by rw [results_tmp2 rfl]; go_simp) rfl ⟨rfl, HB2.out⟩
end Go.Proofs.YtimjhjacinchjaaGreat
