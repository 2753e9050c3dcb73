/- Walks: the product of two tensors. -/
import Derived.Test.YtddhhfhammmaaaaGreatMSmall
import Derived.WalkMore
import Derived.Deep.RegionHeld3
import Derived.Deep.Cut
set_option linter.unusedVariables false
set_option linter.unusedSimpArgs false
namespace Go.Proofs.YtddhhfhammmaaaaGreat
open Go.RowKit Go.Rt

theorem outE_cases (xs ys : List Int) : outE xs ys = 2 ∨ outE xs ys = 5 ∨ outE xs ys = 0 := by unfold outE; split <;> (try split) <;> simp

set_option maxHeartbeats 2000000 in
set_option maxRecDepth 100000 in
theorem mul_bad (a b a' b' : Option Addr) (c d c' d' f : Nat) (xsA ysA xsB ysB : List Int) (w : World) (hA : Ints .i64 w w.heap.size a xsA) (hA2 : Ints .i64 w w.heap.size b ysA) (hB : Ints .i64 w w.heap.size a' xsB) (hB2 : Ints .i64 w w.heap.size b' ysB)
    (tA : tenB xsA ysA = true) (tB : tenB xsB ysB = true) (f0 : 8 ≤ f) (f1 : f ≤ 32) (hc : xsA.length ≤ c) (hc' : xsB.length ≤ c') (hcm : c ≤ 9223372036854775807) (hcm' : c' ≤ 9223372036854775807) (hz : ¬ outE xsA xsB = 0) :
    Calls Tryz.prog 10 #[.agg #[.slice a xsA.length c, .slice b ysA.length d], .agg #[.slice a' xsB.length c', .slice b' ysB.length d'], .int .i64 f] w fun e w' => e = .returned (.tuple #[.agg #[.slice none 0 0, .slice none 0 0], .int .i64 (outE xsA xsB)]) ∧ Below w.heap.size w w' := by
  have lA := (goodB_iff.1 (tenB_iff.1 tA).1).1
  have lB := (goodB_iff.1 (tenB_iff.1 tB).1).1
  have hall := fun w' (hb : Below w.heap.size w w') (hq : w'.cell? ⟨w.heap.size + 1 + 1 + 1, 0, none⟩ = some (.slice a xsA.length c) ∧ w'.cell? ⟨w.heap.size + 1 + 1 + 1, 1, none⟩ = some (.slice b ysA.length d) ∧ w'.cell? ⟨w.heap.size + 1 + 1 + 1, 2, none⟩ = some (.slice a' xsB.length c') ∧ w'.cell? ⟨w.heap.size + 1 + 1 + 1, 3, none⟩ = some (.slice b' ysB.length d')) (hl : w.heap.size + 1 + 1 + 1 < w'.heap.size) =>
    Lib.hid (elemAll_any (w.heap.size + 1 + 1 + 1) a b a' b' c d c' d' xsA ysA xsB ysB w' hq hl ((hA.below hb (Nat.le_refl _)).mono hb.size) ((hA2.below hb (Nat.le_refl _)).mono hb.size) ((hB.below hb (Nat.le_refl _)).mono hb.size) ((hB2.below hb (Nat.le_refl _)).mono hb.size) tA tB)
  have hgf := fun w => Lib.hid (goodF_any f w)
  rw [decide_eq_true (show (8 : Int) ≤ f by omega), decide_eq_true (show (f : Int) ≤ 32 by omega)] at hgf
  have hout := fun w' (hb : Below w.heap.size w w') => Lib.hid (out_any a a' c c' xsA xsB w' ((hA.below hb (Nat.le_refl _)).mono hb.size) ((hB.below hb (Nat.le_refl _)).mono hb.size) lA lB hc hc' hcm hcm')
  have hR : outR xsA xsB = [] := by unfold outR; rw [if_neg hz]
  rw [hR] at hout
  have hz2 : (outE xsA xsB != 0) = true := by simp; exact hz
  generalize outE xsA xsB = Z at *
  have m1 := hA.len
  have m2 := hA2.len
  have m3 := hB.len
  have m4 := hB2.len
  clear hA hA2 hB hB2 tA tB hR hz
  go_enter Tryz.func10, Tryz.ntmps10
  go_wp2
  go_step3
  go_wp2_with (first | (go_at_call 34; refine (hall _ (by (repeat' (first | exact Below.refl _ _ | refine below_drewN ?_ _ | refine Below.drew ?_ | refine Below.setCell ?_ (by first | omega | (simp <;> omega)) _ | refine Below.alloc ?_ (by first | omega | (simp <;> omega)) _))) (by simp [go_sem]) (by simp)).out.mono ?_; rintro e w1 ⟨rfl, hb⟩; have HB1 := Lib.hid hb; have hs1 := hb.size; (try simp at hs1); have Xt3_1 := Box2.below (b := w.heap.size) (v0 := .slice a xsA.length c) (v1 := .slice b ysA.length d) (by constructor <;> go_simp) hb (by first | omega | (simp <;> omega)); have Ht3_1 := Lib.hid Xt3_1; obtain ⟨c0t3_1, c1t3_1, f0t3_1, f1t3_1⟩ := Xt3_1; have Lt3_1 : w.heap.size < w1.heap.size := (by omega); have Xt4_1 := Box2.below (b := w.heap.size + 1) (v0 := .slice a' xsB.length c') (v1 := .slice b' ysB.length d') (by constructor <;> go_simp) hb (by first | omega | (simp <;> omega)); have Ht4_1 := Lib.hid Xt4_1; obtain ⟨c0t4_1, c1t4_1, f0t4_1, f1t4_1⟩ := Xt4_1; have Lt4_1 : w.heap.size + 1 < w1.heap.size := (by omega); have Xt6_1 := Box2.below (b := w.heap.size + 1 + 1) (v0 := .slice none 0 0) (v1 := .slice none 0 0) (by constructor <;> go_simp) hb (by first | omega | (simp <;> omega)); have Ht6_1 := Lib.hid Xt6_1; obtain ⟨c0t6_1, c1t6_1, f0t6_1, f1t6_1⟩ := Xt6_1; have Lt6_1 : w.heap.size + 1 + 1 < w1.heap.size := (by omega); clear hb) | (go_at_call 35; refine (hgf _).out.mono ?_; rintro e w' ⟨rfl, rfl⟩) | (go_at_call 36; refine (hout _ (Below.trans (by (repeat' (first | exact Below.refl _ _ | refine below_drewN ?_ _ | refine Below.drew ?_ | refine Below.setCell ?_ (by first | omega | (simp <;> omega)) _ | refine Below.alloc ?_ (by first | omega | (simp <;> omega)) _))) (HB1.out.mono (by first | omega | (simp <;> omega))))).out.mono ?_; rintro e w2 ⟨v, rfl, hown, hb⟩; have HB2 := Lib.hid hb; have hs2 := hb.size; (try simp at hs2); have HO2 := Lib.hid hown; obtain ⟨aS, cS, rfl, _⟩ := own_shape hown; have Xt3_2 := Box2.below (b := w.heap.size) (v0 := .slice a xsA.length c) (v1 := .slice b ysA.length d) (by constructor <;> go_simp) hb (by first | omega | (simp <;> omega)); have Ht3_2 := Lib.hid Xt3_2; obtain ⟨c0t3_2, c1t3_2, f0t3_2, f1t3_2⟩ := Xt3_2; have Lt3_2 : w.heap.size < w2.heap.size := (by omega); have Xt4_2 := Box2.below (b := w.heap.size + 1) (v0 := .slice a' xsB.length c') (v1 := .slice b' ysB.length d') (by constructor <;> go_simp) hb (by first | omega | (simp <;> omega)); have Ht4_2 := Lib.hid Xt4_2; obtain ⟨c0t4_2, c1t4_2, f0t4_2, f1t4_2⟩ := Xt4_2; have Lt4_2 : w.heap.size + 1 < w2.heap.size := (by omega); have Xt6_2 := Box2.below (b := w.heap.size + 1 + 1) (v0 := .slice none 0 0) (v1 := .slice none 0 0) (by constructor <;> go_simp) hb (by first | omega | (simp <;> omega)); have Ht6_2 := Lib.hid Xt6_2; obtain ⟨c0t6_2, c1t6_2, f0t6_2, f1t6_2⟩ := Xt6_2; have Lt6_2 : w.heap.size + 1 + 1 < w2.heap.size := (by omega); clear hb hown))
  (try simp only [Exit.noGoto, Exit.inBlock, Exit.then])
  refine bodyPost_ret (v := .tuple #[.agg #[.slice none 0 0, .slice none 0 0], .int .i64 Z]) (by rw [results_ct rfl]; go_simp) rfl ⟨rfl, ?_⟩
  iterate 2 refine Below.setCell ?_ (by first | omega | (simp <;> omega)) _
  exact Below.trans (by (repeat' (first | exact Below.refl _ _ | refine below_drewN ?_ _ | refine Below.drew ?_ | refine Below.setCell ?_ (by first | omega | (simp <;> omega)) _ | refine Below.alloc ?_ (by first | omega | (simp <;> omega)) _))) (Below.trans (HB1.out.mono (by first | omega | (simp <;> omega))) (HB2.out.mono (by first | omega | (simp <;> omega))))
end Go.Proofs.YtddhhfhammmaaaaGreat
