/- Walks: small quotients; the law's wakes. -/
import Derived.Test.YtlbmpdidmckgkaaWide5
import Derived.WalkMore
set_option linter.unusedVariables false
set_option linter.unusedSimpArgs false
namespace Go.Proofs.Ytlbmpdidmckgkaa
open Go.RowKit Go.Rt

set_option maxHeartbeats 1000000 in
theorem divide_small (a b : Int) (w : World) (a0 : 0 ≤ a) (a1 : a ≤ 18446744073709551615) (b0 : 1 ≤ b) (b1 : b ≤ 18446744073709551615) :
    Calls Try.prog 67 #[.agg #[.int .u64 0, .int .u64 a], .agg #[.int .u64 0, .int .u64 b]] w fun e w' => e = .returned (.tuple #[.agg #[.int .u64 0, .int .u64 (a / b)], .agg #[.int .u64 0, .int .u64 (a % b)]]) ∧ Below w.heap.size w w' := by
  have hd1 : ∀ w, Hid (Calls Try.prog 78 #[.int .u64 0, .int .u64 0, .int .u64 b] w fun e w' => e = .returned (.tuple #[.int .u64 0, .int .u64 0]) ∧ Below w.heap.size w w') := fun w => Lib.hid (by have := div0_any 0 b w (by omega) (by omega) b0 b1; rwa [Int.zero_ediv, Int.zero_emod] at this)
  have hd2 := fun w => Lib.hid (div0_any a b w a0 a1 b0 b1)
  obtain ⟨Q, hQ⟩ : ∃ y, a / b = y := ⟨_, rfl⟩
  obtain ⟨R, hR⟩ : ∃ y, a % b = y := ⟨_, rfl⟩
  rw [hQ, hR] at hd2
  rw [hQ, hR]
  clear hQ hR
  go_enter Try.func67, Try.ntmps67
  go_wp2
  go_step3
  go_wp2_with (first
    | (go_at_call_has 78 (Value.int IntKind.u64 a); go_loud (refine (hd2 _).out.mono ?_; rintro e w2 ⟨rfl, hb⟩; have HB2 := Lib.hid hb; have hs2 := hb.size; (try simp at hs2); have Y0 := Box2.below (b := w.heap.size) (v0 := (.int .u64 0)) (v1 := (.int .u64 a)) (by constructor <;> go_simp) hb (by first | omega | (simp <;> omega)); obtain ⟨mc0, mc1, mf0, mf1⟩ := Y0; have Y1 := Box2.below (b := w.heap.size + 1) (v0 := (.int .u64 0)) (v1 := (.int .u64 b)) (by constructor <;> go_simp) hb (by first | omega | (simp <;> omega)); obtain ⟨nc0, nc1, nf0, nf1⟩ := Y1; have Y2 := Box2.below (b := w.heap.size + 1 + 1) (v0 := (.int .u64 0)) (v1 := (.int .u64 0)) (by constructor <;> go_simp) hb (by first | omega | (simp <;> omega)); obtain ⟨pc0, pc1, pf0, pf1⟩ := Y2; have Y3 := Box2.below (b := w.heap.size + 1 + 1 + 1) (v0 := (.int .u64 0)) (v1 := (.int .u64 0)) (by constructor <;> go_simp) hb (by first | omega | (simp <;> omega)); obtain ⟨qc0, qc1, qf0, qf1⟩ := Y3; clear hb))
    | (go_at_call 78; go_loud (refine (hd1 _).out.mono ?_; rintro e w1 ⟨rfl, hb⟩; have HB1 := Lib.hid hb; have hs1 := hb.size; (try simp at hs1); have X0 := Box2.below (b := w.heap.size) (v0 := (.int .u64 0)) (v1 := (.int .u64 a)) (by constructor <;> go_simp) hb (by first | omega | (simp <;> omega)); have HX0 := Lib.hid X0; obtain ⟨ac0, ac1, af0, af1⟩ := X0; have X1 := Box2.below (b := w.heap.size + 1) (v0 := (.int .u64 0)) (v1 := (.int .u64 b)) (by constructor <;> go_simp) hb (by first | omega | (simp <;> omega)); have HX1 := Lib.hid X1; obtain ⟨bc0, bc1, bf0, bf1⟩ := X1; have X2 := Box2.below (b := w.heap.size + 1 + 1) (v0 := (.int .u64 0)) (v1 := (.int .u64 0)) (by constructor <;> go_simp) hb (by first | omega | (simp <;> omega)); have HX2 := Lib.hid X2; obtain ⟨cc0, cc1, cf0, cf1⟩ := X2; have X3 := Box2.below (b := w.heap.size + 1 + 1 + 1) (v0 := (.int .u64 0)) (v1 := (.int .u64 0)) (by constructor <;> go_simp) hb (by first | omega | (simp <;> omega)); have HX3 := Lib.hid X3; obtain ⟨dc0, dc1, df0, df1⟩ := X3; clear hb)))
  (try simp only [Exit.noGoto, Exit.inBlock, Exit.then])
  refine bodyPost_ret (v := .tuple #[.agg #[.int .u64 0, .int .u64 Q], .agg #[.int .u64 0, .int .u64 R]]) (by rw [results_cc rfl]; go_simp) rfl ⟨rfl, ?_⟩
  iterate 5 refine Below.setCell ?_ (by first | omega | (simp <;> omega)) _
  exact Below.trans (by (repeat' (first | exact Below.refl _ _ | refine Below.drew ?_ | refine Below.setCell ?_ (by first | omega | (simp <;> omega)) _ | refine Below.alloc ?_ (by first | omega | (simp <;> omega)) _))) (Below.trans (HB1.out.mono (by first | omega | (simp <;> omega))) (Below.trans (by (repeat' (first | exact Below.refl _ _ | refine Below.drew ?_ | refine Below.setCell ?_ (by first | omega | (simp <;> omega)) _ | refine Below.alloc ?_ (by first | omega | (simp <;> omega)) _))) (HB2.out.mono (by first | omega | (simp <;> omega)))))

theorem round72 (w : World) : Calls Try.prog 14 #[.agg #[.int .i64 0, .int .u64 7], .agg #[.int .i64 0, .int .u64 2]] w (RetWE w 0 4 0) := by
  have e7 : A 0 7 = 7 := by decide
  have e2 : A 0 2 = 2 := by decide
  have d7 : (7 : Int) / 18446744073709551616 = 0 ∧ (7 : Int) % 18446744073709551616 = 7 := by decide
  have d2 : (2 : Int) / 18446744073709551616 = 0 ∧ (2 : Int) % 18446744073709551616 = 2 := by decide
  have d3 : (3 : Int) / 18446744073709551616 = 0 ∧ (3 : Int) % 18446744073709551616 = 3 := by decide
  have d1 : (1 : Int) / 18446744073709551616 = 0 ∧ (1 : Int) % 18446744073709551616 = 1 := by decide
  have d4 : (4 : Int) / 18446744073709551616 = 0 ∧ (4 : Int) % 18446744073709551616 = 4 := by decide
  have hdiv : ∀ w, Calls Try.prog 67 #[.agg #[.int .u64 (A 0 7 / 18446744073709551616), .int .u64 (A 0 7 % 18446744073709551616)], .agg #[.int .u64 (A 0 2 / 18446744073709551616), .int .u64 (A 0 2 % 18446744073709551616)]] w fun e w' => e = .returned (.tuple #[.agg #[.int .u64 ((3 : Int) / 18446744073709551616), .int .u64 ((3 : Int) % 18446744073709551616)], .agg #[.int .u64 ((1 : Int) / 18446744073709551616), .int .u64 ((1 : Int) % 18446744073709551616)]]) ∧ Below w.heap.size w w' := by
    intro w
    rw [e7, e2, d7.1, d7.2, d2.1, d2.2, d3.1, d3.2, d1.1, d1.2]
    exact divide_small 7 2 w (by decide) (by decide) (by decide) (by decide)
  have hup : ∀ w, Calls Try.prog 49 #[.bool (decide ((0 : Int) < 0) != decide ((0 : Int) < 0)), .agg #[.int .u64 ((3 : Int) / 18446744073709551616), .int .u64 ((3 : Int) % 18446744073709551616)], .agg #[.int .u64 ((1 : Int) / 18446744073709551616), .int .u64 ((1 : Int) % 18446744073709551616)], .agg #[.int .u64 (A 0 2 / 18446744073709551616), .int .u64 (A 0 2 % 18446744073709551616)]] w fun e w' => e = .returned (.bool true) ∧ Below w.heap.size w w' := by
    intro w
    rw [e2]
    exact upR_any _ 3 1 2 w (by decide) (by decide) (by decide) (by decide) (by decide)
  have ht : ∀ w, Calls Try.prog 60 #[.bool (decide ((0 : Int) < 0) != decide ((0 : Int) < 0)), .agg #[.int .u64 (((if true = true then (3 : Int) + 1 else 3) % 340282366920938463463374607431768211456) / 18446744073709551616), .int .u64 (((if true = true then (3 : Int) + 1 else 3) % 340282366920938463463374607431768211456) % 18446744073709551616)]] w (RetWE w 0 4 0) := by
    intro w
    have := told_in false 4 w (by decide) (by decide)
    have e4 : (if true = true then (3 : Int) + 1 else 3) % 340282366920938463463374607431768211456 = 4 := by decide
    rw [e4]
    simp only [Bool.false_eq_true, if_false, d4.1, d4.2] at this ⊢
    exact this
  have hov := fun w => Lib.hid (over_round 0 7 0 2 3 1 true 0 4 0 w ⟨by decide, by decide, by decide, by decide⟩ ⟨by decide, by decide, by decide, by decide⟩ (by decide) (by decide) (by decide) hdiv hup ht)
  clear hdiv hup ht
  go_enter Try.func14, Try.ntmps14
  go_wp2_with (first
    | (go_at_call 48; go_loud (refine (hov _).out.mono ?_; rintro e w1 ⟨rfl, hb⟩; have HB1 := Lib.hid hb; have hs1 := hb.size; (try simp at hs1); have X := Box2.below (b := w.heap.size + 1 + 1) (v0 := .int .i64 0) (v1 := .int .u64 0) (by constructor <;> go_simp) hb (by first | omega | (simp <;> omega)); obtain ⟨xc0, xc1, xf0, xf1⟩ := X; clear hb)))
  (try simp only [Exit.noGoto, Exit.inBlock, Exit.then])
  refine bodyPost_ret (v := .tuple #[.agg #[.int .i64 0, .int .u64 4], .int .i64 0]) (by rw [results_ct rfl]; go_simp) rfl ⟨rfl, ?_⟩
  iterate 2 refine Below.setCell ?_ (by first | omega | (simp <;> omega)) _
  exact Below.trans (by (repeat' (first | exact Below.refl _ _ | refine Below.drew ?_ | refine Below.setCell ?_ (by first | omega | (simp <;> omega)) _ | refine Below.alloc ?_ (by first | omega | (simp <;> omega)) _))) (HB1.out.mono (by first | omega | (simp <;> omega)))

theorem wakes1_any (w : World) : Calls Try.prog 17 #[] w fun e w' => e = .returned (.bool true) ∧ Below w.heap.size w w' := by
  go_enter Try.func17, Try.ntmps17
  go_wp2_with (first
    | (go_at_call_has 18 (Value.int IntKind.i64 7); refine (from_any 7 _ (by omega) (by omega)).mono ?_; rintro e w1 ⟨rfl, hb⟩; have HB := Lib.hid hb; clear hb)
    | (go_at_call_has 18 (Value.int IntKind.i64 2); refine (from_any 2 _ (by omega) (by omega)).mono ?_; rintro e w2 ⟨rfl, hb⟩; have HB2 := Lib.hid hb; clear hb)
    | (go_at_call 14; refine (round72 _).mono ?_; rintro e w3 ⟨rfl, hb⟩; have HB3 := Lib.hid hb; clear hb)
    | (go_at_call 20; refine (num1_any _ _).mono ?_; rintro e w' ⟨rfl, rfl⟩))
  go_ret
  exact ⟨rfl, Below.trans (HB.out.mono (by first | omega | (simp <;> omega))) (Below.trans (HB2.out.mono HB.out.size) (Below.trans (HB3.out.mono (Nat.le_trans HB.out.size HB2.out.size)) (Below.alloc (Below.refl _ _) (Nat.le_trans HB.out.size (Nat.le_trans HB2.out.size HB3.out.size)) _)))⟩
end Go.Proofs.Ytlbmpdidmckgkaa
