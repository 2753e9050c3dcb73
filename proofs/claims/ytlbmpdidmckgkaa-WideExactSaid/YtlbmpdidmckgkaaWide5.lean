/- Walks: when a quotient's size is one more; the law's wakes. -/
import Derived.Test.YtlbmpdidmckgkaaWide4
import Derived.Deep.LoopGhost
set_option linter.unusedVariables false
set_option linter.unusedSimpArgs false
namespace Go.Proofs.Ytlbmpdidmckgkaa
open Go.RowKit Go.Rt

def upR (q r d : Int) : Bool := decide (d - r < r) || (decide (d - r = r) && decide (q % 2 = 1))

set_option maxHeartbeats 1000000 in
theorem upR_any (neg : Bool) (q r d : Int) (w : World) (q0 : 0 ≤ q) (q1 : q < 340282366920938463463374607431768211456) (r0 : 0 ≤ r) (rd : r ≤ d) (d1 : d < 340282366920938463463374607431768211456) :
    Calls Try.prog 49 #[.bool neg, .agg #[.int .u64 (q / 18446744073709551616), .int .u64 (q % 18446744073709551616)], .agg #[.int .u64 (r / 18446744073709551616), .int .u64 (r % 18446744073709551616)], .agg #[.int .u64 (d / 18446744073709551616), .int .u64 (d % 18446744073709551616)]] w fun e w' => e = .returned (.bool (upR q r d)) ∧ Below w.heap.size w w' := by
  have hsub := fun w => Lib.hid (szsub_any (d / 18446744073709551616) (d % 18446744073709551616) (r / 18446744073709551616) (r % 18446744073709551616) w (by omega) (by omega) (by omega) (by omega) (by omega) (by omega) (by omega) (by omega))
  have hless := fun w => Lib.hid (less_any ((d - r) / 18446744073709551616) ((d - r) % 18446744073709551616) (r / 18446744073709551616) (r % 18446744073709551616) w (by omega) (by omega) (by omega) (by omega))
  have v1 : V (d / 18446744073709551616) (d % 18446744073709551616) = d := by unfold V; omega
  have v2 : V (r / 18446744073709551616) (r % 18446744073709551616) = r := by unfold V; omega
  have v3 : V ((d - r) / 18446744073709551616) ((d - r) % 18446744073709551616) = d - r := by unfold V; omega
  have v4 : (d - r) % 340282366920938463463374607431768211456 = d - r := by omega
  rw [v1, v2, v4] at hsub
  rw [v2, v3] at hless
  obtain ⟨D1, hD1⟩ : ∃ y, d / 18446744073709551616 = y := ⟨_, rfl⟩
  obtain ⟨D2, hD2⟩ : ∃ y, d % 18446744073709551616 = y := ⟨_, rfl⟩
  obtain ⟨R1, hR1⟩ : ∃ y, r / 18446744073709551616 = y := ⟨_, rfl⟩
  obtain ⟨R2, hR2⟩ : ∃ y, r % 18446744073709551616 = y := ⟨_, rfl⟩
  obtain ⟨Q1, hQ1⟩ : ∃ y, q / 18446744073709551616 = y := ⟨_, rfl⟩
  obtain ⟨Q2, hQ2⟩ : ∃ y, q % 18446744073709551616 = y := ⟨_, rfl⟩
  obtain ⟨L1, hL1⟩ : ∃ y, (d - r) / 18446744073709551616 = y := ⟨_, rfl⟩
  obtain ⟨L2, hL2⟩ : ∃ y, (d - r) % 18446744073709551616 = y := ⟨_, rfl⟩
  rw [hL1, hL2, hR1, hR2] at hless
  rw [hD1, hD2, hR1, hR2, hL1, hL2] at hsub
  rw [hQ1, hQ2, hR1, hR2, hD1, hD2]
  have hq0 : 0 ≤ Q2 := by omega
  by_cases hA : d - r < r
  · have eu : upR q r d = true := by unfold upR; rw [decide_eq_true hA]; rfl
    rw [eu]
    rw [decide_eq_true hA] at hless
    clear eu hA v1 v2 v3 v4 hD1 hD2 hR1 hR2 hQ1 hQ2 hL1 hL2
    go_enter Try.func49, Try.ntmps49
    go_wp2_with (first | (go_at_call 50; go_loud (refine (hsub _).out.mono ?_; rintro e w1 ⟨rfl, hb⟩; have HB1 := Lib.hid hb; have hs1 := hb.size; (try simp at hs1); have XQ := Box2.below (b := w.heap.size) (v0 := .int .u64 Q1) (v1 := .int .u64 Q2) (by constructor <;> go_simp) hb (by first | omega | (simp <;> omega)); have XR := Box2.below (b := w.heap.size + 1) (v0 := .int .u64 R1) (v1 := .int .u64 R2) (by constructor <;> go_simp) hb (by first | omega | (simp <;> omega)); have HXQ := Lib.hid XQ; have HXR := Lib.hid XR; obtain ⟨qc0, qc1, qf0, qf1⟩ := XQ; obtain ⟨rc0, rc1, rf0, rf1⟩ := XR; have hl0 : w.heap.size < w1.heap.size := (by omega); have hl1 : w.heap.size + 1 < w1.heap.size := (by omega); clear hb)) | (go_at_call 51; go_loud (refine (hless _).out.mono ?_; rintro e w2 ⟨rfl, hb⟩; have HB2 := Lib.hid hb; have hs2 := hb.size; (try simp at hs2); have XL := Box2.below (b := w1.heap.size) (v0 := .int .u64 L1) (v1 := .int .u64 L2) (by constructor <;> go_simp) hb (by first | omega | (simp <;> omega)); have XQ2 := (HXQ.out.below (n := w1.heap.size) (by (repeat' (first | exact Below.refl _ _ | refine Below.drew ?_ | refine Below.setCell ?_ (by first | omega | (simp <;> omega)) _ | refine Below.alloc ?_ (by first | omega | (simp <;> omega)) _))) (by first | omega | (simp <;> omega))).below hb (by first | omega | (simp <;> omega)); have XR2 := (HXR.out.below (n := w1.heap.size) (by (repeat' (first | exact Below.refl _ _ | refine Below.drew ?_ | refine Below.setCell ?_ (by first | omega | (simp <;> omega)) _ | refine Below.alloc ?_ (by first | omega | (simp <;> omega)) _))) (by first | omega | (simp <;> omega))).below hb (by first | omega | (simp <;> omega)); obtain ⟨lc0, lc1, lf0, lf1⟩ := XL; obtain ⟨sc0, sc1, sf0, sf1⟩ := XQ2; obtain ⟨tc0, tc1, tf0, tf1⟩ := XR2; clear hb)))
    go_ret
    exact ⟨rfl, Below.trans (by (repeat' (first | exact Below.refl _ _ | refine Below.drew ?_ | refine Below.setCell ?_ (by first | omega | (simp <;> omega)) _ | refine Below.alloc ?_ (by first | omega | (simp <;> omega)) _))) (Below.trans (HB1.out.mono (by first | omega | (simp <;> omega))) (Below.trans (by (repeat' (first | exact Below.refl _ _ | refine Below.drew ?_ | refine Below.setCell ?_ (by first | omega | (simp <;> omega)) _ | refine Below.alloc ?_ (by first | omega | (simp <;> omega)) _))) (HB2.out.mono (by first | omega | (simp <;> omega)))))⟩
  · rw [decide_eq_false hA] at hless
    by_cases hE : d - r = r
    · have e1 : L1 = R1 := by omega
      have e2 : L2 = R2 := by omega
      by_cases hO : q % 2 = 1
      · have eu : upR q r d = true := by unfold upR; rw [decide_eq_false hA, decide_eq_true hE, decide_eq_true hO]; rfl
        have e3 : Q2 % 2 = 1 := by omega
        have e4 : (Q2 % 2 == 1) = true := by simp; exact e3
        rw [eu]
        clear eu hA hE hO v1 v2 v3 v4 hD1 hD2 hR1 hR2 hQ1 hQ2 hL1 hL2
        subst e1; subst e2
        go_enter Try.func49, Try.ntmps49
        go_wp2_with (first | (go_at_call 50; go_loud (refine (hsub _).out.mono ?_; rintro e w1 ⟨rfl, hb⟩; have HB1 := Lib.hid hb; have hs1 := hb.size; (try simp at hs1); have XQ := Box2.below (b := w.heap.size) (v0 := .int .u64 Q1) (v1 := .int .u64 Q2) (by constructor <;> go_simp) hb (by first | omega | (simp <;> omega)); have XR := Box2.below (b := w.heap.size + 1) (v0 := .int .u64 L1) (v1 := .int .u64 L2) (by constructor <;> go_simp) hb (by first | omega | (simp <;> omega)); have HXQ := Lib.hid XQ; have HXR := Lib.hid XR; obtain ⟨qc0, qc1, qf0, qf1⟩ := XQ; obtain ⟨rc0, rc1, rf0, rf1⟩ := XR; have hl0 : w.heap.size < w1.heap.size := (by omega); have hl1 : w.heap.size + 1 < w1.heap.size := (by omega); clear hb)) | (go_at_call 51; go_loud (refine (hless _).out.mono ?_; rintro e w2 ⟨rfl, hb⟩; have HB2 := Lib.hid hb; have hs2 := hb.size; (try simp at hs2); have XL := Box2.below (b := w1.heap.size) (v0 := .int .u64 L1) (v1 := .int .u64 L2) (by constructor <;> go_simp) hb (by first | omega | (simp <;> omega)); have XQ2 := (HXQ.out.below (n := w1.heap.size) (by (repeat' (first | exact Below.refl _ _ | refine Below.drew ?_ | refine Below.setCell ?_ (by first | omega | (simp <;> omega)) _ | refine Below.alloc ?_ (by first | omega | (simp <;> omega)) _))) (by first | omega | (simp <;> omega))).below hb (by first | omega | (simp <;> omega)); have XR2 := (HXR.out.below (n := w1.heap.size) (by (repeat' (first | exact Below.refl _ _ | refine Below.drew ?_ | refine Below.setCell ?_ (by first | omega | (simp <;> omega)) _ | refine Below.alloc ?_ (by first | omega | (simp <;> omega)) _))) (by first | omega | (simp <;> omega))).below hb (by first | omega | (simp <;> omega)); obtain ⟨lc0, lc1, lf0, lf1⟩ := XL; obtain ⟨sc0, sc1, sf0, sf1⟩ := XQ2; obtain ⟨tc0, tc1, tf0, tf1⟩ := XR2; clear hb)))
        go_ret
        exact ⟨rfl, Below.trans (by (repeat' (first | exact Below.refl _ _ | refine Below.drew ?_ | refine Below.setCell ?_ (by first | omega | (simp <;> omega)) _ | refine Below.alloc ?_ (by first | omega | (simp <;> omega)) _))) (Below.trans (HB1.out.mono (by first | omega | (simp <;> omega))) (Below.trans (by (repeat' (first | exact Below.refl _ _ | refine Below.drew ?_ | refine Below.setCell ?_ (by first | omega | (simp <;> omega)) _ | refine Below.alloc ?_ (by first | omega | (simp <;> omega)) _))) (HB2.out.mono (by first | omega | (simp <;> omega)))))⟩
      · have eu : upR q r d = false := by unfold upR; rw [decide_eq_false hA, decide_eq_true hE, decide_eq_false hO]; rfl
        have e3 : ¬ Q2 % 2 = 1 := by omega
        have e4 : (Q2 % 2 == 1) = false := by simp; omega
        rw [eu]
        clear eu hA hE hO v1 v2 v3 v4 hD1 hD2 hR1 hR2 hQ1 hQ2 hL1 hL2
        subst e1; subst e2
        go_enter Try.func49, Try.ntmps49
        go_wp2_with (first | (go_at_call 50; go_loud (refine (hsub _).out.mono ?_; rintro e w1 ⟨rfl, hb⟩; have HB1 := Lib.hid hb; have hs1 := hb.size; (try simp at hs1); have XQ := Box2.below (b := w.heap.size) (v0 := .int .u64 Q1) (v1 := .int .u64 Q2) (by constructor <;> go_simp) hb (by first | omega | (simp <;> omega)); have XR := Box2.below (b := w.heap.size + 1) (v0 := .int .u64 L1) (v1 := .int .u64 L2) (by constructor <;> go_simp) hb (by first | omega | (simp <;> omega)); have HXQ := Lib.hid XQ; have HXR := Lib.hid XR; obtain ⟨qc0, qc1, qf0, qf1⟩ := XQ; obtain ⟨rc0, rc1, rf0, rf1⟩ := XR; have hl0 : w.heap.size < w1.heap.size := (by omega); have hl1 : w.heap.size + 1 < w1.heap.size := (by omega); clear hb)) | (go_at_call 51; go_loud (refine (hless _).out.mono ?_; rintro e w2 ⟨rfl, hb⟩; have HB2 := Lib.hid hb; have hs2 := hb.size; (try simp at hs2); have XL := Box2.below (b := w1.heap.size) (v0 := .int .u64 L1) (v1 := .int .u64 L2) (by constructor <;> go_simp) hb (by first | omega | (simp <;> omega)); have XQ2 := (HXQ.out.below (n := w1.heap.size) (by (repeat' (first | exact Below.refl _ _ | refine Below.drew ?_ | refine Below.setCell ?_ (by first | omega | (simp <;> omega)) _ | refine Below.alloc ?_ (by first | omega | (simp <;> omega)) _))) (by first | omega | (simp <;> omega))).below hb (by first | omega | (simp <;> omega)); have XR2 := (HXR.out.below (n := w1.heap.size) (by (repeat' (first | exact Below.refl _ _ | refine Below.drew ?_ | refine Below.setCell ?_ (by first | omega | (simp <;> omega)) _ | refine Below.alloc ?_ (by first | omega | (simp <;> omega)) _))) (by first | omega | (simp <;> omega))).below hb (by first | omega | (simp <;> omega)); obtain ⟨lc0, lc1, lf0, lf1⟩ := XL; obtain ⟨sc0, sc1, sf0, sf1⟩ := XQ2; obtain ⟨tc0, tc1, tf0, tf1⟩ := XR2; clear hb)))
        go_ret
        exact ⟨rfl, Below.trans (by (repeat' (first | exact Below.refl _ _ | refine Below.drew ?_ | refine Below.setCell ?_ (by first | omega | (simp <;> omega)) _ | refine Below.alloc ?_ (by first | omega | (simp <;> omega)) _))) (Below.trans (HB1.out.mono (by first | omega | (simp <;> omega))) (Below.trans (by (repeat' (first | exact Below.refl _ _ | refine Below.drew ?_ | refine Below.setCell ?_ (by first | omega | (simp <;> omega)) _ | refine Below.alloc ?_ (by first | omega | (simp <;> omega)) _))) (HB2.out.mono (by first | omega | (simp <;> omega)))))⟩
    · have eu : upR q r d = false := by unfold upR; rw [decide_eq_false hA, decide_eq_false hE]; rfl
      rw [eu]
      by_cases e1 : L1 = R1
      · have e2 : ¬ L2 = R2 := by omega
        have e3 : (L2 == R2) = false := by simp; exact e2
        clear eu hA hE v1 v2 v3 v4 hD1 hD2 hR1 hR2 hQ1 hQ2 hL1 hL2
        subst e1
        go_enter Try.func49, Try.ntmps49
        go_wp2_with (first | (go_at_call 50; go_loud (refine (hsub _).out.mono ?_; rintro e w1 ⟨rfl, hb⟩; have HB1 := Lib.hid hb; have hs1 := hb.size; (try simp at hs1); have XQ := Box2.below (b := w.heap.size) (v0 := .int .u64 Q1) (v1 := .int .u64 Q2) (by constructor <;> go_simp) hb (by first | omega | (simp <;> omega)); have XR := Box2.below (b := w.heap.size + 1) (v0 := .int .u64 L1) (v1 := .int .u64 R2) (by constructor <;> go_simp) hb (by first | omega | (simp <;> omega)); have HXQ := Lib.hid XQ; have HXR := Lib.hid XR; obtain ⟨qc0, qc1, qf0, qf1⟩ := XQ; obtain ⟨rc0, rc1, rf0, rf1⟩ := XR; have hl0 : w.heap.size < w1.heap.size := (by omega); have hl1 : w.heap.size + 1 < w1.heap.size := (by omega); clear hb)) | (go_at_call 51; go_loud (refine (hless _).out.mono ?_; rintro e w2 ⟨rfl, hb⟩; have HB2 := Lib.hid hb; have hs2 := hb.size; (try simp at hs2); have XL := Box2.below (b := w1.heap.size) (v0 := .int .u64 L1) (v1 := .int .u64 L2) (by constructor <;> go_simp) hb (by first | omega | (simp <;> omega)); have XQ2 := (HXQ.out.below (n := w1.heap.size) (by (repeat' (first | exact Below.refl _ _ | refine Below.drew ?_ | refine Below.setCell ?_ (by first | omega | (simp <;> omega)) _ | refine Below.alloc ?_ (by first | omega | (simp <;> omega)) _))) (by first | omega | (simp <;> omega))).below hb (by first | omega | (simp <;> omega)); have XR2 := (HXR.out.below (n := w1.heap.size) (by (repeat' (first | exact Below.refl _ _ | refine Below.drew ?_ | refine Below.setCell ?_ (by first | omega | (simp <;> omega)) _ | refine Below.alloc ?_ (by first | omega | (simp <;> omega)) _))) (by first | omega | (simp <;> omega))).below hb (by first | omega | (simp <;> omega)); obtain ⟨lc0, lc1, lf0, lf1⟩ := XL; obtain ⟨sc0, sc1, sf0, sf1⟩ := XQ2; obtain ⟨tc0, tc1, tf0, tf1⟩ := XR2; clear hb)))
        go_ret
        exact ⟨rfl, Below.trans (by (repeat' (first | exact Below.refl _ _ | refine Below.drew ?_ | refine Below.setCell ?_ (by first | omega | (simp <;> omega)) _ | refine Below.alloc ?_ (by first | omega | (simp <;> omega)) _))) (Below.trans (HB1.out.mono (by first | omega | (simp <;> omega))) (Below.trans (by (repeat' (first | exact Below.refl _ _ | refine Below.drew ?_ | refine Below.setCell ?_ (by first | omega | (simp <;> omega)) _ | refine Below.alloc ?_ (by first | omega | (simp <;> omega)) _))) (HB2.out.mono (by first | omega | (simp <;> omega)))))⟩
      · have e3 : (L1 == R1) = false := by simp; exact e1
        clear eu hA hE v1 v2 v3 v4 hD1 hD2 hR1 hR2 hQ1 hQ2 hL1 hL2
        go_enter Try.func49, Try.ntmps49
        go_wp2_with (first | (go_at_call 50; go_loud (refine (hsub _).out.mono ?_; rintro e w1 ⟨rfl, hb⟩; have HB1 := Lib.hid hb; have hs1 := hb.size; (try simp at hs1); have XQ := Box2.below (b := w.heap.size) (v0 := .int .u64 Q1) (v1 := .int .u64 Q2) (by constructor <;> go_simp) hb (by first | omega | (simp <;> omega)); have XR := Box2.below (b := w.heap.size + 1) (v0 := .int .u64 R1) (v1 := .int .u64 R2) (by constructor <;> go_simp) hb (by first | omega | (simp <;> omega)); have HXQ := Lib.hid XQ; have HXR := Lib.hid XR; obtain ⟨qc0, qc1, qf0, qf1⟩ := XQ; obtain ⟨rc0, rc1, rf0, rf1⟩ := XR; have hl0 : w.heap.size < w1.heap.size := (by omega); have hl1 : w.heap.size + 1 < w1.heap.size := (by omega); clear hb)) | (go_at_call 51; go_loud (refine (hless _).out.mono ?_; rintro e w2 ⟨rfl, hb⟩; have HB2 := Lib.hid hb; have hs2 := hb.size; (try simp at hs2); have XL := Box2.below (b := w1.heap.size) (v0 := .int .u64 L1) (v1 := .int .u64 L2) (by constructor <;> go_simp) hb (by first | omega | (simp <;> omega)); have XQ2 := (HXQ.out.below (n := w1.heap.size) (by (repeat' (first | exact Below.refl _ _ | refine Below.drew ?_ | refine Below.setCell ?_ (by first | omega | (simp <;> omega)) _ | refine Below.alloc ?_ (by first | omega | (simp <;> omega)) _))) (by first | omega | (simp <;> omega))).below hb (by first | omega | (simp <;> omega)); have XR2 := (HXR.out.below (n := w1.heap.size) (by (repeat' (first | exact Below.refl _ _ | refine Below.drew ?_ | refine Below.setCell ?_ (by first | omega | (simp <;> omega)) _ | refine Below.alloc ?_ (by first | omega | (simp <;> omega)) _))) (by first | omega | (simp <;> omega))).below hb (by first | omega | (simp <;> omega)); obtain ⟨lc0, lc1, lf0, lf1⟩ := XL; obtain ⟨sc0, sc1, sf0, sf1⟩ := XQ2; obtain ⟨tc0, tc1, tf0, tf1⟩ := XR2; clear hb)))
        go_ret
        exact ⟨rfl, Below.trans (by (repeat' (first | exact Below.refl _ _ | refine Below.drew ?_ | refine Below.setCell ?_ (by first | omega | (simp <;> omega)) _ | refine Below.alloc ?_ (by first | omega | (simp <;> omega)) _))) (Below.trans (HB1.out.mono (by first | omega | (simp <;> omega))) (Below.trans (by (repeat' (first | exact Below.refl _ _ | refine Below.drew ?_ | refine Below.setCell ?_ (by first | omega | (simp <;> omega)) _ | refine Below.alloc ?_ (by first | omega | (simp <;> omega)) _))) (HB2.out.mono (by first | omega | (simp <;> omega)))))⟩
end Go.Proofs.Ytlbmpdidmckgkaa
