/- Negatives of wide numbers; claims on a region's values; what a rounded quotient of two words may be. -/
import Derived.Test.YtlbmpdidmckgkaaHalvesP
import Derived.Test.YtlbmpdidmckgkaaParts
import Derived.Test.YtlbmpdidmckgkaaN16
import Derived.WalkMore
set_option linter.unusedVariables false
set_option linter.unusedSimpArgs false
namespace Go.Proofs.Ytlbmpdidmckgkaa
open Go.RowKit Go.Rt

theorem neg_wrap (h l H L Z : Int) (w : World) (hov : ∀ w, Calls Try.prog 28 #[.agg #[.int .i64 0, .int .u64 0], .agg #[.int .i64 h, .int .u64 l]] w (RetWE w H L Z)) :
    Calls Try.prog 27 #[.agg #[.int .i64 h, .int .u64 l]] w (RetWE w H L Z) := by
  have hov2 := fun w => Lib.hid (hov w)
  clear hov
  go_enter Try.func27, Try.ntmps27
  go_wp2_with (first
    | (go_at_call 28; go_loud (refine (hov2 _).out.mono ?_; rintro e w1 ⟨rfl, hb⟩; have HB1 := Lib.hid hb; have hs1 := hb.size; (try simp at hs1); have X := Box2.below (b := w.heap.size + 1) (v0 := .int .i64 0) (v1 := .int .u64 0) (by constructor <;> go_simp) hb (by first | omega | (simp <;> omega)); obtain ⟨xc0, xc1, xf0, xf1⟩ := X; clear hb)))
  (try simp only [Exit.noGoto, Exit.inBlock, Exit.then])
  refine bodyPost_ret (v := .tuple #[.agg #[.int .i64 H, .int .u64 L], .int .i64 Z]) (by rw [results_ct rfl]; go_simp) rfl ⟨rfl, ?_⟩
  iterate 2 refine Below.setCell ?_ (by first | omega | (simp <;> omega)) _
  exact Below.trans (by (repeat' (first | exact Below.refl _ _ | refine Below.drew ?_ | refine Below.setCell ?_ (by first | omega | (simp <;> omega)) _ | refine Below.alloc ?_ (by first | omega | (simp <;> omega)) _))) (HB1.out.mono (by first | omega | (simp <;> omega)))
theorem V00 : V 0 0 = 0 := rfl
theorem WR00 : WR 0 0 := ⟨by decide, by decide, by decide, by decide⟩
theorem neg_in (h l : Int) (w : World) (a : WR h l) (hin : inR (-V h l)) : Calls Try.prog 27 #[.agg #[.int .i64 h, .int .u64 l]] w (RetWE w (-V h l / 18446744073709551616) (-V h l % 18446744073709551616) 0) :=
  neg_wrap h l _ _ _ w fun w => by
    have := sub_in 0 0 h l w WR00 a (by rw [V00, Int.zero_sub]; exact hin)
    rw [V00, Int.zero_sub] at this
    exact this
theorem neg_out (h l : Int) (w : World) (a : WR h l) (hin : ¬ inR (-V h l)) : Calls Try.prog 27 #[.agg #[.int .i64 h, .int .u64 l]] w (RetWE w 0 0 3) :=
  neg_wrap h l _ _ _ w fun w => sub_out 0 0 h l w WR00 a (by rw [V00, Int.zero_sub]; exact hin)

/-- Claims on values. -/
def IsZ (z : Int) (u : Value) (w : World) : Prop := ∃ a c, u = .agg #[.bool (decide (z < 0)), .slice a (dig 18446744073709551616 z.natAbs).length c] ∧ NAt w w.heap.size a c z.natAbs
theorem isZ_carries (z : Int) : Carries (IsZ z) := fun _ _ _ ⟨a, c, h, hN⟩ hb => ⟨a, c, h, hN.next hb⟩
def IsBox (W : World) (v0 v1 : Value) (u : Value) (w : World) : Prop := ∃ b, u = .pointer (some ⟨b, 0, none⟩) ∧ W.heap.size ≤ b ∧ b < w.heap.size ∧ NBox2 w b v0 v1
theorem isBox_carries (W : World) (v0 v1 : Value) : Carries (IsBox W v0 v1) := fun _ _ _ ⟨b, h, h1, h2, h3⟩ hb => ⟨b, h, h1, Nat.lt_of_lt_of_le h2 hb.size, h3.below hb h2⟩

theorem downR (N D : Int) (h0 : 0 ≤ N) (h1 : 2 ≤ D) : 2 * (N / D) ≤ N := by
  have h2 := Int.mul_ediv_add_emod N D
  have h3 := Int.emod_nonneg N (show D ≠ 0 by omega)
  have h4 : 0 ≤ N / D := Int.ediv_nonneg h0 (by omega)
  have h5 := Int.mul_le_mul_of_nonneg_right h1 h4
  omega
/-- A rounded quotient of two words is a word, but for the least by -1. -/
theorem halves_range (x y : Int) (x0 : -9223372036854775808 ≤ x) (x1 : x ≤ 9223372036854775807) (hy : y ≠ 0) :
    (-9223372036854775808 ≤ roundI x y ∧ roundI x y ≤ 9223372036854775807) ∨ (x = -9223372036854775808 ∧ y = -1 ∧ roundI x y = 9223372036854775808) := by
  have hD := absI_pos hy
  have hN := absI_nn x
  have hNb : absI x ≤ 9223372036854775808 := by unfold absI; split <;> omega
  by_cases h1 : absI y = 1
  · have e1 : absI x / 1 = absI x := Int.ediv_one _
    have e2 : absI x % 1 = 0 := Int.emod_one _
    have eu : upR (absI x) 0 1 = false := by unfold upR; simp
    have hR : roundI x y = if (decide (x < 0) != decide (y < 0)) = true then -absI x else absI x := by
      unfold roundI
      rw [h1, e1, e2, eu]
      simp
    by_cases hx : x < 0
    · by_cases hyn : y < 0
      · have ey : y = -1 := by unfold absI at h1; rw [if_pos hyn] at h1; omega
        rw [decide_eq_true hx, decide_eq_true hyn, if_neg (by decide)] at hR
        have ex : absI x = -x := by unfold absI; rw [if_pos hx]
        by_cases hm : x = -9223372036854775808
        · exact .inr ⟨hm, ey, by rw [hR, ex]; omega⟩
        · exact .inl (by rw [hR, ex]; omega)
      · rw [decide_eq_true hx, decide_eq_false hyn, if_pos (by decide)] at hR
        exact .inl (by rw [hR]; omega)
    · have ex : absI x = x := by unfold absI; rw [if_neg hx]
      exact .inl (by rw [hR, ex]; split <;> omega)
  · have hq := downR (absI x) (absI y) hN (by omega)
    have hq0 : 0 ≤ absI x / absI y := Int.ediv_nonneg hN (by omega)
    refine .inl ?_
    unfold roundI
    generalize absI x / absI y = q at *
    split <;> split <;> omega
theorem inR_word {s : Int} (h : -9223372036854775808 ≤ s ∧ s ≤ 9223372036854775808) : inR s := ⟨by omega, by omega⟩
/-- What Round tells of two words. -/
theorem round_words (x y FH FL GH GL K : Int) (w : World) (x0 : -9223372036854775808 ≤ x) (x1 : x ≤ 9223372036854775807) (y0 : -9223372036854775808 ≤ y) (y1 : y ≤ 9223372036854775807) (hy : y ≠ 0)
    (hF : WR FH FL) (hFV : V FH FL = x) (hG : WR GH GL) (hGV : V GH GL = y) (hK : roundI x y = K) (hKR : inR K) :
    Calls Try.prog 14 #[.agg #[.int .i64 FH, .int .u64 FL], .agg #[.int .i64 GH, .int .u64 GL]] w (RetWE w (K / 18446744073709551616) (K % 18446744073709551616) 0) := by
  have hz : ¬ (GH = 0 ∧ GL = 0) := by rintro ⟨e1, e2⟩; rw [e1, e2] at hGV; exact hy (hGV.symm.trans V00)
  have eA : A FH FL = absI x := by unfold A absI; rw [hFV]
  have eB : A GH GL = absI y := by unfold A absI; rw [hGV]
  have b1 := absI_pos hy
  have b2 := absI_nn x
  have b3 : absI x ≤ 9223372036854775808 := by unfold absI; split <;> omega
  have b4 : absI y ≤ 9223372036854775808 := by unfold absI; split <;> omega
  have := (round_of FH FL GH GL w hF hG hz (fun w => by rw [eA, eB]; exact divide_lo _ _ w b2 (by omega) b1 (by omega))).1
  rw [hFV, hGV, hK] at this
  exact this hKR
theorem absI_natAbs (s : Int) : absI s = (s.natAbs : Int) := by unfold absI; split <;> omega
/-- The law of WideHalves, in plain numbers: c is the order of twice the distance and of the divisor's size. -/
theorem halves_law (x y : Int) (hy : y ≠ 0) : sgnI (2 * ((x - roundI x y * y).natAbs : Int) - (y.natAbs : Int)) = -1 ∨ (sgnI (2 * ((x - roundI x y * y).natAbs : Int) - (y.natAbs : Int)) = 0 ∧ roundI x y % 2 = 0) := by
  have h := round_half x y hy
  rw [absI_natAbs, absI_natAbs] at h
  unfold sgnI
  by_cases h1 : 2 * ((x - roundI x y * y).natAbs : Int) - (y.natAbs : Int) < 0
  · exact .inl (if_pos h1)
  · refine .inr ⟨?_, h.2 (by omega)⟩
    rw [if_neg h1, if_pos (by omega)]
theorem dig_small {m : Nat} (h : m < 18446744073709551616 ^ 1000) : (dig 18446744073709551616 m).length ≤ 1000000 := Nat.le_trans (dig_len_le (by decide) 1000 m h) (by decide)
theorem dig_word {z : Int} (h : -340282366920938463463374607431768211456 ≤ z ∧ z ≤ 340282366920938463463374607431768211456) : (dig 18446744073709551616 z.natAbs).length ≤ 1000000 :=
  Nat.le_trans (dig_len_le (by decide) 3 _ (by have : z.natAbs < 18446744073709551616 ^ 3 := by rw [show (18446744073709551616 : Nat) ^ 3 = 6277101735386680763835789423207666416102355444464034512896 by decide]; omega
                                               exact this)) (by decide)
end Go.Proofs.Ytlbmpdidmckgkaa
