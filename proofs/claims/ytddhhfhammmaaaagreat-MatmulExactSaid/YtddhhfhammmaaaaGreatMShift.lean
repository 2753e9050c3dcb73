/- Walks: wide numbers over powers of 2, rounded; words. -/
import Derived.Test.YtddhhfhammmaaaaGreatMWide
import Derived.BigRegion
import Derived.Deep.Cut
set_option linter.unusedVariables false
set_option linter.unusedSimpArgs false
namespace Go.Proofs.YtddhhfhammmaaaaGreat
open Go.RowKit Go.Rt

/-- The quotient, to the nearest, of two to the even one. -/
def roundI (n d : Int) : Int :=
  if (decide (n < 0) != decide (d < 0)) = true then -(if upR (absI n / absI d) (absI n % absI d) (absI d) = true then absI n / absI d + 1 else absI n / absI d)
  else (if upR (absI n / absI d) (absI n % absI d) (absI d) = true then absI n / absI d + 1 else absI n / absI d)

/-- A size over a power of 2: its words. -/
theorem shift_split (HI LO : Int) (n : Nat) (h0 : 0 ≤ HI) (h1 : HI ≤ 18446744073709551615) (l0 : 0 ≤ LO) (l1 : LO ≤ 18446744073709551615) (hn : n ≤ 62) :
    (HI * 18446744073709551616 + LO) / 2 ^ n / 18446744073709551616 = HI / 2 ^ n ∧
    (HI * 18446744073709551616 + LO) / 2 ^ n % 18446744073709551616 = bits BinOp.or IntKind.u64 (IntKind.u64.wrap (HI * 2 ^ (64 - n))) (LO / 2 ^ n) ∧
    (HI * 18446744073709551616 + LO) % 2 ^ n = bits BinOp.and IntKind.u64 LO (2 ^ n - 1) := by
  have pp := pow_split n (by omega)
  have hp := pow_pos n
  have hp' := pow_pos (64 - n)
  have hmask : bits BinOp.and IntKind.u64 LO (2 ^ n - 1) = LO % 2 ^ n := bits_mask IntKind.u64 64 (by decide) (fun n h0 h1 => by rw [wrapU]; omega) n (by omega) LO l0 (by omega)
  have hjoin := fun x y a b c d e f => bits_join IntKind.u64 64 (by decide) (fun n h0 h1 => by rw [wrapU]; omega) (64 - n) x y a b c d e f
  rw [hmask]
  generalize (2 : Int) ^ n = p at *
  generalize (2 : Int) ^ (64 - n) = p' at *
  have e0 : HI * 18446744073709551616 + LO = LO + HI * p' * p := by rw [← pp, Int.mul_assoc, Int.mul_comm p' p]; omega
  have e1 : (HI * 18446744073709551616 + LO) / p = LO / p + HI * p' := by rw [e0, Int.add_mul_ediv_right _ _ (by omega)]
  have e2 : (HI * 18446744073709551616 + LO) % p = LO % p := by rw [e0, Int.add_mul_emod_self_right]
  have d1 := Int.mul_ediv_add_emod HI p
  have d2 : 0 ≤ HI % p := Int.emod_nonneg _ (by omega)
  have d3 : HI % p < p := Int.emod_lt_of_pos _ (by omega)
  have e3 : HI * p' = HI / p * 18446744073709551616 + HI % p * p' := by
    conv => lhs; rw [← d1]
    rw [Int.add_mul, Int.mul_comm p (HI / p), Int.mul_assoc, pp]
  have d4 : 0 ≤ HI % p * p' := Int.mul_nonneg d2 (by omega)
  have d5 : HI % p * p' + p' ≤ 18446744073709551616 := by
    have := Int.mul_le_mul_of_nonneg_right (show HI % p + 1 ≤ p by omega) (show 0 ≤ p' by omega)
    rw [Int.add_mul, Int.one_mul, pp] at this
    exact this
  have d6 : 0 ≤ LO / p := Int.ediv_nonneg l0 (by omega)
  have d7 : LO / p < p' := Int.ediv_lt_of_lt_mul (by omega) (by rw [Int.mul_comm, pp]; omega)
  have e4 : IntKind.u64.wrap (HI * p') = HI % p * p' := by rw [wrapU, e3]; omega
  rw [e4, hjoin _ _ d4 (Int.mul_emod_left _ _) (by omega) d6 d7 (by omega), e1, e2, e3]
  exact ⟨by omega, by omega, rfl⟩

set_option maxHeartbeats 4000000 in
set_option maxRecDepth 100000 in
theorem shift_any (h l : Int) (n : Nat) (w : World) (hn1 : 1 ≤ n) (hn : n ≤ 62) (a : WR h l) :
    Calls Tryz.prog 68 #[.agg #[.int .i64 h, .int .u64 l], .int .i64 n] w (RetW w (roundI (V h l) (2 ^ n) / 18446744073709551616) (roundI (V h l) (2 ^ n) % 18446744073709551616)) := by
  have hA := A_bounds h l a
  have hVn := V_neg h l a
  have hp := pow_pos n
  have hp2 : (2 : Int) ^ n ≤ 4611686018427387904 := by
    rw [← castPow]
    have := Nat.pow_le_pow_right (show 0 < 2 by decide) hn
    have e : (2 : Nat) ^ 62 = 4611686018427387904 := by decide
    rw [e] at this
    omega
  have hev : (2 : Int) ≤ 2 ^ n := by
    rw [← castPow]
    have := Nat.pow_le_pow_right (show 0 < 2 by decide) hn1
    omega
  have ho1 := fun w => Lib.hid (of_any h l w a)
  have eq0 : 0 ≤ A h l / 2 ^ n := Int.ediv_nonneg hA.1 (by omega)
  have er0 : 0 ≤ A h l % 2 ^ n := Int.emod_nonneg _ (by omega)
  have er1 : A h l % 2 ^ n < 2 ^ n := Int.emod_lt_of_pos _ (by omega)
  have eq1 : A h l / 2 ^ n * 2 ≤ A h l := by
    have h1 := Int.ediv_mul_le (A h l) (show (2 : Int) ^ n ≠ 0 by omega)
    have h2 := Int.mul_le_mul_of_nonneg_left hev eq0
    omega
  have hround : roundI (V h l) (2 ^ n) = if decide (h < 0) = true then -(if upR (A h l / 2 ^ n) (A h l % 2 ^ n) (2 ^ n) = true then A h l / 2 ^ n + 1 else A h l / 2 ^ n) else (if upR (A h l / 2 ^ n) (A h l % 2 ^ n) (2 ^ n) = true then A h l / 2 ^ n + 1 else A h l / 2 ^ n) := by
    have e1 : absI ((2 : Int) ^ n) = 2 ^ n := by unfold absI; rw [if_neg (by omega)]
    have e2 : decide ((2 : Int) ^ n < 0) = false := by simp; omega
    unfold roundI
    rw [hVn, e1, e2, Bool.bne_false]
    rfl
  obtain ⟨HI, hHI⟩ : ∃ q, A h l / 18446744073709551616 = q := ⟨_, rfl⟩
  obtain ⟨LO, hLO⟩ : ∃ q, A h l % 18446744073709551616 = q := ⟨_, rfl⟩
  have eA : A h l = HI * 18446744073709551616 + LO := by omega
  obtain ⟨k1, k2, k3⟩ := shift_split HI LO n (by omega) (by omega) (by omega) (by omega) hn
  rw [← eA] at k1 k2 k3
  rw [hHI, hLO] at ho1
  have hb0 : 0 ≤ HI := by omega
  have hb1 : HI ≤ 18446744073709551615 := by omega
  have hb2 : 0 ≤ LO := by omega
  have hb3 : LO ≤ 18446744073709551615 := by omega
  obtain ⟨Q, hQ⟩ : ∃ q, A h l / 2 ^ n = q := ⟨_, rfl⟩
  obtain ⟨R, hR⟩ : ∃ q, A h l % 2 ^ n = q := ⟨_, rfl⟩
  obtain ⟨p, hP⟩ : ∃ q, (2 : Int) ^ n = q := ⟨_, rfl⟩
  obtain ⟨Q1, hQ1⟩ : ∃ q, Q / 18446744073709551616 = q := ⟨_, rfl⟩
  obtain ⟨Q2, hQ2⟩ : ∃ q, Q % 18446744073709551616 = q := ⟨_, rfl⟩
  obtain ⟨NG, hNG⟩ : ∃ q, decide (h < 0) = q := ⟨_, rfl⟩
  rw [hQ] at hround k1 k2 eq0 eq1
  rw [hR] at hround k3 er0 er1
  rw [hNG] at hround ho1
  rw [hQ1] at k1
  rw [hQ2] at k2
  -- the calls
  have e01 : V 0 1 = 1 := by decide
  have hW01 : WR 0 1 := ⟨by decide, by decide, by decide, by decide⟩
  have hfr : ∀ w, Hid (Calls Tryz.prog 93 #[.int .i64 1] w (RetW w 0 1)) := fun w => Lib.hid (from_any 1 w (by decide) (by decide))
  have hq4 : inR (V 0 1 * 2 ^ n) := by rw [e01, Int.one_mul, hP]; exact ⟨by omega, by omega⟩
  have hn126 : n ≤ 126 := Nat.le_trans hn (by decide)
  have hle := fun w => Lib.hid (left_in 0 1 n w hn126 hW01 hq4)
  rw [e01, Int.one_mul, hP] at hle
  have ep1 : p / 18446744073709551616 = 0 := by omega
  have ep2 : p % 18446744073709551616 = p := by omega
  rw [ep1, ep2] at hle
  have hWp : WR 0 p := ⟨by decide, by decide, by omega, by omega⟩
  have ho2 := fun w => Lib.hid (of_any 0 p w hWp)
  have eAp : A 0 p = p := by unfold A V; rw [if_neg (by omega)]; omega
  rw [eAp, ep1, ep2] at ho2
  have d00 : decide ((0 : Int) < 0) = false := by decide
  rw [d00] at ho2
  have hsub := fun w => Lib.hid (szsub_any 0 p 0 R w (by omega) (by omega) (by omega) (by omega) (by omega) (by omega) (by omega) (by omega))
  have eVp : V 0 p = p := by unfold V; omega
  have eVR : V 0 R = R := by unfold V; omega
  obtain ⟨LV, hLV⟩ : ∃ q, p - R = q := ⟨_, rfl⟩
  have lv0 : 0 ≤ LV := by omega
  have lv1 : LV ≤ 18446744073709551615 := by omega
  have eVL : V 0 LV = LV := by unfold V; omega
  have es1 : LV % 340282366920938463463374607431768211456 / 18446744073709551616 = 0 := by omega
  have es2 : LV % 340282366920938463463374607431768211456 % 18446744073709551616 = LV := by omega
  rw [eVp, eVR, hLV, es1, es2] at hsub
  have hless := fun w => Lib.hid (less_any 0 LV 0 R w lv0 lv1 (by omega) (by omega))
  rw [eVL, eVR] at hless
  have q20 : 0 ≤ Q2 := by omega
  have hnx := fun w => Lib.hid (next_any Q1 Q2 w (by omega) (by omega) (by omega) (by omega))
  have eVQ : V Q1 Q2 = Q := by unfold V; omega
  have em : (Q + 1) % 340282366920938463463374607431768211456 = Q + 1 := by omega
  rw [eVQ, em] at hnx
  have htu := fun w => Lib.hid (told_in NG (Q + 1) w (by omega) (by split <;> omega))
  have htq := fun w => Lib.hid (told_in NG Q w eq0 (by split <;> omega))
  rw [hQ1, hQ2] at htq
  obtain ⟨N1, hN1⟩ : ∃ q, (Q + 1) / 18446744073709551616 = q := ⟨_, rfl⟩
  obtain ⟨N2, hN2⟩ : ∃ q, (Q + 1) % 18446744073709551616 = q := ⟨_, rfl⟩
  rw [hN1, hN2] at hnx htu
  obtain ⟨W0, hW0⟩ : ∃ q, IntKind.u64.wrap (HI * 2 ^ (64 - n)) = q := ⟨_, rfl⟩
  rw [hW0] at k2
  have f1 : HI / 2 ^ n = Q1 := k1.symm
  have f3 : bits BinOp.or IntKind.u64 W0 (LO / 2 ^ n) = Q2 := k2.symm
  have f4 : IntKind.u64.wrap (p - 1) = p - 1 := by rw [wrapU]; omega
  have f5 : bits BinOp.and IntKind.u64 LO (p - 1) = R := by rw [← hP]; exact k3.symm
  have ew4 : RowKit.wrap64 (64 - (n : Int)) = 64 - n := by unfold RowKit.wrap64; omega
  have ew5 : IntKind.i64.wrap (64 - (n : Int)) = 64 - n := by rw [wrapI]; omega
  have hodd : decide (Q % 2 = 1) = decide (Q2 % 2 = 1) := by
    by_cases h0 : Q % 2 = 1
    · rw [decide_eq_true h0, decide_eq_true (show Q2 % 2 = 1 by omega)]
    · rw [decide_eq_false h0, decide_eq_false (show ¬ Q2 % 2 = 1 by omega)]
  have hup : upR Q R p = (decide (LV < R) || (decide (LV = R) && decide (Q2 % 2 = 1))) := by unfold upR; rw [hLV, hodd]
  rw [hP] at hround ⊢
  rw [hround, hup]
  clear hround hup hodd hP k1 k2 k3 hQ hR hHI hLO eA hA hVn hNG a hq4 hW01 hWp e01 eAp d00 eVp eVR eVL es1 es2 eVQ em hN1 hN2 eq0 eq1 er1 hQ1 hQ2 hp hp2 hev ep1 ep2 hn126
  have M1 := True.intro
  have M2 := True.intro
  by_cases hA1 : LV < R
  · rw [decide_eq_true hA1] at hless ⊢
    simp only [Bool.true_or, if_true]
    have htd := htu
    clear htu htq hA1 hLV
    generalize (if NG = true then -(Q + 1) else (Q + 1)) = X at htd ⊢
    generalize X / 18446744073709551616 = XH at htd ⊢
    generalize X % 18446744073709551616 = XL at htd ⊢
    go_enter Tryz.func68, Tryz.ntmps68
    go_upto_region 10 with (first | (go_at_call 93; go_loud (refine (hfr _).out.mono ?_; rintro e w1 ⟨rfl, hb⟩; have HB1 := Lib.hid hb; have hs1 := hb.size; (try simp at hs1); have Xt2_1 := Box2.below (b := w.heap.size) (v0 := .int .i64 h) (v1 := .int .u64 l) (by constructor <;> go_simp) hb (by first | omega | (simp <;> omega)); obtain ⟨c0t2_1, c1t2_1, f0t2_1, f1t2_1⟩ := Xt2_1; have Lt2_1 : w.heap.size < w1.heap.size := (by omega); have Xt4_1 := Box2.below (b := w.heap.size + 1) (v0 := .int .i64 0) (v1 := .int .u64 0) (by constructor <;> go_simp) hb (by first | omega | (simp <;> omega)); obtain ⟨c0t4_1, c1t4_1, f0t4_1, f1t4_1⟩ := Xt4_1; have Lt4_1 : w.heap.size + 1 < w1.heap.size := (by omega); clear hb)) | (go_at_call 92; go_loud (refine (hle _).out.mono ?_; rintro e w2 ⟨rfl, hb⟩; have HB2 := Lib.hid hb; have hs2 := hb.size; (try simp at hs2); have Xt2_2 := Box2.below (b := w.heap.size) (v0 := .int .i64 h) (v1 := .int .u64 l) (by constructor <;> go_simp) hb (by first | omega | (simp <;> omega)); obtain ⟨c0t2_2, c1t2_2, f0t2_2, f1t2_2⟩ := Xt2_2; have Lt2_2 : w.heap.size < w2.heap.size := (by omega); have Xt4_2 := Box2.below (b := w.heap.size + 1) (v0 := .int .i64 0) (v1 := .int .u64 0) (by constructor <;> go_simp) hb (by first | omega | (simp <;> omega)); obtain ⟨c0t4_2, c1t4_2, f0t4_2, f1t4_2⟩ := Xt4_2; have Lt4_2 : w.heap.size + 1 < w2.heap.size := (by omega); clear hb)) | (go_at_call 94; have hmk := M1; clear hmk M1; go_loud (refine (ho1 _).out.mono ?_; rintro e w3 ⟨rfl, hb⟩; have HB3 := Lib.hid hb; have hs3 := hb.size; (try simp at hs3); have Xt4_3 := Box2.below (b := w.heap.size + 1) (v0 := .int .i64 0) (v1 := .int .u64 0) (by constructor <;> go_simp) hb (by first | omega | (simp <;> omega)); obtain ⟨c0t4_3, c1t4_3, f0t4_3, f1t4_3⟩ := Xt4_3; have Lt4_3 : w.heap.size + 1 < w3.heap.size := (by omega); have Xt5_3 := Box2.below (b := w2.heap.size) (v0 := .int .i64 0) (v1 := .int .u64 p) (by constructor <;> go_simp) hb (by first | omega | (simp <;> omega)); obtain ⟨c0t5_3, c1t5_3, f0t5_3, f1t5_3⟩ := Xt5_3; have Lt5_3 : w2.heap.size < w3.heap.size := (by omega); clear hb)) | (go_at_call 94; have hmk := M2; clear hmk M2; go_loud (refine (ho2 _).out.mono ?_; rintro e w4 ⟨rfl, hb⟩; have HB4 := Lib.hid hb; have hs4 := hb.size; (try simp at hs4); have Xt4_4 := Box2.below (b := w.heap.size + 1) (v0 := .int .i64 0) (v1 := .int .u64 0) (by constructor <;> go_simp) hb (by first | omega | (simp <;> omega)); obtain ⟨c0t4_4, c1t4_4, f0t4_4, f1t4_4⟩ := Xt4_4; have Lt4_4 : w.heap.size + 1 < w4.heap.size := (by omega); have Xt8_4 := Box2.below (b := w3.heap.size) (v0 := .int .u64 HI) (v1 := .int .u64 LO) (by constructor <;> go_simp) hb (by first | omega | (simp <;> omega)); obtain ⟨c0t8_4, c1t8_4, f0t8_4, f1t8_4⟩ := Xt8_4; have Lt8_4 : w3.heap.size < w4.heap.size := (by omega); clear hb)))
    obtain ⟨Wb, hWb⟩ : ∃ Wb : World, Wb = ((w4.alloc (.cells #[.int .u64 0, .int .u64 p] 130)).alloc (.cells #[.int .u64 0, .int .u64 0] 130)).alloc (.cells #[.int .u64 0, .int .u64 0] 130) := ⟨_, rfl⟩
    have Yt4 : Box2 Wb (w.heap.size + 1) (.int .i64 0) (.int .u64 0) := by rw [hWb]; exact Box2.below (n := w4.heap.size) ⟨c0t4_4, c1t4_4, f0t4_4, f1t4_4⟩ (by (repeat' (first | exact Below.refl _ _ | refine Below.drew ?_ | refine Below.setCell ?_ (by first | omega | (simp <;> omega)) _ | refine Below.alloc ?_ (by first | omega | (simp <;> omega)) _))) Lt4_4
    have Yt8 : Box2 Wb (w3.heap.size) (.int .u64 HI) (.int .u64 LO) := by rw [hWb]; exact Box2.below (n := w4.heap.size) ⟨c0t8_4, c1t8_4, f0t8_4, f1t8_4⟩ (by (repeat' (first | exact Below.refl _ _ | refine Below.drew ?_ | refine Below.setCell ?_ (by first | omega | (simp <;> omega)) _ | refine Below.alloc ?_ (by first | omega | (simp <;> omega)) _))) Lt8_4
    have Yt10 : Box2 Wb (w4.heap.size) (.int .u64 0) (.int .u64 p) := by rw [hWb]; constructor <;> go_simp
    have Yt11 : Box2 Wb (w4.heap.size + 1) (.int .u64 0) (.int .u64 0) := by rw [hWb]; constructor <;> go_simp
    have Yt12 : Box2 Wb (w4.heap.size + 1 + 1) (.int .u64 0) (.int .u64 0) := by rw [hWb]; constructor <;> go_simp
    have HBb : Hid (Below w4.heap.size w4 Wb) := by rw [hWb]; exact Lib.hid (by (repeat' (first | exact Below.refl _ _ | refine Below.drew ?_ | refine Below.setCell ?_ (by first | omega | (simp <;> omega)) _ | refine Below.alloc ?_ (by first | omega | (simp <;> omega)) _)))
    have hsb : Wb.heap.size = w4.heap.size + 1 + 1 + 1 := by rw [hWb]; simp
    rw [← hWb]
    clear hWb
    clear c0t2_1 c1t2_1 f0t2_1 f1t2_1; clear c0t2_2 c1t2_2 f0t2_2 f1t2_2
    clear c0t4_1 c1t4_1 f0t4_1 f1t4_1; clear c0t4_2 c1t4_2 f0t4_2 f1t4_2
    clear c0t4_3 c1t4_3 f0t4_3 f1t4_3
    clear c0t5_3 c1t5_3 f0t5_3 f1t5_3
    clear c0t4_4 c1t4_4 f0t4_4 f1t4_4
    clear c0t8_4 c1t8_4 f0t8_4 f1t8_4
    obtain ⟨c0t4, c1t4, f0t4, f1t4⟩ := Yt4
    have Lt4 : w.heap.size + 1 < Wb.heap.size := by omega
    obtain ⟨c0t8, c1t8, f0t8, f1t8⟩ := Yt8
    have Lt8 : w3.heap.size < Wb.heap.size := by omega
    obtain ⟨c0t10, c1t10, f0t10, f1t10⟩ := Yt10
    have Lt10 : w4.heap.size < Wb.heap.size := by omega
    obtain ⟨c0t11, c1t11, f0t11, f1t11⟩ := Yt11
    have Lt11 : w4.heap.size + 1 < Wb.heap.size := by omega
    obtain ⟨c0t12, c1t12, f0t12, f1t12⟩ := Yt12
    have Lt12 : w4.heap.size + 1 + 1 < Wb.heap.size := by omega
    go_region
    go_wp2_with (first | (go_at_call 95; go_loud (refine (hsub _).out.mono ?_; rintro e w5 ⟨rfl, hb⟩; have HB5 := Lib.hid hb; have hs5 := hb.size; (try simp at hs5); have Xt4_5 := Box2.below (b := w.heap.size + 1) (v0 := .int .i64 0) (v1 := .int .u64 0) (by constructor <;> go_simp) hb (by first | omega | (simp <;> omega)); obtain ⟨c0t4_5, c1t4_5, f0t4_5, f1t4_5⟩ := Xt4_5; have Lt4_5 : w.heap.size + 1 < w5.heap.size := (by omega); have Xt11_5 := Box2.below (b := w4.heap.size + 1) (v0 := .int .u64 Q1) (v1 := .int .u64 Q2) (by constructor <;> go_simp) hb (by first | omega | (simp <;> omega)); obtain ⟨c0t11_5, c1t11_5, f0t11_5, f1t11_5⟩ := Xt11_5; have Lt11_5 : w4.heap.size + 1 < w5.heap.size := (by omega); have Xt12_5 := Box2.below (b := w4.heap.size + 1 + 1) (v0 := .int .u64 0) (v1 := .int .u64 R) (by constructor <;> go_simp) hb (by first | omega | (simp <;> omega)); obtain ⟨c0t12_5, c1t12_5, f0t12_5, f1t12_5⟩ := Xt12_5; have Lt12_5 : w4.heap.size + 1 + 1 < w5.heap.size := (by omega); clear hb)) | (go_at_call 96; go_loud (refine (hless _).out.mono ?_; rintro e w6 ⟨rfl, hb⟩; have HB6 := Lib.hid hb; have hs6 := hb.size; (try simp at hs6); have Xt4_6 := Box2.below (b := w.heap.size + 1) (v0 := .int .i64 0) (v1 := .int .u64 0) (by constructor <;> go_simp) hb (by first | omega | (simp <;> omega)); obtain ⟨c0t4_6, c1t4_6, f0t4_6, f1t4_6⟩ := Xt4_6; have Lt4_6 : w.heap.size + 1 < w6.heap.size := (by omega); have Xt11_6 := Box2.below (b := w4.heap.size + 1) (v0 := .int .u64 Q1) (v1 := .int .u64 Q2) (by constructor <;> go_simp) hb (by first | omega | (simp <;> omega)); obtain ⟨c0t11_6, c1t11_6, f0t11_6, f1t11_6⟩ := Xt11_6; have Lt11_6 : w4.heap.size + 1 < w6.heap.size := (by omega); have Xt12_6 := Box2.below (b := w4.heap.size + 1 + 1) (v0 := .int .u64 0) (v1 := .int .u64 R) (by constructor <;> go_simp) hb (by first | omega | (simp <;> omega)); obtain ⟨c0t12_6, c1t12_6, f0t12_6, f1t12_6⟩ := Xt12_6; have Lt12_6 : w4.heap.size + 1 + 1 < w6.heap.size := (by omega); have Xt13_6 := Box2.below (b := w5.heap.size) (v0 := .int .u64 0) (v1 := .int .u64 LV) (by constructor <;> go_simp) hb (by first | omega | (simp <;> omega)); obtain ⟨c0t13_6, c1t13_6, f0t13_6, f1t13_6⟩ := Xt13_6; have Lt13_6 : w5.heap.size < w6.heap.size := (by omega); clear hb)) | (go_at_call 97; go_loud (refine (hnx _).out.mono ?_; rintro e w7 ⟨rfl, hb⟩; have HB7 := Lib.hid hb; have hs7 := hb.size; (try simp at hs7); have Xt4_7 := Box2.below (b := w.heap.size + 1) (v0 := .int .i64 0) (v1 := .int .u64 0) (by constructor <;> go_simp) hb (by first | omega | (simp <;> omega)); obtain ⟨c0t4_7, c1t4_7, f0t4_7, f1t4_7⟩ := Xt4_7; have Lt4_7 : w.heap.size + 1 < w7.heap.size := (by omega); have Xt11_7 := Box2.below (b := w4.heap.size + 1) (v0 := .int .u64 Q1) (v1 := .int .u64 Q2) (by constructor <;> go_simp) hb (by first | omega | (simp <;> omega)); obtain ⟨c0t11_7, c1t11_7, f0t11_7, f1t11_7⟩ := Xt11_7; have Lt11_7 : w4.heap.size + 1 < w7.heap.size := (by omega); clear hb)) | (go_at_call 98; go_loud (refine (htd _).out.mono ?_; rintro e w8 ⟨rfl, hb⟩; have HB8 := Lib.hid hb; have hs8 := hb.size; (try simp at hs8); have Xt4_8 := Box2.below (b := w.heap.size + 1) (v0 := .int .i64 0) (v1 := .int .u64 0) (by constructor <;> go_simp) hb (by first | omega | (simp <;> omega)); obtain ⟨c0t4_8, c1t4_8, f0t4_8, f1t4_8⟩ := Xt4_8; have Lt4_8 : w.heap.size + 1 < w8.heap.size := (by omega); clear hb)))
    (try simp only [Exit.noGoto, Exit.inBlock, Exit.then])
    refine bodyPost_ret (v := .agg #[.int .i64 XH, .int .u64 XL]) (by rw [results_c1 rfl]; go_simp) rfl ⟨rfl, ?_⟩
    refine Below.alloc ?_ (by first | omega | (simp <;> omega)) _
    iterate 2 refine Below.setCell ?_ (by first | omega | (simp <;> omega)) _
    exact (Below.trans (by (repeat' (first | exact Below.refl _ _ | refine Below.drew ?_ | refine Below.setCell ?_ (by first | omega | (simp <;> omega)) _ | refine Below.alloc ?_ (by first | omega | (simp <;> omega)) _))) (Below.trans (HB1.out.mono (by first | omega | (simp <;> omega))) (Below.trans (HB2.out.mono (by first | omega | (simp <;> omega))) (Below.trans (by (repeat' (first | exact Below.refl _ _ | refine Below.drew ?_ | refine Below.setCell ?_ (by first | omega | (simp <;> omega)) _ | refine Below.alloc ?_ (by first | omega | (simp <;> omega)) _))) (Below.trans (HB3.out.mono (by first | omega | (simp <;> omega))) (Below.trans (by (repeat' (first | exact Below.refl _ _ | refine Below.drew ?_ | refine Below.setCell ?_ (by first | omega | (simp <;> omega)) _ | refine Below.alloc ?_ (by first | omega | (simp <;> omega)) _))) (Below.trans (HB4.out.mono (by first | omega | (simp <;> omega))) (Below.trans (HBb.out.mono (by first | omega | (simp <;> omega))) (Below.trans (by (repeat' (first | exact Below.refl _ _ | refine Below.drew ?_ | refine Below.setCell ?_ (by first | omega | (simp <;> omega)) _ | refine Below.alloc ?_ (by first | omega | (simp <;> omega)) _))) (Below.trans (HB5.out.mono (by first | omega | (simp <;> omega))) (Below.trans (by (repeat' (first | exact Below.refl _ _ | refine Below.drew ?_ | refine Below.setCell ?_ (by first | omega | (simp <;> omega)) _ | refine Below.alloc ?_ (by first | omega | (simp <;> omega)) _))) (Below.trans (HB6.out.mono (by first | omega | (simp <;> omega))) (Below.trans (HB7.out.mono (by first | omega | (simp <;> omega))) (Below.trans (by (repeat' (first | exact Below.refl _ _ | refine Below.drew ?_ | refine Below.setCell ?_ (by first | omega | (simp <;> omega)) _ | refine Below.alloc ?_ (by first | omega | (simp <;> omega)) _))) (HB8.out.mono (by first | omega | (simp <;> omega)))))))))))))))))
  · rw [decide_eq_false hA1] at hless ⊢
    by_cases hE : LV = R
    · by_cases hO : Q2 % 2 = 1
      · rw [decide_eq_true hE, decide_eq_true hO]
        simp only [Bool.and_true, Bool.or_true, if_true]
        have htd := htu
        have e4 : (Q2 % 2 == 1) = true := by simp; exact hO
        clear htu htq hA1 hLV hO lv0 lv1
        subst hE
        generalize (if NG = true then -(Q + 1) else (Q + 1)) = X at htd ⊢
        generalize X / 18446744073709551616 = XH at htd ⊢
        generalize X % 18446744073709551616 = XL at htd ⊢
        go_enter Tryz.func68, Tryz.ntmps68
        go_upto_region 10 with (first | (go_at_call 93; go_loud (refine (hfr _).out.mono ?_; rintro e w1 ⟨rfl, hb⟩; have HB1 := Lib.hid hb; have hs1 := hb.size; (try simp at hs1); have Xt2_1 := Box2.below (b := w.heap.size) (v0 := .int .i64 h) (v1 := .int .u64 l) (by constructor <;> go_simp) hb (by first | omega | (simp <;> omega)); obtain ⟨c0t2_1, c1t2_1, f0t2_1, f1t2_1⟩ := Xt2_1; have Lt2_1 : w.heap.size < w1.heap.size := (by omega); have Xt4_1 := Box2.below (b := w.heap.size + 1) (v0 := .int .i64 0) (v1 := .int .u64 0) (by constructor <;> go_simp) hb (by first | omega | (simp <;> omega)); obtain ⟨c0t4_1, c1t4_1, f0t4_1, f1t4_1⟩ := Xt4_1; have Lt4_1 : w.heap.size + 1 < w1.heap.size := (by omega); clear hb)) | (go_at_call 92; go_loud (refine (hle _).out.mono ?_; rintro e w2 ⟨rfl, hb⟩; have HB2 := Lib.hid hb; have hs2 := hb.size; (try simp at hs2); have Xt2_2 := Box2.below (b := w.heap.size) (v0 := .int .i64 h) (v1 := .int .u64 l) (by constructor <;> go_simp) hb (by first | omega | (simp <;> omega)); obtain ⟨c0t2_2, c1t2_2, f0t2_2, f1t2_2⟩ := Xt2_2; have Lt2_2 : w.heap.size < w2.heap.size := (by omega); have Xt4_2 := Box2.below (b := w.heap.size + 1) (v0 := .int .i64 0) (v1 := .int .u64 0) (by constructor <;> go_simp) hb (by first | omega | (simp <;> omega)); obtain ⟨c0t4_2, c1t4_2, f0t4_2, f1t4_2⟩ := Xt4_2; have Lt4_2 : w.heap.size + 1 < w2.heap.size := (by omega); clear hb)) | (go_at_call 94; have hmk := M1; clear hmk M1; go_loud (refine (ho1 _).out.mono ?_; rintro e w3 ⟨rfl, hb⟩; have HB3 := Lib.hid hb; have hs3 := hb.size; (try simp at hs3); have Xt4_3 := Box2.below (b := w.heap.size + 1) (v0 := .int .i64 0) (v1 := .int .u64 0) (by constructor <;> go_simp) hb (by first | omega | (simp <;> omega)); obtain ⟨c0t4_3, c1t4_3, f0t4_3, f1t4_3⟩ := Xt4_3; have Lt4_3 : w.heap.size + 1 < w3.heap.size := (by omega); have Xt5_3 := Box2.below (b := w2.heap.size) (v0 := .int .i64 0) (v1 := .int .u64 p) (by constructor <;> go_simp) hb (by first | omega | (simp <;> omega)); obtain ⟨c0t5_3, c1t5_3, f0t5_3, f1t5_3⟩ := Xt5_3; have Lt5_3 : w2.heap.size < w3.heap.size := (by omega); clear hb)) | (go_at_call 94; have hmk := M2; clear hmk M2; go_loud (refine (ho2 _).out.mono ?_; rintro e w4 ⟨rfl, hb⟩; have HB4 := Lib.hid hb; have hs4 := hb.size; (try simp at hs4); have Xt4_4 := Box2.below (b := w.heap.size + 1) (v0 := .int .i64 0) (v1 := .int .u64 0) (by constructor <;> go_simp) hb (by first | omega | (simp <;> omega)); obtain ⟨c0t4_4, c1t4_4, f0t4_4, f1t4_4⟩ := Xt4_4; have Lt4_4 : w.heap.size + 1 < w4.heap.size := (by omega); have Xt8_4 := Box2.below (b := w3.heap.size) (v0 := .int .u64 HI) (v1 := .int .u64 LO) (by constructor <;> go_simp) hb (by first | omega | (simp <;> omega)); obtain ⟨c0t8_4, c1t8_4, f0t8_4, f1t8_4⟩ := Xt8_4; have Lt8_4 : w3.heap.size < w4.heap.size := (by omega); clear hb)))
        obtain ⟨Wb, hWb⟩ : ∃ Wb : World, Wb = ((w4.alloc (.cells #[.int .u64 0, .int .u64 p] 130)).alloc (.cells #[.int .u64 0, .int .u64 0] 130)).alloc (.cells #[.int .u64 0, .int .u64 0] 130) := ⟨_, rfl⟩
        have Yt4 : Box2 Wb (w.heap.size + 1) (.int .i64 0) (.int .u64 0) := by rw [hWb]; exact Box2.below (n := w4.heap.size) ⟨c0t4_4, c1t4_4, f0t4_4, f1t4_4⟩ (by (repeat' (first | exact Below.refl _ _ | refine Below.drew ?_ | refine Below.setCell ?_ (by first | omega | (simp <;> omega)) _ | refine Below.alloc ?_ (by first | omega | (simp <;> omega)) _))) Lt4_4
        have Yt8 : Box2 Wb (w3.heap.size) (.int .u64 HI) (.int .u64 LO) := by rw [hWb]; exact Box2.below (n := w4.heap.size) ⟨c0t8_4, c1t8_4, f0t8_4, f1t8_4⟩ (by (repeat' (first | exact Below.refl _ _ | refine Below.drew ?_ | refine Below.setCell ?_ (by first | omega | (simp <;> omega)) _ | refine Below.alloc ?_ (by first | omega | (simp <;> omega)) _))) Lt8_4
        have Yt10 : Box2 Wb (w4.heap.size) (.int .u64 0) (.int .u64 p) := by rw [hWb]; constructor <;> go_simp
        have Yt11 : Box2 Wb (w4.heap.size + 1) (.int .u64 0) (.int .u64 0) := by rw [hWb]; constructor <;> go_simp
        have Yt12 : Box2 Wb (w4.heap.size + 1 + 1) (.int .u64 0) (.int .u64 0) := by rw [hWb]; constructor <;> go_simp
        have HBb : Hid (Below w4.heap.size w4 Wb) := by rw [hWb]; exact Lib.hid (by (repeat' (first | exact Below.refl _ _ | refine Below.drew ?_ | refine Below.setCell ?_ (by first | omega | (simp <;> omega)) _ | refine Below.alloc ?_ (by first | omega | (simp <;> omega)) _)))
        have hsb : Wb.heap.size = w4.heap.size + 1 + 1 + 1 := by rw [hWb]; simp
        rw [← hWb]
        clear hWb
        clear c0t2_1 c1t2_1 f0t2_1 f1t2_1; clear c0t2_2 c1t2_2 f0t2_2 f1t2_2
        clear c0t4_1 c1t4_1 f0t4_1 f1t4_1; clear c0t4_2 c1t4_2 f0t4_2 f1t4_2
        clear c0t4_3 c1t4_3 f0t4_3 f1t4_3
        clear c0t5_3 c1t5_3 f0t5_3 f1t5_3
        clear c0t4_4 c1t4_4 f0t4_4 f1t4_4
        clear c0t8_4 c1t8_4 f0t8_4 f1t8_4
        obtain ⟨c0t4, c1t4, f0t4, f1t4⟩ := Yt4
        have Lt4 : w.heap.size + 1 < Wb.heap.size := by omega
        obtain ⟨c0t8, c1t8, f0t8, f1t8⟩ := Yt8
        have Lt8 : w3.heap.size < Wb.heap.size := by omega
        obtain ⟨c0t10, c1t10, f0t10, f1t10⟩ := Yt10
        have Lt10 : w4.heap.size < Wb.heap.size := by omega
        obtain ⟨c0t11, c1t11, f0t11, f1t11⟩ := Yt11
        have Lt11 : w4.heap.size + 1 < Wb.heap.size := by omega
        obtain ⟨c0t12, c1t12, f0t12, f1t12⟩ := Yt12
        have Lt12 : w4.heap.size + 1 + 1 < Wb.heap.size := by omega
        go_region
        go_wp2_with (first | (go_at_call 95; go_loud (refine (hsub _).out.mono ?_; rintro e w5 ⟨rfl, hb⟩; have HB5 := Lib.hid hb; have hs5 := hb.size; (try simp at hs5); have Xt4_5 := Box2.below (b := w.heap.size + 1) (v0 := .int .i64 0) (v1 := .int .u64 0) (by constructor <;> go_simp) hb (by first | omega | (simp <;> omega)); obtain ⟨c0t4_5, c1t4_5, f0t4_5, f1t4_5⟩ := Xt4_5; have Lt4_5 : w.heap.size + 1 < w5.heap.size := (by omega); have Xt11_5 := Box2.below (b := w4.heap.size + 1) (v0 := .int .u64 Q1) (v1 := .int .u64 Q2) (by constructor <;> go_simp) hb (by first | omega | (simp <;> omega)); obtain ⟨c0t11_5, c1t11_5, f0t11_5, f1t11_5⟩ := Xt11_5; have Lt11_5 : w4.heap.size + 1 < w5.heap.size := (by omega); have Xt12_5 := Box2.below (b := w4.heap.size + 1 + 1) (v0 := .int .u64 0) (v1 := .int .u64 LV) (by constructor <;> go_simp) hb (by first | omega | (simp <;> omega)); obtain ⟨c0t12_5, c1t12_5, f0t12_5, f1t12_5⟩ := Xt12_5; have Lt12_5 : w4.heap.size + 1 + 1 < w5.heap.size := (by omega); clear hb)) | (go_at_call 96; go_loud (refine (hless _).out.mono ?_; rintro e w6 ⟨rfl, hb⟩; have HB6 := Lib.hid hb; have hs6 := hb.size; (try simp at hs6); have Xt4_6 := Box2.below (b := w.heap.size + 1) (v0 := .int .i64 0) (v1 := .int .u64 0) (by constructor <;> go_simp) hb (by first | omega | (simp <;> omega)); obtain ⟨c0t4_6, c1t4_6, f0t4_6, f1t4_6⟩ := Xt4_6; have Lt4_6 : w.heap.size + 1 < w6.heap.size := (by omega); have Xt11_6 := Box2.below (b := w4.heap.size + 1) (v0 := .int .u64 Q1) (v1 := .int .u64 Q2) (by constructor <;> go_simp) hb (by first | omega | (simp <;> omega)); obtain ⟨c0t11_6, c1t11_6, f0t11_6, f1t11_6⟩ := Xt11_6; have Lt11_6 : w4.heap.size + 1 < w6.heap.size := (by omega); have Xt12_6 := Box2.below (b := w4.heap.size + 1 + 1) (v0 := .int .u64 0) (v1 := .int .u64 LV) (by constructor <;> go_simp) hb (by first | omega | (simp <;> omega)); obtain ⟨c0t12_6, c1t12_6, f0t12_6, f1t12_6⟩ := Xt12_6; have Lt12_6 : w4.heap.size + 1 + 1 < w6.heap.size := (by omega); have Xt13_6 := Box2.below (b := w5.heap.size) (v0 := .int .u64 0) (v1 := .int .u64 LV) (by constructor <;> go_simp) hb (by first | omega | (simp <;> omega)); obtain ⟨c0t13_6, c1t13_6, f0t13_6, f1t13_6⟩ := Xt13_6; have Lt13_6 : w5.heap.size < w6.heap.size := (by omega); clear hb)) | (go_at_call 97; go_loud (refine (hnx _).out.mono ?_; rintro e w7 ⟨rfl, hb⟩; have HB7 := Lib.hid hb; have hs7 := hb.size; (try simp at hs7); have Xt4_7 := Box2.below (b := w.heap.size + 1) (v0 := .int .i64 0) (v1 := .int .u64 0) (by constructor <;> go_simp) hb (by first | omega | (simp <;> omega)); obtain ⟨c0t4_7, c1t4_7, f0t4_7, f1t4_7⟩ := Xt4_7; have Lt4_7 : w.heap.size + 1 < w7.heap.size := (by omega); have Xt11_7 := Box2.below (b := w4.heap.size + 1) (v0 := .int .u64 Q1) (v1 := .int .u64 Q2) (by constructor <;> go_simp) hb (by first | omega | (simp <;> omega)); obtain ⟨c0t11_7, c1t11_7, f0t11_7, f1t11_7⟩ := Xt11_7; have Lt11_7 : w4.heap.size + 1 < w7.heap.size := (by omega); clear hb)) | (go_at_call 98; go_loud (refine (htd _).out.mono ?_; rintro e w8 ⟨rfl, hb⟩; have HB8 := Lib.hid hb; have hs8 := hb.size; (try simp at hs8); have Xt4_8 := Box2.below (b := w.heap.size + 1) (v0 := .int .i64 0) (v1 := .int .u64 0) (by constructor <;> go_simp) hb (by first | omega | (simp <;> omega)); obtain ⟨c0t4_8, c1t4_8, f0t4_8, f1t4_8⟩ := Xt4_8; have Lt4_8 : w.heap.size + 1 < w8.heap.size := (by omega); clear hb)))
        (try simp only [Exit.noGoto, Exit.inBlock, Exit.then])
        refine bodyPost_ret (v := .agg #[.int .i64 XH, .int .u64 XL]) (by rw [results_c1 rfl]; go_simp) rfl ⟨rfl, ?_⟩
        refine Below.alloc ?_ (by first | omega | (simp <;> omega)) _
        iterate 2 refine Below.setCell ?_ (by first | omega | (simp <;> omega)) _
        exact (Below.trans (by (repeat' (first | exact Below.refl _ _ | refine Below.drew ?_ | refine Below.setCell ?_ (by first | omega | (simp <;> omega)) _ | refine Below.alloc ?_ (by first | omega | (simp <;> omega)) _))) (Below.trans (HB1.out.mono (by first | omega | (simp <;> omega))) (Below.trans (HB2.out.mono (by first | omega | (simp <;> omega))) (Below.trans (by (repeat' (first | exact Below.refl _ _ | refine Below.drew ?_ | refine Below.setCell ?_ (by first | omega | (simp <;> omega)) _ | refine Below.alloc ?_ (by first | omega | (simp <;> omega)) _))) (Below.trans (HB3.out.mono (by first | omega | (simp <;> omega))) (Below.trans (by (repeat' (first | exact Below.refl _ _ | refine Below.drew ?_ | refine Below.setCell ?_ (by first | omega | (simp <;> omega)) _ | refine Below.alloc ?_ (by first | omega | (simp <;> omega)) _))) (Below.trans (HB4.out.mono (by first | omega | (simp <;> omega))) (Below.trans (HBb.out.mono (by first | omega | (simp <;> omega))) (Below.trans (by (repeat' (first | exact Below.refl _ _ | refine Below.drew ?_ | refine Below.setCell ?_ (by first | omega | (simp <;> omega)) _ | refine Below.alloc ?_ (by first | omega | (simp <;> omega)) _))) (Below.trans (HB5.out.mono (by first | omega | (simp <;> omega))) (Below.trans (by (repeat' (first | exact Below.refl _ _ | refine Below.drew ?_ | refine Below.setCell ?_ (by first | omega | (simp <;> omega)) _ | refine Below.alloc ?_ (by first | omega | (simp <;> omega)) _))) (Below.trans (HB6.out.mono (by first | omega | (simp <;> omega))) (Below.trans (HB7.out.mono (by first | omega | (simp <;> omega))) (Below.trans (by (repeat' (first | exact Below.refl _ _ | refine Below.drew ?_ | refine Below.setCell ?_ (by first | omega | (simp <;> omega)) _ | refine Below.alloc ?_ (by first | omega | (simp <;> omega)) _))) (HB8.out.mono (by first | omega | (simp <;> omega)))))))))))))))))
      · rw [decide_eq_true hE, decide_eq_false hO]
        simp only [Bool.and_false, Bool.or_false, Bool.false_eq_true, if_false]
        have htd := htq
        have e4 : (Q2 % 2 == 1) = false := by simp; omega
        clear htu htq hA1 hLV hO lv0 lv1
        subst hE
        generalize (if NG = true then -Q else Q) = X at htd ⊢
        generalize X / 18446744073709551616 = XH at htd ⊢
        generalize X % 18446744073709551616 = XL at htd ⊢
        go_enter Tryz.func68, Tryz.ntmps68
        go_upto_region 10 with (first | (go_at_call 93; go_loud (refine (hfr _).out.mono ?_; rintro e w1 ⟨rfl, hb⟩; have HB1 := Lib.hid hb; have hs1 := hb.size; (try simp at hs1); have Xt2_1 := Box2.below (b := w.heap.size) (v0 := .int .i64 h) (v1 := .int .u64 l) (by constructor <;> go_simp) hb (by first | omega | (simp <;> omega)); obtain ⟨c0t2_1, c1t2_1, f0t2_1, f1t2_1⟩ := Xt2_1; have Lt2_1 : w.heap.size < w1.heap.size := (by omega); have Xt4_1 := Box2.below (b := w.heap.size + 1) (v0 := .int .i64 0) (v1 := .int .u64 0) (by constructor <;> go_simp) hb (by first | omega | (simp <;> omega)); obtain ⟨c0t4_1, c1t4_1, f0t4_1, f1t4_1⟩ := Xt4_1; have Lt4_1 : w.heap.size + 1 < w1.heap.size := (by omega); clear hb)) | (go_at_call 92; go_loud (refine (hle _).out.mono ?_; rintro e w2 ⟨rfl, hb⟩; have HB2 := Lib.hid hb; have hs2 := hb.size; (try simp at hs2); have Xt2_2 := Box2.below (b := w.heap.size) (v0 := .int .i64 h) (v1 := .int .u64 l) (by constructor <;> go_simp) hb (by first | omega | (simp <;> omega)); obtain ⟨c0t2_2, c1t2_2, f0t2_2, f1t2_2⟩ := Xt2_2; have Lt2_2 : w.heap.size < w2.heap.size := (by omega); have Xt4_2 := Box2.below (b := w.heap.size + 1) (v0 := .int .i64 0) (v1 := .int .u64 0) (by constructor <;> go_simp) hb (by first | omega | (simp <;> omega)); obtain ⟨c0t4_2, c1t4_2, f0t4_2, f1t4_2⟩ := Xt4_2; have Lt4_2 : w.heap.size + 1 < w2.heap.size := (by omega); clear hb)) | (go_at_call 94; have hmk := M1; clear hmk M1; go_loud (refine (ho1 _).out.mono ?_; rintro e w3 ⟨rfl, hb⟩; have HB3 := Lib.hid hb; have hs3 := hb.size; (try simp at hs3); have Xt4_3 := Box2.below (b := w.heap.size + 1) (v0 := .int .i64 0) (v1 := .int .u64 0) (by constructor <;> go_simp) hb (by first | omega | (simp <;> omega)); obtain ⟨c0t4_3, c1t4_3, f0t4_3, f1t4_3⟩ := Xt4_3; have Lt4_3 : w.heap.size + 1 < w3.heap.size := (by omega); have Xt5_3 := Box2.below (b := w2.heap.size) (v0 := .int .i64 0) (v1 := .int .u64 p) (by constructor <;> go_simp) hb (by first | omega | (simp <;> omega)); obtain ⟨c0t5_3, c1t5_3, f0t5_3, f1t5_3⟩ := Xt5_3; have Lt5_3 : w2.heap.size < w3.heap.size := (by omega); clear hb)) | (go_at_call 94; have hmk := M2; clear hmk M2; go_loud (refine (ho2 _).out.mono ?_; rintro e w4 ⟨rfl, hb⟩; have HB4 := Lib.hid hb; have hs4 := hb.size; (try simp at hs4); have Xt4_4 := Box2.below (b := w.heap.size + 1) (v0 := .int .i64 0) (v1 := .int .u64 0) (by constructor <;> go_simp) hb (by first | omega | (simp <;> omega)); obtain ⟨c0t4_4, c1t4_4, f0t4_4, f1t4_4⟩ := Xt4_4; have Lt4_4 : w.heap.size + 1 < w4.heap.size := (by omega); have Xt8_4 := Box2.below (b := w3.heap.size) (v0 := .int .u64 HI) (v1 := .int .u64 LO) (by constructor <;> go_simp) hb (by first | omega | (simp <;> omega)); obtain ⟨c0t8_4, c1t8_4, f0t8_4, f1t8_4⟩ := Xt8_4; have Lt8_4 : w3.heap.size < w4.heap.size := (by omega); clear hb)))
        obtain ⟨Wb, hWb⟩ : ∃ Wb : World, Wb = ((w4.alloc (.cells #[.int .u64 0, .int .u64 p] 130)).alloc (.cells #[.int .u64 0, .int .u64 0] 130)).alloc (.cells #[.int .u64 0, .int .u64 0] 130) := ⟨_, rfl⟩
        have Yt4 : Box2 Wb (w.heap.size + 1) (.int .i64 0) (.int .u64 0) := by rw [hWb]; exact Box2.below (n := w4.heap.size) ⟨c0t4_4, c1t4_4, f0t4_4, f1t4_4⟩ (by (repeat' (first | exact Below.refl _ _ | refine Below.drew ?_ | refine Below.setCell ?_ (by first | omega | (simp <;> omega)) _ | refine Below.alloc ?_ (by first | omega | (simp <;> omega)) _))) Lt4_4
        have Yt8 : Box2 Wb (w3.heap.size) (.int .u64 HI) (.int .u64 LO) := by rw [hWb]; exact Box2.below (n := w4.heap.size) ⟨c0t8_4, c1t8_4, f0t8_4, f1t8_4⟩ (by (repeat' (first | exact Below.refl _ _ | refine Below.drew ?_ | refine Below.setCell ?_ (by first | omega | (simp <;> omega)) _ | refine Below.alloc ?_ (by first | omega | (simp <;> omega)) _))) Lt8_4
        have Yt10 : Box2 Wb (w4.heap.size) (.int .u64 0) (.int .u64 p) := by rw [hWb]; constructor <;> go_simp
        have Yt11 : Box2 Wb (w4.heap.size + 1) (.int .u64 0) (.int .u64 0) := by rw [hWb]; constructor <;> go_simp
        have Yt12 : Box2 Wb (w4.heap.size + 1 + 1) (.int .u64 0) (.int .u64 0) := by rw [hWb]; constructor <;> go_simp
        have HBb : Hid (Below w4.heap.size w4 Wb) := by rw [hWb]; exact Lib.hid (by (repeat' (first | exact Below.refl _ _ | refine Below.drew ?_ | refine Below.setCell ?_ (by first | omega | (simp <;> omega)) _ | refine Below.alloc ?_ (by first | omega | (simp <;> omega)) _)))
        have hsb : Wb.heap.size = w4.heap.size + 1 + 1 + 1 := by rw [hWb]; simp
        rw [← hWb]
        clear hWb
        clear c0t2_1 c1t2_1 f0t2_1 f1t2_1; clear c0t2_2 c1t2_2 f0t2_2 f1t2_2
        clear c0t4_1 c1t4_1 f0t4_1 f1t4_1; clear c0t4_2 c1t4_2 f0t4_2 f1t4_2
        clear c0t4_3 c1t4_3 f0t4_3 f1t4_3
        clear c0t5_3 c1t5_3 f0t5_3 f1t5_3
        clear c0t4_4 c1t4_4 f0t4_4 f1t4_4
        clear c0t8_4 c1t8_4 f0t8_4 f1t8_4
        obtain ⟨c0t4, c1t4, f0t4, f1t4⟩ := Yt4
        have Lt4 : w.heap.size + 1 < Wb.heap.size := by omega
        obtain ⟨c0t8, c1t8, f0t8, f1t8⟩ := Yt8
        have Lt8 : w3.heap.size < Wb.heap.size := by omega
        obtain ⟨c0t10, c1t10, f0t10, f1t10⟩ := Yt10
        have Lt10 : w4.heap.size < Wb.heap.size := by omega
        obtain ⟨c0t11, c1t11, f0t11, f1t11⟩ := Yt11
        have Lt11 : w4.heap.size + 1 < Wb.heap.size := by omega
        obtain ⟨c0t12, c1t12, f0t12, f1t12⟩ := Yt12
        have Lt12 : w4.heap.size + 1 + 1 < Wb.heap.size := by omega
        go_region
        go_wp2_with (first | (go_at_call 95; go_loud (refine (hsub _).out.mono ?_; rintro e w5 ⟨rfl, hb⟩; have HB5 := Lib.hid hb; have hs5 := hb.size; (try simp at hs5); have Xt4_5 := Box2.below (b := w.heap.size + 1) (v0 := .int .i64 0) (v1 := .int .u64 0) (by constructor <;> go_simp) hb (by first | omega | (simp <;> omega)); obtain ⟨c0t4_5, c1t4_5, f0t4_5, f1t4_5⟩ := Xt4_5; have Lt4_5 : w.heap.size + 1 < w5.heap.size := (by omega); have Xt11_5 := Box2.below (b := w4.heap.size + 1) (v0 := .int .u64 Q1) (v1 := .int .u64 Q2) (by constructor <;> go_simp) hb (by first | omega | (simp <;> omega)); obtain ⟨c0t11_5, c1t11_5, f0t11_5, f1t11_5⟩ := Xt11_5; have Lt11_5 : w4.heap.size + 1 < w5.heap.size := (by omega); have Xt12_5 := Box2.below (b := w4.heap.size + 1 + 1) (v0 := .int .u64 0) (v1 := .int .u64 LV) (by constructor <;> go_simp) hb (by first | omega | (simp <;> omega)); obtain ⟨c0t12_5, c1t12_5, f0t12_5, f1t12_5⟩ := Xt12_5; have Lt12_5 : w4.heap.size + 1 + 1 < w5.heap.size := (by omega); clear hb)) | (go_at_call 96; go_loud (refine (hless _).out.mono ?_; rintro e w6 ⟨rfl, hb⟩; have HB6 := Lib.hid hb; have hs6 := hb.size; (try simp at hs6); have Xt4_6 := Box2.below (b := w.heap.size + 1) (v0 := .int .i64 0) (v1 := .int .u64 0) (by constructor <;> go_simp) hb (by first | omega | (simp <;> omega)); obtain ⟨c0t4_6, c1t4_6, f0t4_6, f1t4_6⟩ := Xt4_6; have Lt4_6 : w.heap.size + 1 < w6.heap.size := (by omega); have Xt11_6 := Box2.below (b := w4.heap.size + 1) (v0 := .int .u64 Q1) (v1 := .int .u64 Q2) (by constructor <;> go_simp) hb (by first | omega | (simp <;> omega)); obtain ⟨c0t11_6, c1t11_6, f0t11_6, f1t11_6⟩ := Xt11_6; have Lt11_6 : w4.heap.size + 1 < w6.heap.size := (by omega); have Xt12_6 := Box2.below (b := w4.heap.size + 1 + 1) (v0 := .int .u64 0) (v1 := .int .u64 LV) (by constructor <;> go_simp) hb (by first | omega | (simp <;> omega)); obtain ⟨c0t12_6, c1t12_6, f0t12_6, f1t12_6⟩ := Xt12_6; have Lt12_6 : w4.heap.size + 1 + 1 < w6.heap.size := (by omega); have Xt13_6 := Box2.below (b := w5.heap.size) (v0 := .int .u64 0) (v1 := .int .u64 LV) (by constructor <;> go_simp) hb (by first | omega | (simp <;> omega)); obtain ⟨c0t13_6, c1t13_6, f0t13_6, f1t13_6⟩ := Xt13_6; have Lt13_6 : w5.heap.size < w6.heap.size := (by omega); clear hb)) | (go_at_call 97; go_loud (refine (hnx _).out.mono ?_; rintro e w7 ⟨rfl, hb⟩; have HB7 := Lib.hid hb; have hs7 := hb.size; (try simp at hs7); have Xt4_7 := Box2.below (b := w.heap.size + 1) (v0 := .int .i64 0) (v1 := .int .u64 0) (by constructor <;> go_simp) hb (by first | omega | (simp <;> omega)); obtain ⟨c0t4_7, c1t4_7, f0t4_7, f1t4_7⟩ := Xt4_7; have Lt4_7 : w.heap.size + 1 < w7.heap.size := (by omega); have Xt11_7 := Box2.below (b := w4.heap.size + 1) (v0 := .int .u64 Q1) (v1 := .int .u64 Q2) (by constructor <;> go_simp) hb (by first | omega | (simp <;> omega)); obtain ⟨c0t11_7, c1t11_7, f0t11_7, f1t11_7⟩ := Xt11_7; have Lt11_7 : w4.heap.size + 1 < w7.heap.size := (by omega); clear hb)) | (go_at_call 98; go_loud (refine (htd _).out.mono ?_; rintro e w8 ⟨rfl, hb⟩; have HB8 := Lib.hid hb; have hs8 := hb.size; (try simp at hs8); have Xt4_8 := Box2.below (b := w.heap.size + 1) (v0 := .int .i64 0) (v1 := .int .u64 0) (by constructor <;> go_simp) hb (by first | omega | (simp <;> omega)); obtain ⟨c0t4_8, c1t4_8, f0t4_8, f1t4_8⟩ := Xt4_8; have Lt4_8 : w.heap.size + 1 < w8.heap.size := (by omega); clear hb)))
        (try simp only [Exit.noGoto, Exit.inBlock, Exit.then])
        refine bodyPost_ret (v := .agg #[.int .i64 XH, .int .u64 XL]) (by rw [results_c1 rfl]; go_simp) rfl ⟨rfl, ?_⟩
        refine Below.alloc ?_ (by first | omega | (simp <;> omega)) _
        iterate 2 refine Below.setCell ?_ (by first | omega | (simp <;> omega)) _
        exact (Below.trans (by (repeat' (first | exact Below.refl _ _ | refine Below.drew ?_ | refine Below.setCell ?_ (by first | omega | (simp <;> omega)) _ | refine Below.alloc ?_ (by first | omega | (simp <;> omega)) _))) (Below.trans (HB1.out.mono (by first | omega | (simp <;> omega))) (Below.trans (HB2.out.mono (by first | omega | (simp <;> omega))) (Below.trans (by (repeat' (first | exact Below.refl _ _ | refine Below.drew ?_ | refine Below.setCell ?_ (by first | omega | (simp <;> omega)) _ | refine Below.alloc ?_ (by first | omega | (simp <;> omega)) _))) (Below.trans (HB3.out.mono (by first | omega | (simp <;> omega))) (Below.trans (by (repeat' (first | exact Below.refl _ _ | refine Below.drew ?_ | refine Below.setCell ?_ (by first | omega | (simp <;> omega)) _ | refine Below.alloc ?_ (by first | omega | (simp <;> omega)) _))) (Below.trans (HB4.out.mono (by first | omega | (simp <;> omega))) (Below.trans (HBb.out.mono (by first | omega | (simp <;> omega))) (Below.trans (by (repeat' (first | exact Below.refl _ _ | refine Below.drew ?_ | refine Below.setCell ?_ (by first | omega | (simp <;> omega)) _ | refine Below.alloc ?_ (by first | omega | (simp <;> omega)) _))) (Below.trans (HB5.out.mono (by first | omega | (simp <;> omega))) (Below.trans (by (repeat' (first | exact Below.refl _ _ | refine Below.drew ?_ | refine Below.setCell ?_ (by first | omega | (simp <;> omega)) _ | refine Below.alloc ?_ (by first | omega | (simp <;> omega)) _))) (Below.trans (HB6.out.mono (by first | omega | (simp <;> omega))) (HB8.out.mono (by first | omega | (simp <;> omega)))))))))))))))
    · rw [decide_eq_false hE]
      simp only [Bool.false_and, Bool.or_false, Bool.false_eq_true, if_false]
      have htd := htq
      have e3 : (LV == R) = false := by simp; exact hE
      clear htu htq hA1 hLV hE lv0 lv1
      generalize (if NG = true then -Q else Q) = X at htd ⊢
      generalize X / 18446744073709551616 = XH at htd ⊢
      generalize X % 18446744073709551616 = XL at htd ⊢
      go_enter Tryz.func68, Tryz.ntmps68
      go_upto_region 10 with (first | (go_at_call 93; go_loud (refine (hfr _).out.mono ?_; rintro e w1 ⟨rfl, hb⟩; have HB1 := Lib.hid hb; have hs1 := hb.size; (try simp at hs1); have Xt2_1 := Box2.below (b := w.heap.size) (v0 := .int .i64 h) (v1 := .int .u64 l) (by constructor <;> go_simp) hb (by first | omega | (simp <;> omega)); obtain ⟨c0t2_1, c1t2_1, f0t2_1, f1t2_1⟩ := Xt2_1; have Lt2_1 : w.heap.size < w1.heap.size := (by omega); have Xt4_1 := Box2.below (b := w.heap.size + 1) (v0 := .int .i64 0) (v1 := .int .u64 0) (by constructor <;> go_simp) hb (by first | omega | (simp <;> omega)); obtain ⟨c0t4_1, c1t4_1, f0t4_1, f1t4_1⟩ := Xt4_1; have Lt4_1 : w.heap.size + 1 < w1.heap.size := (by omega); clear hb)) | (go_at_call 92; go_loud (refine (hle _).out.mono ?_; rintro e w2 ⟨rfl, hb⟩; have HB2 := Lib.hid hb; have hs2 := hb.size; (try simp at hs2); have Xt2_2 := Box2.below (b := w.heap.size) (v0 := .int .i64 h) (v1 := .int .u64 l) (by constructor <;> go_simp) hb (by first | omega | (simp <;> omega)); obtain ⟨c0t2_2, c1t2_2, f0t2_2, f1t2_2⟩ := Xt2_2; have Lt2_2 : w.heap.size < w2.heap.size := (by omega); have Xt4_2 := Box2.below (b := w.heap.size + 1) (v0 := .int .i64 0) (v1 := .int .u64 0) (by constructor <;> go_simp) hb (by first | omega | (simp <;> omega)); obtain ⟨c0t4_2, c1t4_2, f0t4_2, f1t4_2⟩ := Xt4_2; have Lt4_2 : w.heap.size + 1 < w2.heap.size := (by omega); clear hb)) | (go_at_call 94; have hmk := M1; clear hmk M1; go_loud (refine (ho1 _).out.mono ?_; rintro e w3 ⟨rfl, hb⟩; have HB3 := Lib.hid hb; have hs3 := hb.size; (try simp at hs3); have Xt4_3 := Box2.below (b := w.heap.size + 1) (v0 := .int .i64 0) (v1 := .int .u64 0) (by constructor <;> go_simp) hb (by first | omega | (simp <;> omega)); obtain ⟨c0t4_3, c1t4_3, f0t4_3, f1t4_3⟩ := Xt4_3; have Lt4_3 : w.heap.size + 1 < w3.heap.size := (by omega); have Xt5_3 := Box2.below (b := w2.heap.size) (v0 := .int .i64 0) (v1 := .int .u64 p) (by constructor <;> go_simp) hb (by first | omega | (simp <;> omega)); obtain ⟨c0t5_3, c1t5_3, f0t5_3, f1t5_3⟩ := Xt5_3; have Lt5_3 : w2.heap.size < w3.heap.size := (by omega); clear hb)) | (go_at_call 94; have hmk := M2; clear hmk M2; go_loud (refine (ho2 _).out.mono ?_; rintro e w4 ⟨rfl, hb⟩; have HB4 := Lib.hid hb; have hs4 := hb.size; (try simp at hs4); have Xt4_4 := Box2.below (b := w.heap.size + 1) (v0 := .int .i64 0) (v1 := .int .u64 0) (by constructor <;> go_simp) hb (by first | omega | (simp <;> omega)); obtain ⟨c0t4_4, c1t4_4, f0t4_4, f1t4_4⟩ := Xt4_4; have Lt4_4 : w.heap.size + 1 < w4.heap.size := (by omega); have Xt8_4 := Box2.below (b := w3.heap.size) (v0 := .int .u64 HI) (v1 := .int .u64 LO) (by constructor <;> go_simp) hb (by first | omega | (simp <;> omega)); obtain ⟨c0t8_4, c1t8_4, f0t8_4, f1t8_4⟩ := Xt8_4; have Lt8_4 : w3.heap.size < w4.heap.size := (by omega); clear hb)))
      obtain ⟨Wb, hWb⟩ : ∃ Wb : World, Wb = ((w4.alloc (.cells #[.int .u64 0, .int .u64 p] 130)).alloc (.cells #[.int .u64 0, .int .u64 0] 130)).alloc (.cells #[.int .u64 0, .int .u64 0] 130) := ⟨_, rfl⟩
      have Yt4 : Box2 Wb (w.heap.size + 1) (.int .i64 0) (.int .u64 0) := by rw [hWb]; exact Box2.below (n := w4.heap.size) ⟨c0t4_4, c1t4_4, f0t4_4, f1t4_4⟩ (by (repeat' (first | exact Below.refl _ _ | refine Below.drew ?_ | refine Below.setCell ?_ (by first | omega | (simp <;> omega)) _ | refine Below.alloc ?_ (by first | omega | (simp <;> omega)) _))) Lt4_4
      have Yt8 : Box2 Wb (w3.heap.size) (.int .u64 HI) (.int .u64 LO) := by rw [hWb]; exact Box2.below (n := w4.heap.size) ⟨c0t8_4, c1t8_4, f0t8_4, f1t8_4⟩ (by (repeat' (first | exact Below.refl _ _ | refine Below.drew ?_ | refine Below.setCell ?_ (by first | omega | (simp <;> omega)) _ | refine Below.alloc ?_ (by first | omega | (simp <;> omega)) _))) Lt8_4
      have Yt10 : Box2 Wb (w4.heap.size) (.int .u64 0) (.int .u64 p) := by rw [hWb]; constructor <;> go_simp
      have Yt11 : Box2 Wb (w4.heap.size + 1) (.int .u64 0) (.int .u64 0) := by rw [hWb]; constructor <;> go_simp
      have Yt12 : Box2 Wb (w4.heap.size + 1 + 1) (.int .u64 0) (.int .u64 0) := by rw [hWb]; constructor <;> go_simp
      have HBb : Hid (Below w4.heap.size w4 Wb) := by rw [hWb]; exact Lib.hid (by (repeat' (first | exact Below.refl _ _ | refine Below.drew ?_ | refine Below.setCell ?_ (by first | omega | (simp <;> omega)) _ | refine Below.alloc ?_ (by first | omega | (simp <;> omega)) _)))
      have hsb : Wb.heap.size = w4.heap.size + 1 + 1 + 1 := by rw [hWb]; simp
      rw [← hWb]
      clear hWb
      clear c0t2_1 c1t2_1 f0t2_1 f1t2_1; clear c0t2_2 c1t2_2 f0t2_2 f1t2_2
      clear c0t4_1 c1t4_1 f0t4_1 f1t4_1; clear c0t4_2 c1t4_2 f0t4_2 f1t4_2
      clear c0t4_3 c1t4_3 f0t4_3 f1t4_3
      clear c0t5_3 c1t5_3 f0t5_3 f1t5_3
      clear c0t4_4 c1t4_4 f0t4_4 f1t4_4
      clear c0t8_4 c1t8_4 f0t8_4 f1t8_4
      obtain ⟨c0t4, c1t4, f0t4, f1t4⟩ := Yt4
      have Lt4 : w.heap.size + 1 < Wb.heap.size := by omega
      obtain ⟨c0t8, c1t8, f0t8, f1t8⟩ := Yt8
      have Lt8 : w3.heap.size < Wb.heap.size := by omega
      obtain ⟨c0t10, c1t10, f0t10, f1t10⟩ := Yt10
      have Lt10 : w4.heap.size < Wb.heap.size := by omega
      obtain ⟨c0t11, c1t11, f0t11, f1t11⟩ := Yt11
      have Lt11 : w4.heap.size + 1 < Wb.heap.size := by omega
      obtain ⟨c0t12, c1t12, f0t12, f1t12⟩ := Yt12
      have Lt12 : w4.heap.size + 1 + 1 < Wb.heap.size := by omega
      go_region
      go_wp2_with (first | (go_at_call 95; go_loud (refine (hsub _).out.mono ?_; rintro e w5 ⟨rfl, hb⟩; have HB5 := Lib.hid hb; have hs5 := hb.size; (try simp at hs5); have Xt4_5 := Box2.below (b := w.heap.size + 1) (v0 := .int .i64 0) (v1 := .int .u64 0) (by constructor <;> go_simp) hb (by first | omega | (simp <;> omega)); obtain ⟨c0t4_5, c1t4_5, f0t4_5, f1t4_5⟩ := Xt4_5; have Lt4_5 : w.heap.size + 1 < w5.heap.size := (by omega); have Xt11_5 := Box2.below (b := w4.heap.size + 1) (v0 := .int .u64 Q1) (v1 := .int .u64 Q2) (by constructor <;> go_simp) hb (by first | omega | (simp <;> omega)); obtain ⟨c0t11_5, c1t11_5, f0t11_5, f1t11_5⟩ := Xt11_5; have Lt11_5 : w4.heap.size + 1 < w5.heap.size := (by omega); have Xt12_5 := Box2.below (b := w4.heap.size + 1 + 1) (v0 := .int .u64 0) (v1 := .int .u64 R) (by constructor <;> go_simp) hb (by first | omega | (simp <;> omega)); obtain ⟨c0t12_5, c1t12_5, f0t12_5, f1t12_5⟩ := Xt12_5; have Lt12_5 : w4.heap.size + 1 + 1 < w5.heap.size := (by omega); clear hb)) | (go_at_call 96; go_loud (refine (hless _).out.mono ?_; rintro e w6 ⟨rfl, hb⟩; have HB6 := Lib.hid hb; have hs6 := hb.size; (try simp at hs6); have Xt4_6 := Box2.below (b := w.heap.size + 1) (v0 := .int .i64 0) (v1 := .int .u64 0) (by constructor <;> go_simp) hb (by first | omega | (simp <;> omega)); obtain ⟨c0t4_6, c1t4_6, f0t4_6, f1t4_6⟩ := Xt4_6; have Lt4_6 : w.heap.size + 1 < w6.heap.size := (by omega); have Xt11_6 := Box2.below (b := w4.heap.size + 1) (v0 := .int .u64 Q1) (v1 := .int .u64 Q2) (by constructor <;> go_simp) hb (by first | omega | (simp <;> omega)); obtain ⟨c0t11_6, c1t11_6, f0t11_6, f1t11_6⟩ := Xt11_6; have Lt11_6 : w4.heap.size + 1 < w6.heap.size := (by omega); have Xt12_6 := Box2.below (b := w4.heap.size + 1 + 1) (v0 := .int .u64 0) (v1 := .int .u64 R) (by constructor <;> go_simp) hb (by first | omega | (simp <;> omega)); obtain ⟨c0t12_6, c1t12_6, f0t12_6, f1t12_6⟩ := Xt12_6; have Lt12_6 : w4.heap.size + 1 + 1 < w6.heap.size := (by omega); have Xt13_6 := Box2.below (b := w5.heap.size) (v0 := .int .u64 0) (v1 := .int .u64 LV) (by constructor <;> go_simp) hb (by first | omega | (simp <;> omega)); obtain ⟨c0t13_6, c1t13_6, f0t13_6, f1t13_6⟩ := Xt13_6; have Lt13_6 : w5.heap.size < w6.heap.size := (by omega); clear hb)) | (go_at_call 97; go_loud (refine (hnx _).out.mono ?_; rintro e w7 ⟨rfl, hb⟩; have HB7 := Lib.hid hb; have hs7 := hb.size; (try simp at hs7); have Xt4_7 := Box2.below (b := w.heap.size + 1) (v0 := .int .i64 0) (v1 := .int .u64 0) (by constructor <;> go_simp) hb (by first | omega | (simp <;> omega)); obtain ⟨c0t4_7, c1t4_7, f0t4_7, f1t4_7⟩ := Xt4_7; have Lt4_7 : w.heap.size + 1 < w7.heap.size := (by omega); have Xt11_7 := Box2.below (b := w4.heap.size + 1) (v0 := .int .u64 Q1) (v1 := .int .u64 Q2) (by constructor <;> go_simp) hb (by first | omega | (simp <;> omega)); obtain ⟨c0t11_7, c1t11_7, f0t11_7, f1t11_7⟩ := Xt11_7; have Lt11_7 : w4.heap.size + 1 < w7.heap.size := (by omega); clear hb)) | (go_at_call 98; go_loud (refine (htd _).out.mono ?_; rintro e w8 ⟨rfl, hb⟩; have HB8 := Lib.hid hb; have hs8 := hb.size; (try simp at hs8); have Xt4_8 := Box2.below (b := w.heap.size + 1) (v0 := .int .i64 0) (v1 := .int .u64 0) (by constructor <;> go_simp) hb (by first | omega | (simp <;> omega)); obtain ⟨c0t4_8, c1t4_8, f0t4_8, f1t4_8⟩ := Xt4_8; have Lt4_8 : w.heap.size + 1 < w8.heap.size := (by omega); clear hb)))
      (try simp only [Exit.noGoto, Exit.inBlock, Exit.then])
      refine bodyPost_ret (v := .agg #[.int .i64 XH, .int .u64 XL]) (by rw [results_c1 rfl]; go_simp) rfl ⟨rfl, ?_⟩
      refine Below.alloc ?_ (by first | omega | (simp <;> omega)) _
      iterate 2 refine Below.setCell ?_ (by first | omega | (simp <;> omega)) _
      exact (Below.trans (by (repeat' (first | exact Below.refl _ _ | refine Below.drew ?_ | refine Below.setCell ?_ (by first | omega | (simp <;> omega)) _ | refine Below.alloc ?_ (by first | omega | (simp <;> omega)) _))) (Below.trans (HB1.out.mono (by first | omega | (simp <;> omega))) (Below.trans (HB2.out.mono (by first | omega | (simp <;> omega))) (Below.trans (by (repeat' (first | exact Below.refl _ _ | refine Below.drew ?_ | refine Below.setCell ?_ (by first | omega | (simp <;> omega)) _ | refine Below.alloc ?_ (by first | omega | (simp <;> omega)) _))) (Below.trans (HB3.out.mono (by first | omega | (simp <;> omega))) (Below.trans (by (repeat' (first | exact Below.refl _ _ | refine Below.drew ?_ | refine Below.setCell ?_ (by first | omega | (simp <;> omega)) _ | refine Below.alloc ?_ (by first | omega | (simp <;> omega)) _))) (Below.trans (HB4.out.mono (by first | omega | (simp <;> omega))) (Below.trans (HBb.out.mono (by first | omega | (simp <;> omega))) (Below.trans (by (repeat' (first | exact Below.refl _ _ | refine Below.drew ?_ | refine Below.setCell ?_ (by first | omega | (simp <;> omega)) _ | refine Below.alloc ?_ (by first | omega | (simp <;> omega)) _))) (Below.trans (HB5.out.mono (by first | omega | (simp <;> omega))) (Below.trans (by (repeat' (first | exact Below.refl _ _ | refine Below.drew ?_ | refine Below.setCell ?_ (by first | omega | (simp <;> omega)) _ | refine Below.alloc ?_ (by first | omega | (simp <;> omega)) _))) (Below.trans (HB6.out.mono (by first | omega | (simp <;> omega))) (HB8.out.mono (by first | omega | (simp <;> omega)))))))))))))))

end Go.Proofs.YtddhhfhammmaaaaGreat
