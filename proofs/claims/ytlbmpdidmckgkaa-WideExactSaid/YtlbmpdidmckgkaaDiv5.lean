/- Walks: Round and Down by whatever divide. -/
import Derived.Test.YtlbmpdidmckgkaaDiv4
import Derived.WalkMore
set_option linter.unusedVariables false
set_option linter.unusedSimpArgs false
namespace Go.Proofs.Ytlbmpdidmckgkaa
open Go.RowKit Go.Rt

/-- The quotient, to the nearest, of two to the even one. -/
def roundI (n d : Int) : Int :=
  if (decide (n < 0) != decide (d < 0)) = true then -(if upR (absI n / absI d) (absI n % absI d) (absI d) = true then absI n / absI d + 1 else absI n / absI d)
  else (if upR (absI n / absI d) (absI n % absI d) (absI d) = true then absI n / absI d + 1 else absI n / absI d)
/-- The quotient, rounded down. -/
def downI (n d : Int) : Int :=
  if (decide (n < 0) != decide (d < 0)) = true then -(if ((decide (n < 0) != decide (d < 0)) && decide (¬ absI n % absI d = 0)) = true then absI n / absI d + 1 else absI n / absI d)
  else (if ((decide (n < 0) != decide (d < 0)) && decide (¬ absI n % absI d = 0)) = true then absI n / absI d + 1 else absI n / absI d)

theorem V_neg (h l : Int) (a : WR h l) : decide (V h l < 0) = decide (h < 0) := by
  obtain ⟨_, _, _, _⟩ := a
  by_cases hn : h < 0
  · rw [decide_eq_true hn]; exact decide_eq_true (by unfold V; omega)
  · rw [decide_eq_false hn]; exact decide_eq_false (by unfold V; omega)
theorem A_pos (h l : Int) (a : WR h l) (hz : ¬ (h = 0 ∧ l = 0)) : 1 ≤ A h l := by
  obtain ⟨_, _, _, _⟩ := a
  unfold A V
  split <;> omega

theorem downUp_any (neg : Bool) (q r d : Int) (w : World) (r0 : 0 ≤ r) (r1 : r < 340282366920938463463374607431768211456) :
    Calls Try.prog 52 #[.bool neg, .agg #[.int .u64 (q / 18446744073709551616), .int .u64 (q % 18446744073709551616)], .agg #[.int .u64 (r / 18446744073709551616), .int .u64 (r % 18446744073709551616)], .agg #[.int .u64 (d / 18446744073709551616), .int .u64 (d % 18446744073709551616)]] w fun e w' => e = .returned (.bool (neg && decide (¬ r = 0))) ∧ Below w.heap.size w w' := by
  obtain ⟨R1, hR1⟩ : ∃ y, r / 18446744073709551616 = y := ⟨_, rfl⟩
  obtain ⟨R2, hR2⟩ : ∃ y, r % 18446744073709551616 = y := ⟨_, rfl⟩
  obtain ⟨Q1, hQ1⟩ : ∃ y, q / 18446744073709551616 = y := ⟨_, rfl⟩
  obtain ⟨Q2, hQ2⟩ : ∃ y, q % 18446744073709551616 = y := ⟨_, rfl⟩
  obtain ⟨D1, hD1⟩ : ∃ y, d / 18446744073709551616 = y := ⟨_, rfl⟩
  obtain ⟨D2, hD2⟩ : ∃ y, d % 18446744073709551616 = y := ⟨_, rfl⟩
  rw [hR1, hR2, hQ1, hQ2, hD1, hD2]
  cases neg with
  | false =>
    rw [Bool.false_and]
    clear hR1 hR2 hQ1 hQ2 hD1 hD2
    go_enter Try.func52, Try.ntmps52
    go_wp2
    go_ret
    exact ⟨rfl, (by (repeat' (first | exact Below.refl _ _ | refine Below.drew ?_ | refine Below.setCell ?_ (by first | omega | (simp <;> omega)) _ | refine Below.alloc ?_ (by first | omega | (simp <;> omega)) _)))⟩
  | true =>
    rw [Bool.true_and]
    by_cases h0 : r = 0
    · have e1 : R1 = 0 := by omega
      have e2 : R2 = 0 := by omega
      have e3 : decide (¬ r = 0) = false := by simp; exact h0
      rw [e3]
      clear hR1 hR2 hQ1 hQ2 hD1 hD2 h0 e3
      subst e1; subst e2
      go_enter Try.func52, Try.ntmps52
      go_wp2
      go_ret
      exact ⟨rfl, (by (repeat' (first | exact Below.refl _ _ | refine Below.drew ?_ | refine Below.setCell ?_ (by first | omega | (simp <;> omega)) _ | refine Below.alloc ?_ (by first | omega | (simp <;> omega)) _)))⟩
    · rw [decide_eq_true h0]
      by_cases e1 : R1 = 0
      · have e2 : ¬ R2 = 0 := by omega
        have e3 : (R2 == 0) = false := by simp; exact e2
        clear hR1 hR2 hQ1 hQ2 hD1 hD2 h0
        subst e1
        go_enter Try.func52, Try.ntmps52
        go_wp2
        go_ret
        exact ⟨rfl, (by (repeat' (first | exact Below.refl _ _ | refine Below.drew ?_ | refine Below.setCell ?_ (by first | omega | (simp <;> omega)) _ | refine Below.alloc ?_ (by first | omega | (simp <;> omega)) _)))⟩
      · have e3 : (R1 == 0) = false := by simp; exact e1
        clear hR1 hR2 hQ1 hQ2 hD1 hD2 h0
        go_enter Try.func52, Try.ntmps52
        go_wp2
        go_ret
        exact ⟨rfl, (by (repeat' (first | exact Below.refl _ _ | refine Below.drew ?_ | refine Below.setCell ?_ (by first | omega | (simp <;> omega)) _ | refine Below.alloc ?_ (by first | omega | (simp <;> omega)) _)))⟩

theorem round_wrap (h l h' l' H L Z : Int) (w : World) (hov : ∀ w, Calls Try.prog 48 #[.agg #[.int .i64 h, .int .u64 l], .agg #[.int .i64 h', .int .u64 l'], .func (.func 49) #[] #[]] w (RetWE w H L Z)) :
    Calls Try.prog 14 #[.agg #[.int .i64 h, .int .u64 l], .agg #[.int .i64 h', .int .u64 l']] w (RetWE w H L Z) := by
  have hov2 := fun w => Lib.hid (hov w)
  clear hov
  go_enter Try.func14, Try.ntmps14
  go_wp2_with (first
    | (go_at_call 48; go_loud (refine (hov2 _).out.mono ?_; rintro e w1 ⟨rfl, hb⟩; have HB1 := Lib.hid hb; have hs1 := hb.size; (try simp at hs1); have X := Box2.below (b := w.heap.size + 1 + 1) (v0 := .int .i64 0) (v1 := .int .u64 0) (by constructor <;> go_simp) hb (by first | omega | (simp <;> omega)); obtain ⟨xc0, xc1, xf0, xf1⟩ := X; clear hb)))
  (try simp only [Exit.noGoto, Exit.inBlock, Exit.then])
  refine bodyPost_ret (v := .tuple #[.agg #[.int .i64 H, .int .u64 L], .int .i64 Z]) (by rw [results_ct rfl]; go_simp) rfl ⟨rfl, ?_⟩
  iterate 2 refine Below.setCell ?_ (by first | omega | (simp <;> omega)) _
  exact Below.trans (by (repeat' (first | exact Below.refl _ _ | refine Below.drew ?_ | refine Below.setCell ?_ (by first | omega | (simp <;> omega)) _ | refine Below.alloc ?_ (by first | omega | (simp <;> omega)) _))) (HB1.out.mono (by first | omega | (simp <;> omega)))

theorem down_wrap (h l h' l' H L Z : Int) (w : World) (hov : ∀ w, Calls Try.prog 48 #[.agg #[.int .i64 h, .int .u64 l], .agg #[.int .i64 h', .int .u64 l'], .func (.func 52) #[] #[]] w (RetWE w H L Z)) :
    Calls Try.prog 15 #[.agg #[.int .i64 h, .int .u64 l], .agg #[.int .i64 h', .int .u64 l']] w (RetWE w H L Z) := by
  have hov2 := fun w => Lib.hid (hov w)
  clear hov
  go_enter Try.func15, Try.ntmps15
  go_wp2_with (first
    | (go_at_call 48; go_loud (refine (hov2 _).out.mono ?_; rintro e w1 ⟨rfl, hb⟩; have HB1 := Lib.hid hb; have hs1 := hb.size; (try simp at hs1); have X := Box2.below (b := w.heap.size + 1 + 1) (v0 := .int .i64 0) (v1 := .int .u64 0) (by constructor <;> go_simp) hb (by first | omega | (simp <;> omega)); obtain ⟨xc0, xc1, xf0, xf1⟩ := X; clear hb)))
  (try simp only [Exit.noGoto, Exit.inBlock, Exit.then])
  refine bodyPost_ret (v := .tuple #[.agg #[.int .i64 H, .int .u64 L], .int .i64 Z]) (by rw [results_ct rfl]; go_simp) rfl ⟨rfl, ?_⟩
  iterate 2 refine Below.setCell ?_ (by first | omega | (simp <;> omega)) _
  exact Below.trans (by (repeat' (first | exact Below.refl _ _ | refine Below.drew ?_ | refine Below.setCell ?_ (by first | omega | (simp <;> omega)) _ | refine Below.alloc ?_ (by first | omega | (simp <;> omega)) _))) (HB1.out.mono (by first | omega | (simp <;> omega)))

/-- round: what is told, by whatever divide. -/
theorem round_of (h l h' l' : Int) (w : World) (a : WR h l) (b : WR h' l') (hz : ¬ (h' = 0 ∧ l' = 0)) (hd : ∀ w, Div (A h l) (A h' l') w) :
    (inR (roundI (V h l) (V h' l')) → Calls Try.prog 14 #[.agg #[.int .i64 h, .int .u64 l], .agg #[.int .i64 h', .int .u64 l']] w (RetWE w (roundI (V h l) (V h' l') / 18446744073709551616) (roundI (V h l) (V h' l') % 18446744073709551616) 0)) ∧
    (¬ inR (roundI (V h l) (V h' l')) → Calls Try.prog 14 #[.agg #[.int .i64 h, .int .u64 l], .agg #[.int .i64 h', .int .u64 l']] w (RetWE w 0 0 3)) := by
  have ba := A_bounds h l a
  have bb := A_bounds h' l' b
  have bp : 1 ≤ A h' l' := A_pos h' l' b hz
  have e1 : decide (V h l < 0) = decide (h < 0) := V_neg h l a
  have e2 : decide (V h' l' < 0) = decide (h' < 0) := V_neg h' l' b
  have q0 : 0 ≤ A h l / A h' l' := Int.ediv_nonneg ba.1 (by omega)
  have q1 : A h l / A h' l' ≤ 170141183460469231731687303715884105728 := Int.le_trans (Int.ediv_le_self _ ba.1) ba.2
  have r0 : 0 ≤ A h l % A h' l' := Int.emod_nonneg _ (by omega)
  have r1 : A h l % A h' l' < A h' l' := Int.emod_lt_of_pos _ (by omega)
  have eX : roundI (V h l) (V h' l') = if (decide (h < 0) != decide (h' < 0)) = true then -(if upR (A h l / A h' l') (A h l % A h' l') (A h' l') = true then A h l / A h' l' + 1 else A h l / A h' l') else (if upR (A h l / A h' l') (A h l % A h' l') (A h' l') = true then A h l / A h' l' + 1 else A h l / A h' l') := by
    unfold roundI
    rw [e1, e2]
    rfl
  have eS : (if upR (A h l / A h' l') (A h l % A h' l') (A h' l') = true then A h l / A h' l' + 1 else A h l / A h' l') % 340282366920938463463374607431768211456 = (if upR (A h l / A h' l') (A h l % A h' l') (A h' l') = true then A h l / A h' l' + 1 else A h l / A h' l') := by
    split <;> omega
  have s0 : 0 ≤ (if upR (A h l / A h' l') (A h l % A h' l') (A h' l') = true then A h l / A h' l' + 1 else A h l / A h' l') ∧ (if upR (A h l / A h' l') (A h l % A h' l') (A h' l') = true then A h l / A h' l' + 1 else A h l / A h' l') < 340282366920938463463374607431768211456 := by
    split <;> omega
  have hup : ∀ w, Calls Try.prog 49 #[.bool (decide (h < 0) != decide (h' < 0)), .agg #[.int .u64 ((A h l / A h' l') / 18446744073709551616), .int .u64 ((A h l / A h' l') % 18446744073709551616)], .agg #[.int .u64 ((A h l % A h' l') / 18446744073709551616), .int .u64 ((A h l % A h' l') % 18446744073709551616)], .agg #[.int .u64 (A h' l' / 18446744073709551616), .int .u64 (A h' l' % 18446744073709551616)]] w fun e w' => e = .returned (.bool (upR (A h l / A h' l') (A h l % A h' l') (A h' l'))) ∧ Below w.heap.size w w' :=
    fun w => upR_any _ _ _ _ w q0 (by omega) r0 (by omega) (by omega)
  constructor
  · intro hin
    refine round_wrap h l h' l' _ _ _ w (fun w => over_round h l h' l' _ _ (upR (A h l / A h' l') (A h l % A h' l') (A h' l')) _ _ _ w a b hz q0 (by omega) hd hup (fun w => ?_))
    rw [eS, eX]
    refine told_in _ _ w s0.1 ?_
    rw [eX] at hin
    revert hin
    generalize (if upR (A h l / A h' l') (A h l % A h' l') (A h' l') = true then A h l / A h' l' + 1 else A h l / A h' l') = s
    intro hin
    unfold inR at hin
    split
    · rename_i hn
      rw [if_pos hn] at hin
      omega
    · rename_i hn
      rw [if_neg hn] at hin
      omega
  · intro hin
    refine round_wrap h l h' l' _ _ _ w (fun w => over_round h l h' l' _ _ (upR (A h l / A h' l') (A h l % A h' l') (A h' l')) _ _ _ w a b hz q0 (by omega) hd hup (fun w => ?_))
    rw [eS]
    refine told_out _ _ w s0.1 s0.2 ?_
    rw [eX] at hin
    revert hin s0
    generalize (if upR (A h l / A h' l') (A h l % A h' l') (A h' l') = true then A h l / A h' l' + 1 else A h l / A h' l') = s
    intro s0 hin
    unfold inR at hin
    split
    · rename_i hn
      rw [if_pos hn] at hin
      omega
    · rename_i hn
      rw [if_neg hn] at hin
      omega

/-- down: what is told, by whatever divide. -/
theorem down_of (h l h' l' : Int) (w : World) (a : WR h l) (b : WR h' l') (hz : ¬ (h' = 0 ∧ l' = 0)) (hd : ∀ w, Div (A h l) (A h' l') w) :
    (inR (downI (V h l) (V h' l')) → Calls Try.prog 15 #[.agg #[.int .i64 h, .int .u64 l], .agg #[.int .i64 h', .int .u64 l']] w (RetWE w (downI (V h l) (V h' l') / 18446744073709551616) (downI (V h l) (V h' l') % 18446744073709551616) 0)) ∧
    (¬ inR (downI (V h l) (V h' l')) → Calls Try.prog 15 #[.agg #[.int .i64 h, .int .u64 l], .agg #[.int .i64 h', .int .u64 l']] w (RetWE w 0 0 3)) := by
  have ba := A_bounds h l a
  have bb := A_bounds h' l' b
  have bp : 1 ≤ A h' l' := A_pos h' l' b hz
  have e1 : decide (V h l < 0) = decide (h < 0) := V_neg h l a
  have e2 : decide (V h' l' < 0) = decide (h' < 0) := V_neg h' l' b
  have q0 : 0 ≤ A h l / A h' l' := Int.ediv_nonneg ba.1 (by omega)
  have q1 : A h l / A h' l' ≤ 170141183460469231731687303715884105728 := Int.le_trans (Int.ediv_le_self _ ba.1) ba.2
  have r0 : 0 ≤ A h l % A h' l' := Int.emod_nonneg _ (by omega)
  have r1 : A h l % A h' l' < A h' l' := Int.emod_lt_of_pos _ (by omega)
  have eX : downI (V h l) (V h' l') = if (decide (h < 0) != decide (h' < 0)) = true then -(if ((decide (h < 0) != decide (h' < 0)) && decide (¬ A h l % A h' l' = 0)) = true then A h l / A h' l' + 1 else A h l / A h' l') else (if ((decide (h < 0) != decide (h' < 0)) && decide (¬ A h l % A h' l' = 0)) = true then A h l / A h' l' + 1 else A h l / A h' l') := by
    unfold downI
    rw [e1, e2]
    rfl
  have eS : (if ((decide (h < 0) != decide (h' < 0)) && decide (¬ A h l % A h' l' = 0)) = true then A h l / A h' l' + 1 else A h l / A h' l') % 340282366920938463463374607431768211456 = (if ((decide (h < 0) != decide (h' < 0)) && decide (¬ A h l % A h' l' = 0)) = true then A h l / A h' l' + 1 else A h l / A h' l') := by
    split <;> omega
  have s0 : 0 ≤ (if ((decide (h < 0) != decide (h' < 0)) && decide (¬ A h l % A h' l' = 0)) = true then A h l / A h' l' + 1 else A h l / A h' l') ∧ (if ((decide (h < 0) != decide (h' < 0)) && decide (¬ A h l % A h' l' = 0)) = true then A h l / A h' l' + 1 else A h l / A h' l') < 340282366920938463463374607431768211456 := by
    split <;> omega
  have hup : ∀ w, Calls Try.prog 52 #[.bool (decide (h < 0) != decide (h' < 0)), .agg #[.int .u64 ((A h l / A h' l') / 18446744073709551616), .int .u64 ((A h l / A h' l') % 18446744073709551616)], .agg #[.int .u64 ((A h l % A h' l') / 18446744073709551616), .int .u64 ((A h l % A h' l') % 18446744073709551616)], .agg #[.int .u64 (A h' l' / 18446744073709551616), .int .u64 (A h' l' % 18446744073709551616)]] w fun e w' => e = .returned (.bool (((decide (h < 0) != decide (h' < 0)) && decide (¬ A h l % A h' l' = 0)))) ∧ Below w.heap.size w w' :=
    fun w => downUp_any _ _ _ _ w r0 (by omega)
  constructor
  · intro hin
    refine down_wrap h l h' l' _ _ _ w (fun w => over_down h l h' l' _ _ (((decide (h < 0) != decide (h' < 0)) && decide (¬ A h l % A h' l' = 0))) _ _ _ w a b hz q0 (by omega) hd hup (fun w => ?_))
    rw [eS, eX]
    refine told_in _ _ w s0.1 ?_
    rw [eX] at hin
    revert hin
    generalize (if ((decide (h < 0) != decide (h' < 0)) && decide (¬ A h l % A h' l' = 0)) = true then A h l / A h' l' + 1 else A h l / A h' l') = s
    intro hin
    unfold inR at hin
    split
    · rename_i hn
      rw [if_pos hn] at hin
      omega
    · rename_i hn
      rw [if_neg hn] at hin
      omega
  · intro hin
    refine down_wrap h l h' l' _ _ _ w (fun w => over_down h l h' l' _ _ (((decide (h < 0) != decide (h' < 0)) && decide (¬ A h l % A h' l' = 0))) _ _ _ w a b hz q0 (by omega) hd hup (fun w => ?_))
    rw [eS]
    refine told_out _ _ w s0.1 s0.2 ?_
    rw [eX] at hin
    revert hin s0
    generalize (if ((decide (h < 0) != decide (h' < 0)) && decide (¬ A h l % A h' l' = 0)) = true then A h l / A h' l' + 1 else A h l / A h' l') = s
    intro s0 hin
    unfold inR at hin
    split
    · rename_i hn
      rw [if_pos hn] at hin
      omega
    · rename_i hn
      rw [if_neg hn] at hin
      omega

end Go.Proofs.Ytlbmpdidmckgkaa
