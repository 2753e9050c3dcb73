/- Numbers times powers of 2, and back: Within, Left, and the quotient by a power. -/
import Derived.Test.YtlbmpdidmckgkaaLeft2
set_option linter.unusedVariables false
set_option linter.unusedSimpArgs false
namespace Go.Proofs.Ytlbmpdidmckgkaa
open Go.RowKit Go.Rt

theorem V_split3 (s : Int) : V (s / 18446744073709551616) (s % 18446744073709551616) = s := by unfold V; omega
theorem within60 (i : Int) (w : World) : Calls Try.prog 29 #[.int .i64 i, .int .i64 60] w fun e w' => e = .returned (.int .i64 (i % 18446744073709551616 % 60)) ∧ w = w' := by
  have e1 : IntKind.u64.wrap i = i % 18446744073709551616 := wrapU i
  have e2 : RowKit.wrap64 (i % 18446744073709551616 % 60) = i % 18446744073709551616 % 60 := by unfold RowKit.wrap64; omega
  have e3 : 0 ≤ i % 18446744073709551616 := by omega
  go_enter Try.func29, Try.ntmps29
  go_wp2
  go_ret
  exact ⟨ret_int (by first | rfl | omega), rfl⟩
theorem left_in (h l : Int) (n : Nat) (w : World) (hn : n ≤ 126) (a : WR h l) (hin : inR (V h l * 2 ^ n)) :
    Calls Try.prog 30 #[.agg #[.int .i64 h, .int .u64 l], .int .i64 n] w (RetWE w (V h l * 2 ^ n / 18446744073709551616) (V h l * 2 ^ n % 18446744073709551616) 0) := by
  have hA := A_bounds h l a
  have hs := V_neg h l a
  have hp := pow_pos n
  have h0 : 0 ≤ A h l * 2 ^ n := Int.mul_nonneg hA.1 (by omega)
  have e : V h l * 2 ^ n = if decide (h < 0) = true then -(A h l * 2 ^ n) else A h l * 2 ^ n := by
    rw [← hs]
    by_cases hv : V h l < 0
    · rw [decide_eq_true hv, if_pos rfl]
      unfold A
      rw [if_pos hv, Int.neg_mul, Int.neg_neg]
    · rw [decide_eq_false hv, if_neg (by decide)]
      unfold A
      rw [if_neg hv]
  refine left_of h l n hn a _ _ _ w (fun hlt w => ?_) (fun hlt => ?_)
  · rw [e]
    refine told_in _ _ w h0 ?_
    rw [e] at hin
    unfold inR at hin
    split at hin
    · rename_i hd; rw [if_pos hd]; omega
    · rename_i hd; rw [if_neg hd]; omega
  · exfalso
    rw [e] at hin
    unfold inR at hin
    split at hin <;> omega
theorem left_out (h l : Int) (n : Nat) (w : World) (hn : n ≤ 126) (a : WR h l) (hin : ¬ inR (V h l * 2 ^ n)) :
    Calls Try.prog 30 #[.agg #[.int .i64 h, .int .u64 l], .int .i64 n] w (RetWE w 0 0 3) := by
  have hA := A_bounds h l a
  have hs := V_neg h l a
  have hp := pow_pos n
  have h0 : 0 ≤ A h l * 2 ^ n := Int.mul_nonneg hA.1 (by omega)
  have e : V h l * 2 ^ n = if decide (h < 0) = true then -(A h l * 2 ^ n) else A h l * 2 ^ n := by
    rw [← hs]
    by_cases hv : V h l < 0
    · rw [decide_eq_true hv, if_pos rfl]
      unfold A
      rw [if_pos hv, Int.neg_mul, Int.neg_neg]
    · rw [decide_eq_false hv, if_neg (by decide)]
      unfold A
      rw [if_neg hv]
  refine left_of h l n hn a _ _ _ w (fun hlt w => ?_) (fun _ => ⟨rfl, rfl, rfl⟩)
  refine told_out _ _ w h0 hlt ?_
  rw [e] at hin
  unfold inR at hin
  split at hin
  · rename_i hd; rw [if_pos hd]; omega
  · rename_i hd; rw [if_neg hd]; omega
/-- What Left tells, in range or not. -/
theorem left_tells (s : Int) : ∃ H L Z : Int, ∀ (h l : Int) (n : Nat), n ≤ 126 → WR h l → V h l * 2 ^ n = s → ∀ w, Calls Try.prog 30 #[.agg #[.int .i64 h, .int .u64 l], .int .i64 n] w (RetWE w H L Z) := by
  by_cases hin : inR s
  · exact ⟨_, _, _, fun h l n hn a e w => by have := left_in h l n w hn a (by rw [e]; exact hin); rw [e] at this; exact this⟩
  · exact ⟨_, _, _, fun h l n hn a e w => left_out h l n w hn a (by rw [e]; exact hin)⟩
theorem shift_back (X p : Int) (hp : 1 ≤ p) : roundI (X * p) p = X ∧ downI (X * p) p = X := by
  have ep : absI p = p := by unfold absI; rw [if_neg (by omega)]
  have np : decide (p < 0) = false := by simp; omega
  have ea : absI (X * p) = absI X * p := by
    unfold absI
    by_cases hX : X < 0
    · have h1 : X * p < 0 := Int.mul_neg_of_neg_of_pos hX (by omega)
      rw [if_pos hX, if_pos h1, Int.neg_mul]
    · have : 0 ≤ X * p := Int.mul_nonneg (by omega) (by omega)
      rw [if_neg hX, if_neg (by omega)]
  have eq : absI (X * p) / p = absI X := by rw [ea, Int.mul_ediv_cancel _ (by omega)]
  have er : absI (X * p) % p = 0 := by rw [ea, Int.mul_emod_left]
  have es : decide (X * p < 0) = decide (X < 0) := by
    by_cases hX : X < 0
    · have h1 : X * p < 0 := Int.mul_neg_of_neg_of_pos hX (by omega)
      rw [decide_eq_true hX, decide_eq_true h1]
    · have : 0 ≤ X * p := Int.mul_nonneg (by omega) (by omega)
      rw [decide_eq_false hX, decide_eq_false (by omega)]
  have hu : upR (absI X) 0 p = false := by
    unfold upR
    rw [Int.sub_zero, decide_eq_false (by omega), decide_eq_false (by omega)]
    rfl
  unfold roundI downI
  rw [ep, np, eq, er, es, hu]
  have d0 : decide (¬ (0 : Int) = 0) = false := by decide
  rw [d0, Bool.and_false]
  simp only [Bool.false_eq_true, if_false, Bool.bne_false]
  constructor
  · unfold absI
    by_cases hX : X < 0
    · rw [decide_eq_true hX, if_pos rfl, if_pos hX, Int.neg_neg]
    · rw [decide_eq_false hX, if_neg (by decide), if_neg hX]
  · unfold absI
    by_cases hX : X < 0
    · rw [decide_eq_true hX, if_pos rfl, if_pos hX, Int.neg_neg]
    · rw [decide_eq_false hX, if_neg (by decide), if_neg hX]
theorem pow_le59 (n : Nat) (h : n ≤ 59) : (2 : Int) ^ n ≤ 576460752303423488 := by
  rw [← castPow]
  have := Nat.pow_le_pow_right (show 0 < 2 by decide) h
  have e : (2 : Nat) ^ 59 = 576460752303423488 := by decide
  rw [e] at this
  omega

end Go.Proofs.Ytlbmpdidmckgkaa
