/- Walks: comparisons and signs of wide numbers. -/
import Derived.Test.YtlbmpdidmckgkaaWide1
set_option linter.unusedVariables false
set_option linter.unusedSimpArgs false
namespace Go.Proofs.Ytlbmpdidmckgkaa
open Go.RowKit Go.Rt

theorem cmp_any (h l h' l' : Int) (w : World) (a : WR h l) (b : WR h' l') :
    Calls Try.prog 31 #[.agg #[.int .i64 h, .int .u64 l], .agg #[.int .i64 h', .int .u64 l']] w fun e w' => e = .returned (.int .i64 (cmpI (V h l) (V h' l'))) ∧ Below w.heap.size w w' := by
  obtain ⟨a0, a1, a2, a3⟩ := a
  obtain ⟨b0, b1, b2, b3⟩ := b
  go_enter Try.func31, Try.ntmps31
  go_wp2
  all_goals (try simp only [Exit.inBlock, Exit.then])
  all_goals go_ret
  all_goals refine ⟨ret_int ?_, (by (repeat' (first | exact Below.refl _ _ | refine Below.drew ?_ | refine Below.setCell ?_ (by first | omega | (simp <;> omega)) _ | refine Below.alloc ?_ (by first | omega | (simp <;> omega)) _)))⟩
  all_goals (unfold cmpI V; (repeat' split) <;> omega)

theorem sign_any (h l : Int) (w : World) (a : WR h l) :
    Calls Try.prog 32 #[.agg #[.int .i64 h, .int .u64 l]] w fun e w' => e = .returned (.int .i64 (cmpI (V h l) 0)) ∧ Below w.heap.size w w' := by
  obtain ⟨a0, a1, a2, a3⟩ := a
  go_enter Try.func32, Try.ntmps32
  go_wp2
  all_goals (try simp only [Exit.inBlock, Exit.then])
  all_goals go_ret
  all_goals refine ⟨ret_int ?_, (by (repeat' (first | exact Below.refl _ _ | refine Below.drew ?_ | refine Below.setCell ?_ (by first | omega | (simp <;> omega)) _ | refine Below.alloc ?_ (by first | omega | (simp <;> omega)) _)))⟩
  all_goals (unfold cmpI V; (repeat' split))
  all_goals first | omega | (simp at *; omega)

theorem small_any (h l : Int) (w : World) (a : WR h l) :
    Calls Try.prog 19 #[.agg #[.int .i64 h, .int .u64 l]] w fun e w' => e = .returned (.tuple #[.int .i64 (if -9223372036854775808 ≤ V h l ∧ V h l ≤ 9223372036854775807 then V h l else 0), .bool (decide (-9223372036854775808 ≤ V h l ∧ V h l ≤ 9223372036854775807))]) ∧ Below w.heap.size w w' := by
  obtain ⟨a0, a1, a2, a3⟩ := a
  by_cases hr : -9223372036854775808 ≤ V h l ∧ V h l ≤ 9223372036854775807
  · rw [if_pos hr, decide_eq_true hr]
    unfold V at hr ⊢
    have e1 : RowKit.wrap64 l = h * 18446744073709551616 + l := by unfold RowKit.wrap64; omega
    have e2 : (h * 18446744073709551616 + l) / 9223372036854775808 = h := by omega
    go_enter Try.func19, Try.ntmps19
    go_wp2
    exact bodyPost_ret (by rw [results_tmp2 rfl]; go_simp <;> omega) rfl ⟨rfl, (by (repeat' (first | exact Below.refl _ _ | refine Below.drew ?_ | refine Below.setCell ?_ (by first | omega | (simp <;> omega)) _ | refine Below.alloc ?_ (by first | omega | (simp <;> omega)) _)))⟩
  · rw [if_neg hr, decide_eq_false hr]
    unfold V at hr
    obtain ⟨Z, hZ⟩ : ∃ y, RowKit.wrap64 l = y := ⟨_, rfl⟩
    have e2 : ¬ Z / 9223372036854775808 = h := by rw [← hZ]; unfold RowKit.wrap64; omega
    have e3 : (Z / 9223372036854775808 == h) = false := by simp; exact e2
    go_enter Try.func19, Try.ntmps19
    go_wp2
    exact bodyPost_ret (by rw [results_tmp2 rfl]; go_simp <;> omega) rfl ⟨rfl, (by (repeat' (first | exact Below.refl _ _ | refine Below.drew ?_ | refine Below.setCell ?_ (by first | omega | (simp <;> omega)) _ | refine Below.alloc ?_ (by first | omega | (simp <;> omega)) _)))⟩

theorem sgn_any (x y : Int) (w : World) :
    Calls Try.prog 35 #[.int .i64 x, .int .i64 y] w fun e w' => e = .returned (.int .i64 (cmpI x y)) ∧ Below w.heap.size w w' := by
  go_enter Try.func35, Try.ntmps35
  go_wp2
  all_goals (try simp only [Exit.inBlock, Exit.then])
  all_goals go_ret
  all_goals refine ⟨ret_int ?_, (by (repeat' (first | exact Below.refl _ _ | refine Below.drew ?_ | refine Below.setCell ?_ (by first | omega | (simp <;> omega)) _ | refine Below.alloc ?_ (by first | omega | (simp <;> omega)) _)))⟩
  all_goals (unfold cmpI; (repeat' split) <;> omega)

end Go.Proofs.Ytlbmpdidmckgkaa
