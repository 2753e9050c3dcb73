/- Walks: the small functions of the statements over tensors. -/
import Derived.Test.YtddhhfhammmaaaaGreatMOut
set_option linter.unusedVariables false
set_option linter.unusedSimpArgs false
namespace Go.Proofs.YtddhhfhammmaaaaGreat
open Go.RowKit Go.Rt

theorem num10_any (e : Int) (w : World) : Calls Tryz.prog 46 #[.int .i64 e] w fun r w' => r = .returned (.int .i64 e) ∧ w = w' := by
  go_enter Tryz.func46, Tryz.ntmps46
  go_wp2
  go_ret
  exact ⟨rfl, rfl⟩



theorem heavyT_any (a b : Option Addr) (n c m d : Nat) (k : Int) (w : World) (hn : n ≤ 9223372036854775807) (hm : m ≤ 9223372036854775807) :
    Calls Tryz.prog 15 #[.agg #[.slice a n c, .slice b m d], .int .i64 k] w fun e w' => e = .returned (.bool (decide (k < m) || decide (8 < n))) ∧ Below w.heap.size w w' := by
  by_cases h1 : k < (m : Int)
  · rw [decide_eq_true h1, Bool.true_or]
    go_enter Tryz.func15, Tryz.ntmps15
    go_wp2
    go_ret
    exact ⟨rfl, (by (repeat' (first | exact Below.refl _ _ | refine below_drewN ?_ _ | refine Below.drew ?_ | refine Below.setCell ?_ (by first | omega | (simp <;> omega)) _ | refine Below.alloc ?_ (by first | omega | (simp <;> omega)) _)))⟩
  · rw [decide_eq_false h1, Bool.false_or]
    by_cases h2 : 8 < n
    · have h3 : (8 : Int) < (n : Int) := by omega
      rw [decide_eq_true h2]
      go_enter Tryz.func15, Tryz.ntmps15
      go_wp2
      go_ret
      exact ⟨rfl, (by (repeat' (first | exact Below.refl _ _ | refine below_drewN ?_ _ | refine Below.drew ?_ | refine Below.setCell ?_ (by first | omega | (simp <;> omega)) _ | refine Below.alloc ?_ (by first | omega | (simp <;> omega)) _)))⟩
    · have h3 : ¬ (8 : Int) < (n : Int) := by omega
      rw [decide_eq_false h2]
      go_enter Tryz.func15, Tryz.ntmps15
      go_wp2
      go_ret
      exact ⟨rfl, (by (repeat' (first | exact Below.refl _ _ | refine below_drewN ?_ _ | refine Below.drew ?_ | refine Below.setCell ?_ (by first | omega | (simp <;> omega)) _ | refine Below.alloc ?_ (by first | omega | (simp <;> omega)) _)))⟩

/-- Is a pair of tensors more than is played? -/
def heavy2 (n m n' m' : Nat) : Bool := (decide ((40 : Int) < m) || decide (8 < n)) || (decide ((40 : Int) < m') || decide (8 < n'))
theorem heavy10_any (a b a' b' : Option Addr) (n c m d n' c' m' d' : Nat) (f : Int) (w : World) (hn : n ≤ 9223372036854775807) (hm : m ≤ 9223372036854775807) (hn' : n' ≤ 9223372036854775807) (hm' : m' ≤ 9223372036854775807) :
    Calls Tryz.prog 4 #[.agg #[.slice a n c, .slice b m d, .slice a' n' c', .slice b' m' d', .int .i64 f]] w fun e w' => e = .returned (.bool (heavy2 n m n' m')) ∧ Below w.heap.size w w' := by
  have h1 := fun w => Lib.hid (heavyT_any a b n c m d 40 w hn hm)
  have h2 := fun w => Lib.hid (heavyT_any a' b' n' c' m' d' 40 w hn' hm')
  unfold heavy2
  generalize (decide ((40 : Int) < m) || decide (8 < n)) = B1 at *
  generalize (decide ((40 : Int) < m') || decide (8 < n')) = B2 at *
  have M1 := True.intro
  have M2 := True.intro
  cases B1
  all_goals
    (try simp only [Bool.false_or, Bool.true_or])
    go_enter Tryz.func4, Tryz.ntmps4
    go_wp2_with (first | (go_at_call 15; have hmk := M1; clear hmk M1; refine (h1 _).out.mono ?_; rintro e w1 ⟨rfl, hb⟩; have HB1 := Lib.hid hb; have hs1 := hb.size; (try simp at hs1); have z0 := hb.cell (p := ⟨w.heap.size, 0, none⟩) (by first | omega | (simp <;> omega)); have z1 := hb.cell (p := ⟨w.heap.size, 1, none⟩) (by first | omega | (simp <;> omega)); have z2 := hb.cell (p := ⟨w.heap.size, 2, none⟩) (by first | omega | (simp <;> omega)); have z3 := hb.cell (p := ⟨w.heap.size, 3, none⟩) (by first | omega | (simp <;> omega)); (try simp at z0); (try simp at z1); (try simp at z2); (try simp at z3); clear hb) | (go_at_call 15; have hmk := M2; clear hmk M2; refine (h2 _).out.mono ?_; rintro e w2 ⟨rfl, hb⟩; have HB2 := Lib.hid hb; clear hb))
    go_ret
    first
      | exact ⟨rfl, Below.trans (by (repeat' (first | exact Below.refl _ _ | refine below_drewN ?_ _ | refine Below.drew ?_ | refine Below.setCell ?_ (by first | omega | (simp <;> omega)) _ | refine Below.alloc ?_ (by first | omega | (simp <;> omega)) _))) (Below.trans (HB1.out.mono (by first | omega | (simp <;> omega))) (HB2.out.mono (by first | omega | (simp <;> omega))))⟩
      | exact ⟨rfl, Below.trans (by (repeat' (first | exact Below.refl _ _ | refine below_drewN ?_ _ | refine Below.drew ?_ | refine Below.setCell ?_ (by first | omega | (simp <;> omega)) _ | refine Below.alloc ?_ (by first | omega | (simp <;> omega)) _))) (HB1.out.mono (by first | omega | (simp <;> omega)))⟩

set_option maxHeartbeats 1000000 in
theorem eqTensor_any (a b a' b' : Option Addr) (c d c' d' : Nat) (xs ys xs' ys' : List Int) (w : World) (h1 : Ints .i64 w w.heap.size a xs) (h2 : Ints .i64 w w.heap.size b ys) (h3 : Ints .i64 w w.heap.size a' xs') (h4 : Ints .i64 w w.heap.size b' ys') :
    Calls Tryz.prog 13 #[.agg #[.slice a xs.length c, .slice b ys.length d], .agg #[.slice a' xs'.length c', .slice b' ys'.length d']] w fun e w' => e = .returned (.bool (decide (xs = xs') && decide (ys = ys'))) ∧ Below w.heap.size w w' := by
  have e1 := fun w' (hb : Below w.heap.size w w') => Lib.hid (eqNumbers_any a a' c c' w.heap.size xs xs' w' (h1.below hb (Nat.le_refl _)) (h3.below hb (Nat.le_refl _)))
  have e2 := fun w' (hb : Below w.heap.size w w') => Lib.hid (eqWords_any b b' d d' w.heap.size ys ys' w' (h2.below hb (Nat.le_refl _)) (h4.below hb (Nat.le_refl _)))
  generalize decide (xs = xs') = B1 at *
  generalize decide (ys = ys') = B2 at *
  clear h1 h2 h3 h4
  cases B1
  all_goals
    (try simp only [Bool.false_and, Bool.true_and])
    go_enter Tryz.func13, Tryz.ntmps13
    go_wp2_with (first | (go_at_call 44; refine (e1 _ (by (repeat' (first | exact Below.refl _ _ | refine below_drewN ?_ _ | refine Below.drew ?_ | refine Below.setCell ?_ (by first | omega | (simp <;> omega)) _ | refine Below.alloc ?_ (by first | omega | (simp <;> omega)) _)))).out.mono ?_; rintro e w' ⟨rfl, q1, rfl⟩) | (go_at_call 45; refine (e2 _ (by (repeat' (first | exact Below.refl _ _ | refine below_drewN ?_ _ | refine Below.drew ?_ | refine Below.setCell ?_ (by first | omega | (simp <;> omega)) _ | refine Below.alloc ?_ (by first | omega | (simp <;> omega)) _)))).out.mono ?_; rintro e w' ⟨rfl, q2, rfl⟩))
    go_ret
    exact ⟨rfl, (by (repeat' (first | exact Below.refl _ _ | refine below_drewN ?_ _ | refine Below.drew ?_ | refine Below.setCell ?_ (by first | omega | (simp <;> omega)) _ | refine Below.alloc ?_ (by first | omega | (simp <;> omega)) _)))⟩
end Go.Proofs.YtddhhfhammmaaaaGreat
