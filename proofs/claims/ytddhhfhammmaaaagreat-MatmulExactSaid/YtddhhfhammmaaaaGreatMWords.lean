/- Walks: words: what is one, narrowed, shifted; lists of words. -/
import Derived.Test.YtddhhfhammmaaaaGreatMShift
import Derived.Test.YtddhhfhammmaaaaGreatMList
set_option linter.unusedVariables false
set_option linter.unusedSimpArgs false
namespace Go.Proofs.YtddhhfhammmaaaaGreat
open Go.RowKit Go.Rt

/-- Is it a word? -/
def isW (v : Int) : Bool := decide (-140737488355328 < v) && decide (v < 140737488355328)
theorem isW_iff {v : Int} : isW v = true ↔ -140737488355328 < v ∧ v < 140737488355328 := by simp [isW]
theorem fxGood_any (v : Int) (w : World) : Calls Tryz.prog 75 #[.int .i64 v] w fun e w' => e = .returned (.bool (isW v)) ∧ w = w' := by
  by_cases h1 : -140737488355328 < v
  · by_cases h2 : v < 140737488355328
    · have e1 : isW v = true := by unfold isW; rw [decide_eq_true h1, decide_eq_true h2]; rfl
      rw [e1]
      go_enter Tryz.func75, Tryz.ntmps75
      go_wp2
      go_ret
      exact ⟨rfl, rfl⟩
    · have e1 : isW v = false := by unfold isW; rw [decide_eq_true h1, decide_eq_false h2]; rfl
      rw [e1]
      go_enter Tryz.func75, Tryz.ntmps75
      go_wp2
      go_ret
      exact ⟨rfl, rfl⟩
  · have e1 : isW v = false := by unfold isW; rw [decide_eq_false h1]; rfl
    rw [e1]
    go_enter Tryz.func75, Tryz.ntmps75
    go_wp2
    go_ret
    exact ⟨rfl, rfl⟩
theorem ref2May_any (v : Int) (w : World) : Calls Tryz.prog 47 #[.int .i64 v] w fun e w' => e = .returned (.bool (isW v)) ∧ w = w' := by
  by_cases h1 : -140737488355328 < v
  · by_cases h2 : v < 140737488355328
    · have e1 : isW v = true := by unfold isW; rw [decide_eq_true h1, decide_eq_true h2]; rfl
      rw [e1]
      go_enter Tryz.func47, Tryz.ntmps47
      go_wp2
      go_ret
      exact ⟨rfl, rfl⟩
    · have e1 : isW v = false := by unfold isW; rw [decide_eq_true h1, decide_eq_false h2]; rfl
      rw [e1]
      go_enter Tryz.func47, Tryz.ntmps47
      go_wp2
      go_ret
      exact ⟨rfl, rfl⟩
  · have e1 : isW v = false := by unfold isW; rw [decide_eq_false h1]; rfl
    rw [e1]
    go_enter Tryz.func47, Tryz.ntmps47
    go_wp2
    go_ret
    exact ⟨rfl, rfl⟩
theorem goodF_any (v : Int) (w : World) : Calls Tryz.prog 35 #[.int .i64 v] w fun e w' => e = .returned (.bool (decide (8 ≤ v) && decide (v ≤ 32))) ∧ w = w' := by
  by_cases h1 : 8 ≤ v
  · by_cases h2 : v ≤ 32
    · rw [decide_eq_true h1, decide_eq_true h2]
      go_enter Tryz.func35, Tryz.ntmps35
      go_wp2
      go_ret
      exact ⟨rfl, rfl⟩
    · rw [decide_eq_true h1, decide_eq_false h2]
      go_enter Tryz.func35, Tryz.ntmps35
      go_wp2
      go_ret
      exact ⟨rfl, rfl⟩
  · rw [decide_eq_false h1]
    go_enter Tryz.func35, Tryz.ntmps35
    go_wp2
    go_ret
    exact ⟨rfl, rfl⟩

/-- What a number is as a word: the word, the error. -/
def wordV (x : Int) : Int := if isW x = true then x else 0
def wordE (x : Int) : Int := if isW x = true then 0 else 3
def RetV (v z : Int) (e : Ending) : Prop := e = .returned (.tuple #[.int .i64 v, .int .i64 z])

theorem word_any (v : Int) (w : World) : Calls Tryz.prog 91 #[.int .i64 v] w fun e w' => RetV (wordV v) (wordE v) e ∧ w = w' := by
  have hg := fun w => Lib.hid (fxGood_any v w)
  unfold wordV wordE
  cases h : isW v
  all_goals
    rw [h] at hg
    simp only [if_true, Bool.false_eq_true, if_false]
    go_enter Tryz.func91, Tryz.ntmps91
    go_wp2_with (first | (go_at_call 75; refine (hg _).out.mono ?_; rintro e w' ⟨rfl, rfl⟩))
    exact bodyPost_ret (by rw [results_tmp2 rfl]; go_simp) rfl ⟨rfl, rfl⟩

theorem narrow_any (h l : Int) (w : World) (a : WR h l) : Calls Tryz.prog 67 #[.agg #[.int .i64 h, .int .u64 l]] w fun e w' => RetV (wordV (V h l)) (wordE (V h l)) e ∧ Below w.heap.size w w' := by
  have hs := fun w => Lib.hid (small_any h l w a)
  by_cases hr : -9223372036854775808 ≤ V h l ∧ V h l ≤ 9223372036854775807
  · rw [if_pos hr, decide_eq_true hr] at hs
    have hw := fun w => Lib.hid (word_any (V h l) w)
    generalize V h l = X at hs hw ⊢
    generalize wordV X = XV at hw ⊢
    generalize wordE X = XE at hw ⊢
    clear hr
    go_enter Tryz.func67, Tryz.ntmps67
    go_wp2_with (first | (go_at_call 90; refine (hs _).out.mono ?_; rintro e w1 ⟨rfl, hb⟩; have HB1 := Lib.hid hb; clear hb) | (go_at_call 91; refine (hw _).out.mono ?_; rintro e w' ⟨he, rfl⟩; unfold RetV at he; subst he))
    exact bodyPost_ret (by rw [results_tmp2 rfl]; go_simp) rfl ⟨rfl, Below.trans (by (repeat' (first | exact Below.refl _ _ | refine Below.drew ?_ | refine Below.setCell ?_ (by first | omega | (simp <;> omega)) _ | refine Below.alloc ?_ (by first | omega | (simp <;> omega)) _))) (HB1.out.mono (by first | omega | (simp <;> omega)))⟩
  · rw [if_neg hr, decide_eq_false hr] at hs
    have e1 : isW (V h l) = false := by
      cases hb : isW (V h l) with
      | false => rfl
      | true => have := isW_iff.1 hb; omega
    have e2 : wordV (V h l) = 0 := by unfold wordV; rw [e1]; rfl
    have e3 : wordE (V h l) = 3 := by unfold wordE; rw [e1]; rfl
    rw [e2, e3]
    clear e1 e2 e3 hr
    go_enter Tryz.func67, Tryz.ntmps67
    go_wp2_with (first | (go_at_call 90; refine (hs _).out.mono ?_; rintro e w1 ⟨rfl, hb⟩; have HB1 := Lib.hid hb; clear hb))
    exact bodyPost_ret (by rw [results_tmp2 rfl]; go_simp) rfl ⟨rfl, Below.trans (by (repeat' (first | exact Below.refl _ _ | refine Below.drew ?_ | refine Below.setCell ?_ (by first | omega | (simp <;> omega)) _ | refine Below.alloc ?_ (by first | omega | (simp <;> omega)) _))) (HB1.out.mono (by first | omega | (simp <;> omega)))⟩

/-- A wide number over a power of 2, as a word. -/
def shI (s : Int) (n : Nat) : Int := roundI s (2 ^ n)
theorem roundI_bound (s p : Int) (hp : 2 ≤ p) (h : inR s) : inR (roundI s p) := by
  have ep : absI p = p := by unfold absI; rw [if_neg (by omega)]
  have h0 : 0 ≤ absI s := by unfold absI; split <;> omega
  have q0 : 0 ≤ absI s / p := Int.ediv_nonneg h0 (by omega)
  have q1 : absI s / p * 2 ≤ absI s := by
    have h1 := Int.ediv_mul_le (absI s) (show p ≠ 0 by omega)
    have h2 := Int.mul_le_mul_of_nonneg_left hp q0
    omega
  have h2 : absI s ≤ 170141183460469231731687303715884105728 := by unfold inR at h; unfold absI; split <;> omega
  unfold roundI
  rw [ep]
  unfold inR
  split <;> split <;> omega
theorem shifted_any (h l : Int) (n : Nat) (w : World) (hn1 : 1 ≤ n) (hn : n ≤ 62) (a : WR h l) :
    Calls Tryz.prog 38 #[.agg #[.int .i64 h, .int .u64 l], .int .i64 n] w fun e w' => RetV (wordV (shI (V h l) n)) (wordE (shI (V h l) n)) e ∧ Below w.heap.size w w' := by
  have hs := fun w => Lib.hid (shift_any h l n w hn1 hn a)
  have hp2 : (2 : Int) ≤ 2 ^ n := by
    rw [← castPow]
    have := Nat.pow_le_pow_right (show 0 < 2 by decide) hn1
    omega
  have hin : inR (roundI (V h l) (2 ^ n)) := roundI_bound _ _ hp2 (by obtain ⟨_, _, _, _⟩ := a; unfold V inR; omega)
  unfold shI
  generalize roundI (V h l) (2 ^ n) = X at hs hin ⊢
  have hW : WR (X / 18446744073709551616) (X % 18446744073709551616) := by unfold inR at hin; exact ⟨by omega, by omega, by omega, by omega⟩
  have hw := fun w => Lib.hid (narrow_any _ _ w hW)
  rw [V_split3] at hw
  generalize X / 18446744073709551616 = XH at hs hw
  generalize X % 18446744073709551616 = XL at hs hw
  generalize wordV X = XV at hw ⊢
  generalize wordE X = XE at hw ⊢
  clear hW hin hp2
  go_enter Tryz.func38, Tryz.ntmps38
  go_wp2_with (first | (go_at_call 68; refine (hs _).out.mono ?_; rintro e w1 ⟨rfl, hb⟩; have HB1 := Lib.hid hb; clear hb) | (go_at_call 67; refine (hw _).out.mono ?_; rintro e w2 ⟨he, hb⟩; unfold RetV at he; subst he; have HB2 := Lib.hid hb; have hs2 := hb.size; clear hb))
  have hs1 := HB1.out.size
  (try simp at hs1)
  exact bodyPost_ret (by rw [results_tmp2 rfl]; go_simp) rfl ⟨rfl, Below.trans (by (repeat' (first | exact Below.refl _ _ | refine Below.drew ?_ | refine Below.setCell ?_ (by first | omega | (simp <;> omega)) _ | refine Below.alloc ?_ (by first | omega | (simp <;> omega)) _))) (Below.trans (HB1.out.mono (by first | omega | (simp <;> omega))) (HB2.out.mono (by first | omega | (simp <;> omega))))⟩

/-- The reference's Words. -/
theorem words_any (a : Option Addr) (c hi : Nat) (xs : List Int) (w : World) (h : Ints .i64 w hi a xs) :
    Calls Tryz.prog 18 #[.slice a xs.length c] w fun e w' => e = .returned (.bool (xs.all isW)) ∧ w = w' := by
  obtain ⟨hm, _, hc⟩ := h
  go_enter Tryz.func18, Tryz.ntmps18
  go_wp2
  go_loop [3] (fun i => ∃ k : Nat, k ≤ xs.length ∧ i = .int .i64 k ∧ (xs.take k).all isW = true) (fun i => xs.length - (intOf i).toNat)
  case atStart => exact ⟨0, Nat.zero_le _, rfl, rfl⟩
  case round =>
    obtain ⟨k, hk, rfl, hall⟩ := hrel
    by_cases hlt : k < xs.length
    · obtain ⟨b, off, rfl, _, hcell⟩ := hc k hlt
      clear hc
      rw [List.getElem?_eq_getElem hlt] at hcell
      simp only [Option.getD_some] at hcell
      have hg := fun w => Lib.hid (ref2May_any xs[k] w)
      cases hx : isW xs[k] with
      | true =>
        rw [hx] at hg
        have HA : Hid ((xs.take (k + 1)).all isW = true) := Lib.hid (by rw [take_snoc xs k hlt, List.all_append, hall]; simp [hx])
        clear hall hx
        go_wp2_with (first | (go_at_call 47; refine (hg _).out.mono ?_; rintro e w' ⟨rfl, rfl⟩))
        go_round
        case rel => exact ⟨k + 1, by omega, by go_num, HA.out⟩
        case measure => simp [intOf]; omega
      | false =>
        rw [hx] at hg
        have HA : Hid (xs.all isW = false) := by
          cases h0 : xs.all isW with
          | false => rfl
          | true => have := List.all_eq_true.1 h0 _ (List.getElem_mem hlt); rw [hx] at this; exact absurd this (by decide)
        clear hall hx
        go_wp2_with (first | (go_at_call 47; refine (hg _).out.mono ?_; rintro e w' ⟨rfl, rfl⟩))
        go_ret
        exact ⟨ret_bool HA.out.symm, rfl⟩
    · have hke : k = xs.length := by omega
      subst hke
      rw [List.take_length] at hall
      have HA := Lib.hid hall
      clear hall hc
      go_wp2
      go_ret
      exact ⟨ret_bool HA.out.symm, rfl⟩

theorem good1_any (v : Int) (w : World) : Calls Tryz.prog 74 #[.int .i64 v] w fun e w' => e = .returned (.bool (!isW v)) ∧ w = w' := by
  have hg := fun w => Lib.hid (fxGood_any v w)
  generalize isW v = B at hg ⊢
  go_enter Tryz.func74, Tryz.ntmps74
  go_wp2_with (first | (go_at_call 75; refine (hg _).out.mono ?_; rintro e w' ⟨rfl, rfl⟩))
  go_ret
  exact ⟨rfl, rfl⟩

theorem indexBad_any (a : Option Addr) (c hi : Nat) (xs : List Int) (w : World) (h : Ints .i64 w hi a xs) :
    Calls Tryz.prog 102 #[.slice a xs.length c, .func (.func 74) #[] #[]] w fun e w' => (∃ i : Int, e = .returned (.int .i64 i) ∧ decide (0 ≤ i) = !(xs.all isW)) ∧ w = w' := by
  obtain ⟨hm, _, hc⟩ := h
  go_enter Tryz.func102, Tryz.ntmps102
  go_wp2
  go_loop [8] (fun i => ∃ k : Nat, k ≤ xs.length ∧ i = .int .i64 k ∧ (xs.take k).all isW = true) (fun i => xs.length - (intOf i).toNat)
  case atStart => exact ⟨0, Nat.zero_le _, rfl, rfl⟩
  case round =>
    obtain ⟨k, hk, rfl, hall⟩ := hrel
    by_cases hlt : k < xs.length
    · obtain ⟨b, off, rfl, _, hcell⟩ := hc k hlt
      clear hc
      rw [List.getElem?_eq_getElem hlt] at hcell
      simp only [Option.getD_some] at hcell
      have hg := fun w => Lib.hid (good1_any xs[k] w)
      cases hx : isW xs[k] with
      | true =>
        rw [hx] at hg
        have HA : Hid ((xs.take (k + 1)).all isW = true) := Lib.hid (by rw [take_snoc xs k hlt, List.all_append, hall]; simp [hx])
        clear hall hx
        go_wp2_with (first | (go_at_call 74; refine (hg _).out.mono ?_; rintro e w' ⟨rfl, rfl⟩))
        go_round
        case rel => exact ⟨k + 1, by omega, by go_num, HA.out⟩
        case measure => simp [intOf]; omega
      | false =>
        rw [hx] at hg
        have HA : Hid (xs.all isW = false) := by
          cases h0 : xs.all isW with
          | false => rfl
          | true => have := List.all_eq_true.1 h0 _ (List.getElem_mem hlt); rw [hx] at this; exact absurd this (by decide)
        clear hall hx
        go_wp2_with (first | (go_at_call 74; refine (hg _).out.mono ?_; rintro e w' ⟨rfl, rfl⟩))
        go_ret
        exact ⟨⟨k, rfl, by rw [HA.out]; simp⟩, rfl⟩
    · have hke : k = xs.length := by omega
      subst hke
      rw [List.take_length] at hall
      have HA := Lib.hid hall
      clear hall hc
      go_wp2
      go_ret
      exact ⟨⟨-1, rfl, by rw [HA.out]; decide⟩, rfl⟩

theorem hasBad_any (a : Option Addr) (c hi : Nat) (xs : List Int) (w : World) (h : Ints .i64 w hi a xs) :
    Calls Tryz.prog 73 #[.slice a xs.length c, .func (.func 74) #[] #[]] w fun e w' => e = .returned (.bool (!(xs.all isW))) ∧ w = w' := by
  have hg := Lib.hid (indexBad_any a c hi xs w h)
  clear h
  generalize xs.all isW = B at hg ⊢
  go_enter Tryz.func73, Tryz.ntmps73
  go_wp2_with (first | (go_at_call 102; refine hg.out.mono ?_; rintro e w' ⟨⟨i, rfl, hi⟩, rfl⟩))
  go_ret
  exact ⟨by first | rfl | exact ret_bool hi, rfl⟩
end Go.Proofs.YtddhhfhammmaaaaGreat
