/- Words and tensors. -/
import Derived.Test.YtnafbgkfhojamaaVList
import Derived.Test.YtnafbgkfhojamaaEnv
import Derived.Deep.RegionHeld3
import Derived.Deep.Cut
import Derived.BigQuiet
set_option linter.unusedVariables false
set_option linter.unusedSimpArgs false
namespace Go.Proofs.Ytnafbgkfhojamaa
open Go.RowKit Go.Rt

/-- Is it a word? -/
def isW (v : Int) : Bool := decide (-140737488355328 < v) && decide (v < 140737488355328)
theorem isW_iff {v : Int} : isW v = true ↔ -140737488355328 < v ∧ v < 140737488355328 := by simp [isW]
theorem fxGood_any (v : Int) (w : World) : Calls Try.prog 67 #[.int .i64 v] w fun e w' => e = .returned (.bool (isW v)) ∧ w = w' := by
  by_cases h1 : -140737488355328 < v
  · by_cases h2 : v < 140737488355328
    · have e1 : isW v = true := by unfold isW; rw [decide_eq_true h1, decide_eq_true h2]; rfl
      rw [e1]
      go_enter Try.func67, Try.ntmps67
      go_wp2
      go_ret
      exact ⟨rfl, rfl⟩
    · have e1 : isW v = false := by unfold isW; rw [decide_eq_true h1, decide_eq_false h2]; rfl
      rw [e1]
      go_enter Try.func67, Try.ntmps67
      go_wp2
      go_ret
      exact ⟨rfl, rfl⟩
  · have e1 : isW v = false := by unfold isW; rw [decide_eq_false h1]; rfl
    rw [e1]
    go_enter Try.func67, Try.ntmps67
    go_wp2
    go_ret
    exact ⟨rfl, rfl⟩
theorem ref2May_any (v : Int) (w : World) : Calls Try.prog 45 #[.int .i64 v] w fun e w' => e = .returned (.bool (isW v)) ∧ w = w' := by
  by_cases h1 : -140737488355328 < v
  · by_cases h2 : v < 140737488355328
    · have e1 : isW v = true := by unfold isW; rw [decide_eq_true h1, decide_eq_true h2]; rfl
      rw [e1]
      go_enter Try.func45, Try.ntmps45
      go_wp2
      go_ret
      exact ⟨rfl, rfl⟩
    · have e1 : isW v = false := by unfold isW; rw [decide_eq_true h1, decide_eq_false h2]; rfl
      rw [e1]
      go_enter Try.func45, Try.ntmps45
      go_wp2
      go_ret
      exact ⟨rfl, rfl⟩
  · have e1 : isW v = false := by unfold isW; rw [decide_eq_false h1]; rfl
    rw [e1]
    go_enter Try.func45, Try.ntmps45
    go_wp2
    go_ret
    exact ⟨rfl, rfl⟩
/-- The reference's Words. -/
theorem words_any (a : Option Addr) (c hi : Nat) (xs : List Int) (w : World) (h : Ints .i64 w hi a xs) :
    Calls Try.prog 9 #[.slice a xs.length c] w fun e w' => e = .returned (.bool (xs.all isW)) ∧ w = w' := by
  obtain ⟨hm, _, hc⟩ := h
  go_enter Try.func9, Try.ntmps9
  go_wp2
  go_loop [3] (fun i => ∃ k : Nat, k ≤ xs.length ∧ i = .int .i64 k ∧ (xs.take k).all isW = true) (fun i => xs.length - (intOf i).toNat)
  case atStart => exact ⟨0, Nat.zero_le _, rfl, rfl⟩
  case round =>
    obtain ⟨k, hk, rfl, hall⟩ := hrel
    by_cases hlt : k < xs.length
    · obtain ⟨b, off, rfl, _, hcell⟩ := hc k hlt
      clear hc
      rw [List.getElem?_eq_getElem hlt] at hcell
      simp only [Option.getD_some] at hcell
      have hg := fun w => Lib.hid (ref2May_any xs[k] w)
      cases hx : isW xs[k] with
      | true =>
        rw [hx] at hg
        have HA : Hid ((xs.take (k + 1)).all isW = true) := Lib.hid (by rw [take_snoc xs k hlt, List.all_append, hall]; simp [hx])
        clear hall hx
        go_wp2_with (first | (go_at_call 45; refine (hg _).out.mono ?_; rintro e w' ⟨rfl, rfl⟩))
        go_round
        case rel => exact ⟨k + 1, by omega, by go_num, HA.out⟩
        case measure => simp [intOf]; omega
      | false =>
        rw [hx] at hg
        have HA : Hid (xs.all isW = false) := by
          cases h0 : xs.all isW with
          | false => rfl
          | true => have := List.all_eq_true.1 h0 _ (List.getElem_mem hlt); rw [hx] at this; exact absurd this (by decide)
        clear hall hx
        go_wp2_with (first | (go_at_call 45; refine (hg _).out.mono ?_; rintro e w' ⟨rfl, rfl⟩))
        go_ret
        exact ⟨ret_bool HA.out.symm, rfl⟩
    · have hke : k = xs.length := by omega
      subst hke
      rw [List.take_length] at hall
      have HA := Lib.hid hall
      clear hall hc
      go_wp2
      go_ret
      exact ⟨ret_bool HA.out.symm, rfl⟩

theorem good1_any (v : Int) (w : World) : Calls Try.prog 66 #[.int .i64 v] w fun e w' => e = .returned (.bool (!isW v)) ∧ w = w' := by
  have hg := fun w => Lib.hid (fxGood_any v w)
  generalize isW v = B at hg ⊢
  go_enter Try.func66, Try.ntmps66
  go_wp2_with (first | (go_at_call 67; refine (hg _).out.mono ?_; rintro e w' ⟨rfl, rfl⟩))
  go_ret
  exact ⟨rfl, rfl⟩
theorem indexBad_any (a : Option Addr) (c hi : Nat) (xs : List Int) (w : World) (h : Ints .i64 w hi a xs) :
    Calls Try.prog 72 #[.slice a xs.length c, .func (.func 66) #[] #[]] w fun e w' => (∃ i : Int, e = .returned (.int .i64 i) ∧ decide (0 ≤ i) = !(xs.all isW)) ∧ w = w' := by
  obtain ⟨hm, _, hc⟩ := h
  go_enter Try.func72, Try.ntmps72
  go_wp2
  go_loop [8] (fun i => ∃ k : Nat, k ≤ xs.length ∧ i = .int .i64 k ∧ (xs.take k).all isW = true) (fun i => xs.length - (intOf i).toNat)
  case atStart => exact ⟨0, Nat.zero_le _, rfl, rfl⟩
  case round =>
    obtain ⟨k, hk, rfl, hall⟩ := hrel
    by_cases hlt : k < xs.length
    · obtain ⟨b, off, rfl, _, hcell⟩ := hc k hlt
      clear hc
      rw [List.getElem?_eq_getElem hlt] at hcell
      simp only [Option.getD_some] at hcell
      have hg := fun w => Lib.hid (good1_any xs[k] w)
      cases hx : isW xs[k] with
      | true =>
        rw [hx] at hg
        have HA : Hid ((xs.take (k + 1)).all isW = true) := Lib.hid (by rw [take_snoc xs k hlt, List.all_append, hall]; simp [hx])
        clear hall hx
        go_wp2_with (first | (go_at_call 66; refine (hg _).out.mono ?_; rintro e w' ⟨rfl, rfl⟩))
        go_round
        case rel => exact ⟨k + 1, by omega, by go_num, HA.out⟩
        case measure => simp [intOf]; omega
      | false =>
        rw [hx] at hg
        have HA : Hid (xs.all isW = false) := by
          cases h0 : xs.all isW with
          | false => rfl
          | true => have := List.all_eq_true.1 h0 _ (List.getElem_mem hlt); rw [hx] at this; exact absurd this (by decide)
        clear hall hx
        go_wp2_with (first | (go_at_call 66; refine (hg _).out.mono ?_; rintro e w' ⟨rfl, rfl⟩))
        go_ret
        exact ⟨⟨k, rfl, by rw [HA.out]; simp⟩, rfl⟩
    · have hke : k = xs.length := by omega
      subst hke
      rw [List.take_length] at hall
      have HA := Lib.hid hall
      clear hall hc
      go_wp2
      go_ret
      exact ⟨⟨-1, rfl, by rw [HA.out]; decide⟩, rfl⟩
theorem hasBad_any (a : Option Addr) (c hi : Nat) (xs : List Int) (w : World) (h : Ints .i64 w hi a xs) :
    Calls Try.prog 65 #[.slice a xs.length c, .func (.func 66) #[] #[]] w fun e w' => e = .returned (.bool (!(xs.all isW))) ∧ w = w' := by
  have hg := Lib.hid (indexBad_any a c hi xs w h)
  clear h
  generalize xs.all isW = B at hg ⊢
  go_enter Try.func65, Try.ntmps65
  go_wp2_with (first | (go_at_call 72; refine hg.out.mono ?_; rintro e w' ⟨⟨i, rfl, hi⟩, rfl⟩))
  go_ret
  exact ⟨by first | rfl | exact ret_bool hi, rfl⟩

/-- Is it a tensor? -/
def tenB (xs ys : List Int) : Bool := goodB xs && (decide ((ys.length : Int) = prodI xs) && ys.all isW)
theorem tenB_iff {xs ys : List Int} : tenB xs ys = true ↔ goodB xs = true ∧ (ys.length : Int) = prodI xs ∧ ∀ y ∈ ys, isW y = true := by
  simp [tenB]
theorem quietSame {P : Program} {f : FuncId} {args : Array Value} {w : World} {n : Nat} {v : Value} (h : Calls P f args (w.drewN n) fun e w' => e = .returned v ∧ w.drewN n = w') :
    Calls P f args (w.drewN n) fun e w'' => e = .returned v ∧ ∃ m, w'' = w.drewN m := h.mono fun _ _ ⟨he, hm⟩ => ⟨he, n, hm.symm⟩
theorem heldB2 {n : Nat} {Wb w : World} {p : Prop} (h : Below n Wb w ∧ p) : Below n Wb w := h.1
theorem tenKeep2 {n : Nat} {W w w' : World} {b : Nat} {v0 v1 : Value} (h : Below n W w ∧ w.cell? ⟨b, 0, none⟩ = some v0 ∧ w.cell? ⟨b, 1, none⟩ = some v1) (hb : w = w') :
    Below n W w' ∧ w'.cell? ⟨b, 0, none⟩ = some v0 ∧ w'.cell? ⟨b, 1, none⟩ = some v1 := by subst hb; exact h
theorem tenDrew {n : Nat} {W w : World} {b : Nat} {v0 v1 : Value} (h : Below n W w ∧ w.cell? ⟨b, 0, none⟩ = some v0 ∧ w.cell? ⟨b, 1, none⟩ = some v1) :
    Below n W w.drew ∧ w.drew.cell? ⟨b, 0, none⟩ = some v0 ∧ w.drew.cell? ⟨b, 1, none⟩ = some v1 := ⟨h.1.drew, h.2.1, h.2.2⟩
set_option maxHeartbeats 1000000 in
theorem tenMay_any (a b : Option Addr) (c d : Nat) (xs ys : List Int) (w : World) (h : Ints .i64 w w.heap.size a xs) (h2 : Ints .i64 w w.heap.size b ys) :
    Calls Try.prog 10 #[.agg #[.slice a xs.length c, .slice b ys.length d]] w fun e w' => e = .returned (.bool (tenB xs ys)) ∧ Below w.heap.size w w' := by
  have hg := fun w' (hb : Below w.heap.size w w') => Lib.hid (rmay_any a c w.heap.size xs w' (h.below hb (Nat.le_refl _)))
  have hw := fun w' (hb : Below w.heap.size w w') => Lib.hid (words_any b d w.heap.size ys w' (h2.below hb (Nat.le_refl _)))
  have hlen := h2.len
  cases hgood : goodB xs with
  | false =>
    have e : tenB xs ys = false := by unfold tenB; rw [hgood]; rfl
    rw [e]
    rw [hgood] at hg
    clear e hgood hw h h2
    go_enter Try.func10, Try.ntmps10
    go_upto_region 1 with fail
    go_quiet (first | (go_at_call 31; exact quietSame (hg _ (by (repeat' (first | exact Below.refl _ _ | refine below_drewN ?_ _ | refine Below.drew ?_ | refine Below.alloc ?_ (by first | omega | (simp <;> omega)) _)))).out))
    go_wp2_with fail
    go_ret
    exact ⟨rfl, (by (repeat' (first | exact Below.refl _ _ | refine below_drewN ?_ _ | refine Below.drew ?_ | refine Below.alloc ?_ (by first | omega | (simp <;> omega)) _)))⟩
  | true =>
    have hz := fun w' (hb : Below w.heap.size w w') => Lib.hid (rcount_any a c w.heap.size xs w' (h.below hb (Nat.le_refl _)) (goodB_dims hgood))
    have hcg := countE_good hgood
    rw [hcg] at hz
    have hpb := goodB_prod hgood
    rw [hgood] at hg
    by_cases hl : (ys.length : Int) = prodI xs
    · cases hall : ys.all isW with
      | false =>
        have e : tenB xs ys = false := by unfold tenB; rw [hall, Bool.and_false, Bool.and_false]
        rw [e]
        rw [hall] at hw
        rw [← hl] at hz
        clear e hgood hall h h2 hl hpb
        go_enter Try.func10, Try.ntmps10
        go_upto_region 1 with fail
        go_quiet (first | (go_at_call 31; exact quietSame (hg _ (by (repeat' (first | exact Below.refl _ _ | refine below_drewN ?_ _ | refine Below.drew ?_ | refine Below.alloc ?_ (by first | omega | (simp <;> omega)) _)))).out) | (go_at_call 27; exact quietSame (hz _ (by (repeat' (first | exact Below.refl _ _ | refine below_drewN ?_ _ | refine Below.drew ?_ | refine Below.alloc ?_ (by first | omega | (simp <;> omega)) _)))).out) | (go_at_call 9; exact quietSame (hw _ (by (repeat' (first | exact Below.refl _ _ | refine below_drewN ?_ _ | refine Below.drew ?_ | refine Below.alloc ?_ (by first | omega | (simp <;> omega)) _)))).out))
        go_wp2_with fail
        go_ret
        exact ⟨rfl, (by (repeat' (first | exact Below.refl _ _ | refine below_drewN ?_ _ | refine Below.drew ?_ | refine Below.alloc ?_ (by first | omega | (simp <;> omega)) _)))⟩
      | true =>
        have e : tenB xs ys = true := by unfold tenB; rw [hgood, hall, decide_eq_true hl]; rfl
        rw [e]
        rw [hall] at hw
        rw [← hl] at hz
        clear e hgood hall h h2 hl hpb
        go_enter Try.func10, Try.ntmps10
        go_upto_region 1 with fail
        go_quiet (first | (go_at_call 31; exact quietSame (hg _ (by (repeat' (first | exact Below.refl _ _ | refine below_drewN ?_ _ | refine Below.drew ?_ | refine Below.alloc ?_ (by first | omega | (simp <;> omega)) _)))).out) | (go_at_call 27; exact quietSame (hz _ (by (repeat' (first | exact Below.refl _ _ | refine below_drewN ?_ _ | refine Below.drew ?_ | refine Below.alloc ?_ (by first | omega | (simp <;> omega)) _)))).out) | (go_at_call 9; exact quietSame (hw _ (by (repeat' (first | exact Below.refl _ _ | refine below_drewN ?_ _ | refine Below.drew ?_ | refine Below.alloc ?_ (by first | omega | (simp <;> omega)) _)))).out))
        go_wp2_with fail
        go_ret
        exact ⟨rfl, (by (repeat' (first | exact Below.refl _ _ | refine below_drewN ?_ _ | refine Below.drew ?_ | refine Below.alloc ?_ (by first | omega | (simp <;> omega)) _)))⟩
    · have e : tenB xs ys = false := by unfold tenB; rw [decide_eq_false hl, Bool.false_and, Bool.and_false]
      have hl2 : ((ys.length : Int) == prodI xs) = false := by simp; exact hl
      rw [e]
      generalize prodI xs = PX at *
      clear e hgood h h2 hw hl
      go_enter Try.func10, Try.ntmps10
      go_upto_region 1 with fail
      go_quiet (first | (go_at_call 31; exact quietSame (hg _ (by (repeat' (first | exact Below.refl _ _ | refine below_drewN ?_ _ | refine Below.drew ?_ | refine Below.alloc ?_ (by first | omega | (simp <;> omega)) _)))).out) | (go_at_call 27; exact quietSame (hz _ (by (repeat' (first | exact Below.refl _ _ | refine below_drewN ?_ _ | refine Below.drew ?_ | refine Below.alloc ?_ (by first | omega | (simp <;> omega)) _)))).out))
      go_wp2_with fail
      go_ret
      exact ⟨rfl, (by (repeat' (first | exact Below.refl _ _ | refine below_drewN ?_ _ | refine Below.drew ?_ | refine Below.alloc ?_ (by first | omega | (simp <;> omega)) _)))⟩

theorem own_cap {w : World} {base : Nat} {e : TypeId} {a : Option Addr} {n c : Nat} {xs : List Value} (h : w.ownsRow base e 1 (.slice a n c) n xs) : n ≤ c ∧ c ≤ 9223372036854775807 := by
  rcases h.2 with ⟨h1, h2⟩ | ⟨g, cap, cur, h1, _, _, h4, h5, _⟩
  · cases h1
    omega
  · cases h1
    unfold maxLen at h5
    omega

theorem heavyT_any (a b : Option Addr) (n c m d : Nat) (k : Int) (w : World) (hn : n ≤ 9223372036854775807) (hm : m ≤ 9223372036854775807) :
    Calls Try.prog 44 #[.agg #[.slice a n c, .slice b m d], .int .i64 k] w fun e w' => e = .returned (.bool (decide (k < m) || decide (8 < n))) ∧ Below w.heap.size w w' := by
  by_cases h1 : k < (m : Int)
  · rw [decide_eq_true h1, Bool.true_or]
    go_enter Try.func44, Try.ntmps44
    go_wp2
    go_ret
    exact ⟨rfl, (by (repeat' (first | exact Below.refl _ _ | refine below_drewN ?_ _ | refine Below.drew ?_ | refine Below.setCell ?_ (by first | omega | (simp <;> omega)) _ | refine Below.alloc ?_ (by first | omega | (simp <;> omega)) _)))⟩
  · rw [decide_eq_false h1, Bool.false_or]
    by_cases h2 : 8 < n
    · have h3 : (8 : Int) < (n : Int) := by omega
      rw [decide_eq_true h2]
      go_enter Try.func44, Try.ntmps44
      go_wp2
      go_ret
      exact ⟨rfl, (by (repeat' (first | exact Below.refl _ _ | refine below_drewN ?_ _ | refine Below.drew ?_ | refine Below.setCell ?_ (by first | omega | (simp <;> omega)) _ | refine Below.alloc ?_ (by first | omega | (simp <;> omega)) _)))⟩
    · have h3 : ¬ (8 : Int) < (n : Int) := by omega
      rw [decide_eq_false h2]
      go_enter Try.func44, Try.ntmps44
      go_wp2
      go_ret
      exact ⟨rfl, (by (repeat' (first | exact Below.refl _ _ | refine below_drewN ?_ _ | refine Below.drew ?_ | refine Below.setCell ?_ (by first | omega | (simp <;> omega)) _ | refine Below.alloc ?_ (by first | omega | (simp <;> omega)) _)))⟩
set_option maxHeartbeats 1000000 in
theorem eqTensor_any (a b a' b' : Option Addr) (c d c' d' : Nat) (xs ys xs' ys' : List Int) (w : World) (h1 : Ints .i64 w w.heap.size a xs) (h2 : Ints .i64 w w.heap.size b ys) (h3 : Ints .i64 w w.heap.size a' xs') (h4 : Ints .i64 w w.heap.size b' ys') :
    Calls Try.prog 19 #[.agg #[.slice a xs.length c, .slice b ys.length d], .agg #[.slice a' xs'.length c', .slice b' ys'.length d']] w fun e w' => e = .returned (.bool (decide (xs = xs') && decide (ys = ys'))) ∧ Below w.heap.size w w' := by
  have e1 := fun w' (hb : Below w.heap.size w w') => Lib.hid (eqNumbers_any a a' c c' w.heap.size xs xs' w' (h1.below hb (Nat.le_refl _)) (h3.below hb (Nat.le_refl _)))
  have e2 := fun w' (hb : Below w.heap.size w w') => Lib.hid (eqWords_any b b' d d' w.heap.size ys ys' w' (h2.below hb (Nat.le_refl _)) (h4.below hb (Nat.le_refl _)))
  generalize decide (xs = xs') = B1 at *
  generalize decide (ys = ys') = B2 at *
  clear h1 h2 h3 h4
  cases B1
  all_goals
    (try simp only [Bool.false_and, Bool.true_and])
    go_enter Try.func19, Try.ntmps19
    go_wp2_with (first | (go_at_call 12; refine (e1 _ (by (repeat' (first | exact Below.refl _ _ | refine below_drewN ?_ _ | refine Below.drew ?_ | refine Below.setCell ?_ (by first | omega | (simp <;> omega)) _ | refine Below.alloc ?_ (by first | omega | (simp <;> omega)) _)))).out.mono ?_; rintro e w' ⟨rfl, q1, rfl⟩) | (go_at_call 20; refine (e2 _ (by (repeat' (first | exact Below.refl _ _ | refine below_drewN ?_ _ | refine Below.drew ?_ | refine Below.setCell ?_ (by first | omega | (simp <;> omega)) _ | refine Below.alloc ?_ (by first | omega | (simp <;> omega)) _)))).out.mono ?_; rintro e w' ⟨rfl, q2, rfl⟩))
    go_ret
    exact ⟨rfl, (by (repeat' (first | exact Below.refl _ _ | refine below_drewN ?_ _ | refine Below.drew ?_ | refine Below.setCell ?_ (by first | omega | (simp <;> omega)) _ | refine Below.alloc ?_ (by first | omega | (simp <;> omega)) _)))⟩

end Go.Proofs.Ytnafbgkfhojamaa
