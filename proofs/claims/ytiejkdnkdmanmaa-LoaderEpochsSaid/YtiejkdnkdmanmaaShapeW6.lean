/- Walks: shape.Both, Lies, and the exported Count, Strides, At, Index, Spread, Under; the reference's Goes, Under. -/
import Derived.Test.YtiejkdnkdmanmaaShapeW5
set_option linter.unusedVariables false
set_option linter.unusedSimpArgs false
namespace Go.Proofs.Ytiejkdnkdmanmaa
open Go.RowKit Go.Rt

theorem count_any (a : Option Addr) (c hi : Nat) (xs : List Int) (w : World) (h : Ints .i64 w hi a xs) :
    Calls Try.prog 27 #[.slice a xs.length c] w fun e w' => e = .returned (.tuple #[.int .i64 (if goodB xs then prodI xs else 0), .int .i64 (if goodB xs then 0 else 1)]) ∧ w = w' := by
  have HG := Lib.hid (good_any a c hi xs w h)
  cases hg : goodB xs
  · rw [hg] at HG
    clear h hg
    go_enter Try.func27, Try.ntmps27
    go_wp2_with (go_at_call 66; refine HG.out.mono ?_; rintro e w' ⟨rfl, rfl⟩)
    go_ret2
    exact ⟨rfl, rfl⟩
  · rw [hg] at HG
    have HS := Lib.hid (size_any a c hi xs w h hg)
    clear h hg
    go_enter Try.func27, Try.ntmps27
    go_wp2_with (first | (go_at_call 66; refine HG.out.mono ?_; rintro e w' ⟨rfl, rfl⟩) | (go_at_call 67; refine HS.out.mono ?_; rintro e w' ⟨rfl, rfl⟩))
    go_ret2
    exact ⟨rfl, rfl⟩

/-- What a function hands back that makes a list, beside an error. -/
def RetIntsE (w : World) (xs : List Int) (er : Int) (e : Ending) (w' : World) : Prop :=
  ∃ v, e = .returned (.tuple #[v, .int .i64 er]) ∧ w'.ownsRow w.heap.size 3 1 v xs.length (xs.map (Value.int .i64)) ∧ Below w.heap.size w w'

theorem strides_any (a : Option Addr) (c : Nat) (xs : List Int) (w : World) (h : Ints .i64 w w.heap.size a xs) :
    Calls Try.prog 28 #[.slice a xs.length c] w (RetIntsE w (if goodB xs then strI xs else []) (if goodB xs then 0 else 1)) := by
  have HG := Lib.hid (good_any a c _ xs w h)
  cases hg : goodB xs
  · rw [hg] at HG
    clear h hg
    go_enter Try.func28, Try.ntmps28
    go_wp2_with (go_at_call 66; refine HG.out.mono ?_; rintro e w' ⟨rfl, rfl⟩)
    go_ret2
    exact ⟨.slice none 0 0, rfl, World.ownsRow_nil _ _ _ _, Below.refl _ _⟩
  · rw [hg] at HG
    have HS := Lib.hid (steps_any a c xs w h hg)
    clear h hg
    go_enter Try.func28, Try.ntmps28
    go_wp2_with (first | (go_at_call 66; refine HG.out.mono ?_; rintro e w' ⟨rfl, rfl⟩) | (go_at_call 68; refine HS.out.mono ?_; rintro e w1 ⟨v, rfl, hown, hb⟩))
    go_ret2
    exact ⟨v, rfl, hown, hb⟩

/-- The error of At, of Index. -/
def atE (xs : List Int) (n : Int) : Int := if goodB xs then (if 0 ≤ n ∧ n < prodI xs then 0 else 2) else 1
def atL (xs : List Int) (n : Int) : List Int := if atE xs n = 0 then standsI xs n else []
def indexE (xs is : List Int) : Int := if goodB xs then (if withinB xs is then 0 else 2) else 1
def indexN (xs is : List Int) : Int := if indexE xs is = 0 then placeI xs is else 0

set_option maxHeartbeats 400000 in
theorem at_any (a : Option Addr) (c : Nat) (xs : List Int) (n : Int) (w : World) (h : Ints .i64 w w.heap.size a xs) (hn : n ≤ 9223372036854775807) :
    Calls Try.prog 31 #[.slice a xs.length c, .int .i64 n] w (RetIntsE w (atL xs n) (atE xs n)) := by
  have HG := Lib.hid (good_any a c _ xs w h)
  cases hg : goodB xs
  · rw [hg] at HG
    have HE : Hid (atE xs n = 1 ∧ atL xs n = []) := by
      have : atE xs n = 1 := by simp [atE, hg]
      exact ⟨this, by simp [atL, this]⟩
    clear h hg
    go_enter Try.func31, Try.ntmps31
    go_wp2_with (go_at_call 66; refine HG.out.mono ?_; rintro e w' ⟨rfl, rfl⟩)
    go_ret2
    exact ⟨.slice none 0 0, by rw [HE.out.1]; rfl, by rw [HE.out.2]; exact World.ownsRow_nil _ _ _ _, Below.refl _ _⟩
  · rw [hg] at HG
    have HS := Lib.hid (size_any a c _ xs w h hg)
    have hbad : ¬ (0 ≤ n ∧ n < prodI xs) → atE xs n = 2 ∧ atL xs n = [] := by
      intro hb
      have : atE xs n = 2 := by simp only [atE, hg, if_true]; rw [if_neg hb]
      exact ⟨this, by simp [atL, this]⟩
    by_cases h0 : n < 0
    · have HE := Lib.hid (hbad (by omega))
      clear h hg hbad
      go_enter Try.func31, Try.ntmps31
      go_wp2_with (first | (go_at_call 66; refine HG.out.mono ?_; rintro e w' ⟨rfl, rfl⟩) | (go_at_call 67; refine HS.out.mono ?_; rintro e w' ⟨rfl, rfl⟩))
      go_ret2
      exact ⟨.slice none 0 0, by rw [HE.out.1]; rfl, by rw [HE.out.2]; exact World.ownsRow_nil _ _ _ _, Below.refl _ _⟩
    · by_cases h1 : prodI xs ≤ n
      · have HE := Lib.hid (hbad (by omega))
        clear h hg hbad
        have h0' : 0 ≤ n := by omega
        go_enter Try.func31, Try.ntmps31
        go_wp2_with (first | (go_at_call 66; refine HG.out.mono ?_; rintro e w' ⟨rfl, rfl⟩) | (go_at_call 67; refine HS.out.mono ?_; rintro e w' ⟨rfl, rfl⟩))
        go_ret2
        exact ⟨.slice none 0 0, by rw [HE.out.1]; rfl, by rw [HE.out.2]; exact World.ownsRow_nil _ _ _ _, Below.refl _ _⟩
      · have h0' : 0 ≤ n := by omega
        have h1' : n < prodI xs := by omega
        have HE : Hid (atE xs n = 0 ∧ atL xs n = standsI xs n) := by
          have : atE xs n = 0 := by simp only [atE, hg, if_true]; rw [if_pos ⟨h0', h1'⟩]
          exact ⟨this, by simp [atL, this]⟩
        have HT := Lib.hid (stands_any a c xs n w h hg h0' hn)
        clear h hg hbad
        go_enter Try.func31, Try.ntmps31
        go_wp2_with (first | (go_at_call 66; refine HG.out.mono ?_; rintro e w' ⟨rfl, rfl⟩) | (go_at_call 67; refine HS.out.mono ?_; rintro e w' ⟨rfl, rfl⟩) | (go_at_call 69; refine HT.out.mono ?_; rintro e w1 ⟨v, rfl, hown, hb⟩))
        go_ret2
        exact ⟨v, by rw [HE.out.1]; rfl, by rw [HE.out.2]; exact hown, hb⟩

set_option maxHeartbeats 400000 in
theorem index_any (a a2 : Option Addr) (c c2 hi : Nat) (xs is : List Int) (w : World) (h : Ints .i64 w hi a xs) (h2 : Ints .i64 w hi a2 is) :
    Calls Try.prog 33 #[.slice a xs.length c, .slice a2 is.length c2] w fun e w' => e = .returned (.tuple #[.int .i64 (indexN xs is), .int .i64 (indexE xs is)]) ∧ w = w' := by
  have HG := Lib.hid (good_any a c _ xs w h)
  have HW := Lib.hid (within_any a a2 c c2 _ xs is w h h2)
  cases hg : goodB xs
  · rw [hg] at HG
    have HE : Hid (indexE xs is = 1 ∧ indexN xs is = 0) := by
      have : indexE xs is = 1 := by simp [indexE, hg]
      exact ⟨this, by simp [indexN, this]⟩
    clear h hg h2
    go_enter Try.func33, Try.ntmps33
    go_wp2_with (go_at_call 66; refine HG.out.mono ?_; rintro e w' ⟨rfl, rfl⟩)
    go_ret2
    exact ⟨by rw [HE.out.1, HE.out.2]; rfl, rfl⟩
  · rw [hg] at HG
    cases hw : withinB xs is
    · rw [hw] at HW
      have HE : Hid (indexE xs is = 2 ∧ indexN xs is = 0) := by
        have : indexE xs is = 2 := by simp [indexE, hg, hw]
        exact ⟨this, by simp [indexN, this]⟩
      clear h hg h2 hw
      go_enter Try.func33, Try.ntmps33
      go_wp2_with (first | (go_at_call 66; refine HG.out.mono ?_; rintro e w' ⟨rfl, rfl⟩) | (go_at_call 70; refine HW.out.mono ?_; rintro e w' ⟨rfl, rfl⟩))
      go_ret2
      exact ⟨by rw [HE.out.1, HE.out.2]; rfl, rfl⟩
    · rw [hw] at HW
      have HP := Lib.hid (place_any a a2 c c2 _ xs is w h h2 hg hw)
      have HE : Hid (indexE xs is = 0 ∧ indexN xs is = placeI xs is) := by
        have : indexE xs is = 0 := by simp [indexE, hg, hw]
        exact ⟨this, by simp [indexN, this]⟩
      clear h hg h2 hw
      go_enter Try.func33, Try.ntmps33
      go_wp2_with (first | (go_at_call 66; refine HG.out.mono ?_; rintro e w' ⟨rfl, rfl⟩) | (go_at_call 70; refine HW.out.mono ?_; rintro e w' ⟨rfl, rfl⟩) | (go_at_call 71; refine HP.out.mono ?_; rintro e w' ⟨rfl, rfl⟩))
      go_ret2
      exact ⟨by rw [HE.out.1, HE.out.2]; rfl, rfl⟩

end Go.Proofs.Ytiejkdnkdmanmaa
