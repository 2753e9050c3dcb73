/- Walks over package shape's functions that only read: Good, Check, Size, Within, Place, dim, Lies. -/
import Derived.Test.YtiejkdnkdmanmaaRows
import Derived.Test.YtiejkdnkdmanmaaShape
import Derived.Deep.QuietTactic
import Derived.BigQuiet
set_option linter.unusedVariables false
set_option linter.unusedSimpArgs false
namespace Go.Proofs.Ytiejkdnkdmanmaa
open Go.RowKit Go.Rt

theorem pow_bound (k : Nat) (h : k < 4) (x : Int) (hx : x ≤ 4096 ^ k) : x ≤ 68719476736 := by
  match k, h with
  | 0, _ => simp at hx; omega
  | 1, _ => simp at hx; omega
  | 2, _ => simp at hx; omega
  | 3, _ => simp at hx; omega

set_option maxHeartbeats 400000 in
theorem good_any (a : Option Addr) (c hi : Nat) (xs : List Int) (w : World) (h : Ints .i64 w hi a xs) :
    Calls Try.prog 66 #[.slice a xs.length c] w fun e w' => e = .returned (.bool (goodB xs)) ∧ w = w' := by
  obtain ⟨hm, _, hc⟩ := h
  by_cases h4 : xs.length ≤ 4
  · have h4' : ¬ (4 < xs.length) := by omega
    go_enter Try.func66, Try.ntmps66
    go_wp2
    go_loop [3, 11] (fun n i => ∃ k : Nat, k ≤ xs.length ∧ i = .int .i64 k ∧ n = .int .i64 (prodI (xs.take k)) ∧ Dims (xs.take k)) (fun _ i => xs.length - (intOf i).toNat)
    case atStart => exact ⟨0, Nat.zero_le _, rfl, rfl, by simp [Dims]⟩
    case round =>
      obtain ⟨k, hk, rfl, rfl, hall⟩ := hrel
      by_cases hlt : k < xs.length
      · obtain ⟨b, off, rfl, _, hcell⟩ := hc k hlt
        clear hc
        have hp1 := hall.pos
        have hp2 := prodI_le_pow _ hall
        rw [List.length_take, Nat.min_eq_left hk] at hp2
        replace hp2 := pow_bound k (by omega) _ hp2
        by_cases hd : dimOk xs[k] = true
        · have hd' := dimOk_iff.1 hd
          have hs := prodI_take_succ xs k hlt
          have hD : Dims (xs.take (k + 1)) := by
            rw [take_snoc xs k hlt]
            intro d hd2
            rcases List.mem_append.1 hd2 with h | h
            · exact hall d h
            · simp at h; subst h; exact hd'
          have hm1 : prodI (xs.take k) * xs[k] ≤ 68719476736 * 4096 := Int.mul_le_mul hp2 hd'.2 (by omega) (by omega)
          have hm0 : 0 ≤ prodI (xs.take k) * xs[k] := Int.mul_nonneg (by omega) (by omega)
          obtain ⟨hd1, hd2⟩ := hd'
          have HS := Lib.hid hs
          clear hs hd
          go_wp2
          go_round
          case rel => exact ⟨k + 1, by omega, by go_num, by rw [HS.out], hD⟩
          case measure => simp [intOf]; omega
        · have hbad : goodB xs = false := by
            cases hg : goodB xs with
            | false => rfl
            | true => exact absurd (dimOk_iff.2 ((goodB_dims hg).at hlt)) hd
          have hd' : ¬ (1 ≤ xs[k] ∧ xs[k] ≤ 4096) := fun h => hd (dimOk_iff.2 h)
          have HB := Lib.hid hbad
          clear hbad hd
          by_cases h1 : xs[k] < 1
          · go_wp2
            go_ret
            exact ⟨ret_bool HB.out.symm, rfl⟩
          · have h2 : 4096 < xs[k] := by omega
            go_wp2
            go_ret
            exact ⟨ret_bool HB.out.symm, rfl⟩
      · have hke : k = xs.length := by omega
        subst hke
        rw [List.take_length] at hall
        have hg : goodB xs = decide (prodI xs ≤ 65536) := by
          by_cases hp : prodI xs ≤ 65536
          · rw [goodB_iff.2 ⟨h4, hall, hp⟩]; simp [hp]
          · cases hg : goodB xs with
            | true => exact absurd (goodB_iff.1 hg).2.2 hp
            | false => simp [hp]
        have HG := Lib.hid hg
        clear hg
        go_wp2
        go_ret
        exact ⟨by rw [HG.out]; simp, rfl⟩
  · have h4' : 4 < xs.length := by omega
    go_enter Try.func66, Try.ntmps66
    go_wp2
    go_ret
    exact ⟨by simp [goodB, h4], rfl⟩

theorem check_any (a : Option Addr) (c hi : Nat) (xs : List Int) (w : World) (h : Ints .i64 w hi a xs) :
    Calls Try.prog 38 #[.slice a xs.length c] w fun e w' => e = .returned (.int .i64 (if goodB xs then 0 else 1)) ∧ w = w' := by
  have HG := Lib.hid (good_any a c hi xs w h)
  clear h
  cases hg : goodB xs
  all_goals
    rw [hg] at HG
    go_enter Try.func38, Try.ntmps38
    go_wp2_with (go_at_call 66; refine HG.out.mono ?_; rintro e w' ⟨rfl, rfl⟩)
    go_ret
    exact ⟨rfl, rfl⟩

set_option maxHeartbeats 400000 in
theorem size_any (a : Option Addr) (c hi : Nat) (xs : List Int) (w : World) (h : Ints .i64 w hi a xs) (hg : goodB xs = true) :
    Calls Try.prog 67 #[.slice a xs.length c] w fun e w' => e = .returned (.int .i64 (prodI xs)) ∧ w = w' := by
  obtain ⟨hm, _, hc⟩ := h
  have hD := goodB_dims hg
  have hP := (goodB_prod hg).2
  clear hg
  go_enter Try.func67, Try.ntmps67
  go_wp2
  go_loop [3, 8] (fun n i => ∃ k : Nat, k ≤ xs.length ∧ i = .int .i64 k ∧ n = .int .i64 (prodI (xs.take k))) (fun _ i => xs.length - (intOf i).toNat)
  case atStart => exact ⟨0, Nat.zero_le _, rfl, rfl⟩
  case round =>
    obtain ⟨k, hk, rfl, rfl⟩ := hrel
    by_cases hlt : k < xs.length
    · obtain ⟨b, off, rfl, _, hcell⟩ := hc k hlt
      clear hc
      have HS := Lib.hid (prodI_take_succ xs k hlt)
      have hp1 := (hD.take (k + 1)).pos
      have hp2 := prodI_take_le hD (k + 1)
      rw [HS.out] at hp1 hp2
      go_wp2
      go_round
      case rel => exact ⟨k + 1, by omega, by go_num, by rw [HS.out]⟩
      case measure => simp [intOf]; omega
    · have hke : k = xs.length := by omega
      subst hke
      go_wp2
      go_ret
      exact ⟨by simp, rfl⟩

set_option maxHeartbeats 400000 in
theorem within_any (a a2 : Option Addr) (c c2 hi : Nat) (xs is : List Int) (w : World) (h : Ints .i64 w hi a xs) (h2 : Ints .i64 w hi a2 is) :
    Calls Try.prog 70 #[.slice a xs.length c, .slice a2 is.length c2] w fun e w' => e = .returned (.bool (withinB xs is)) ∧ w = w' := by
  obtain ⟨hm, _, hc⟩ := h
  obtain ⟨hm2, _, hc2⟩ := h2
  by_cases hl : is.length = xs.length
  · have hl' : ((is.length : Int) == (xs.length : Int)) = true := by simp; omega
    have hl2 : ((is.length : Int) != (xs.length : Int)) = false := by simp; omega
    have HL := Lib.hid hl
    clear hl
    go_enter Try.func70, Try.ntmps70
    go_wp2
    go_loop [14] (fun i => ∃ k : Nat, k ≤ xs.length ∧ i = .int .i64 k ∧ ∀ j, j < k → 0 ≤ is[j]?.getD 0 ∧ is[j]?.getD 0 < xs[j]?.getD 0) (fun i => xs.length - (intOf i).toNat)
    case atStart => exact ⟨0, Nat.zero_le _, rfl, by simp⟩
    case round =>
      obtain ⟨k, hk, rfl, hall⟩ := hrel
      by_cases hlt : k < xs.length
      · have hlt2 : k < is.length := by have := HL.out; omega
        obtain ⟨b, off, rfl, _, hcell⟩ := hc k hlt
        obtain ⟨b2, off2, rfl, _, hcell2⟩ := hc2 k hlt2
        clear hc hc2
        have HA := Lib.hid hall
        clear hall
        rw [List.getElem?_eq_getElem hlt] at hcell
        rw [List.getElem?_eq_getElem hlt2] at hcell2
        simp only [Option.getD_some] at hcell hcell2
        have HN : Hid (is[k] < 0 ∨ xs[k] ≤ is[k] → withinB xs is = false) := Lib.hid (fun hh => by
          cases hw : withinB xs is with
          | false => rfl
          | true =>
            have := (withinB_iff.1 hw).2 k hlt
            simp [hlt, hlt2] at this
            omega)
        by_cases h1 : is[k] < 0
        · go_wp2
          go_ret
          exact ⟨ret_bool (HN.out (.inl h1)).symm, rfl⟩
        · by_cases h3 : xs[k] ≤ is[k]
          · have h1' : 0 ≤ is[k] := by omega
            go_wp2
            go_ret
            exact ⟨ret_bool (HN.out (.inr h3)).symm, rfl⟩
          · have h1' : 0 ≤ is[k] := by omega
            have h3' : is[k] < xs[k] := by omega
            go_wp2
            go_round
            case rel =>
              refine ⟨k + 1, by omega, by go_num, fun j hj => ?_⟩
              by_cases e : j = k
              · subst e; simp [hlt, hlt2]; omega
              · exact HA.out j (by omega)
            case measure => simp [intOf]; omega
      · have hke : k = xs.length := by omega
        subst hke
        have HW := Lib.hid (withinB_iff.2 ⟨HL.out, hall⟩)
        clear hall
        go_wp2
        go_ret
        exact ⟨ret_bool HW.out.symm, rfl⟩
  · have hl' : ((is.length : Int) == (xs.length : Int)) = false := by simp; omega
    have hl2 : ((is.length : Int) != (xs.length : Int)) = true := by simp; omega
    have hw : withinB xs is = false := by
      cases hw : withinB xs is with
      | false => rfl
      | true => exact absurd (withinB_length hw) hl
    have HW := Lib.hid hw
    clear hw hl
    go_enter Try.func70, Try.ntmps70
    go_wp2
    go_ret
    exact ⟨ret_bool HW.out.symm, rfl⟩

set_option maxHeartbeats 400000 in
theorem place_any (a a2 : Option Addr) (c c2 hi : Nat) (xs is : List Int) (w : World) (h : Ints .i64 w hi a xs) (h2 : Ints .i64 w hi a2 is) (hg : goodB xs = true) (hw : withinB xs is = true) :
    Calls Try.prog 71 #[.slice a xs.length c, .slice a2 is.length c2] w fun e w' => e = .returned (.int .i64 (placeI xs is)) ∧ w = w' := by
  obtain ⟨hm, _, hc⟩ := h
  obtain ⟨hm2, _, hc2⟩ := h2
  have hD := goodB_dims hg
  have hP := (goodB_prod hg).2
  have HL := Lib.hid (withinB_length hw)
  have HW := Lib.hid hw
  clear hg hw
  go_enter Try.func71, Try.ntmps71
  go_wp2
  go_loop [5, 10] (fun n i => ∃ k : Nat, k ≤ xs.length ∧ i = .int .i64 k ∧ n = .int .i64 (placeI (xs.take k) (is.take k))) (fun _ i => xs.length - (intOf i).toNat)
  case atStart => exact ⟨0, Nat.zero_le _, rfl, by simp [placeI]⟩
  case round =>
    obtain ⟨k, hk, rfl, rfl⟩ := hrel
    by_cases hlt : k < xs.length
    · have hlt2 : k < is.length := by have := HL.out; omega
      obtain ⟨b, off, rfl, _, hcell⟩ := hc k hlt
      obtain ⟨b2, off2, rfl, _, hcell2⟩ := hc2 k hlt2
      clear hc hc2
      rw [List.getElem?_eq_getElem hlt] at hcell
      rw [List.getElem?_eq_getElem hlt2] at hcell2
      simp only [Option.getD_some] at hcell hcell2
      have HS := Lib.hid (placeI_take_succ xs is k hlt HL.out)
      have hp1 := placeI_take_bound hD HW.out (k + 1)
      have hp2 := prodI_take_le hD (k + 1)
      rw [HS.out] at hp1
      have hq1 := placeI_take_bound hD HW.out k
      have hq2 := prodI_take_le hD k
      have hd1 := hD.at hlt
      have hb := (withinB_iff.1 HW.out).2 k hlt
      simp only [List.getElem?_eq_getElem hlt, List.getElem?_eq_getElem hlt2, Option.getD_some] at hb
      have hm0 : 0 ≤ placeI (xs.take k) (is.take k) * xs[k] := Int.mul_nonneg hq1.1 (by omega)
      obtain ⟨hp1a, hp1b⟩ := hp1
      obtain ⟨hb1, hb2⟩ := hb
      go_wp2
      go_round
      case rel => exact ⟨k + 1, by omega, by go_num, by rw [HS.out]⟩
      case measure => simp [intOf]; omega
    · have hke : k = xs.length := by omega
      subst hke
      have HE : Hid (is.take xs.length = is) := by rw [← HL.out]; exact List.take_length
      go_wp2
      go_ret
      exact ⟨ret_int (congrArg (placeI xs) HE.out), rfl⟩

/-- A dimension counted from behind (K from -1 down), 1 where there is none. -/
theorem dim_any (a : Option Addr) (c hi : Nat) (xs : List Int) (K : Int) (w : World) (h : Ints .i64 w hi a xs) (hK : K < 0) (hk : -1000000 ≤ K) :
    Calls Try.prog 85 #[.slice a xs.length c, .int .i64 K] w fun e w' => e = .returned (.int .i64 (dimI xs (-1 - K).toNat)) ∧ w = w' := by
  obtain ⟨hm, _, hc⟩ := h
  by_cases hlt : 0 ≤ (xs.length : Int) + K
  · have HR : Hid (dimI xs (-1 - K).toNat = xs[((xs.length : Int) + K).toNat]?.getD 0) := by
      unfold dimI
      rw [if_pos (by omega), show xs.length - 1 - (-1 - K).toNat = ((xs.length : Int) + K).toNat by omega]; rfl
    obtain ⟨b, off, rfl, _, hcell⟩ := hc ((xs.length : Int) + K).toNat (by omega)
    clear hc
    have h2 : (xs.length : Int) + K < xs.length := by omega
    have h3 : (xs.length : Int) + K ≤ 9223372036854775807 := by omega
    go_enter Try.func85, Try.ntmps85
    go_wp2
    go_ret
    exact ⟨ret_int (by rw [HR.out, List.getElem?_eq_getElem (by omega)]; rfl), rfl⟩
  · have HR : Hid (dimI xs (-1 - K).toNat = 1) := by
      unfold dimI
      rw [if_neg (by omega)]; rfl
    have h1 : (xs.length : Int) + K < 0 := by omega
    go_enter Try.func85, Try.ntmps85
    go_wp2
    go_ret
    exact ⟨ret_int HR.out.symm, rfl⟩

end Go.Proofs.Ytiejkdnkdmanmaa
