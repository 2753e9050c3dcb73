/- Walks over the reference's small functions on lists of integers: EqNumbers, CopyNumbers, Numbers, May, Count, MayIndex, Index, At. -/
import Derived.Test.YtiejkdnkdmanmaaShapeW2
set_option linter.unusedVariables false
set_option linter.unusedSimpArgs false
namespace Go.Proofs.Ytiejkdnkdmanmaa
open Go.RowKit Go.Rt

theorem take_ne {xs ys : List Int} (k : Nat) (h1 : k < xs.length) (h2 : k < ys.length) (hne : xs[k] ≠ ys[k]) : xs ≠ ys := by
  intro e; subst e; exact hne rfl

set_option maxHeartbeats 400000 in
theorem eqNumbers_any (a a2 : Option Addr) (c c2 hi : Nat) (xs ys : List Int) (w : World) (h : Ints .i64 w hi a xs) (h2 : Ints .i64 w hi a2 ys) :
    Calls Try.prog 34 #[.slice a xs.length c, .slice a2 ys.length c2] w fun e w' => e = .returned (.bool (decide (xs = ys))) ∧ ∃ q, w' = w.drewN q := by
  obtain ⟨hm, _, hc⟩ := h
  obtain ⟨hm2, _, hc2⟩ := h2
  by_cases hl : xs.length = ys.length
  · have hl1 : ((xs.length : Int) == (ys.length : Int)) = true := by simp; omega
    have hl2 : ((xs.length : Int) != (ys.length : Int)) = false := by simp; omega
    have HL := Lib.hid hl
    clear hl
    go_enter Try.func34, Try.ntmps34
    go_wp2
    go_loopw [5] (fun i wr => ∃ k : Nat, k ≤ xs.length ∧ i = .int .i64 k ∧ xs.take k = ys.take k ∧ ∃ q, wr = w.drewN q) (fun i _ => xs.length - (intOf i).toNat)
    case atStart => exact ⟨0, Nat.zero_le _, rfl, rfl, 0, rfl⟩
    case round =>
      obtain ⟨k, hk, rfl, htk, q, rfl⟩ := hrel
      have HT := Lib.hid htk
      clear htk
      by_cases hlt : k < xs.length
      · have hlt2 : k < ys.length := by have := HL.out; omega
        obtain ⟨b, off, rfl, _, hcell⟩ := hc k hlt
        obtain ⟨b2, off2, rfl, _, hcell2⟩ := hc2 k hlt2
        clear hc hc2
        rw [List.getElem?_eq_getElem hlt] at hcell
        rw [List.getElem?_eq_getElem hlt2] at hcell2
        simp only [Option.getD_some] at hcell hcell2
        by_cases he : xs[k] = ys[k]
        · have he1 : (xs[k] == ys[k]) = true := by simp [he]
          have he2 : (xs[k] != ys[k]) = false := by simp [he]
          have HE := Lib.hid he
          clear he
          go_wp2
          go_quiet (fail)
          go_wp2
          go_roundw
          case rel => exact ⟨k + 1, by omega, by go_num, by rw [take_snoc _ _ hlt, take_snoc _ _ hlt2, HT.out, HE.out], _, by first | rfl | exact World.drewN_drewN _ _ _⟩
          case measure => simp [intOf]; omega
        · have he1 : (xs[k] == ys[k]) = false := by simp [he]
          have he2 : (xs[k] != ys[k]) = true := by simp [he]
          have HE := Lib.hid (take_ne k hlt hlt2 he)
          clear he
          go_wp2
          go_quiet (fail)
          go_wp2
          go_ret
          exact ⟨ret_bool (by simp [HE.out]), _, by first | rfl | exact World.drewN_drewN _ _ _⟩
      · have hke : k = xs.length := by omega
        subst hke
        have HX : Hid (xs = ys) := by
          have := HT.out
          rw [List.take_length, HL.out, List.take_length] at this
          exact this
        go_wp2
        go_ret
        exact ⟨ret_bool (by simp [HX.out]), _, rfl⟩
  · have hl1 : ((xs.length : Int) == (ys.length : Int)) = false := by simp; omega
    have hl2 : ((xs.length : Int) != (ys.length : Int)) = true := by simp; omega
    have HX : Hid (¬ xs = ys) := fun e => hl (by rw [e])
    clear hl
    go_enter Try.func34, Try.ntmps34
    go_wp2
    go_ret
    exact ⟨ret_bool (by simp [HX.out]), 0, rfl⟩

set_option maxHeartbeats 400000 in
theorem copyNumbers_any (a : Option Addr) (c : Nat) (xs : List Int) (w : World) (h : Ints .i64 w w.heap.size a xs) (hn : xs.length ≤ 17592186044415) :
    Calls Try.prog 32 #[.slice a xs.length c] w (RetInts w xs) := by
  obtain ⟨hm, _, hc⟩ := h
  go_enter Try.func32, Try.ntmps32
  go_wp2
  go_loopw [3, 4] (fun v i wr => ∃ k : Nat, k ≤ xs.length ∧ i = .int .i64 k ∧ wr.ownsRow w.heap.size 3 1 v k ((xs.take k).map (Value.int .i64)) ∧ Below w.heap.size w wr) (fun _ i _ => xs.length - (intOf i).toNat)
  case atStart => exact ⟨0, Nat.zero_le _, rfl, World.ownsRow_nil _ _ _ _, Below.refl _ _⟩
  case round =>
    obtain ⟨k, hk, rfl, hown, hbel⟩ := hrel
    by_cases hlt : k < xs.length
    · obtain ⟨b, off, rfl, hlb, hcell⟩ := hc k hlt
      clear hc
      rw [List.getElem?_eq_getElem hlt] at hcell
      simp only [Option.getD_some] at hcell
      have hcr : wr.cell? ⟨b, off + k, none⟩ = some (.int .i64 xs[k]) := (hbel.cell (p := ⟨b, off + k, none⟩) hlb).trans hcell
      have HO := Lib.hid hown
      have HB := Lib.hid hbel
      have hsz := hbel.size
      clear hown hbel hcell
      go_wp2_with (at_builtin; (refine wpl_append1 46 3 .i64 infoInt Try.underlying46 w.heap.size _ k (xs.take k) xs[k] _ _ _ rfl rfl rfl HO.out rfl (by omega) hsz ?_); intro v' w1 hown1 hbel1 _)
      have HO1 := Lib.hid hown1
      have HB1 := Lib.hid (hbel1 _ _ (Nat.le_refl _) HB.out)
      clear hown1 hbel1
      go_roundw
      case rel => exact ⟨k + 1, by omega, by go_num, by rw [take_snoc _ _ hlt]; exact HO1.out, HB1.out⟩
      case measure => simp [intOf]; omega
    · have hke : k = xs.length := by omega
      subst hke
      have HO := Lib.hid hown
      have HB := Lib.hid hbel
      clear hown hbel hc
      go_wp2
      go_ret
      exact ⟨_, rfl, by have := HO.out; rw [List.take_length] at this; exact this, HB.out⟩

set_option maxHeartbeats 400000 in
theorem slicesEqual_any (a a2 : Option Addr) (c c2 hi : Nat) (xs ys : List Int) (w : World) (h : Ints .i64 w hi a xs) (h2 : Ints .i64 w hi a2 ys) :
    Calls Try.prog 74 #[.slice a xs.length c, .slice a2 ys.length c2] w fun e w' => e = .returned (.bool (decide (xs = ys))) ∧ ∃ q, w' = w.drewN q := by
  obtain ⟨hm, _, hc⟩ := h
  obtain ⟨hm2, _, hc2⟩ := h2
  by_cases hl : xs.length = ys.length
  · have hl1 : ((xs.length : Int) == (ys.length : Int)) = true := by simp; omega
    have hl2 : ((xs.length : Int) != (ys.length : Int)) = false := by simp; omega
    have HL := Lib.hid hl
    clear hl
    go_enter Try.func74, Try.ntmps74
    go_wp2
    go_loopw [13] (fun i wr => ∃ k : Nat, k ≤ xs.length ∧ i = .int .i64 k ∧ xs.take k = ys.take k ∧ ∃ q, wr = w.drewN q) (fun i _ => xs.length - (intOf i).toNat)
    case atStart => exact ⟨0, Nat.zero_le _, rfl, rfl, 0, rfl⟩
    case round =>
      obtain ⟨k, hk, rfl, htk, q, rfl⟩ := hrel
      have HT := Lib.hid htk
      clear htk
      by_cases hlt : k < xs.length
      · have hlt2 : k < ys.length := by have := HL.out; omega
        obtain ⟨b, off, rfl, _, hcell⟩ := hc k hlt
        obtain ⟨b2, off2, rfl, _, hcell2⟩ := hc2 k hlt2
        clear hc hc2
        rw [List.getElem?_eq_getElem hlt] at hcell
        rw [List.getElem?_eq_getElem hlt2] at hcell2
        simp only [Option.getD_some] at hcell hcell2
        by_cases he : xs[k] = ys[k]
        · have he1 : (xs[k] == ys[k]) = true := by simp [he]
          have he2 : (xs[k] != ys[k]) = false := by simp [he]
          have HE := Lib.hid he
          clear he
          go_wp2
          go_quiet (fail)
          go_wp2
          go_roundw
          case rel => exact ⟨k + 1, by omega, by go_num, by rw [take_snoc _ _ hlt, take_snoc _ _ hlt2, HT.out, HE.out], _, by first | rfl | exact World.drewN_drewN _ _ _⟩
          case measure => simp [intOf]; omega
        · have he1 : (xs[k] == ys[k]) = false := by simp [he]
          have he2 : (xs[k] != ys[k]) = true := by simp [he]
          have HE := Lib.hid (take_ne k hlt hlt2 he)
          clear he
          go_wp2
          go_quiet (fail)
          go_wp2
          go_ret
          exact ⟨ret_bool (by simp [HE.out]), _, by first | rfl | exact World.drewN_drewN _ _ _⟩
      · have hke : k = xs.length := by omega
        subst hke
        have HX : Hid (xs = ys) := by
          have := HT.out
          rw [List.take_length, HL.out, List.take_length] at this
          exact this
        go_wp2
        go_ret
        exact ⟨ret_bool (by simp [HX.out]), _, rfl⟩
  · have hl1 : ((xs.length : Int) == (ys.length : Int)) = false := by simp; omega
    have hl2 : ((xs.length : Int) != (ys.length : Int)) = true := by simp; omega
    have HX : Hid (¬ xs = ys) := fun e => hl (by rw [e])
    clear hl
    go_enter Try.func74, Try.ntmps74
    go_wp2
    go_ret
    exact ⟨ret_bool (by simp [HX.out]), 0, rfl⟩


theorem num6_any (e : Int) (w : World) : Calls Try.prog 29 #[.int .i64 e] w fun r w' => r = .returned (.int .i64 e) ∧ w = w' := by
  go_enter Try.func29, Try.ntmps29
  go_wp2
  go_ret
  exact ⟨rfl, rfl⟩

/-- The reference's Count, of dimensions that may be. -/
def countE (xs : List Int) : Int := if prodI xs ≤ 65536 then prodI xs else 65537
theorem countE_good {xs : List Int} (h : goodB xs = true) : countE xs = prodI xs := by unfold countE; rw [if_pos (goodB_prod h).2]

set_option maxHeartbeats 400000 in
theorem rcount_any (a : Option Addr) (c hi : Nat) (xs : List Int) (w : World) (h : Ints .i64 w hi a xs) (hD : Dims xs) :
    Calls Try.prog 36 #[.slice a xs.length c] w fun e w' => e = .returned (.int .i64 (countE xs)) ∧ w = w' := by
  obtain ⟨hm, _, hc⟩ := h
  go_enter Try.func36, Try.ntmps36
  go_wp2
  go_loop [3, 4] (fun n i => ∃ k : Nat, k ≤ xs.length ∧ i = .int .i64 k ∧ n = .int .i64 (prodI (xs.take k)) ∧ prodI (xs.take k) ≤ 65536) (fun _ i => xs.length - (intOf i).toNat)
  case atStart => exact ⟨0, Nat.zero_le _, rfl, rfl, by simp [prodI]⟩
  case round =>
    obtain ⟨k, hk, rfl, rfl, hle⟩ := hrel
    by_cases hlt : k < xs.length
    · obtain ⟨b, off, rfl, _, hcell⟩ := hc k hlt
      clear hc
      rw [List.getElem?_eq_getElem hlt] at hcell
      simp only [Option.getD_some] at hcell
      have HS := Lib.hid (prodI_take_succ xs k hlt)
      have hd := hD.at hlt
      obtain ⟨hd1, hd2⟩ := hd
      have hp := (hD.take k).pos
      have hm1 : prodI (xs.take k) * xs[k] ≤ 65536 * 4096 := Int.mul_le_mul hle hd2 (by omega) (by omega)
      have hm0 : 0 ≤ prodI (xs.take k) * xs[k] := Int.mul_nonneg (by omega) (by omega)
      by_cases hbig : prodI (xs.take k) * xs[k] ≤ 65536
      · go_wp2
        go_round
        case rel => exact ⟨k + 1, by omega, by go_num, by rw [HS.out], by rw [HS.out]; exact hbig⟩
        case measure => simp [intOf]; omega
      · have HC : Hid (countE xs = 65537) := by
          unfold countE
          have := prodI_take_le hD (k + 1)
          rw [HS.out] at this
          rw [if_neg (by omega)]; rfl
        have hbig' : 65536 < prodI (xs.take k) * xs[k] := by omega
        go_wp2
        go_ret
        exact ⟨ret_int HC.out.symm, rfl⟩
    · have hke : k = xs.length := by omega
      subst hke
      have HC : Hid (countE xs = prodI xs) := by
        rw [List.take_length] at hle
        unfold countE
        rw [if_pos hle]; rfl
      go_wp2
      go_ret
      exact ⟨ret_int (by rw [HC.out]), rfl⟩

set_option maxHeartbeats 400000 in
theorem rmay_any (a : Option Addr) (c hi : Nat) (xs : List Int) (w : World) (h : Ints .i64 w hi a xs) :
    Calls Try.prog 26 #[.slice a xs.length c] w fun e w' => e = .returned (.bool (goodB xs)) ∧ w = w' := by
  have h0 := h
  obtain ⟨hm, _, hc⟩ := h
  by_cases h4 : xs.length ≤ 4
  · have h4' : ¬ (4 < xs.length) := by omega
    have H0 := Lib.hid h0
    clear h0
    go_enter Try.func26, Try.ntmps26
    go_wp2_with fail
    go_loop [3] (fun i => ∃ k : Nat, k ≤ xs.length ∧ i = .int .i64 k ∧ Dims (xs.take k)) (fun i => xs.length - (intOf i).toNat)
    case atStart => exact ⟨0, Nat.zero_le _, rfl, by simp [Dims]⟩
    case round =>
      obtain ⟨k, hk, rfl, hall⟩ := hrel
      by_cases hlt : k < xs.length
      · obtain ⟨b, off, rfl, _, hcell⟩ := hc k hlt
        clear hc
        rw [List.getElem?_eq_getElem hlt] at hcell
        simp only [Option.getD_some] at hcell
        by_cases hd : dimOk xs[k] = true
        · have hd' := dimOk_iff.1 hd
          have hD : Dims (xs.take (k + 1)) := by
            rw [take_snoc xs k hlt]
            intro d hd2
            rcases List.mem_append.1 hd2 with h | h
            · exact hall d h
            · simp at h; subst h; exact hd'
          obtain ⟨hd1, hd2⟩ := hd'
          clear hd
          go_wp2_with fail
          go_round
          case rel => exact ⟨k + 1, by omega, by go_num, hD⟩
          case measure => simp [intOf]; omega
        · have hbad : goodB xs = false := by
            cases hg : goodB xs with
            | false => rfl
            | true => exact absurd (dimOk_iff.2 ((goodB_dims hg).at hlt)) hd
          have hd' : ¬ (1 ≤ xs[k] ∧ xs[k] ≤ 4096) := fun h => hd (dimOk_iff.2 h)
          have HB := Lib.hid hbad
          clear hbad hd
          by_cases h1 : xs[k] < 1
          · go_wp2_with fail
            go_ret
            exact ⟨ret_bool HB.out.symm, rfl⟩
          · have h2 : 4096 < xs[k] := by omega
            go_wp2_with fail
            go_ret
            exact ⟨ret_bool HB.out.symm, rfl⟩
      · have hke : k = xs.length := by omega
        subst hke
        rw [List.take_length] at hall
        have hg : goodB xs = decide (countE xs ≤ 65536) := by
          unfold countE
          by_cases hp : prodI xs ≤ 65536
          · rw [goodB_iff.2 ⟨h4, hall, hp⟩, if_pos hp]; simp [hp]
          · cases hg : goodB xs with
            | true => exact absurd (goodB_iff.1 hg).2.2 hp
            | false => rw [if_neg hp]; rfl
        have HG := Lib.hid hg
        have HC := Lib.hid (rcount_any a c hi xs w H0.out hall)
        clear hg hc
        go_wp2_with (go_at_call 36; refine HC.out.mono ?_; rintro e w' ⟨rfl, rfl⟩)
        go_ret
        exact ⟨by rw [HG.out]; simp, rfl⟩
  · have h4' : 4 < xs.length := by omega
    clear h0 hc
    go_enter Try.func26, Try.ntmps26
    go_wp2_with fail
    go_ret
    exact ⟨by simp [goodB, h4], rfl⟩

set_option maxHeartbeats 400000 in
theorem rmayIndex_any (a a2 : Option Addr) (c c2 hi : Nat) (xs is : List Int) (w : World) (h : Ints .i64 w hi a xs) (h2 : Ints .i64 w hi a2 is) :
    Calls Try.prog 39 #[.slice a xs.length c, .slice a2 is.length c2] w fun e w' => e = .returned (.bool (withinB xs is)) ∧ ∃ q, w' = w.drewN q := by
  obtain ⟨hm, _, hc⟩ := h
  obtain ⟨hm2, _, hc2⟩ := h2
  by_cases hl : is.length = xs.length
  · have hl' : ((xs.length : Int) == (is.length : Int)) = true := by simp; omega
    have hl2 : ((xs.length : Int) != (is.length : Int)) = false := by simp; omega
    have HL := Lib.hid hl
    clear hl
    go_enter Try.func39, Try.ntmps39
    go_wp2
    go_loopw [5] (fun i wr => ∃ k : Nat, k ≤ xs.length ∧ i = .int .i64 k ∧ (∀ j, j < k → 0 ≤ is[j]?.getD 0 ∧ is[j]?.getD 0 < xs[j]?.getD 0) ∧ ∃ q, wr = w.drewN q) (fun i _ => xs.length - (intOf i).toNat)
    case atStart => exact ⟨0, Nat.zero_le _, rfl, by simp, 0, rfl⟩
    case round =>
      obtain ⟨k, hk, rfl, hall, q, rfl⟩ := hrel
      by_cases hlt : k < xs.length
      · have hlt2 : k < is.length := by have := HL.out; omega
        obtain ⟨b, off, rfl, _, hcell⟩ := hc k hlt
        obtain ⟨b2, off2, rfl, _, hcell2⟩ := hc2 k hlt2
        clear hc hc2
        have HA := Lib.hid hall
        clear hall
        rw [List.getElem?_eq_getElem hlt] at hcell
        rw [List.getElem?_eq_getElem hlt2] at hcell2
        simp only [Option.getD_some] at hcell hcell2
        have HN : Hid (is[k] < 0 ∨ xs[k] ≤ is[k] → withinB xs is = false) := Lib.hid (fun hh => by
          cases hw : withinB xs is with
          | false => rfl
          | true =>
            have := (withinB_iff.1 hw).2 k hlt
            simp [hlt, hlt2] at this
            omega)
        by_cases h1 : is[k] < 0
        · have h1d : decide (is[k] < 0) = true := by simpa using h1
          go_wp2
          go_quiet (fail)
          go_wp2
          go_ret
          exact ⟨ret_bool (HN.out (.inl h1)).symm, _, by first | rfl | exact World.drewN_drewN _ _ _⟩
        · have h1' : 0 ≤ is[k] := by omega
          have h1d : decide (is[k] < 0) = false := by simpa using h1
          by_cases h3 : xs[k] ≤ is[k]
          · have h3d : decide (xs[k] ≤ is[k]) = true := by simpa using h3
            go_wp2
            go_quiet (fail)
            go_wp2
            go_ret
            exact ⟨ret_bool (HN.out (.inr h3)).symm, _, by first | rfl | exact World.drewN_drewN _ _ _⟩
          · have h3' : is[k] < xs[k] := by omega
            have h3d : decide (xs[k] ≤ is[k]) = false := by simpa using h3
            go_wp2
            go_quiet (fail)
            go_wp2
            go_roundw
            case rel =>
              refine ⟨k + 1, by omega, by go_num, fun j hj => ?_, _, by first | rfl | exact World.drewN_drewN _ _ _⟩
              by_cases e : j = k
              · subst e; simp [hlt, hlt2]; omega
              · exact HA.out j (by omega)
            case measure => simp [intOf]; omega
      · have hke : k = xs.length := by omega
        subst hke
        have HW := Lib.hid (withinB_iff.2 ⟨HL.out, hall⟩)
        clear hall
        go_wp2
        go_ret
        exact ⟨ret_bool HW.out.symm, _, rfl⟩
  · have hl' : ((xs.length : Int) == (is.length : Int)) = false := by simp; omega
    have hl2 : ((xs.length : Int) != (is.length : Int)) = true := by simp; omega
    have hw : withinB xs is = false := by
      cases hw : withinB xs is with
      | false => rfl
      | true => exact absurd (withinB_length hw) hl
    have HW := Lib.hid hw
    clear hw hl
    go_enter Try.func39, Try.ntmps39
    go_wp2
    go_ret
    exact ⟨ret_bool HW.out.symm, 0, rfl⟩

end Go.Proofs.Ytiejkdnkdmanmaa
