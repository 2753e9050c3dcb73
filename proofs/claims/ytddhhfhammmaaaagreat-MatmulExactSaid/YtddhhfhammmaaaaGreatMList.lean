/- Walks over lists of numbers and of words: shapes, equality, copies. -/
import Derived.Test.YtddhhfhammmaaaaGreatRows
import Derived.Test.YtddhhfhammmaaaaGreatShape
import Derived.Deep.QuietTactic
import Derived.BigQuiet
import Derived.Deep.RegionHeld3
import Derived.Laws.Cover3
set_option linter.unusedVariables false
set_option linter.unusedSimpArgs false
namespace Go.Proofs.YtddhhfhammmaaaaGreat
open Go.RowKit Go.Rt

theorem pow_bound (k : Nat) (h : k < 4) (x : Int) (hx : x ≤ 4096 ^ k) : x ≤ 68719476736 := by
  match k, h with
  | 0, _ => simp at hx; omega
  | 1, _ => simp at hx; omega
  | 2, _ => simp at hx; omega
  | 3, _ => simp at hx; omega
set_option maxHeartbeats 400000 in
theorem good_any (a : Option Addr) (c hi : Nat) (xs : List Int) (w : World) (h : Ints .i64 w hi a xs) :
    Calls Tryz.prog 65 #[.slice a xs.length c] w fun e w' => e = .returned (.bool (goodB xs)) ∧ w = w' := by
  obtain ⟨hm, _, hc⟩ := h
  by_cases h4 : xs.length ≤ 4
  · have h4' : ¬ (4 < xs.length) := by omega
    go_enter Tryz.func65, Tryz.ntmps65
    go_wp2
    go_loop [3, 11] (fun n i => ∃ k : Nat, k ≤ xs.length ∧ i = .int .i64 k ∧ n = .int .i64 (prodI (xs.take k)) ∧ Dims (xs.take k)) (fun _ i => xs.length - (intOf i).toNat)
    case atStart => exact ⟨0, Nat.zero_le _, rfl, rfl, by simp [Dims]⟩
    case round =>
      obtain ⟨k, hk, rfl, rfl, hall⟩ := hrel
      by_cases hlt : k < xs.length
      · obtain ⟨b, off, rfl, _, hcell⟩ := hc k hlt
        clear hc
        have hp1 := hall.pos
        have hp2 := prodI_le_pow _ hall
        rw [List.length_take, Nat.min_eq_left hk] at hp2
        replace hp2 := pow_bound k (by omega) _ hp2
        by_cases hd : dimOk xs[k] = true
        · have hd' := dimOk_iff.1 hd
          have hs := prodI_take_succ xs k hlt
          have hD : Dims (xs.take (k + 1)) := by
            rw [take_snoc xs k hlt]
            intro d hd2
            rcases List.mem_append.1 hd2 with h | h
            · exact hall d h
            · simp at h; subst h; exact hd'
          have hm1 : prodI (xs.take k) * xs[k] ≤ 68719476736 * 4096 := Int.mul_le_mul hp2 hd'.2 (by omega) (by omega)
          have hm0 : 0 ≤ prodI (xs.take k) * xs[k] := Int.mul_nonneg (by omega) (by omega)
          obtain ⟨hd1, hd2⟩ := hd'
          have HS := Lib.hid hs
          clear hs hd
          go_wp2
          go_round
          case rel => exact ⟨k + 1, by omega, by go_num, by rw [HS.out], hD⟩
          case measure => simp [intOf]; omega
        · have hbad : goodB xs = false := by
            cases hg : goodB xs with
            | false => rfl
            | true => exact absurd (dimOk_iff.2 ((goodB_dims hg).at hlt)) hd
          have hd' : ¬ (1 ≤ xs[k] ∧ xs[k] ≤ 4096) := fun h => hd (dimOk_iff.2 h)
          have HB := Lib.hid hbad
          clear hbad hd
          by_cases h1 : xs[k] < 1
          · go_wp2
            go_ret
            exact ⟨ret_bool HB.out.symm, rfl⟩
          · have h2 : 4096 < xs[k] := by omega
            go_wp2
            go_ret
            exact ⟨ret_bool HB.out.symm, rfl⟩
      · have hke : k = xs.length := by omega
        subst hke
        rw [List.take_length] at hall
        have hg : goodB xs = decide (prodI xs ≤ 65536) := by
          by_cases hp : prodI xs ≤ 65536
          · rw [goodB_iff.2 ⟨h4, hall, hp⟩]; simp [hp]
          · cases hg : goodB xs with
            | true => exact absurd (goodB_iff.1 hg).2.2 hp
            | false => simp [hp]
        have HG := Lib.hid hg
        clear hg
        go_wp2
        go_ret
        exact ⟨by rw [HG.out]; simp, rfl⟩
  · have h4' : 4 < xs.length := by omega
    go_enter Tryz.func65, Tryz.ntmps65
    go_wp2
    go_ret
    exact ⟨by simp [goodB, h4], rfl⟩
set_option maxHeartbeats 400000 in
theorem size_any (a : Option Addr) (c hi : Nat) (xs : List Int) (w : World) (h : Ints .i64 w hi a xs) (hg : goodB xs = true) :
    Calls Tryz.prog 66 #[.slice a xs.length c] w fun e w' => e = .returned (.int .i64 (prodI xs)) ∧ w = w' := by
  obtain ⟨hm, _, hc⟩ := h
  have hD := goodB_dims hg
  have hP := (goodB_prod hg).2
  clear hg
  go_enter Tryz.func66, Tryz.ntmps66
  go_wp2
  go_loop [3, 8] (fun n i => ∃ k : Nat, k ≤ xs.length ∧ i = .int .i64 k ∧ n = .int .i64 (prodI (xs.take k))) (fun _ i => xs.length - (intOf i).toNat)
  case atStart => exact ⟨0, Nat.zero_le _, rfl, rfl⟩
  case round =>
    obtain ⟨k, hk, rfl, rfl⟩ := hrel
    by_cases hlt : k < xs.length
    · obtain ⟨b, off, rfl, _, hcell⟩ := hc k hlt
      clear hc
      have HS := Lib.hid (prodI_take_succ xs k hlt)
      have hp1 := (hD.take (k + 1)).pos
      have hp2 := prodI_take_le hD (k + 1)
      rw [HS.out] at hp1 hp2
      go_wp2
      go_round
      case rel => exact ⟨k + 1, by omega, by go_num, by rw [HS.out]⟩
      case measure => simp [intOf]; omega
    · have hke : k = xs.length := by omega
      subst hke
      go_wp2
      go_ret
      exact ⟨by simp, rfl⟩

theorem infoInt : (Tryz.prog.info? 3).map (fun i => (i.zero, i.size, i.bytes)) = some (some (.int .i64 0), 1, 8) := by kernel_rfl
/-- What a function hands back that makes a list of integers. -/
def RetInts (w : World) (xs : List Int) (e : Ending) (w' : World) : Prop :=
  ∃ v, e = .returned v ∧ w'.ownsRow w.heap.size 3 1 v xs.length (xs.map (Value.int .i64)) ∧ Below w.heap.size w w'

theorem infoI64 : (Tryz.prog.info? 2).map (fun i => (i.zero, i.size, i.bytes)) = some (some (.int .i64 0), 1, 8) := by kernel_rfl
/-- What a function hands back that makes a list of words. -/
def RetWords (w : World) (xs : List Int) (e : Ending) (w' : World) : Prop :=
  ∃ v, e = .returned v ∧ w'.ownsRow w.heap.size 2 1 v xs.length (xs.map (Value.int .i64)) ∧ Below w.heap.size w w'

theorem take_ne {xs ys : List Int} (k : Nat) (h1 : k < xs.length) (h2 : k < ys.length) (hne : xs[k] ≠ ys[k]) : xs ≠ ys := by
  intro e; subst e; exact hne rfl
set_option maxHeartbeats 400000 in
theorem eqNumbers_any (a a2 : Option Addr) (c c2 hi : Nat) (xs ys : List Int) (w : World) (h : Ints .i64 w hi a xs) (h2 : Ints .i64 w hi a2 ys) :
    Calls Tryz.prog 44 #[.slice a xs.length c, .slice a2 ys.length c2] w fun e w' => e = .returned (.bool (decide (xs = ys))) ∧ ∃ q, w' = w.drewN q := by
  obtain ⟨hm, _, hc⟩ := h
  obtain ⟨hm2, _, hc2⟩ := h2
  by_cases hl : xs.length = ys.length
  · have hl1 : ((xs.length : Int) == (ys.length : Int)) = true := by simp; omega
    have hl2 : ((xs.length : Int) != (ys.length : Int)) = false := by simp; omega
    have HL := Lib.hid hl
    clear hl
    go_enter Tryz.func44, Tryz.ntmps44
    go_wp2
    go_loopw [5] (fun i wr => ∃ k : Nat, k ≤ xs.length ∧ i = .int .i64 k ∧ xs.take k = ys.take k ∧ ∃ q, wr = w.drewN q) (fun i _ => xs.length - (intOf i).toNat)
    case atStart => exact ⟨0, Nat.zero_le _, rfl, rfl, 0, rfl⟩
    case round =>
      obtain ⟨k, hk, rfl, htk, q, rfl⟩ := hrel
      have HT := Lib.hid htk
      clear htk
      by_cases hlt : k < xs.length
      · have hlt2 : k < ys.length := by have := HL.out; omega
        obtain ⟨b, off, rfl, _, hcell⟩ := hc k hlt
        obtain ⟨b2, off2, rfl, _, hcell2⟩ := hc2 k hlt2
        clear hc hc2
        rw [List.getElem?_eq_getElem hlt] at hcell
        rw [List.getElem?_eq_getElem hlt2] at hcell2
        simp only [Option.getD_some] at hcell hcell2
        by_cases he : xs[k] = ys[k]
        · have he1 : (xs[k] == ys[k]) = true := by simp [he]
          have he2 : (xs[k] != ys[k]) = false := by simp [he]
          have HE := Lib.hid he
          clear he
          go_wp2
          go_quiet (fail)
          go_wp2
          go_roundw
          case rel => exact ⟨k + 1, by omega, by go_num, by rw [take_snoc _ _ hlt, take_snoc _ _ hlt2, HT.out, HE.out], _, by first | rfl | exact World.drewN_drewN _ _ _⟩
          case measure => simp [intOf]; omega
        · have he1 : (xs[k] == ys[k]) = false := by simp [he]
          have he2 : (xs[k] != ys[k]) = true := by simp [he]
          have HE := Lib.hid (take_ne k hlt hlt2 he)
          clear he
          go_wp2
          go_quiet (fail)
          go_wp2
          go_ret
          exact ⟨ret_bool (by simp [HE.out]), _, by first | rfl | exact World.drewN_drewN _ _ _⟩
      · have hke : k = xs.length := by omega
        subst hke
        have HX : Hid (xs = ys) := by
          have := HT.out
          rw [List.take_length, HL.out, List.take_length] at this
          exact this
        go_wp2
        go_ret
        exact ⟨ret_bool (by simp [HX.out]), _, rfl⟩
  · have hl1 : ((xs.length : Int) == (ys.length : Int)) = false := by simp; omega
    have hl2 : ((xs.length : Int) != (ys.length : Int)) = true := by simp; omega
    have HX : Hid (¬ xs = ys) := fun e => hl (by rw [e])
    clear hl
    go_enter Tryz.func44, Tryz.ntmps44
    go_wp2
    go_ret
    exact ⟨ret_bool (by simp [HX.out]), 0, rfl⟩
set_option maxHeartbeats 400000 in
theorem copyNumbers_any (a : Option Addr) (c : Nat) (xs : List Int) (w : World) (h : Ints .i64 w w.heap.size a xs) (hn : xs.length ≤ 17592186044415) :
    Calls Tryz.prog 32 #[.slice a xs.length c] w (RetInts w xs) := by
  obtain ⟨hm, _, hc⟩ := h
  go_enter Tryz.func32, Tryz.ntmps32
  go_wp2
  go_loopw [3, 4] (fun v i wr => ∃ k : Nat, k ≤ xs.length ∧ i = .int .i64 k ∧ wr.ownsRow w.heap.size 3 1 v k ((xs.take k).map (Value.int .i64)) ∧ Below w.heap.size w wr) (fun _ i _ => xs.length - (intOf i).toNat)
  case atStart => exact ⟨0, Nat.zero_le _, rfl, World.ownsRow_nil _ _ _ _, Below.refl _ _⟩
  case round =>
    obtain ⟨k, hk, rfl, hown, hbel⟩ := hrel
    by_cases hlt : k < xs.length
    · obtain ⟨b, off, rfl, hlb, hcell⟩ := hc k hlt
      clear hc
      rw [List.getElem?_eq_getElem hlt] at hcell
      simp only [Option.getD_some] at hcell
      have hcr : wr.cell? ⟨b, off + k, none⟩ = some (.int .i64 xs[k]) := (hbel.cell (p := ⟨b, off + k, none⟩) hlb).trans hcell
      have HO := Lib.hid hown
      have HB := Lib.hid hbel
      have hsz := hbel.size
      clear hown hbel hcell
      go_wp2_with (at_builtin; (refine wpl_append1 23 3 .i64 infoInt Tryz.underlying23 w.heap.size _ k (xs.take k) xs[k] _ _ _ rfl rfl rfl HO.out rfl (by omega) hsz ?_); intro v' w1 hown1 hbel1 _)
      have HO1 := Lib.hid hown1
      have HB1 := Lib.hid (hbel1 _ _ (Nat.le_refl _) HB.out)
      clear hown1 hbel1
      go_roundw
      case rel => exact ⟨k + 1, by omega, by go_num, by rw [take_snoc _ _ hlt]; exact HO1.out, HB1.out⟩
      case measure => simp [intOf]; omega
    · have hke : k = xs.length := by omega
      subst hke
      have HO := Lib.hid hown
      have HB := Lib.hid hbel
      clear hown hbel hc
      go_wp2
      go_ret
      exact ⟨_, rfl, by have := HO.out; rw [List.take_length] at this; exact this, HB.out⟩
set_option maxHeartbeats 400000 in
theorem slicesEqual_any (a a2 : Option Addr) (c c2 hi : Nat) (xs ys : List Int) (w : World) (h : Ints .i64 w hi a xs) (h2 : Ints .i64 w hi a2 ys) :
    Calls Tryz.prog 89 #[.slice a xs.length c, .slice a2 ys.length c2] w fun e w' => e = .returned (.bool (decide (xs = ys))) ∧ ∃ q, w' = w.drewN q := by
  obtain ⟨hm, _, hc⟩ := h
  obtain ⟨hm2, _, hc2⟩ := h2
  by_cases hl : xs.length = ys.length
  · have hl1 : ((xs.length : Int) == (ys.length : Int)) = true := by simp; omega
    have hl2 : ((xs.length : Int) != (ys.length : Int)) = false := by simp; omega
    have HL := Lib.hid hl
    clear hl
    go_enter Tryz.func89, Tryz.ntmps89
    go_wp2
    go_loopw [13] (fun i wr => ∃ k : Nat, k ≤ xs.length ∧ i = .int .i64 k ∧ xs.take k = ys.take k ∧ ∃ q, wr = w.drewN q) (fun i _ => xs.length - (intOf i).toNat)
    case atStart => exact ⟨0, Nat.zero_le _, rfl, rfl, 0, rfl⟩
    case round =>
      obtain ⟨k, hk, rfl, htk, q, rfl⟩ := hrel
      have HT := Lib.hid htk
      clear htk
      by_cases hlt : k < xs.length
      · have hlt2 : k < ys.length := by have := HL.out; omega
        obtain ⟨b, off, rfl, _, hcell⟩ := hc k hlt
        obtain ⟨b2, off2, rfl, _, hcell2⟩ := hc2 k hlt2
        clear hc hc2
        rw [List.getElem?_eq_getElem hlt] at hcell
        rw [List.getElem?_eq_getElem hlt2] at hcell2
        simp only [Option.getD_some] at hcell hcell2
        by_cases he : xs[k] = ys[k]
        · have he1 : (xs[k] == ys[k]) = true := by simp [he]
          have he2 : (xs[k] != ys[k]) = false := by simp [he]
          have HE := Lib.hid he
          clear he
          go_wp2
          go_quiet (fail)
          go_wp2
          go_roundw
          case rel => exact ⟨k + 1, by omega, by go_num, by rw [take_snoc _ _ hlt, take_snoc _ _ hlt2, HT.out, HE.out], _, by first | rfl | exact World.drewN_drewN _ _ _⟩
          case measure => simp [intOf]; omega
        · have he1 : (xs[k] == ys[k]) = false := by simp [he]
          have he2 : (xs[k] != ys[k]) = true := by simp [he]
          have HE := Lib.hid (take_ne k hlt hlt2 he)
          clear he
          go_wp2
          go_quiet (fail)
          go_wp2
          go_ret
          exact ⟨ret_bool (by simp [HE.out]), _, by first | rfl | exact World.drewN_drewN _ _ _⟩
      · have hke : k = xs.length := by omega
        subst hke
        have HX : Hid (xs = ys) := by
          have := HT.out
          rw [List.take_length, HL.out, List.take_length] at this
          exact this
        go_wp2
        go_ret
        exact ⟨ret_bool (by simp [HX.out]), _, rfl⟩
  · have hl1 : ((xs.length : Int) == (ys.length : Int)) = false := by simp; omega
    have hl2 : ((xs.length : Int) != (ys.length : Int)) = true := by simp; omega
    have HX : Hid (¬ xs = ys) := fun e => hl (by rw [e])
    clear hl
    go_enter Tryz.func89, Tryz.ntmps89
    go_wp2
    go_ret
    exact ⟨ret_bool (by simp [HX.out]), 0, rfl⟩
/-- The reference's Count, of dimensions that may be. -/
def countE (xs : List Int) : Int := if prodI xs ≤ 65536 then prodI xs else 65537
theorem countE_good {xs : List Int} (h : goodB xs = true) : countE xs = prodI xs := by unfold countE; rw [if_pos (goodB_prod h).2]
set_option maxHeartbeats 400000 in
theorem rcount_any (a : Option Addr) (c hi : Nat) (xs : List Int) (w : World) (h : Ints .i64 w hi a xs) (hD : Dims xs) :
    Calls Tryz.prog 17 #[.slice a xs.length c] w fun e w' => e = .returned (.int .i64 (countE xs)) ∧ w = w' := by
  obtain ⟨hm, _, hc⟩ := h
  go_enter Tryz.func17, Tryz.ntmps17
  go_wp2
  go_loop [3, 4] (fun n i => ∃ k : Nat, k ≤ xs.length ∧ i = .int .i64 k ∧ n = .int .i64 (prodI (xs.take k)) ∧ prodI (xs.take k) ≤ 65536) (fun _ i => xs.length - (intOf i).toNat)
  case atStart => exact ⟨0, Nat.zero_le _, rfl, rfl, by simp [prodI]⟩
  case round =>
    obtain ⟨k, hk, rfl, rfl, hle⟩ := hrel
    by_cases hlt : k < xs.length
    · obtain ⟨b, off, rfl, _, hcell⟩ := hc k hlt
      clear hc
      rw [List.getElem?_eq_getElem hlt] at hcell
      simp only [Option.getD_some] at hcell
      have HS := Lib.hid (prodI_take_succ xs k hlt)
      have hd := hD.at hlt
      obtain ⟨hd1, hd2⟩ := hd
      have hp := (hD.take k).pos
      have hm1 : prodI (xs.take k) * xs[k] ≤ 65536 * 4096 := Int.mul_le_mul hle hd2 (by omega) (by omega)
      have hm0 : 0 ≤ prodI (xs.take k) * xs[k] := Int.mul_nonneg (by omega) (by omega)
      by_cases hbig : prodI (xs.take k) * xs[k] ≤ 65536
      · go_wp2
        go_round
        case rel => exact ⟨k + 1, by omega, by go_num, by rw [HS.out], by rw [HS.out]; exact hbig⟩
        case measure => simp [intOf]; omega
      · have HC : Hid (countE xs = 65537) := by
          unfold countE
          have := prodI_take_le hD (k + 1)
          rw [HS.out] at this
          rw [if_neg (by omega)]; rfl
        have hbig' : 65536 < prodI (xs.take k) * xs[k] := by omega
        go_wp2
        go_ret
        exact ⟨ret_int HC.out.symm, rfl⟩
    · have hke : k = xs.length := by omega
      subst hke
      have HC : Hid (countE xs = prodI xs) := by
        rw [List.take_length] at hle
        unfold countE
        rw [if_pos hle]; rfl
      go_wp2
      go_ret
      exact ⟨ret_int (by rw [HC.out]), rfl⟩
set_option maxHeartbeats 400000 in
theorem rmay_any (a : Option Addr) (c hi : Nat) (xs : List Int) (w : World) (h : Ints .i64 w hi a xs) :
    Calls Tryz.prog 16 #[.slice a xs.length c] w fun e w' => e = .returned (.bool (goodB xs)) ∧ w = w' := by
  have h0 := h
  obtain ⟨hm, _, hc⟩ := h
  by_cases h4 : xs.length ≤ 4
  · have h4' : ¬ (4 < xs.length) := by omega
    have H0 := Lib.hid h0
    clear h0
    go_enter Tryz.func16, Tryz.ntmps16
    go_wp2_with fail
    go_loop [3] (fun i => ∃ k : Nat, k ≤ xs.length ∧ i = .int .i64 k ∧ Dims (xs.take k)) (fun i => xs.length - (intOf i).toNat)
    case atStart => exact ⟨0, Nat.zero_le _, rfl, by simp [Dims]⟩
    case round =>
      obtain ⟨k, hk, rfl, hall⟩ := hrel
      by_cases hlt : k < xs.length
      · obtain ⟨b, off, rfl, _, hcell⟩ := hc k hlt
        clear hc
        rw [List.getElem?_eq_getElem hlt] at hcell
        simp only [Option.getD_some] at hcell
        by_cases hd : dimOk xs[k] = true
        · have hd' := dimOk_iff.1 hd
          have hD : Dims (xs.take (k + 1)) := by
            rw [take_snoc xs k hlt]
            intro d hd2
            rcases List.mem_append.1 hd2 with h | h
            · exact hall d h
            · simp at h; subst h; exact hd'
          obtain ⟨hd1, hd2⟩ := hd'
          clear hd
          go_wp2_with fail
          go_round
          case rel => exact ⟨k + 1, by omega, by go_num, hD⟩
          case measure => simp [intOf]; omega
        · have hbad : goodB xs = false := by
            cases hg : goodB xs with
            | false => rfl
            | true => exact absurd (dimOk_iff.2 ((goodB_dims hg).at hlt)) hd
          have hd' : ¬ (1 ≤ xs[k] ∧ xs[k] ≤ 4096) := fun h => hd (dimOk_iff.2 h)
          have HB := Lib.hid hbad
          clear hbad hd
          by_cases h1 : xs[k] < 1
          · go_wp2_with fail
            go_ret
            exact ⟨ret_bool HB.out.symm, rfl⟩
          · have h2 : 4096 < xs[k] := by omega
            go_wp2_with fail
            go_ret
            exact ⟨ret_bool HB.out.symm, rfl⟩
      · have hke : k = xs.length := by omega
        subst hke
        rw [List.take_length] at hall
        have hg : goodB xs = decide (countE xs ≤ 65536) := by
          unfold countE
          by_cases hp : prodI xs ≤ 65536
          · rw [goodB_iff.2 ⟨h4, hall, hp⟩, if_pos hp]; simp [hp]
          · cases hg : goodB xs with
            | true => exact absurd (goodB_iff.1 hg).2.2 hp
            | false => rw [if_neg hp]; rfl
        have HG := Lib.hid hg
        have HC := Lib.hid (rcount_any a c hi xs w H0.out hall)
        clear hg hc
        go_wp2_with (go_at_call 17; refine HC.out.mono ?_; rintro e w' ⟨rfl, rfl⟩)
        go_ret
        exact ⟨by rw [HG.out]; simp, rfl⟩
  · have h4' : 4 < xs.length := by omega
    clear h0 hc
    go_enter Tryz.func16, Tryz.ntmps16
    go_wp2_with fail
    go_ret
    exact ⟨by simp [goodB, h4], rfl⟩

set_option maxHeartbeats 400000 in
theorem eqWords_any (a a2 : Option Addr) (c c2 hi : Nat) (xs ys : List Int) (w : World) (h : Ints .i64 w hi a xs) (h2 : Ints .i64 w hi a2 ys) :
    Calls Tryz.prog 45 #[.slice a xs.length c, .slice a2 ys.length c2] w fun e w' => e = .returned (.bool (decide (xs = ys))) ∧ ∃ q, w' = w.drewN q := by
  obtain ⟨hm, _, hc⟩ := h
  obtain ⟨hm2, _, hc2⟩ := h2
  by_cases hl : xs.length = ys.length
  · have hl1 : ((xs.length : Int) == (ys.length : Int)) = true := by simp; omega
    have hl2 : ((xs.length : Int) != (ys.length : Int)) = false := by simp; omega
    have HL := Lib.hid hl
    clear hl
    go_enter Tryz.func45, Tryz.ntmps45
    go_wp2
    go_loopw [5] (fun i wr => ∃ k : Nat, k ≤ xs.length ∧ i = .int .i64 k ∧ xs.take k = ys.take k ∧ ∃ q, wr = w.drewN q) (fun i _ => xs.length - (intOf i).toNat)
    case atStart => exact ⟨0, Nat.zero_le _, rfl, rfl, 0, rfl⟩
    case round =>
      obtain ⟨k, hk, rfl, htk, q, rfl⟩ := hrel
      have HT := Lib.hid htk
      clear htk
      by_cases hlt : k < xs.length
      · have hlt2 : k < ys.length := by have := HL.out; omega
        obtain ⟨b, off, rfl, _, hcell⟩ := hc k hlt
        obtain ⟨b2, off2, rfl, _, hcell2⟩ := hc2 k hlt2
        clear hc hc2
        rw [List.getElem?_eq_getElem hlt] at hcell
        rw [List.getElem?_eq_getElem hlt2] at hcell2
        simp only [Option.getD_some] at hcell hcell2
        by_cases he : xs[k] = ys[k]
        · have he1 : (xs[k] == ys[k]) = true := by simp [he]
          have he2 : (xs[k] != ys[k]) = false := by simp [he]
          have HE := Lib.hid he
          clear he
          go_wp2
          go_quiet (fail)
          go_wp2
          go_roundw
          case rel => exact ⟨k + 1, by omega, by go_num, by rw [take_snoc _ _ hlt, take_snoc _ _ hlt2, HT.out, HE.out], _, by first | rfl | exact World.drewN_drewN _ _ _⟩
          case measure => simp [intOf]; omega
        · have he1 : (xs[k] == ys[k]) = false := by simp [he]
          have he2 : (xs[k] != ys[k]) = true := by simp [he]
          have HE := Lib.hid (take_ne k hlt hlt2 he)
          clear he
          go_wp2
          go_quiet (fail)
          go_wp2
          go_ret
          exact ⟨ret_bool (by simp [HE.out]), _, by first | rfl | exact World.drewN_drewN _ _ _⟩
      · have hke : k = xs.length := by omega
        subst hke
        have HX : Hid (xs = ys) := by
          have := HT.out
          rw [List.take_length, HL.out, List.take_length] at this
          exact this
        go_wp2
        go_ret
        exact ⟨ret_bool (by simp [HX.out]), _, rfl⟩
  · have hl1 : ((xs.length : Int) == (ys.length : Int)) = false := by simp; omega
    have hl2 : ((xs.length : Int) != (ys.length : Int)) = true := by simp; omega
    have HX : Hid (¬ xs = ys) := fun e => hl (by rw [e])
    clear hl
    go_enter Tryz.func45, Tryz.ntmps45
    go_wp2
    go_ret
    exact ⟨ret_bool (by simp [HX.out]), 0, rfl⟩

set_option maxHeartbeats 400000 in
theorem copyWords_any (a : Option Addr) (c : Nat) (xs : List Int) (w : World) (h : Ints .i64 w w.heap.size a xs) (hn : xs.length ≤ 17592186044415) :
    Calls Tryz.prog 33 #[.slice a xs.length c] w (RetWords w xs) := by
  obtain ⟨hm, _, hc⟩ := h
  go_enter Tryz.func33, Tryz.ntmps33
  go_wp2
  go_loopw [3, 4] (fun v i wr => ∃ k : Nat, k ≤ xs.length ∧ i = .int .i64 k ∧ wr.ownsRow w.heap.size 2 1 v k ((xs.take k).map (Value.int .i64)) ∧ Below w.heap.size w wr) (fun _ i _ => xs.length - (intOf i).toNat)
  case atStart => exact ⟨0, Nat.zero_le _, rfl, World.ownsRow_nil _ _ _ _, Below.refl _ _⟩
  case round =>
    obtain ⟨k, hk, rfl, hown, hbel⟩ := hrel
    by_cases hlt : k < xs.length
    · obtain ⟨b, off, rfl, hlb, hcell⟩ := hc k hlt
      clear hc
      rw [List.getElem?_eq_getElem hlt] at hcell
      simp only [Option.getD_some] at hcell
      have hcr : wr.cell? ⟨b, off + k, none⟩ = some (.int .i64 xs[k]) := (hbel.cell (p := ⟨b, off + k, none⟩) hlb).trans hcell
      have HO := Lib.hid hown
      have HB := Lib.hid hbel
      have hsz := hbel.size
      clear hown hbel hcell
      go_wp2_with (at_builtin; (refine wpl_append1 24 2 .i64 infoI64 Tryz.underlying24 w.heap.size _ k (xs.take k) xs[k] _ _ _ rfl rfl rfl HO.out rfl (by omega) hsz ?_); intro v' w1 hown1 hbel1 _)
      have HO1 := Lib.hid hown1
      have HB1 := Lib.hid (hbel1 _ _ (Nat.le_refl _) HB.out)
      clear hown1 hbel1
      go_roundw
      case rel => exact ⟨k + 1, by omega, by go_num, by rw [take_snoc _ _ hlt]; exact HO1.out, HB1.out⟩
      case measure => simp [intOf]; omega
    · have hke : k = xs.length := by omega
      subst hke
      have HO := Lib.hid hown
      have HB := Lib.hid hbel
      clear hown hbel hc
      go_wp2
      go_ret
      exact ⟨_, rfl, by have := HO.out; rw [List.take_length] at this; exact this, HB.out⟩

/-- law0's Within. -/
def withinN (i n : Int) : Int := (i % 18446744073709551616) % n
theorem withinN_bound (i n : Int) (h : 1 ≤ n) : 0 ≤ withinN i n ∧ withinN i n < n :=
  ⟨Int.emod_nonneg _ (by omega), Int.emod_lt_of_pos _ (by omega)⟩


theorem run_eql_slice_nil' {P : Program} (w : World) (t e : TypeId) (a : Option Addr) (l c : Nat) (h : P.underlying t = some (.slice e)) : (binOp .eql t (.slice a l c) (.slice none 0 0)).run P w = .ok (.bool a.isNone) w := by
  simp only [binOp]
  simp [run_equal_slice_nil w t e a l c h]
attribute [local go_sem] run_eql_slice_nil'

set_option maxRecDepth 100000 in
set_option maxHeartbeats 400000 in
theorem clone_any (a : Option Addr) (c : Nat) (xs : List Int) (w : World) (h : Ints .i64 w w.heap.size a xs) (hn : xs.length ≤ 17592186044415) :
    Calls Tryz.prog 43 #[.slice a xs.length c] w (RetInts w xs) := by
  cases a with
  | none =>
    have hx : xs = [] := by
      cases xs with
      | nil => rfl
      | cons x r =>
        obtain ⟨b, off, e, _⟩ := h.cell 0 (by simp)
        simp at e
    subst hx
    go_enter Tryz.func43, Tryz.ntmps43
    go_wp2
    go_ret
    exact ⟨_, rfl, World.ownsRow_nil _ _ _ _, Below.refl _ _⟩
  | some ad =>
    have hnews : ∀ j u, (xs.map (Value.int .i64))[j]? = some u → (w.alloc (.cells #[] 3)).cell? (ad.add j) = some u := by
      intro j u hj
      have hjl : j < xs.length := by
        have := (List.getElem?_eq_some_iff.1 hj).1
        simpa using this
      obtain ⟨b, off, e, hlt, hc⟩ := h.cell j hjl
      simp at e
      subst e
      rw [Addr.add_lit]
      rw [(((Below.refl _ w).alloc (Nat.le_refl _) _).cell (p := ⟨b, off + j, none⟩) hlt).trans hc]
      simp [hjl] at hj
      rw [← hj]
      simp [hjl]
    obtain ⟨i, hi, hz0, hz1, hz2⟩ := info_parts infoInt
    go_enter Tryz.func43, Tryz.ntmps43
    go_wp2_with (at_builtin; (refine wpList_append_own _ rfl _ _ 23 rfl w.heap.size 3 i (.int .i64 0) 1 8 Tryz.underlying23 hi hz0 hz1 hz2 rfl (by decide) _ 0 [] rfl (World.ownsRow_made w #[] 0 (Nat.le_refl _) (by unfold maxLen; omega) (by simp)) ad xs.length c (xs.map (Value.int .i64)) rfl (by simp) hnews (by simp [Value.oneCell']) (by unfold maxLen; omega) (by omega) (by simp) ?_); intro v' w1 hown1 hgrow1 _)
    go_ret
    refine ⟨_, rfl, by simpa using hown1, ?_⟩
    refine ((Below.refl _ w).alloc (Nat.le_refl _) _).grown hgrow1 (by simp) (fun j hj => ?_)
    cases hj
    exact Nat.le_refl _

end Go.Proofs.YtddhhfhammmaaaaGreat
