import Derived.Test.YtadlnmckcnfacaaGreatRows
import Derived.Test.YtadlnmckcnfacaaGreatVRdW
import Derived.Test.YtadlnmckcnfacaaGreatVKept
import Derived.Test.YtadlnmckcnfacaaGreatVRangeAny
import Derived.BigQuiet
import Derived.Deep.AppendLies
import Derived.Deep.Cut
import Derived.Deep.CutBlock
import Derived.Deep.CutRange
import Derived.Deep.LoopGhost
import Derived.Deep.QuietTactic
import Derived.Deep.RegionHeld3
import Derived.Deep.RegionWith
import Derived.Laws.Cover3
import Derived.Lib.BufferWrite
import Derived.LoopIn
import Derived.LoopNIn
import Derived.OwnWalkIn
import Derived.RangeFuncBound
import Derived.RangeFuncBox
import Derived.RangeFuncCalls
import Derived.RangeFuncFrom
import Derived.RangeFuncLeaves
import Derived.RangeFuncNested
import Derived.Shelf.Abstract
import Derived.Shelf.RegionOpen
import Derived.Sort.LoopGhostIn
import Derived.Sort.OwnSorted
import Derived.TacticsInMore
import Derived.WalkMore
set_option linter.unusedVariables false
set_option linter.unusedSimpArgs false
namespace Go.Proofs.YtadlnmckcnfacaaGreat
open Go.RowKit Go.Rt
theorem pow_bound (k : Nat) (h : k < 4) (x : Int) (hx : x ≤ 4096 ^ k) : x ≤ 68719476736 := by
 match k, h with
 | 0, _ => simp at hx; omega
 | 1, _ => simp at hx; omega
 | 2, _ => simp at hx; omega
 | 3, _ => simp at hx; omega
set_option maxHeartbeats 400000 in
theorem good_any (a : Option Addr) (c hi : Nat) (xs : List Int) (w : World) (h : Ints .i64 w hi a xs) :
  Calls Tryz.prog 100 #[.slice a xs.length c] w fun e w' => e = .returned (.bool (goodB xs)) ∧ w = w' := by
 obtain ⟨hm, _, hc⟩ := h
 by_cases h4 : xs.length ≤ 4
 ·have h4' : ¬ (4 < xs.length) := by omega
  go_enter Tryz.func100, Tryz.ntmps100
  go_wp2
  go_loop [3, 11] (fun n i => ∃ k : Nat, k ≤ xs.length ∧ i = .int .i64 k ∧ n = .int .i64 (prodI (xs.take k)) ∧ Dims (xs.take k)) (fun _ i => xs.length - (intOf i).toNat)
  case atStart => exact ⟨0, Nat.zero_le _, rfl, rfl, by simp [Dims]⟩
  case round =>
   obtain ⟨k, hk, rfl, rfl, hall⟩ := hrel
   by_cases hlt : k < xs.length
   ·obtain ⟨b, off, rfl, _, hcell⟩ := hc k hlt
    clear hc
    have hp1 := hall.pos
    have hp2 := prodI_le_pow _ hall
    rw [List.length_take, Nat.min_eq_left hk] at hp2
    replace hp2 := pow_bound k (by omega) _ hp2
    by_cases hd : dimOk xs[k] = true
    ·have hd' := dimOk_iff.1 hd
     have hs := prodI_take_succ xs k hlt
     have hD : Dims (xs.take (k + 1)) := by
      rw [take_snoc xs k hlt]
      intro d hd2
      rcases List.mem_append.1 hd2 with h | h
      ·exact hall d h
      ·simp at h; subst h; exact hd'
     have hm1 : prodI (xs.take k) * xs[k] ≤ 68719476736 * 4096 := Int.mul_le_mul hp2 hd'.2 (by omega) (by omega)
     have hm0 : 0 ≤ prodI (xs.take k) * xs[k] := Int.mul_nonneg (by omega) (by omega)
     obtain ⟨hd1, hd2⟩ := hd'
     have HS := Lib.hid hs
     clear hs hd
     go_wp2
     go_round
     case rel => exact ⟨k + 1, by omega, by go_num, by rw [HS.out], hD⟩
     case measure => simp [intOf]; omega
    ·have hbad : goodB xs = false := by
      cases hg : goodB xs with
      | false => rfl
      | true => exact absurd (dimOk_iff.2 ((goodB_dims hg).at hlt)) hd
     have hd' : ¬ (1 ≤ xs[k] ∧ xs[k] ≤ 4096) := fun h => hd (dimOk_iff.2 h)
     have HB := Lib.hid hbad
     clear hbad hd
     by_cases h1 : xs[k] < 1
     ·go_wp2
      go_ret
      exact ⟨ret_bool HB.out.symm, rfl⟩
     ·have h2 : 4096 < xs[k] := by omega
      go_wp2
      go_ret
      exact ⟨ret_bool HB.out.symm, rfl⟩
   ·have hke : k = xs.length := by omega
    subst hke
    rw [List.take_length] at hall
    have hg : goodB xs = decide (prodI xs ≤ 65536) := by
     by_cases hp : prodI xs ≤ 65536
     ·rw [goodB_iff.2 ⟨h4, hall, hp⟩]; simp [hp]
     ·cases hg : goodB xs with
      | true => exact absurd (goodB_iff.1 hg).2.2 hp
      | false => simp [hp]
    have HG := Lib.hid hg
    clear hg
    go_wp2
    go_ret
    exact ⟨by rw [HG.out]; simp, rfl⟩
 ·have h4' : 4 < xs.length := by omega
  go_enter Tryz.func100, Tryz.ntmps100
  go_wp2
  go_ret
  exact ⟨by simp [goodB, h4], rfl⟩
set_option maxHeartbeats 400000 in
theorem size_any (a : Option Addr) (c hi : Nat) (xs : List Int) (w : World) (h : Ints .i64 w hi a xs) (hg : goodB xs = true) :
  Calls Tryz.prog 73 #[.slice a xs.length c] w fun e w' => e = .returned (.int .i64 (prodI xs)) ∧ w = w' := by
 obtain ⟨hm, _, hc⟩ := h
 have hD := goodB_dims hg
 have hP := (goodB_prod hg).2
 clear hg
 go_enter Tryz.func73, Tryz.ntmps73
 go_wp2
 go_loop [3, 8] (fun n i => ∃ k : Nat, k ≤ xs.length ∧ i = .int .i64 k ∧ n = .int .i64 (prodI (xs.take k))) (fun _ i => xs.length - (intOf i).toNat)
 case atStart => exact ⟨0, Nat.zero_le _, rfl, rfl⟩
 case round =>
  obtain ⟨k, hk, rfl, rfl⟩ := hrel
  by_cases hlt : k < xs.length
  ·obtain ⟨b, off, rfl, _, hcell⟩ := hc k hlt
   clear hc
   have HS := Lib.hid (prodI_take_succ xs k hlt)
   have hp1 := (hD.take (k + 1)).pos
   have hp2 := prodI_take_le hD (k + 1)
   rw [HS.out] at hp1 hp2
   go_wp2
   go_round
   case rel => exact ⟨k + 1, by omega, by go_num, by rw [HS.out]⟩
   case measure => simp [intOf]; omega
  ·have hke : k = xs.length := by omega
   subst hke
   go_wp2
   go_ret
   exact ⟨by simp, rfl⟩
theorem infoInt : (Tryz.prog.info? 3).map (fun i => (i.zero, i.size, i.bytes)) = some (some (.int .i64 0), 1, 8) := by kernel_rfl
def RetInts (w : World) (xs : List Int) (e : Ending) (w' : World) : Prop :=
 ∃ v, e = .returned v ∧ w'.ownsRow w.heap.size 3 1 v xs.length (xs.map (Value.int .i64)) ∧ Below w.heap.size w w'
theorem infoI64 : (Tryz.prog.info? 2).map (fun i => (i.zero, i.size, i.bytes)) = some (some (.int .i64 0), 1, 8) := by kernel_rfl
def countE (xs : List Int) : Int := if prodI xs ≤ 65536 then prodI xs else 65537
theorem countE_good {xs : List Int} (h : goodB xs = true) : countE xs = prodI xs := by unfold countE; rw [if_pos (goodB_prod h).2]
set_option maxHeartbeats 400000 in
theorem rcount_any (a : Option Addr) (c hi : Nat) (xs : List Int) (w : World) (h : Ints .i64 w hi a xs) (hD : Dims xs) :
  Calls Tryz.prog 19 #[.slice a xs.length c] w fun e w' => e = .returned (.int .i64 (countE xs)) ∧ w = w' := by
 obtain ⟨hm, _, hc⟩ := h
 go_enter Tryz.func19, Tryz.ntmps19
 go_wp2
 go_loop [3, 4] (fun n i => ∃ k : Nat, k ≤ xs.length ∧ i = .int .i64 k ∧ n = .int .i64 (prodI (xs.take k)) ∧ prodI (xs.take k) ≤ 65536) (fun _ i => xs.length - (intOf i).toNat)
 case atStart => exact ⟨0, Nat.zero_le _, rfl, rfl, by simp [prodI]⟩
 case round =>
  obtain ⟨k, hk, rfl, rfl, hle⟩ := hrel
  by_cases hlt : k < xs.length
  ·obtain ⟨b, off, rfl, _, hcell⟩ := hc k hlt
   clear hc
   rw [List.getElem?_eq_getElem hlt] at hcell
   simp only [Option.getD_some] at hcell
   have HS := Lib.hid (prodI_take_succ xs k hlt)
   have hd := hD.at hlt
   obtain ⟨hd1, hd2⟩ := hd
   have hp := (hD.take k).pos
   have hm1 : prodI (xs.take k) * xs[k] ≤ 65536 * 4096 := Int.mul_le_mul hle hd2 (by omega) (by omega)
   have hm0 : 0 ≤ prodI (xs.take k) * xs[k] := Int.mul_nonneg (by omega) (by omega)
   by_cases hbig : prodI (xs.take k) * xs[k] ≤ 65536
   ·go_wp2
    go_round
    case rel => exact ⟨k + 1, by omega, by go_num, by rw [HS.out], by rw [HS.out]; exact hbig⟩
    case measure => simp [intOf]; omega
   ·have HC : Hid (countE xs = 65537) := by
     unfold countE
     have := prodI_take_le hD (k + 1)
     rw [HS.out] at this
     rw [if_neg (by omega)]; rfl
    have hbig' : 65536 < prodI (xs.take k) * xs[k] := by omega
    go_wp2
    go_ret
    exact ⟨ret_int HC.out.symm, rfl⟩
  ·have hke : k = xs.length := by omega
   subst hke
   have HC : Hid (countE xs = prodI xs) := by
    rw [List.take_length] at hle
    unfold countE
    rw [if_pos hle]; rfl
   go_wp2
   go_ret
   exact ⟨ret_int (by rw [HC.out]), rfl⟩
set_option maxHeartbeats 400000 in
theorem rmay_any (a : Option Addr) (c hi : Nat) (xs : List Int) (w : World) (h : Ints .i64 w hi a xs) :
  Calls Tryz.prog 18 #[.slice a xs.length c] w fun e w' => e = .returned (.bool (goodB xs)) ∧ w = w' := by
 have h0 := h
 obtain ⟨hm, _, hc⟩ := h
 by_cases h4 : xs.length ≤ 4
 ·have h4' : ¬ (4 < xs.length) := by omega
  have H0 := Lib.hid h0
  clear h0
  go_enter Tryz.func18, Tryz.ntmps18
  go_wp2_with fail
  go_loop [3] (fun i => ∃ k : Nat, k ≤ xs.length ∧ i = .int .i64 k ∧ Dims (xs.take k)) (fun i => xs.length - (intOf i).toNat)
  case atStart => exact ⟨0, Nat.zero_le _, rfl, by simp [Dims]⟩
  case round =>
   obtain ⟨k, hk, rfl, hall⟩ := hrel
   by_cases hlt : k < xs.length
   ·obtain ⟨b, off, rfl, _, hcell⟩ := hc k hlt
    clear hc
    rw [List.getElem?_eq_getElem hlt] at hcell
    simp only [Option.getD_some] at hcell
    by_cases hd : dimOk xs[k] = true
    ·have hd' := dimOk_iff.1 hd
     have hD : Dims (xs.take (k + 1)) := by
      rw [take_snoc xs k hlt]
      intro d hd2
      rcases List.mem_append.1 hd2 with h | h
      ·exact hall d h
      ·simp at h; subst h; exact hd'
     obtain ⟨hd1, hd2⟩ := hd'
     go_wp2_with fail
     go_round
     case rel => exact ⟨k + 1, by omega, by go_num, hD⟩
     case measure => simp [intOf]; omega
    ·have hbad : goodB xs = false := by
      cases hg : goodB xs with
      | false => rfl
      | true => exact absurd (dimOk_iff.2 ((goodB_dims hg).at hlt)) hd
     have hd' : ¬ (1 ≤ xs[k] ∧ xs[k] ≤ 4096) := fun h => hd (dimOk_iff.2 h)
     have HB := Lib.hid hbad
     clear hbad hd
     by_cases h1 : xs[k] < 1
     ·go_wp2_with fail
      go_ret
      exact ⟨ret_bool HB.out.symm, rfl⟩
     ·have h2 : 4096 < xs[k] := by omega
      go_wp2_with fail
      go_ret
      exact ⟨ret_bool HB.out.symm, rfl⟩
   ·have hke : k = xs.length := by omega
    subst hke
    rw [List.take_length] at hall
    have hg : goodB xs = decide (countE xs ≤ 65536) := by
     unfold countE
     by_cases hp : prodI xs ≤ 65536
     ·rw [goodB_iff.2 ⟨h4, hall, hp⟩, if_pos hp]; simp [hp]
     ·cases hg : goodB xs with
      | true => exact absurd (goodB_iff.1 hg).2.2 hp
      | false => rw [if_neg hp]; rfl
    have HG := Lib.hid hg
    have HC := Lib.hid (rcount_any a c hi xs w H0.out hall)
    clear hg hc
    go_wp2_with (go_at_call 19; refine HC.out.mono ?_; rintro e w' ⟨rfl, rfl⟩)
    go_ret
    exact ⟨by rw [HG.out]; simp, rfl⟩
 ·have h4' : 4 < xs.length := by omega
  clear h0 hc
  go_enter Tryz.func18, Tryz.ntmps18
  go_wp2_with fail
  go_ret
  exact ⟨by simp [goodB, h4], rfl⟩
theorem run_eql_slice_nil' {P : Program} (w : World) (t e : TypeId) (a : Option Addr) (l c : Nat) (h : P.underlying t = some (.slice e)) : (binOp .eql t (.slice a l c) (.slice none 0 0)).run P w = .ok (.bool a.isNone) w := by
 simp only [binOp]
 simp [run_equal_slice_nil w t e a l c h]
end Go.Proofs.YtadlnmckcnfacaaGreat
namespace Go.Proofs.YtadlnmckcnfacaaGreat
open Go.RowKit Go.Rt
attribute [local go_sem] run_eql_slice_nil'
set_option maxRecDepth 100000 in
set_option maxHeartbeats 400000 in
theorem clone_any (a : Option Addr) (c : Nat) (xs : List Int) (w : World) (h : Ints .i64 w w.heap.size a xs) (hn : xs.length ≤ 17592186044415) :
  Calls Tryz.prog 72 #[.slice a xs.length c] w (RetInts w xs) := by
 cases a with
 | none =>
  have hx : xs = [] := by
   cases xs with
   | nil => rfl
   | cons x r =>
    obtain ⟨b, off, e, _⟩ := h.cell 0 (by simp)
    simp at e
  subst hx
  go_enter Tryz.func72, Tryz.ntmps72
  go_wp2
  go_ret
  exact ⟨_, rfl, World.ownsRow_nil _ _ _ _, Below.refl _ _⟩
 | some ad =>
  have hnews : ∀ j u, (xs.map (Value.int .i64))[j]? = some u → (w.alloc (.cells #[] 3)).cell? (ad.add j) = some u := by
   intro j u hj
   have hjl : j < xs.length := by
    have := (List.getElem?_eq_some_iff.1 hj).1
    simpa using this
   obtain ⟨b, off, e, hlt, hc⟩ := h.cell j hjl
   simp at e
   subst e
   rw [Addr.add_lit]
   rw [(((Below.refl _ w).alloc (Nat.le_refl _) _).cell (p := ⟨b, off + j, none⟩) hlt).trans hc]
   simp [hjl] at hj
   rw [← hj]
   simp [hjl]
  obtain ⟨i, hi, hz0, hz1, hz2⟩ := info_parts infoInt
  go_enter Tryz.func72, Tryz.ntmps72
  go_wp2_with (at_builtin; (refine wpList_append_own _ rfl _ _ 23 rfl w.heap.size 3 i (.int .i64 0) 1 8 Tryz.underlying23 hi hz0 hz1 hz2 rfl (by decide) _ 0 [] rfl (World.ownsRow_made w #[] 0 (Nat.le_refl _) (by unfold maxLen; omega) (by simp)) ad xs.length c (xs.map (Value.int .i64)) rfl (by simp) hnews (by simp [Value.oneCell']) (by unfold maxLen; omega) (by omega) (by simp) ?_); intro v' w1 hown1 hgrow1 _)
  go_ret
  refine ⟨_, rfl, by simpa using hown1, ?_⟩
  refine ((Below.refl _ w).alloc (Nat.le_refl _) _).grown hgrow1 (by simp) (fun j hj => ?_)
  cases hj
  exact Nat.le_refl _
end Go.Proofs.YtadlnmckcnfacaaGreat
namespace Go.Proofs.YtadlnmckcnfacaaGreat
open Go.RowKit Go.Rt
theorem ref2May_any (v : Int) (w : World) : Calls Tryz.prog 51 #[.int .i64 v] w fun e w' => e = .returned (.bool (isW v)) ∧ w = w' := by
 by_cases h1 : -140737488355328 < v
 ·by_cases h2 : v < 140737488355328
  ·have e1 : isW v = true := by unfold isW; rw [decide_eq_true h1, decide_eq_true h2]; rfl
   rw [e1]
   go_enter Tryz.func51, Tryz.ntmps51
   go_wp2
   go_ret
   exact ⟨rfl, rfl⟩
  ·have e1 : isW v = false := by unfold isW; rw [decide_eq_true h1, decide_eq_false h2]; rfl
   rw [e1]
   go_enter Tryz.func51, Tryz.ntmps51
   go_wp2
   go_ret
   exact ⟨rfl, rfl⟩
 ·have e1 : isW v = false := by unfold isW; rw [decide_eq_false h1]; rfl
  rw [e1]
  go_enter Tryz.func51, Tryz.ntmps51
  go_wp2
  go_ret
  exact ⟨rfl, rfl⟩
theorem words_any (a : Option Addr) (c hi : Nat) (xs : List Int) (w : World) (h : Ints .i64 w hi a xs) :
  Calls Tryz.prog 20 #[.slice a xs.length c] w fun e w' => e = .returned (.bool (xs.all isW)) ∧ w = w' := by
 obtain ⟨hm, _, hc⟩ := h
 go_enter Tryz.func20, Tryz.ntmps20
 go_wp2
 go_loop [3] (fun i => ∃ k : Nat, k ≤ xs.length ∧ i = .int .i64 k ∧ (xs.take k).all isW = true) (fun i => xs.length - (intOf i).toNat)
 case atStart => exact ⟨0, Nat.zero_le _, rfl, rfl⟩
 case round =>
  obtain ⟨k, hk, rfl, hall⟩ := hrel
  by_cases hlt : k < xs.length
  ·obtain ⟨b, off, rfl, _, hcell⟩ := hc k hlt
   clear hc
   rw [List.getElem?_eq_getElem hlt] at hcell
   simp only [Option.getD_some] at hcell
   have hg := fun w => Lib.hid (ref2May_any xs[k] w)
   cases hx : isW xs[k] with
   | true =>
    rw [hx] at hg
    have HA : Hid ((xs.take (k + 1)).all isW = true) := Lib.hid (by rw [take_snoc xs k hlt, List.all_append, hall]; simp [hx])
    clear hall hx
    go_wp2_with (first | (go_at_call 51; refine (hg _).out.mono ?_; rintro e w' ⟨rfl, rfl⟩))
    go_round
    case rel => exact ⟨k + 1, by omega, by go_num, HA.out⟩
    case measure => simp [intOf]; omega
   | false =>
    rw [hx] at hg
    have HA : Hid (xs.all isW = false) := by
     cases h0 : xs.all isW with
     | false => rfl
     | true => have := List.all_eq_true.1 h0 _ (List.getElem_mem hlt); rw [hx] at this; exact absurd this (by decide)
    clear hall hx
    go_wp2_with (first | (go_at_call 51; refine (hg _).out.mono ?_; rintro e w' ⟨rfl, rfl⟩))
    go_ret
    exact ⟨ret_bool HA.out.symm, rfl⟩
  ·have hke : k = xs.length := by omega
   subst hke
   rw [List.take_length] at hall
   have HA := Lib.hid hall
   clear hall hc
   go_wp2
   go_ret
   exact ⟨ret_bool HA.out.symm, rfl⟩
theorem good1_any (v : Int) (w : World) : Calls Tryz.prog 102 #[.int .i64 v] w fun e w' => e = .returned (.bool (!isW v)) ∧ w = w' := by
 have hg := fun w => Lib.hid (fxGood_any v w)
 generalize isW v = B at hg ⊢
 go_enter Tryz.func102, Tryz.ntmps102
 go_wp2_with (first | (go_at_call 103; refine (hg _).out.mono ?_; rintro e w' ⟨rfl, rfl⟩))
 go_ret
 exact ⟨rfl, rfl⟩
theorem indexBad_any (a : Option Addr) (c hi : Nat) (xs : List Int) (w : World) (h : Ints .i64 w hi a xs) :
  Calls Tryz.prog 117 #[.slice a xs.length c, .func (.func 102) #[] #[]] w fun e w' => (∃ i : Int, e = .returned (.int .i64 i) ∧ decide (0 ≤ i) = !(xs.all isW)) ∧ w = w' := by
 obtain ⟨hm, _, hc⟩ := h
 go_enter Tryz.func117, Tryz.ntmps117
 go_wp2
 go_loop [8] (fun i => ∃ k : Nat, k ≤ xs.length ∧ i = .int .i64 k ∧ (xs.take k).all isW = true) (fun i => xs.length - (intOf i).toNat)
 case atStart => exact ⟨0, Nat.zero_le _, rfl, rfl⟩
 case round =>
  obtain ⟨k, hk, rfl, hall⟩ := hrel
  by_cases hlt : k < xs.length
  ·obtain ⟨b, off, rfl, _, hcell⟩ := hc k hlt
   clear hc
   rw [List.getElem?_eq_getElem hlt] at hcell
   simp only [Option.getD_some] at hcell
   have hg := fun w => Lib.hid (good1_any xs[k] w)
   cases hx : isW xs[k] with
   | true =>
    rw [hx] at hg
    have HA : Hid ((xs.take (k + 1)).all isW = true) := Lib.hid (by rw [take_snoc xs k hlt, List.all_append, hall]; simp [hx])
    clear hall hx
    go_wp2_with (first | (go_at_call 102; refine (hg _).out.mono ?_; rintro e w' ⟨rfl, rfl⟩))
    go_round
    case rel => exact ⟨k + 1, by omega, by go_num, HA.out⟩
    case measure => simp [intOf]; omega
   | false =>
    rw [hx] at hg
    have HA : Hid (xs.all isW = false) := by
     cases h0 : xs.all isW with
     | false => rfl
     | true => have := List.all_eq_true.1 h0 _ (List.getElem_mem hlt); rw [hx] at this; exact absurd this (by decide)
    clear hall hx
    go_wp2_with (first | (go_at_call 102; refine (hg _).out.mono ?_; rintro e w' ⟨rfl, rfl⟩))
    go_ret
    exact ⟨⟨k, rfl, by rw [HA.out]; simp⟩, rfl⟩
  ·have hke : k = xs.length := by omega
   subst hke
   rw [List.take_length] at hall
   have HA := Lib.hid hall
   clear hall hc
   go_wp2
   go_ret
   exact ⟨⟨-1, rfl, by rw [HA.out]; decide⟩, rfl⟩
theorem hasBad_any (a : Option Addr) (c hi : Nat) (xs : List Int) (w : World) (h : Ints .i64 w hi a xs) :
  Calls Tryz.prog 101 #[.slice a xs.length c, .func (.func 102) #[] #[]] w fun e w' => e = .returned (.bool (!(xs.all isW))) ∧ w = w' := by
 have hg := Lib.hid (indexBad_any a c hi xs w h)
 clear h
 generalize xs.all isW = B at hg ⊢
 go_enter Tryz.func101, Tryz.ntmps101
 go_wp2_with (first | (go_at_call 117; refine hg.out.mono ?_; rintro e w' ⟨⟨i, rfl, hi⟩, rfl⟩))
 go_ret
 exact ⟨by first | rfl | exact ret_bool hi, rfl⟩
def tenB (xs ys : List Int) : Bool := goodB xs && (decide ((ys.length : Int) = prodI xs) && ys.all isW)
theorem quietSame {P : Program} {f : FuncId} {args : Array Value} {w : World} {n : Nat} {v : Value} (h : Calls P f args (w.drewN n) fun e w' => e = .returned v ∧ w.drewN n = w') :
  Calls P f args (w.drewN n) fun e w'' => e = .returned v ∧ ∃ m, w'' = w.drewN m := h.mono fun _ _ ⟨he, hm⟩ => ⟨he, n, hm.symm⟩
set_option maxHeartbeats 1000000 in
theorem elemGood_any (a b : Option Addr) (c d : Nat) (xs ys : List Int) (w : World) (h : Ints .i64 w w.heap.size a xs) (h2 : Ints .i64 w w.heap.size b ys) :
  Calls Tryz.prog 68 #[.agg #[.slice a xs.length c, .slice b ys.length d]] w fun e w' => e = .returned (.bool (tenB xs ys)) ∧ Below w.heap.size w w' := by
 have hg := fun w' (hb : Below w.heap.size w w') => Lib.hid (good_any a c w.heap.size xs w' (h.below hb (Nat.le_refl _)))
 have hw := fun w' (hb : Below w.heap.size w w') => Lib.hid (hasBad_any b d w.heap.size ys w' (h2.below hb (Nat.le_refl _)))
 have hlen := h2.len
 cases hgood : goodB xs with
 | false =>
  have e : tenB xs ys = false := by unfold tenB; rw [hgood]; rfl
  rw [e]
  rw [hgood] at hg
  clear e hgood hw h h2
  go_enter Tryz.func68, Tryz.ntmps68
  go_upto_region 1 with fail
  go_quiet (first | (go_at_call 100; exact quietSame (hg _ (by (repeat' (first | exact Below.refl _ _ | refine below_drewN ?_ _ | refine Below.drew ?_ | refine Below.alloc ?_ (by first | omega | (simp <;> omega)) _)))).out))
  go_wp2_with fail
  go_ret
  exact ⟨rfl, (by (repeat' (first | exact Below.refl _ _ | refine below_drewN ?_ _ | refine Below.drew ?_ | refine Below.alloc ?_ (by first | omega | (simp <;> omega)) _)))⟩
 | true =>
  have hz := fun w' (hb : Below w.heap.size w w') => Lib.hid (size_any a c w.heap.size xs w' (h.below hb (Nat.le_refl _)) hgood)
  skip
  skip
  have hpb := goodB_prod hgood
  rw [hgood] at hg
  by_cases hl : (ys.length : Int) = prodI xs
  ·cases hall : ys.all isW with
   | false =>
    have e : tenB xs ys = false := by unfold tenB; rw [hall, Bool.and_false, Bool.and_false]
    rw [e]
    rw [hall] at hw
    rw [← hl] at hz
    clear e hgood hall h h2 hl hpb
    go_enter Tryz.func68, Tryz.ntmps68
    go_upto_region 1 with fail
    go_quiet (first | (go_at_call 100; exact quietSame (hg _ (by (repeat' (first | exact Below.refl _ _ | refine below_drewN ?_ _ | refine Below.drew ?_ | refine Below.alloc ?_ (by first | omega | (simp <;> omega)) _)))).out) | (go_at_call 73; exact quietSame (hz _ (by (repeat' (first | exact Below.refl _ _ | refine below_drewN ?_ _ | refine Below.drew ?_ | refine Below.alloc ?_ (by first | omega | (simp <;> omega)) _)))).out) | (go_at_call 101; exact quietSame (hw _ (by (repeat' (first | exact Below.refl _ _ | refine below_drewN ?_ _ | refine Below.drew ?_ | refine Below.alloc ?_ (by first | omega | (simp <;> omega)) _)))).out))
    go_wp2_with fail
    go_ret
    exact ⟨rfl, (by (repeat' (first | exact Below.refl _ _ | refine below_drewN ?_ _ | refine Below.drew ?_ | refine Below.alloc ?_ (by first | omega | (simp <;> omega)) _)))⟩
   | true =>
    have e : tenB xs ys = true := by unfold tenB; rw [hgood, hall, decide_eq_true hl]; rfl
    rw [e]
    rw [hall] at hw
    rw [← hl] at hz
    clear e hgood hall h h2 hl hpb
    go_enter Tryz.func68, Tryz.ntmps68
    go_upto_region 1 with fail
    go_quiet (first | (go_at_call 100; exact quietSame (hg _ (by (repeat' (first | exact Below.refl _ _ | refine below_drewN ?_ _ | refine Below.drew ?_ | refine Below.alloc ?_ (by first | omega | (simp <;> omega)) _)))).out) | (go_at_call 73; exact quietSame (hz _ (by (repeat' (first | exact Below.refl _ _ | refine below_drewN ?_ _ | refine Below.drew ?_ | refine Below.alloc ?_ (by first | omega | (simp <;> omega)) _)))).out) | (go_at_call 101; exact quietSame (hw _ (by (repeat' (first | exact Below.refl _ _ | refine below_drewN ?_ _ | refine Below.drew ?_ | refine Below.alloc ?_ (by first | omega | (simp <;> omega)) _)))).out))
    go_wp2_with fail
    go_ret
    exact ⟨rfl, (by (repeat' (first | exact Below.refl _ _ | refine below_drewN ?_ _ | refine Below.drew ?_ | refine Below.alloc ?_ (by first | omega | (simp <;> omega)) _)))⟩
  ·have e : tenB xs ys = false := by unfold tenB; rw [decide_eq_false hl, Bool.false_and, Bool.and_false]
   have hl2 : ((ys.length : Int) == prodI xs) = false := by simp; exact hl
   rw [e]
   generalize prodI xs = PX at *
   clear e hgood h h2 hw hl
   go_enter Tryz.func68, Tryz.ntmps68
   go_upto_region 1 with fail
   go_quiet (first | (go_at_call 100; exact quietSame (hg _ (by (repeat' (first | exact Below.refl _ _ | refine below_drewN ?_ _ | refine Below.drew ?_ | refine Below.alloc ?_ (by first | omega | (simp <;> omega)) _)))).out) | (go_at_call 73; exact quietSame (hz _ (by (repeat' (first | exact Below.refl _ _ | refine below_drewN ?_ _ | refine Below.drew ?_ | refine Below.alloc ?_ (by first | omega | (simp <;> omega)) _)))).out))
   go_wp2_with fail
   go_ret
   exact ⟨rfl, (by (repeat' (first | exact Below.refl _ _ | refine below_drewN ?_ _ | refine Below.drew ?_ | refine Below.alloc ?_ (by first | omega | (simp <;> omega)) _)))⟩
set_option maxHeartbeats 1000000 in
theorem tenMay_any (a b : Option Addr) (c d : Nat) (xs ys : List Int) (w : World) (h : Ints .i64 w w.heap.size a xs) (h2 : Ints .i64 w w.heap.size b ys) :
  Calls Tryz.prog 5 #[.agg #[.slice a xs.length c, .slice b ys.length d]] w fun e w' => e = .returned (.bool (tenB xs ys)) ∧ Below w.heap.size w w' := by
 have hg := fun w' (hb : Below w.heap.size w w') => Lib.hid (rmay_any a c w.heap.size xs w' (h.below hb (Nat.le_refl _)))
 have hw := fun w' (hb : Below w.heap.size w w') => Lib.hid (words_any b d w.heap.size ys w' (h2.below hb (Nat.le_refl _)))
 have hlen := h2.len
 cases hgood : goodB xs with
 | false =>
  have e : tenB xs ys = false := by unfold tenB; rw [hgood]; rfl
  rw [e]
  rw [hgood] at hg
  clear e hgood hw h h2
  go_enter Tryz.func5, Tryz.ntmps5
  go_upto_region 1 with fail
  go_quiet (first | (go_at_call 18; exact quietSame (hg _ (by (repeat' (first | exact Below.refl _ _ | refine below_drewN ?_ _ | refine Below.drew ?_ | refine Below.alloc ?_ (by first | omega | (simp <;> omega)) _)))).out))
  go_wp2_with fail
  go_ret
  exact ⟨rfl, (by (repeat' (first | exact Below.refl _ _ | refine below_drewN ?_ _ | refine Below.drew ?_ | refine Below.alloc ?_ (by first | omega | (simp <;> omega)) _)))⟩
 | true =>
  have hz := fun w' (hb : Below w.heap.size w w') => Lib.hid (rcount_any a c w.heap.size xs w' (h.below hb (Nat.le_refl _)) (goodB_dims hgood))
  have hcg := countE_good hgood
  rw [hcg] at hz
  have hpb := goodB_prod hgood
  rw [hgood] at hg
  by_cases hl : (ys.length : Int) = prodI xs
  ·cases hall : ys.all isW with
   | false =>
    have e : tenB xs ys = false := by unfold tenB; rw [hall, Bool.and_false, Bool.and_false]
    rw [e]
    rw [hall] at hw
    rw [← hl] at hz
    clear e hgood hall h h2 hl hpb
    go_enter Tryz.func5, Tryz.ntmps5
    go_upto_region 1 with fail
    go_quiet (first | (go_at_call 18; exact quietSame (hg _ (by (repeat' (first | exact Below.refl _ _ | refine below_drewN ?_ _ | refine Below.drew ?_ | refine Below.alloc ?_ (by first | omega | (simp <;> omega)) _)))).out) | (go_at_call 19; exact quietSame (hz _ (by (repeat' (first | exact Below.refl _ _ | refine below_drewN ?_ _ | refine Below.drew ?_ | refine Below.alloc ?_ (by first | omega | (simp <;> omega)) _)))).out) | (go_at_call 20; exact quietSame (hw _ (by (repeat' (first | exact Below.refl _ _ | refine below_drewN ?_ _ | refine Below.drew ?_ | refine Below.alloc ?_ (by first | omega | (simp <;> omega)) _)))).out))
    go_wp2_with fail
    go_ret
    exact ⟨rfl, (by (repeat' (first | exact Below.refl _ _ | refine below_drewN ?_ _ | refine Below.drew ?_ | refine Below.alloc ?_ (by first | omega | (simp <;> omega)) _)))⟩
   | true =>
    have e : tenB xs ys = true := by unfold tenB; rw [hgood, hall, decide_eq_true hl]; rfl
    rw [e]
    rw [hall] at hw
    rw [← hl] at hz
    clear e hgood hall h h2 hl hpb
    go_enter Tryz.func5, Tryz.ntmps5
    go_upto_region 1 with fail
    go_quiet (first | (go_at_call 18; exact quietSame (hg _ (by (repeat' (first | exact Below.refl _ _ | refine below_drewN ?_ _ | refine Below.drew ?_ | refine Below.alloc ?_ (by first | omega | (simp <;> omega)) _)))).out) | (go_at_call 19; exact quietSame (hz _ (by (repeat' (first | exact Below.refl _ _ | refine below_drewN ?_ _ | refine Below.drew ?_ | refine Below.alloc ?_ (by first | omega | (simp <;> omega)) _)))).out) | (go_at_call 20; exact quietSame (hw _ (by (repeat' (first | exact Below.refl _ _ | refine below_drewN ?_ _ | refine Below.drew ?_ | refine Below.alloc ?_ (by first | omega | (simp <;> omega)) _)))).out))
    go_wp2_with fail
    go_ret
    exact ⟨rfl, (by (repeat' (first | exact Below.refl _ _ | refine below_drewN ?_ _ | refine Below.drew ?_ | refine Below.alloc ?_ (by first | omega | (simp <;> omega)) _)))⟩
  ·have e : tenB xs ys = false := by unfold tenB; rw [decide_eq_false hl, Bool.false_and, Bool.and_false]
   have hl2 : ((ys.length : Int) == prodI xs) = false := by simp; exact hl
   rw [e]
   generalize prodI xs = PX at *
   clear e hgood h h2 hw hl
   go_enter Tryz.func5, Tryz.ntmps5
   go_upto_region 1 with fail
   go_quiet (first | (go_at_call 18; exact quietSame (hg _ (by (repeat' (first | exact Below.refl _ _ | refine below_drewN ?_ _ | refine Below.drew ?_ | refine Below.alloc ?_ (by first | omega | (simp <;> omega)) _)))).out) | (go_at_call 19; exact quietSame (hz _ (by (repeat' (first | exact Below.refl _ _ | refine below_drewN ?_ _ | refine Below.drew ?_ | refine Below.alloc ?_ (by first | omega | (simp <;> omega)) _)))).out))
   go_wp2_with fail
   go_ret
   exact ⟨rfl, (by (repeat' (first | exact Below.refl _ _ | refine below_drewN ?_ _ | refine Below.drew ?_ | refine Below.alloc ?_ (by first | omega | (simp <;> omega)) _)))⟩
theorem ints_setCell {k : IntKind} {w : World} {hi : Nat} {a : Option Addr} {xs : List Int} {q o : Nat} {v : Value} (h : Ints k w hi a xs) (hne : xs.length = 0 ∨ ∃ g, a = some ⟨g, 0, none⟩ ∧ q < g) : Ints k (w.setCell ⟨q, o, none⟩ v) hi a xs :=
 ⟨h.len, h.wf, fun i hi' => by
  obtain ⟨b, off, ha, hlt, hc⟩ := h.cell i hi'
  refine ⟨b, off, ha, hlt, ?_⟩
  rcases hne with h0 | ⟨g, hg, hq⟩
  ·omega
  ·rw [ha] at hg
   cases hg
   rw [← hc]
   have hn : ¬ b = q := by omega
   go_simp⟩
theorem own_cap {w : World} {base : Nat} {e : TypeId} {a : Option Addr} {n c : Nat} {xs : List Value} (h : w.ownsRow base e 1 (.slice a n c) n xs) : n ≤ c ∧ c ≤ 9223372036854775807 := by
 rcases h.2 with ⟨h1, h2⟩ | ⟨g, cap, cur, h1, _, _, h4, h5, _⟩
 ·cases h1
  omega
 ·cases h1
  unfold maxLen at h5
  omega
structure OwnB (w : World) (base mid : Nat) (e : TypeId) (v : Value) (n : Nat) (xs : List Value) : Prop where
 own : w.ownsRow base e 1 v n xs
 lt : ∀ g, v.ownBlock = some g → g < mid
theorem OwnB.at {w w' : World} {base mid : Nat} {e : TypeId} {v : Value} {n : Nat} {xs : List Value} (h : OwnB w base mid e v n xs) (hq : ∀ g, v.ownBlock = some g → w'.heap[g]? = w.heap[g]?) : OwnB w' base mid e v n xs := by
 refine ⟨⟨h.own.1, h.own.2.imp id ?_⟩, h.lt⟩
 rintro ⟨g, cap, cur, h1, h2, h3, h4⟩
 exact ⟨g, cap, cur, h1, h2, (hq g (by rw [h1]; rfl)).trans h3, h4⟩
theorem OwnB.below {w w' : World} {base mid B : Nat} {e : TypeId} {v : Value} {n : Nat} {xs : List Value} (h : OwnB w base mid e v n xs) (hb : Below B w w') (hB : mid ≤ B) : OwnB w' base mid e v n xs :=
 h.at fun g hg => hb.block g (Nat.lt_of_lt_of_le (h.lt g hg) hB)
theorem OwnB.set {w : World} {base mid q o : Nat} {e : TypeId} {v x : Value} {n : Nat} {xs : List Value} (h : OwnB w base mid e v n xs) (hq : q < base ∨ mid ≤ q) : OwnB (w.setCell ⟨q, o, none⟩ x) base mid e v n xs := by
 refine h.at fun g hg => ?_
 have h1 := (h.own.lt g hg).1
 have h2 := h.lt g hg
 exact Below.heap_setCell w _ x g (by show g ≠ q; omega)
theorem OwnB.mono {w : World} {base base' mid mid' : Nat} {e : TypeId} {v : Value} {n : Nat} {xs : List Value} (h : OwnB w base mid e v n xs) (hb : base' ≤ base) (hm : mid ≤ mid') : OwnB w base' mid' e v n xs :=
 ⟨own_mono h.own hb, fun g hg => Nat.lt_of_lt_of_le (h.lt g hg) hm⟩
theorem OwnB.of {w : World} {base : Nat} {e : TypeId} {v : Value} {n : Nat} {xs : List Value} (h : w.ownsRow base e 1 v n xs) : OwnB w base w.heap.size e v n xs := ⟨h, fun g hg => (h.lt g hg).2⟩
def RetNew (w : World) (xs : List Int) (n : Nat) (e : Ending) (w' : World) : Prop :=
 ∃ a c b d mid, e = .returned (.agg #[.slice a xs.length c, .slice b n d]) ∧ w.heap.size ≤ mid ∧ mid ≤ w'.heap.size ∧ Ints .i64 w' mid a xs ∧ ((xs.length ≤ c ∧ c ≤ 9223372036854775807) ∧ OwnB w' w.heap.size mid 3 (.slice a xs.length c) xs.length (xs.map (Value.int .i64))) ∧ w'.ownsRow mid 2 1 (.slice b n d) n ((List.replicate n (0 : Int)).map (Value.int .i64)) ∧ Below w.heap.size w w'
set_option maxHeartbeats 1000000 in
theorem elemNew_any (a : Option Addr) (c : Nat) (xs : List Int) (w : World) (h : Ints .i64 w w.heap.size a xs) (hg : goodB xs = true) :
  Calls Tryz.prog 37 #[.slice a xs.length c] w (RetNew w xs (prodI xs).toNat) := by
 have hlen := (goodB_iff.1 hg).1
 have hp := goodB_prod hg
 have hwf := h.wf
 have hcl := fun w' (hb : Below w.heap.size w w') => Lib.hid (clone_any a c xs w' ((h.below hb (Nat.le_refl _)).mono hb.size) (by omega))
 have hsz := fun w' (hb : Below w.heap.size w w') => Lib.hid (size_any a c w.heap.size xs w' (h.below hb (Nat.le_refl _)) hg)
 have hm := h.len
 have hN : prodI xs = ((prodI xs).toNat : Int) := by omega
 generalize (prodI xs).toNat = N at hN ⊢
 rw [hN] at hsz hp
 have hNb : N ≤ 65536 := by omega
 clear h hg hN hp
 go_enter Tryz.func37, Tryz.ntmps37
 go_upto_region 1 with fail
 go_wp2_with (first | (go_at_call 72; refine (hcl _ (by (repeat' (first | exact Below.refl _ _ | refine below_drewN ?_ _ | refine Below.drew ?_ | refine Below.setCell ?_ (by first | omega | (simp <;> omega)) _ | refine Below.alloc ?_ (by first | omega | (simp <;> omega)) _)))).out.mono ?_; rintro e w1 ⟨v, rfl, hown, hb⟩; have HB1 := Lib.hid hb; have hs1 := hb.size; (try simp at hs1); have X := Box2.below (b := w.heap.size) (v0 := .slice none 0 0) (v1 := .slice none 0 0) (by constructor <;> go_simp) hb (by first | omega | (simp <;> omega)); obtain ⟨p0, p1, p2, p3⟩ := X; have HO := Lib.hid hown; obtain ⟨a1, c1, rfl, hsh⟩ := own_shape hown; have HSH := Lib.hid hsh; have hlq : w.heap.size < w1.heap.size := (by omega); clear hb hown hsh) | (go_at_call 73; refine (hsz _ (Below.trans (by (repeat' (first | exact Below.refl _ _ | refine below_drewN ?_ _ | refine Below.drew ?_ | refine Below.setCell ?_ (by first | omega | (simp <;> omega)) _ | refine Below.alloc ?_ (by first | omega | (simp <;> omega)) _))) (HB1.out.mono (by first | omega | (simp <;> omega))))).out.mono ?_; rintro e w' ⟨rfl, rfl⟩) | (at_make; (refine wpl_make 24 2 .i64 infoI64 Tryz.underlying24 w1.heap.size N _ _ _ _ rfl rfl rfl rfl rfl rfl (by omega) (Nat.le_refl _) ?_); intro w2 hown2 hbel2 hsz2; have HO2 := Lib.hid hown2; have HB2 := Lib.hid (hbel2 w1.heap.size (Nat.le_refl _)); have X := Box2.below (b := w.heap.size) (v0 := .slice none 0 0) (v1 := .slice none 0 0) ⟨p0, p1, p2, p3⟩ HB2.out hlq; obtain ⟨q0, q1, q2, q3⟩ := X; clear hown2 hbel2))
 (try simp only [Exit.noGoto, Exit.inBlock, Exit.then])
 refine bodyPost_ret (v := .agg #[.slice a1 xs.length c1, .slice (some ⟨w1.heap.size, 0, none⟩) N N]) (by rw [results_c1 rfl]; go_simp) rfl ⟨a1, c1, _, N, w1.heap.size, rfl, by omega, ?_, ?_, ⟨own_cap HO.out, ((((OwnB.of HO.out).below HB2.out (Nat.le_refl _)).set (.inl (by simp))).set (.inl (by simp))).mono (by simp) (Nat.le_refl _)⟩, ?_, ?_⟩
 ·simp
  omega
 ·obtain ⟨a2, c2, he, hI⟩ := own_ints HO.out hwf
  cases he
  have hI2 := hI.below HB2.out (Nat.le_refl _)
  have hq : xs.length = 0 ∨ ∃ g, a1 = some ⟨g, 0, none⟩ ∧ w.heap.size < g := HSH.out.imp id (by rintro ⟨g, hg, hb, _⟩; exact ⟨g, hg, by simp at hb; omega⟩)
  exact ints_setCell (ints_setCell hI2 hq) hq
 ·exact ownsRow_setCell_below (ownsRow_setCell_below HO2.out (by simpa using hlq) _) (by simpa using hlq) _
 ·iterate 2 refine Below.setCell ?_ (by first | omega | (simp <;> omega)) _
  exact Below.trans (by (repeat' (first | exact Below.refl _ _ | refine below_drewN ?_ _ | refine Below.drew ?_ | refine Below.setCell ?_ (by first | omega | (simp <;> omega)) _ | refine Below.alloc ?_ (by first | omega | (simp <;> omega)) _))) (Below.trans (HB1.out.mono (by first | omega | (simp <;> omega))) (HB2.out.mono (by first | omega | (simp <;> omega))))
def backL (S : List Int) (k : Nat) : List Int := List.replicate k 0 ++ S.drop k
theorem backL_full (S : List Int) : backL S S.length = List.replicate S.length 0 := by simp [backL]
theorem backL_zero (S : List Int) : backL S 0 = S := by simp [backL]
theorem backL_set (S : List Int) (j : Nat) (hj : j < S.length) (x : Int) (hx : S[j]? = some x) : (backL S (j + 1)).set j x = backL S j := by
 unfold backL
 apply List.ext_getElem?
 intro i
 have hx' : S[j] = x := by rw [List.getElem?_eq_getElem hj] at hx; exact Option.some.inj hx
 rw [List.getElem?_set]
 by_cases hij : j = i
 ·subst hij
  simp [List.getElem?_append, hj]
  exact ⟨by omega, hx'.symm⟩
 ·simp only [hij, if_false]
  simp only [List.getElem?_append, List.length_replicate, List.getElem?_replicate, List.getElem?_drop]
  by_cases h1 : i < j
  ·rw [if_pos (by omega), if_pos h1, if_pos (by omega), if_pos h1]
  ·rw [if_neg (by omega), if_neg h1]
   congr 1
   omega
set_option maxHeartbeats 400000 in
theorem stands_any (a : Option Addr) (c : Nat) (xs : List Int) (n : Int) (w : World) (h : Ints .i64 w w.heap.size a xs) (hg : goodB xs = true) (hn : 0 ≤ n) (hn2 : n ≤ 9223372036854775807) :
  Calls Tryz.prog 74 #[.slice a xs.length c, .int .i64 n] w (RetInts w (standsI xs n)) := by
 obtain ⟨hm, _, hc⟩ := h
 have hD := goodB_dims hg
 have h4 := (goodB_iff.1 hg).1
 have hl := Lib.hid (standsI_length xs n)
 clear hg
 go_enter Tryz.func74, Tryz.ntmps74
 go_wp2_with (at_make; (refine wpl_make 23 3 .i64 infoInt Tryz.underlying23 w.heap.size xs.length _ _ _ _ rfl rfl rfl rfl rfl rfl (by omega) (Nat.le_refl _) ?_); intro w1 hown hgrow _)
 go_loopw [1, 6] (fun m i wr => ∃ k : Nat, k ≤ xs.length ∧ i = .int .i64 ((k : Int) - 1) ∧ m = .int .i64 (n / prodI (xs.drop k)) ∧ wr.ownsRow w.heap.size 3 1 (.slice (some ⟨w.heap.size, 0, none⟩) xs.length xs.length) xs.length ((backL (standsI xs n) k).map (Value.int .i64)) ∧ Below w.heap.size w wr) (fun _ i _ => ((intOf i) + 1).toNat)
 case atStart =>
  refine ⟨xs.length, Nat.le_refl _, rfl, by simp [prodI], ?_, hgrow _ (Nat.le_refl _)⟩
  have e := backL_full (standsI xs n)
  rw [hl.out] at e
  rw [e]
  exact hown
 case round =>
  obtain ⟨k, hk, rfl, rfl, hown2, hbel⟩ := hrel
  clear hown hgrow
  rcases k with _ | j
  ·have HO := Lib.hid hown2
   have HB := Lib.hid hbel
   clear hown2 hbel hc
   go_wp2
   go_ret
   have h0 := HO.out
   rw [backL_zero] at h0
   exact ⟨_, rfl, by rw [hl.out]; exact h0, HB.out⟩
  ·rw [show (((j + 1 : Nat) : Int) - 1) = (j : Int) by omega]
   have hlt : j < xs.length := by omega
   obtain ⟨b, off, rfl, hlb, hcell⟩ := hc j hlt
   clear hc
   rw [List.getElem?_eq_getElem hlt] at hcell
   simp only [Option.getD_some] at hcell
   have hold : wr.cell? ⟨w.heap.size, j, none⟩ = some (.int .i64 ((backL (standsI xs n) (j + 1))[j]?.getD 0)) := own_cell hown2 hlt
   have hfr := hown2.frozenAt j
   have hcr : wr.cell? ⟨b, off + j, none⟩ = some (.int .i64 xs[j]) := (hbel.cell (p := ⟨b, off + j, none⟩) hlb).trans hcell
   have hst := hown2.stored j (.int .i64 (n / prodI (xs.drop (j + 1)) % xs[j]))
   have HO : Hid ((wr.setCell ⟨w.heap.size, j, none⟩ (.int .i64 (n / prodI (xs.drop (j + 1)) % xs[j]))).ownsRow w.heap.size 3 1 (.slice (some ⟨w.heap.size, 0, none⟩) xs.length xs.length) xs.length ((backL (standsI xs n) j).map (Value.int .i64))) := by
    have h0 := hst.1
    rw [map_set, backL_set _ j (by rw [hl.out]; exact hlt) _ (standsI_get xs n j hlt)] at h0
    exact h0
   have HB := Lib.hid (hbel.setCell (p := ⟨w.heap.size, j, none⟩) (Nat.le_refl _) (.int .i64 (n / prodI (xs.drop (j + 1)) % xs[j])))
   have HS := Lib.hid (ediv_ediv_drop xs n j hD hlt)
   have hp1 := (hD.drop (j + 1)).pos
   have hd1 := hD.at hlt
   obtain ⟨hd1, hd2⟩ := hd1
   have hq0 : 0 ≤ n / prodI (xs.drop (j + 1)) := Int.ediv_nonneg hn (by omega)
   have hq1 : n / prodI (xs.drop (j + 1)) ≤ 9223372036854775807 := Int.le_trans (Int.ediv_le_self _ hn) hn2
   have hne : b ≠ w.heap.size := by omega
   clear hown2 hbel hst hcell
   go_wp2
   go_roundw
   case rel => exact ⟨j, by omega, by go_num, by rw [HS.out], HO.out, HB.out⟩
   case measure => simp [intOf]
theorem wf_dims {xs : List Int} (h : ∀ x ∈ xs, -65537 ≤ x ∧ x ≤ 65537) : ∀ x ∈ xs, (Lit.int .i64 x).wf = true :=
 fun x hx => wf_i64_iff.2 ⟨by have := h x hx; omega, by have := h x hx; omega⟩
end Go.Proofs.YtadlnmckcnfacaaGreat
namespace Go.Proofs.YtadlnmckcnfacaaGreat
open Go.RowKit Go.Rt
attribute [local go_sem] Oper.semAt_some
theorem stands_mem : ∀ {sh : List Int} {n : Int}, Dims sh → ∀ x ∈ standsI sh n, 0 ≤ x ∧ x < 4096
 | [], _, _ => by simp [standsI]
 | d :: r, n, h => by
  intro x hx
  rw [standsI, List.mem_cons] at hx
  rcases hx with rfl | hx
  ·have h1 := h.head
   have h2 := Int.emod_nonneg (n / prodI r) (show d ≠ 0 by omega)
   have h3 := Int.emod_lt_of_pos (n / prodI r) (show 0 < d by omega)
   omega
  ·exact stands_mem h.tail x hx
theorem wf_stands {sh : List Int} {n : Int} (h : Dims sh) : ∀ x ∈ standsI sh n, (Lit.int .i64 x).wf = true := wf_dims (fun x hx => by have := stands_mem h x hx; omega)
end Go.Proofs.YtadlnmckcnfacaaGreat
namespace Go.Proofs.YtadlnmckcnfacaaGreat
open Go.RowKit Go.Rt
theorem heavyT_any (a b : Option Addr) (n c m d : Nat) (k : Int) (w : World) (hn : n ≤ 9223372036854775807) (hm : m ≤ 9223372036854775807) :
  Calls Tryz.prog 14 #[.agg #[.slice a n c, .slice b m d], .int .i64 k] w fun e w' => e = .returned (.bool (decide (k < m) || decide (8 < n))) ∧ Below w.heap.size w w' := by
 by_cases h1 : k < (m : Int)
 ·rw [decide_eq_true h1, Bool.true_or]
  go_enter Tryz.func14, Tryz.ntmps14
  go_wp2
  go_ret
  exact ⟨rfl, (by (repeat' (first | exact Below.refl _ _ | refine below_drewN ?_ _ | refine Below.drew ?_ | refine Below.setCell ?_ (by first | omega | (simp <;> omega)) _ | refine Below.alloc ?_ (by first | omega | (simp <;> omega)) _)))⟩
 ·rw [decide_eq_false h1, Bool.false_or]
  by_cases h2 : 8 < n
  ·have h3 : (8 : Int) < (n : Int) := by omega
   rw [decide_eq_true h2]
   go_enter Tryz.func14, Tryz.ntmps14
   go_wp2
   go_ret
   exact ⟨rfl, (by (repeat' (first | exact Below.refl _ _ | refine below_drewN ?_ _ | refine Below.drew ?_ | refine Below.setCell ?_ (by first | omega | (simp <;> omega)) _ | refine Below.alloc ?_ (by first | omega | (simp <;> omega)) _)))⟩
  ·have h3 : ¬ (8 : Int) < (n : Int) := by omega
   rw [decide_eq_false h2]
   go_enter Tryz.func14, Tryz.ntmps14
   go_wp2
   go_ret
   exact ⟨rfl, (by (repeat' (first | exact Below.refl _ _ | refine below_drewN ?_ _ | refine Below.drew ?_ | refine Below.setCell ?_ (by first | omega | (simp <;> omega)) _ | refine Below.alloc ?_ (by first | omega | (simp <;> omega)) _)))⟩
structure Ten (w : World) (hi : Nat) (a : Option Addr) (c : Nat) (b : Option Addr) (d : Nat) (xs ys : List Int) : Prop where
 sh : Ints .i64 w hi a xs
 da : Ints .i64 w hi b ys
 c1 : xs.length ≤ c
 c2 : c ≤ 9223372036854775807
 d1 : ys.length ≤ d
 d2 : d ≤ 9223372036854775807
theorem Ten.below {w w' : World} {hi B : Nat} {a b : Option Addr} {c d : Nat} {xs ys : List Int} (h : Ten w hi a c b d xs ys) (hb : Below B w w') (hB : hi ≤ B) : Ten w' hi a c b d xs ys :=
 ⟨h.sh.below hb hB, h.da.below hb hB, h.c1, h.c2, h.d1, h.d2⟩
theorem Ten.mono {w : World} {hi hi' : Nat} {a b : Option Addr} {c d : Nat} {xs ys : List Int} (h : Ten w hi a c b d xs ys) (hh : hi ≤ hi') : Ten w hi' a c b d xs ys :=
 ⟨h.sh.mono hh, h.da.mono hh, h.c1, h.c2, h.d1, h.d2⟩
def RetTF (w : World) (sh ys : List Int) (z : Int) (e : Ending) (w' : World) : Prop :=
 ∃ a c b d, e = .returned (.tuple #[.agg #[.slice a sh.length c, .slice b ys.length d], .int .i64 z]) ∧ Fr w.heap.size w w' [] [] [⟨3, .slice a sh.length c, sh.length, sh.map (Value.int .i64)⟩, ⟨2, .slice b ys.length d, ys.length, ys.map (Value.int .i64)⟩] []
def zL (z : Int) (l : List Int) : List Int := if z = 0 then l else []
theorem zL_0 (l : List Int) : zL 0 l = l := rfl
theorem zL_ne {z : Int} (l : List Int) (h : z ≠ 0) : zL z l = [] := if_neg h
theorem retTF_none {w w' : World} {z : Int} {B : List (Nat × List Value)} {I : List (IntKind × Option Addr × List Int)} (h : Fr w.heap.size w w' B I [] []) : RetTF w [] [] z (.returned (.tuple #[.agg #[.slice none 0 0, .slice none 0 0], .int .i64 z])) w' :=
 ⟨none, 0, none, 0, rfl, ((h.rows.addNil _).addNil _)⟩
theorem results_ctZ {fn : Func} {p u : Tmp} {ty : TypeId} (h : fn.results = #[.cell p ty, .tmp u]) (tmps : Array Value) (P : Program) (w : World) :
  (results fn tmps).run P w = ((asAddr (tmps.getD p undef)).run P w).andThen fun a w₁ => ((loadVar ty a).run P w₁).andThen fun v w₂ => .ok (.tuple #[v, tmps.getD u undef]) w₂ := by
 simp only [results, h]
 simp [Sem.run_bind, Result.andThen]
theorem infoI64Z : (Tryz.prog.info? 2).map (fun i => (i.zero, i.size, i.bytes)) = some (some (.int .i64 0), 1, 8) := by kernel_rfl
theorem appendWZ {w : World} {ops : Array Oper} {rest : List Oper} {o : Oper} {a : Act} {Q : Exit → Act → World → Prop}
  (base : Nat) (v : Value) (n : Nat) (xs : List Int) (y : Int) (cap : Nat) (s x : Operand) (hg : o.guard = none) (ho : o.op = .call { callee := .builtin .append, args := #[s, x], argTypes := #[24, 24] })
  (hs : a.eval s = v) (hown : w.ownsRow base 2 1 v n (xs.map (Value.int .i64))) (hx : a.eval x = .slice (some ⟨w.heap.size, 0, none⟩) 1 cap) (hn : n ≤ 1000000) (hb : base ≤ w.heap.size)
  (hK : ∀ v' w', w'.ownsRow base 2 1 v' (n + 1) ((xs ++ [y]).map (Value.int .i64)) → (∀ B W0, B ≤ base → Below B W0 w → Below B W0 w') → w.grownBy w' v.ownBlock → (v'.ownBlock = v.ownBlock ∨ v'.ownBlock = some (w.heap.size + 1)) →
   wpList Tryz.prog ops Q rest (a.put o.dst v') w') : wpList Tryz.prog ops Q (o :: rest) a (w.alloc (.cells #[.int .i64 y] 2)) := by
 obtain ⟨i, hi, hz0, hz1, hz2⟩ := info_parts infoI64Z
 refine wpList_append_own_at _ hg s x _ ho base 2 i (.int .i64 0) 1 8 Tryz.underlying24 hi hz0 hz1 hz2 rfl (by decide) v n _ hs (hown.alloc _) ⟨w.heap.size, 0, none⟩ 1 cap [.int .i64 y] hx rfl (cell_one_new _ _ _)
  (by simp [Value.oneCell']) (by unfold maxLen; omega) (by omega) (by simp; omega) ?_
 intro v' w' hown' hgrow _ hob
 refine hK v' w' (by simpa using hown') (fun B W0 hB hbel => ?_) (grown_trans (World.grownBy_alloc w _ _) hgrow) (by simpa using hob)
 have hlt := hown.lt
 refine (hbel.alloc (Nat.le_trans hB hb) _).grown hgrow (by simp; omega) (fun j hj => ?_)
 have := hlt j hj
 omega
theorem results_cZ {fn : Func} {p : Tmp} {ty : TypeId} (h : fn.results = #[.cell p ty]) (tmps : Array Value) (P : Program) (w : World) :
  (results fn tmps).run P w = ((asAddr (tmps.getD p undef)).run P w).andThen fun a w₁ => (loadVar ty a).run P w₁ := by
 simp only [results, h]
 simp [Sem.run_bind, Result.andThen]
theorem appendI {w : World} {ops : Array Oper} {rest : List Oper} {o : Oper} {a : Act} {Q : Exit → Act → World → Prop}
  (base : Nat) (v : Value) (n : Nat) (xs : List Int) (y : Int) (cap : Nat) (s x : Operand) (hg : o.guard = none) (ho : o.op = .call { callee := .builtin .append, args := #[s, x], argTypes := #[23, 23] })
  (hs : a.eval s = v) (hown : w.ownsRow base 3 1 v n (xs.map (Value.int .i64))) (hx : a.eval x = .slice (some ⟨w.heap.size, 0, none⟩) 1 cap) (hn : n ≤ 1000000) (hb : base ≤ w.heap.size)
  (hK : ∀ v' w', w'.ownsRow base 3 1 v' (n + 1) ((xs ++ [y]).map (Value.int .i64)) → (∀ B W0, B ≤ base → Below B W0 w → Below B W0 w') → w.grownBy w' v.ownBlock → (v'.ownBlock = v.ownBlock ∨ v'.ownBlock = some (w.heap.size + 1)) →
   wpList Tryz.prog ops Q rest (a.put o.dst v') w') : wpList Tryz.prog ops Q (o :: rest) a (w.alloc (.cells #[.int .i64 y] 3)) := by
 obtain ⟨i, hi, hz0, hz1, hz2⟩ := info_parts infoInt
 refine wpList_append_own_at _ hg s x _ ho base 3 i (.int .i64 0) 1 8 Tryz.underlying23 hi hz0 hz1 hz2 rfl (by decide) v n _ hs (hown.alloc _) ⟨w.heap.size, 0, none⟩ 1 cap [.int .i64 y] hx rfl (cell_one_new _ _ _)
  (by simp [Value.oneCell']) (by unfold maxLen; omega) (by omega) (by simp; omega) ?_
 intro v' w' hown' hgrow _ hob
 refine hK v' w' (by simpa using hown') (fun B W0 hB hbel => ?_) (grown_trans (World.grownBy_alloc w _ _) hgrow) (by simpa using hob)
 have hlt := hown.lt
 refine (hbel.alloc (Nat.le_trans hB hb) _).grown hgrow (by simp; omega) (fun j hj => ?_)
 have := hlt j hj
 omega
end Go.Proofs.YtadlnmckcnfacaaGreat
