import Derived.Test.YtadlnmckcnfacaaGreatRows
import Derived.Test.YtadlnmckcnfacaaGreatVRdN
import Derived.Test.YtadlnmckcnfacaaGreatVPartsIn
import Derived.Test.YtadlnmckcnfacaaGreatVPartsL
import Derived.Test.YtadlnmckcnfacaaGreatVTakeL
import Derived.Below
import Derived.BigQuiet
import Derived.BigRegion
import Derived.Deep.AppendLies
import Derived.Deep.Cut
import Derived.Deep.CutBlock
import Derived.Deep.CutRange
import Derived.Deep.LoopGhost
import Derived.Deep.QuietTactic
import Derived.Deep.RegionHeld3
import Derived.Deep.RegionWith
import Derived.Laws.Cover3
import Derived.Lib.BufferWrite
import Derived.LoopIn
import Derived.LoopNIn
import Derived.OwnWalkIn
import Derived.RangeFuncBound
import Derived.RangeFuncBox
import Derived.RangeFuncCalls
import Derived.RangeFuncFrom
import Derived.RangeFuncLeaves
import Derived.RangeFuncNested
import Derived.Shelf.Abstract
import Derived.Shelf.RegionOpen
import Derived.Sort.AtCall
import Derived.Sort.CutIn
import Derived.Sort.LoopGhostIn
import Derived.Sort.OwnSorted
import Derived.TacticsInMore
import Derived.WalkMore
import Derived.WalkSmall
set_option linter.unusedVariables false
set_option linter.unusedSimpArgs false
namespace Go.Proofs.YtadlnmckcnfacaaGreat
open Go.RowKit Go.Rt
def RetWords (w : World) (xs : List Int) (e : Ending) (w' : World) : Prop :=
 ∃ v, e = .returned v ∧ w'.ownsRow w.heap.size 2 1 v xs.length (xs.map (Value.int .i64)) ∧ Below w.heap.size w w'
theorem take_ne {xs ys : List Int} (k : Nat) (h1 : k < xs.length) (h2 : k < ys.length) (hne : xs[k] ≠ ys[k]) : xs ≠ ys := by
 intro e; subst e; exact hne rfl
set_option maxHeartbeats 400000 in
theorem eqNumbers_any (a a2 : Option Addr) (c c2 hi : Nat) (xs ys : List Int) (w : World) (h : Ints .i64 w hi a xs) (h2 : Ints .i64 w hi a2 ys) :
  Calls Tryz.prog 47 #[.slice a xs.length c, .slice a2 ys.length c2] w fun e w' => e = .returned (.bool (decide (xs = ys))) ∧ ∃ q, w' = w.drewN q := by
 obtain ⟨hm, _, hc⟩ := h
 obtain ⟨hm2, _, hc2⟩ := h2
 by_cases hl : xs.length = ys.length
 ·have hl1 : ((xs.length : Int) == (ys.length : Int)) = true := by simp; omega
  have hl2 : ((xs.length : Int) != (ys.length : Int)) = false := by simp; omega
  have HL := Lib.hid hl
  clear hl
  go_enter Tryz.func47, Tryz.ntmps47
  go_wp2
  go_loopw [5] (fun i wr => ∃ k : Nat, k ≤ xs.length ∧ i = .int .i64 k ∧ xs.take k = ys.take k ∧ ∃ q, wr = w.drewN q) (fun i _ => xs.length - (intOf i).toNat)
  case atStart => exact ⟨0, Nat.zero_le _, rfl, rfl, 0, rfl⟩
  case round =>
   obtain ⟨k, hk, rfl, htk, q, rfl⟩ := hrel
   have HT := Lib.hid htk
   clear htk
   by_cases hlt : k < xs.length
   ·have hlt2 : k < ys.length := by have := HL.out; omega
    obtain ⟨b, off, rfl, _, hcell⟩ := hc k hlt
    obtain ⟨b2, off2, rfl, _, hcell2⟩ := hc2 k hlt2
    clear hc hc2
    rw [List.getElem?_eq_getElem hlt] at hcell
    rw [List.getElem?_eq_getElem hlt2] at hcell2
    simp only [Option.getD_some] at hcell hcell2
    by_cases he : xs[k] = ys[k]
    ·have he1 : (xs[k] == ys[k]) = true := by simp [he]
     have he2 : (xs[k] != ys[k]) = false := by simp [he]
     have HE := Lib.hid he
     clear he
     go_wp2
     go_quiet (fail)
     go_wp2
     go_roundw
     case rel => exact ⟨k + 1, by omega, by go_num, by rw [take_snoc _ _ hlt, take_snoc _ _ hlt2, HT.out, HE.out], _, by first | rfl | exact World.drewN_drewN _ _ _⟩
     case measure => simp [intOf]; omega
    ·have he1 : (xs[k] == ys[k]) = false := by simp [he]
     have he2 : (xs[k] != ys[k]) = true := by simp [he]
     have HE := Lib.hid (take_ne k hlt hlt2 he)
     clear he
     go_wp2
     go_quiet (fail)
     go_wp2
     go_ret
     exact ⟨ret_bool (by simp [HE.out]), _, by first | rfl | exact World.drewN_drewN _ _ _⟩
   ·have hke : k = xs.length := by omega
    subst hke
    have HX : Hid (xs = ys) := by
     have := HT.out
     rw [List.take_length, HL.out, List.take_length] at this
     exact this
    go_wp2
    go_ret
    exact ⟨ret_bool (by simp [HX.out]), _, rfl⟩
 ·have hl1 : ((xs.length : Int) == (ys.length : Int)) = false := by simp; omega
  have hl2 : ((xs.length : Int) != (ys.length : Int)) = true := by simp; omega
  have HX : Hid (¬ xs = ys) := fun e => hl (by rw [e])
  clear hl
  go_enter Tryz.func47, Tryz.ntmps47
  go_wp2
  go_ret
  exact ⟨ret_bool (by simp [HX.out]), 0, rfl⟩
set_option maxHeartbeats 400000 in
theorem copyNumbers_any (a : Option Addr) (c : Nat) (xs : List Int) (w : World) (h : Ints .i64 w w.heap.size a xs) (hn : xs.length ≤ 17592186044415) :
  Calls Tryz.prog 31 #[.slice a xs.length c] w (RetInts w xs) := by
 obtain ⟨hm, _, hc⟩ := h
 go_enter Tryz.func31, Tryz.ntmps31
 go_wp2
 go_loopw [3, 4] (fun v i wr => ∃ k : Nat, k ≤ xs.length ∧ i = .int .i64 k ∧ wr.ownsRow w.heap.size 3 1 v k ((xs.take k).map (Value.int .i64)) ∧ Below w.heap.size w wr) (fun _ i _ => xs.length - (intOf i).toNat)
 case atStart => exact ⟨0, Nat.zero_le _, rfl, World.ownsRow_nil _ _ _ _, Below.refl _ _⟩
 case round =>
  obtain ⟨k, hk, rfl, hown, hbel⟩ := hrel
  by_cases hlt : k < xs.length
  ·obtain ⟨b, off, rfl, hlb, hcell⟩ := hc k hlt
   clear hc
   rw [List.getElem?_eq_getElem hlt] at hcell
   simp only [Option.getD_some] at hcell
   have hcr : wr.cell? ⟨b, off + k, none⟩ = some (.int .i64 xs[k]) := (hbel.cell (p := ⟨b, off + k, none⟩) hlb).trans hcell
   have HO := Lib.hid hown
   have HB := Lib.hid hbel
   have hsz := hbel.size
   clear hown hbel hcell
   go_wp2_with (at_builtin; (refine wpl_append1 23 3 .i64 infoInt Tryz.underlying23 w.heap.size _ k (xs.take k) xs[k] _ _ _ rfl rfl rfl HO.out rfl (by omega) hsz ?_); intro v' w1 hown1 hbel1 _)
   have HO1 := Lib.hid hown1
   have HB1 := Lib.hid (hbel1 _ _ (Nat.le_refl _) HB.out)
   clear hown1 hbel1
   go_roundw
   case rel => exact ⟨k + 1, by omega, by go_num, by rw [take_snoc _ _ hlt]; exact HO1.out, HB1.out⟩
   case measure => simp [intOf]; omega
  ·have hke : k = xs.length := by omega
   subst hke
   have HO := Lib.hid hown
   have HB := Lib.hid hbel
   clear hown hbel hc
   go_wp2
   go_ret
   exact ⟨_, rfl, by have := HO.out; rw [List.take_length] at this; exact this, HB.out⟩
set_option maxHeartbeats 400000 in
theorem eqWords_any (a a2 : Option Addr) (c c2 hi : Nat) (xs ys : List Int) (w : World) (h : Ints .i64 w hi a xs) (h2 : Ints .i64 w hi a2 ys) :
  Calls Tryz.prog 48 #[.slice a xs.length c, .slice a2 ys.length c2] w fun e w' => e = .returned (.bool (decide (xs = ys))) ∧ ∃ q, w' = w.drewN q := by
 obtain ⟨hm, _, hc⟩ := h
 obtain ⟨hm2, _, hc2⟩ := h2
 by_cases hl : xs.length = ys.length
 ·have hl1 : ((xs.length : Int) == (ys.length : Int)) = true := by simp; omega
  have hl2 : ((xs.length : Int) != (ys.length : Int)) = false := by simp; omega
  have HL := Lib.hid hl
  clear hl
  go_enter Tryz.func48, Tryz.ntmps48
  go_wp2
  go_loopw [5] (fun i wr => ∃ k : Nat, k ≤ xs.length ∧ i = .int .i64 k ∧ xs.take k = ys.take k ∧ ∃ q, wr = w.drewN q) (fun i _ => xs.length - (intOf i).toNat)
  case atStart => exact ⟨0, Nat.zero_le _, rfl, rfl, 0, rfl⟩
  case round =>
   obtain ⟨k, hk, rfl, htk, q, rfl⟩ := hrel
   have HT := Lib.hid htk
   clear htk
   by_cases hlt : k < xs.length
   ·have hlt2 : k < ys.length := by have := HL.out; omega
    obtain ⟨b, off, rfl, _, hcell⟩ := hc k hlt
    obtain ⟨b2, off2, rfl, _, hcell2⟩ := hc2 k hlt2
    clear hc hc2
    rw [List.getElem?_eq_getElem hlt] at hcell
    rw [List.getElem?_eq_getElem hlt2] at hcell2
    simp only [Option.getD_some] at hcell hcell2
    by_cases he : xs[k] = ys[k]
    ·have he1 : (xs[k] == ys[k]) = true := by simp [he]
     have he2 : (xs[k] != ys[k]) = false := by simp [he]
     have HE := Lib.hid he
     clear he
     go_wp2
     go_quiet (fail)
     go_wp2
     go_roundw
     case rel => exact ⟨k + 1, by omega, by go_num, by rw [take_snoc _ _ hlt, take_snoc _ _ hlt2, HT.out, HE.out], _, by first | rfl | exact World.drewN_drewN _ _ _⟩
     case measure => simp [intOf]; omega
    ·have he1 : (xs[k] == ys[k]) = false := by simp [he]
     have he2 : (xs[k] != ys[k]) = true := by simp [he]
     have HE := Lib.hid (take_ne k hlt hlt2 he)
     clear he
     go_wp2
     go_quiet (fail)
     go_wp2
     go_ret
     exact ⟨ret_bool (by simp [HE.out]), _, by first | rfl | exact World.drewN_drewN _ _ _⟩
   ·have hke : k = xs.length := by omega
    subst hke
    have HX : Hid (xs = ys) := by
     have := HT.out
     rw [List.take_length, HL.out, List.take_length] at this
     exact this
    go_wp2
    go_ret
    exact ⟨ret_bool (by simp [HX.out]), _, rfl⟩
 ·have hl1 : ((xs.length : Int) == (ys.length : Int)) = false := by simp; omega
  have hl2 : ((xs.length : Int) != (ys.length : Int)) = true := by simp; omega
  have HX : Hid (¬ xs = ys) := fun e => hl (by rw [e])
  clear hl
  go_enter Tryz.func48, Tryz.ntmps48
  go_wp2
  go_ret
  exact ⟨ret_bool (by simp [HX.out]), 0, rfl⟩
set_option maxHeartbeats 400000 in
theorem copyWords_any (a : Option Addr) (c : Nat) (xs : List Int) (w : World) (h : Ints .i64 w w.heap.size a xs) (hn : xs.length ≤ 17592186044415) :
  Calls Tryz.prog 32 #[.slice a xs.length c] w (RetWords w xs) := by
 obtain ⟨hm, _, hc⟩ := h
 go_enter Tryz.func32, Tryz.ntmps32
 go_wp2
 go_loopw [3, 4] (fun v i wr => ∃ k : Nat, k ≤ xs.length ∧ i = .int .i64 k ∧ wr.ownsRow w.heap.size 2 1 v k ((xs.take k).map (Value.int .i64)) ∧ Below w.heap.size w wr) (fun _ i _ => xs.length - (intOf i).toNat)
 case atStart => exact ⟨0, Nat.zero_le _, rfl, World.ownsRow_nil _ _ _ _, Below.refl _ _⟩
 case round =>
  obtain ⟨k, hk, rfl, hown, hbel⟩ := hrel
  by_cases hlt : k < xs.length
  ·obtain ⟨b, off, rfl, hlb, hcell⟩ := hc k hlt
   clear hc
   rw [List.getElem?_eq_getElem hlt] at hcell
   simp only [Option.getD_some] at hcell
   have hcr : wr.cell? ⟨b, off + k, none⟩ = some (.int .i64 xs[k]) := (hbel.cell (p := ⟨b, off + k, none⟩) hlb).trans hcell
   have HO := Lib.hid hown
   have HB := Lib.hid hbel
   have hsz := hbel.size
   clear hown hbel hcell
   go_wp2_with (at_builtin; (refine wpl_append1 24 2 .i64 infoI64 Tryz.underlying24 w.heap.size _ k (xs.take k) xs[k] _ _ _ rfl rfl rfl HO.out rfl (by omega) hsz ?_); intro v' w1 hown1 hbel1 _)
   have HO1 := Lib.hid hown1
   have HB1 := Lib.hid (hbel1 _ _ (Nat.le_refl _) HB.out)
   clear hown1 hbel1
   go_roundw
   case rel => exact ⟨k + 1, by omega, by go_num, by rw [take_snoc _ _ hlt]; exact HO1.out, HB1.out⟩
   case measure => simp [intOf]; omega
  ·have hke : k = xs.length := by omega
   subst hke
   have HO := Lib.hid hown
   have HB := Lib.hid hbel
   clear hown hbel hc
   go_wp2
   go_ret
   exact ⟨_, rfl, by have := HO.out; rw [List.take_length] at this; exact this, HB.out⟩
theorem Ten.next {w w' : World} {a b : Option Addr} {c d : Nat} {xs ys : List Int} (h : Ten w w.heap.size a c b d xs ys) (hb : Below w.heap.size w w') : Ten w' w'.heap.size a c b d xs ys :=
 (h.below hb (Nat.le_refl _)).mono hb.size
set_option maxHeartbeats 1000000 in
theorem eqTensor_any (a b a' b' : Option Addr) (c d c' d' : Nat) (xs ys xs' ys' : List Int) (w : World) (h1 : Ints .i64 w w.heap.size a xs) (h2 : Ints .i64 w w.heap.size b ys) (h3 : Ints .i64 w w.heap.size a' xs') (h4 : Ints .i64 w w.heap.size b' ys') :
  Calls Tryz.prog 12 #[.agg #[.slice a xs.length c, .slice b ys.length d], .agg #[.slice a' xs'.length c', .slice b' ys'.length d']] w fun e w' => e = .returned (.bool (decide (xs = xs') && decide (ys = ys'))) ∧ Below w.heap.size w w' := by
 have e1 := fun w' (hb : Below w.heap.size w w') => Lib.hid (eqNumbers_any a a' c c' w.heap.size xs xs' w' (h1.below hb (Nat.le_refl _)) (h3.below hb (Nat.le_refl _)))
 have e2 := fun w' (hb : Below w.heap.size w w') => Lib.hid (eqWords_any b b' d d' w.heap.size ys ys' w' (h2.below hb (Nat.le_refl _)) (h4.below hb (Nat.le_refl _)))
 generalize decide (xs = xs') = B1 at *
 generalize decide (ys = ys') = B2 at *
 clear h1 h2 h3 h4
 cases B1
 all_goals
  (try simp only [Bool.false_and, Bool.true_and])
  go_enter Tryz.func12, Tryz.ntmps12
  go_wp2_with (first | (go_at_call 47; refine (e1 _ (by (repeat' (first | exact Below.refl _ _ | refine below_drewN ?_ _ | refine Below.drew ?_ | refine Below.setCell ?_ (by first | omega | (simp <;> omega)) _ | refine Below.alloc ?_ (by first | omega | (simp <;> omega)) _)))).out.mono ?_; rintro e w' ⟨rfl, q1, rfl⟩) | (go_at_call 48; refine (e2 _ (by (repeat' (first | exact Below.refl _ _ | refine below_drewN ?_ _ | refine Below.drew ?_ | refine Below.setCell ?_ (by first | omega | (simp <;> omega)) _ | refine Below.alloc ?_ (by first | omega | (simp <;> omega)) _)))).out.mono ?_; rintro e w' ⟨rfl, q2, rfl⟩))
  go_ret
  exact ⟨rfl, (by (repeat' (first | exact Below.refl _ _ | refine below_drewN ?_ _ | refine Below.drew ?_ | refine Below.setCell ?_ (by first | omega | (simp <;> omega)) _ | refine Below.alloc ?_ (by first | omega | (simp <;> omega)) _)))⟩
set_option maxHeartbeats 400000 in
theorem rstrides_any (a : Option Addr) (c : Nat) (xs : List Int) (w : World) (h : Ints .i64 w w.heap.size a xs) (hg : goodB xs = true) :
  Calls Tryz.prog 86 #[.slice a xs.length c] w (RetInts w (strI xs)) := by
 obtain ⟨hm, _, hc⟩ := h
 have hD := goodB_dims hg
 have hP := (goodB_prod hg).2
 have h4 := (goodB_iff.1 hg).1
 have hl := Lib.hid (strI_length xs)
 clear hg
 go_enter Tryz.func86, Tryz.ntmps86
 go_wp2_with (at_make; (refine wpl_make 23 3 .i64 infoInt Tryz.underlying23 w.heap.size xs.length _ _ _ _ rfl rfl rfl rfl rfl rfl (by omega) (Nat.le_refl _) ?_); intro w1 hown hgrow _)
 go_loopw [4, 5] (fun n i wr => ∃ k : Nat, k ≤ xs.length ∧ i = .int .i64 ((k : Int) - 1) ∧ n = .int .i64 (prodI (xs.drop k)) ∧ wr.ownsRow w.heap.size 3 1 (.slice (some ⟨w.heap.size, 0, none⟩) xs.length xs.length) xs.length ((backL (strI xs) k).map (Value.int .i64)) ∧ Below w.heap.size w wr) (fun _ i _ => ((intOf i) + 1).toNat)
 case atStart =>
  refine ⟨xs.length, Nat.le_refl _, rfl, by simp [prodI], ?_, hgrow _ (Nat.le_refl _)⟩
  have e := backL_full (strI xs)
  rw [hl.out] at e
  rw [e]
  exact hown
 case round =>
  obtain ⟨k, hk, rfl, rfl, hown2, hbel⟩ := hrel
  clear hown hgrow
  rcases k with _ | j
  ·have HO := Lib.hid hown2
   have HB := Lib.hid hbel
   clear hown2 hbel hc
   go_wp2
   go_ret
   have h0 := HO.out
   rw [backL_zero] at h0
   exact ⟨_, rfl, by rw [hl.out]; exact h0, HB.out⟩
  ·rw [show (((j + 1 : Nat) : Int) - 1) = (j : Int) by omega]
   have hlt : j < xs.length := by omega
   obtain ⟨b, off, rfl, hlb, hcell⟩ := hc j hlt
   clear hc
   rw [List.getElem?_eq_getElem hlt] at hcell
   simp only [Option.getD_some] at hcell
   have hold : wr.cell? ⟨w.heap.size, j, none⟩ = some (.int .i64 ((backL (strI xs) (j + 1))[j]?.getD 0)) := own_cell hown2 hlt
   have hfr := hown2.frozenAt j
   have hcr : wr.cell? ⟨b, off + j, none⟩ = some (.int .i64 xs[j]) := (hbel.cell (p := ⟨b, off + j, none⟩) hlb).trans hcell
   have hst := hown2.stored j (.int .i64 (prodI (xs.drop (j + 1))))
   have HO : Hid ((wr.setCell ⟨w.heap.size, j, none⟩ (.int .i64 (prodI (xs.drop (j + 1))))).ownsRow w.heap.size 3 1 (.slice (some ⟨w.heap.size, 0, none⟩) xs.length xs.length) xs.length ((backL (strI xs) j).map (Value.int .i64))) := by
    have h0 := hst.1
    rw [map_set, backL_set _ j (by rw [hl.out]; exact hlt) _ (strI_get xs j hlt)] at h0
    exact h0
   have HB := Lib.hid (hbel.setCell (p := ⟨w.heap.size, j, none⟩) (Nat.le_refl _) (.int .i64 (prodI (xs.drop (j + 1)))))
   have HS := Lib.hid (prodI_drop_succ xs j hlt)
   have hp1 := (hD.drop j).pos
   have hp2 := prodI_drop_le hD j
   rw [HS.out, Int.mul_comm] at hp1 hp2
   have hne : b ≠ w.heap.size := by omega
   clear hown2 hbel hst hcell
   go_wp2
   go_roundw
   case rel => exact ⟨j, by omega, by go_num, by rw [HS.out, Int.mul_comm], HO.out, HB.out⟩
   case measure => simp [intOf]
def frontL (S : List Int) (k : Nat) : List Int := S.take k ++ List.replicate (S.length - k) 0
theorem frontL_zero (S : List Int) : frontL S 0 = List.replicate S.length 0 := by simp [frontL]
theorem frontL_full (S : List Int) : frontL S S.length = S := by simp [frontL]
theorem frontL_set (S : List Int) (j : Nat) (hj : j < S.length) (x : Int) (hx : S[j]? = some x) : (frontL S j).set j x = frontL S (j + 1) := by
 unfold frontL
 apply List.ext_getElem?
 intro i
 have hx' : S[j] = x := by rw [List.getElem?_eq_getElem hj] at hx; exact Option.some.inj hx
 rw [List.getElem?_set]
 by_cases hij : j = i
 ·subst hij
  have h1 : j < (S.take j ++ List.replicate (S.length - j) (0 : Int)).length := by simp; omega
  simp only [if_pos h1, if_true]
  rw [List.getElem?_append_left (by simp; omega), List.getElem?_take, if_pos (by omega), hx]
 ·simp only [hij, if_false]
  simp only [List.getElem?_append, List.length_take, List.getElem?_replicate, List.getElem?_take]
  have m1 : min j S.length = j := by omega
  have m2 : min (j + 1) S.length = j + 1 := by omega
  rw [m1, m2]
  by_cases h1 : i < j
  ·simp [h1, show i < j + 1 by omega]
  ·have h1' : ¬ i < j + 1 := by omega
   by_cases h2 : i < S.length
   ·simp [h1, h1', show i - j < S.length - j by omega, show i - (j + 1) < S.length - (j + 1) by omega]
   ·simp [h1, h1', show ¬ i - j < S.length - j by omega, show ¬ i - (j + 1) < S.length - (j + 1) by omega]
theorem strI_mem : ∀ {xs : List Int}, Dims xs → prodI xs ≤ 65536 → ∀ x ∈ strI xs, 1 ≤ x ∧ x ≤ 65536
 | [], _, _, x, hx => by simp [strI] at hx
 | d :: r, h, hp, x, hx => by
  have h1 := h.tail.pos
  have h2 : prodI r ≤ 65536 := by have := prodI_drop_le h 1; simp at this; omega
  simp only [strI, List.mem_cons] at hx
  rcases hx with rfl | hx
  ·omega
  ·exact strI_mem h.tail h2 x hx
theorem RetInts.ints {w w' : World} {xs : List Int} {e : Ending} (h : RetInts w xs e w') (hwf : ∀ x ∈ xs, (Lit.int .i64 x).wf = true) :
  ∃ a c, e = .returned (.slice a xs.length c) ∧ Ints .i64 w' w'.heap.size a xs ∧ Below w.heap.size w w' ∧ w'.ownsRow w.heap.size 3 1 (.slice a xs.length c) xs.length (xs.map (Value.int .i64)) := by
 obtain ⟨v, rfl, hown, hb⟩ := h
 obtain ⟨a, c, rfl, hi⟩ := own_ints hown hwf
 exact ⟨a, c, rfl, hi, hb, hown⟩
theorem dot_bound (xs is : List Int) (hD : Dims xs) (hw : withinB xs is = true) (k : Nat) (hk : k ≤ xs.length) :
  0 ≤ dotI (is.take k) ((strI xs).take k) ∧ dotI (is.take k) ((strI xs).take k) ≤ prodI xs := by
 have hl := withinB_length hw
 have h0 : placeI xs is = dotI (is.take k) ((strI xs).take k) + placeI (xs.drop k) (is.drop k) := by
  rw [← dotI_str xs is hl]
  clear hw hD
  induction k generalizing xs is with
  | zero => simp [dotI, dotI_str xs is hl]
  | succ k ih =>
   match xs, is, hl with
   | [], _, _ => simp at hk
   | d :: r, i :: s, hl =>
    have := ih r s (by simpa using hk) (by simpa using hl)
    simp only [strI, List.take_succ_cons, dotI, List.drop_succ_cons, this]
    omega
 have hb := placeI_bound xs is hD hw
 have hw2 : withinB (xs.drop k) (is.drop k) = true := by
  rw [withinB_iff] at hw ⊢
  refine ⟨by simp; omega, fun j hj => ?_⟩
  have := hw.2 (k + j) (by simp at hj; omega)
  simpa using this
 have hb2 := placeI_bound _ _ (hD.drop k) hw2
 refine ⟨?_, by omega⟩
 clear hb hb2 hw2 h0
 induction k generalizing xs is with
 | zero => simp [dotI]
 | succ k ih =>
  match xs, is, hl with
  | [], _, _ => simp at hk
  | d :: r, i :: s, hl =>
   simp only [withinB, Bool.and_eq_true, decide_eq_true_eq] at hw
   have := ih r s hD.tail hw.2 (by simpa using hk) (by simpa using hl)
   have hm : 0 ≤ i * prodI r := Int.mul_nonneg hw.1.1 (by have := hD.tail.pos; omega)
   simp only [strI, List.take_succ_cons, dotI]
   omega
set_option maxHeartbeats 400000 in
theorem rat_any (a : Option Addr) (c : Nat) (xs : List Int) (n : Int) (w : World) (h : Ints .i64 w w.heap.size a xs) (hg : goodB xs = true) (hn : 0 ≤ n) (hn2 : n < prodI xs) :
  Calls Tryz.prog 52 #[.slice a xs.length c, .int .i64 n] w (RetInts w (standsI xs n)) := by
 have hm := h.len
 have H := Lib.hid (rstrides_any a c xs w h hg)
 have hD := goodB_dims hg
 have h4 := (goodB_iff.1 hg).1
 obtain ⟨hP1, hP⟩ := goodB_prod hg
 have hl := Lib.hid (standsI_length xs n)
 have HSL := Lib.hid (strI_length xs)
 clear hg
 go_enter Tryz.func52, Tryz.ntmps52
 go_wp2_with fail
 refine H.out.mono ?_
 intro e w1 hr
 obtain ⟨a3, c3, rfl, hi3, hb1, _⟩ := hr.ints (wf_dims (fun x hx => by have := strI_mem hD hP x hx; omega))
 obtain ⟨hm3, _, hc3⟩ := hi3
 have HB1 := Lib.hid hb1
 have hsz1 := hb1.size
 clear hb1 h hr H
 go_wp2_with (at_make; (refine wpl_make 23 3 .i64 infoInt Tryz.underlying23 w.heap.size xs.length _ _ _ _ rfl rfl rfl rfl rfl rfl (by omega) hsz1 ?_); intro w2 hown hgrow _)
 go_loopw [1, 7] (fun m i wr => ∃ k : Nat, k ≤ xs.length ∧ i = .int .i64 k ∧ m = .int .i64 (n % prodI (xs.drop k)) ∧ wr.ownsRow w.heap.size 3 1 (.slice (some ⟨w1.heap.size, 0, none⟩) xs.length xs.length) xs.length ((frontL (standsI xs n) k).map (Value.int .i64)) ∧ Below w1.heap.size w1 wr) (fun _ i _ => xs.length - (intOf i).toNat)
 case atStart =>
  refine ⟨0, Nat.zero_le _, rfl, by simp; exact (Int.emod_eq_of_lt hn hn2).symm, ?_, hgrow _ (Nat.le_refl _)⟩
  have e := frontL_zero (standsI xs n)
  rw [hl.out] at e
  rw [e]
  exact hown
 case round =>
  obtain ⟨k, hk, rfl, rfl, hown2, hbel⟩ := hrel
  clear hown hgrow
  by_cases hlt : k < xs.length
  ·have hlt3 : k < (strI xs).length := by have := HSL.out; omega
   obtain ⟨b, off, rfl, hlb, hcell⟩ := hc3 k hlt3
   clear hc3
   rw [strI_get xs k hlt] at hcell
   simp only [Option.getD_some] at hcell
   have hold : wr.cell? ⟨w1.heap.size, k, none⟩ = some (.int .i64 ((frontL (standsI xs n) k)[k]?.getD 0)) := own_cell hown2 hlt
   have hfr := hown2.frozenAt k
   have hcr : wr.cell? ⟨b, off + k, none⟩ = some (.int .i64 (prodI (xs.drop (k + 1)))) := (hbel.cell (p := ⟨b, off + k, none⟩) hlb).trans hcell
   have hsf := stands_front xs n k hD hlt
   have hst := hown2.stored k (.int .i64 (n % prodI (xs.drop k) / prodI (xs.drop (k + 1))))
   have HO : Hid ((wr.setCell ⟨w1.heap.size, k, none⟩ (.int .i64 (n % prodI (xs.drop k) / prodI (xs.drop (k + 1))))).ownsRow w.heap.size 3 1 (.slice (some ⟨w1.heap.size, 0, none⟩) xs.length xs.length) xs.length ((frontL (standsI xs n) (k + 1)).map (Value.int .i64))) := by
    have h0 := hst.1
    rw [map_set, frontL_set _ k (by rw [hl.out]; exact hlt) _ (by rw [standsI_get xs n k hlt, hsf.1])] at h0
    exact h0
   have HB := Lib.hid (hbel.setCell (p := ⟨w1.heap.size, k, none⟩) (Nat.le_refl _) (.int .i64 (n % prodI (xs.drop k) / prodI (xs.drop (k + 1)))))
   have HS := Lib.hid hsf.2
   have hp1 := (hD.drop (k + 1)).pos
   have hp0 := (hD.drop k).pos
   have hp2 := prodI_drop_le hD (k + 1)
   have hp3 := prodI_drop_le hD k
   have hr0 := Int.emod_nonneg n (show prodI (xs.drop k) ≠ 0 by omega)
   have hr1 := Int.emod_lt_of_pos n (show 0 < prodI (xs.drop k) by omega)
   have hq0 : 0 ≤ n % prodI (xs.drop k) / prodI (xs.drop (k + 1)) := Int.ediv_nonneg hr0 (by omega)
   have hne : b ≠ w1.heap.size := by omega
   clear hown2 hbel hst hcell hsf
   go_wp2
   go_roundw
   case rel => exact ⟨k + 1, by omega, by go_num, by rw [HS.out], HO.out, HB.out⟩
   case measure => simp [intOf]; omega
  ·have hke : k = xs.length := by omega
   subst hke
   have HO := Lib.hid hown2
   have HB := Lib.hid hbel
   clear hown2 hbel hc3
   go_wp2
   go_ret
   have h0 := HO.out
   have e := frontL_full (standsI xs n)
   rw [hl.out] at e
   rw [e] at h0
   exact ⟨_, rfl, by rw [hl.out]; exact h0, HB1.out.trans (HB.out.mono hsz1)⟩
def RetSpread (w : World) (xs ys : List Int) (e : Ending) (w' : World) : Prop :=
 ∃ v, e = .returned (.tuple #[v, .int .i64 (spreadE xs ys)]) ∧ w'.ownsRow w.heap.size 3 1 v (spreadR xs ys).length ((spreadR xs ys).map (Value.int .i64)) ∧ Below w.heap.size w w'
theorem dimI_bound {xs : List Int} (h : Dims xs) (k : Nat) : 1 ≤ dimI xs k ∧ dimI xs k ≤ 4096 := by
 unfold dimI
 split
 ·rename_i hk
  have := h.at (k := xs.length - 1 - k) (by omega)
  rw [List.getElem?_eq_getElem (by omega)]
  exact this
 ·omega
theorem spreadL_dims {xs ys : List Int} (hx : Dims xs) (hy : Dims ys) : Dims (spreadL xs ys) := by
 intro d hd
 obtain ⟨k, hk, he⟩ := List.getElem_of_mem hd
 rw [spreadL_length] at hk
 have h1 := spreadL_get xs ys k hk
 rw [List.getElem?_eq_getElem (by rw [spreadL_length]; exact hk), he] at h1
 have a := dimI_bound hx (max xs.length ys.length - 1 - k)
 have b := dimI_bound hy (max xs.length ys.length - 1 - k)
 simp at h1
 omega
theorem spreadR_mem {xs ys : List Int} (hx : Dims xs) (hy : Dims ys) : ∀ x ∈ spreadR xs ys, -65537 ≤ x ∧ x ≤ 65537 := by
 intro x hm
 unfold spreadR at hm
 split at hm
 ·have := spreadL_dims hx hy x hm; omega
 ·simp at hm
theorem RetSpread.ints {w w' : World} {xs ys : List Int} {e : Ending} (h : RetSpread w xs ys e w') (hx : Dims xs) (hy : Dims ys) :
  ∃ a c, e = .returned (.tuple #[.slice a (spreadR xs ys).length c, .int .i64 (spreadE xs ys)]) ∧ Ints .i64 w' w'.heap.size a (spreadR xs ys) ∧ Below w.heap.size w w' := by
 obtain ⟨v, rfl, hown, hb⟩ := h
 obtain ⟨a, c, rfl, hi⟩ := own_ints hown (wf_dims (spreadR_mem hx hy))
 exact ⟨a, c, rfl, hi, hb⟩
theorem stepApp1 {ops : Array Oper} {o : Oper} {a : Act} {w : World} {K : Act → World → Prop} {Q : Exit → Act → World → Prop} {E' : Prop} (T E : TypeId)
  (hinf : (Tryz.prog.info? E).map (fun i => (i.zero, i.size, i.bytes)) = some (some (.int .i64 0), 1, 8)) (hu : Tryz.prog.underlying T = some (.slice E))
  (base : Nat) (v : Value) (n : Nat) (xs : List Int) (y : Int) (cap : Nat) (ad : Addr) (s x : Operand) (hg : o.guard = none) (ho : o.op = .call { callee := .builtin .append, args := #[s, x], argTypes := #[T, T] })
  (hs : a.eval s = v) (hown : w.ownsRow base E 1 v n (xs.map (Value.int .i64))) (hx : a.eval x = .slice (some ad) 1 cap) (hc : w.cell? ad = some (.int .i64 y)) (hn : n ≤ 1000000) (hb : base ≤ w.heap.size)
  (hK : ∀ g cap' w', w'.ownsRow base E 1 (.slice (some ⟨g, 0, none⟩) (n + 1) cap') (n + 1) ((xs ++ [y]).map (Value.int .i64)) → w.grownBy w' v.ownBlock → (v.ownBlock = some g ∨ g = w.heap.size) → K (a.put o.dst (.slice (some ⟨g, 0, none⟩) (n + 1) cap')) w') :
  if Region.wanted o (yielded ops a.tmps) = true then Oper.wp Tryz.prog o a w K Q else E' := by
 obtain ⟨i, hi, hz0, hz1, hz2⟩ := info_parts hinf
 refine step_append_lies w hg s x T ho base E i (.int .i64 0) 1 8 hu hi hz0 hz1 hz2 rfl (by decide) v n _ hs hown ad 1 cap [.int .i64 y] hx rfl (fun j u hj => ?_) (by simp [Value.oneCell']) (by decide) (by unfold maxLen; omega) (by omega) hb _ rfl ?_
 ·cases j with
  | zero =>
   simp at hj
   subst hj
   have : ad.add 0 = ad := by cases ad; rfl
   rw [this]
   exact hc
  | succ j => simp at hj
 ·intro g cap' w' h1 h2 h3 _
  exact hK g cap' w' (by rw [List.map_append]; exact h1) h2 h3
theorem ints_row {W : World} {base : Nat} {e : TypeId} {a : Option Addr} {n c : Nat} {xs : List Int} (h : W.ownsRow base e 1 (.slice a n c) n (xs.map (Value.int .i64))) (hl : xs.length = n) (hwf : ∀ x ∈ xs, (Lit.int .i64 x).wf = true) : Ints .i64 W W.heap.size a xs := by
 subst hl
 obtain ⟨a2, c2, he, hi⟩ := own_ints h hwf
 simp only [Value.slice.injEq] at he
 rw [he.1]
 exact hi
def IsOne (x : Int) (u : Value) (W : World) : Prop := ∃ g cap, u = .slice (some ⟨g, 0, none⟩) 1 cap ∧ W.cell? ⟨g, 0, none⟩ = some (.int .i64 x)
theorem isOne_carries (x : Int) : Carries (IsOne x) := fun u w w' ⟨g, cap, h1, h2⟩ hb => ⟨g, cap, h1, (hb.cell (p := ⟨g, 0, none⟩) (World.block_lt_of_cell? w _ h2)).trans h2⟩
theorem oneNew (w : World) (x : Int) (t : TypeId) : (w.alloc (.cells #[.int .i64 x] t)).cell? ⟨w.heap.size, 0, none⟩ = some (.int .i64 x) := by
 simp
def RetTO (w : World) (sh ys : List Int) (e : Ending) (w' : World) : Prop :=
 ∃ a c b d, e = .returned (.agg #[.slice a sh.length c, .slice b ys.length d]) ∧ Fr w.heap.size w w' [] [] [⟨3, .slice a sh.length c, sh.length, sh.map (Value.int .i64)⟩, ⟨2, .slice b ys.length d, ys.length, ys.map (Value.int .i64)⟩] []
set_option maxHeartbeats 400000 in
theorem rindex_any (a a2 : Option Addr) (c c2 : Nat) (xs is : List Int) (w : World) (h : Ints .i64 w w.heap.size a xs) (h2 : Ints .i64 w w.heap.size a2 is) (hg : goodB xs = true) (hw : withinB xs is = true) :
  Calls Tryz.prog 54 #[.slice a xs.length c, .slice a2 is.length c2] w fun e w' => e = .returned (.int .i64 (placeI xs is)) ∧ Below w.heap.size w w' := by
 have hm := h.len
 have H := Lib.hid (rstrides_any a c xs w h hg)
 have hD := goodB_dims hg
 obtain ⟨hP1, hP⟩ := goodB_prod hg
 have HL := Lib.hid (withinB_length hw)
 have HSL := Lib.hid (strI_length xs)
 have HW := Lib.hid hw
 clear hg hw
 go_enter Tryz.func54, Tryz.ntmps54
 go_wp2_with fail
 refine H.out.mono ?_
 intro e w1 hr
 obtain ⟨a3, c3, rfl, hi3, hb1, _⟩ := hr.ints (wf_dims (fun x hx => by have := strI_mem hD hP x hx; omega))
 obtain ⟨hm3, _, hc3⟩ := hi3
 obtain ⟨_, _, hc2⟩ := h2.below hb1 (Nat.le_refl _)
 have HB := Lib.hid hb1
 clear hb1 h h2 hr H
 go_wp2
 go_loopw [6, 7] (fun n i wr => ∃ k : Nat, k ≤ xs.length ∧ i = .int .i64 k ∧ n = .int .i64 (dotI (is.take k) ((strI xs).take k)) ∧ ∃ q, wr = w1.drewN q) (fun _ i _ => xs.length - (intOf i).toNat)
 case atStart => exact ⟨0, Nat.zero_le _, rfl, by simp [dotI], 0, rfl⟩
 case round =>
  obtain ⟨k, hk, rfl, rfl, q, rfl⟩ := hrel
  by_cases hlt : k < xs.length
  ·have hlt2 : k < is.length := by have := HL.out; omega
   have hlt3 : k < (strI xs).length := by have := HSL.out; omega
   obtain ⟨b2, off2, rfl, _, hcell2⟩ := hc2 k hlt2
   obtain ⟨b3, off3, rfl, _, hcell3⟩ := hc3 k hlt3
   clear hc2 hc3
   rw [List.getElem?_eq_getElem hlt2] at hcell2
   rw [List.getElem?_eq_getElem hlt3] at hcell3
   simp only [Option.getD_some] at hcell2 hcell3
   have HS := Lib.hid (dotI_take_succ is (strI xs) k hlt2 (by rw [HSL.out, HL.out]))
   have hb1 := dot_bound xs is hD HW.out k hk
   have hb2 := dot_bound xs is hD HW.out (k + 1) (by omega)
   rw [HS.out] at hb2
   obtain ⟨hb1a, hb1b⟩ := hb1
   obtain ⟨hb2a, hb2b⟩ := hb2
   have hwr1 : IntKind.i64.wrap (is[k] * (strI xs)[k]) = is[k] * (strI xs)[k] := IntWalk.i64_in _ (by omega)
   have hwr2 : IntKind.i64.wrap (dotI (is.take k) ((strI xs).take k) + is[k] * (strI xs)[k]) = dotI (is.take k) ((strI xs).take k) + is[k] * (strI xs)[k] := IntWalk.i64_in _ (by omega)
   go_wp2
   go_quiet (fail)
   clear hwr1 hwr2
   go_wp2
   go_roundw
   case rel => exact ⟨k + 1, by omega, by go_num, by rw [HS.out], _, by first | rfl | exact World.drewN_drewN _ _ _⟩
   case measure => simp [intOf]; omega
  ·have hke : k = xs.length := by omega
   subst hke
   have HX : Hid (dotI (is.take xs.length) ((strI xs).take xs.length) = placeI xs is) := by
    have e1 : is.take xs.length = is := by rw [← HL.out]; exact List.take_length
    have e2 : (strI xs).take xs.length = strI xs := by rw [← HSL.out]; exact List.take_length
    rw [e1, e2, dotI_str xs is HL.out]; rfl
   go_wp2
   go_ret
   exact ⟨ret_int HX.out, below_drewN HB.out _⟩
end Go.Proofs.YtadlnmckcnfacaaGreat
namespace Go.Rt
open Go.RowKit
end Go.Rt
namespace Go.Proofs.YtadlnmckcnfacaaGreat
open Go.RowKit Go.Rt
variable {P : Program}
end Go.Proofs.YtadlnmckcnfacaaGreat
namespace Go.Proofs.YtadlnmckcnfacaaGreat
open Go.RowKit Go.Rt
theorem Rng.set {B : Nat} {L : List Int} (h : Rng B L) (j d : Nat) (hd : d < B) : Rng B (L.set j (d : Int)) := fun x hx => by
 rcases List.mem_or_eq_of_mem_set hx with h1 | h1
 ·exact h x h1
 ·subst h1; omega
theorem Box2.kept {W W' : World} {b : Nat} {v0 v1 : Value} {row : Option Nat} (h : Box2 W b v0 v1) (hg : W.grownBy W' row) (hr : some b ≠ row) : Box2 W' b v0 v1 := by
 have hl := World.block_lt_of_cell? W _ h.c0
 exact ⟨(hg.cell_far ⟨b, 0, none⟩ hl hr).trans h.c0, (hg.cell_far ⟨b, 1, none⟩ hl hr).trans h.c1, (hg.frozen_far ⟨b, 0, none⟩ hl hr).trans h.f0, (hg.frozen_far ⟨b, 1, none⟩ hl hr).trans h.f1⟩
set_option maxHeartbeats 400000 in
theorem numbers_any (a : Option Addr) (c base : Nat) (xs : List Int) (w : World) (h : w.ownsRow base 3 1 (.slice a xs.length c) xs.length (xs.map (Value.int .i64))) (hn : xs.length ≤ 17592186044415) (hb : base ≤ w.heap.size) :
  Calls Tryz.prog 83 #[.slice a xs.length c] w fun e w' => e = .returned (.tuple #[]) ∧ w.grownBy w' (Value.slice a xs.length c).ownBlock ∧ Below base w w' := by
 obtain ⟨N, hN⟩ : ∃ N, N = xs.length := ⟨_, rfl⟩
 rw [← hN] at h hn ⊢
 have HN := Lib.hid hN
 clear hN
 go_enter Tryz.func83, Tryz.ntmps83
 go_wp2
 go_loopw [2] (fun i wr => ∃ (k : Nat) (ys : List Int), k ≤ N ∧ i = .int .i64 k ∧ wr.ownsRow base 3 1 (.slice a N c) N (ys.map (Value.int .i64)) ∧ w.grownBy wr (Value.slice a N c).ownBlock) (fun i _ => N - (intOf i).toNat)
 case atStart => exact ⟨0, xs, Nat.zero_le _, rfl, h, World.grownBy.refl _ _⟩
 case round =>
  obtain ⟨k, ys, hk, rfl, hown, hgr⟩ := hrel
  by_cases hlt : k < N
  ·obtain ⟨a', c', he, hsh⟩ := own_shape hown
   injection he with he1 he2 he3
   subst he1; subst he3
   obtain ⟨g, rfl, hg1, hg2⟩ := hsh.resolve_left (by omega)
   have hold : wr.cell? ⟨g, k, none⟩ = some (.int .i64 (ys[k]?.getD 0)) := own_cell hown hlt
   have hfr := hown.frozenAt k
   have hst := hown.stored k (.int .i64 (-99))
   have HO : Hid ((wr.setCell ⟨g, k, none⟩ (.int .i64 (-99))).ownsRow base 3 1 (.slice (some ⟨g, 0, none⟩) N c) N ((ys.set k (-99)).map (Value.int .i64))) := by
    have h0 := hst.1
    rw [map_set] at h0
    exact h0
   have HG := Lib.hid (grown_trans hgr hst.2)
   clear hown hgr hst hsh he2 h
   go_wp2
   go_roundw
   case rel => exact ⟨k + 1, _, by omega, by go_num, HO.out, HG.out⟩
   case measure => simp [intOf]; omega
  ·have hke : k = N := by omega
   subst hke
   have HO := Lib.hid hown
   have HG := Lib.hid hgr
   have HL : Hid (∀ j, (Value.slice a k c).ownBlock = some j → base ≤ j) := fun j hj => (h.lt j hj).1
   have hsz := hgr.size
   have hb' : base ≤ wr.heap.size := by omega
   clear hown hgr h
   go_wp2_with (at_builtin; (refine wpl_append1 23 3 .i64 infoInt Tryz.underlying23 base _ k ys 5 _ _ _ rfl rfl rfl HO.out rfl (by omega) hb' ?_); intro v' w1 hown1 hbel1 hg1)
   have HG1 := Lib.hid (grown_trans HG.out hg1)
   clear hown1 hbel1 hg1
   go_end0
   exact ⟨rfl, HG1.out, (Below.refl _ _).grown HG1.out hb HL.out⟩
set_option maxHeartbeats 400000 in
theorem spoilW_any (a : Option Addr) (c base : Nat) (xs : List Int) (w : World) (h : w.ownsRow base 2 1 (.slice a xs.length c) xs.length (xs.map (Value.int .i64))) (hn : xs.length ≤ 17592186044415) (hb : base ≤ w.heap.size) :
  Calls Tryz.prog 84 #[.slice a xs.length c] w fun e w' => e = .returned (.tuple #[]) ∧ w.grownBy w' (Value.slice a xs.length c).ownBlock ∧ Below base w w' := by
 obtain ⟨N, hN⟩ : ∃ N, N = xs.length := ⟨_, rfl⟩
 rw [← hN] at h hn ⊢
 have HN := Lib.hid hN
 clear hN
 go_enter Tryz.func84, Tryz.ntmps84
 go_wp2
 go_loopw [2] (fun i wr => ∃ (k : Nat) (ys : List Int), k ≤ N ∧ i = .int .i64 k ∧ wr.ownsRow base 2 1 (.slice a N c) N (ys.map (Value.int .i64)) ∧ w.grownBy wr (Value.slice a N c).ownBlock) (fun i _ => N - (intOf i).toNat)
 case atStart => exact ⟨0, xs, Nat.zero_le _, rfl, h, World.grownBy.refl _ _⟩
 case round =>
  obtain ⟨k, ys, hk, rfl, hown, hgr⟩ := hrel
  by_cases hlt : k < N
  ·obtain ⟨a', c', he, hsh⟩ := own_shape hown
   injection he with he1 he2 he3
   subst he1; subst he3
   obtain ⟨g, rfl, hg1, hg2⟩ := hsh.resolve_left (by omega)
   have hold : wr.cell? ⟨g, k, none⟩ = some (.int .i64 (ys[k]?.getD 0)) := own_cell hown hlt
   have hfr := hown.frozenAt k
   have hst := hown.stored k (.int .i64 (-9999))
   have HO : Hid ((wr.setCell ⟨g, k, none⟩ (.int .i64 (-9999))).ownsRow base 2 1 (.slice (some ⟨g, 0, none⟩) N c) N ((ys.set k (-9999)).map (Value.int .i64))) := by
    have h0 := hst.1
    rw [map_set] at h0
    exact h0
   have HG := Lib.hid (grown_trans hgr hst.2)
   clear hown hgr hst hsh he2 h
   go_wp2
   go_roundw
   case rel => exact ⟨k + 1, _, by omega, by go_num, HO.out, HG.out⟩
   case measure => simp [intOf]; omega
  ·have hke : k = N := by omega
   subst hke
   have HO := Lib.hid hown
   have HG := Lib.hid hgr
   have HL : Hid (∀ j, (Value.slice a k c).ownBlock = some j → base ≤ j) := fun j hj => (h.lt j hj).1
   have hsz := hgr.size
   have hb' : base ≤ wr.heap.size := by omega
   clear hown hgr h
   go_wp2_with (at_builtin; (refine wpl_append1 24 2 .i64 infoI64 Tryz.underlying24 base _ k ys 5 _ _ _ rfl rfl rfl HO.out rfl (by omega) hb' ?_); intro v' w1 hown1 hbel1 hg1)
   have HG1 := Lib.hid (grown_trans HG.out hg1)
   clear hown1 hbel1 hg1
   go_end0
   exact ⟨rfl, HG1.out, (Below.refl _ _).grown HG1.out hb HL.out⟩
theorem grownR (w : World) (row : Option Nat) : w.grownBy w row := ⟨rfl, rfl, rfl, Nat.le_refl _, fun _ _ _ => rfl⟩
theorem num8_any (e : Int) (w : World) : Calls Tryz.prog 45 #[.int .i64 e] w fun r w' => r = .returned (.int .i64 e) ∧ w = w' := by
 go_enter Tryz.func45, Tryz.ntmps45
 go_wp2
 go_ret
 exact ⟨by first | rfl | simp, rfl⟩
theorem own_intsE {k : IntKind} {w : World} {base c : Nat} {e : TypeId} {a : Option Addr} {xs : List Int} (h : w.ownsRow base e 1 (.slice a xs.length c) xs.length (xs.map (Value.int k))) (hwf : ∀ x ∈ xs, (Lit.int k x).wf = true) : Ints k w w.heap.size a xs := by
 obtain ⟨a2, c2, he, hi⟩ := own_ints h hwf
 simp only [Value.slice.injEq] at he
 obtain ⟨rfl, _, _⟩ := he
 exact hi
theorem ints_nil (w : World) (hi : Nat) : Ints .i64 w hi none [] := ⟨by simp, by simp, fun i h => by simp at h⟩
theorem box2_at (w : World) (v0 v1 : Value) (t : TypeId) : (w.alloc (.cells #[v0, v1] t)).cell? ⟨w.heap.size, 0, none⟩ = some v0 ∧ (w.alloc (.cells #[v0, v1] t)).cell? ⟨w.heap.size, 1, none⟩ = some v1 := by
 have h := BoxL.new w [v0, v1] t
 exact ⟨h.cell 0 _ rfl, h.cell 1 _ rfl⟩
set_option maxRecDepth 100000 in
theorem spoilT2_any (a b : Option Addr) (c d base : Nat) (sh ys : List Int) (w : World) (h : w.ownsRow base 3 1 (.slice a sh.length c) sh.length (sh.map (Value.int .i64))) (h2 : w.ownsRow base 2 1 (.slice b ys.length d) ys.length (ys.map (Value.int .i64))) (hne : ∀ g, (Value.slice a sh.length c).ownBlock = some g → (Value.slice b ys.length d).ownBlock ≠ some g) (hn : sh.length ≤ 100000) (hn2 : ys.length ≤ 100000) (hb : base ≤ w.heap.size) :
  Calls Tryz.prog 46 #[.agg #[.slice a sh.length c, .slice b ys.length d]] w fun e w' => e = .returned (.tuple #[]) ∧ ∃ W1 W2, Below w.heap.size w W1 ∧ W1.grownBy W2 (Value.slice a sh.length c).ownBlock ∧ W2.grownBy w' (Value.slice b ys.length d).ownBlock := by
 go_enter Tryz.func46, Tryz.ntmps46
 have HO := Lib.hid (h.alloc (.cells #[.slice a sh.length c, .slice b ys.length d] 26))
 have HP := Lib.hid (h2.alloc (.cells #[.slice a sh.length c, .slice b ys.length d] 26))
 have HB := Lib.hid ((Below.refl w.heap.size w).alloc (Nat.le_refl _) (.cells #[.slice a sh.length c, .slice b ys.length d] 26))
 have HLT := Lib.hid h.lt
 have HLT2 := Lib.hid h2.lt
 have HNE := Lib.hid hne
 have hbx := box2_at w (.slice a sh.length c) (.slice b ys.length d) 26
 have HX := Lib.hid hbx
 clear h h2 hne hbx
 go_upto_region 1 with fail
 obtain ⟨B, hB⟩ : ∃ x, w.heap.size = x := ⟨_, rfl⟩
 obtain ⟨W1, hW1⟩ : ∃ W1, w.alloc (.cells #[.slice a sh.length c, .slice b ys.length d] 26) = W1 := ⟨_, rfl⟩
 have hs1 : W1.heap.size = B + 1 := by rw [← hW1]; simp [hB]
 rw [hW1] at HO HP HB HX ⊢
 rw [hB] at HX HLT HLT2 hb HB ⊢
 clear hW1
 obtain ⟨x0, x1⟩ := HX.out
 have HC1 := Lib.hid (numbers_any a c base sh W1 HO.out (by omega) (by omega))
 go_upto_region 2 with (go_at_call 83; refine HC1.out.mono ?_; rintro e w2 ⟨rfl, hg, hbl⟩; have HG := Lib.hid hg; have HBL := Lib.hid hbl; clear hg hbl)
 have y1 := HG.out.cell x1 (fun e => by have := HLT.out B e.symm; omega)
 have HP2 := Lib.hid (HP.out.kept HG.out (by
  cases hv : (Value.slice a sh.length c).ownBlock with
  | none => cases hv2 : (Value.slice b ys.length d).ownBlock <;> simp
  | some g => exact .inr (HNE.out g hv)))
 have hsz := HG.out.size
 have HC2 := Lib.hid (spoilW_any b d base ys w2 HP2.out (by omega) (by omega))
 clear x0 x1
 go_wp2_with (go_at_call 84; refine HC2.out.mono ?_; rintro e w3 ⟨rfl, hg, hbl⟩; have HG3 := Lib.hid hg; clear hg hbl)
 go_end0
 exact ⟨rfl, _, _, (by rw [hB]; exact HB.out), HG.out, HG3.out⟩
set_option maxRecDepth 100000 in
set_option maxHeartbeats 1000000 in
theorem copyTen_any (a b : Option Addr) (c d : Nat) (xs ys : List Int) (w : World) (h : Ints .i64 w w.heap.size a xs) (h2 : Ints .i64 w w.heap.size b ys) (hn1 : xs.length ≤ 17592186044415) (hn2 : ys.length ≤ 17592186044415) :
  Calls Tryz.prog 9 #[.agg #[.slice a xs.length c, .slice b ys.length d]] w (RetTO w xs ys) := by
 have H0 := Lib.hid h
 have H1 := Lib.hid h2
 clear h h2
 go_enter Tryz.func9, Tryz.ntmps9
 have F1 := Lib.hid (((Fr.start (w := w) (I := [(.i64, a, xs), (.i64, b, ys)]) (by intro z hz; simp at hz; rcases hz with rfl | rfl; exact H0.out; exact H1.out)).box1 (b := w.heap.size) (by simp) [.slice a xs.length c, .slice b ys.length d] 26).box1 (b := w.heap.size + 1) (by simp) [.slice none 0 0, .slice none 0 0] 26)
 simp only [List.nil_append, List.cons_append] at F1
 go_upto_region 1 with fail
 obtain ⟨W1, hW1⟩ : ∃ W1, ((w.alloc (.cells #[.slice a xs.length c, .slice b ys.length d] 26)).alloc (.cells #[.slice none 0 0, .slice none 0 0] 26)) = W1 := ⟨_, rfl⟩
 rw [hW1] at F1 ⊢
 clear hW1
 have c0_0 := F1.out.c 0 0 rfl rfl
 have c0_1 := F1.out.c 0 1 rfl rfl
 go_upto_region 2 with fail
 obtain ⟨Q, hQ⟩ : ∃ x, W1.heap.size = x := ⟨_, rfl⟩
 rw [hQ]
 have F2 := Lib.hid (F1.out.box1 (b := Q) hQ [.slice a xs.length c, .slice b ys.length d] 26)
 simp only [List.nil_append, List.cons_append] at F2
 obtain ⟨W2, hW2⟩ : ∃ x, (W1.alloc (.cells #[.slice a xs.length c, .slice b ys.length d] 26)) = x := ⟨_, rfl⟩
 rw [hW2] at F2 ⊢
 clear hW2 hQ F1 c0_0 c0_1
 have c0_0 := F2.out.c 0 0 rfl rfl
 have c0_1 := F2.out.c 0 1 rfl rfl
 have c2_0 := F2.out.c 2 0 rfl rfl
 have c2_1 := F2.out.c 2 1 rfl rfl
 have cf2_0 := F2.out.f 2 0 rfl rfl
 have cf2_1 := F2.out.f 2 1 rfl rfl
 go_upto_region 3 with (go_at_call 31; refine (copyNumbers_any a c xs W2 (F2.out.lw 0 rfl) hn1).mono ?_; rintro e w3 ⟨v, rfl, hown, hb⟩; obtain ⟨a3, c3, rfl, _⟩ := own_shape hown; have F3 := Lib.hid (F2.out.addO hb hown); simp only [List.nil_append] at F3; clear hown hb F2 c0_0 c0_1 c2_0 c2_1 cf2_0 cf2_1; have d0_0 := F3.out.c 0 0 rfl rfl; have d0_1 := F3.out.c 0 1 rfl rfl; have d2_0 := F3.out.c 2 0 rfl rfl; have d2_1 := F3.out.c 2 1 rfl rfl; have df2_0 := F3.out.f 2 0 rfl rfl; have df2_1 := F3.out.f 2 1 rfl rfl)
 have F4 := Lib.hid (F3.out.setC 2 0 rfl (by simp) (.slice a3 xs.length c3))
 simp only [List.set_cons_zero, List.set_cons_succ] at F4
 obtain ⟨W4, hW4⟩ : ∃ x, w3.setCell ⟨Q, 0, none⟩ (.slice a3 xs.length c3) = x := ⟨_, rfl⟩
 rw [hW4] at F4 ⊢
 clear hW4 F3 d0_0 d0_1 d2_0 d2_1 df2_0 df2_1
 have c0_0 := F4.out.c 0 0 rfl rfl
 have c0_1 := F4.out.c 0 1 rfl rfl
 have c2_0 := F4.out.c 2 0 rfl rfl
 have c2_1 := F4.out.c 2 1 rfl rfl
 have cf2_0 := F4.out.f 2 0 rfl rfl
 have cf2_1 := F4.out.f 2 1 rfl rfl
 go_upto_region 4 with (go_at_call 32; refine (copyWords_any b d ys W4 (F4.out.lw 1 rfl) hn2).mono ?_; rintro e w5 ⟨v, rfl, hown, hb⟩; obtain ⟨a5, c5, rfl, _⟩ := own_shape hown; have F5 := Lib.hid (F4.out.addO hb hown); simp only [List.nil_append, List.cons_append] at F5; clear hown hb F4 c0_0 c0_1 c2_0 c2_1 cf2_0 cf2_1; have d0_0 := F5.out.c 0 0 rfl rfl; have d0_1 := F5.out.c 0 1 rfl rfl; have d2_0 := F5.out.c 2 0 rfl rfl; have d2_1 := F5.out.c 2 1 rfl rfl; have df2_0 := F5.out.f 2 0 rfl rfl; have df2_1 := F5.out.f 2 1 rfl rfl)
 have F6 := Lib.hid (F5.out.setC 2 1 rfl (by simp) (.slice a5 ys.length c5))
 simp only [List.set_cons_zero, List.set_cons_succ] at F6
 obtain ⟨W6, hW6⟩ : ∃ x, w5.setCell ⟨Q, 1, none⟩ (.slice a5 ys.length c5) = x := ⟨_, rfl⟩
 rw [hW6] at F6 ⊢
 clear hW6 F5 d0_0 d0_1 d2_0 d2_1 df2_0 df2_1
 have c1_0 := F6.out.c 1 0 rfl rfl
 have c1_1 := F6.out.c 1 1 rfl rfl
 have c2_0 := F6.out.c 2 0 rfl rfl
 have c2_1 := F6.out.c 2 1 rfl rfl
 have cf1_0 := F6.out.f 1 0 rfl rfl
 have cf1_1 := F6.out.f 1 1 rfl rfl
 go_wp2
 have FZ := F6.out.set 1 rfl (by simp) [.slice a3 xs.length c3, .slice a5 ys.length c5] rfl
 simp only [setL, Nat.reduceAdd, List.set_cons_zero, List.set_cons_succ] at FZ
 have z0 := FZ.c 1 0 rfl rfl
 have z1 := FZ.c 1 1 rfl rfl
 refine bodyPost_ret (v := .agg #[.slice a3 xs.length c3, .slice a5 ys.length c5]) ?_ rfl ⟨a3, c3, a5, c5, rfl, FZ.rows⟩
 rw [results_cZ rfl]
 go_simp
set_option maxRecDepth 100000 in
set_option maxHeartbeats 1000000 in
theorem is8_any (a b p q : Option Addr) (c d cp cq base : Nat) (sh st ps pt : List Int) (e bad : Int) (w : World) (h : w.ownsRow base 3 1 (.slice a sh.length c) sh.length (sh.map (Value.int .i64))) (h2 : w.ownsRow base 2 1 (.slice b st.length d) st.length (st.map (Value.int .i64))) (hne : ∀ g, (Value.slice a sh.length c).ownBlock = some g → (Value.slice b st.length d).ownBlock ≠ some g) (hn : sh.length ≤ 100000) (hn2 : st.length ≤ 100000) (hb : base ≤ w.heap.size)
  (hw1 : ∀ x ∈ sh, (Lit.int .i64 x).wf = true) (hw2 : ∀ x ∈ st, (Lit.int .i64 x).wf = true) (h3 : Ints .i64 w w.heap.size p ps) (h4 : Ints .i64 w w.heap.size q pt) (he : e = bad) (h0 : bad = 0 → sh = ps ∧ st = pt) (h1 : bad ≠ 0 → sh = [] ∧ st = []) :
  Calls Tryz.prog 11 #[.agg #[.slice a sh.length c, .slice b st.length d], .int .i64 e, .agg #[.slice p ps.length cp, .slice q pt.length cq], .int .i64 bad] w fun r w' => r = .returned (.bool true) ∧ ∃ W1 W2, Below w.heap.size w W1 ∧ W1.grownBy W2 (Value.slice a sh.length c).ownBlock ∧ W2.grownBy w' (Value.slice b st.length d).ownBlock := by
 subst he
 have HO := Lib.hid h
 have HP := Lib.hid h2
 have H3 := Lib.hid h3
 have H4 := Lib.hid h4
 have HNE := Lib.hid hne
 have hi1 := (own_intsE h hw1)
 have hi2 := (own_intsE h2 hw2)
 have HI1 := Lib.hid hi1
 have HI2 := Lib.hid hi2
 clear h h2 h3 h4 hne hw1 hw2 hi1 hi2
 by_cases hz : e = 0
 ·obtain ⟨rfl, rfl⟩ := h0 hz
  subst hz
  clear h0 h1
  have F0 := Lib.hid (Fr.start (w := w) (I := [(.i64, a, sh), (.i64, b, st), (.i64, p, sh), (.i64, q, st)]) (by intro z hz; simp at hz; rcases hz with rfl | rfl | rfl | rfl; exact HI1.out; exact HI2.out; exact H3.out; exact H4.out))
  go_enter Tryz.func11, Tryz.ntmps11
  have F1 := Lib.hid ((F0.out.box1 (b := w.heap.size) rfl [.slice a sh.length c, .slice b st.length d] 26).box1 (b := w.heap.size + 1) (by simp) [.slice p sh.length cp, .slice q st.length cq] 26)
  simp only [List.nil_append, List.cons_append] at F1
  go_upto_region 1 with fail
  obtain ⟨W1, hW1⟩ : ∃ W1, ((w.alloc (.cells #[.slice a sh.length c, .slice b st.length d] 26)).alloc (.cells #[.slice p sh.length cp, .slice q st.length cq] 26)) = W1 := ⟨_, rfl⟩
  rw [hW1] at F1 ⊢
  clear hW1 F0
  have c0_0 := F1.out.c 0 0 rfl rfl
  have c0_1 := F1.out.c 0 1 rfl rfl
  have c1_0 := F1.out.c 1 0 rfl rfl
  have c1_1 := F1.out.c 1 1 rfl rfl
  have hev := eqTensor_any a b p q c d cp cq sh st sh st W1 (F1.out.lw 0 rfl) (F1.out.lw 1 rfl) (F1.out.lw 2 rfl) (F1.out.lw 3 rfl)
  simp only [decide_true, Bool.and_true] at hev
  have HEV := Lib.hid hev
  clear hev
  go_upto_region 4 with (first | (go_at_call 45; refine (num8_any _ _).mono ?_; rintro e w' ⟨rfl, rfl⟩) | (go_at_call 12; refine (HEV.out).mono ?_; rintro e w2 ⟨rfl, hb⟩; have F2 := Lib.hid (F1.out.next hb); clear hb F1 c0_0 c0_1 c1_0 c1_1; have d0_0 := F2.out.c 0 0 rfl rfl; have d0_1 := F2.out.c 0 1 rfl rfl) | fail)
  have HS := Lib.hid (spoilT2_any a b c d base sh st w2 (own_below HO.out F2.out.bel (Nat.le_refl _)) (own_below HP.out F2.out.bel (Nat.le_refl _)) HNE.out hn hn2 (by have := F2.out.hlo; omega))
  go_wp2_with (go_at_call 46; refine HS.out.mono ?_; rintro e w3 ⟨rfl, U1, U2, hb1, hg2, hg3⟩; have G1 := Lib.hid hb1; have G2 := Lib.hid hg2; have G3 := Lib.hid hg3; clear hb1 hg2 hg3)
  go_ret
  exact ⟨rfl, U1, U2, F2.out.bel.trans (G1.out.mono F2.out.hlo), G2.out, G3.out⟩
 ·skip
  obtain ⟨rfl, rfl⟩ := h1 hz
  have hz2 : (e != 0) = true := by simpa using hz
  clear h0 h1
  have F0 := Lib.hid (Fr.start (w := w) (I := [(.i64, a, []), (.i64, b, [])]) (by intro z hz; simp at hz; rcases hz with rfl | rfl; exact HI1.out; exact HI2.out))
  simp only [List.length_nil]
  go_enter Tryz.func11, Tryz.ntmps11
  have F1 := Lib.hid ((F0.out.box1 (b := w.heap.size) rfl [.slice a 0 c, .slice b 0 d] 26).box1 (b := w.heap.size + 1) (by simp) [.slice p ps.length cp, .slice q pt.length cq] 26)
  simp only [List.nil_append, List.cons_append] at F1
  go_upto_region 1 with fail
  obtain ⟨W1, hW1⟩ : ∃ W1, ((w.alloc (.cells #[.slice a 0 c, .slice b 0 d] 26)).alloc (.cells #[.slice p ps.length cp, .slice q pt.length cq] 26)) = W1 := ⟨_, rfl⟩
  rw [hW1] at F1 ⊢
  clear hW1 F0
  have c0_0 := F1.out.c 0 0 rfl rfl
  have c0_1 := F1.out.c 0 1 rfl rfl
  have c1_0 := F1.out.c 1 0 rfl rfl
  have c1_1 := F1.out.c 1 1 rfl rfl
  have hev := eqTensor_any a b none none c d 0 0 [] [] [] [] W1 (F1.out.lw 0 rfl) (F1.out.lw 1 rfl) (ints_nil _ _) (ints_nil _ _)
  simp only [decide_true, Bool.and_true, List.length_nil] at hev
  have HEV := Lib.hid hev
  clear hev
  go_wp2_with (first | (go_at_call 45; refine (num8_any _ _).mono ?_; rintro e w' ⟨rfl, rfl⟩) | (go_at_call 12; refine (HEV.out).mono ?_; rintro e w2 ⟨rfl, hb⟩; have F2 := Lib.hid (F1.out.next hb); clear hb F1) | fail)
  go_ret
  exact ⟨rfl, _, _, F2.out.bel, grownR _ _, grownR _ _⟩
end Go.Proofs.YtadlnmckcnfacaaGreat
