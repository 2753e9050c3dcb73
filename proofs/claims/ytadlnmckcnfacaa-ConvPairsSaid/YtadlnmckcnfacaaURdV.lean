import Derived.Test.YtadlnmckcnfacaaRows
import Derived.Test.YtadlnmckcnfacaaURdN
import Derived.Test.YtadlnmckcnfacaaUPartsIn
import Derived.Test.YtadlnmckcnfacaaUPartsL
import Derived.Test.YtadlnmckcnfacaaUTakeL
import Derived.Below
import Derived.BigQuiet
import Derived.BigRegion
import Derived.Deep.AppendLies
import Derived.Deep.Cut
import Derived.Deep.CutBlock
import Derived.Deep.CutRange
import Derived.Deep.LoopGhost
import Derived.Deep.QuietTactic
import Derived.Deep.RegionHeld3
import Derived.Deep.RegionWith
import Derived.Laws.Cover3
import Derived.Lib.BufferWrite
import Derived.LoopIn
import Derived.LoopNIn
import Derived.OwnWalkIn
import Derived.RangeFuncBound
import Derived.RangeFuncBox
import Derived.RangeFuncCalls
import Derived.RangeFuncFrom
import Derived.RangeFuncLeaves
import Derived.RangeFuncNested
import Derived.Shelf.Abstract
import Derived.Shelf.RegionOpen
import Derived.Sort.AtCall
import Derived.Sort.CutIn
import Derived.Sort.LoopGhostIn
import Derived.Sort.OwnSorted
import Derived.TacticsInMore
import Derived.WalkMore
import Derived.WalkSmall
set_option linter.unusedVariables false
set_option linter.unusedSimpArgs false
namespace Go.Proofs.Ytadlnmckcnfacaa
open Go.RowKit Go.Rt
theorem take_ne {xs ys : List Int} (k : Nat) (h1 : k < xs.length) (h2 : k < ys.length) (hne : xs[k] ≠ ys[k]) : xs ≠ ys := by
 intro e; subst e; exact hne rfl
set_option maxHeartbeats 400000 in
theorem eqNumbers_any (a a2 : Option Addr) (c c2 hi : Nat) (xs ys : List Int) (w : World) (h : Ints .i64 w hi a xs) (h2 : Ints .i64 w hi a2 ys) :
  Calls Try.prog 17 #[.slice a xs.length c, .slice a2 ys.length c2] w fun e w' => e = .returned (.bool (decide (xs = ys))) ∧ ∃ q, w' = w.drewN q := by
 obtain ⟨hm, _, hc⟩ := h
 obtain ⟨hm2, _, hc2⟩ := h2
 by_cases hl : xs.length = ys.length
 ·have hl1 : ((xs.length : Int) == (ys.length : Int)) = true := by simp; omega
  have hl2 : ((xs.length : Int) != (ys.length : Int)) = false := by simp; omega
  have HL := Lib.hid hl
  clear hl
  go_enter Try.func17, Try.ntmps17
  go_wp2
  go_loopw [5] (fun i wr => ∃ k : Nat, k ≤ xs.length ∧ i = .int .i64 k ∧ xs.take k = ys.take k ∧ ∃ q, wr = w.drewN q) (fun i _ => xs.length - (intOf i).toNat)
  case atStart => exact ⟨0, Nat.zero_le _, rfl, rfl, 0, rfl⟩
  case round =>
   obtain ⟨k, hk, rfl, htk, q, rfl⟩ := hrel
   have HT := Lib.hid htk
   clear htk
   by_cases hlt : k < xs.length
   ·have hlt2 : k < ys.length := by have := HL.out; omega
    obtain ⟨b, off, rfl, _, hcell⟩ := hc k hlt
    obtain ⟨b2, off2, rfl, _, hcell2⟩ := hc2 k hlt2
    clear hc hc2
    rw [List.getElem?_eq_getElem hlt] at hcell
    rw [List.getElem?_eq_getElem hlt2] at hcell2
    simp only [Option.getD_some] at hcell hcell2
    by_cases he : xs[k] = ys[k]
    ·have he1 : (xs[k] == ys[k]) = true := by simp [he]
     have he2 : (xs[k] != ys[k]) = false := by simp [he]
     have HE := Lib.hid he
     clear he
     go_wp2
     go_quiet (fail)
     go_wp2
     go_roundw
     case rel => exact ⟨k + 1, by omega, by go_num, by rw [take_snoc _ _ hlt, take_snoc _ _ hlt2, HT.out, HE.out], _, by first | rfl | exact World.drewN_drewN _ _ _⟩
     case measure => simp [intOf]; omega
    ·have he1 : (xs[k] == ys[k]) = false := by simp [he]
     have he2 : (xs[k] != ys[k]) = true := by simp [he]
     have HE := Lib.hid (take_ne k hlt hlt2 he)
     clear he
     go_wp2
     go_quiet (fail)
     go_wp2
     go_ret
     exact ⟨ret_bool (by simp [HE.out]), _, by first | rfl | exact World.drewN_drewN _ _ _⟩
   ·have hke : k = xs.length := by omega
    subst hke
    have HX : Hid (xs = ys) := by
     have := HT.out
     rw [List.take_length, HL.out, List.take_length] at this
     exact this
    go_wp2
    go_ret
    exact ⟨ret_bool (by simp [HX.out]), _, rfl⟩
 ·have hl1 : ((xs.length : Int) == (ys.length : Int)) = false := by simp; omega
  have hl2 : ((xs.length : Int) != (ys.length : Int)) = true := by simp; omega
  have HX : Hid (¬ xs = ys) := fun e => hl (by rw [e])
  clear hl
  go_enter Try.func17, Try.ntmps17
  go_wp2
  go_ret
  exact ⟨ret_bool (by simp [HX.out]), 0, rfl⟩
set_option maxHeartbeats 400000 in
theorem eqWords_any (a a2 : Option Addr) (c c2 hi : Nat) (xs ys : List Int) (w : World) (h : Ints .i64 w hi a xs) (h2 : Ints .i64 w hi a2 ys) :
  Calls Try.prog 12 #[.slice a xs.length c, .slice a2 ys.length c2] w fun e w' => e = .returned (.bool (decide (xs = ys))) ∧ ∃ q, w' = w.drewN q := by
 obtain ⟨hm, _, hc⟩ := h
 obtain ⟨hm2, _, hc2⟩ := h2
 by_cases hl : xs.length = ys.length
 ·have hl1 : ((xs.length : Int) == (ys.length : Int)) = true := by simp; omega
  have hl2 : ((xs.length : Int) != (ys.length : Int)) = false := by simp; omega
  have HL := Lib.hid hl
  clear hl
  go_enter Try.func12, Try.ntmps12
  go_wp2
  go_loopw [5] (fun i wr => ∃ k : Nat, k ≤ xs.length ∧ i = .int .i64 k ∧ xs.take k = ys.take k ∧ ∃ q, wr = w.drewN q) (fun i _ => xs.length - (intOf i).toNat)
  case atStart => exact ⟨0, Nat.zero_le _, rfl, rfl, 0, rfl⟩
  case round =>
   obtain ⟨k, hk, rfl, htk, q, rfl⟩ := hrel
   have HT := Lib.hid htk
   clear htk
   by_cases hlt : k < xs.length
   ·have hlt2 : k < ys.length := by have := HL.out; omega
    obtain ⟨b, off, rfl, _, hcell⟩ := hc k hlt
    obtain ⟨b2, off2, rfl, _, hcell2⟩ := hc2 k hlt2
    clear hc hc2
    rw [List.getElem?_eq_getElem hlt] at hcell
    rw [List.getElem?_eq_getElem hlt2] at hcell2
    simp only [Option.getD_some] at hcell hcell2
    by_cases he : xs[k] = ys[k]
    ·have he1 : (xs[k] == ys[k]) = true := by simp [he]
     have he2 : (xs[k] != ys[k]) = false := by simp [he]
     have HE := Lib.hid he
     clear he
     go_wp2
     go_quiet (fail)
     go_wp2
     go_roundw
     case rel => exact ⟨k + 1, by omega, by go_num, by rw [take_snoc _ _ hlt, take_snoc _ _ hlt2, HT.out, HE.out], _, by first | rfl | exact World.drewN_drewN _ _ _⟩
     case measure => simp [intOf]; omega
    ·have he1 : (xs[k] == ys[k]) = false := by simp [he]
     have he2 : (xs[k] != ys[k]) = true := by simp [he]
     have HE := Lib.hid (take_ne k hlt hlt2 he)
     clear he
     go_wp2
     go_quiet (fail)
     go_wp2
     go_ret
     exact ⟨ret_bool (by simp [HE.out]), _, by first | rfl | exact World.drewN_drewN _ _ _⟩
   ·have hke : k = xs.length := by omega
    subst hke
    have HX : Hid (xs = ys) := by
     have := HT.out
     rw [List.take_length, HL.out, List.take_length] at this
     exact this
    go_wp2
    go_ret
    exact ⟨ret_bool (by simp [HX.out]), _, rfl⟩
 ·have hl1 : ((xs.length : Int) == (ys.length : Int)) = false := by simp; omega
  have hl2 : ((xs.length : Int) != (ys.length : Int)) = true := by simp; omega
  have HX : Hid (¬ xs = ys) := fun e => hl (by rw [e])
  clear hl
  go_enter Try.func12, Try.ntmps12
  go_wp2
  go_ret
  exact ⟨ret_bool (by simp [HX.out]), 0, rfl⟩
theorem stepApp1 {ops : Array Oper} {o : Oper} {a : Act} {w : World} {K : Act → World → Prop} {Q : Exit → Act → World → Prop} {E' : Prop} (T E : TypeId)
  (hinf : (Try.prog.info? E).map (fun i => (i.zero, i.size, i.bytes)) = some (some (.int .i64 0), 1, 8)) (hu : Try.prog.underlying T = some (.slice E))
  (base : Nat) (v : Value) (n : Nat) (xs : List Int) (y : Int) (cap : Nat) (ad : Addr) (s x : Operand) (hg : o.guard = none) (ho : o.op = .call { callee := .builtin .append, args := #[s, x], argTypes := #[T, T] })
  (hs : a.eval s = v) (hown : w.ownsRow base E 1 v n (xs.map (Value.int .i64))) (hx : a.eval x = .slice (some ad) 1 cap) (hc : w.cell? ad = some (.int .i64 y)) (hn : n ≤ 1000000) (hb : base ≤ w.heap.size)
  (hK : ∀ g cap' w', w'.ownsRow base E 1 (.slice (some ⟨g, 0, none⟩) (n + 1) cap') (n + 1) ((xs ++ [y]).map (Value.int .i64)) → w.grownBy w' v.ownBlock → (v.ownBlock = some g ∨ g = w.heap.size) → K (a.put o.dst (.slice (some ⟨g, 0, none⟩) (n + 1) cap')) w') :
  if Region.wanted o (yielded ops a.tmps) = true then Oper.wp Try.prog o a w K Q else E' := by
 obtain ⟨i, hi, hz0, hz1, hz2⟩ := info_parts hinf
 refine step_append_lies w hg s x T ho base E i (.int .i64 0) 1 8 hu hi hz0 hz1 hz2 rfl (by decide) v n _ hs hown ad 1 cap [.int .i64 y] hx rfl (fun j u hj => ?_) (by simp [Value.oneCell']) (by decide) (by unfold maxLen; omega) (by omega) hb _ rfl ?_
 ·cases j with
  | zero =>
   simp at hj
   subst hj
   have : ad.add 0 = ad := by cases ad; rfl
   rw [this]
   exact hc
  | succ j => simp at hj
 ·intro g cap' w' h1 h2 h3 _
  exact hK g cap' w' (by rw [List.map_append]; exact h1) h2 h3
theorem ints_row {W : World} {base : Nat} {e : TypeId} {a : Option Addr} {n c : Nat} {xs : List Int} (h : W.ownsRow base e 1 (.slice a n c) n (xs.map (Value.int .i64))) (hl : xs.length = n) (hwf : ∀ x ∈ xs, (Lit.int .i64 x).wf = true) : Ints .i64 W W.heap.size a xs := by
 subst hl
 obtain ⟨a2, c2, he, hi⟩ := own_ints h hwf
 simp only [Value.slice.injEq] at he
 rw [he.1]
 exact hi
def IsOne (x : Int) (u : Value) (W : World) : Prop := ∃ g cap, u = .slice (some ⟨g, 0, none⟩) 1 cap ∧ W.cell? ⟨g, 0, none⟩ = some (.int .i64 x)
theorem isOne_carries (x : Int) : Carries (IsOne x) := fun u w w' ⟨g, cap, h1, h2⟩ hb => ⟨g, cap, h1, (hb.cell (p := ⟨g, 0, none⟩) (World.block_lt_of_cell? w _ h2)).trans h2⟩
theorem oneNew (w : World) (x : Int) (t : TypeId) : (w.alloc (.cells #[.int .i64 x] t)).cell? ⟨w.heap.size, 0, none⟩ = some (.int .i64 x) := by
 simp
theorem Rng.set {B : Nat} {L : List Int} (h : Rng B L) (j d : Nat) (hd : d < B) : Rng B (L.set j (d : Int)) := fun x hx => by
 rcases List.mem_or_eq_of_mem_set hx with h1 | h1
 ·exact h x h1
 ·subst h1; omega
end Go.Proofs.Ytadlnmckcnfacaa
