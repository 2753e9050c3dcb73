import Derived.Test.YtadlnmckcnfacaaUCoQ
import Derived.Test.YtadlnmckcnfacaaUCoJ
import Derived.Test.YtadlnmckcnfacaaUCoV
import Derived.Test.YtadlnmckcnfacaaURdV
import Derived.BigQuiet
import Derived.Deep.Cut
import Derived.Deep.CutBlock
import Derived.Deep.CutRange
import Derived.Deep.QuietTactic
import Derived.Deep.RegionHeld3
import Derived.Deep.RegionLaw
import Derived.Deep.RegionWith
import Derived.Laws.Cover3
import Derived.WalkMore
set_option linter.unusedVariables false
set_option linter.unusedSimpArgs false
namespace Go.Proofs.Ytadlnmckcnfacaa
open Go.RowKit Go.Rt
theorem OwnB.shape {w : World} {base mid : Nat} {e : TypeId} {a : Option Addr} {n c : Nat} {xs : List Value} (h : OwnB w base mid e (.slice a n c) n xs) : n = 0 ∨ ∃ g, a = some ⟨g, 0, none⟩ ∧ base ≤ g := by
 obtain ⟨a', c', he, hh⟩ := own_shape h.own
 cases he
 exact hh.imp id (fun ⟨g, h1, h2, _⟩ => ⟨g, h1, h2⟩)
set_option maxHeartbeats 1000000 in
set_option maxHeartbeats 400000 in
theorem slicesEqual_any (a a2 : Option Addr) (c c2 hi : Nat) (xs ys : List Int) (w : World) (h : Ints .i64 w hi a xs) (h2 : Ints .i64 w hi a2 ys) :
  Calls Try.prog 48 #[.slice a xs.length c, .slice a2 ys.length c2] w fun e w' => e = .returned (.bool (decide (xs = ys))) ∧ ∃ q, w' = w.drewN q := by
 obtain ⟨hm, _, hc⟩ := h
 obtain ⟨hm2, _, hc2⟩ := h2
 by_cases hl : xs.length = ys.length
 ·have hl1 : ((xs.length : Int) == (ys.length : Int)) = true := by simp; omega
  have hl2 : ((xs.length : Int) != (ys.length : Int)) = false := by simp; omega
  have HL := Lib.hid hl
  clear hl
  go_enter Try.func48, Try.ntmps48
  go_wp2
  go_loopw [13] (fun i wr => ∃ k : Nat, k ≤ xs.length ∧ i = .int .i64 k ∧ xs.take k = ys.take k ∧ ∃ q, wr = w.drewN q) (fun i _ => xs.length - (intOf i).toNat)
  case atStart => exact ⟨0, Nat.zero_le _, rfl, rfl, 0, rfl⟩
  case round =>
   obtain ⟨k, hk, rfl, htk, q, rfl⟩ := hrel
   have HT := Lib.hid htk
   clear htk
   by_cases hlt : k < xs.length
   ·have hlt2 : k < ys.length := by have := HL.out; omega
    obtain ⟨b, off, rfl, _, hcell⟩ := hc k hlt
    obtain ⟨b2, off2, rfl, _, hcell2⟩ := hc2 k hlt2
    clear hc hc2
    rw [List.getElem?_eq_getElem hlt] at hcell
    rw [List.getElem?_eq_getElem hlt2] at hcell2
    simp only [Option.getD_some] at hcell hcell2
    by_cases he : xs[k] = ys[k]
    ·have he1 : (xs[k] == ys[k]) = true := by simp [he]
     have he2 : (xs[k] != ys[k]) = false := by simp [he]
     have HE := Lib.hid he
     clear he
     go_wp2
     go_quiet (fail)
     go_wp2
     go_roundw
     case rel => exact ⟨k + 1, by omega, by go_num, by rw [take_snoc _ _ hlt, take_snoc _ _ hlt2, HT.out, HE.out], _, by first | rfl | exact World.drewN_drewN _ _ _⟩
     case measure => simp [intOf]; omega
    ·have he1 : (xs[k] == ys[k]) = false := by simp [he]
     have he2 : (xs[k] != ys[k]) = true := by simp [he]
     have HE := Lib.hid (take_ne k hlt hlt2 he)
     clear he
     go_wp2
     go_quiet (fail)
     go_wp2
     go_ret
     exact ⟨ret_bool (by simp [HE.out]), _, by first | rfl | exact World.drewN_drewN _ _ _⟩
   ·have hke : k = xs.length := by omega
    subst hke
    have HX : Hid (xs = ys) := by
     have := HT.out
     rw [List.take_length, HL.out, List.take_length] at this
     exact this
    go_wp2
    go_ret
    exact ⟨ret_bool (by simp [HX.out]), _, rfl⟩
 ·have hl1 : ((xs.length : Int) == (ys.length : Int)) = false := by simp; omega
  have hl2 : ((xs.length : Int) != (ys.length : Int)) = true := by simp; omega
  have HX : Hid (¬ xs = ys) := fun e => hl (by rw [e])
  clear hl
  go_enter Try.func48, Try.ntmps48
  go_wp2
  go_ret
  exact ⟨ret_bool (by simp [HX.out]), 0, rfl⟩
theorem Ten.next {w w' : World} {a b : Option Addr} {c d : Nat} {xs ys : List Int} (h : Ten w w.heap.size a c b d xs ys) (hb : Below w.heap.size w w') : Ten w' w'.heap.size a c b d xs ys :=
 (h.below hb (Nat.le_refl _)).mono hb.size
structure Fill (W wr : World) (mid Q g d N : Nat) (v0 v1 : Value) (xs : List Int) : Prop where
 sz : W.heap.size ≤ wr.heap.size
 bel : Below mid W wr
 row : wr.ownsRow mid 2 1 (.slice (some ⟨g, 0, none⟩) N d) N (xs.map (Value.int .i64))
 box : Box2 wr Q v0 v1
theorem Fill.lt {W wr : World} {mid Q g d N : Nat} {v0 v1 : Value} {xs : List Int} (h : Fill W wr mid Q g d N v0 v1 xs) : mid ≤ g ∧ g < wr.heap.size := h.row.lt g rfl
theorem Fill.ltQ {W wr : World} {mid Q g d N : Nat} {v0 v1 : Value} {xs : List Int} (h : Fill W wr mid Q g d N v0 v1 xs) : Q < wr.heap.size := World.block_lt_of_cell? wr _ h.box.c0
theorem Fill.next {W wr w' : World} {mid Q g d N : Nat} {v0 v1 : Value} {xs : List Int} (h : Fill W wr mid Q g d N v0 v1 xs) (hb : Below wr.heap.size wr w') : Fill W w' mid Q g d N v0 v1 xs :=
 ⟨Nat.le_trans h.sz hb.size, h.bel.trans (hb.mono (Nat.le_of_lt (Nat.lt_of_le_of_lt h.lt.1 h.lt.2))), own_below h.row hb (Nat.le_refl _), h.box.below hb h.ltQ⟩
theorem Fill.set {W wr : World} {mid Q g d N : Nat} {v0 v1 : Value} {xs : List Int} (h : Fill W wr mid Q g d N v0 v1 xs) (j : Nat) (x : Int) (hQ : Q ≠ g) : Fill W (wr.setCell ⟨g, j, none⟩ (.int .i64 x)) mid Q g d N v0 v1 (xs.set j x) := by
 refine ⟨by simpa using h.sz, h.bel.setCell h.lt.1 _, ?_, ?_⟩
 ·have := (h.row.stored j (.int .i64 x)).1
  rwa [map_set] at this
 ·obtain ⟨c0, c1, f0, f1⟩ := h.box
  constructor <;> go_simp
theorem Fill.cell {W wr : World} {mid Q g d N : Nat} {v0 v1 : Value} {xs : List Int} (h : Fill W wr mid Q g d N v0 v1 xs) (j : Nat) (hj : j < N) : wr.cell? ⟨g, j, none⟩ = some (.int .i64 (xs[j]?.getD 0)) ∧ wr.frozen? ⟨g, j, none⟩ = false :=
 ⟨own_cell h.row hj, h.row.frozenAt j⟩
end Go.Proofs.Ytadlnmckcnfacaa
