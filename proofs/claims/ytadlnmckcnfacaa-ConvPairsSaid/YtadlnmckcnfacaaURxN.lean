import Derived.Test.YtadlnmckcnfacaaRows
import Derived.Test.YtadlnmckcnfacaaURxN2
import Derived.BigQuiet
import Derived.BigRegion
import Derived.ChangeKeysEq
import Derived.Deep.Cut
import Derived.Deep.CutBlock
import Derived.Deep.CutRange
import Derived.Deep.RegionHeld3
import Derived.Deep.RegionWith
import Derived.Laws.BitsAllLaws
import Derived.Laws.BitsLemmas
import Derived.Laws.Externs
import Derived.Lib.BitFns
import Derived.Lib.Slices
import Derived.Lib.Small
import Derived.Lib.Strings
import Derived.Lib.Walk
import Derived.Shelf.Spec.BitsCarry
import Derived.Sort.AtCall
import Derived.WalkMore
set_option linter.unusedVariables false
set_option linter.unusedSimpArgs false
namespace Go.Proofs.Ytadlnmckcnfacaa
open Go.RowKit Go.Rt
set_option maxRecDepth 100000
attribute [local go_sem] run_add run_subI
theorem pow_pos (n : Nat) : 1 ≤ (2 : Int) ^ n := by rw [← castPow]; have := Nat.two_pow_pos n; omega
end Go.Proofs.Ytadlnmckcnfacaa
namespace Go.Proofs.Ytadlnmckcnfacaa
open Go.RowKit Go.Rt
def sgnI (x : Int) : Int := if x < 0 then -1 else if x = 0 then 0 else 1
theorem abs_len0 (x : Int) : (dig 18446744073709551616 x.natAbs).length = 0 ↔ x = 0 := by rw [dig_len_zero (by decide)]; omega
theorem zsign_any (a : Option Addr) (c : Nat) (x : Int) (w : World) : Calls Try.prog 58 #[.agg #[.bool (decide (x < 0)), .slice a (dig 18446744073709551616 x.natAbs).length c]] w fun e w' => e = .returned (.int .i64 (sgnI x)) ∧ Below w.heap.size w w' := by
 have hl := abs_len0 x
 by_cases h : x < 0
 ·have HS := Lib.hid (show sgnI x = -1 by unfold sgnI; rw [if_pos h])
  rw [decide_eq_true h]
  clear h hl
  go_enter Try.func58, Try.ntmps58
  go_wp2
  go_ret
  exact ⟨by rw [HS.out]; rfl, (by (repeat' (first | exact Below.refl _ _ | refine Below.drew ?_ | refine Below.setCell ?_ (by first | omega | (simp <;> omega)) _ | refine Below.alloc ?_ (by first | omega | (simp <;> omega)) _)))⟩
 ·rw [decide_eq_false h]
  by_cases h0 : x = 0
  ·have HS := Lib.hid (show sgnI x = 0 by subst h0; rfl)
   have e1 : ¬ (0 : Int) < ((dig 18446744073709551616 x.natAbs).length : Int) := by have := hl.2 h0; omega
   clear h hl h0
   go_enter Try.func58, Try.ntmps58
   go_wp2
   go_ret
   exact ⟨by rw [HS.out]; rfl, (by (repeat' (first | exact Below.refl _ _ | refine Below.drew ?_ | refine Below.setCell ?_ (by first | omega | (simp <;> omega)) _ | refine Below.alloc ?_ (by first | omega | (simp <;> omega)) _)))⟩
  ·have HS := Lib.hid (show sgnI x = 1 by unfold sgnI; rw [if_neg h, if_neg h0])
   have e1 : (0 : Int) < ((dig 18446744073709551616 x.natAbs).length : Int) := by have := fun h => h0 (hl.1 h); omega
   clear h hl h0
   go_enter Try.func58, Try.ntmps58
   go_wp2
   go_ret
   exact ⟨by rw [HS.out]; rfl, (by (repeat' (first | exact Below.refl _ _ | refine Below.drew ?_ | refine Below.setCell ?_ (by first | omega | (simp <;> omega)) _ | refine Below.alloc ?_ (by first | omega | (simp <;> omega)) _)))⟩
set_option maxHeartbeats 1000000 in
theorem zcmp_any (a b : Option Addr) (c d : Nat) (x y z : Int) (w : World) (h : NAt w w.heap.size a c x.natAbs) (h' : NAt w w.heap.size b d y.natAbs) (hx : (dig 18446744073709551616 x.natAbs).length ≤ 1000000) (hy : (dig 18446744073709551616 y.natAbs).length ≤ 1000000) (hz : x - y = z) :
  Calls Try.prog 21 #[.agg #[.bool (decide (x < 0)), .slice a (dig 18446744073709551616 x.natAbs).length c], .agg #[.bool (decide (y < 0)), .slice b (dig 18446744073709551616 y.natAbs).length d]] w fun e w' => e = .returned (.int .i64 (sgnI z)) ∧ Below w.heap.size w w' := by
 have HL := fun w' (hb : Below w.heap.size w w') => Lib.hid (zless_any a b c d x y z w' (h.next hb) (h'.next hb) hx hy hz)
 have HS := fun a c w' => Lib.hid (zsign_any a c z w')
 clear h h' hz
 generalize decide (x < 0) = s at *
 generalize decide (y < 0) = t at *
 generalize sgnI z = g at *
 generalize dig 18446744073709551616 x.natAbs = X at *
 generalize dig 18446744073709551616 y.natAbs = Y at *
 go_enter Try.func21, Try.ntmps21
 go_wp2_with (first | (go_at_call 59; refine (HL _ (by (repeat' (first | exact Below.refl _ _ | refine Below.drew ?_ | refine Below.setCell ?_ (by first | omega | (simp <;> omega)) _ | refine Below.alloc ?_ (by first | omega | (simp <;> omega)) _)))).out.mono ?_; rintro e w5 ⟨a5, c5, rfl, _, hb5⟩) | (go_at_call 58; refine (HS _ _ _).out.mono ?_; rintro e w6 ⟨rfl, hb6⟩))
 go_ret
 exact ⟨rfl, Below.trans (Below.trans (by (repeat' (first | exact Below.refl _ _ | refine Below.drew ?_ | refine Below.setCell ?_ (by first | omega | (simp <;> omega)) _ | refine Below.alloc ?_ (by first | omega | (simp <;> omega)) _))) (hb5.mono (by first | omega | (simp <;> omega)))) (hb6.mono (by have h5 := hb5.size; (try simp at h5); omega))⟩
end Go.Proofs.Ytadlnmckcnfacaa
namespace Go.Proofs.Ytadlnmckcnfacaa
open Go.RowKit Go.Rt
set_option maxRecDepth 100000
end Go.Proofs.Ytadlnmckcnfacaa
