/- Walks: the decimals of numbers with a sign, and of wide numbers. -/
import Derived.Test.YtlbmpdidmckgkaaN20
import Derived.Test.YtlbmpdidmckgkaaDiv5
import Derived.Test.YtlbmpdidmckgkaaN13
import Derived.Deep.LoopGhost
import Derived.BigQuiet
import Derived.WalkMore
import Derived.Deep.RegionHeld3
import Derived.Deep.RegionWith
import Derived.BigRegion
import Derived.Deep.Cut
import Derived.Deep.CutBlock
import Derived.Deep.CutRange
set_option linter.unusedVariables false
set_option linter.unusedSimpArgs false
namespace Go.Proofs.Ytlbmpdidmckgkaa
open Go.RowKit Go.Rt

theorem str_join (a b : List UInt8) : (⟨a.toArray⟩ : ByteArray) ++ ⟨b.toArray⟩ = ⟨(a ++ b).toArray⟩ := by
  apply ByteArray.ext
  simp [ByteArray.data_append]
theorem txtN_len {m K : Nat} (h : m < 2 ^ K) : (txtN m).length ≤ K + 1 := by
  unfold txtN
  split
  · simp
  · rw [List.length_reverse, List.length_map]
    refine Nat.le_trans (dig_len_le (by decide) K m (Nat.lt_of_lt_of_le h (Nat.pow_le_pow_left (by decide) K))) (by omega)
set_option maxHeartbeats 8000000 in
theorem ztext_any (a : Option Addr) (c K : Nat) (x : Int) (w : World) (h : NAt w w.heap.size a c x.natAbs) (hK : K ≤ 1000000) (hx : x.natAbs < 2 ^ K) :
    Calls Try.prog 40 #[.agg #[.bool (decide (x < 0)), .slice a (dig 18446744073709551616 x.natAbs).length c]] w fun e w' => e = .returned (txt (txtZ x)) ∧ Below w.heap.size w w' := by
  have HT := fun w' (hb : Below w.heap.size w w') => Lib.hid (ntext_any a c x.natAbs K w' (h.next hb) hK hx)
  have hxl := hx
  clear h hx
  by_cases hn : x < 0
  · have HZ := Lib.hid (show txtZ x = 45 :: txtN x.natAbs by unfold txtZ; rw [if_pos hn])
    rw [decide_eq_true hn]
    clear hn
    generalize dig 18446744073709551616 x.natAbs = X at *
    have hTl := txtN_len hxl
    generalize txtN x.natAbs = T at *
    have hT1 : 1 + T.length ≤ 9223372036854775807 := by omega
    have hT2 : T.length + 1 ≤ 9223372036854775807 := by omega
    go_enter Try.func40, Try.ntmps40
    unfold txt at HT
    go_wp2_with (go_at_call 68; refine (HT _ (by (repeat' (first | exact Below.refl _ _ | refine Below.drew ?_ | refine Below.setCell ?_ (by first | omega | (simp <;> omega)) _ | refine Below.alloc ?_ (by first | omega | (simp <;> omega)) _)))).out.mono ?_; rintro e w4 ⟨rfl, hb4⟩; have HB4 : Hid (Below w.heap.size w w4) := Lib.hid (Below.trans (by (repeat' (first | exact Below.refl _ _ | refine Below.drew ?_ | refine Below.setCell ?_ (by first | omega | (simp <;> omega)) _ | refine Below.alloc ?_ (by first | omega | (simp <;> omega)) _))) (hb4.mono (by first | omega | (simp <;> omega)))); clear hb4)
    go_ret
    exact ⟨by rw [HZ.out]; unfold txt; exact congrArg (fun s => Ending.returned (Value.string s)) (str_join [45] _), HB4.out⟩
  · have HZ := Lib.hid (show txtZ x = txtN x.natAbs by unfold txtZ; rw [if_neg hn])
    rw [decide_eq_false hn]
    clear hn
    generalize dig 18446744073709551616 x.natAbs = X at *
    generalize txtN x.natAbs = T at *
    go_enter Try.func40, Try.ntmps40
    unfold txt at HT
    go_wp2_with (go_at_call 68; refine (HT _ (by (repeat' (first | exact Below.refl _ _ | refine Below.drew ?_ | refine Below.setCell ?_ (by first | omega | (simp <;> omega)) _ | refine Below.alloc ?_ (by first | omega | (simp <;> omega)) _)))).out.mono ?_; rintro e w4 ⟨rfl, hb4⟩; have HB4 : Hid (Below w.heap.size w w4) := Lib.hid (Below.trans (by (repeat' (first | exact Below.refl _ _ | refine Below.drew ?_ | refine Below.setCell ?_ (by first | omega | (simp <;> omega)) _ | refine Below.alloc ?_ (by first | omega | (simp <;> omega)) _))) (hb4.mono (by first | omega | (simp <;> omega)))); clear hb4)
    go_ret
    exact ⟨by rw [HZ.out]; rfl, HB4.out⟩
end Go.Proofs.Ytlbmpdidmckgkaa
