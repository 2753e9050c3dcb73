/- Walks of the references' whole numbers with a sign: is it an int64? -/
import Derived.Test.YtddhhfhammmaaaaGreatN13
import Derived.WalkMore
import Derived.Deep.RegionHeld3
import Derived.Deep.RegionWith
import Derived.BigRegion
import Derived.Deep.Cut
import Derived.Deep.CutBlock
import Derived.Deep.CutRange
set_option linter.unusedVariables false
set_option linter.unusedSimpArgs false
namespace Go.Proofs.YtddhhfhammmaaaaGreat
open Go.RowKit Go.Rt

def smallZ (z : Int) : Bool := decide (-9223372036854775808 ≤ z) && decide (z ≤ 9223372036854775807)
theorem dig_one {m : Nat} (h0 : m ≠ 0) (h1 : m < 18446744073709551616) : dig 18446744073709551616 m = [(m : Int)] := by
  rw [dig_pos (by decide) h0, Nat.mod_eq_of_lt h1, Nat.div_eq_of_lt h1, dig_zero]
theorem dig_more {m : Nat} (h1 : 18446744073709551616 ≤ m) : 1 < (dig 18446744073709551616 m).length := by
  have h := lt_dig_len (B := 18446744073709551616) (by decide) m
  by_cases hc : 1 < (dig 18446744073709551616 m).length
  · exact hc
  · have := Nat.pow_le_pow_right (show 0 < 18446744073709551616 by decide) (show (dig 18446744073709551616 m).length ≤ 1 by omega)
    omega
/-- What Small tells: the number, if it is one. -/
def RetSm (w : World) (v : Int) (ok : Bool) (e : Ending) (w' : World) : Prop := e = .returned (.tuple #[.int .i64 v, .bool ok]) ∧ Below w.heap.size w w'
set_option maxHeartbeats 2000000 in
theorem zsmall_any (a : Option Addr) (c : Nat) (z : Int) (w : World) (h : NAt w w.heap.size a c z.natAbs) :
    Calls Tryz.prog 79 #[.agg #[.bool (decide (z < 0)), .slice a (dig 18446744073709551616 z.natAbs).length c]] w (RetSm w (if smallZ z = true then z else 0) (smallZ z)) := by
  have hli := h.li
  by_cases h0 : z = 0
  · subst h0
    have e0 : smallZ 0 = true := by decide
    rw [e0, if_pos rfl]
    have hX : dig 18446744073709551616 (0 : Int).natAbs = [] := rfl
    rw [hX]
    clear hli h e0 hX
    go_enter Tryz.func79, Tryz.ntmps79
    go_wp2
    exact bodyPost_ret (v := .tuple #[.int .i64 0, .bool true]) (by rw [results_tmp2 rfl]; go_simp) rfl ⟨rfl, (by (repeat' (first | exact Below.refl _ _ | refine Below.drew ?_ | refine Below.setCell ?_ (by first | omega | (simp <;> omega)) _ | refine Below.alloc ?_ (by first | omega | (simp <;> omega)) _)))⟩
  · by_cases hbig : 18446744073709551616 ≤ z.natAbs
    · have hl := dig_more hbig
      have e0 : smallZ z = false := by unfold smallZ; simp; omega
      rw [e0, if_neg (by decide)]
      have e1 : (((dig 18446744073709551616 z.natAbs).length : Int) == 0) = false := by simp; intro hc; rw [hc] at hl; simp at hl
      obtain ⟨b, off, rfl, hlb, cX⟩ := hli.cell 0 (by omega)
      rw [Nat.add_zero] at cX
      have l1 : (1 : Int) < ((dig 18446744073709551616 z.natAbs).length : Int) := by omega
      have l0 : (0 : Int) < ((dig 18446744073709551616 z.natAbs).length : Int) := by omega
      have l2 : 0 < (dig 18446744073709551616 z.natAbs).length := by omega
      generalize (dig 18446744073709551616 z.natAbs)[0]?.getD 0 = x at *
      generalize dig 18446744073709551616 z.natAbs = X at *
      clear hli h e0 hbig h0 hl
      cases decide (z < 0)
      · skip
        go_enter Tryz.func79, Tryz.ntmps79
        go_wp2
        exact bodyPost_ret (v := .tuple #[.int .i64 0, .bool false]) (by rw [results_tmp2 rfl]; go_simp) rfl ⟨rfl, (by (repeat' (first | exact Below.refl _ _ | refine Below.drew ?_ | refine Below.setCell ?_ (by first | omega | (simp <;> omega)) _ | refine Below.alloc ?_ (by first | omega | (simp <;> omega)) _)))⟩
      · skip
        go_enter Tryz.func79, Tryz.ntmps79
        go_wp2
        exact bodyPost_ret (v := .tuple #[.int .i64 0, .bool false]) (by rw [results_tmp2 rfl]; go_simp) rfl ⟨rfl, (by (repeat' (first | exact Below.refl _ _ | refine Below.drew ?_ | refine Below.setCell ?_ (by first | omega | (simp <;> omega)) _ | refine Below.alloc ?_ (by first | omega | (simp <;> omega)) _)))⟩
    · have hX := dig_one (m := z.natAbs) (by omega) (by omega)
      rw [hX] at hli ⊢
      obtain ⟨b, off, rfl, hlb, cX⟩ := hli.cell 0 (by simp)
      simp only [List.getElem?_cons_zero, Option.getD_some, Nat.add_zero] at cX
      obtain ⟨m, hm⟩ : ∃ m, z.natAbs = m := ⟨_, rfl⟩
      rw [hm] at cX
      have hmb : m < 18446744073709551616 := by omega
      clear hli h hX
      by_cases hs : z < 0
      · rw [decide_eq_true hs]
        by_cases hr : m ≤ 9223372036854775808
        · have e0 : smallZ z = true := by unfold smallZ; simp; omega
          rw [e0, if_pos rfl]
          have g1 : ¬ (9223372036854775808 : Int) < (m : Int) := by omega
          have r1 : ∀ [Inhabited Unit], IntKind.u64.wrap (-(m : Int)) = 18446744073709551616 - (m : Int) := by intro _; simp [IntKind.wrap, IntKind.bits, IntKind.signed]; omega
          have r2 : ∀ [Inhabited Unit], IntKind.i64.wrap (18446744073709551616 - (m : Int)) = z := by intro _; simp [IntKind.wrap, IntKind.bits, IntKind.signed]; omega
          have r3 : ∀ [Inhabited Unit], RowKit.wrap64 (18446744073709551616 - (m : Int)) = z := by intro _; unfold RowKit.wrap64; omega
          clear e0 hm hs h0 hbig
          go_enter Tryz.func79, Tryz.ntmps79
          go_wp2
          exact bodyPost_ret (v := .tuple #[.int .i64 z, .bool true]) (by rw [results_tmp2 rfl]; go_simp) rfl ⟨rfl, (by (repeat' (first | exact Below.refl _ _ | refine Below.drew ?_ | refine Below.setCell ?_ (by first | omega | (simp <;> omega)) _ | refine Below.alloc ?_ (by first | omega | (simp <;> omega)) _)))⟩
        · have e0 : smallZ z = false := by unfold smallZ; simp; omega
          rw [e0, if_neg (by decide)]
          have g1 : (9223372036854775808 : Int) < (m : Int) := by omega
          clear e0 hm hs h0 hbig hr
          go_enter Tryz.func79, Tryz.ntmps79
          go_wp2
          exact bodyPost_ret (v := .tuple #[.int .i64 0, .bool false]) (by rw [results_tmp2 rfl]; go_simp) rfl ⟨rfl, (by (repeat' (first | exact Below.refl _ _ | refine Below.drew ?_ | refine Below.setCell ?_ (by first | omega | (simp <;> omega)) _ | refine Below.alloc ?_ (by first | omega | (simp <;> omega)) _)))⟩
      · rw [decide_eq_false hs]
        by_cases hr : m ≤ 9223372036854775807
        · have e0 : smallZ z = true := by unfold smallZ; simp; omega
          rw [e0, if_pos rfl]
          have g1 : ¬ (9223372036854775808 : Int) ≤ (m : Int) := by omega
          obtain rfl : z = (m : Int) := by omega
          have r2 : ∀ [Inhabited Unit], IntKind.i64.wrap (m : Int) = (m : Int) := by intro _; rw [IntWalk.i64_left]; exact IntWalk.wrap64_in _ ⟨by omega, by omega⟩
          have r3 : ∀ [Inhabited Unit], RowKit.wrap64 (m : Int) = (m : Int) := by intro _; exact IntWalk.wrap64_in _ ⟨by omega, by omega⟩
          clear e0 hm hs h0 hbig
          go_enter Tryz.func79, Tryz.ntmps79
          go_wp2
          exact bodyPost_ret (v := .tuple #[.int .i64 (m : Int), .bool true]) (by rw [results_tmp2 rfl]; go_simp) rfl ⟨rfl, (by (repeat' (first | exact Below.refl _ _ | refine Below.drew ?_ | refine Below.setCell ?_ (by first | omega | (simp <;> omega)) _ | refine Below.alloc ?_ (by first | omega | (simp <;> omega)) _)))⟩
        · have e0 : smallZ z = false := by unfold smallZ; simp; omega
          rw [e0, if_neg (by decide)]
          have g1 : (9223372036854775808 : Int) ≤ (m : Int) := by omega
          clear e0 hm hs h0 hbig hr
          go_enter Tryz.func79, Tryz.ntmps79
          go_wp2
          exact bodyPost_ret (v := .tuple #[.int .i64 0, .bool false]) (by rw [results_tmp2 rfl]; go_simp) rfl ⟨rfl, (by (repeat' (first | exact Below.refl _ _ | refine Below.drew ?_ | refine Below.setCell ?_ (by first | omega | (simp <;> omega)) _ | refine Below.alloc ?_ (by first | omega | (simp <;> omega)) _)))⟩
end Go.Proofs.YtddhhfhammmaaaaGreat
