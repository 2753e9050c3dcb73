/- Walks of the references' whole numbers with a sign. -/
import Derived.Test.YtimjhjacinchjaaGreatNRes
import Derived.BigQuiet
import Derived.WalkMore
import Derived.Deep.RegionHeld3
import Derived.Deep.RegionWith
import Derived.BigRegion
import Derived.Deep.Cut
import Derived.Deep.CutBlock
import Derived.Deep.CutRange
set_option linter.unusedVariables false
set_option linter.unusedSimpArgs false
namespace Go.Proofs.YtimjhjacinchjaaGreat
open Go.RowKit Go.Rt

/-- A size with a sign. -/
def sgnZ (neg : Bool) (m : Nat) : Int := if neg = true then -(m : Int) else (m : Int)
theorem sgnZ_abs (neg : Bool) (m : Nat) : (sgnZ neg m).natAbs = m := by unfold sgnZ; split <;> omega
theorem sgnZ_neg (neg : Bool) (m : Nat) : decide (sgnZ neg m < 0) = (neg && decide (0 < m)) := by
  unfold sgnZ
  cases neg
  · simp <;> omega
  · by_cases h : m = 0
    · subst h; simp
    · simp <;> omega
theorem sgnZ_self (z : Int) : sgnZ (decide (z < 0)) z.natAbs = z := by
  unfold sgnZ
  by_cases h : z < 0
  · simp [h]; omega
  · simp [h]; omega
/-- A number with a sign handed back. -/
def RetZ (w : World) (z : Int) (e : Ending) (w' : World) : Prop :=
  ∃ a c, e = .returned (.agg #[.bool (decide (z < 0)), .slice a (dig 18446744073709551616 z.natAbs).length c]) ∧ NAt w' w'.heap.size a c z.natAbs ∧ Below w.heap.size w w'
theorem sgnZ_eq {neg s : Bool} {m : Nat} (hs : (neg && decide (0 < m)) = s) {w w' : World} {a : Option Addr} {c : Nat} (hN : NAt w' w'.heap.size a c m) (hb : Below w.heap.size w w') : RetZ w (sgnZ neg m) (.returned (.agg #[.bool s, .slice a (dig 18446744073709551616 m).length c])) w' := by
  refine ⟨a, c, ?_, ?_, hb⟩
  · rw [sgnZ_neg, sgnZ_abs, hs]
  · rw [sgnZ_abs]; exact hN

set_option maxHeartbeats 1000000 in
theorem made_any (neg : Bool) (a : Option Addr) (c m : Nat) (w : World) (h : NAt w w.heap.size a c m) :
    Calls Tryz.prog 57 #[.bool neg, .slice a (dig 18446744073709551616 m).length c] w (RetZ w (sgnZ neg m)) := by
  have H := Lib.hid h
  have hl := dig_len_zero (B := 18446744073709551616) (m := m) (by decide)
  have hmx := h.c1
  have hmx2 := h.c2
  clear h
  cases neg with
  | false =>
    go_enter Tryz.func57, Tryz.ntmps57
    go_wp2
    refine bodyPost_ret (v := .agg #[.bool false, .slice a (dig 18446744073709551616 m).length c]) (by rw [nres_c1 rfl]; go_simp) rfl ?_
    exact sgnZ_eq rfl (H.out.next (by (repeat' (first | exact Below.refl _ _ | refine Below.drew ?_ | refine Below.setCell ?_ (by first | omega | (simp <;> omega)) _ | refine Below.alloc ?_ (by first | omega | (simp <;> omega)) _)))) (by (repeat' (first | exact Below.refl _ _ | refine Below.drew ?_ | refine Below.setCell ?_ (by first | omega | (simp <;> omega)) _ | refine Below.alloc ?_ (by first | omega | (simp <;> omega)) _)))
  | true =>
    have HS := Lib.hid (show (true && decide (0 < m)) = decide (0 < (dig 18446744073709551616 m).length) by
      rw [Bool.true_and]
      exact decide_eq_decide.2 (by omega))
    clear hl
    go_enter Tryz.func57, Tryz.ntmps57
    go_wp2
    refine bodyPost_ret (v := .agg #[.bool (decide (0 < (dig 18446744073709551616 m).length)), .slice a (dig 18446744073709551616 m).length c]) (by rw [nres_c1 rfl]; go_simp) rfl ?_
    exact sgnZ_eq HS.out (H.out.next (by (repeat' (first | exact Below.refl _ _ | refine Below.drew ?_ | refine Below.setCell ?_ (by first | omega | (simp <;> omega)) _ | refine Below.alloc ?_ (by first | omega | (simp <;> omega)) _)))) (by (repeat' (first | exact Below.refl _ _ | refine Below.drew ?_ | refine Below.setCell ?_ (by first | omega | (simp <;> omega)) _ | refine Below.alloc ?_ (by first | omega | (simp <;> omega)) _)))

theorem zsize_any (n : Int) (w : World) (h0 : -9223372036854775808 ≤ n) (h1 : n ≤ 9223372036854775807) :
    Calls Tryz.prog 59 #[.int .i64 n] w fun e w' => e = .returned (.int .u64 (n.natAbs : Int)) ∧ w = w' := by
  by_cases hn : n < 0
  · obtain ⟨s, hs, es⟩ : ∃ s : Int, s = n % 18446744073709551616 ∧ ∀ [Inhabited Unit], IntKind.u64.wrap n = s := ⟨_, rfl, fun {_} => by simp [IntKind.wrap, IntKind.bits, IntKind.signed]⟩
    have e2 : ∀ [Inhabited Unit], IntKind.u64.wrap (0 - s) = (n.natAbs : Int) := by intro _; simp [IntKind.wrap, IntKind.bits, IntKind.signed]; omega
    have e3 : ∀ [Inhabited Unit], IntKind.u64.wrap (-s) = (n.natAbs : Int) := by intro _; simp [IntKind.wrap, IntKind.bits, IntKind.signed]; omega
    have hb : 9223372036854775808 ≤ s ∧ s < 18446744073709551616 := by omega
    have HN := Lib.hid hs
    clear hs
    generalize (n.natAbs : Int) = N at *
    go_enter Tryz.func59, Tryz.ntmps59
    go_wp2
    go_ret
    exact ⟨rfl, rfl⟩
  · have e2 : ∀ [Inhabited Unit], IntKind.u64.wrap n = n := by intro _; exact u64_same _ (by omega) (by omega)
    have HN : Hid ((n.natAbs : Int) = n) := Lib.hid (by omega)
    rw [HN.out]
    go_enter Tryz.func59, Tryz.ntmps59
    go_wp2
    go_ret
    exact ⟨rfl, rfl⟩

theorem nat_set {w : World} {a : Option Addr} {c m q o : Nat} {v v' : Value} (h : NAt w w.heap.size a c m) (hc : w.cell? ⟨q, o, none⟩ = some v) (hv : ∀ x, v ≠ .int .u64 x) : NAt (w.setCell ⟨q, o, none⟩ v') (w.setCell ⟨q, o, none⟩ v').heap.size a c m := by
  have hs : (w.setCell ⟨q, o, none⟩ v').heap.size = w.heap.size := by simp
  rw [hs]
  exact ⟨ints_setOtherN h.li hc hv, h.c1, h.c2⟩

theorem retZ_box {w w3 : World} {z : Int} {q c : Nat} {a : Option Addr} {v0 v1 : Value} (hq : w.heap.size ≤ q) (hN : NAt w3 w3.heap.size a c z.natAbs) (hX : NBox2 w3 q v0 v1) (h0 : ∀ x, v0 ≠ .int .u64 x) (h1 : ∀ x, v1 ≠ .int .u64 x) (hb : Below w.heap.size w w3) (y0 y1 : Value) :
    RetZ w z (.returned (.agg #[.bool (decide (z < 0)), .slice a (dig 18446744073709551616 z.natAbs).length c])) ((w3.setCell ⟨q, 0, none⟩ y0).setCell ⟨q, 1, none⟩ y1) := by
  refine ⟨a, c, rfl, nat_set (v := v1) (nat_set hN hX.c0 h0) ?_ h1, (hb.setCell hq _).setCell hq _⟩
  obtain ⟨c0, c1, f0, f1⟩ := hX
  go_simp

set_option maxHeartbeats 1000000 in
theorem zfrom_any (n : Int) (w : World) (h0 : -9223372036854775808 ≤ n) (h1 : n ≤ 9223372036854775807) : Calls Tryz.prog 39 #[.int .i64 n] w (RetZ w n) := by
  have H1 := fun w => Lib.hid (zsize_any n w h0 h1)
  have H2 := fun w => Lib.hid (nof_any (n.natAbs : Int) ⟨by omega, by omega⟩ w)
  have H3 := fun a c w h => Lib.hid (made_any (decide (n < 0)) a c n.natAbs w h)
  rw [sgnZ_self] at H3
  rw [Int.toNat_natCast] at H2
  have HA := Lib.hid (show (n.natAbs : Int).toNat = n.natAbs from Int.toNat_natCast _)
  go_enter Tryz.func39, Tryz.ntmps39
  go_wp2_with (first | (go_at_call 59; refine (H1 _).out.mono ?_; rintro e w1 ⟨rfl, rfl⟩) | (go_at_call 41; refine (H2 _).out.mono ?_; rintro e w2 ⟨a2, c2, rfl, hN2, hb2⟩; have HN2 := Lib.hid hN2; have HB2 := Lib.hid hb2; have X2 := NBox2.below (b := w.heap.size) (v0 := .bool false) (v1 := .slice none 0 0) (by constructor <;> go_simp) hb2 (by simp); obtain ⟨x0, x1, x2, x3⟩ := X2; have hs2 := hb2.size; clear hN2 hb2) | (go_at_call 57; refine (H3 a2 c2 w2 HN2.out).out.mono ?_; rintro e w3 ⟨a3, c3, rfl, hN3, hb3⟩; have HN3 := Lib.hid hN3; have HB3 := Lib.hid hb3; have X3 := NBox2.below (b := w.heap.size) (v0 := .bool false) (v1 := .slice none 0 0) ⟨x0, x1, x2, x3⟩ hb3 (by simp at hs2; omega); clear x0 x1 x2 x3; obtain ⟨x0, x1, x2, x3⟩ := X3; have hs3 := hb3.size; clear hN3 hb3))
  refine bodyPost_ret (v := .agg #[.bool (decide (n < 0)), .slice a3 (dig 18446744073709551616 n.natAbs).length c3]) (by rw [nres_c1 rfl]; go_simp) rfl ?_
  simp at hs2
  exact retZ_box (Nat.le_refl _) HN3.out ⟨x0, x1, x2, x3⟩ (by intro z h; cases h) (by intro z h; cases h) (((Below.refl w.heap.size w).alloc (Nat.le_refl _) _).trans ((HB2.out.mono (by simp)).trans (HB3.out.mono (by omega)))) _ _
end Go.Proofs.YtimjhjacinchjaaGreat
