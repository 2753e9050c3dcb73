/- Walks: what a tensor is; new ones; equality, copies. -/
import Derived.Test.YtddhhfhammmaaaaGreatMDot
import Derived.Test.YtddhhfhammmaaaaGreatEnv
import Derived.Deep.RegionHeld3
import Derived.Deep.Cut
set_option linter.unusedVariables false
set_option linter.unusedSimpArgs false
namespace Go.Proofs.YtddhhfhammmaaaaGreat
open Go.RowKit Go.Rt

/-- Is it a tensor? -/
def tenB (xs ys : List Int) : Bool := goodB xs && (decide ((ys.length : Int) = prodI xs) && ys.all isW)
theorem tenB_iff {xs ys : List Int} : tenB xs ys = true ↔ goodB xs = true ∧ (ys.length : Int) = prodI xs ∧ ∀ y ∈ ys, isW y = true := by
  simp [tenB]
theorem quietSame {P : Program} {f : FuncId} {args : Array Value} {w : World} {n : Nat} {v : Value} (h : Calls P f args (w.drewN n) fun e w' => e = .returned v ∧ w.drewN n = w') :
    Calls P f args (w.drewN n) fun e w'' => e = .returned v ∧ ∃ m, w'' = w.drewN m := h.mono fun _ _ ⟨he, hm⟩ => ⟨he, n, hm.symm⟩
theorem heldB2 {n : Nat} {Wb w : World} {p : Prop} (h : Below n Wb w ∧ p) : Below n Wb w := h.1
theorem tenKeep2 {n : Nat} {W w w' : World} {b : Nat} {v0 v1 : Value} (h : Below n W w ∧ w.cell? ⟨b, 0, none⟩ = some v0 ∧ w.cell? ⟨b, 1, none⟩ = some v1) (hb : w = w') :
    Below n W w' ∧ w'.cell? ⟨b, 0, none⟩ = some v0 ∧ w'.cell? ⟨b, 1, none⟩ = some v1 := by subst hb; exact h
theorem tenDrew {n : Nat} {W w : World} {b : Nat} {v0 v1 : Value} (h : Below n W w ∧ w.cell? ⟨b, 0, none⟩ = some v0 ∧ w.cell? ⟨b, 1, none⟩ = some v1) :
    Below n W w.drew ∧ w.drew.cell? ⟨b, 0, none⟩ = some v0 ∧ w.drew.cell? ⟨b, 1, none⟩ = some v1 := ⟨h.1.drew, h.2.1, h.2.2⟩

set_option maxHeartbeats 1000000 in
theorem elemGood_any (a b : Option Addr) (c d : Nat) (xs ys : List Int) (w : World) (h : Ints .i64 w w.heap.size a xs) (h2 : Ints .i64 w w.heap.size b ys) :
    Calls Tryz.prog 42 #[.agg #[.slice a xs.length c, .slice b ys.length d]] w fun e w' => e = .returned (.bool (tenB xs ys)) ∧ Below w.heap.size w w' := by
  have hg := fun w' (hb : Below w.heap.size w w') => Lib.hid (good_any a c w.heap.size xs w' (h.below hb (Nat.le_refl _)))
  have hw := fun w' (hb : Below w.heap.size w w') => Lib.hid (hasBad_any b d w.heap.size ys w' (h2.below hb (Nat.le_refl _)))
  have hlen := h2.len
  cases hgood : goodB xs with
  | false =>
    have e : tenB xs ys = false := by unfold tenB; rw [hgood]; rfl
    rw [e]
    rw [hgood] at hg
    clear e hgood hw h h2
    go_enter Tryz.func42, Tryz.ntmps42
    go_upto_region 1 with fail
    go_quiet (first | (go_at_call 65; exact quietSame (hg _ (by (repeat' (first | exact Below.refl _ _ | refine below_drewN ?_ _ | refine Below.drew ?_ | refine Below.alloc ?_ (by first | omega | (simp <;> omega)) _)))).out))
    go_wp2_with fail
    go_ret
    exact ⟨rfl, (by (repeat' (first | exact Below.refl _ _ | refine below_drewN ?_ _ | refine Below.drew ?_ | refine Below.alloc ?_ (by first | omega | (simp <;> omega)) _)))⟩
  | true =>
    have hz := fun w' (hb : Below w.heap.size w w') => Lib.hid (size_any a c w.heap.size xs w' (h.below hb (Nat.le_refl _)) hgood)
    skip
    skip
    have hpb := goodB_prod hgood
    rw [hgood] at hg
    by_cases hl : (ys.length : Int) = prodI xs
    · cases hall : ys.all isW with
      | false =>
        have e : tenB xs ys = false := by unfold tenB; rw [hall, Bool.and_false, Bool.and_false]
        rw [e]
        rw [hall] at hw
        rw [← hl] at hz
        clear e hgood hall h h2 hl hpb
        go_enter Tryz.func42, Tryz.ntmps42
        go_upto_region 1 with fail
        go_quiet (first | (go_at_call 65; exact quietSame (hg _ (by (repeat' (first | exact Below.refl _ _ | refine below_drewN ?_ _ | refine Below.drew ?_ | refine Below.alloc ?_ (by first | omega | (simp <;> omega)) _)))).out) | (go_at_call 66; exact quietSame (hz _ (by (repeat' (first | exact Below.refl _ _ | refine below_drewN ?_ _ | refine Below.drew ?_ | refine Below.alloc ?_ (by first | omega | (simp <;> omega)) _)))).out) | (go_at_call 73; exact quietSame (hw _ (by (repeat' (first | exact Below.refl _ _ | refine below_drewN ?_ _ | refine Below.drew ?_ | refine Below.alloc ?_ (by first | omega | (simp <;> omega)) _)))).out))
        go_wp2_with fail
        go_ret
        exact ⟨rfl, (by (repeat' (first | exact Below.refl _ _ | refine below_drewN ?_ _ | refine Below.drew ?_ | refine Below.alloc ?_ (by first | omega | (simp <;> omega)) _)))⟩
      | true =>
        have e : tenB xs ys = true := by unfold tenB; rw [hgood, hall, decide_eq_true hl]; rfl
        rw [e]
        rw [hall] at hw
        rw [← hl] at hz
        clear e hgood hall h h2 hl hpb
        go_enter Tryz.func42, Tryz.ntmps42
        go_upto_region 1 with fail
        go_quiet (first | (go_at_call 65; exact quietSame (hg _ (by (repeat' (first | exact Below.refl _ _ | refine below_drewN ?_ _ | refine Below.drew ?_ | refine Below.alloc ?_ (by first | omega | (simp <;> omega)) _)))).out) | (go_at_call 66; exact quietSame (hz _ (by (repeat' (first | exact Below.refl _ _ | refine below_drewN ?_ _ | refine Below.drew ?_ | refine Below.alloc ?_ (by first | omega | (simp <;> omega)) _)))).out) | (go_at_call 73; exact quietSame (hw _ (by (repeat' (first | exact Below.refl _ _ | refine below_drewN ?_ _ | refine Below.drew ?_ | refine Below.alloc ?_ (by first | omega | (simp <;> omega)) _)))).out))
        go_wp2_with fail
        go_ret
        exact ⟨rfl, (by (repeat' (first | exact Below.refl _ _ | refine below_drewN ?_ _ | refine Below.drew ?_ | refine Below.alloc ?_ (by first | omega | (simp <;> omega)) _)))⟩
    · have e : tenB xs ys = false := by unfold tenB; rw [decide_eq_false hl, Bool.false_and, Bool.and_false]
      have hl2 : ((ys.length : Int) == prodI xs) = false := by simp; exact hl
      rw [e]
      generalize prodI xs = PX at *
      clear e hgood h h2 hw hl
      go_enter Tryz.func42, Tryz.ntmps42
      go_upto_region 1 with fail
      go_quiet (first | (go_at_call 65; exact quietSame (hg _ (by (repeat' (first | exact Below.refl _ _ | refine below_drewN ?_ _ | refine Below.drew ?_ | refine Below.alloc ?_ (by first | omega | (simp <;> omega)) _)))).out) | (go_at_call 66; exact quietSame (hz _ (by (repeat' (first | exact Below.refl _ _ | refine below_drewN ?_ _ | refine Below.drew ?_ | refine Below.alloc ?_ (by first | omega | (simp <;> omega)) _)))).out))
      go_wp2_with fail
      go_ret
      exact ⟨rfl, (by (repeat' (first | exact Below.refl _ _ | refine below_drewN ?_ _ | refine Below.drew ?_ | refine Below.alloc ?_ (by first | omega | (simp <;> omega)) _)))⟩

set_option maxHeartbeats 1000000 in
theorem tenMay_any (a b : Option Addr) (c d : Nat) (xs ys : List Int) (w : World) (h : Ints .i64 w w.heap.size a xs) (h2 : Ints .i64 w w.heap.size b ys) :
    Calls Tryz.prog 5 #[.agg #[.slice a xs.length c, .slice b ys.length d]] w fun e w' => e = .returned (.bool (tenB xs ys)) ∧ Below w.heap.size w w' := by
  have hg := fun w' (hb : Below w.heap.size w w') => Lib.hid (rmay_any a c w.heap.size xs w' (h.below hb (Nat.le_refl _)))
  have hw := fun w' (hb : Below w.heap.size w w') => Lib.hid (words_any b d w.heap.size ys w' (h2.below hb (Nat.le_refl _)))
  have hlen := h2.len
  cases hgood : goodB xs with
  | false =>
    have e : tenB xs ys = false := by unfold tenB; rw [hgood]; rfl
    rw [e]
    rw [hgood] at hg
    clear e hgood hw h h2
    go_enter Tryz.func5, Tryz.ntmps5
    go_upto_region 1 with fail
    go_quiet (first | (go_at_call 16; exact quietSame (hg _ (by (repeat' (first | exact Below.refl _ _ | refine below_drewN ?_ _ | refine Below.drew ?_ | refine Below.alloc ?_ (by first | omega | (simp <;> omega)) _)))).out))
    go_wp2_with fail
    go_ret
    exact ⟨rfl, (by (repeat' (first | exact Below.refl _ _ | refine below_drewN ?_ _ | refine Below.drew ?_ | refine Below.alloc ?_ (by first | omega | (simp <;> omega)) _)))⟩
  | true =>
    have hz := fun w' (hb : Below w.heap.size w w') => Lib.hid (rcount_any a c w.heap.size xs w' (h.below hb (Nat.le_refl _)) (goodB_dims hgood))
    have hcg := countE_good hgood
    rw [hcg] at hz
    have hpb := goodB_prod hgood
    rw [hgood] at hg
    by_cases hl : (ys.length : Int) = prodI xs
    · cases hall : ys.all isW with
      | false =>
        have e : tenB xs ys = false := by unfold tenB; rw [hall, Bool.and_false, Bool.and_false]
        rw [e]
        rw [hall] at hw
        rw [← hl] at hz
        clear e hgood hall h h2 hl hpb
        go_enter Tryz.func5, Tryz.ntmps5
        go_upto_region 1 with fail
        go_quiet (first | (go_at_call 16; exact quietSame (hg _ (by (repeat' (first | exact Below.refl _ _ | refine below_drewN ?_ _ | refine Below.drew ?_ | refine Below.alloc ?_ (by first | omega | (simp <;> omega)) _)))).out) | (go_at_call 17; exact quietSame (hz _ (by (repeat' (first | exact Below.refl _ _ | refine below_drewN ?_ _ | refine Below.drew ?_ | refine Below.alloc ?_ (by first | omega | (simp <;> omega)) _)))).out) | (go_at_call 18; exact quietSame (hw _ (by (repeat' (first | exact Below.refl _ _ | refine below_drewN ?_ _ | refine Below.drew ?_ | refine Below.alloc ?_ (by first | omega | (simp <;> omega)) _)))).out))
        go_wp2_with fail
        go_ret
        exact ⟨rfl, (by (repeat' (first | exact Below.refl _ _ | refine below_drewN ?_ _ | refine Below.drew ?_ | refine Below.alloc ?_ (by first | omega | (simp <;> omega)) _)))⟩
      | true =>
        have e : tenB xs ys = true := by unfold tenB; rw [hgood, hall, decide_eq_true hl]; rfl
        rw [e]
        rw [hall] at hw
        rw [← hl] at hz
        clear e hgood hall h h2 hl hpb
        go_enter Tryz.func5, Tryz.ntmps5
        go_upto_region 1 with fail
        go_quiet (first | (go_at_call 16; exact quietSame (hg _ (by (repeat' (first | exact Below.refl _ _ | refine below_drewN ?_ _ | refine Below.drew ?_ | refine Below.alloc ?_ (by first | omega | (simp <;> omega)) _)))).out) | (go_at_call 17; exact quietSame (hz _ (by (repeat' (first | exact Below.refl _ _ | refine below_drewN ?_ _ | refine Below.drew ?_ | refine Below.alloc ?_ (by first | omega | (simp <;> omega)) _)))).out) | (go_at_call 18; exact quietSame (hw _ (by (repeat' (first | exact Below.refl _ _ | refine below_drewN ?_ _ | refine Below.drew ?_ | refine Below.alloc ?_ (by first | omega | (simp <;> omega)) _)))).out))
        go_wp2_with fail
        go_ret
        exact ⟨rfl, (by (repeat' (first | exact Below.refl _ _ | refine below_drewN ?_ _ | refine Below.drew ?_ | refine Below.alloc ?_ (by first | omega | (simp <;> omega)) _)))⟩
    · have e : tenB xs ys = false := by unfold tenB; rw [decide_eq_false hl, Bool.false_and, Bool.and_false]
      have hl2 : ((ys.length : Int) == prodI xs) = false := by simp; exact hl
      rw [e]
      generalize prodI xs = PX at *
      clear e hgood h h2 hw hl
      go_enter Tryz.func5, Tryz.ntmps5
      go_upto_region 1 with fail
      go_quiet (first | (go_at_call 16; exact quietSame (hg _ (by (repeat' (first | exact Below.refl _ _ | refine below_drewN ?_ _ | refine Below.drew ?_ | refine Below.alloc ?_ (by first | omega | (simp <;> omega)) _)))).out) | (go_at_call 17; exact quietSame (hz _ (by (repeat' (first | exact Below.refl _ _ | refine below_drewN ?_ _ | refine Below.drew ?_ | refine Below.alloc ?_ (by first | omega | (simp <;> omega)) _)))).out))
      go_wp2_with fail
      go_ret
      exact ⟨rfl, (by (repeat' (first | exact Below.refl _ _ | refine below_drewN ?_ _ | refine Below.drew ?_ | refine Below.alloc ?_ (by first | omega | (simp <;> omega)) _)))⟩
end Go.Proofs.YtddhhfhammmaaaaGreat
