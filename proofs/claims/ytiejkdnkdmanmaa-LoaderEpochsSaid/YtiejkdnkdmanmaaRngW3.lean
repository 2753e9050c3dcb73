/- Walks: generators compared, copied, owned. -/
import Derived.Test.YtiejkdnkdmanmaaRngW2
import Derived.Laws.Cover3
set_option linter.unusedVariables false
set_option linter.unusedSimpArgs false
namespace Go.Proofs.Ytiejkdnkdmanmaa
open Go.RowKit Go.Rt
attribute [local go_sem ↓] Go.wp_at_zero Go.wp_at_succ

theorem belowDrewN {B : Nat} {a w : World} (h : Below B a w) (q : Nat) : Below B a (w.drewN q) := ⟨h.os, h.tape, h.output, h.size, h.block⟩
theorem run_eql_slice_nil' {P : Program} (w : World) (t e : TypeId) (a : Option Addr) (l c : Nat) (h : P.underlying t = some (.slice e)) : (binOp .eql t (.slice a l c) (.slice none 0 0)).run P w = .ok (.bool a.isNone) w := by
  simp only [binOp]
  simp [run_equal_slice_nil w t e a l c h]
attribute [local go_sem] run_eql_slice_nil'

def eqSt (s t : St) : Bool := ((s.a : Int) == (t.a : Int)) && (((s.b : Int) == (t.b : Int)) && (((s.c : Int) == (t.c : Int)) && ((s.d : Int) == (t.d : Int))))
theorem eqSt_iff (s t : St) : eqSt s t = true ↔ s = t := by
  obtain ⟨a, b, c, d⟩ := s
  obtain ⟨a', b', c', d'⟩ := t
  simp [eqSt]
  omega

set_option maxRecDepth 100000 in
set_option maxHeartbeats 400000 in
theorem eqRand_any (a a2 : Option Addr) (c c2 : Nat) (xs ys : List Int) (s t : St) (w : World) (h : Ints .u64 w w.heap.size a xs) (h2 : Ints .u64 w w.heap.size a2 ys) :
    Calls Try.prog 18 #[.agg #[.slice a xs.length c, .int .u64 (s.a : Nat), .int .u64 (s.b : Nat), .int .u64 (s.c : Nat), .int .u64 (s.d : Nat)], .agg #[.slice a2 ys.length c2, .int .u64 (t.a : Nat), .int .u64 (t.b : Nat), .int .u64 (t.c : Nat), .int .u64 (t.d : Nat)]] w fun e w' => e = .returned (.bool (decide (xs = ys) && eqSt s t)) ∧ Below w.heap.size w w' := by
  have HQ := fun w' (hb : Below w.heap.size w w') => Lib.hid (eqDraws_any a a2 c c2 w.heap.size xs ys w' (h.below hb (Nat.le_refl _)) (h2.below hb (Nat.le_refl _)))
  have HE := run_eq4
  cases hxy : decide (xs = ys)
  all_goals
    rw [hxy] at HQ
    go_enter Try.func18, Try.ntmps18
    go_wp2_with (go_at_call 63; refine (HQ _ (by (repeat' (first | exact Below.refl _ _ | refine Below.drew ?_ | refine Below.alloc ?_ (by simp <;> omega) _)))).out.mono ?_; rintro e w' ⟨rfl, q, rfl⟩)
    go_ret
    refine ⟨ret_bool (by first | rfl | simp [eqSt]), ?_⟩
    (repeat' (first | exact Below.refl _ _ | refine belowDrewN ?_ _ | refine Below.alloc ?_ (by simp <;> omega) _))

set_option maxRecDepth 100000 in
set_option maxHeartbeats 400000 in
theorem clone64_any (a : Option Addr) (c : Nat) (xs : List Int) (w : World) (h : Ints .u64 w w.heap.size a xs) (hn : xs.length ≤ 17592186044415) :
    Calls Try.prog 79 #[.slice a xs.length c] w (RetDraws w xs) := by
  cases a with
  | none =>
    have hx : xs = [] := by
      cases xs with
      | nil => rfl
      | cons x r =>
        obtain ⟨b, off, e, _⟩ := h.cell 0 (by simp)
        simp at e
    subst hx
    go_enter Try.func79, Try.ntmps79
    go_wp2
    go_ret
    exact ⟨_, rfl, World.ownsRow_nil _ _ _ _, Below.refl _ _⟩
  | some ad =>
    have hnews : ∀ j u, (xs.map (Value.int .u64))[j]? = some u → (w.alloc (.cells #[] 24)).cell? (ad.add j) = some u := by
      intro j u hj
      have hjl : j < xs.length := by
        have := (List.getElem?_eq_some_iff.1 hj).1
        simpa using this
      obtain ⟨b, off, e, hlt, hc⟩ := h.cell j hjl
      simp at e
      subst e
      rw [Addr.add_lit]
      rw [(((Below.refl _ w).alloc (Nat.le_refl _) _).cell (p := ⟨b, off + j, none⟩) hlt).trans hc]
      simp [hjl] at hj
      rw [← hj]
      simp [hjl]
    obtain ⟨i, hi, hz0, hz1, hz2⟩ := info_parts infoU64
    go_enter Try.func79, Try.ntmps79
    go_wp2_with (at_builtin; (refine wpList_append_own _ rfl _ _ 23 rfl w.heap.size 24 i (.int .u64 0) 1 8 Try.underlying23 hi hz0 hz1 hz2 rfl (by decide) _ 0 [] rfl (World.ownsRow_made w #[] 0 (Nat.le_refl _) (by unfold maxLen; omega) (by simp)) ad xs.length c (xs.map (Value.int .u64)) rfl (by simp) hnews (by simp [Value.oneCell']) (by unfold maxLen; omega) (by omega) (by simp) ?_); intro v' w1 hown1 hgrow1 _)
    go_ret
    refine ⟨_, rfl, by simpa using hown1, ?_⟩
    refine ((Below.refl _ w).alloc (Nat.le_refl _) _).grown hgrow1 (by simp) (fun j hj => ?_)
    cases hj
    exact Nat.le_refl _

/-- What a call hands back that makes a generator of its own. -/
def RetGen (w : World) (xs : List Int) (s : St) (e : Ending) (w' : World) : Prop :=
  ∃ a c, e = .returned (.agg #[.slice a xs.length c, .int .u64 (s.a : Nat), .int .u64 (s.b : Nat), .int .u64 (s.c : Nat), .int .u64 (s.d : Nat)]) ∧ w'.ownsRow w.heap.size 24 1 (.slice a xs.length c) xs.length (xs.map (Value.int .u64)) ∧ Below w.heap.size w w'

set_option maxRecDepth 100000 in
set_option maxHeartbeats 400000 in
theorem own_any (a : Option Addr) (c : Nat) (xs : List Int) (s : St) (w : World) (h : Ints .u64 w w.heap.size a xs) (hn : xs.length ≤ 17592186044415) :
    Calls Try.prog 61 #[.agg #[.slice a xs.length c, .int .u64 (s.a : Nat), .int .u64 (s.b : Nat), .int .u64 (s.c : Nat), .int .u64 (s.d : Nat)]] w (RetGen w xs s) := by
  have HC := fun w' (hb : Below w.heap.size w w') => Lib.hid (clone64_any a c xs w' ((h.below hb (Nat.le_refl _)).mono hb.size) hn)
  go_enter Try.func61, Try.ntmps61
  go_wp2
  go_region_held3 (fun w' => w'.cell? ⟨w.heap.size, 0, none⟩ = some (.slice a xs.length c) ∧ w'.cell? ⟨w.heap.size, 1, none⟩ = some (.int .u64 (s.a : Nat)) ∧ w'.cell? ⟨w.heap.size, 2, none⟩ = some (.int .u64 (s.b : Nat)) ∧ w'.cell? ⟨w.heap.size, 3, none⟩ = some (.int .u64 (s.c : Nat)) ∧ w'.cell? ⟨w.heap.size, 4, none⟩ = some (.int .u64 (s.d : Nat))) (go_keep)
    (first | (go_at_call 79; refine (HC _ (by (repeat' (first | exact Below.refl _ _ | refine Below.drew ?_ | refine Below.alloc ?_ (by simp <;> omega) _)))).out.mono ?_; rintro e w1 ⟨v, rfl, hown, hbel⟩; obtain ⟨a1, c1, rfl, _⟩ := own_shape hown; have j0 := (hbel.cell (p := ⟨w.heap.size, 0, none⟩) (by simp <;> omega)); have l0 := (hbel.cell (p := ⟨w.heap.size + 1, 0, none⟩) (by simp <;> omega)); have f0 := (hbel.frozen (p := ⟨w.heap.size + 1, 0, none⟩) (by simp <;> omega)); have j1 := (hbel.cell (p := ⟨w.heap.size, 1, none⟩) (by simp <;> omega)); have l1 := (hbel.cell (p := ⟨w.heap.size + 1, 1, none⟩) (by simp <;> omega)); have f1 := (hbel.frozen (p := ⟨w.heap.size + 1, 1, none⟩) (by simp <;> omega)); have j2 := (hbel.cell (p := ⟨w.heap.size, 2, none⟩) (by simp <;> omega)); have l2 := (hbel.cell (p := ⟨w.heap.size + 1, 2, none⟩) (by simp <;> omega)); have f2 := (hbel.frozen (p := ⟨w.heap.size + 1, 2, none⟩) (by simp <;> omega)); have j3 := (hbel.cell (p := ⟨w.heap.size, 3, none⟩) (by simp <;> omega)); have l3 := (hbel.cell (p := ⟨w.heap.size + 1, 3, none⟩) (by simp <;> omega)); have f3 := (hbel.frozen (p := ⟨w.heap.size + 1, 3, none⟩) (by simp <;> omega)); have j4 := (hbel.cell (p := ⟨w.heap.size, 4, none⟩) (by simp <;> omega)); have l4 := (hbel.cell (p := ⟨w.heap.size + 1, 4, none⟩) (by simp <;> omega)); have f4 := (hbel.frozen (p := ⟨w.heap.size + 1, 4, none⟩) (by simp <;> omega))))
  go_wp2
  (try simp only [Exit.inBlock, Exit.then])
  have hbel' : Below w.heap.size _ w1 := hbel.mono (by simp <;> omega)
  refine bodyPost_ret (v := .agg #[.slice a1 xs.length c1, .int .u64 (s.a : Nat), .int .u64 (s.b : Nat), .int .u64 (s.c : Nat), .int .u64 (s.d : Nat)]) (by rw [results_c rfl]; go_simp) rfl ⟨_, _, rfl, ?_, ?_⟩
  · refine own_mono (base := w.heap.size + 1 + 1) ?_ (by omega)
    iterate 5 refine ownsRow_setCell_below ?_ (by simp <;> omega) _
    simpa using hown
  · iterate 5 refine Below.setCell ?_ (by simp <;> omega) _
    refine Below.trans ?_ hbel'
    (repeat' (first | exact Below.refl _ _ | refine Below.drew ?_ | refine Below.alloc ?_ (by simp <;> omega) _))

set_option maxRecDepth 100000 in
set_option maxHeartbeats 400000 in
theorem copyRand_any (a : Option Addr) (c : Nat) (xs : List Int) (s : St) (w : World) (h : Ints .u64 w w.heap.size a xs) (hn : xs.length ≤ 17592186044415) :
    Calls Try.prog 21 #[.agg #[.slice a xs.length c, .int .u64 (s.a : Nat), .int .u64 (s.b : Nat), .int .u64 (s.c : Nat), .int .u64 (s.d : Nat)]] w (RetGen w xs s) := by
  have HC := fun w' (hb : Below w.heap.size w w') => Lib.hid (copyDraws_any a c xs w' ((h.below hb (Nat.le_refl _)).mono hb.size) hn)
  go_enter Try.func21, Try.ntmps21
  go_wp2_with (go_at_call 65; refine (HC _ (by (repeat' (first | exact Below.refl _ _ | refine Below.drew ?_ | refine Below.alloc ?_ (by simp <;> omega) _)))).out.mono ?_; rintro e w1 ⟨v, rfl, hown, hbel⟩; obtain ⟨a1, c1, rfl, _⟩ := own_shape hown; have l1_0 := (hbel.cell (p := ⟨w.heap.size + 1, 0, none⟩) (by simp <;> omega)); have f1_0 := (hbel.frozen (p := ⟨w.heap.size + 1, 0, none⟩) (by simp <;> omega)); have l1_1 := (hbel.cell (p := ⟨w.heap.size + 1, 1, none⟩) (by simp <;> omega)); have f1_1 := (hbel.frozen (p := ⟨w.heap.size + 1, 1, none⟩) (by simp <;> omega)); have l1_2 := (hbel.cell (p := ⟨w.heap.size + 1, 2, none⟩) (by simp <;> omega)); have f1_2 := (hbel.frozen (p := ⟨w.heap.size + 1, 2, none⟩) (by simp <;> omega)); have l1_3 := (hbel.cell (p := ⟨w.heap.size + 1, 3, none⟩) (by simp <;> omega)); have f1_3 := (hbel.frozen (p := ⟨w.heap.size + 1, 3, none⟩) (by simp <;> omega)); have l1_4 := (hbel.cell (p := ⟨w.heap.size + 1, 4, none⟩) (by simp <;> omega)); have f1_4 := (hbel.frozen (p := ⟨w.heap.size + 1, 4, none⟩) (by simp <;> omega)); have l2_0 := (hbel.cell (p := ⟨w.heap.size + 1 + 1, 0, none⟩) (by simp <;> omega)); have f2_0 := (hbel.frozen (p := ⟨w.heap.size + 1 + 1, 0, none⟩) (by simp <;> omega)); have l2_1 := (hbel.cell (p := ⟨w.heap.size + 1 + 1, 1, none⟩) (by simp <;> omega)); have f2_1 := (hbel.frozen (p := ⟨w.heap.size + 1 + 1, 1, none⟩) (by simp <;> omega)); have l2_2 := (hbel.cell (p := ⟨w.heap.size + 1 + 1, 2, none⟩) (by simp <;> omega)); have f2_2 := (hbel.frozen (p := ⟨w.heap.size + 1 + 1, 2, none⟩) (by simp <;> omega)); have l2_3 := (hbel.cell (p := ⟨w.heap.size + 1 + 1, 3, none⟩) (by simp <;> omega)); have f2_3 := (hbel.frozen (p := ⟨w.heap.size + 1 + 1, 3, none⟩) (by simp <;> omega)); have l2_4 := (hbel.cell (p := ⟨w.heap.size + 1 + 1, 4, none⟩) (by simp <;> omega)); have f2_4 := (hbel.frozen (p := ⟨w.heap.size + 1 + 1, 4, none⟩) (by simp <;> omega)))
  (try simp only [Exit.inBlock, Exit.then])
  have hbel' : Below w.heap.size _ w1 := hbel.mono (by simp <;> omega)
  refine bodyPost_ret (v := .agg #[.slice a1 xs.length c1, .int .u64 (s.a : Nat), .int .u64 (s.b : Nat), .int .u64 (s.c : Nat), .int .u64 (s.d : Nat)]) (by rw [results_c rfl]; go_simp) rfl ⟨_, _, rfl, ?_, ?_⟩
  · refine own_mono (base := w.heap.size + 1 + 1 + 1) ?_ (by omega)
    iterate 6 refine ownsRow_setCell_below ?_ (by simp <;> omega) _
    simpa using hown
  · iterate 6 refine Below.setCell ?_ (by simp <;> omega) _
    refine Below.trans ?_ hbel'
    (repeat' (first | exact Below.refl _ _ | refine Below.drew ?_ | refine Below.alloc ?_ (by simp <;> omega) _))
end Go.Proofs.Ytiejkdnkdmanmaa
