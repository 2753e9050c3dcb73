/- Walks: rng.Next and rng.Below of whatever arguments, the law's num and wakes. -/
import Derived.Test.YtiejkdnkdmanmaaRngW6
set_option linter.unusedVariables false
set_option linter.unusedSimpArgs false
namespace Go.Proofs.Ytiejkdnkdmanmaa
open Go.RowKit Go.Rt
attribute [local go_sem ↓] Go.wp_at_zero Go.wp_at_succ

/-- What Next and Below hand back: a draw, a generator of its own, an error. -/
def RetOwn (w : World) (y : Int) (xs : List Int) (s : St) (z : Int) (e : Ending) (w' : World) : Prop :=
  ∃ a c, e = .returned (.tuple #[.int .u64 y, .agg #[.slice a xs.length c, .int .u64 (s.a : Nat), .int .u64 (s.b : Nat), .int .u64 (s.c : Nat), .int .u64 (s.d : Nat)], .int .i64 z]) ∧ w'.ownsRow w.heap.size 24 1 (.slice a xs.length c) xs.length (xs.map (Value.int .u64)) ∧ Below w.heap.size w w'

theorem num24_any (x : Int) (w : World) : Calls Try.prog 15 #[.int .i64 x] w fun e w' => e = .returned (.int .i64 x) ∧ w = w' := by
  go_enter Try.func15, Try.ntmps15
  go_wp2
  go_ret
  exact ⟨rfl, rfl⟩


set_option maxRecDepth 100000 in
set_option maxHeartbeats 1000000 in
theorem next_good (a : Option Addr) (c : Nat) (s : St) (xs : List Int)  (w : World) (hi : Ints .u64 w w.heap.size a xs) (hc : xs.length ≤ c) (hc2 : c ≤ 9223372036854775807) (hs : GoodS xs s) (hg4 : xs.length ≤ 4096) :
    Calls Try.prog 16 #[.agg #[.slice a xs.length c, .int .u64 (s.a : Nat), .int .u64 (s.b : Nat), .int .u64 (s.c : Nat), .int .u64 (s.d : Nat)]] w (RetOwn w (gX xs s) (gL xs) (gS xs s) 0) := by
  have hgood : goodR xs.length s = true := by
    unfold goodR
    rw [hs.2.1]
    simp [hg4]
  have hgl : (gL xs).length ≤ 4096 := by unfold gL; simp; omega

  have HG := fun w => Lib.hid (rgood_any a xs.length c s w hs.1 (by omega))
  rw [hgood] at HG
  have HI := Lib.hid hi
  have HS := Lib.hid hs
  clear hi hs
  go_enter Try.func16, Try.ntmps16
  go_wp2_with (first
    | (go_at_call 59; go_loud (refine (HG _).out.mono ?_; rintro e w1 ⟨rfl, hb1⟩; have HB1 := Lib.hid hb1; have hs1 := hb1.size; (try simp at hs1); have BP : Box5 w1 w.heap.size (.slice a xs.length c) (.int .u64 (s.a : Nat)) (.int .u64 (s.b : Nat)) (.int .u64 (s.c : Nat)) (.int .u64 (s.d : Nat)) := Box5.below (by constructor <;> go_simp) hb1 (by first | omega | (simp <;> omega)); have BQ := Lib.hid (Box5.below (b := (w.heap.size + 1)) (v0 := .slice none 0 0) (v1 := .int .u64 0) (v2 := .int .u64 0) (v3 := .int .u64 0) (v4 := .int .u64 0) (by constructor <;> go_simp) hb1 (by first | omega | (simp <;> omega))); obtain ⟨pc0, pc1, pc2, pc3, pc4, pf0, pf1, pf2, pf3, pf4⟩ := BP; clear hb1))
    | (go_at_call 62; go_loud (refine (step_any a c w.heap.size s xs _ HS.out.1 (by first | omega | (simp <;> omega)) (HI.out.below (Below.trans (by (repeat' (first | exact Below.refl _ _ | refine Below.drew ?_ | refine Below.setCell ?_ (by first | omega | (simp <;> omega)) _ | refine Below.alloc ?_ (by first | omega | (simp <;> omega)) _))) (HB1.out.mono (by first | omega | (simp <;> omega)))) (Nat.le_refl _)) hc hc2).mono ?_; rintro e w2 ⟨a2, c2, rfl, hI2, hl2, hc22, hb2⟩; have HB2 := Lib.hid hb2; have HI2 := Lib.hid hI2; have hs2 := hb2.size; (try simp at hs2); have BU := Lib.hid (BQ.out.below hb2 (by first | omega | (simp <;> omega))); clear hb2 hI2))
    | (go_at_call 61; go_loud (refine (own_any a2 c2 (gL xs) (gS xs s) _ ((HI2.out.below (hi := w.heap.size) (by (repeat' (first | exact Below.refl _ _ | refine Below.drew ?_ | refine Below.setCell ?_ (by first | omega | (simp <;> omega)) _ | refine Below.alloc ?_ (by first | omega | (simp <;> omega)) _))) (Nat.le_refl _)).mono (by first | omega | (simp <;> omega))) (by omega)).mono ?_; rintro e w3 ⟨a3, c3, rfl, hown, hb3⟩; have HO3 := Lib.hid hown; have HB3 := Lib.hid hb3; have BV := (BU.out.below (n := w2.heap.size) (by (repeat' (first | exact Below.refl _ _ | refine Below.drew ?_ | refine Below.setCell ?_ (by first | omega | (simp <;> omega)) _ | refine Below.alloc ?_ (by first | omega | (simp <;> omega)) _))) (by first | omega | (simp <;> omega))).below hb3 (by first | omega | (simp <;> omega)); obtain ⟨vc0, vc1, vc2, vc3, vc4, vf0, vf1, vf2, vf3, vf4⟩ := BV; clear hown hb3)))
  (try simp only [Exit.inBlock, Exit.then])
  refine bodyPost_ret (v := .tuple #[.int .u64 (gX xs s), .agg #[.slice a3 (gL xs).length c3, .int .u64 ((gS xs s).a : Nat), .int .u64 ((gS xs s).b : Nat), .int .u64 ((gS xs s).c : Nat), .int .u64 ((gS xs s).d : Nat)], .int .i64 0]) (by rw [results_tct rfl]; go_simp) rfl ⟨_, _, rfl, ?_, ?_⟩
  · refine own_mono (base := w2.heap.size + 1) ?_ (by first | omega | (simp <;> omega))
    iterate 5 refine ownsRow_setCell_below ?_ (by first | omega | (simp <;> omega)) _
    simpa using HO3.out
  · iterate 5 refine Below.setCell ?_ (by first | omega | (simp <;> omega)) _
    exact Below.trans (Below.trans (by (repeat' (first | exact Below.refl _ _ | refine Below.drew ?_ | refine Below.setCell ?_ (by first | omega | (simp <;> omega)) _ | refine Below.alloc ?_ (by first | omega | (simp <;> omega)) _))) (HB1.out.mono (by first | omega | (simp <;> omega)))) (Below.trans (HB2.out.mono (by first | omega | (simp <;> omega))) (Below.trans (by (repeat' (first | exact Below.refl _ _ | refine Below.drew ?_ | refine Below.setCell ?_ (by first | omega | (simp <;> omega)) _ | refine Below.alloc ?_ (by first | omega | (simp <;> omega)) _))) (HB3.out.mono (by first | omega | (simp <;> omega)))))

set_option maxRecDepth 100000 in
set_option maxHeartbeats 1000000 in
theorem below_good (a : Option Addr) (c : Nat) (s : St) (xs : List Int) (n : Int) (k : Nat) (w : World) (hi : Ints .u64 w w.heap.size a xs) (hc : xs.length ≤ c) (hc2 : c ≤ 9223372036854775807) (hs : GoodS xs s) (hg4 : xs.length ≤ 4096) (h1 : 1 ≤ n) (h2 : n ≤ 18446744073709551615) (hrej : ∀ j, j < k → takes n (genX xs s j) = false) (hacc : takes n (genX xs s k) = true) :
    Calls Try.prog 14 #[.agg #[.slice a xs.length c, .int .u64 (s.a : Nat), .int .u64 (s.b : Nat), .int .u64 (s.c : Nat), .int .u64 (s.d : Nat)], .int .u64 n] w (RetOwn w (genX xs s k % n) (gen xs s (k + 1)).1 (gen xs s (k + 1)).2 0) := by
  have hgood : goodR xs.length s = true := by
    unfold goodR
    rw [hs.2.1]
    simp [hg4]
  have hgl : (gen xs s (k + 1)).1.length ≤ 4096 := by rw [gen_len]; omega
  have hn0 : (n == 0) = false := by simp; omega
  have HR := Lib.hid hrej
  have HA := Lib.hid hacc
  clear hrej hacc

  have HG := fun w => Lib.hid (rgood_any a xs.length c s w hs.1 (by omega))
  rw [hgood] at HG
  have HI := Lib.hid hi
  have HS := Lib.hid hs
  clear hi hs
  go_enter Try.func14, Try.ntmps14
  go_wp2_with (first
    | (go_at_call 59; go_loud (refine (HG _).out.mono ?_; rintro e w1 ⟨rfl, hb1⟩; have HB1 := Lib.hid hb1; have hs1 := hb1.size; (try simp at hs1); have BP : Box5 w1 w.heap.size (.slice a xs.length c) (.int .u64 (s.a : Nat)) (.int .u64 (s.b : Nat)) (.int .u64 (s.c : Nat)) (.int .u64 (s.d : Nat)) := Box5.below (by constructor <;> go_simp) hb1 (by first | omega | (simp <;> omega)); have BQ := Lib.hid (Box5.below (b := (w.heap.size + 1)) (v0 := .slice none 0 0) (v1 := .int .u64 0) (v2 := .int .u64 0) (v3 := .int .u64 0) (v4 := .int .u64 0) (by constructor <;> go_simp) hb1 (by first | omega | (simp <;> omega))); obtain ⟨pc0, pc1, pc2, pc3, pc4, pf0, pf1, pf2, pf3, pf4⟩ := BP; clear hb1))
    | (go_at_call 60; go_loud (refine (draw_any a c s xs n k _ HS.out ((HI.out.below (Below.trans (by (repeat' (first | exact Below.refl _ _ | refine Below.drew ?_ | refine Below.setCell ?_ (by first | omega | (simp <;> omega)) _ | refine Below.alloc ?_ (by first | omega | (simp <;> omega)) _))) (HB1.out.mono (by first | omega | (simp <;> omega)))) (Nat.le_refl _)).mono (by first | omega | (simp <;> omega))) hc hc2 h1 h2 HR.out HA.out).mono ?_; rintro e w2 ⟨a2, c2, rfl, hI2, hl2, hc22, hb2⟩; have HB2 := Lib.hid hb2; have HI2 := Lib.hid hI2; have hs2 := hb2.size; (try simp at hs2); have BU := Lib.hid (BQ.out.below hb2 (by first | omega | (simp <;> omega))); clear hb2 hI2))
    | (go_at_call 61; go_loud (refine (own_any a2 c2 (gen xs s (k + 1)).1 (gen xs s (k + 1)).2 _ ((HI2.out.below (hi := w1.heap.size) (by (repeat' (first | exact Below.refl _ _ | refine Below.drew ?_ | refine Below.setCell ?_ (by first | omega | (simp <;> omega)) _ | refine Below.alloc ?_ (by first | omega | (simp <;> omega)) _))) (Nat.le_refl _)).mono (by first | omega | (simp <;> omega))) (by omega)).mono ?_; rintro e w3 ⟨a3, c3, rfl, hown, hb3⟩; have HO3 := Lib.hid hown; have HB3 := Lib.hid hb3; have BV := (BU.out.below (n := w2.heap.size) (by (repeat' (first | exact Below.refl _ _ | refine Below.drew ?_ | refine Below.setCell ?_ (by first | omega | (simp <;> omega)) _ | refine Below.alloc ?_ (by first | omega | (simp <;> omega)) _))) (by first | omega | (simp <;> omega))).below hb3 (by first | omega | (simp <;> omega)); obtain ⟨vc0, vc1, vc2, vc3, vc4, vf0, vf1, vf2, vf3, vf4⟩ := BV; clear hown hb3)))
  (try simp only [Exit.inBlock, Exit.then])
  refine bodyPost_ret (v := .tuple #[.int .u64 (genX xs s k % n), .agg #[.slice a3 (gen xs s (k + 1)).1.length c3, .int .u64 ((gen xs s (k + 1)).2.a : Nat), .int .u64 ((gen xs s (k + 1)).2.b : Nat), .int .u64 ((gen xs s (k + 1)).2.c : Nat), .int .u64 ((gen xs s (k + 1)).2.d : Nat)], .int .i64 0]) (by rw [results_tct rfl]; go_simp) rfl ⟨_, _, rfl, ?_, ?_⟩
  · refine own_mono (base := w2.heap.size + 1) ?_ (by first | omega | (simp <;> omega))
    iterate 5 refine ownsRow_setCell_below ?_ (by first | omega | (simp <;> omega)) _
    simpa using HO3.out
  · iterate 5 refine Below.setCell ?_ (by first | omega | (simp <;> omega)) _
    exact Below.trans (Below.trans (by (repeat' (first | exact Below.refl _ _ | refine Below.drew ?_ | refine Below.setCell ?_ (by first | omega | (simp <;> omega)) _ | refine Below.alloc ?_ (by first | omega | (simp <;> omega)) _))) (HB1.out.mono (by first | omega | (simp <;> omega)))) (Below.trans (HB2.out.mono (by first | omega | (simp <;> omega))) (Below.trans (by (repeat' (first | exact Below.refl _ _ | refine Below.drew ?_ | refine Below.setCell ?_ (by first | omega | (simp <;> omega)) _ | refine Below.alloc ?_ (by first | omega | (simp <;> omega)) _))) (HB3.out.mono (by first | omega | (simp <;> omega)))))

set_option maxRecDepth 100000 in
theorem next_bad (a : Option Addr) (c : Nat) (s : St) (xs : List Int)  (w : World) (hs : s.ok) (hl : xs.length ≤ 9223372036854775807) (hg : goodR xs.length s = false) :
    Calls Try.prog 16 #[.agg #[.slice a xs.length c, .int .u64 (s.a : Nat), .int .u64 (s.b : Nat), .int .u64 (s.c : Nat), .int .u64 (s.d : Nat)]] w (RetOwn w 0 [] ⟨0, 0, 0, 0⟩ 1) := by
  have HG := fun w => Lib.hid (rgood_any a xs.length c s w hs hl)
  rw [hg] at HG
  go_enter Try.func16, Try.ntmps16
  go_wp2_with (go_at_call 59; go_loud (refine (HG _).out.mono ?_; rintro e w1 ⟨rfl, hb1⟩; have HB1 := Lib.hid hb1; have hs1 := hb1.size; (try simp at hs1); have BQ := (Box5.below (b := (w.heap.size + 1)) (v0 := .slice none 0 0) (v1 := .int .u64 0) (v2 := .int .u64 0) (v3 := .int .u64 0) (v4 := .int .u64 0) (by constructor <;> go_simp) hb1 (by first | omega | (simp <;> omega))); obtain ⟨qc0, qc1, qc2, qc3, qc4, qf0, qf1, qf2, qf3, qf4⟩ := BQ; clear hb1))
  (try simp only [Exit.inBlock, Exit.then])
  refine bodyPost_ret (v := .tuple #[.int .u64 0, .agg #[.slice none 0 0, .int .u64 0, .int .u64 0, .int .u64 0, .int .u64 0], .int .i64 1]) (by rw [results_tct rfl]; go_simp) rfl ⟨none, 0, rfl, World.ownsRow_nil _ _ _ _, ?_⟩
  iterate 5 refine Below.setCell ?_ (by first | omega | (simp <;> omega)) _
  exact Below.trans (by (repeat' (first | exact Below.refl _ _ | refine Below.drew ?_ | refine Below.setCell ?_ (by first | omega | (simp <;> omega)) _ | refine Below.alloc ?_ (by first | omega | (simp <;> omega)) _))) (HB1.out.mono (by first | omega | (simp <;> omega)))

set_option maxRecDepth 100000 in
theorem below_bad (a : Option Addr) (c : Nat) (s : St) (xs : List Int) (n : Int) (w : World) (hs : s.ok) (hl : xs.length ≤ 9223372036854775807) (hg : goodR xs.length s = false) :
    Calls Try.prog 14 #[.agg #[.slice a xs.length c, .int .u64 (s.a : Nat), .int .u64 (s.b : Nat), .int .u64 (s.c : Nat), .int .u64 (s.d : Nat)], .int .u64 n] w (RetOwn w 0 [] ⟨0, 0, 0, 0⟩ 1) := by
  have HG := fun w => Lib.hid (rgood_any a xs.length c s w hs hl)
  rw [hg] at HG
  go_enter Try.func14, Try.ntmps14
  go_wp2_with (go_at_call 59; go_loud (refine (HG _).out.mono ?_; rintro e w1 ⟨rfl, hb1⟩; have HB1 := Lib.hid hb1; have hs1 := hb1.size; (try simp at hs1); have BQ := (Box5.below (b := (w.heap.size + 1)) (v0 := .slice none 0 0) (v1 := .int .u64 0) (v2 := .int .u64 0) (v3 := .int .u64 0) (v4 := .int .u64 0) (by constructor <;> go_simp) hb1 (by first | omega | (simp <;> omega))); obtain ⟨qc0, qc1, qc2, qc3, qc4, qf0, qf1, qf2, qf3, qf4⟩ := BQ; clear hb1))
  (try simp only [Exit.inBlock, Exit.then])
  refine bodyPost_ret (v := .tuple #[.int .u64 0, .agg #[.slice none 0 0, .int .u64 0, .int .u64 0, .int .u64 0, .int .u64 0], .int .i64 1]) (by rw [results_tct rfl]; go_simp) rfl ⟨none, 0, rfl, World.ownsRow_nil _ _ _ _, ?_⟩
  iterate 5 refine Below.setCell ?_ (by first | omega | (simp <;> omega)) _
  exact Below.trans (by (repeat' (first | exact Below.refl _ _ | refine Below.drew ?_ | refine Below.setCell ?_ (by first | omega | (simp <;> omega)) _ | refine Below.alloc ?_ (by first | omega | (simp <;> omega)) _))) (HB1.out.mono (by first | omega | (simp <;> omega)))

set_option maxRecDepth 100000 in
theorem below_zero (a : Option Addr) (c : Nat) (s : St) (xs : List Int)  (w : World) (hs : s.ok) (hl : xs.length ≤ 9223372036854775807) (hg : goodR xs.length s = true) :
    Calls Try.prog 14 #[.agg #[.slice a xs.length c, .int .u64 (s.a : Nat), .int .u64 (s.b : Nat), .int .u64 (s.c : Nat), .int .u64 (s.d : Nat)], .int .u64 0] w (RetOwn w 0 [] ⟨0, 0, 0, 0⟩ 1) := by
  have HG := fun w => Lib.hid (rgood_any a xs.length c s w hs hl)
  rw [hg] at HG
  go_enter Try.func14, Try.ntmps14
  go_wp2_with (go_at_call 59; go_loud (refine (HG _).out.mono ?_; rintro e w1 ⟨rfl, hb1⟩; have HB1 := Lib.hid hb1; have hs1 := hb1.size; (try simp at hs1); have BQ := (Box5.below (b := (w.heap.size + 1)) (v0 := .slice none 0 0) (v1 := .int .u64 0) (v2 := .int .u64 0) (v3 := .int .u64 0) (v4 := .int .u64 0) (by constructor <;> go_simp) hb1 (by first | omega | (simp <;> omega))); obtain ⟨qc0, qc1, qc2, qc3, qc4, qf0, qf1, qf2, qf3, qf4⟩ := BQ; clear hb1))
  (try simp only [Exit.inBlock, Exit.then])
  refine bodyPost_ret (v := .tuple #[.int .u64 0, .agg #[.slice none 0 0, .int .u64 0, .int .u64 0, .int .u64 0, .int .u64 0], .int .i64 1]) (by rw [results_tct rfl]; go_simp) rfl ⟨none, 0, rfl, World.ownsRow_nil _ _ _ _, ?_⟩
  iterate 5 refine Below.setCell ?_ (by first | omega | (simp <;> omega)) _
  exact Below.trans (by (repeat' (first | exact Below.refl _ _ | refine Below.drew ?_ | refine Below.setCell ?_ (by first | omega | (simp <;> omega)) _ | refine Below.alloc ?_ (by first | omega | (simp <;> omega)) _))) (HB1.out.mono (by first | omega | (simp <;> omega)))

end Go.Proofs.Ytiejkdnkdmanmaa
