/- Walks: rng.Draw, a loop over the iterator. -/
import Derived.Test.YtiejkdnkdmanmaaRngW5
import Derived.WalkMore
import Derived.Deep.AppendLies
import Derived.Test.YtiejkdnkdmanmaaRangeStop
set_option linter.unusedVariables false
set_option linter.unusedSimpArgs false
namespace Go.Rt
open Go.RowKit
theorem Box5.grown {w w' : World} {b : Nat} {row : Option Nat} {v0 v1 v2 v3 v4 : Value} (h : Box5 w b v0 v1 v2 v3 v4) (hg : w.grownBy w' row) (hlt : b < w.heap.size) (hne : some b ≠ row) : Box5 w' b v0 v1 v2 v3 v4 :=
  ⟨(hg.cell_far ⟨b, 0, none⟩ hlt hne).trans h.c0, (hg.cell_far ⟨b, 1, none⟩ hlt hne).trans h.c1, (hg.cell_far ⟨b, 2, none⟩ hlt hne).trans h.c2, (hg.cell_far ⟨b, 3, none⟩ hlt hne).trans h.c3, (hg.cell_far ⟨b, 4, none⟩ hlt hne).trans h.c4,
   (hg.frozen_far ⟨b, 0, none⟩ hlt hne).trans h.f0, (hg.frozen_far ⟨b, 1, none⟩ hlt hne).trans h.f1, (hg.frozen_far ⟨b, 2, none⟩ hlt hne).trans h.f2, (hg.frozen_far ⟨b, 3, none⟩ hlt hne).trans h.f3, (hg.frozen_far ⟨b, 4, none⟩ hlt hne).trans h.f4⟩
theorem Ints.grown {k : IntKind} {w w' : World} {hi : Nat} {row : Option Nat} {a : Option Addr} {xs : List Int} (h : Ints k w hi a xs) (hg : w.grownBy w' row) (hlt : hi ≤ w.heap.size) (hne : ∀ r, row = some r → hi ≤ r) : Ints k w' hi a xs :=
  ⟨h.len, h.wf, fun i hi' => by
    obtain ⟨b, off, ha, hb, hc⟩ := h.cell i hi'
    exact ⟨b, off, ha, hb, (hg.cell_far ⟨b, off + i, none⟩ (by show b < _; omega) (fun e => by have := hne b e.symm; omega)).trans hc⟩⟩
theorem below_grown {n : Nat} {a w w' : World} {row : Option Nat} (h : Below n a w) (hn : n ≤ w.heap.size) (hg : w.grownBy w' row) (hne : ∀ r, row = some r → n ≤ r) : Below n a w' :=
  h.grown hg hn hne

theorem heap_two (w : World) (o1 o2 : Obj) (D : Nat) (h : w.heap.size = D) : ((w.alloc o1).alloc o2).heap[D + 1]? = some o2 ∧ ((w.alloc o1).alloc o2).heap[D]? = some o1 := by
  subst h
  constructor
  · have := World.alloc_heap_new (w.alloc o1) o2
    rwa [World.size_alloc] at this
  · exact (Below.heap_alloc _ _ _ (by simp)).trans (World.alloc_heap_new w _)
end Go.Rt
namespace Go.Proofs.Ytiejkdnkdmanmaa
open Go.RowKit Go.Rt
attribute [local go_sem] Oper.semAt_some
attribute [local go_sem ↓] Go.wp_at_zero Go.wp_at_succ


theorem draw_taken (w V : World) (hi0 : Nat) (hhi : hi0 ≤ w.heap.size) (R : LoopState → Option Code → Loop) (X n : Int) (G : List Int × St) (a0 : Option Addr) (c0 : Nat) (y v0 v1 v2 v3 v4 u0 u1 u2 u3 u4 : Value) (h1 : 1 ≤ n) (hx0 : 0 ≤ X)
    (HLV : V.heap[w.heap.size + 6 + 1]? = some (.loop (R .busy none))) (HDV : V.heap[w.heap.size + 6]? = some (.deferred (some []))) (HBV : Below w.heap.size w V)
    (HRV : Box5 V (w.heap.size + 1 + 1) v0 v1 v2 v3 v4) (HGV : Box5 V w.heap.size u0 u1 u2 u3 u4) (HIV : Ints .u64 V hi0 a0 G.1)
    (hl : G.1.length ≤ c0) (hcm : c0 ≤ 9223372036854775807) (hsz : w.heap.size + 8 ≤ V.heap.size)
    (m7 : V.cell? ⟨w.heap.size + 1 + 1 + 1 + 1, 0, none⟩ = some y) (m8 : V.frozen? ⟨w.heap.size + 1 + 1 + 1 + 1, 0, none⟩ = false) (U : World)
    (hU : (set5 (V.setCell ⟨w.heap.size + 1 + 1 + 1 + 1, 0, none⟩ (.int .u64 (X.tmod n))) w.heap.size (.slice a0 G.1.length c0) (.int .u64 (G.2.a : Nat)) (.int .u64 (G.2.b : Nat)) (.int .u64 (G.2.c : Nat)) (.int .u64 (G.2.d : Nat))).drew = U) :
    U.heap[w.heap.size + 6 + 1]? = some (.loop (R .busy none)) ∧
    ∃ cc, (cc = Code.exit 0 ∧ (U.putObj (w.heap.size + 6 + 1) (.loop (R .done (some (.exit 0))))).heap[w.heap.size + 6]? = some (.deferred (some [])) ∧
      Below w.heap.size w (U.putObj (w.heap.size + 6 + 1) (.loop (R .done (some (.exit 0))))) ∧ w.heap.size + 8 ≤ U.heap.size ∧
      (U.putObj (w.heap.size + 6 + 1) (.loop (R .done (some (.exit 0))))).cell? ⟨w.heap.size + 1 + 1 + 1 + 1, 0, none⟩ = some (.int .u64 (X % n)) ∧
      (∃ v0 v1 v2 v3 v4, Box5 (U.putObj (w.heap.size + 6 + 1) (.loop (R .done (some (.exit 0))))) (w.heap.size + 1 + 1) v0 v1 v2 v3 v4) ∧
      ∃ a1 c1, Box5 (U.putObj (w.heap.size + 6 + 1) (.loop (R .done (some (.exit 0))))) w.heap.size (.slice a1 G.1.length c1) (.int .u64 (G.2.a : Nat)) (.int .u64 (G.2.b : Nat)) (.int .u64 (G.2.c : Nat)) (.int .u64 (G.2.d : Nat)) ∧
        Ints .u64 (U.putObj (w.heap.size + 6 + 1) (.loop (R .done (some (.exit 0))))) hi0 a1 G.1 ∧ G.1.length ≤ c1 ∧ c1 ≤ 9223372036854775807) ∧
      (U.putObj (w.heap.size + 6 + 1) (.loop (R .done (some (.exit 0))))).heap[w.heap.size + 6 + 1]? = some (.loop (R .done (some cc))) := by
  have hy : (V.setCell ⟨w.heap.size + 1 + 1 + 1 + 1, 0, none⟩ (.int .u64 (X.tmod n))).cell? ⟨w.heap.size + 1 + 1 + 1 + 1, 0, none⟩ = some (.int .u64 (X.tmod n)) := by go_simp
  obtain ⟨V1, hV1⟩ : ∃ V1, V.setCell ⟨w.heap.size + 1 + 1 + 1 + 1, 0, none⟩ (.int .u64 (X.tmod n)) = V1 := ⟨_, rfl⟩
  rw [hV1] at hy
  have hg1 : V.grownBy V1 (some (w.heap.size + 1 + 1 + 1 + 1)) := by rw [← hV1]; exact Go.Lib.grownBy_setCell _ _ _ _
  rw [Int.tmod_eq_emod_of_nonneg hx0] at hy
  have hs1 := hg1.size
  have hB1 : Box5 V1 w.heap.size u0 u1 u2 u3 u4 := HGV.grown hg1 (by omega) (by simp; omega)
  rw [hV1] at hU
  obtain ⟨V2, hV2⟩ : ∃ V2, set5 V1 w.heap.size (.slice a0 G.1.length c0) (.int .u64 (G.2.a : Nat)) (.int .u64 (G.2.b : Nat)) (.int .u64 (G.2.c : Nat)) (.int .u64 (G.2.d : Nat)) = V2 := ⟨_, rfl⟩
  have hg2' : V1.grownBy V2 (some w.heap.size) := by rw [← hV2]; exact grown_set5 _ _ _ _ _ _ _
  have hB2' : Box5 V2 w.heap.size (.slice a0 G.1.length c0) (.int .u64 (G.2.a : Nat)) (.int .u64 (G.2.b : Nat)) (.int .u64 (G.2.c : Nat)) (.int .u64 (G.2.d : Nat)) := by rw [← hV2]; exact hB1.set _ _ _ _ _
  rw [hV2] at hU
  have hg2 : V1.grownBy U (some w.heap.size) := by rw [← hU]; exact ⟨hg2'.os, hg2'.tape, hg2'.output, hg2'.size, hg2'.block⟩
  have hB2 : Box5 U w.heap.size (.slice a0 G.1.length c0) (.int .u64 (G.2.a : Nat)) (.int .u64 (G.2.b : Nat)) (.int .u64 (G.2.c : Nat)) (.int .u64 (G.2.d : Nat)) := by rw [← hU]; exact ⟨hB2'.c0, hB2'.c1, hB2'.c2, hB2'.c3, hB2'.c4, hB2'.f0, hB2'.f1, hB2'.f2, hB2'.f3, hB2'.f4⟩
  have hs2 := hg2.size
  have hlU : U.heap[w.heap.size + 6 + 1]? = some (.loop (R .busy none)) := (hg2.block _ (by omega) (by simp <;> omega)).trans ((hg1.block _ (by omega) (by simp)).trans HLV)
  refine ⟨hlU, .exit 0, ⟨rfl, ?_⟩, World.putObj_heap_same (by omega)⟩
  obtain ⟨ob, hob⟩ : ∃ ob, Obj.loop (R .done (some (.exit 0))) = ob := ⟨_, rfl⟩
  rw [hob]
  have hg3 := grownBy_putObj' U (w.heap.size + 6 + 1) ob
  obtain ⟨V3, hV3⟩ : ∃ V3, U.putObj (w.heap.size + 6 + 1) ob = V3 := ⟨_, rfl⟩
  rw [hV3] at hg3 ⊢
  refine ⟨(hg3.block _ (by omega) (by simp)).trans ((hg2.block _ (by omega) (by simp <;> omega)).trans ((hg1.block _ (by omega) (by simp)).trans HDV)),
    below_grown (below_grown (below_grown HBV (by omega) hg1 (by intro r e; simp at e; omega)) (by omega) hg2 (by intro r e; simp at e; omega)) (by omega) hg3 (by intro r e; simp at e; omega), by omega,
    (hg3.cell_far ⟨w.heap.size + 1 + 1 + 1 + 1, 0, none⟩ (by show w.heap.size + 1 + 1 + 1 + 1 < _; omega) (by simp)).trans ((hg2.cell_far ⟨w.heap.size + 1 + 1 + 1 + 1, 0, none⟩ (by show w.heap.size + 1 + 1 + 1 + 1 < _; omega) (by simp; omega)).trans hy),
    ⟨v0, v1, v2, v3, v4, ((HRV.grown hg1 (by omega) (by simp)).grown hg2 (by omega) (by simp; omega)).grown hg3 (by omega) (by simp)⟩,
    a0, c0, hB2.grown hg3 (by omega) (by simp <;> omega),
    Ints.grown (Ints.grown (Ints.grown HIV hg1 (by omega) (by intro r e; simp at e; omega)) hg2 (by omega) (by intro r e; simp at e; omega)) hg3 (by omega) (by intro r e; simp at e; omega), hl, hcm⟩


theorem draw_passed (w V : World) (ob : Obj) (n o : Int) (y v0 v1 v2 v3 v4 u0 u1 u2 u3 u4 : Value)
    (HDV : V.heap[w.heap.size + 6]? = some (.deferred (some []))) (HBV : Below w.heap.size w V)
    (HRV : Box5 V (w.heap.size + 1 + 1) v0 v1 v2 v3 v4) (HGV : Box5 V w.heap.size u0 u1 u2 u3 u4) (hsz : w.heap.size + 8 ≤ V.heap.size)
    (m5 : V.cell? ⟨w.heap.size + 1, 0, none⟩ = some (.int .u64 n)) (m6 : V.cell? ⟨w.heap.size + 1 + 1 + 1, 0, none⟩ = some (.int .u64 o))
    (m7 : V.cell? ⟨w.heap.size + 1 + 1 + 1 + 1, 0, none⟩ = some y) (m8 : V.frozen? ⟨w.heap.size + 1 + 1 + 1 + 1, 0, none⟩ = false) :
    (V.putObj (w.heap.size + 6 + 1) ob).heap[w.heap.size + 6 + 1]? = some ob ∧ (V.putObj (w.heap.size + 6 + 1) ob).heap[w.heap.size + 6]? = some (.deferred (some [])) ∧
    w.heap.size + 8 ≤ V.heap.size ∧ Below w.heap.size w (V.putObj (w.heap.size + 6 + 1) ob) ∧ (V.putObj (w.heap.size + 6 + 1) ob).cell? ⟨w.heap.size + 1, 0, none⟩ = some (.int .u64 n) ∧
    (V.putObj (w.heap.size + 6 + 1) ob).cell? ⟨w.heap.size + 1 + 1 + 1, 0, none⟩ = some (.int .u64 o) ∧ (∃ y, (V.putObj (w.heap.size + 6 + 1) ob).cell? ⟨w.heap.size + 1 + 1 + 1 + 1, 0, none⟩ = some y) ∧
    (V.putObj (w.heap.size + 6 + 1) ob).frozen? ⟨w.heap.size + 1 + 1 + 1 + 1, 0, none⟩ = false ∧
    (∃ v0 v1 v2 v3 v4, Box5 (V.putObj (w.heap.size + 6 + 1) ob) (w.heap.size + 1 + 1) v0 v1 v2 v3 v4) ∧ ∃ v0 v1 v2 v3 v4, Box5 (V.putObj (w.heap.size + 6 + 1) ob) w.heap.size v0 v1 v2 v3 v4 := by
  have hg := grownBy_putObj' V (w.heap.size + 6 + 1) ob
  refine ⟨World.putObj_heap_same (by omega), (hg.block _ (by omega) (by simp)).trans HDV, hsz, below_grown HBV (by omega) hg (by intro r e; simp at e; omega),
    (hg.cell_far ⟨w.heap.size + 1, 0, none⟩ (by show w.heap.size + 1 < _; omega) (by simp)).trans m5, (hg.cell_far ⟨w.heap.size + 1 + 1 + 1, 0, none⟩ (by show w.heap.size + 1 + 1 + 1 < _; omega) (by simp)).trans m6,
    ⟨y, (hg.cell_far ⟨w.heap.size + 1 + 1 + 1 + 1, 0, none⟩ (by show w.heap.size + 1 + 1 + 1 + 1 < _; omega) (by simp)).trans m7⟩, (hg.frozen_far ⟨w.heap.size + 1 + 1 + 1 + 1, 0, none⟩ (by show w.heap.size + 1 + 1 + 1 + 1 < _; omega) (by simp)).trans m8,
    ⟨v0, v1, v2, v3, v4, HRV.grown hg (by omega) (by simp)⟩, ⟨u0, u1, u2, u3, u4, HGV.grown hg (by omega) (by simp; omega)⟩⟩

set_option maxRecDepth 100000 in
set_option maxHeartbeats 1000000 in
theorem draw_at (hi0 : Nat) (a : Option Addr) (c : Nat) (s : St) (xs : List Int) (n : Int) (k : Nat) (w : World) (hs : GoodS xs s) (hhi : hi0 ≤ w.heap.size) (hi : Ints .u64 w hi0 a xs) (hc : xs.length ≤ c) (hc2 : c ≤ 9223372036854775807) (h1 : 1 ≤ n) (h2 : n ≤ 18446744073709551615)
    (hrej : ∀ j, j < k → takes n (genX xs s j) = false) (hacc : takes n (genX xs s k) = true) :
    Calls Try.prog 60 #[.agg #[.slice a xs.length c, .int .u64 (s.a : Nat), .int .u64 (s.b : Nat), .int .u64 (s.c : Nat), .int .u64 (s.d : Nat)], .int .u64 n] w (RetRand w hi0 (genX xs s k % n) (gen xs s (k + 1)).1 (gen xs s (k + 1)).2) := by
  have hm0 := Int.emod_nonneg 18446744073709551615 (show n ≠ 0 by omega)
  have hm1 := Int.emod_lt_of_pos 18446744073709551615 (show 0 < n by omega)
  have HW : IntKind.u64.wrap (18446744073709551615 % n + 1) = 18446744073709551615 % n + 1 := by rw [wrap_u64]; omega
  obtain ⟨o, ho⟩ : ∃ y, leftN n = y := ⟨_, rfl⟩
  have HW2 : (18446744073709551615 % n + 1) % n = o := by rw [← ho]; rfl
  have hn0 : (n == 0) = false := by simp; omega
  have hn1 : ¬ n = 0 := by omega
  have HREJ := Lib.hid hrej
  have HACC := Lib.hid hacc
  have HS := Lib.hid hs
  have HO := Lib.hid ho
  clear hrej hacc hs ho
  refine (callsIn_wide (n := 9)).1 ?_
  refine callsIn_of_wp_marks Try.func60 rfl trivial ?_ rfl
  simp only [Try.ntmps60, List.size_toArray, List.length_cons, List.length_nil, Nat.reduceAdd, Nat.reduceSub, Array.replicate_succ, Array.replicate_zero, List.push_toArray, List.append_toArray, List.nil_append, List.cons_append]
  refine wpIn_wide.2 ?_
  go_wp2
  go_step3
  go_wp2
  go_region
  go_wp2
  go_step3
  go_wp2_with (go_at_call 83; refine (draws_any a xs.length c s _).mono ?_; rintro e w' ⟨rfl, rfl⟩)
  refine wpIn_wide.1 (wpIn_rangeFunc_stop (n := 9) rfl (by omega) (gf := 92) (lb := #[.pointer (some ⟨w.heap.size + 1 + 1 + 1 + 1 + 1, 0, none⟩)]) rfl trivial (enters_of Try.func92 (by kernel_rfl) rfl) (w.heap.size + 6) (by simp)
    (fun cc W => cc = .exit 0 ∧ W.heap[w.heap.size + 6]? = some (.deferred (some [])) ∧ Below w.heap.size w W ∧ w.heap.size + 8 ≤ W.heap.size ∧ W.cell? ⟨w.heap.size + 1 + 1 + 1 + 1, 0, none⟩ = some (.int .u64 (genX xs s k % n)) ∧ (∃ v0 v1 v2 v3 v4, Box5 W (w.heap.size + 1 + 1) v0 v1 v2 v3 v4) ∧
      ∃ a1 c1, Box5 W w.heap.size (.slice a1 (gen xs s (k + 1)).1.length c1) (.int .u64 ((gen xs s (k + 1)).2.a : Nat)) (.int .u64 ((gen xs s (k + 1)).2.b : Nat)) (.int .u64 ((gen xs s (k + 1)).2.c : Nat)) (.int .u64 ((gen xs s (k + 1)).2.d : Nat)) ∧ Ints .u64 W hi0 a1 (gen xs s (k + 1)).1 ∧ (gen xs s (k + 1)).1.length ≤ c1 ∧ c1 ≤ 9223372036854775807) ?hcall ?hstop)
  case hstop =>
    rintro cc W2 ob ⟨rfl, hD, hbel, hsz, hy, ⟨v0, v1, v2, v3, v4, hres⟩, a1, c1, hbox, hI, hl1, hc1⟩
    have hg := grownBy_putObj' W2 (w.heap.size + 6 + 1) ob
    obtain ⟨W3, hW3⟩ : ∃ W3, W2.putObj (w.heap.size + 6 + 1) ob = W3 := ⟨_, rfl⟩
    rw [hW3] at hg ⊢
    have hsz3 := hg.size
    have hD3 : W3.heap[w.heap.size + 6]? = some (.deferred (some [])) := (hg.block _ (by omega) (by simp)).trans hD
    have HB3 := Lib.hid (hbox.grown hg (by omega) (by simp; omega))
    have HR3 := Lib.hid (hres.grown hg (by omega) (by simp))
    have HI3 := Lib.hid (Ints.grown hI hg (by omega) (by intro r e; simp at e; omega))
    have HBEL3 := Lib.hid (below_grown hbel (by omega) hg (by intro r e; simp at e; omega))
    have hy3 := (hg.cell_far ⟨w.heap.size + 1 + 1 + 1 + 1, 0, none⟩ (by show w.heap.size + 1 + 1 + 1 + 1 < _; omega) (by simp)).trans hy
    clear hbox hres hI hbel hy hD hg hW3
    obtain ⟨b0, b1, b2, b3, b4, _, _, _, _, _⟩ := HB3.out
    obtain ⟨r0, r1, r2, r3, r4, g0, g1, g2, g3, g4⟩ := HR3.out
    refine wpIn_wide.2 ?_
    go_wp2
    go_region
    go_wp2
    (try simp only [Exit.inBlock, Exit.then, Exit.noGoto])
    obtain ⟨V, hV⟩ : ∃ V, V = set5 W3 (w.heap.size + 1 + 1) (.slice a1 (gen xs s (k + 1)).1.length c1) (.int .u64 ((gen xs s (k + 1)).2.a : Nat)) (.int .u64 ((gen xs s (k + 1)).2.b : Nat)) (.int .u64 ((gen xs s (k + 1)).2.c : Nat)) (.int .u64 ((gen xs s (k + 1)).2.d : Nat)) := ⟨_, rfl⟩
    have hgV : W3.grownBy V (some (w.heap.size + 1 + 1)) := by rw [hV]; exact grown_set5 _ _ _ _ _ _ _
    have hbV : Box5 V (w.heap.size + 1 + 1) (.slice a1 (gen xs s (k + 1)).1.length c1) (.int .u64 ((gen xs s (k + 1)).2.a : Nat)) (.int .u64 ((gen xs s (k + 1)).2.b : Nat)) (.int .u64 ((gen xs s (k + 1)).2.c : Nat)) (.int .u64 ((gen xs s (k + 1)).2.d : Nat)) := by rw [hV]; exact HR3.out.set _ _ _ _ _
    have hDV : V.drew.heap[w.heap.size + 6]? = some (.deferred (some [])) := (hgV.block _ (by omega) (by simp)).trans hD3
    show bodyPostM _ _ _ _ _ _ _ (set5 W3 (w.heap.size + 1 + 1) (.slice a1 (gen xs s (k + 1)).1.length c1) (.int .u64 ((gen xs s (k + 1)).2.a : Nat)) (.int .u64 ((gen xs s (k + 1)).2.b : Nat)) (.int .u64 ((gen xs s (k + 1)).2.c : Nat)) (.int .u64 ((gen xs s (k + 1)).2.d : Nat))).drew
    rw [← hV]
    refine ⟨by simp, .inl ⟨_, _, rfl, run_takeDeferred hDV, ?_⟩⟩
    have hgU := grownBy_putObj' V.drew (w.heap.size + 6) (.deferred none)
    have hgVd : W3.grownBy V.drew (some (w.heap.size + 1 + 1)) := ⟨hgV.os, hgV.tape, hgV.output, hgV.size, hgV.block⟩
    have hszV : W3.heap.size ≤ V.drew.heap.size := hgV.size
    have hbVd : Box5 V.drew (w.heap.size + 1 + 1) (.slice a1 (gen xs s (k + 1)).1.length c1) (.int .u64 ((gen xs s (k + 1)).2.a : Nat)) (.int .u64 ((gen xs s (k + 1)).2.b : Nat)) (.int .u64 ((gen xs s (k + 1)).2.c : Nat)) (.int .u64 ((gen xs s (k + 1)).2.d : Nat)) := ⟨hbV.c0, hbV.c1, hbV.c2, hbV.c3, hbV.c4, hbV.f0, hbV.f1, hbV.f2, hbV.f3, hbV.f4⟩
    obtain ⟨U, hU⟩ : ∃ U, V.drew.putObj (w.heap.size + 6) (.deferred none) = U := ⟨_, rfl⟩
    rw [hU] at hgU ⊢
    have hbU := hbVd.grown hgU (by omega) (by simp)
    have hIU : Ints .u64 U hi0 a1 (gen xs s (k + 1)).1 := Ints.grown (w := V.drew) (Ints.grown HI3.out hgVd (by omega) (by intro r e; simp at e; omega)) hgU (by omega) (by intro r e; simp at e; omega)
    have hBU : Below w.heap.size w U := below_grown (w := V.drew) (below_grown HBEL3.out (by omega) hgVd (by intro r e; simp at e; omega)) (by omega) hgU (by intro r e; simp at e; omega)
    obtain ⟨q0, q1, q2, q3, q4, _, _, _, _, _⟩ := hbU
    refine ⟨.tuple #[.int .u64 (genX xs s k % n), .agg #[.slice a1 (gen xs s (k + 1)).1.length c1, (.int .u64 ((gen xs s (k + 1)).2.a : Nat)), (.int .u64 ((gen xs s (k + 1)).2.b : Nat)), (.int .u64 ((gen xs s (k + 1)).2.c : Nat)), (.int .u64 ((gen xs s (k + 1)).2.d : Nat))]], ?_, a1, c1, rfl, hIU, hl1, hc1, hBU⟩
    rw [results_tc rfl]
    go_simp
  case hcall =>
    intro fn R hfn hR
    have HR := Lib.hid hR
    clear hR
    refine (drawsIter 8 (by omega) (w.heap.size + 6 + 1) (w.heap.size + 1 + 1 + 1 + 1 + 1) hi0 k xs s
      (fun i W => W.heap[w.heap.size + 6 + 1]? = some (.loop (R .ready none)) ∧ W.heap[w.heap.size + 6]? = some (.deferred (some [])) ∧ w.heap.size + 8 ≤ W.heap.size ∧ Below w.heap.size w W ∧
        W.cell? ⟨w.heap.size + 1, 0, none⟩ = some (.int .u64 n) ∧ W.cell? ⟨w.heap.size + 1 + 1 + 1, 0, none⟩ = some (.int .u64 o) ∧ (∃ y, W.cell? ⟨w.heap.size + 1 + 1 + 1 + 1, 0, none⟩ = some y) ∧ W.frozen? ⟨w.heap.size + 1 + 1 + 1 + 1, 0, none⟩ = false ∧
        (∃ v0 v1 v2 v3 v4, Box5 W (w.heap.size + 1 + 1) v0 v1 v2 v3 v4) ∧ (∃ v0 v1 v2 v3 v4, Box5 W w.heap.size v0 v1 v2 v3 v4))
      (fun W2 => ∃ cc, (cc = .exit 0 ∧ W2.heap[w.heap.size + 6]? = some (.deferred (some [])) ∧ Below w.heap.size w W2 ∧ w.heap.size + 8 ≤ W2.heap.size ∧ W2.cell? ⟨w.heap.size + 1 + 1 + 1 + 1, 0, none⟩ = some (.int .u64 (genX xs s k % n)) ∧ (∃ v0 v1 v2 v3 v4, Box5 W2 (w.heap.size + 1 + 1) v0 v1 v2 v3 v4) ∧
      ∃ a1 c1, Box5 W2 w.heap.size (.slice a1 (gen xs s (k + 1)).1.length c1) (.int .u64 ((gen xs s (k + 1)).2.a : Nat)) (.int .u64 ((gen xs s (k + 1)).2.b : Nat)) (.int .u64 ((gen xs s (k + 1)).2.c : Nat)) (.int .u64 ((gen xs s (k + 1)).2.d : Nat)) ∧ Ints .u64 W2 hi0 a1 (gen xs s (k + 1)).1 ∧ (gen xs s (k + 1)).1.length ≤ c1 ∧ c1 ≤ 9223372036854775807) ∧ W2.heap[w.heap.size + 6 + 1]? = some (.loop (R .done (some cc))))
      _ HS.out (by omega) ?hJ ?hY a c ?hB ?hbox ?hi hc hc2 ?h0).mono ?post
    case post =>
      rintro e W2 ⟨hv, h⟩
      exact ⟨hv, h⟩
    case hB => simp
    case hbox => constructor <;> go_simp
    case hi => exact hi.below (B := w.heap.size) (by (repeat' (first | exact Below.refl _ _ | refine Below.drew ?_ | refine Below.alloc ?_ (by simp <;> omega) _))) hhi
    case h0 =>
      refine ⟨?_, ?_, by simp, ?_, by go_simp, by go_simp, ⟨.int .u64 0, by go_simp⟩, by go_simp, ⟨.slice none 0 0, .int .u64 0, .int .u64 0, .int .u64 0, .int .u64 0, by constructor <;> go_simp⟩, ⟨.slice a xs.length c, .int .u64 (s.a : Nat), .int .u64 (s.b : Nat), .int .u64 (s.c : Nat), .int .u64 (s.d : Nat), by constructor <;> go_simp⟩⟩
      · exact (heap_two _ _ _ _ (by simp)).1
      · exact (heap_two _ _ _ _ (by simp)).2
      · (repeat' (first | exact Below.refl _ _ | refine Below.drew ?_ | refine Below.alloc ?_ (by simp <;> omega) _))
    case hJ =>
      rintro i W1 W2 ⟨j1, j2, j3, j4, j5, j6, ⟨y, j7⟩, j8, ⟨v0, v1, v2, v3, v4, j9⟩, ⟨u0, u1, u2, u3, u4, j10⟩⟩ hg
      have hsz := hg.size
      exact ⟨(hg.block _ (by omega) (by simp)).trans j1, (hg.block _ (by omega) (by simp)).trans j2, by omega, below_grown j4 (by omega) hg (by intro r e; simp at e; omega),
        (hg.cell_far ⟨w.heap.size + 1, 0, none⟩ (by show w.heap.size + 1 < _; omega) (by simp)).trans j5, (hg.cell_far ⟨w.heap.size + 1 + 1 + 1, 0, none⟩ (by show w.heap.size + 1 + 1 + 1 < _; omega) (by simp)).trans j6,
        ⟨y, (hg.cell_far ⟨w.heap.size + 1 + 1 + 1 + 1, 0, none⟩ (by show w.heap.size + 1 + 1 + 1 + 1 < _; omega) (by simp)).trans j7⟩, (hg.frozen_far ⟨w.heap.size + 1 + 1 + 1 + 1, 0, none⟩ (by show w.heap.size + 1 + 1 + 1 + 1 < _; omega) (by simp)).trans j8,
        ⟨v0, v1, v2, v3, v4, j9.grown hg (by omega) (by simp)⟩, ⟨u0, u1, u2, u3, u4, j10.grown hg (by omega) (by simp; omega)⟩⟩
    case hY =>
      rintro i a0 c0 W1 hik ⟨j1, j2, j3, j4, j5, j6, ⟨y, j7⟩, j8, ⟨v0, v1, v2, v3, v4, j9⟩, ⟨u0, u1, u2, u3, u4, j10⟩⟩ hI hl hcm hbox
      refine yieldAt_round hfn HR.out j1 rfl ?_
      have J1 := Lib.hid j1
      have J2 := Lib.hid j2
      have J4 := Lib.hid j4
      have J9 := Lib.hid j9
      have J10 := Lib.hid j10
      have HBX := Lib.hid hbox
      have HI := Lib.hid hI
      clear j1 j2 j4 j9 j10 hbox hI
      have HXB := HS.out.genX i
      have HRJ := fun h => HREJ.out i h
      obtain ⟨X, hX⟩ : ∃ y, genX xs s i = y := ⟨_, rfl⟩
      rw [hX] at HXB HRJ ⊢
      obtain ⟨hx0, hx1⟩ := HXB
      have HRJH := Lib.hid HRJ
      clear HRJ
      obtain ⟨G, hG⟩ : ∃ y, gen xs s (i + 1) = y := ⟨_, rfl⟩
      rw [hG] at hl HBX HI ⊢
      gi_wp2
      refine ⟨((World.grownBy_alloc W1 _ none).block _ (by omega) (by simp)).trans J1.out, ?_⟩
      obtain ⟨V, hV⟩ : ∃ V, (W1.alloc (.cells #[.slice a0 G.1.length c0, (.int .u64 (G.2.a : Nat)), (.int .u64 (G.2.b : Nat)), (.int .u64 (G.2.c : Nat)), (.int .u64 (G.2.d : Nat))] 27)).putObj (w.heap.size + 6 + 1) (.loop (R .busy none)) = V := ⟨_, rfl⟩
      rw [hV]
      have hgV : W1.grownBy V (some (w.heap.size + 6 + 1)) := by
        rw [← hV]
        exact grown_trans (World.grownBy_alloc W1 _ _) (grownBy_putObj' _ _ _)
      have hNB : Box5 V W1.heap.size (.slice a0 G.1.length c0) (.int .u64 (G.2.a : Nat)) (.int .u64 (G.2.b : Nat)) (.int .u64 (G.2.c : Nat)) (.int .u64 (G.2.d : Nat)) := by
        rw [← hV]
        refine Box5.grown (w := W1.alloc (.cells #[.slice a0 G.1.length c0, (.int .u64 (G.2.a : Nat)), (.int .u64 (G.2.b : Nat)), (.int .u64 (G.2.c : Nat)), (.int .u64 (G.2.d : Nat))] 27)) ?_ (grownBy_putObj' _ _ _) (by simp) (by simp; omega)
        constructor <;> go_simp
      have HLV : Hid (V.heap[w.heap.size + 6 + 1]? = some (.loop (R .busy none))) := by
        rw [← hV]
        exact World.putObj_heap_same (by simp; omega)
      have hszV := hgV.size
      have hNB2 := Lib.hid hNB
      have HDV : Hid (V.heap[w.heap.size + 6]? = some (.deferred (some []))) := (hgV.block _ (by omega) (by simp)).trans J2.out
      have HBV := Lib.hid (below_grown J4.out (by omega) hgV (by intro r e; simp at e; omega))
      have HRV := Lib.hid (J9.out.grown hgV (by omega) (by simp))
      have HGV := Lib.hid (J10.out.grown hgV (by omega) (by simp; omega))
      have HCV := Lib.hid (HBX.out.grown hgV (by omega) (by simp))
      have HIV := Lib.hid (Ints.grown HI.out hgV (by omega) (by intro r e; simp at e; omega))
      have m5 := (hgV.cell_far ⟨w.heap.size + 1, 0, none⟩ (by show w.heap.size + 1 < _; omega) (by simp)).trans j5
      have m6 := (hgV.cell_far ⟨w.heap.size + 1 + 1 + 1, 0, none⟩ (by show w.heap.size + 1 + 1 + 1 < _; omega) (by simp)).trans j6
      have m7 := (hgV.cell_far ⟨w.heap.size + 1 + 1 + 1 + 1, 0, none⟩ (by show w.heap.size + 1 + 1 + 1 + 1 < _; omega) (by simp)).trans j7
      have m8 := (hgV.frozen_far ⟨w.heap.size + 1 + 1 + 1 + 1, 0, none⟩ (by show w.heap.size + 1 + 1 + 1 + 1 < _; omega) (by simp)).trans j8
      have hsz8 : w.heap.size + 8 ≤ V.heap.size := by omega
      obtain ⟨S0, hS0⟩ : ∃ y, W1.heap.size = y := ⟨_, rfl⟩
      have hS1 : w.heap.size + 8 ≤ S0 := by omega
      rw [hS0] at hNB hNB2 ⊢
      obtain ⟨n0, n1, n2, n3, n4, _, _, _, _, _⟩ := hNB
      obtain ⟨p0, p1, p2, p3, p4, q0, q1, q2, q3, q4⟩ := HGV.out
      clear hV hgV J1 J2 J4 J9 J10 HBX HI j5 j6 j7 j8 j3 hszV hS0
      have hob := leftN_bounds h1
      rw [HO.out] at hob
      obtain ⟨hob1, hob2⟩ := hob
      by_cases ho0 : o = 0
      · subst ho0
        have htk : takes n X = true := by unfold takes; rw [HO.out]; simp
        have hki : i = k := by
          apply Classical.byContradiction
          intro hne
          have := HRJH.out (by omega)
          rw [htk] at this
          cases this
        subst hki
        have hmix : Try.prog.follows .mixedOrders = true := by kernel_rfl
        gi_wp2
        obtain ⟨U, hU⟩ : ∃ U, (set5 (V.setCell ⟨w.heap.size + 1 + 1 + 1 + 1, 0, none⟩ (.int .u64 (X.tmod n))) w.heap.size (.slice a0 G.1.length c0) (.int .u64 (G.2.a : Nat)) (.int .u64 (G.2.b : Nat)) (.int .u64 (G.2.c : Nat)) (.int .u64 (G.2.d : Nat))).drew = U := ⟨_, rfl⟩
        refine wpIn_mono (Q := fun e _ w2 => e = .normal ∧ w2 = U) ?reg ?aft
        case reg =>
          rw [← hU]
          simp only [set5]
          clear hU HREJ HACC HS HO HW HRJH HCV HIV HBV HDV HLV hi hhi hc hc2 hm0 hm1 HW2
          gi_region
          all_goals exact ⟨rfl, rfl⟩
        case aft =>
          rintro e a2 w2 ⟨rfl, rfl⟩
          gi_wp2
          exact draw_taken w V hi0 hhi R X n G a0 c0 y v0 v1 v2 v3 v4 u0 u1 u2 u3 u4 h1 hx0 HLV.out HDV.out HBV.out HRV.out HGV.out HIV.out hl hcm hsz8 m7 m8 _ hU
      · have e2 : (o == 0) = false := by simp; exact ho0
        have e4 : IntKind.u64.wrap (-o) = 18446744073709551616 - o := by rw [wrap_u64]; omega
        have hmix : Try.prog.follows .mixedOrders = true := by kernel_rfl
        by_cases hlt : X < 18446744073709551616 - o
        · have htk : takes n X = true := by unfold takes; rw [HO.out]; simp [hlt]
          have hki : i = k := by
            apply Classical.byContradiction
            intro hne
            have := HRJH.out (by omega)
            rw [htk] at this
            cases this
          subst hki
          have hdl : decide (X < 18446744073709551616 - o) = true := by simp; exact hlt
          gi_wp2
          obtain ⟨U, hU⟩ : ∃ U, (set5 (V.setCell ⟨w.heap.size + 1 + 1 + 1 + 1, 0, none⟩ (.int .u64 (X.tmod n))) w.heap.size (.slice a0 G.1.length c0) (.int .u64 (G.2.a : Nat)) (.int .u64 (G.2.b : Nat)) (.int .u64 (G.2.c : Nat)) (.int .u64 (G.2.d : Nat))).drew = U := ⟨_, rfl⟩
          refine wpIn_mono (Q := fun e _ w2 => e = .normal ∧ w2 = U) ?reg ?aft
          case reg =>
            rw [← hU]
            simp only [set5]
            clear hU HREJ HACC HS HO HW HRJH HCV HIV HBV HDV HLV hi hhi hc hc2 hm0 hm1 HW2
            gi_region
            all_goals exact ⟨rfl, rfl⟩
          case aft =>
            rintro e a2 w2 ⟨rfl, rfl⟩
            gi_wp2
            exact draw_taken w V hi0 hhi R X n G a0 c0 y v0 v1 v2 v3 v4 u0 u1 u2 u3 u4 h1 hx0 HLV.out HDV.out HBV.out HRV.out HGV.out HIV.out hl hcm hsz8 m7 m8 _ hU
        · have hdl : decide (X < 18446744073709551616 - o) = false := by simp; omega
          have htk : takes n X = false := by unfold takes; rw [HO.out]; simp [hlt, ho0]
          have hik2 : i < k := by
            rcases Nat.lt_or_ge i k with h | h
            · exact h
            · have hki : i = k := by omega
              subst hki
              have := HACC.out
              rw [hX, htk] at this
              cases this
          gi_wp2
          obtain ⟨d1, d2, _, d4⟩ := draw_passed w V (.loop (R .ready none)) n o y v0 v1 v2 v3 v4 u0 u1 u2 u3 u4 HDV.out HBV.out HRV.out HGV.out hsz8 m5 m6 m7 m8
          refine ⟨HLV.out, ⟨d1, d2, d4⟩, ?_⟩
          have hgP := grownBy_putObj' V (w.heap.size + 6 + 1) (.loop (R .ready none))
          exact ⟨Ints.grown HIV.out hgP (by omega) (by intro r e; simp at e; omega), by omega, HCV.out.grown hgP (by omega) (by simp)⟩
theorem draw_any (a : Option Addr) (c : Nat) (s : St) (xs : List Int) (n : Int) (k : Nat) (w : World) (hs : GoodS xs s) (hi : Ints .u64 w w.heap.size a xs) (hc : xs.length ≤ c) (hc2 : c ≤ 9223372036854775807) (h1 : 1 ≤ n) (h2 : n ≤ 18446744073709551615)
    (hrej : ∀ j, j < k → takes n (genX xs s j) = false) (hacc : takes n (genX xs s k) = true) :
    Calls Try.prog 60 #[.agg #[.slice a xs.length c, .int .u64 (s.a : Nat), .int .u64 (s.b : Nat), .int .u64 (s.c : Nat), .int .u64 (s.d : Nat)], .int .u64 n] w (RetRand w w.heap.size (genX xs s k % n) (gen xs s (k + 1)).1 (gen xs s (k + 1)).2) :=
  draw_at w.heap.size a c s xs n k w hs (Nat.le_refl _) hi hc hc2 h1 h2 hrej hacc
end Go.Proofs.Ytiejkdnkdmanmaa
