/- Walks: the iterator over draws (rng.draws), whose state is a captured variable. -/
import Derived.Test.YtiejkdnkdmanmaaRngW4
import Derived.RangeFuncNested
import Derived.RangeFuncBound
import Derived.RangeFuncCalls
import Derived.RangeFuncLeaves
import Derived.Shelf.Abstract
import Derived.Shelf.RegionOpen
import Derived.OwnWalkIn
import Derived.TacticsInMore
import Derived.Sort.LoopGhostIn
import Derived.Lib.BufferWrite
set_option linter.unusedVariables false
set_option linter.unusedSimpArgs false
namespace Go.Proofs.Ytiejkdnkdmanmaa
open Go.RowKit Go.Rt
attribute [local go_sem] Oper.semAt_some
attribute [local go_sem ↓] Go.wp_at_zero Go.wp_at_succ

theorem grown_below {w w' : World} {n b : Nat} (h : Below n w w') (hn : w.heap.size ≤ n) : w.grownBy w' (some b) :=
  ⟨h.os, h.tape, h.output, h.size, fun j hj _ => h.block j (by omega)⟩
theorem grown_set5 (w : World) (b : Nat) (v0 v1 v2 v3 v4 : Value) : w.grownBy (set5 w b v0 v1 v2 v3 v4) (some b) := by
  have key : ∀ (w : World) (o : Nat) (v : Value), w.grownBy (w.setCell ⟨b, o, none⟩ v) (some b) := fun w o v => by
    exact Go.Lib.grownBy_setCell w b o v
  unfold set5
  exact grown_trans (grown_trans (grown_trans (grown_trans (key _ _ _) (key _ _ _)) (key _ _ _)) (key _ _ _)) (key _ _ _)

/-- rng.draws: a closure over a variable that holds the generator. -/
theorem draws_any (a : Option Addr) (n c : Nat) (s : St) (w : World) :
    Calls Try.prog 83 #[.agg #[.slice a n c, .int .u64 (s.a : Nat), .int .u64 (s.b : Nat), .int .u64 (s.c : Nat), .int .u64 (s.d : Nat)]] w fun e w' => e = .returned (.func (.func 92) #[] #[.pointer (some ⟨w.heap.size, 0, none⟩)]) ∧ w' = w.alloc (.cells #[.slice a n c, .int .u64 (s.a : Nat), .int .u64 (s.b : Nat), .int .u64 (s.c : Nat), .int .u64 (s.d : Nat)] 27) := by
  go_enter Try.func83, Try.ntmps83
  go_wp2
  go_ret
  exact ⟨rfl, rfl⟩

set_option maxRecDepth 100000 in
set_option maxHeartbeats 1000000 in
/-- The iterator, called at yield of loop l: rounds 0 to k; the round k says 'no more'. -/
theorem drawsIter (n : Nat) (hn : 3 ≤ n) (l B hi0 k : Nat) (xs : List Int) (s : St) (J : Nat → World → Prop) (Jx : World → Prop) (W : World) (hs : GoodS xs s) (hhi : hi0 ≤ B)
    (hJ : ∀ i W1 W2, J i W1 → W1.grownBy W2 (some B) → J i W2)
    (hY : ∀ i a c W1, i ≤ k → J i W1 → Ints .u64 W1 hi0 a (gen xs s (i + 1)).1 → (gen xs s (i + 1)).1.length ≤ c → c ≤ 9223372036854775807 →
      Box5 W1 B (.slice a (gen xs s (i + 1)).1.length c) (.int .u64 ((gen xs s (i + 1)).2.a : Nat)) (.int .u64 ((gen xs s (i + 1)).2.b : Nat)) (.int .u64 ((gen xs s (i + 1)).2.c : Nat)) (.int .u64 ((gen xs s (i + 1)).2.d : Nat)) →
      YieldAt Fence.wide (n - 1) Try.prog l #[.int .u64 (genX xs s i), .agg #[.slice a (gen xs s (i + 1)).1.length c, .int .u64 ((gen xs s (i + 1)).2.a : Nat), .int .u64 ((gen xs s (i + 1)).2.b : Nat), .int .u64 ((gen xs s (i + 1)).2.c : Nat), .int .u64 ((gen xs s (i + 1)).2.d : Nat)]] W1 fun e W' =>
        (i < k ∧ e = .returned (.bool true) ∧ J (i + 1) W' ∧ Ints .u64 W' hi0 a (gen xs s (i + 1)).1 ∧ B < W'.heap.size ∧ Box5 W' B (.slice a (gen xs s (i + 1)).1.length c) (.int .u64 ((gen xs s (i + 1)).2.a : Nat)) (.int .u64 ((gen xs s (i + 1)).2.b : Nat)) (.int .u64 ((gen xs s (i + 1)).2.c : Nat)) (.int .u64 ((gen xs s (i + 1)).2.d : Nat))) ∨ (i = k ∧ e = .returned (.bool false) ∧ Jx W'))
    (a : Option Addr) (c : Nat) (hB : B < W.heap.size) (hbox : Box5 W B (.slice a xs.length c) (.int .u64 (s.a : Nat)) (.int .u64 (s.b : Nat)) (.int .u64 (s.c : Nat)) (.int .u64 (s.d : Nat))) (hi : Ints .u64 W hi0 a xs) (hc : xs.length ≤ c) (hc2 : c ≤ 9223372036854775807) (h0 : J 0 W) :
    CallsIn Fence.wide n Try.prog 92 #[.func (.yield l) #[] #[], .pointer (some ⟨B, 0, none⟩)] W fun e W' => (∃ v, e = .returned v) ∧ Jx W' := by
  refine callsIn_of_wp Try.func92 rfl trivial ?_ rfl
  simp only [Try.ntmps92, List.size_toArray, List.length_cons, List.length_nil, Nat.reduceAdd, Nat.reduceSub, Array.replicate_succ, Array.replicate_zero, List.push_toArray, List.append_toArray, List.nil_append, List.cons_append]
  gi_wp2
  gi_loopg [] k (fun gk wr => gk ≤ k ∧ J (k - gk) wr ∧ B < wr.heap.size ∧ ∃ a c, Box5 wr B (.slice a (gen xs s (k - gk)).1.length c) (.int .u64 ((gen xs s (k - gk)).2.a : Nat)) (.int .u64 ((gen xs s (k - gk)).2.b : Nat)) (.int .u64 ((gen xs s (k - gk)).2.c : Nat)) (.int .u64 ((gen xs s (k - gk)).2.d : Nat)) ∧ Ints .u64 wr hi0 a (gen xs s (k - gk)).1 ∧ (gen xs s (k - gk)).1.length ≤ c ∧ c ≤ 9223372036854775807)
  case atStart =>
    refine ⟨Nat.le_refl _, ?_, hB, a, c, ?_, ?_, ?_, hc2⟩
    · rw [Nat.sub_self]; exact h0
    · rw [Nat.sub_self]; exact hbox
    · rw [Nat.sub_self]; exact hi
    · rw [Nat.sub_self]; exact hc
  case round =>
    obtain ⟨hgk, hj, hBs, a0, c0, hbox, hI, hlc, hcm⟩ := hrel
    obtain ⟨i, hik⟩ : ∃ i, k - gk = i := ⟨_, rfl⟩
    rw [hik] at hj hbox hI hlc
    have HG := Lib.hid (hs.gen i)
    have HX : Hid (genX xs s i = gX (gen xs s i).1 (gen xs s i).2) := Lib.hid rfl
    have HN : Hid (gen xs s (i + 1) = (gL (gen xs s i).1, gS (gen xs s i).1 (gen xs s i).2)) := Lib.hid rfl
    have hYi := fun a c W1 => hY i a c W1 (by omega)
    rw [HX.out, HN.out] at hYi
    obtain ⟨L, hL⟩ : ∃ y, (gen xs s i).1 = y := ⟨_, rfl⟩
    obtain ⟨T, hT⟩ : ∃ y, (gen xs s i).2 = y := ⟨_, rfl⟩
    rw [hL, hT] at HG HX HN hbox hYi
    rw [hL] at hI hlc
    obtain ⟨X, hX⟩ : ∃ y, gX L T = y := ⟨_, rfl⟩
    obtain ⟨L1, hL1⟩ : ∃ y, gL L = y := ⟨_, rfl⟩
    obtain ⟨T1, hT1⟩ : ∃ y, gS L T = y := ⟨_, rfl⟩
    have hcall := Lib.hid (callsIn_wide.2 (step_any a0 c0 hi0 T L wr HG.out.1 (by omega) hI hlc hcm) : CallsIn Fence.wide (n - 1) _ _ _ _ _)
    rw [hX, hL1, hT1] at hcall hYi
    rw [hX] at HX
    rw [hL1, hT1] at HN
    have HYI := Lib.hid hYi
    have HJ := Lib.hid hj
    have HBOX := Lib.hid hbox
    obtain ⟨c0_, c1_, c2_, c3_, c4_, _, _, _, _, _⟩ := hbox
    have HJJ := Lib.hid hJ
    have HS := Lib.hid hs
    have HB0 := Lib.hid hBs
    clear hL hT hX hL1 hT1 hI hlc hY hYi hj hJ hs h0
    have h1n : 1 ≤ n := by omega
    have hfn : Fence.wide.fn 62 := trivial
    gi_wp2_with (gi_at_call 62; refine hcall.out.mono ?_; rintro e w1 ⟨a1, cc1, rfl, hI1, hl1, hcm1, hb1⟩; have HI1 := Lib.hid hI1; have HB1 := Lib.hid hb1; have HBX1 := Lib.hid (HBOX.out.below hb1 (by omega)); obtain ⟨k0, k1, k2, k3, k4, f0, f1, f2, f3, f4⟩ := HBOX.out.below hb1 (by omega); obtain ⟨fn, tmps, assign, body, hy, hR⟩ := HYI.out a1 cc1 (set5 w1 B (.slice a1 L1.length cc1) (.int .u64 (T1.a : Nat)) (.int .u64 (T1.b : Nat)) (.int .u64 (T1.c : Nat)) (.int .u64 (T1.d : Nat))) (HJJ.out _ _ _ HJ.out (grown_trans (grown_below hb1 (Nat.le_refl _)) (grown_set5 w1 B _ _ _ _ _))) (hI1.below (below_set5 (Below.refl _ w1) (Nat.le_refl B) _ _ _ _ _) hhi) hl1 hcm1 (HBX1.out.set _ _ _ _ _); simp only [set5] at hy; have HR := Lib.hid hR; clear hR hI1 hb1)
    refine HR.out.mono ?_
    rintro e W3 (⟨hik2, rfl, hJ3, hI3, hB3, hbox3⟩ | ⟨hik2, rfl, hJx3⟩)
    · have HJ3 := Lib.hid hJ3
      have HBX3 := Lib.hid hbox3
      have HI3 := Lib.hid hI3
      clear hJ3 hbox3 hI3 hy
      gi_wp2
      gi_roundg (gk - 1)
      case measure => omega
      case rel =>
        have e : k - (gk - 1) = i + 1 := by omega
        rw [e, HN.out]
        exact ⟨by omega, HJ3.out, hB3, a1, cc1, HBX3.out, HI3.out, hl1, hcm1⟩
    · have HJX := Lib.hid hJx3
      clear hJx3 hy
      gi_wp2
      refine bodyPost_ret (results_none rfl _ _ _) rfl ?_
      exact ⟨⟨_, rfl⟩, HJX.out⟩
end Go.Proofs.Ytiejkdnkdmanmaa
