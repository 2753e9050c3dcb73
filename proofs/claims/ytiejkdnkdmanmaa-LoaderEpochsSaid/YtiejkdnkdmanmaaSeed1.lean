/- Walks: seed.own, seed.count, seed.turns and its iterator (whose state is a captured variable). -/
import Derived.Test.YtiejkdnkdmanmaaRngW6
import Derived.Test.YtiejkdnkdmanmaaSeedP
import Derived.Test.YtiejkdnkdmanmaaRangeAny
import Derived.LoopIn
import Derived.IntWalk
import Derived.LoopNIn
set_option linter.unusedVariables false
set_option linter.unusedSimpArgs false
namespace Go.Proofs.Ytiejkdnkdmanmaa
open Go.RowKit Go.Rt
attribute [local go_sem] Oper.semAt_some

set_option maxRecDepth 100000 in
set_option maxHeartbeats 400000 in
theorem seedOwn_any (a : Option Addr) (c : Nat) (xs : List Int) (s : St) (w : World) (h : Ints .u64 w w.heap.size a xs) (hn : xs.length ≤ 17592186044415) :
    Calls Try.prog 90 #[.agg #[.slice a xs.length c, .int .u64 (s.a : Nat), .int .u64 (s.b : Nat), .int .u64 (s.c : Nat), .int .u64 (s.d : Nat)]] w (RetGen w xs s) := by
  have HC := fun w' (hb : Below w.heap.size w w') => Lib.hid (clone64_any a c xs w' ((h.below hb (Nat.le_refl _)).mono hb.size) hn)
  go_enter Try.func90, Try.ntmps90
  go_wp2
  go_region_held3 (fun w' => w'.cell? ⟨w.heap.size, 0, none⟩ = some (.slice a xs.length c) ∧ w'.cell? ⟨w.heap.size, 1, none⟩ = some (.int .u64 (s.a : Nat)) ∧ w'.cell? ⟨w.heap.size, 2, none⟩ = some (.int .u64 (s.b : Nat)) ∧ w'.cell? ⟨w.heap.size, 3, none⟩ = some (.int .u64 (s.c : Nat)) ∧ w'.cell? ⟨w.heap.size, 4, none⟩ = some (.int .u64 (s.d : Nat))) (go_keep)
    (first | (go_at_call 79; refine (HC _ (by (repeat' (first | exact Below.refl _ _ | refine Below.drew ?_ | refine Below.alloc ?_ (by simp <;> omega) _)))).out.mono ?_; rintro e w1 ⟨v, rfl, hown, hbel⟩; obtain ⟨a1, c1, rfl, _⟩ := own_shape hown; have j0 := (hbel.cell (p := ⟨w.heap.size, 0, none⟩) (by simp <;> omega)); have l0 := (hbel.cell (p := ⟨w.heap.size + 1, 0, none⟩) (by simp <;> omega)); have f0 := (hbel.frozen (p := ⟨w.heap.size + 1, 0, none⟩) (by simp <;> omega)); have j1 := (hbel.cell (p := ⟨w.heap.size, 1, none⟩) (by simp <;> omega)); have l1 := (hbel.cell (p := ⟨w.heap.size + 1, 1, none⟩) (by simp <;> omega)); have f1 := (hbel.frozen (p := ⟨w.heap.size + 1, 1, none⟩) (by simp <;> omega)); have j2 := (hbel.cell (p := ⟨w.heap.size, 2, none⟩) (by simp <;> omega)); have l2 := (hbel.cell (p := ⟨w.heap.size + 1, 2, none⟩) (by simp <;> omega)); have f2 := (hbel.frozen (p := ⟨w.heap.size + 1, 2, none⟩) (by simp <;> omega)); have j3 := (hbel.cell (p := ⟨w.heap.size, 3, none⟩) (by simp <;> omega)); have l3 := (hbel.cell (p := ⟨w.heap.size + 1, 3, none⟩) (by simp <;> omega)); have f3 := (hbel.frozen (p := ⟨w.heap.size + 1, 3, none⟩) (by simp <;> omega)); have j4 := (hbel.cell (p := ⟨w.heap.size, 4, none⟩) (by simp <;> omega)); have l4 := (hbel.cell (p := ⟨w.heap.size + 1, 4, none⟩) (by simp <;> omega)); have f4 := (hbel.frozen (p := ⟨w.heap.size + 1, 4, none⟩) (by simp <;> omega))))
  go_wp2
  (try simp only [Exit.inBlock, Exit.then])
  have hbel' : Below w.heap.size _ w1 := hbel.mono (by simp <;> omega)
  refine bodyPost_ret (v := .agg #[.slice a1 xs.length c1, .int .u64 (s.a : Nat), .int .u64 (s.b : Nat), .int .u64 (s.c : Nat), .int .u64 (s.d : Nat)]) (by rw [results_c rfl]; go_simp) rfl ⟨_, _, rfl, ?_, ?_⟩
  · refine own_mono (base := w.heap.size + 1 + 1) ?_ (by omega)
    iterate 5 refine ownsRow_setCell_below ?_ (by simp <;> omega) _
    simpa using hown
  · iterate 5 refine Below.setCell ?_ (by simp <;> omega) _
    refine Below.trans ?_ hbel'
    (repeat' (first | exact Below.refl _ _ | refine Below.drew ?_ | refine Below.alloc ?_ (by simp <;> omega) _))


theorem count_yes (n : Int) (w : World) (h1 : 1 ≤ n) (h2 : n ≤ 65536) : Calls Try.prog 88 #[.int .i64 n] w fun e w' => e = .returned (.bool true) ∧ w = w' := by
  have g1 : (n ≥ 1) := h1
  go_enter Try.func88, Try.ntmps88
  go_wp2
  go_ret
  exact ⟨rfl, rfl⟩

/-- seed.turns: a closure over variables that hold the generator and how many there are. -/
theorem turns_any (a : Option Addr) (n c : Nat) (s : St) (m : Int) (w : World) :
    Calls Try.prog 89 #[.agg #[.slice a n c, .int .u64 (s.a : Nat), .int .u64 (s.b : Nat), .int .u64 (s.c : Nat), .int .u64 (s.d : Nat)], .int .i64 m] w fun e w' => e = .returned (.func (.func 93) #[] #[.pointer (some ⟨w.heap.size + 1, 0, none⟩), .pointer (some ⟨w.heap.size, 0, none⟩)]) ∧ w' = (w.alloc (.cells #[.slice a n c, .int .u64 (s.a : Nat), .int .u64 (s.b : Nat), .int .u64 (s.c : Nat), .int .u64 (s.d : Nat)] 27)).alloc (.cells #[.int .i64 m] 3) := by
  go_enter Try.func89, Try.ntmps89
  go_wp2
  go_ret
  exact ⟨by simp, rfl⟩

/-- rng.Draw, told by the first draw that is taken. -/
theorem draw_told (hi0 : Nat) (a : Option Addr) (c : Nat) (s : St) (xs : List Int) (n : Int) (w : World) (hs : GoodS xs s) (hhi : hi0 ≤ w.heap.size) (hi : Ints .u64 w hi0 a xs) (hc : xs.length ≤ c) (hc2 : c ≤ 9223372036854775807) (h1 : 1 ≤ n) (h2 : n ≤ 18446744073709551615) :
    Calls Try.prog 60 #[.agg #[.slice a xs.length c, .int .u64 (s.a : Nat), .int .u64 (s.b : Nat), .int .u64 (s.c : Nat), .int .u64 (s.d : Nat)], .int .u64 n] w (RetRand w hi0 (drD n xs s) (drL n xs s) (drS n xs s)) :=
  draw_at hi0 a c s xs n (kOf n xs s) w hs hhi hi hc hc2 h1 h2 (kOf_spec hs h1 h2).1 (kOf_spec hs h1 h2).2

set_option maxRecDepth 100000 in
set_option maxHeartbeats 1000000 in
/-- The iterator, called at yield of loop l: N rounds, none of which ends the loop. -/
theorem turnsIter (n : Nat) (hn : 3 ≤ n) (l B Bn hi0 N : Nat) (xs : List Int) (s : St) (J : Nat → World → Prop) (W : World) (hs : GoodS xs s) (hhi : hi0 ≤ B) (hN : N ≤ 100000)
    (hJ : ∀ i W1 W2, J i W1 → W1.grownBy W2 (some B) → J i W2)
    (hY : ∀ j a c W1, j < N → J j W1 → Ints .u64 W1 hi0 a (tur N xs s (j + 1)).1 → (tur N xs s (j + 1)).1.length ≤ c → c ≤ 9223372036854775807 →
      Box5 W1 B (.slice a (tur N xs s (j + 1)).1.length c) (.int .u64 ((tur N xs s (j + 1)).2.a : Nat)) (.int .u64 ((tur N xs s (j + 1)).2.b : Nat)) (.int .u64 ((tur N xs s (j + 1)).2.c : Nat)) (.int .u64 ((tur N xs s (j + 1)).2.d : Nat)) →
      YieldAt Fence.wide (n - 1) Try.prog l #[.agg #[.int .i64 ((N - j : Nat) : Int), .int .i64 (turD N xs s j)], .agg #[.slice a (tur N xs s (j + 1)).1.length c, .int .u64 ((tur N xs s (j + 1)).2.a : Nat), .int .u64 ((tur N xs s (j + 1)).2.b : Nat), .int .u64 ((tur N xs s (j + 1)).2.c : Nat), .int .u64 ((tur N xs s (j + 1)).2.d : Nat)]] W1 fun e W' =>
        e = .returned (.bool true) ∧ J (j + 1) W' ∧ Ints .u64 W' hi0 a (tur N xs s (j + 1)).1 ∧ B < W'.heap.size ∧ Box5 W' B (.slice a (tur N xs s (j + 1)).1.length c) (.int .u64 ((tur N xs s (j + 1)).2.a : Nat)) (.int .u64 ((tur N xs s (j + 1)).2.b : Nat)) (.int .u64 ((tur N xs s (j + 1)).2.c : Nat)) (.int .u64 ((tur N xs s (j + 1)).2.d : Nat)))
    (a : Option Addr) (c : Nat) (hB : B < W.heap.size) (hbox : Box5 W B (.slice a xs.length c) (.int .u64 (s.a : Nat)) (.int .u64 (s.b : Nat)) (.int .u64 (s.c : Nat)) (.int .u64 (s.d : Nat))) (hi : Ints .u64 W hi0 a xs) (hc : xs.length ≤ c) (hc2 : c ≤ 9223372036854775807) (hbn : W.cell? ⟨Bn, 0, none⟩ = some (.int .i64 ((N + 1 : Nat) : Int))) (h0 : J 0 W) :
    CallsIn Fence.wide n Try.prog 93 #[.func (.yield l) #[] #[], .pointer (some ⟨Bn, 0, none⟩), .pointer (some ⟨B, 0, none⟩)] W fun e W' => (∃ v, e = .returned v) ∧ J N W' := by
  have hlen := Lib.hid (tur_len N xs s)
  refine callsIn_of_wp Try.func93 rfl trivial ?_ rfl
  simp only [Try.ntmps93, List.size_toArray, List.length_cons, List.length_nil, Nat.reduceAdd, Nat.reduceSub, Array.replicate_succ, Array.replicate_zero, List.push_toArray, List.append_toArray, List.nil_append, List.cons_append]
  have e0 : ∀ [Inhabited Unit], RowKit.wrap64 (((N + 1 : Nat) : Int) - 1) = (N : Int) := by intro _; rw [IntWalk.wrap64_in _ ⟨by omega, by omega⟩]; omega
  gi_wp2
  gi_loopw [4] (fun i wr => ∃ m j : Nat, m + j = N ∧ i = .int .i64 m ∧ Hid (J j wr) ∧ B < wr.heap.size ∧ ∃ a c, Hid (Box5 wr B (.slice a (tur N xs s j).1.length c) (.int .u64 ((tur N xs s j).2.a : Nat)) (.int .u64 ((tur N xs s j).2.b : Nat)) (.int .u64 ((tur N xs s j).2.c : Nat)) (.int .u64 ((tur N xs s j).2.d : Nat))) ∧ Hid (Ints .u64 wr hi0 a (tur N xs s j).1) ∧ Hid ((tur N xs s j).1.length ≤ c ∧ c ≤ 9223372036854775807)) (fun i _ => (intOf i).toNat)
  case atStart =>
    exact ⟨N, 0, rfl, rfl, Lib.hid h0, hB, a, c, Lib.hid hbox, Lib.hid hi, Lib.hid ⟨hc, hc2⟩⟩
  case round =>
    obtain ⟨m, j, hmj, rfl, HJ, hBs, a0, c0, HBOX, HI, HLC⟩ := hrel
    by_cases hm : 1 ≤ m
    · have hmi : (1 : Int) ≤ (m : Int) := by omega
      have hG := tur_good (N := N) hs j
      have HY := hY j
      have e1 : N - j + 1 = m + 1 := by omega
      have e2 : N - j = m := by omega
      have HT : Hid (tur N xs s (j + 1) = (drL ((m + 1 : Nat) : Int) (tur N xs s j).1 (tur N xs s j).2, drS ((m + 1 : Nat) : Int) (tur N xs s j).1 (tur N xs s j).2)) := Lib.hid (by rw [tur, e1])
      have HD : Hid (turD N xs s j = drD ((m + 1 : Nat) : Int) (tur N xs s j).1 (tur N xs s j).2) := Lib.hid (by rw [turD, e1])
      rw [HT.out, HD.out, e2] at HY
      have hDb := drD_bounds (n := ((m + 1 : Nat) : Int)) (xs := (tur N xs s j).1) (s := (tur N xs s j).2) (by omega)
      obtain ⟨L, hL⟩ : ∃ y, (tur N xs s j).1 = y := ⟨_, rfl⟩
      obtain ⟨T, hT⟩ : ∃ y, (tur N xs s j).2 = y := ⟨_, rfl⟩
      rw [hL, hT] at HT HD HY hG HBOX hDb
      rw [hL] at HI HLC
      have hcall := draw_told hi0 a0 c0 T L ((m + 1 : Nat) : Int) wr hG (by omega) HI.out HLC.out.1 HLC.out.2 (by omega) (by omega)
      obtain ⟨X, hX⟩ : ∃ y, drD ((m + 1 : Nat) : Int) L T = y := ⟨_, rfl⟩
      obtain ⟨L1, hL1⟩ : ∃ y, drL ((m + 1 : Nat) : Int) L T = y := ⟨_, rfl⟩
      obtain ⟨T1, hT1⟩ : ∃ y, drS ((m + 1 : Nat) : Int) L T = y := ⟨_, rfl⟩
      rw [hX, hL1, hT1, show ((m + 1 : Nat) : Int) = (m : Int) + 1 by omega] at hcall
      rw [hX, hL1, hT1] at HY
      rw [hX] at hDb HD
      rw [hL1, hT1] at HT
      obtain ⟨hx0, hx1⟩ := hDb
      have hxm : X ≤ (m : Int) := by omega
      have HCALL := Lib.hid (callsIn_wide.2 hcall : CallsIn Fence.wide (n - 1) _ _ _ _ _)
      have HYH := Lib.hid HY
      have HJJ := Lib.hid hJ
      have HS := Lib.hid hs
      have HMJ := Lib.hid hmj
      have h1n : 1 ≤ n := by omega
      have hfn : Fence.wide.fn 60 := trivial
      have e3 : ∀ [Inhabited Unit], IntKind.u64.wrap ((m : Int) + 1) = (m : Int) + 1 := by intro _; rw [wrap_u64]; omega
      have e4 : ∀ [Inhabited Unit], IntKind.i64.wrap X = X := by intro _; exact IntWalk.i64_in _ ⟨by omega, by omega⟩
      have e5 : ∀ [Inhabited Unit], RowKit.wrap64 ((m : Int) + 1) = (m : Int) + 1 := by intro _; exact IntWalk.wrap64_in _ ⟨by omega, by omega⟩
      have hbx := HBOX.out
      obtain ⟨c0_, c1_, c2_, c3_, c4_, _, _, _, _, _⟩ := hbx
      clear hL hT hX hL1 hT1 hY HY hJ hs h0 hG hcall hmj hx1 e0 e1 e2 hbox hi hbn hc hc2
      gi_wp2_with (gi_at_call 60; (with_reducible refine HCALL.out.mono ?_); rintro e w1 ⟨a1, cc1, rfl, hI1, hl1, hcm1, hb1⟩; have HI1 := Lib.hid hI1; have HB1 := Lib.hid hb1; have HBX1 := Lib.hid (HBOX.out.below hb1 (by omega)); obtain ⟨k0, k1, k2, k3, k4, f0, f1, f2, f3, f4⟩ := HBOX.out.below hb1 (by omega); obtain ⟨fn, tmps, assign, body, hy, hR⟩ := HYH.out a1 cc1 (set5 w1 B (.slice a1 L1.length cc1) (.int .u64 (T1.a : Nat)) (.int .u64 (T1.b : Nat)) (.int .u64 (T1.c : Nat)) (.int .u64 (T1.d : Nat))) (by have := HMJ.out; omega) (HJJ.out _ _ _ HJ.out (grown_trans (grown_below hb1 (Nat.le_refl _)) (grown_set5 w1 B _ _ _ _ _))) (hI1.below (below_set5 (Below.refl _ w1) (Nat.le_refl B) _ _ _ _ _) hhi) hl1 hcm1 (HBX1.out.set _ _ _ _ _); simp only [set5] at hy; have HR := Lib.hid hR; clear hR hI1 hb1)
      refine HR.out.mono ?_
      rintro e W3 ⟨rfl, hJ3, hI3, hB3, hbox3⟩
      have HJ3 := Lib.hid hJ3
      have HBX3 := Lib.hid hbox3
      have HI3 := Lib.hid hI3
      have hmB : m ≤ 100000 := by have := HMJ.out; omega
      have em : ∀ [Inhabited Unit], RowKit.wrap64 ((m : Int) - 1) = ((m - 1 : Nat) : Int) := by intro _; rw [IntWalk.wrap64_in _ ⟨by omega, by omega⟩]; omega
      clear hJ3 hbox3 hI3 hy
      gi_wp2
      go_roundw
      case rel =>
        refine ⟨m - 1, j + 1, by have := HMJ.out; omega, by first | rfl | go_num, HJ3, hB3, a1, cc1, ?_, ?_, ?_⟩
        · rw [HT.out]; exact HBX3
        · rw [HT.out]; exact HI3
        · rw [HT.out]; exact Lib.hid ⟨hl1, hcm1⟩
      case measure => simp [intOf]; omega
    · obtain rfl : m = 0 := by omega
      obtain rfl : j = N := by omega
      gi_wp2
      go_end0
      exact ⟨⟨_, rfl⟩, HJ.out⟩
end Go.Proofs.Ytiejkdnkdmanmaa
