/- Walks: the document's draws below n, the script below whatever bound. -/
import Derived.Test.YtiejkdnkdmanmaaRngW9
import Derived.Deep.LoopGhost
set_option linter.unusedVariables false
set_option linter.unusedSimpArgs false
namespace Go.Proofs.Ytiejkdnkdmanmaa
open Go.RowKit Go.Rt
attribute [local go_sem ↓] Go.wp_at_zero Go.wp_at_succ

/-- Where a draw's loop stands: variable b holds the generator behind i draws. -/
def AtGenH (hi0 : Nat) (w : World) (xs : List Int) (s : St) (b : Nat) (i : Nat) (wr : World) : Prop :=
  ∃ a c, Box5 wr b (.slice a (gen xs s i).1.length c) (.int .u64 ((gen xs s i).2.a : Nat)) (.int .u64 ((gen xs s i).2.b : Nat)) (.int .u64 ((gen xs s i).2.c : Nat)) (.int .u64 ((gen xs s i).2.d : Nat)) ∧ Ints .u64 wr hi0 a (gen xs s i).1 ∧ (gen xs s i).1.length ≤ c ∧ c ≤ 9223372036854775807 ∧ Below w.heap.size w wr

set_option maxRecDepth 100000 in
set_option maxHeartbeats 1000000 in
theorem below24_at (a : Option Addr) (c hi0 : Nat) (s : St) (xs : List Int) (n : Int) (k : Nat) (w : World) (hs : GoodS xs s) (hhi : hi0 ≤ w.heap.size) (hi : Ints .u64 w hi0 a xs) (hc : xs.length ≤ c) (hc2 : c ≤ 9223372036854775807) (h1 : 1 ≤ n) (h2 : n ≤ 18446744073709551615)
    (hrej : ∀ j, j < k → takes n (genX xs s j) = false) (hacc : takes n (genX xs s k) = true) :
    Calls Try.prog 20 #[.agg #[.slice a xs.length c, .int .u64 (s.a : Nat), .int .u64 (s.b : Nat), .int .u64 (s.c : Nat), .int .u64 (s.d : Nat)], .int .u64 n] w (RetRand w hi0 (genX xs s k % n) (gen xs s (k + 1)).1 (gen xs s (k + 1)).2) := by
  have hm0 := Int.emod_nonneg 18446744073709551615 (show n ≠ 0 by omega)
  have hm1 := Int.emod_lt_of_pos 18446744073709551615 (show 0 < n by omega)
  obtain ⟨o, ho⟩ : ∃ y, 18446744073709551615 % n + 1 = y := ⟨_, rfl⟩
  have HW : IntKind.u64.wrap (18446744073709551615 % n + 1) = o := by rw [wrap_u64, ← ho]; omega
  have HL : Hid (leftN n = o % n) := by unfold leftN; rw [ho]; rfl
  have ho1 : 1 ≤ o := by omega
  have ho2 : o ≤ n := by omega
  have HREJ := Lib.hid hrej
  have HACC := Lib.hid hacc
  have HS := Lib.hid hs
  clear hrej hacc hs ho hm0 hm1
  have hnext := fun (a : Option Addr) (c : Nat) (s : St) (xs : List Int) (wr : World) (h1 : s.ok) (h2 : hi0 ≤ wr.heap.size) (h3 : Ints .u64 wr hi0 a xs) (h4 : xs.length ≤ c) (h5 : c ≤ 9223372036854775807) => Lib.hid (next24_any a c hi0 s xs wr h1 h2 h3 h4 h5)
  by_cases hon : o = n
  · have e1 : (o == n) = true := by simp [hon]
    go_enter Try.func20, Try.ntmps20
    go_wp2
    go_loopg [] k (fun gk wr => gk ≤ k ∧ AtGenH hi0 w xs s w.heap.size (k - gk) wr ∧ Box5 wr (w.heap.size + 1) (.slice none 0 0) (.int .u64 0) (.int .u64 0) (.int .u64 0) (.int .u64 0) ∧ w.heap.size + 2 ≤ wr.heap.size)
    case atStart =>
      refine ⟨Nat.le_refl _, ⟨a, c, ?_, ?_, ?_, hc2, ?_⟩, ?_, by simp⟩
      · rw [Nat.sub_self]; simp only [gen]; constructor <;> go_simp
      · rw [Nat.sub_self]; exact hi.below (B := w.heap.size) (by (repeat' (first | exact Below.refl _ _ | refine Below.drew ?_ | refine Below.alloc ?_ (by simp <;> omega) _))) hhi
      · rw [Nat.sub_self]; exact hc
      · exact (by (repeat' (first | exact Below.refl _ _ | refine Below.drew ?_ | refine Below.alloc ?_ (by simp <;> omega) _)))
      · constructor <;> go_simp
    case round =>
      obtain ⟨hgk, ⟨a0, c0, hbox, hI, hlc, hcm, hbel⟩, hres, hsz⟩ := hrel
      obtain ⟨i, hik⟩ : ∃ i, k - gk = i := ⟨_, rfl⟩
      rw [hik] at hbox hI hlc
      have HG := Lib.hid (HS.out.gen i)
      have HX : Hid (genX xs s i = gX (gen xs s i).1 (gen xs s i).2) := Lib.hid rfl
      have HN : Hid (gen xs s (i + 1) = (gL (gen xs s i).1, gS (gen xs s i).1 (gen xs s i).2)) := Lib.hid rfl
      have HXB := HG.out.x
      obtain ⟨L, hL⟩ : ∃ y, (gen xs s i).1 = y := ⟨_, rfl⟩
      obtain ⟨T, hT⟩ : ∃ y, (gen xs s i).2 = y := ⟨_, rfl⟩
      rw [hL, hT] at HG HX HN hbox HXB
      rw [hL] at hI hlc
      have HGS : Hid (GoodS (gL L) (gS L T)) := Lib.hid HG.out.next
      obtain ⟨X, hX⟩ : ∃ y, gX L T = y := ⟨_, rfl⟩
      obtain ⟨L1, hL1⟩ : ∃ y, gL L = y := ⟨_, rfl⟩
      obtain ⟨T1, hT1⟩ : ∃ y, gS L T = y := ⟨_, rfl⟩
      have hcall := hnext a0 c0 T L wr HG.out.1 (by omega) hI hlc hcm
      rw [hX, hL1, hT1] at hcall
      rw [hX] at HX HXB
      rw [hL1, hT1] at HN
      obtain ⟨hx0, hx1⟩ := HXB
      have HBOX := Lib.hid hbox
      have HRES := Lib.hid hres
      have HBEL := Lib.hid hbel
      obtain ⟨c0_, c1_, c2_, c3_, c4_, _, _, _, _, _⟩ := hbox
      clear hL hT hX hL1 hT1 hI hres hbel hlc
      by_cases hz : gk = 0
      · have hki : i = k := by omega
        subst hki
        go_wp2_with (go_at_call 19; refine hcall.out.mono ?_; rintro e w1 ⟨a1, cc1, rfl, hI1, hl1, hcm1, hb1⟩; have HI1 := Lib.hid hI1; have HB1 := Lib.hid hb1; have HBX1 := Lib.hid (HBOX.out.below hb1 (by omega)); have HRS1 := Lib.hid (HRES.out.below hb1 (by omega)); obtain ⟨k0, k1, k2, k3, k4, f0, f1, f2, f3, f4⟩ := HBOX.out.below hb1 (by omega); obtain ⟨r0, r1, r2, r3, r4, g0, g1, g2, g3, g4⟩ := HRES.out.below hb1 (by omega); clear hI1 hb1)
        go_region
        all_goals go_wp2
        (try simp only [Exit.inBlock, Exit.then])
        refine bodyPost_ret (v := .tuple #[.int .u64 (X % n), .agg #[.slice a1 L1.length cc1, .int .u64 (T1.a : Nat), .int .u64 (T1.b : Nat), .int .u64 (T1.c : Nat), .int .u64 (T1.d : Nat)]]) (by rw [results_tc rfl]; go_simp) rfl ?_
        rw [HX.out, HN.out]
        show RetRand w hi0 (X % n) L1 T1 _ _
        have hBW : ∀ u0 u1 u2 u3 u4 v0 v1 v2 v3 v4, Below w.heap.size w1 (set5 (set5 w1 w.heap.size u0 u1 u2 u3 u4) (w.heap.size + 1) v0 v1 v2 v3 v4).drew := fun _ _ _ _ _ _ _ _ _ _ => Below.drew (below_set5 (below_set5 (Below.refl _ w1) (Nat.le_refl _) _ _ _ _ _) (by omega) _ _ _ _ _)
        exact ⟨a1, cc1, rfl, HI1.out.below (hBW _ _ _ _ _ _ _ _ _ _) hhi, hl1, hcm1, (HBEL.out.trans (HB1.out.mono (by omega))).trans (hBW _ _ _ _ _ _ _ _ _ _)⟩
      · exfalso
        have h3 := HREJ.out i (by omega)
        have h4 := HL.out
        rw [hon, Int.emod_self] at h4
        simp [takes, h4] at h3
  · have e1 : (o == n) = false := by simp [hon]
    have e2 : (o == 0) = false := by simp; omega
    have e3 : IntKind.u64.wrap (0 - o) = 18446744073709551616 - o := by rw [wrap_u64]; omega
    have e4 : IntKind.u64.wrap (-o) = 18446744073709551616 - o := by rw [wrap_u64]; omega
    go_enter Try.func20, Try.ntmps20
    go_wp2
    go_loopg [] k (fun gk wr => gk ≤ k ∧ AtGenH hi0 w xs s w.heap.size (k - gk) wr ∧ Box5 wr (w.heap.size + 1) (.slice none 0 0) (.int .u64 0) (.int .u64 0) (.int .u64 0) (.int .u64 0) ∧ w.heap.size + 2 ≤ wr.heap.size)
    case atStart =>
      refine ⟨Nat.le_refl _, ⟨a, c, ?_, ?_, ?_, hc2, ?_⟩, ?_, by simp⟩
      · rw [Nat.sub_self]; simp only [gen]; constructor <;> go_simp
      · rw [Nat.sub_self]; exact hi.below (B := w.heap.size) (by (repeat' (first | exact Below.refl _ _ | refine Below.drew ?_ | refine Below.alloc ?_ (by simp <;> omega) _))) hhi
      · rw [Nat.sub_self]; exact hc
      · exact (by (repeat' (first | exact Below.refl _ _ | refine Below.drew ?_ | refine Below.alloc ?_ (by simp <;> omega) _)))
      · constructor <;> go_simp
    case round =>
      obtain ⟨hgk, ⟨a0, c0, hbox, hI, hlc, hcm, hbel⟩, hres, hsz⟩ := hrel
      obtain ⟨i, hik⟩ : ∃ i, k - gk = i := ⟨_, rfl⟩
      rw [hik] at hbox hI hlc
      have HG := Lib.hid (HS.out.gen i)
      have HX : Hid (genX xs s i = gX (gen xs s i).1 (gen xs s i).2) := Lib.hid rfl
      have HN : Hid (gen xs s (i + 1) = (gL (gen xs s i).1, gS (gen xs s i).1 (gen xs s i).2)) := Lib.hid rfl
      have HXB := HG.out.x
      obtain ⟨L, hL⟩ : ∃ y, (gen xs s i).1 = y := ⟨_, rfl⟩
      obtain ⟨T, hT⟩ : ∃ y, (gen xs s i).2 = y := ⟨_, rfl⟩
      rw [hL, hT] at HG HX HN hbox HXB
      rw [hL] at hI hlc
      have HGS : Hid (GoodS (gL L) (gS L T)) := Lib.hid HG.out.next
      obtain ⟨X, hX⟩ : ∃ y, gX L T = y := ⟨_, rfl⟩
      obtain ⟨L1, hL1⟩ : ∃ y, gL L = y := ⟨_, rfl⟩
      obtain ⟨T1, hT1⟩ : ∃ y, gS L T = y := ⟨_, rfl⟩
      have hcall := hnext a0 c0 T L wr HG.out.1 (by omega) hI hlc hcm
      rw [hX, hL1, hT1] at hcall
      rw [hX] at HX HXB
      rw [hL1, hT1] at HN
      obtain ⟨hx0, hx1⟩ := HXB
      have HBOX := Lib.hid hbox
      have HRES := Lib.hid hres
      have HBEL := Lib.hid hbel
      obtain ⟨c0_, c1_, c2_, c3_, c4_, _, _, _, _, _⟩ := hbox
      clear hL hT hX hL1 hT1 hI hres hbel hlc
      by_cases hz : gk = 0
      · have hki : i = k := by omega
        subst hki
        have hlt : X < 18446744073709551616 - o := by
          have h3 := HACC.out
          have h4 := HL.out
          rw [Int.emod_eq_of_lt (by omega) (by omega)] at h4
          rw [HX.out] at h3
          simp [takes, h4] at h3
          omega
        go_wp2_with (go_at_call 19; refine hcall.out.mono ?_; rintro e w1 ⟨a1, cc1, rfl, hI1, hl1, hcm1, hb1⟩; have HI1 := Lib.hid hI1; have HB1 := Lib.hid hb1; have HBX1 := Lib.hid (HBOX.out.below hb1 (by omega)); have HRS1 := Lib.hid (HRES.out.below hb1 (by omega)); obtain ⟨k0, k1, k2, k3, k4, f0, f1, f2, f3, f4⟩ := HBOX.out.below hb1 (by omega); obtain ⟨r0, r1, r2, r3, r4, g0, g1, g2, g3, g4⟩ := HRES.out.below hb1 (by omega); clear hI1 hb1)
        go_region
        all_goals go_wp2
        (try simp only [Exit.inBlock, Exit.then])
        refine bodyPost_ret (v := .tuple #[.int .u64 (X % n), .agg #[.slice a1 L1.length cc1, .int .u64 (T1.a : Nat), .int .u64 (T1.b : Nat), .int .u64 (T1.c : Nat), .int .u64 (T1.d : Nat)]]) (by rw [results_tc rfl]; go_simp) rfl ?_
        rw [HX.out, HN.out]
        show RetRand w hi0 (X % n) L1 T1 _ _
        have hBW : ∀ u0 u1 u2 u3 u4 v0 v1 v2 v3 v4, Below w.heap.size w1 (set5 (set5 w1 w.heap.size u0 u1 u2 u3 u4) (w.heap.size + 1) v0 v1 v2 v3 v4).drew := fun _ _ _ _ _ _ _ _ _ _ => Below.drew (below_set5 (below_set5 (Below.refl _ w1) (Nat.le_refl _) _ _ _ _ _) (by omega) _ _ _ _ _)
        exact ⟨a1, cc1, rfl, HI1.out.below (hBW _ _ _ _ _ _ _ _ _ _) hhi, hl1, hcm1, (HBEL.out.trans (HB1.out.mono (by omega))).trans (hBW _ _ _ _ _ _ _ _ _ _)⟩
      · have hlt : ¬ X < 18446744073709551616 - o := by
          have h3 := HREJ.out i (by omega)
          have h4 := HL.out
          rw [Int.emod_eq_of_lt (by omega) (by omega)] at h4
          rw [HX.out] at h3
          simp [takes, h4] at h3
          omega
        have hge : 18446744073709551616 - o ≤ X := by omega
        go_wp2_with (go_at_call 19; refine hcall.out.mono ?_; rintro e w1 ⟨a1, cc1, rfl, hI1, hl1, hcm1, hb1⟩; have HI1 := Lib.hid hI1; have HB1 := Lib.hid hb1; have HBX1 := Lib.hid (HBOX.out.below hb1 (by omega)); have HRS1 := Lib.hid (HRES.out.below hb1 (by omega)); obtain ⟨k0, k1, k2, k3, k4, f0, f1, f2, f3, f4⟩ := HBOX.out.below hb1 (by omega); obtain ⟨r0, r1, r2, r3, r4, g0, g1, g2, g3, g4⟩ := HRES.out.below hb1 (by omega); clear hI1 hb1)
        go_roundg (gk - 1)
        case measure => omega
        case rel =>
          have e : k - (gk - 1) = i + 1 := by omega
          have hsz1 := HB1.out.size
          refine ⟨by omega, ?_, HRS1.out.other (by omega) _ _ _ _ _, by simp; omega⟩
          rw [e]
          unfold AtGenH
          rw [HN.out]
          exact ⟨a1, cc1, HBX1.out.set _ _ _ _ _, HI1.out.below (B := w.heap.size) (below_set5 (Below.refl _ w1) (Nat.le_refl _) _ _ _ _ _) hhi, hl1, hcm1, below_set5 (HBEL.out.trans (HB1.out.mono (by omega))) (Nat.le_refl _) _ _ _ _ _⟩
end Go.Proofs.Ytiejkdnkdmanmaa
