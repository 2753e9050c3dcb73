/- The law WideRounds, walked. -/
import Derived.Test.YtlbmpdidmckgkaaDiv7
import Derived.Test.YtlbmpdidmckgkaaWide7
import Derived.Test.YtlbmpdidmckgkaaEnv
import Derived.Deep.RegionHeld3
import Derived.Deep.Cut
import Derived.Deep.CutBlock
import Derived.Deep.CutRange
set_option linter.unusedVariables false
set_option linter.unusedSimpArgs false
namespace Go.Proofs.Ytlbmpdidmckgkaa
open Go.RowKit Go.Rt

theorem envW {k : IntKind} {e : TypeId} {B : Nat} {w0 W : World} {L : List (Option Addr × List Int)} {O : List (Nat × Option Addr × Nat × List Int)} {C : List (Addr × Value)} (E : Env k e B w0 W L O C) : ∃ Wb, W = Wb := ⟨_, rfl⟩
theorem cellOf {B : Nat} {Wb w' : World} {a : Addr} {v : Value} (h : Below B Wb w') (hc : Wb.cell? a = some v) (hlt : a.block < B) : w'.cell? a = some v := (h.cell (p := a) hlt).trans hc
theorem V_abs {h l : Int} (a : WR h l) : (V h l).natAbs < 2 ^ 130 := by
  obtain ⟨_, _, _, _⟩ := a
  have : (2 : Nat) ^ 130 = 1361129467683753853853498429727072845824 := by decide
  rw [this]
  unfold V
  omega
theorem roundI_abs (x y : Int) : (roundI x y).natAbs ≤ x.natAbs + 1 := by
  have h1 : absI x / absI y ≤ absI x := Int.ediv_le_self _ (absI_nn x)
  have h2 : 0 ≤ absI x / absI y := Int.ediv_nonneg (absI_nn x) (absI_nn y)
  rw [absI_natAbs x] at h1
  unfold roundI
  rw [absI_natAbs x] at *
  generalize (x.natAbs : Int) / absI y = q at *
  split <;> split <;> omega
theorem big_abs {h l z : Int} (a : WR h l) (hz : z.natAbs ≤ (V h l).natAbs + 1) : z.natAbs < 2 ^ 130 := by
  obtain ⟨_, _, _, _⟩ := a
  have : (2 : Nat) ^ 130 = 1361129467683753853853498429727072845824 := by decide
  rw [this]
  unfold V at hz
  omega
theorem round_is (ah al bh bl : Int) (hA : WR ah al) (hB : WR bh bl) (hz : ¬ (bh = 0 ∧ bl = 0)) : ∃ XH XL EX : Int, (∀ w, Calls Try.prog 14 #[.agg #[.int .i64 ah, .int .u64 al], .agg #[.int .i64 bh, .int .u64 bl]] w (RetWE w XH XL EX)) ∧
    (∀ a c w, NAt w w.heap.size a c (roundI (V ah al) (V bh bl)).natAbs → Calls Try.prog 16 #[.agg #[.int .i64 XH, .int .u64 XL], .int .i64 EX, .int .i64 0, .agg #[.bool (decide (roundI (V ah al) (V bh bl) < 0)), .slice a (dig 18446744073709551616 (roundI (V ah al) (V bh bl)).natAbs).length c]] w fun e w' => e = .returned (.bool true) ∧ Below w.heap.size w w') := by
  have hr := fun w => round_of ah al bh bl w hA hB hz (fun w => divide_any ah al bh bl w hA hB hz)
  have hb := big_abs hA (roundI_abs (V ah al) (V bh bl))
  by_cases hin : inR (roundI (V ah al) (V bh bl))
  · exact ⟨_, _, _, fun w => (hr w).1 hin, fun a c w hN => is_in a c 130 _ w hN (by decide) hb hin⟩
  · exact ⟨_, _, _, fun w => (hr w).2 hin, fun a c w hN => is_out a c 130 _ w hN (by decide) hb hin⟩
theorem down_is (ah al bh bl : Int) (hA : WR ah al) (hB : WR bh bl) (hz : ¬ (bh = 0 ∧ bl = 0)) : ∃ XH XL EX : Int, (∀ w, Calls Try.prog 15 #[.agg #[.int .i64 ah, .int .u64 al], .agg #[.int .i64 bh, .int .u64 bl]] w (RetWE w XH XL EX)) ∧
    (∀ a c w, NAt w w.heap.size a c (downI (V ah al) (V bh bl)).natAbs → Calls Try.prog 16 #[.agg #[.int .i64 XH, .int .u64 XL], .int .i64 EX, .int .i64 0, .agg #[.bool (decide (downI (V ah al) (V bh bl) < 0)), .slice a (dig 18446744073709551616 (downI (V ah al) (V bh bl)).natAbs).length c]] w fun e w' => e = .returned (.bool true) ∧ Below w.heap.size w w') := by
  have hr := fun w => down_of ah al bh bl w hA hB hz (fun w => divide_any ah al bh bl w hA hB hz)
  have hb := big_abs hA (floor_abs (floor_down (x := V ah al) (y := V bh bl)))
  by_cases hin : inR (downI (V ah al) (V bh bl))
  · exact ⟨_, _, _, fun w => (hr w).1 hin, fun a c w hN => is_in a c 130 _ w hN (by decide) hb hin⟩
  · exact ⟨_, _, _, fun w => (hr w).2 hin, fun a c w hN => is_out a c 130 _ w hN (by decide) hb hin⟩

set_option maxHeartbeats 4000000 in
set_option maxRecDepth 100000 in
theorem wideRounds_any (a : Option Addr) (n c : Nat) (w : World) (h : PairsAt w w.heap.size a n) :
    Calls Try.prog 3 #[.slice a n c] w fun e w' => e = .returned (.bool true) ∧ Below w.heap.size w w' := by
  have hm := h.len
  go_enter Try.func3, Try.ntmps3
  go_wp2_with fail
  go_loopw [3] (fun i wr => ∃ k : Nat, k ≤ n ∧ i = .int .i64 k ∧ Below w.heap.size w wr) (fun i _ => n - (intOf i).toNat)
  case atStart => exact ⟨0, Nat.zero_le _, rfl, Below.refl _ _⟩
  case round =>
    obtain ⟨k, hk, rfl, hbel⟩ := hrel
    by_cases hend : k < n ∧ k < 30
    · obtain ⟨hlt, h20⟩ := hend
      obtain ⟨b, off, ah, al, bh, bl, x, y, m, rfl, ht⟩ := h.at_ k hlt
      replace ht := ht.below hbel
      have hsz := hbel.size
      obtain ⟨hlb, c0, c1, c2, c3, c4, c5, c6, hA, hB, x0, x1, y0, y1, m0, m1⟩ := ht
      have HB := Lib.hid hbel
      clear hbel h
      have E : Env .u64 23 wr.heap.size wr (wr.alloc (.cells #[.int .i64 ah, .int .u64 al, .int .i64 bh, .int .u64 bl, .int .i64 x, .int .i64 y, .int .i64 m] 27)) [] [] [(⟨wr.heap.size, 6, none⟩, .int .i64 m), (⟨wr.heap.size, 5, none⟩, .int .i64 y), (⟨wr.heap.size, 4, none⟩, .int .i64 x), (⟨wr.heap.size, 3, none⟩, .int .u64 bl), (⟨wr.heap.size, 2, none⟩, .int .i64 bh), (⟨wr.heap.size, 1, none⟩, .int .u64 al), (⟨wr.heap.size, 0, none⟩, .int .i64 ah)] :=
        (((((((((Env.start .u64 23 wr)).alloc _).addC (by simp [go_sem])).addC (by simp [go_sem])).addC (by simp [go_sem])).addC (by simp [go_sem])).addC (by simp [go_sem])).addC (by simp [go_sem])).addC (by simp [go_sem])
      have hIA := fun w => Lib.hid (ref1Int_any ah al w hA)
      have hIB := fun w => Lib.hid (ref1Int_any bh bl w hB)
      have hVA := V_abs hA
      have hVB := V_abs hB
      go_upto_region 5 with fail
      obtain ⟨W1, hW1⟩ := envW E
      rw [hW1] at E ⊢
      clear hW1
      have P0 := Lib.hid (E.cell (a := ⟨wr.heap.size, 0, none⟩) (v := .int .i64 ah) (by simp))
      have P1 := Lib.hid (E.cell (a := ⟨wr.heap.size, 1, none⟩) (v := .int .u64 al) (by simp))
      have P2 := Lib.hid (E.cell (a := ⟨wr.heap.size, 2, none⟩) (v := .int .i64 bh) (by simp))
      have P3 := Lib.hid (E.cell (a := ⟨wr.heap.size, 3, none⟩) (v := .int .u64 bl) (by simp))
      have hltp := (E.cells (⟨wr.heap.size, 0, none⟩, .int .i64 ah) (by simp)).2
      have BP := Lib.hid (HB.out.trans (E.bel.mono hsz))
      clear E
      have E := ZEnv.start W1
      have p0 := cellOf E.bel P0.out hltp
      have p1 := cellOf E.bel P1.out hltp
      have p2 := cellOf E.bel P2.out hltp
      have p3 := cellOf E.bel P3.out hltp
      by_cases hz : bh = 0 ∧ bl = 0
      · as_aux_lemma =>
          obtain ⟨VA, hVAe⟩ : ∃ z, V ah al = z := ⟨_, rfl⟩
          obtain ⟨VB, hVBe⟩ : ∃ z, V bh bl = z := ⟨_, rfl⟩
          have hVB0 : VB = 0 := by rw [← hVBe, hz.1, hz.2]; rfl
          rw [hVAe] at hIA
          rw [hVBe] at hIB
          have hZR := fun a c w => Lib.hid (zzero_any a c VB w)
          rw [decide_eq_true hVB0] at hZR
          obtain ⟨XH, hXH⟩ : ∃ z : Int, z = 0 := ⟨_, rfl⟩
          obtain ⟨XL, hXL⟩ : ∃ z : Int, z = 0 := ⟨_, rfl⟩
          obtain ⟨YH, hYH⟩ : ∃ z : Int, z = 0 := ⟨_, rfl⟩
          obtain ⟨YL, hYL⟩ : ∃ z : Int, z = 0 := ⟨_, rfl⟩
          have hrd : ∀ w, Hid (Calls Try.prog 14 #[.agg #[.int .i64 ah, .int .u64 al], .agg #[.int .i64 bh, .int .u64 bl]] w (RetWE w XH XL 4)) := fun w => Lib.hid (by rw [hz.1, hz.2, hXH, hXL]; exact round_0 ah al w)
          have hdn : ∀ w, Hid (Calls Try.prog 15 #[.agg #[.int .i64 ah, .int .u64 al], .agg #[.int .i64 bh, .int .u64 bl]] w (RetWE w YH YL 4)) := fun w => Lib.hid (by rw [hz.1, hz.2, hYH, hYL]; exact down_0 ah al w)
          have hi1 : ∀ w, Hid (Calls Try.prog 16 #[.agg #[.int .i64 XH, .int .u64 XL], .int .i64 4, .int .i64 4, .agg #[.bool false, .slice none 0 0]] w fun e w' => e = .returned (.bool true) ∧ Below w.heap.size w w') := fun w => Lib.hid (by rw [hXH, hXL]; exact is_bad none 0 0 4 w (by decide))
          have hi2 : ∀ w, Hid (Calls Try.prog 16 #[.agg #[.int .i64 YH, .int .u64 YL], .int .i64 4, .int .i64 4, .agg #[.bool false, .slice none 0 0]] w fun e w' => e = .returned (.bool true) ∧ Below w.heap.size w w') := fun w => Lib.hid (by rw [hYH, hYL]; exact is_bad none 0 0 4 w (by decide))
          clear hz hVAe hVBe hVB0 hXH hXL hYH hYL hVA hVB
          have M1 := True.intro
          go_upto_region 6 with (go_at_call 10; have hmk := M1; clear hmk M1; go_loud (refine (hIA _).out.mono ?_; rintro e w5 ⟨a5, c5, rfl, hN5, hb5⟩; replace E := (((E.next hb5).addN hN5).alloc (.cells #[.bool (decide (VA < 0)), .slice a5 (dig 18446744073709551616 (VA).natAbs).length c5] 31)).addB (b := w5.heap.size) (v0 := .bool (decide (VA < 0))) (v1 := .slice a5 (dig 18446744073709551616 (VA).natAbs).length c5) (zbox_made _ _ _ _); clear hN5 hb5; (try clear p0 p1 p2 p3); have p0 := cellOf E.bel P0.out hltp; have p1 := cellOf E.bel P1.out hltp; have p2 := cellOf E.bel P2.out hltp; have p3 := cellOf E.bel P3.out hltp))
          have M2 := True.intro
          go_upto_region 7 with (go_at_call 10; have hmk := M2; clear hmk M2; go_loud (refine (hIB _).out.mono ?_; rintro e w6 ⟨a6, c6, rfl, hN6, hb6⟩; have H56 := Lib.hid ((E.next hb6).lt 0 (b := w5.heap.size) rfl); replace E := (((E.next hb6).addN hN6).alloc (.cells #[.bool (decide (VB < 0)), .slice a6 (dig 18446744073709551616 (VB).natAbs).length c6] 31)).addB (b := w6.heap.size) (v0 := .bool (decide (VB < 0))) (v1 := .slice a6 (dig 18446744073709551616 (VB).natAbs).length c6) (zbox_made _ _ _ _); clear hN6 hb6; (try clear p0 p1 p2 p3); have p0 := cellOf E.bel P0.out hltp; have p1 := cellOf E.bel P1.out hltp; have p2 := cellOf E.bel P2.out hltp; have p3 := cellOf E.bel P3.out hltp))
          generalize hB5 : w5.heap.size = B5 at *
          generalize hB6 : w6.heap.size = B6 at *
          obtain ⟨W6, hW6⟩ := envZ E
          rw [hW6] at E
          (try rw [hW6])
          clear hW6 hB5 hB6
          (try clear p0 p1 p2 p3)
          have H6 := Lib.hid (E.lt 0 (b := B6) rfl)
          have H5 := Lib.hid (E.lt 1 (b := B5) rfl)
          have H0 := Lib.hid E.hB
          go_upto_region 9 with fail
          have E2 := ((E.next (W' := (W6.alloc (.cells #[.bool false, .slice none 0 0] 31)).alloc (.cells #[.bool false, .slice none 0 0] 31)) (((Below.refl _ _).alloc (Nat.le_refl _) _).alloc (by simp) _)).addB (b := W6.heap.size) (v0 := .bool false) (v1 := .slice none 0 0) (by constructor <;> go_simp)).addB (b := W6.heap.size + 1) (v0 := .bool false) (v1 := .slice none 0 0) (by constructor <;> go_simp)
          clear E
          have E := E2
          clear E2
          obtain ⟨W8, hW8⟩ := envZ E
          rw [hW8] at E ⊢
          clear hW8
          generalize hB8 : W6.heap.size = B8 at *
          clear hB8
          obtain ⟨k0c0, k0c1, k0f0, k0f1⟩ := E.box 0 (b := (B8 + 1)) (v0 := .bool false) (v1 := .slice none 0 0) rfl; obtain ⟨k1c0, k1c1, k1f0, k1f1⟩ := E.box 1 (b := B8) (v0 := .bool false) (v1 := .slice none 0 0) rfl; obtain ⟨k2c0, k2c1, k2f0, k2f1⟩ := E.box 2 (b := B6) (v0 := .bool (decide (VB < 0))) (v1 := .slice a6 (dig 18446744073709551616 (VB).natAbs).length c6) rfl; obtain ⟨k3c0, k3c1, k3f0, k3f1⟩ := E.box 3 (b := B5) (v0 := .bool (decide (VA < 0))) (v1 := .slice a5 (dig 18446744073709551616 (VA).natAbs).length c5) rfl
          go_upto_region 13 with (go_at_call 11; refine (hZR _ _ _).out.mono ?_; rintro e w9 ⟨rfl, hb9⟩; replace E := E.next hb9; clear hb9; (try clear k0c0 k0c1 k0f0 k0f1); (try clear k1c0 k1c1 k1f0 k1f1); (try clear k2c0 k2c1 k2f0 k2f1); (try clear k3c0 k3c1 k3f0 k3f1); obtain ⟨k0c0, k0c1, k0f0, k0f1⟩ := E.box 0 (b := (B8 + 1)) (v0 := .bool false) (v1 := .slice none 0 0) rfl; obtain ⟨k1c0, k1c1, k1f0, k1f1⟩ := E.box 1 (b := B8) (v0 := .bool false) (v1 := .slice none 0 0) rfl; obtain ⟨k2c0, k2c1, k2f0, k2f1⟩ := E.box 2 (b := B6) (v0 := .bool (decide (VB < 0))) (v1 := .slice a6 (dig 18446744073709551616 (VB).natAbs).length c6) rfl; obtain ⟨k3c0, k3c1, k3f0, k3f1⟩ := E.box 3 (b := B5) (v0 := .bool (decide (VA < 0))) (v1 := .slice a5 (dig 18446744073709551616 (VA).natAbs).length c5) rfl)
          skip
          (try clear p0 p1 p2 p3)
          have p0 := cellOf E.bel P0.out hltp
          have p1 := cellOf E.bel P1.out hltp
          have p2 := cellOf E.bel P2.out hltp
          have p3 := cellOf E.bel P3.out hltp
          (try clear k0c0 k0c1 k0f0 k0f1); (try clear k1c0 k1c1 k1f0 k1f1); (try clear k2c0 k2c1 k2f0 k2f1); (try clear k3c0 k3c1 k3f0 k3f1); obtain ⟨k0c0, k0c1, k0f0, k0f1⟩ := E.box 0 (b := (B8 + 1)) (v0 := .bool false) (v1 := .slice none 0 0) rfl; obtain ⟨k1c0, k1c1, k1f0, k1f1⟩ := E.box 1 (b := B8) (v0 := .bool false) (v1 := .slice none 0 0) rfl; obtain ⟨k2c0, k2c1, k2f0, k2f1⟩ := E.box 2 (b := B6) (v0 := .bool (decide (VB < 0))) (v1 := .slice a6 (dig 18446744073709551616 (VB).natAbs).length c6) rfl; obtain ⟨k3c0, k3c1, k3f0, k3f1⟩ := E.box 3 (b := B5) (v0 := .bool (decide (VA < 0))) (v1 := .slice a5 (dig 18446744073709551616 (VA).natAbs).length c5) rfl
          go_upto_region 14 with (go_at_call 14; refine (hrd _).out.mono ?_; rintro e w13 ⟨rfl, hbb⟩; replace E := ((E.next hbb).alloc (.cells #[.int .i64 XH, .int .u64 XL] 25)).addB (b := w13.heap.size) (v0 := .int .i64 XH) (v1 := .int .u64 XL) (zbox_made _ _ _ _); clear hbb; (try clear p0 p1 p2 p3); have p0 := cellOf E.bel P0.out hltp; have p1 := cellOf E.bel P1.out hltp; have p2 := cellOf E.bel P2.out hltp; have p3 := cellOf E.bel P3.out hltp; (try clear k0c0 k0c1 k0f0 k0f1); (try clear k1c0 k1c1 k1f0 k1f1); (try clear k2c0 k2c1 k2f0 k2f1); (try clear k3c0 k3c1 k3f0 k3f1); obtain ⟨k0c0, k0c1, k0f0, k0f1⟩ := E.box 0 (b := w13.heap.size) (v0 := .int .i64 XH) (v1 := .int .u64 XL) rfl; obtain ⟨k1c0, k1c1, k1f0, k1f1⟩ := E.box 1 (b := (B8 + 1)) (v0 := .bool false) (v1 := .slice none 0 0) rfl; obtain ⟨k2c0, k2c1, k2f0, k2f1⟩ := E.box 2 (b := B8) (v0 := .bool false) (v1 := .slice none 0 0) rfl; obtain ⟨k3c0, k3c1, k3f0, k3f1⟩ := E.box 3 (b := B6) (v0 := .bool (decide (VB < 0))) (v1 := .slice a6 (dig 18446744073709551616 (VB).natAbs).length c6) rfl; obtain ⟨k4c0, k4c1, k4f0, k4f1⟩ := E.box 4 (b := B5) (v0 := .bool (decide (VA < 0))) (v1 := .slice a5 (dig 18446744073709551616 (VA).natAbs).length c5) rfl)
          go_upto_region 15 with (go_at_call 15; refine (hdn _).out.mono ?_; rintro e w14 ⟨rfl, hbb⟩; replace E := ((E.next hbb).alloc (.cells #[.int .i64 YH, .int .u64 YL] 25)).addB (b := w14.heap.size) (v0 := .int .i64 YH) (v1 := .int .u64 YL) (zbox_made _ _ _ _); clear hbb; (try clear p0 p1 p2 p3); have p0 := cellOf E.bel P0.out hltp; have p1 := cellOf E.bel P1.out hltp; have p2 := cellOf E.bel P2.out hltp; have p3 := cellOf E.bel P3.out hltp; (try clear k0c0 k0c1 k0f0 k0f1); (try clear k1c0 k1c1 k1f0 k1f1); (try clear k2c0 k2c1 k2f0 k2f1); (try clear k3c0 k3c1 k3f0 k3f1); (try clear k4c0 k4c1 k4f0 k4f1); obtain ⟨k0c0, k0c1, k0f0, k0f1⟩ := E.box 0 (b := w14.heap.size) (v0 := .int .i64 YH) (v1 := .int .u64 YL) rfl; obtain ⟨k1c0, k1c1, k1f0, k1f1⟩ := E.box 1 (b := w13.heap.size) (v0 := .int .i64 XH) (v1 := .int .u64 XL) rfl; obtain ⟨k2c0, k2c1, k2f0, k2f1⟩ := E.box 2 (b := (B8 + 1)) (v0 := .bool false) (v1 := .slice none 0 0) rfl; obtain ⟨k3c0, k3c1, k3f0, k3f1⟩ := E.box 3 (b := B8) (v0 := .bool false) (v1 := .slice none 0 0) rfl; obtain ⟨k4c0, k4c1, k4f0, k4f1⟩ := E.box 4 (b := B6) (v0 := .bool (decide (VB < 0))) (v1 := .slice a6 (dig 18446744073709551616 (VB).natAbs).length c6) rfl; obtain ⟨k5c0, k5c1, k5f0, k5f1⟩ := E.box 5 (b := B5) (v0 := .bool (decide (VA < 0))) (v1 := .slice a5 (dig 18446744073709551616 (VA).natAbs).length c5) rfl)
          have M3 := True.intro
          have M4 := True.intro
          go_wp2_with (first | (go_at_call 16; have hmk := M3; clear hmk M3; refine (hi1 _).out.mono ?_; rintro e w15 ⟨rfl, hbb⟩; replace E := E.next hbb; clear hbb; (try clear p0 p1 p2 p3); (try clear k0c0 k0c1 k0f0 k0f1); (try clear k1c0 k1c1 k1f0 k1f1); (try clear k2c0 k2c1 k2f0 k2f1); (try clear k3c0 k3c1 k3f0 k3f1); (try clear k4c0 k4c1 k4f0 k4f1); (try clear k5c0 k5c1 k5f0 k5f1); obtain ⟨k0c0, k0c1, k0f0, k0f1⟩ := E.box 0 (b := w14.heap.size) (v0 := .int .i64 YH) (v1 := .int .u64 YL) rfl; obtain ⟨k1c0, k1c1, k1f0, k1f1⟩ := E.box 1 (b := w13.heap.size) (v0 := .int .i64 XH) (v1 := .int .u64 XL) rfl; obtain ⟨k2c0, k2c1, k2f0, k2f1⟩ := E.box 2 (b := (B8 + 1)) (v0 := .bool false) (v1 := .slice none 0 0) rfl; obtain ⟨k3c0, k3c1, k3f0, k3f1⟩ := E.box 3 (b := B8) (v0 := .bool false) (v1 := .slice none 0 0) rfl; obtain ⟨k4c0, k4c1, k4f0, k4f1⟩ := E.box 4 (b := B6) (v0 := .bool (decide (VB < 0))) (v1 := .slice a6 (dig 18446744073709551616 (VB).natAbs).length c6) rfl; obtain ⟨k5c0, k5c1, k5f0, k5f1⟩ := E.box 5 (b := B5) (v0 := .bool (decide (VA < 0))) (v1 := .slice a5 (dig 18446744073709551616 (VA).natAbs).length c5) rfl) | (go_at_call 16; have hmk := M4; clear hmk M4; refine (hi2 _).out.mono ?_; rintro e w16 ⟨rfl, hbb⟩; replace E := E.next hbb; clear hbb; (try clear k0c0 k0c1 k0f0 k0f1); (try clear k1c0 k1c1 k1f0 k1f1); (try clear k2c0 k2c1 k2f0 k2f1); (try clear k3c0 k3c1 k3f0 k3f1); (try clear k4c0 k4c1 k4f0 k4f1); (try clear k5c0 k5c1 k5f0 k5f1); obtain ⟨k0c0, k0c1, k0f0, k0f1⟩ := E.box 0 (b := w14.heap.size) (v0 := .int .i64 YH) (v1 := .int .u64 YL) rfl; obtain ⟨k1c0, k1c1, k1f0, k1f1⟩ := E.box 1 (b := w13.heap.size) (v0 := .int .i64 XH) (v1 := .int .u64 XL) rfl; obtain ⟨k2c0, k2c1, k2f0, k2f1⟩ := E.box 2 (b := (B8 + 1)) (v0 := .bool false) (v1 := .slice none 0 0) rfl; obtain ⟨k3c0, k3c1, k3f0, k3f1⟩ := E.box 3 (b := B8) (v0 := .bool false) (v1 := .slice none 0 0) rfl; obtain ⟨k4c0, k4c1, k4f0, k4f1⟩ := E.box 4 (b := B6) (v0 := .bool (decide (VB < 0))) (v1 := .slice a6 (dig 18446744073709551616 (VB).natAbs).length c6) rfl; obtain ⟨k5c0, k5c1, k5f0, k5f1⟩ := E.box 5 (b := B5) (v0 := .bool (decide (VA < 0))) (v1 := .slice a5 (dig 18446744073709551616 (VA).natAbs).length c5) rfl))
          refine ⟨⟨k + 1, by omega, by go_num, BP.out.trans (E.bel.mono (by have := hsz; omega))⟩, ?_⟩
          simp [intOf]; omega
      · as_aux_lemma =>
          obtain ⟨XH, XL, EX, hrd0, hi10⟩ := round_is ah al bh bl hA hB hz
          obtain ⟨YH, YL, EY, hdn0, hi20⟩ := down_is ah al bh bl hA hB hz
          have hVBn : V bh bl ≠ 0 := by intro e; apply hz; obtain ⟨_, _, _, _⟩ := hB; unfold V at e; omega
          have hrd := fun w => Lib.hid (hrd0 w)
          have hdn := fun w => Lib.hid (hdn0 w)
          have hRR := fun a b c d w hN hM => Lib.hid (ref1Round_any a b c d 130 (V ah al) (V bh bl) _ w hN hM (by decide) hVA hVB hVBn (near_round _ _ hVBn))
          have hDD := fun a b c d w hN hM => Lib.hid (ref1Down_any a b c d 130 (V ah al) (V bh bl) _ w hN hM (by decide) hVA hVB hVBn floor_down)
          have hZR := fun a c w => Lib.hid (zzero_any a c (V bh bl) w)
          rw [decide_eq_false hVBn] at hZR
          obtain ⟨R, hR⟩ : ∃ z, roundI (V ah al) (V bh bl) = z := ⟨_, rfl⟩
          obtain ⟨Dn, hDn⟩ : ∃ z, downI (V ah al) (V bh bl) = z := ⟨_, rfl⟩
          rw [hR] at hRR hi10
          rw [hDn] at hDD hi20
          have hi1 := fun a c w hN => Lib.hid (hi10 a c w hN)
          have hi2 := fun a c w hN => Lib.hid (hi20 a c w hN)
          obtain ⟨VA, hVAe⟩ : ∃ z, V ah al = z := ⟨_, rfl⟩
          obtain ⟨VB, hVBe⟩ : ∃ z, V bh bl = z := ⟨_, rfl⟩
          rw [hVAe] at hIA
          rw [hVBe] at hIB hZR
          rw [hVAe, hVBe] at hRR hDD
          clear hz hVAe hVBe hVBn hVA hVB hR hDn hrd0 hdn0 hi10 hi20
          have M1 := True.intro
          go_upto_region 6 with (go_at_call 10; have hmk := M1; clear hmk M1; go_loud (refine (hIA _).out.mono ?_; rintro e w5 ⟨a5, c5, rfl, hN5, hb5⟩; replace E := (((E.next hb5).addN hN5).alloc (.cells #[.bool (decide (VA < 0)), .slice a5 (dig 18446744073709551616 (VA).natAbs).length c5] 31)).addB (b := w5.heap.size) (v0 := .bool (decide (VA < 0))) (v1 := .slice a5 (dig 18446744073709551616 (VA).natAbs).length c5) (zbox_made _ _ _ _); clear hN5 hb5; (try clear p0 p1 p2 p3); have p0 := cellOf E.bel P0.out hltp; have p1 := cellOf E.bel P1.out hltp; have p2 := cellOf E.bel P2.out hltp; have p3 := cellOf E.bel P3.out hltp))
          have M2 := True.intro
          go_upto_region 7 with (go_at_call 10; have hmk := M2; clear hmk M2; go_loud (refine (hIB _).out.mono ?_; rintro e w6 ⟨a6, c6, rfl, hN6, hb6⟩; have H56 := Lib.hid ((E.next hb6).lt 0 (b := w5.heap.size) rfl); replace E := (((E.next hb6).addN hN6).alloc (.cells #[.bool (decide (VB < 0)), .slice a6 (dig 18446744073709551616 (VB).natAbs).length c6] 31)).addB (b := w6.heap.size) (v0 := .bool (decide (VB < 0))) (v1 := .slice a6 (dig 18446744073709551616 (VB).natAbs).length c6) (zbox_made _ _ _ _); clear hN6 hb6; (try clear p0 p1 p2 p3); have p0 := cellOf E.bel P0.out hltp; have p1 := cellOf E.bel P1.out hltp; have p2 := cellOf E.bel P2.out hltp; have p3 := cellOf E.bel P3.out hltp))
          generalize hB5 : w5.heap.size = B5 at *
          generalize hB6 : w6.heap.size = B6 at *
          obtain ⟨W6, hW6⟩ := envZ E
          rw [hW6] at E
          (try rw [hW6])
          clear hW6 hB5 hB6
          (try clear p0 p1 p2 p3)
          have H6 := Lib.hid (E.lt 0 (b := B6) rfl)
          have H5 := Lib.hid (E.lt 1 (b := B5) rfl)
          have H0 := Lib.hid E.hB
          go_upto_region 9 with fail
          have E2 := ((E.next (W' := (W6.alloc (.cells #[.bool false, .slice none 0 0] 31)).alloc (.cells #[.bool false, .slice none 0 0] 31)) (((Below.refl _ _).alloc (Nat.le_refl _) _).alloc (by simp) _)).addB (b := W6.heap.size) (v0 := .bool false) (v1 := .slice none 0 0) (by constructor <;> go_simp)).addB (b := W6.heap.size + 1) (v0 := .bool false) (v1 := .slice none 0 0) (by constructor <;> go_simp)
          clear E
          have E := E2
          clear E2
          obtain ⟨W8, hW8⟩ := envZ E
          rw [hW8] at E ⊢
          clear hW8
          generalize hB8 : W6.heap.size = B8 at *
          clear hB8
          obtain ⟨k0c0, k0c1, k0f0, k0f1⟩ := E.box 0 (b := (B8 + 1)) (v0 := .bool false) (v1 := .slice none 0 0) rfl; obtain ⟨k1c0, k1c1, k1f0, k1f1⟩ := E.box 1 (b := B8) (v0 := .bool false) (v1 := .slice none 0 0) rfl; obtain ⟨k2c0, k2c1, k2f0, k2f1⟩ := E.box 2 (b := B6) (v0 := .bool (decide (VB < 0))) (v1 := .slice a6 (dig 18446744073709551616 (VB).natAbs).length c6) rfl; obtain ⟨k3c0, k3c1, k3f0, k3f1⟩ := E.box 3 (b := B5) (v0 := .bool (decide (VA < 0))) (v1 := .slice a5 (dig 18446744073709551616 (VA).natAbs).length c5) rfl
          go_upto_region 11 with (go_at_call 11; refine (hZR _ _ _).out.mono ?_; rintro e w9 ⟨rfl, hb9⟩; replace E := E.next hb9; clear hb9; (try clear k0c0 k0c1 k0f0 k0f1); (try clear k1c0 k1c1 k1f0 k1f1); (try clear k2c0 k2c1 k2f0 k2f1); (try clear k3c0 k3c1 k3f0 k3f1); obtain ⟨k0c0, k0c1, k0f0, k0f1⟩ := E.box 0 (b := (B8 + 1)) (v0 := .bool false) (v1 := .slice none 0 0) rfl; obtain ⟨k1c0, k1c1, k1f0, k1f1⟩ := E.box 1 (b := B8) (v0 := .bool false) (v1 := .slice none 0 0) rfl; obtain ⟨k2c0, k2c1, k2f0, k2f1⟩ := E.box 2 (b := B6) (v0 := .bool (decide (VB < 0))) (v1 := .slice a6 (dig 18446744073709551616 (VB).natAbs).length c6) rfl; obtain ⟨k3c0, k3c1, k3f0, k3f1⟩ := E.box 3 (b := B5) (v0 := .bool (decide (VA < 0))) (v1 := .slice a5 (dig 18446744073709551616 (VA).natAbs).length c5) rfl)
          go_upto_region 12 with (go_at_call 12; refine (hRR _ _ _ _ _ (E.num 1 rfl) (E.num 0 rfl)).out.mono ?_; rintro e w11 ⟨a11, c11, rfl, hN11, hb11⟩; replace E := (E.next hb11).addN hN11; clear hN11 hb11; (try clear k0c0 k0c1 k0f0 k0f1); (try clear k1c0 k1c1 k1f0 k1f1); (try clear k2c0 k2c1 k2f0 k2f1); (try clear k3c0 k3c1 k3f0 k3f1); obtain ⟨k0c0, k0c1, k0f0, k0f1⟩ := E.box 0 (b := (B8 + 1)) (v0 := .bool false) (v1 := .slice none 0 0) rfl; obtain ⟨k1c0, k1c1, k1f0, k1f1⟩ := E.box 1 (b := B8) (v0 := .bool false) (v1 := .slice none 0 0) rfl; obtain ⟨k2c0, k2c1, k2f0, k2f1⟩ := E.box 2 (b := B6) (v0 := .bool (decide (VB < 0))) (v1 := .slice a6 (dig 18446744073709551616 (VB).natAbs).length c6) rfl; obtain ⟨k3c0, k3c1, k3f0, k3f1⟩ := E.box 3 (b := B5) (v0 := .bool (decide (VA < 0))) (v1 := .slice a5 (dig 18446744073709551616 (VA).natAbs).length c5) rfl)
          have hne : ∀ p ∈ ([((B8 + 1), .bool false, .slice none 0 0), (B6, .bool (decide (VB < 0)), .slice a6 (dig 18446744073709551616 (VB).natAbs).length c6), (B5, .bool (decide (VA < 0)), .slice a5 (dig 18446744073709551616 (VA).natAbs).length c5)] : List (Nat × Value × Value)), p.1 ≠ B8 := by
            have h5 := H5.out; have h6 := H6.out
            intro p hp
            simp only [List.mem_cons, List.not_mem_nil, or_false] at hp
            rcases hp with rfl | rfl | rfl <;> (dsimp only; omega)
          have E2 := (E.sub [(B8, .bool false, .slice none 0 0), ((B8 + 1), .bool false, .slice none 0 0), (B6, .bool (decide (VB < 0)), .slice a6 (dig 18446744073709551616 (VB).natAbs).length c6), (B5, .bool (decide (VA < 0)), .slice a5 (dig 18446744073709551616 (VA).natAbs).length c5)] (by intro p hp; simp only [List.mem_cons, List.not_mem_nil, or_false] at hp ⊢; rcases hp with h | h | h | h <;> simp [h])).store hne (by have := H0.out; omega) bool_int slice_int (.bool (decide (R < 0))) (.slice a11 (dig 18446744073709551616 (R).natAbs).length c11)
          clear E hne
          have E := E2
          clear E2
          obtain ⟨W11, hW11⟩ := envZ E
          rw [hW11] at E ⊢
          clear hW11
          (try clear k0c0 k0c1 k0f0 k0f1); (try clear k1c0 k1c1 k1f0 k1f1); (try clear k2c0 k2c1 k2f0 k2f1); (try clear k3c0 k3c1 k3f0 k3f1); obtain ⟨k0c0, k0c1, k0f0, k0f1⟩ := E.box 0 (b := B8) (v0 := .bool (decide (R < 0))) (v1 := .slice a11 (dig 18446744073709551616 (R).natAbs).length c11) rfl; obtain ⟨k1c0, k1c1, k1f0, k1f1⟩ := E.box 1 (b := (B8 + 1)) (v0 := .bool false) (v1 := .slice none 0 0) rfl; obtain ⟨k2c0, k2c1, k2f0, k2f1⟩ := E.box 2 (b := B6) (v0 := .bool (decide (VB < 0))) (v1 := .slice a6 (dig 18446744073709551616 (VB).natAbs).length c6) rfl; obtain ⟨k3c0, k3c1, k3f0, k3f1⟩ := E.box 3 (b := B5) (v0 := .bool (decide (VA < 0))) (v1 := .slice a5 (dig 18446744073709551616 (VA).natAbs).length c5) rfl
          go_upto_region 13 with (go_at_call 13; refine (hDD _ _ _ _ _ (E.num 2 rfl) (E.num 1 rfl)).out.mono ?_; rintro e w12 ⟨a12, c12, rfl, hN12, hb12⟩; replace E := (E.next hb12).addN hN12; clear hN12 hb12; (try clear p0 p1 p2 p3); have p0 := cellOf E.bel P0.out hltp; have p1 := cellOf E.bel P1.out hltp; have p2 := cellOf E.bel P2.out hltp; have p3 := cellOf E.bel P3.out hltp; (try clear k0c0 k0c1 k0f0 k0f1); (try clear k1c0 k1c1 k1f0 k1f1); (try clear k2c0 k2c1 k2f0 k2f1); (try clear k3c0 k3c1 k3f0 k3f1); obtain ⟨k0c0, k0c1, k0f0, k0f1⟩ := E.box 0 (b := B8) (v0 := .bool (decide (R < 0))) (v1 := .slice a11 (dig 18446744073709551616 (R).natAbs).length c11) rfl; obtain ⟨k1c0, k1c1, k1f0, k1f1⟩ := E.box 1 (b := (B8 + 1)) (v0 := .bool false) (v1 := .slice none 0 0) rfl; obtain ⟨k2c0, k2c1, k2f0, k2f1⟩ := E.box 2 (b := B6) (v0 := .bool (decide (VB < 0))) (v1 := .slice a6 (dig 18446744073709551616 (VB).natAbs).length c6) rfl; obtain ⟨k3c0, k3c1, k3f0, k3f1⟩ := E.box 3 (b := B5) (v0 := .bool (decide (VA < 0))) (v1 := .slice a5 (dig 18446744073709551616 (VA).natAbs).length c5) rfl)
          have hne : ∀ p ∈ ([(B8, .bool (decide (R < 0)), .slice a11 (dig 18446744073709551616 (R).natAbs).length c11), (B6, .bool (decide (VB < 0)), .slice a6 (dig 18446744073709551616 (VB).natAbs).length c6), (B5, .bool (decide (VA < 0)), .slice a5 (dig 18446744073709551616 (VA).natAbs).length c5)] : List (Nat × Value × Value)), p.1 ≠ (B8 + 1) := by
            have h5 := H5.out; have h6 := H6.out
            intro p hp
            simp only [List.mem_cons, List.not_mem_nil, or_false] at hp
            rcases hp with rfl | rfl | rfl <;> (dsimp only; omega)
          have E2 := (E.sub [((B8 + 1), .bool false, .slice none 0 0), (B8, .bool (decide (R < 0)), .slice a11 (dig 18446744073709551616 (R).natAbs).length c11), (B6, .bool (decide (VB < 0)), .slice a6 (dig 18446744073709551616 (VB).natAbs).length c6), (B5, .bool (decide (VA < 0)), .slice a5 (dig 18446744073709551616 (VA).natAbs).length c5)] (by intro p hp; simp only [List.mem_cons, List.not_mem_nil, or_false] at hp ⊢; rcases hp with h | h | h | h <;> simp [h])).store hne (by have := H0.out; omega) bool_int slice_int (.bool (decide (Dn < 0))) (.slice a12 (dig 18446744073709551616 (Dn).natAbs).length c12)
          clear E hne
          have E := E2
          clear E2
          obtain ⟨W12, hW12⟩ := envZ E
          rw [hW12] at E ⊢
          clear hW12
          (try clear p0 p1 p2 p3)
          have p0 := cellOf E.bel P0.out hltp
          have p1 := cellOf E.bel P1.out hltp
          have p2 := cellOf E.bel P2.out hltp
          have p3 := cellOf E.bel P3.out hltp
          (try clear k0c0 k0c1 k0f0 k0f1); (try clear k1c0 k1c1 k1f0 k1f1); (try clear k2c0 k2c1 k2f0 k2f1); (try clear k3c0 k3c1 k3f0 k3f1); obtain ⟨k0c0, k0c1, k0f0, k0f1⟩ := E.box 0 (b := (B8 + 1)) (v0 := .bool (decide (Dn < 0))) (v1 := .slice a12 (dig 18446744073709551616 (Dn).natAbs).length c12) rfl; obtain ⟨k1c0, k1c1, k1f0, k1f1⟩ := E.box 1 (b := B8) (v0 := .bool (decide (R < 0))) (v1 := .slice a11 (dig 18446744073709551616 (R).natAbs).length c11) rfl; obtain ⟨k2c0, k2c1, k2f0, k2f1⟩ := E.box 2 (b := B6) (v0 := .bool (decide (VB < 0))) (v1 := .slice a6 (dig 18446744073709551616 (VB).natAbs).length c6) rfl; obtain ⟨k3c0, k3c1, k3f0, k3f1⟩ := E.box 3 (b := B5) (v0 := .bool (decide (VA < 0))) (v1 := .slice a5 (dig 18446744073709551616 (VA).natAbs).length c5) rfl
          go_upto_region 14 with (go_at_call 14; refine (hrd _).out.mono ?_; rintro e w13 ⟨rfl, hbb⟩; replace E := ((E.next hbb).alloc (.cells #[.int .i64 XH, .int .u64 XL] 25)).addB (b := w13.heap.size) (v0 := .int .i64 XH) (v1 := .int .u64 XL) (zbox_made _ _ _ _); clear hbb; (try clear p0 p1 p2 p3); have p0 := cellOf E.bel P0.out hltp; have p1 := cellOf E.bel P1.out hltp; have p2 := cellOf E.bel P2.out hltp; have p3 := cellOf E.bel P3.out hltp; (try clear k0c0 k0c1 k0f0 k0f1); (try clear k1c0 k1c1 k1f0 k1f1); (try clear k2c0 k2c1 k2f0 k2f1); (try clear k3c0 k3c1 k3f0 k3f1); obtain ⟨k0c0, k0c1, k0f0, k0f1⟩ := E.box 0 (b := w13.heap.size) (v0 := .int .i64 XH) (v1 := .int .u64 XL) rfl; obtain ⟨k1c0, k1c1, k1f0, k1f1⟩ := E.box 1 (b := (B8 + 1)) (v0 := .bool (decide (Dn < 0))) (v1 := .slice a12 (dig 18446744073709551616 (Dn).natAbs).length c12) rfl; obtain ⟨k2c0, k2c1, k2f0, k2f1⟩ := E.box 2 (b := B8) (v0 := .bool (decide (R < 0))) (v1 := .slice a11 (dig 18446744073709551616 (R).natAbs).length c11) rfl; obtain ⟨k3c0, k3c1, k3f0, k3f1⟩ := E.box 3 (b := B6) (v0 := .bool (decide (VB < 0))) (v1 := .slice a6 (dig 18446744073709551616 (VB).natAbs).length c6) rfl; obtain ⟨k4c0, k4c1, k4f0, k4f1⟩ := E.box 4 (b := B5) (v0 := .bool (decide (VA < 0))) (v1 := .slice a5 (dig 18446744073709551616 (VA).natAbs).length c5) rfl)
          go_upto_region 15 with (go_at_call 15; refine (hdn _).out.mono ?_; rintro e w14 ⟨rfl, hbb⟩; replace E := ((E.next hbb).alloc (.cells #[.int .i64 YH, .int .u64 YL] 25)).addB (b := w14.heap.size) (v0 := .int .i64 YH) (v1 := .int .u64 YL) (zbox_made _ _ _ _); clear hbb; (try clear p0 p1 p2 p3); have p0 := cellOf E.bel P0.out hltp; have p1 := cellOf E.bel P1.out hltp; have p2 := cellOf E.bel P2.out hltp; have p3 := cellOf E.bel P3.out hltp; (try clear k0c0 k0c1 k0f0 k0f1); (try clear k1c0 k1c1 k1f0 k1f1); (try clear k2c0 k2c1 k2f0 k2f1); (try clear k3c0 k3c1 k3f0 k3f1); (try clear k4c0 k4c1 k4f0 k4f1); obtain ⟨k0c0, k0c1, k0f0, k0f1⟩ := E.box 0 (b := w14.heap.size) (v0 := .int .i64 YH) (v1 := .int .u64 YL) rfl; obtain ⟨k1c0, k1c1, k1f0, k1f1⟩ := E.box 1 (b := w13.heap.size) (v0 := .int .i64 XH) (v1 := .int .u64 XL) rfl; obtain ⟨k2c0, k2c1, k2f0, k2f1⟩ := E.box 2 (b := (B8 + 1)) (v0 := .bool (decide (Dn < 0))) (v1 := .slice a12 (dig 18446744073709551616 (Dn).natAbs).length c12) rfl; obtain ⟨k3c0, k3c1, k3f0, k3f1⟩ := E.box 3 (b := B8) (v0 := .bool (decide (R < 0))) (v1 := .slice a11 (dig 18446744073709551616 (R).natAbs).length c11) rfl; obtain ⟨k4c0, k4c1, k4f0, k4f1⟩ := E.box 4 (b := B6) (v0 := .bool (decide (VB < 0))) (v1 := .slice a6 (dig 18446744073709551616 (VB).natAbs).length c6) rfl; obtain ⟨k5c0, k5c1, k5f0, k5f1⟩ := E.box 5 (b := B5) (v0 := .bool (decide (VA < 0))) (v1 := .slice a5 (dig 18446744073709551616 (VA).natAbs).length c5) rfl)
          have M3 := True.intro
          have M4 := True.intro
          go_wp2_with (first | (go_at_call 16; have hmk := M3; clear hmk M3; refine (hi1 _ _ _ (E.num 1 rfl)).out.mono ?_; rintro e w15 ⟨rfl, hbb⟩; replace E := E.next hbb; clear hbb; (try clear p0 p1 p2 p3); (try clear k0c0 k0c1 k0f0 k0f1); (try clear k1c0 k1c1 k1f0 k1f1); (try clear k2c0 k2c1 k2f0 k2f1); (try clear k3c0 k3c1 k3f0 k3f1); (try clear k4c0 k4c1 k4f0 k4f1); (try clear k5c0 k5c1 k5f0 k5f1); obtain ⟨k0c0, k0c1, k0f0, k0f1⟩ := E.box 0 (b := w14.heap.size) (v0 := .int .i64 YH) (v1 := .int .u64 YL) rfl; obtain ⟨k1c0, k1c1, k1f0, k1f1⟩ := E.box 1 (b := w13.heap.size) (v0 := .int .i64 XH) (v1 := .int .u64 XL) rfl; obtain ⟨k2c0, k2c1, k2f0, k2f1⟩ := E.box 2 (b := (B8 + 1)) (v0 := .bool (decide (Dn < 0))) (v1 := .slice a12 (dig 18446744073709551616 (Dn).natAbs).length c12) rfl; obtain ⟨k3c0, k3c1, k3f0, k3f1⟩ := E.box 3 (b := B8) (v0 := .bool (decide (R < 0))) (v1 := .slice a11 (dig 18446744073709551616 (R).natAbs).length c11) rfl; obtain ⟨k4c0, k4c1, k4f0, k4f1⟩ := E.box 4 (b := B6) (v0 := .bool (decide (VB < 0))) (v1 := .slice a6 (dig 18446744073709551616 (VB).natAbs).length c6) rfl; obtain ⟨k5c0, k5c1, k5f0, k5f1⟩ := E.box 5 (b := B5) (v0 := .bool (decide (VA < 0))) (v1 := .slice a5 (dig 18446744073709551616 (VA).natAbs).length c5) rfl) | (go_at_call 16; have hmk := M4; clear hmk M4; refine (hi2 _ _ _ (E.num 0 rfl)).out.mono ?_; rintro e w16 ⟨rfl, hbb⟩; replace E := E.next hbb; clear hbb; (try clear k0c0 k0c1 k0f0 k0f1); (try clear k1c0 k1c1 k1f0 k1f1); (try clear k2c0 k2c1 k2f0 k2f1); (try clear k3c0 k3c1 k3f0 k3f1); (try clear k4c0 k4c1 k4f0 k4f1); (try clear k5c0 k5c1 k5f0 k5f1); obtain ⟨k0c0, k0c1, k0f0, k0f1⟩ := E.box 0 (b := w14.heap.size) (v0 := .int .i64 YH) (v1 := .int .u64 YL) rfl; obtain ⟨k1c0, k1c1, k1f0, k1f1⟩ := E.box 1 (b := w13.heap.size) (v0 := .int .i64 XH) (v1 := .int .u64 XL) rfl; obtain ⟨k2c0, k2c1, k2f0, k2f1⟩ := E.box 2 (b := (B8 + 1)) (v0 := .bool (decide (Dn < 0))) (v1 := .slice a12 (dig 18446744073709551616 (Dn).natAbs).length c12) rfl; obtain ⟨k3c0, k3c1, k3f0, k3f1⟩ := E.box 3 (b := B8) (v0 := .bool (decide (R < 0))) (v1 := .slice a11 (dig 18446744073709551616 (R).natAbs).length c11) rfl; obtain ⟨k4c0, k4c1, k4f0, k4f1⟩ := E.box 4 (b := B6) (v0 := .bool (decide (VB < 0))) (v1 := .slice a6 (dig 18446744073709551616 (VB).natAbs).length c6) rfl; obtain ⟨k5c0, k5c1, k5f0, k5f1⟩ := E.box 5 (b := B5) (v0 := .bool (decide (VA < 0))) (v1 := .slice a5 (dig 18446744073709551616 (VA).natAbs).length c5) rfl))
          refine ⟨⟨k + 1, by omega, by go_num, BP.out.trans (E.bel.mono (by have := hsz; omega))⟩, ?_⟩
          simp [intOf]; omega
    · have HB := Lib.hid hbel
      clear hbel h
      by_cases hlt : k < n
      · have hk15 : ¬ (k : Int) < 30 := by omega
        have hkn : (k : Int) < n := by omega
        go_wp2_with (first | (go_at_call 17; refine (wakes1_any _).mono ?_; rintro e w1 ⟨rfl, hb⟩; have HW1 := Lib.hid hb; clear hb))
        go_ret
        exact ⟨rfl, HB.out.trans (HW1.out.mono HB.out.size)⟩
      · have hkn : ¬ (k : Int) < n := by omega
        go_wp2_with (first | (go_at_call 17; refine (wakes1_any _).mono ?_; rintro e w1 ⟨rfl, hb⟩; have HW1 := Lib.hid hb; clear hb))
        go_ret
        exact ⟨rfl, HB.out.trans (HW1.out.mono HB.out.size)⟩
end Go.Proofs.Ytlbmpdidmckgkaa
