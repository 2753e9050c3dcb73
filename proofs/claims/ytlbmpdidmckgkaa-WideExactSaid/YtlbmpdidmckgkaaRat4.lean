/- Walks of layer 1's reference: wide numbers of whole ones; an answer held against them. -/
import Derived.Test.YtlbmpdidmckgkaaRat3
import Derived.BigQuiet
import Derived.WalkMore
import Derived.Deep.RegionHeld3
import Derived.Deep.RegionWith
import Derived.BigRegion
import Derived.Deep.Cut
import Derived.Deep.CutBlock
import Derived.Deep.CutRange
set_option linter.unusedVariables false
set_option linter.unusedSimpArgs false
namespace Go.Proofs.Ytlbmpdidmckgkaa
open Go.RowKit Go.Rt

/-- What the reference tells of a whole number as a wide one. -/
def RetWB (w : World) (h l : Int) (ok : Bool) (e : Ending) (w' : World) : Prop := e = .returned (.tuple #[.agg #[.int .i64 h, .int .u64 l], .bool ok]) ∧ Below w.heap.size w w'
theorem small_inR (n : Int) : smallZ (n / 18446744073709551616) = true ↔ inR n := by
  unfold smallZ inR
  rw [Bool.and_eq_true, decide_eq_true_eq, decide_eq_true_eq]
  omega
set_option maxHeartbeats 8000000 in
set_option maxRecDepth 100000 in
theorem ref1Wide_out (a : Option Addr) (c K : Nat) (n : Int) (w : World) (h : NAt w w.heap.size a c n.natAbs) (hK : K ≤ 1000000) (hn : n.natAbs < 2 ^ K) (hin : ¬ inR n) :
    Calls Try.prog 53 #[.agg #[.bool (decide (n < 0)), .slice a (dig 18446744073709551616 n.natAbs).length c]] w (RetWB w 0 0 false) := by
  obtain ⟨hi, hhi⟩ : ∃ z, n / ((2 ^ 64 : Nat) : Int) = z := ⟨_, rfl⟩
  have hhi2 : n / 18446744073709551616 = hi := by rw [← hhi]; rfl
  have lx : (dig 18446744073709551616 n.natAbs).length ≤ 1000000 := Nat.le_trans (dig_fits K hn (by omega)) (by decide)
  have HRG := fun w' (hb : Below w.heap.size w w') => Lib.hid (zright_any a c 64 n hi w' (h.next hb) lx (by decide) hhi)
  have HSM := fun a c w hN => Lib.hid (zsmall_any a c hi w hN)
  have hsm : smallZ hi = false := by rw [← hhi2, Bool.eq_false_iff]; exact fun e => hin ((small_inR n).1 e)
  rw [hsm] at HSM
  (try simp only [Bool.false_eq_true, if_false] at HSM)
  have HA := Lib.hid h
  clear hhi hhi2 lx hsm hin hn hK h
  generalize hsx : decide (n < 0) = sx at *
  generalize hX : dig 18446744073709551616 n.natAbs = X at *
  have HSX := Lib.hid hsx
  have HXE := Lib.hid hX
  clear hsx hX
  go_enter Try.func53, Try.ntmps53
  go_upto_region 3 with (first | (go_at_call 70; refine (HRG _ (by (repeat' (first | exact Below.refl _ _ | refine Below.drew ?_ | refine Below.setCell ?_ (by first | omega | (simp <;> omega)) _ | refine Below.alloc ?_ (by first | omega | (simp <;> omega)) _)))).out.mono ?_; rintro e w4 ⟨a4, c4, rfl, hN4, hb4⟩; have X0 := NBox2.below (b := w.heap.size) (v0 := .bool sx) (v1 := .slice a X.length c) (by constructor <;> go_simp) hb4 (by first | omega | (simp <;> omega)); have X1 := NBox2.below (b := (w.heap.size + 1)) (v0 := .int .i64 0) (v1 := .int .u64 0) (by constructor <;> go_simp) hb4 (by first | omega | (simp <;> omega)); have E := ((((((ZEnv.start w).addN HA.out).next (W' := w4) (Below.trans (by (repeat' (first | exact Below.refl _ _ | refine Below.drew ?_ | refine Below.setCell ?_ (by first | omega | (simp <;> omega)) _ | refine Below.alloc ?_ (by first | omega | (simp <;> omega)) _))) (hb4.mono (by first | omega | (simp <;> omega))))).addN hN4).addB X0).addB X1); have HLT := Lib.hid (show w.heap.size + 1 < w4.heap.size from E.lt 0 (b := w.heap.size + 1) rfl); replace E := (E.alloc (.cells #[.bool (decide (hi < 0)), .slice a4 (dig 18446744073709551616 (hi).natAbs).length c4] 31)).addB (b := w4.heap.size) (v0 := .bool (decide (hi < 0))) (v1 := .slice a4 (dig 18446744073709551616 (hi).natAbs).length c4) (zbox_made _ _ _ _); clear hN4 hb4 X0 X1; obtain ⟨k0c0, k0c1, k0f0, k0f1⟩ := E.box 0 (b := w4.heap.size) (v0 := .bool (decide (hi < 0))) (v1 := .slice a4 (dig 18446744073709551616 (hi).natAbs).length c4) rfl; obtain ⟨k1c0, k1c1, k1f0, k1f1⟩ := E.box 1 (b := (w.heap.size + 1)) (v0 := .int .i64 0) (v1 := .int .u64 0) rfl; obtain ⟨k2c0, k2c1, k2f0, k2f1⟩ := E.box 2 (b := w.heap.size) (v0 := .bool sx) (v1 := .slice a X.length c) rfl) | (go_at_call 42; refine (HSM _ _ _ (E.num 0 rfl)).out.mono ?_; rintro e w5 ⟨rfl, hb5⟩; replace E := E.next hb5; clear hb5; (try clear k0c0 k0c1 k0f0 k0f1); (try clear k1c0 k1c1 k1f0 k1f1); (try clear k2c0 k2c1 k2f0 k2f1); obtain ⟨k0c0, k0c1, k0f0, k0f1⟩ := E.box 0 (b := w4.heap.size) (v0 := .bool (decide (hi < 0))) (v1 := .slice a4 (dig 18446744073709551616 (hi).natAbs).length c4) rfl; obtain ⟨k1c0, k1c1, k1f0, k1f1⟩ := E.box 1 (b := (w.heap.size + 1)) (v0 := .int .i64 0) (v1 := .int .u64 0) rfl; obtain ⟨k2c0, k2c1, k2f0, k2f1⟩ := E.box 2 (b := w.heap.size) (v0 := .bool sx) (v1 := .slice a X.length c) rfl))
  go_wp2
  refine bodyPost_ret (v := .tuple #[.agg #[.int .i64 0, .int .u64 0], .bool false]) (by rw [results_ct rfl]; go_simp) rfl ⟨rfl, ?_⟩
  exact (E.bel.setCell (by simp) _).setCell (by simp) _
set_option maxHeartbeats 8000000 in
set_option maxRecDepth 100000 in
theorem ref1Wide_in (a : Option Addr) (c K : Nat) (n : Int) (w : World) (h : NAt w w.heap.size a c n.natAbs) (hK : K ≤ 1000000) (hn : n.natAbs < 2 ^ K) (hin : inR n) :
    Calls Try.prog 53 #[.agg #[.bool (decide (n < 0)), .slice a (dig 18446744073709551616 n.natAbs).length c]] w (RetWB w (n / 18446744073709551616) (n % 18446744073709551616) true) := by
  obtain ⟨hi, hhi⟩ : ∃ z, n / ((2 ^ 64 : Nat) : Int) = z := ⟨_, rfl⟩
  have hhi2 : n / 18446744073709551616 = hi := by rw [← hhi]; rfl
  have lx : (dig 18446744073709551616 n.natAbs).length ≤ 1000000 := Nat.le_trans (dig_fits K hn (by omega)) (by decide)
  have HRG := fun w' (hb : Below w.heap.size w w') => Lib.hid (zright_any a c 64 n hi w' (h.next hb) lx (by decide) hhi)
  have HSM := fun a c w hN => Lib.hid (zsmall_any a c hi w hN)
  have hsm : smallZ hi = true := by rw [← hhi2]; exact (small_inR n).2 hin
  rw [hsm] at HSM
  (try simp only [if_true] at HSM)
  rw [hhi2]
  have hhb : -9223372036854775808 ≤ hi ∧ hi ≤ 9223372036854775807 := by unfold inR at hin; omega
  obtain ⟨h6, hh6⟩ : ∃ z, hi * ((2 ^ 64 : Nat) : Int) = z := ⟨_, rfl⟩
  have hh62 : h6 = hi * 18446744073709551616 := by rw [← hh6]; rfl
  obtain ⟨lo, hlo⟩ : ∃ z, n - h6 = z := ⟨_, rfl⟩
  have hlo2 : n % 18446744073709551616 = lo := by omega
  rw [hlo2]
  have hlb : 0 ≤ lo ∧ lo < 18446744073709551616 := by omega
  have hnb : -170141183460469231731687303715884105728 ≤ n ∧ n ≤ 170141183460469231731687303715884105727 := hin
  have HLF := fun a c w hN => Lib.hid (zleft_any a c 64 hi h6 w hN (dig_word (by omega)) (by decide) hh6)
  have HLS := fun a b c d w hN hM => Lib.hid (zless_any a b c d n h6 lo w hN hM (dig_word (by omega)) (dig_word (by omega)) hlo)
  have HA := Lib.hid h
  have HLB := Lib.hid hlb
  have HHB := Lib.hid hhb
  clear hhi hhi2 lx hsm hin hn hK h hh6 hh62 hlo hlo2 hlb hhb hnb
  generalize hsx : decide (n < 0) = sx at *
  generalize hX : dig 18446744073709551616 n.natAbs = X at *
  have HSX := Lib.hid hsx
  have HXE := Lib.hid hX
  clear hsx hX
  go_enter Try.func53, Try.ntmps53
  go_upto_region 5 with (first | (go_at_call 70; refine (HRG _ (by (repeat' (first | exact Below.refl _ _ | refine Below.drew ?_ | refine Below.setCell ?_ (by first | omega | (simp <;> omega)) _ | refine Below.alloc ?_ (by first | omega | (simp <;> omega)) _)))).out.mono ?_; rintro e w4 ⟨a4, c4, rfl, hN4, hb4⟩; have X0 := NBox2.below (b := w.heap.size) (v0 := .bool sx) (v1 := .slice a X.length c) (by constructor <;> go_simp) hb4 (by first | omega | (simp <;> omega)); have X1 := NBox2.below (b := (w.heap.size + 1)) (v0 := .int .i64 0) (v1 := .int .u64 0) (by constructor <;> go_simp) hb4 (by first | omega | (simp <;> omega)); have E := ((((((ZEnv.start w).addN HA.out).next (W' := w4) (Below.trans (by (repeat' (first | exact Below.refl _ _ | refine Below.drew ?_ | refine Below.setCell ?_ (by first | omega | (simp <;> omega)) _ | refine Below.alloc ?_ (by first | omega | (simp <;> omega)) _))) (hb4.mono (by first | omega | (simp <;> omega))))).addN hN4).addB X0).addB X1); have HLT := Lib.hid (show w.heap.size + 1 < w4.heap.size from E.lt 0 (b := w.heap.size + 1) rfl); replace E := (E.alloc (.cells #[.bool (decide (hi < 0)), .slice a4 (dig 18446744073709551616 (hi).natAbs).length c4] 31)).addB (b := w4.heap.size) (v0 := .bool (decide (hi < 0))) (v1 := .slice a4 (dig 18446744073709551616 (hi).natAbs).length c4) (zbox_made _ _ _ _); clear hN4 hb4 X0 X1; obtain ⟨k0c0, k0c1, k0f0, k0f1⟩ := E.box 0 (b := w4.heap.size) (v0 := .bool (decide (hi < 0))) (v1 := .slice a4 (dig 18446744073709551616 (hi).natAbs).length c4) rfl; obtain ⟨k1c0, k1c1, k1f0, k1f1⟩ := E.box 1 (b := (w.heap.size + 1)) (v0 := .int .i64 0) (v1 := .int .u64 0) rfl; obtain ⟨k2c0, k2c1, k2f0, k2f1⟩ := E.box 2 (b := w.heap.size) (v0 := .bool sx) (v1 := .slice a X.length c) rfl) | (go_at_call 42; refine (HSM _ _ _ (E.num 0 rfl)).out.mono ?_; rintro e w5 ⟨rfl, hb5⟩; replace E := E.next hb5; clear hb5; (try clear k0c0 k0c1 k0f0 k0f1); (try clear k1c0 k1c1 k1f0 k1f1); (try clear k2c0 k2c1 k2f0 k2f1); obtain ⟨k0c0, k0c1, k0f0, k0f1⟩ := E.box 0 (b := w4.heap.size) (v0 := .bool (decide (hi < 0))) (v1 := .slice a4 (dig 18446744073709551616 (hi).natAbs).length c4) rfl; obtain ⟨k1c0, k1c1, k1f0, k1f1⟩ := E.box 1 (b := (w.heap.size + 1)) (v0 := .int .i64 0) (v1 := .int .u64 0) rfl; obtain ⟨k2c0, k2c1, k2f0, k2f1⟩ := E.box 2 (b := w.heap.size) (v0 := .bool sx) (v1 := .slice a X.length c) rfl))
  generalize hB4 : w4.heap.size = B4 at *
  obtain ⟨W5, hW5⟩ := envZ E
  rw [hW5] at E ⊢
  clear hW5 hB4
  (try clear k0c0 k0c1 k0f0 k0f1); (try clear k1c0 k1c1 k1f0 k1f1); (try clear k2c0 k2c1 k2f0 k2f1)
  have HNE := Lib.hid (fun p hp => (E.boxes p hp).2)
  have HB0 := Lib.hid E.hB
  refine wp_region_parts2 (w := W5) 5 1 none [] [(fun u _ => u = .agg #[.bool sx, .slice a X.length c]), (fun u _ => u = .agg #[.bool (decide (hi < 0)), .slice a4 (dig 18446744073709551616 (hi).natAbs).length c4]), ((IsZ (h6))), ((IsZ (lo))), ((IsBox W5 (.bool false) (.slice none 0 0)))] [some 19, some 20, some 21, some 22, some 7, none] #[true, true, true, true, true, false] #[true, true, true, true, true, false] (by kernel_rfl) rfl (by kernel_rfl) (by kernel_rfl) rfl (by kernel_rfl) (by kernel_rfl) (.cons (carries_eq _) (.cons (carries_eq _) (.cons (isZ_carries _) (.cons (isZ_carries _) (.cons (isBox_carries _ _ _) .nil))))) (fun vs b hvl hvb => ?_)
  obtain ⟨x0, x1, x2, x3, x4, x5, rfl⟩ : ∃ x0 x1 x2 x3 x4 x5, vs = [x0, x1, x2, x3, x4, x5] := lst6 hvl
  clear hvl
  simp only [putAll, Act.put, List.setIfInBounds_toArray, List.set_cons_zero, List.set_cons_succ] at hvb
  subst hvb
  refine ⟨(.snoc (.snoc (.snoc (.snoc (.snoc .zero (PartOb.intro (d := (some 19)) (r := fun u _ => u = .agg #[.bool sx, .slice a X.length c]) rfl rfl rfl rfl ?po5x0)) (PartOb.intro (d := (some 20)) (r := fun u _ => u = .agg #[.bool (decide (hi < 0)), .slice a4 (dig 18446744073709551616 (hi).natAbs).length c4]) rfl rfl rfl rfl ?po5x1)) (PartOb.intro (d := (some 21)) (r := (IsZ (h6))) rfl rfl rfl rfl ?po5x2)) (PartOb.intro (d := (some 22)) (r := (IsZ (lo))) rfl rfl rfl rfl ?po5x3)) (PartOb.intro (d := (some 7)) (r := (IsBox W5 (.bool false) (.slice none 0 0))) rfl rfl rfl rfl ?po5x4)), ?pend5, ?pfl5⟩
  case po5x0 =>
    intro w1 hb1 hd KK hK
    clear hd
    obtain ⟨l2c0, l2c1, l2f0, l2f1⟩ := (E.next hb1).box 2 (b := w.heap.size) (v0 := .bool sx) (v1 := .slice a X.length c) rfl
    simp only [Act.put, List.setIfInBounds_toArray, List.set_cons_zero, List.set_cons_succ] at hK
    go_simp
    first | exact hK.out _ _ (Below.refl _ _) rfl | (have hk := hK.out _ _ (Below.refl _ _) rfl; revert hk; go_simp)
  case po5x1 =>
    intro w1 hb1 hd KK hK
    clear hd
    obtain ⟨l0c0, l0c1, l0f0, l0f1⟩ := (E.next hb1).box 0 (b := B4) (v0 := .bool (decide (hi < 0))) (v1 := .slice a4 (dig 18446744073709551616 (hi).natAbs).length c4) rfl
    simp only [Act.put, List.setIfInBounds_toArray, List.set_cons_zero, List.set_cons_succ] at hK
    go_simp
    first | exact hK.out _ _ (Below.refl _ _) rfl | (have hk := hK.out _ _ (Below.refl _ _) rfl; revert hk; go_simp)
  case po5x2 =>
    intro w1 hb1 hd KK hK
    have d1 : x1 = .agg #[.bool (decide (hi < 0)), .slice a4 (dig 18446744073709551616 (hi).natAbs).length c4] := hd 1 (by kernel_rfl)
    clear hd
    subst d1
    simp only [Act.put, List.setIfInBounds_toArray, List.set_cons_zero, List.set_cons_succ] at hK
    go_simp
    go_at_call 24
    refine (HLF _ _ w1 ((E.next hb1).num 0 rfl)).out.mono ?_
    rintro e w2 ⟨a2, c2, rfl, hN2, hb2⟩
    (try go_wp2_with fail)
    first | exact hK.out _ _ hb2 ⟨a2, c2, rfl, hN2⟩ | (have hk := hK.out _ _ hb2 ⟨a2, c2, rfl, hN2⟩; revert hk; go_simp)
  case po5x3 =>
    intro w1 hb1 hd KK hK
    have d0 : x0 = .agg #[.bool sx, .slice a X.length c] := hd 0 (by kernel_rfl)
    have d2 : (IsZ (h6)) x2 w1 := hd 2 (by kernel_rfl)
    clear hd
    subst d0
    obtain ⟨a2x, e2x, rfl, hN2⟩ := d2
    simp only [Act.put, List.setIfInBounds_toArray, List.set_cons_zero, List.set_cons_succ] at hK
    go_simp
    go_at_call 21
    refine (HLS _ _ _ _ w1 ((E.next hb1).num 1 rfl) hN2).out.mono ?_
    rintro e w2 ⟨a2, c2, rfl, hN2, hb2⟩
    (try go_wp2_with fail)
    first | exact hK.out _ _ hb2 ⟨a2, c2, rfl, hN2⟩ | (have hk := hK.out _ _ hb2 ⟨a2, c2, rfl, hN2⟩; revert hk; go_simp)
  case po5x4 =>
    intro w1 hb1 hd KK hK
    clear hd
    simp only [Act.put, List.setIfInBounds_toArray, List.set_cons_zero, List.set_cons_succ] at hK
    go_simp
    first | exact hK.out _ _ ((Below.refl _ _).alloc (Nat.le_refl _) _) ⟨w1.heap.size, rfl, hb1.size, by simp, by constructor <;> go_simp⟩ | (have hk := hK.out _ _ ((Below.refl _ _).alloc (Nat.le_refl _) _) ⟨w1.heap.size, rfl, hb1.size, by simp, by constructor <;> go_simp⟩; revert hk; go_simp)
  case pfl5 => (intro f hf; cases hf)
  case pend5 =>
  intro w1 hb1 hR hD
  have d0 : x0 = .agg #[.bool sx, .slice a X.length c] := hR 0 (by decide)
  have d1 : x1 = .agg #[.bool (decide (hi < 0)), .slice a4 (dig 18446744073709551616 (hi).natAbs).length c4] := hR 1 (by decide)
  have d2 : (IsZ (h6)) x2 w1 := hR 2 (by decide)
  have d3 : (IsZ (lo)) x3 w1 := hR 3 (by decide)
  have d4 : (IsBox W5 (.bool false) (.slice none 0 0)) x4 w1 := hR 4 (by decide)
  clear hR hD
  subst d0
  subst d1
  obtain ⟨a2x, e2x, rfl, hN2⟩ := d2
  obtain ⟨a3x, e3x, rfl, hN3⟩ := d3
  obtain ⟨b4, rfl, hle4, hlt4, hX4⟩ := d4
  refine wpAny_ready (rs := [5]) (by kernel_rfl) (by simp) (AllReady.cons rfl (fun KK hK => ?_) AllReady.nil)
  have E1 := (((E.next hb1).addN hN3).addB hX4).store (fun p hp => Nat.ne_of_lt (Nat.lt_of_lt_of_le (HNE.out p hp) hle4)) (Nat.le_trans HB0.out hle4) bool_int slice_int (.bool (decide (lo < 0))) (.slice a3x (dig 18446744073709551616 (lo).natAbs).length e3x)
  obtain ⟨m0c0, m0c1, m0f0, m0f1⟩ := hX4
  go_simp
  refine hK _ _ ?_
  clear hK KK
  try simp only [putAll, Act.put, List.setIfInBounds_toArray, List.set_cons_zero, List.set_cons_succ]
  refine wpAny_done (by kernel_rfl) ?_ _
  clear hN2 hN3 hb1 E HNE HB0 m0c0 m0c1 m0f0 m0f1
  have E := E1
  clear E1
  obtain ⟨W7, hW7⟩ := envZ E
  rw [hW7] at E ⊢
  clear hW7
  obtain ⟨k0c0, k0c1, k0f0, k0f1⟩ := E.box 0 (b := b4) (v0 := .bool (decide (lo < 0))) (v1 := .slice a3x (dig 18446744073709551616 (lo).natAbs).length e3x) rfl; obtain ⟨k1c0, k1c1, k1f0, k1f1⟩ := E.box 1 (b := B4) (v0 := .bool (decide (hi < 0))) (v1 := .slice a4 (dig 18446744073709551616 (hi).natAbs).length c4) rfl; obtain ⟨k2c0, k2c1, k2f0, k2f1⟩ := E.box 2 (b := (w.heap.size + 1)) (v0 := .int .i64 0) (v1 := .int .u64 0) rfl; obtain ⟨k3c0, k3c1, k3f0, k3f1⟩ := E.box 3 (b := w.heap.size) (v0 := .bool sx) (v1 := .slice a X.length c) rfl
  have hlt1 := E.lt 2 (b := w.heap.size + 1) rfl
  have hne1 : ¬ w.heap.size + 1 = W7.heap.size := by omega
  have hltb := E.lt 0 (b := b4) rfl
  have hneb : ¬ b4 = W7.heap.size := by omega
  by_cases hl0 : lo = 0
  · as_aux_lemma =>
      have hll : ¬ (0 : Int) < ((dig 18446744073709551616 lo.natAbs).length : Int) := by rw [hl0]; decide
      have HL0 := Lib.hid hl0
      clear hl0 HLB
      go_wp2
      refine bodyPost_ret (v := .tuple #[.agg #[.int .i64 hi, .int .u64 0], .bool true]) (by rw [results_ct rfl]; go_simp) rfl ⟨by rw [HL0.out], ?_⟩
      have hB := E.hB
      exact (by (repeat' (first | exact E.bel | refine Below.setCell ?_ (by first | omega | (simp <;> omega) | (simp; done)) _ | refine Below.alloc ?_ (by first | omega | (simp <;> omega)) _)))
  · as_aux_lemma =>
      have hd : dig 18446744073709551616 lo.natAbs = [(lo.natAbs : Int)] := dig_one (by omega) (by have := HLB.out; omega)
      have hla : (lo.natAbs : Int) = lo := by have := HLB.out; omega
      rw [hla] at hd
      have hN := (E.num 0 rfl).li
      rw [hd] at hN
      obtain ⟨bl, ol, el, hltl, cl⟩ := hN.cell 0 (by simp)
      rw [Nat.add_zero] at cl
      subst el
      have cl2 : W7.cell? ⟨bl, ol, none⟩ = some (.int .u64 lo) := cl
      have hll : (dig 18446744073709551616 lo.natAbs).length = 1 := by rw [hd]; rfl
      have hnel : ¬ bl = W7.heap.size := by omega
      rw [hll] at k0c1
      (try rw [hll])
      clear cl hd hN hla hl0 HLB hll
      go_wp2
      refine bodyPost_ret (v := .tuple #[.agg #[.int .i64 hi, .int .u64 lo], .bool true]) (by rw [results_ct rfl]; go_simp) rfl ⟨rfl, ?_⟩
      have hB := E.hB
      exact (by (repeat' (first | exact E.bel | refine Below.setCell ?_ (by first | omega | (simp <;> omega) | (simp; done)) _ | refine Below.alloc ?_ (by first | omega | (simp <;> omega)) _)))
set_option maxHeartbeats 8000000 in
set_option maxRecDepth 100000 in
theorem is_in (a : Option Addr) (c K : Nat) (n : Int) (w : World) (h : NAt w w.heap.size a c n.natAbs) (hK : K ≤ 1000000) (hn : n.natAbs < 2 ^ K) (hin : inR n) :
    Calls Try.prog 16 #[.agg #[.int .i64 (n / 18446744073709551616), .int .u64 (n % 18446744073709551616)], .int .i64 0, .int .i64 0, .agg #[.bool (decide (n < 0)), .slice a (dig 18446744073709551616 n.natAbs).length c]] w fun e w' => e = .returned (.bool true) ∧ Below w.heap.size w w' := by
  have HWD := fun w' (hb : Below w.heap.size w w') => Lib.hid (ref1Wide_in a c K n w' (h.next hb) hK hn hin)
  obtain ⟨XH, hXH⟩ : ∃ q, n / 18446744073709551616 = q := ⟨_, rfl⟩
  obtain ⟨XL, hXL⟩ : ∃ q, n % 18446744073709551616 = q := ⟨_, rfl⟩
  rw [hXH, hXL] at HWD ⊢
  clear hXH hXL
  clear h hin hK hn
  generalize decide (n < 0) = sx at *
  generalize dig 18446744073709551616 n.natAbs = X at *
  go_enter Try.func16, Try.ntmps16
  go_upto_region 3 with (go_at_call 53; refine (HWD _ (by (repeat' (first | exact Below.refl _ _ | refine Below.drew ?_ | refine Below.setCell ?_ (by first | omega | (simp <;> omega)) _ | refine Below.alloc ?_ (by first | omega | (simp <;> omega)) _)))).out.mono ?_; rintro e w4 ⟨rfl, hb4⟩; have K1 := NBox2.below (b := w.heap.size) (v0 := .int .i64 XH) (v1 := .int .u64 XL) (by constructor <;> go_simp) hb4 (by first | omega | (simp <;> omega)); obtain ⟨q0, q1, q2, q3⟩ := K1; have HBW : Hid (Below w.heap.size w w4) := Lib.hid (Below.trans (by (repeat' (first | exact Below.refl _ _ | refine Below.drew ?_ | refine Below.setCell ?_ (by first | omega | (simp <;> omega)) _ | refine Below.alloc ?_ (by first | omega | (simp <;> omega)) _))) (hb4.mono (by first | omega | (simp <;> omega)))); have hsw := hb4.size; (try simp at hsw); clear hb4)
  have hne1 : ¬ w.heap.size = w4.heap.size := by omega
  have hlt1 : w.heap.size < w4.heap.size := by omega
  go_wp2_with (go_at_call 20; refine (num1_any _ _).mono ?_; rintro e w' ⟨rfl, rfl⟩)
  go_ret
  exact ⟨by first | rfl | simp, HBW.out.alloc HBW.out.size _⟩
set_option maxHeartbeats 8000000 in
set_option maxRecDepth 100000 in
theorem is_out (a : Option Addr) (c K : Nat) (n : Int) (w : World) (h : NAt w w.heap.size a c n.natAbs) (hK : K ≤ 1000000) (hn : n.natAbs < 2 ^ K) (hin : ¬ inR n) :
    Calls Try.prog 16 #[.agg #[.int .i64 0, .int .u64 0], .int .i64 3, .int .i64 0, .agg #[.bool (decide (n < 0)), .slice a (dig 18446744073709551616 n.natAbs).length c]] w fun e w' => e = .returned (.bool true) ∧ Below w.heap.size w w' := by
  have HWD := fun w' (hb : Below w.heap.size w w') => Lib.hid (ref1Wide_out a c K n w' (h.next hb) hK hn hin)
  clear h hin hK hn
  generalize decide (n < 0) = sx at *
  generalize dig 18446744073709551616 n.natAbs = X at *
  go_enter Try.func16, Try.ntmps16
  go_upto_region 3 with (go_at_call 53; refine (HWD _ (by (repeat' (first | exact Below.refl _ _ | refine Below.drew ?_ | refine Below.setCell ?_ (by first | omega | (simp <;> omega)) _ | refine Below.alloc ?_ (by first | omega | (simp <;> omega)) _)))).out.mono ?_; rintro e w4 ⟨rfl, hb4⟩; have K1 := NBox2.below (b := w.heap.size) (v0 := .int .i64 0) (v1 := .int .u64 0) (by constructor <;> go_simp) hb4 (by first | omega | (simp <;> omega)); obtain ⟨q0, q1, q2, q3⟩ := K1; have HBW : Hid (Below w.heap.size w w4) := Lib.hid (Below.trans (by (repeat' (first | exact Below.refl _ _ | refine Below.drew ?_ | refine Below.setCell ?_ (by first | omega | (simp <;> omega)) _ | refine Below.alloc ?_ (by first | omega | (simp <;> omega)) _))) (hb4.mono (by first | omega | (simp <;> omega)))); have hsw := hb4.size; (try simp at hsw); clear hb4)
  have hne1 : ¬ w.heap.size = w4.heap.size := by omega
  have hlt1 : w.heap.size < w4.heap.size := by omega
  go_wp2_with (go_at_call 20; refine (num1_any _ _).mono ?_; rintro e w' ⟨rfl, rfl⟩)
  go_ret
  exact ⟨by first | rfl | simp, HBW.out.alloc HBW.out.size _⟩
set_option maxHeartbeats 8000000 in
set_option maxRecDepth 100000 in
theorem is_bad (a : Option Addr) (c : Nat) (n bad : Int) (w : World) (hb0 : bad ≠ 0) :
    Calls Try.prog 16 #[.agg #[.int .i64 0, .int .u64 0], .int .i64 bad, .int .i64 bad, .agg #[.bool (decide (n < 0)), .slice a (dig 18446744073709551616 n.natAbs).length c]] w fun e w' => e = .returned (.bool true) ∧ Below w.heap.size w w' := by
  have hbb : (bad == 0) = false := by simp; exact hb0
  clear hb0
  generalize decide (n < 0) = sx at *
  generalize dig 18446744073709551616 n.natAbs = X at *
  go_enter Try.func16, Try.ntmps16
  go_wp2_with (go_at_call 20; refine (num1_any _ _).mono ?_; rintro e w' ⟨rfl, rfl⟩)
  go_ret
  exact ⟨by first | rfl | simp, (by (repeat' (first | exact Below.refl _ _ | refine Below.drew ?_ | refine Below.setCell ?_ (by first | omega | (simp <;> omega)) _ | refine Below.alloc ?_ (by first | omega | (simp <;> omega)) _)))⟩
end Go.Proofs.Ytlbmpdidmckgkaa
