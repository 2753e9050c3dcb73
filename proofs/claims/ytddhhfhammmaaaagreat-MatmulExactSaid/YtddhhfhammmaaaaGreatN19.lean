/- Walks of the references' whole numbers with a sign: quotient and rest. -/
import Derived.Test.YtddhhfhammmaaaaGreatZEnv
import Derived.BigQuiet
import Derived.WalkMore
import Derived.Deep.RegionHeld3
import Derived.Deep.RegionWith
import Derived.BigRegion
import Derived.Deep.Cut
import Derived.Deep.CutBlock
import Derived.Deep.CutRange
set_option linter.unusedVariables false
set_option linter.unusedSimpArgs false
namespace Go.Proofs.YtddhhfhammmaaaaGreat
open Go.RowKit Go.Rt

theorem floor_abs {x y q : Int} (h : floorZ x y = q) : q.natAbs ≤ x.natAbs + 1 := by
  have hd := Nat.div_le_self x.natAbs y.natAbs
  obtain ⟨m, hm⟩ : ∃ m, x.natAbs / y.natAbs = m := ⟨_, rfl⟩
  rw [hm] at hd
  unfold floorZ sgnZ at h
  rw [hm] at h
  split at h <;> split at h <;> omega

theorem envZ {B : Nat} {w0 W : World} {L : List (Nat × Value × Value)} {N : List (Option Addr × Nat × Nat)} (E : ZEnv B w0 W L N) : ∃ Wb, W = Wb := ⟨_, rfl⟩
set_option maxHeartbeats 8000000 in
set_option maxRecDepth 100000 in
theorem zdivide_any (a b : Option Addr) (c d K : Nat) (x y q r : Int) (w : World) (h : NAt w w.heap.size a c x.natAbs) (h' : NAt w w.heap.size b d y.natAbs) (hK : K ≤ 1000000) (hx : x.natAbs < 2 ^ K) (hy : y.natAbs < 2 ^ K) (hy0 : y ≠ 0) (hq : floorZ x y = q) (hr : x - q * y = r) :
    Calls Tryz.prog 80 #[.agg #[.bool (decide (x < 0)), .slice a (dig 18446744073709551616 x.natAbs).length c], .agg #[.bool (decide (y < 0)), .slice b (dig 18446744073709551616 y.natAbs).length d]] w (RetZZ w q r) := by
  have hx4 := dig_fits K hx (by omega)
  have hy4 := dig_fits K hy (by omega)
  have hyp : 0 < y.natAbs := by omega
  have HND := fun w' (hb : Below w.heap.size w w') => Lib.hid (ndivide_any a b c d x.natAbs y.natAbs w' (h.next hb) (h'.next hb) hx4 hy4 hyp)
  have hfa := floor_abs hq
  have hpK : 2 ^ (K + 1) = 2 * 2 ^ K := by rw [Nat.pow_succ, Nat.mul_comm]
  have hqb : q.natAbs < 2 ^ (K + 1) := by omega
  have hqy : (q * y).natAbs < 2 ^ (K + 1 + K) := by rw [Int.natAbs_mul, Nat.pow_add]; exact Nat.mul_lt_mul_of_lt_of_lt hqb hy
  have lq := Nat.le_trans (dig_fits _ hqb (by omega)) (show 400000 ≤ 1000000 by decide)
  have lqy := Nat.le_trans (dig_fits _ hqy (by omega)) (show 400000 ≤ 1000000 by decide)
  have lx := Nat.le_trans hx4 (show 400000 ≤ 1000000 by decide)
  have ly := Nat.le_trans hy4 (show 400000 ≤ 1000000 by decide)
  obtain ⟨qy, hqye⟩ : ∃ qy, q * y = qy := ⟨_, rfl⟩
  rw [hqye] at lqy hr
  have HTM := fun a b c d w h h2 => Lib.hid (ztimes_any a b c d q y w h h2 lq ly)
  rw [hqye] at HTM
  have HLS := fun a b c d w h h2 => Lib.hid (zless_any a b c d x qy r w h h2 lx lqy hr)
  obtain ⟨m1, hm1⟩ : ∃ m, x.natAbs / y.natAbs = m := ⟨_, rfl⟩
  obtain ⟨r1, hr1⟩ : ∃ m, x.natAbs % y.natAbs = m := ⟨_, rfl⟩
  unfold floorZ at hq
  rw [hm1, hr1] at hq
  rw [hm1, hr1] at HND
  have hm1l : m1 ≤ x.natAbs := by rw [← hm1]; exact Nat.div_le_self _ _
  obtain ⟨z1, hz1⟩ : ∃ z, sgnZ (decide (x < 0) != decide (y < 0)) m1 = z := ⟨_, rfl⟩
  have lz1 : (dig 18446744073709551616 z1.natAbs).length ≤ 1000000 := by rw [← hz1, sgnZ_abs]; exact Nat.le_trans (dig_len_mono (by decide) hm1l) lx
  have HMD := fun a c w h => Lib.hid (made_any (decide (x < 0) != decide (y < 0)) a c m1 w h)
  rw [hz1] at HMD hq
  have HL1 := fun a b c d w h h2 (e : z1 - 1 = q) => Lib.hid (zless_any a b c d z1 1 q w h h2 lz1 (by decide) e)
  have H1 := fun w => Lib.hid (zfrom_any 1 w (by decide) (by decide))
  have hrl := dig_len_zero (B := 18446744073709551616) (m := r1) (by decide)
  have HA := Lib.hid h
  have HB' := Lib.hid h'
  clear hx4 hy4 hyp hfa hpK hqb hqy lq lqy lx ly lz1 hm1 hr1 hm1l hz1 hqye hr hx hy h h'
  generalize hsx : decide (x < 0) = sx at *
  generalize hsy : decide (y < 0) = sy at *
  generalize hX : dig 18446744073709551616 x.natAbs = X at *
  generalize hY : dig 18446744073709551616 y.natAbs = Y at *
  have HSX := Lib.hid hsx
  have HSY := Lib.hid hsy
  have HXE := Lib.hid hX
  have HYE := Lib.hid hY
  clear hsx hsy hX hY
  go_enter Tryz.func80, Tryz.ntmps80
  go_upto_region 2 with (go_at_call 59; refine (HND _ (by (repeat' (first | exact Below.refl _ _ | refine Below.drew ?_ | refine Below.setCell ?_ (by first | omega | (simp <;> omega)) _ | refine Below.alloc ?_ (by first | omega | (simp <;> omega)) _)))).out.mono ?_; rintro e w4 ⟨a4, c4, a5, c5, rfl, hN4, hN5, hb4⟩; have X0 := NBox2.below (b := w.heap.size) (v0 := .bool sx) (v1 := .slice a X.length c) (by constructor <;> go_simp) hb4 (by first | omega | (simp <;> omega)); have X1 := NBox2.below (b := (w.heap.size + 1)) (v0 := .bool sy) (v1 := .slice b Y.length d) (by constructor <;> go_simp) hb4 (by first | omega | (simp <;> omega)); have X2 := NBox2.below (b := (w.heap.size + 1 + 1)) (v0 := .bool false) (v1 := .slice none 0 0) (by constructor <;> go_simp) hb4 (by first | omega | (simp <;> omega)); have X3 := NBox2.below (b := (w.heap.size + 1 + 1 + 1)) (v0 := .bool false) (v1 := .slice none 0 0) (by constructor <;> go_simp) hb4 (by first | omega | (simp <;> omega)); have E := ((((ZEnv.start w).addN HA.out).addN HB'.out).next (W' := w4) (Below.trans (by (repeat' (first | exact Below.refl _ _ | refine Below.drew ?_ | refine Below.setCell ?_ (by first | omega | (simp <;> omega)) _ | refine Below.alloc ?_ (by first | omega | (simp <;> omega)) _))) (hb4.mono (by first | omega | (simp <;> omega))))); replace E := ((((((E.addN hN4).addN hN5).addB X0).addB X1).addB X2).addB X3); clear hb4 hN4 hN5 X0 X1 X2 X3; obtain ⟨k0c0, k0c1, k0f0, k0f1⟩ := E.box 0 (b := (w.heap.size + 1 + 1 + 1)) (v0 := .bool false) (v1 := .slice none 0 0) rfl; have k0l := E.lt 0 (b := (w.heap.size + 1 + 1 + 1)) (v0 := .bool false) (v1 := .slice none 0 0) rfl; obtain ⟨k1c0, k1c1, k1f0, k1f1⟩ := E.box 1 (b := (w.heap.size + 1 + 1)) (v0 := .bool false) (v1 := .slice none 0 0) rfl; have k1l := E.lt 1 (b := (w.heap.size + 1 + 1)) (v0 := .bool false) (v1 := .slice none 0 0) rfl; obtain ⟨k2c0, k2c1, k2f0, k2f1⟩ := E.box 2 (b := (w.heap.size + 1)) (v0 := .bool sy) (v1 := .slice b Y.length d) rfl; have k2l := E.lt 2 (b := (w.heap.size + 1)) (v0 := .bool sy) (v1 := .slice b Y.length d) rfl; obtain ⟨k3c0, k3c1, k3f0, k3f1⟩ := E.box 3 (b := w.heap.size) (v0 := .bool sx) (v1 := .slice a X.length c) rfl; have k3l := E.lt 3 (b := w.heap.size) (v0 := .bool sx) (v1 := .slice a X.length c) rfl)
  go_upto_region 3 with (go_at_call 48; refine (HMD _ _ _ (E.num 1 rfl)).out.mono ?_; rintro e w5 ⟨a6, c6, rfl, hN6, hb5⟩; have E' := E.next hb5; have HNE := Lib.hid (fun p hp => Nat.ne_of_lt (E'.boxes p hp).2); have HLB := Lib.hid E'.hB; clear E'; replace E := (((E.next hb5).addN hN6).alloc (.cells #[.bool (decide (z1 < 0)), .slice a6 (dig 18446744073709551616 z1.natAbs).length c6] 52)).addB (zbox_made _ _ _ _); clear hb5 hN6; (try clear k0c0 k0c1 k0f0 k0f1); (try clear k1c0 k1c1 k1f0 k1f1); (try clear k2c0 k2c1 k2f0 k2f1); (try clear k3c0 k3c1 k3f0 k3f1); obtain ⟨k0c0, k0c1, k0f0, k0f1⟩ := E.box 0 (b := w5.heap.size) (v0 := .bool (decide (z1 < 0))) (v1 := .slice a6 (dig 18446744073709551616 z1.natAbs).length c6) rfl; have k0l := E.lt 0 (b := w5.heap.size) (v0 := .bool (decide (z1 < 0))) (v1 := .slice a6 (dig 18446744073709551616 z1.natAbs).length c6) rfl; obtain ⟨k1c0, k1c1, k1f0, k1f1⟩ := E.box 1 (b := (w.heap.size + 1 + 1 + 1)) (v0 := .bool false) (v1 := .slice none 0 0) rfl; have k1l := E.lt 1 (b := (w.heap.size + 1 + 1 + 1)) (v0 := .bool false) (v1 := .slice none 0 0) rfl; obtain ⟨k2c0, k2c1, k2f0, k2f1⟩ := E.box 2 (b := (w.heap.size + 1 + 1)) (v0 := .bool false) (v1 := .slice none 0 0) rfl; have k2l := E.lt 2 (b := (w.heap.size + 1 + 1)) (v0 := .bool false) (v1 := .slice none 0 0) rfl; obtain ⟨k3c0, k3c1, k3f0, k3f1⟩ := E.box 3 (b := (w.heap.size + 1)) (v0 := .bool sy) (v1 := .slice b Y.length d) rfl; have k3l := E.lt 3 (b := (w.heap.size + 1)) (v0 := .bool sy) (v1 := .slice b Y.length d) rfl; obtain ⟨k4c0, k4c1, k4f0, k4f1⟩ := E.box 4 (b := w.heap.size) (v0 := .bool sx) (v1 := .slice a X.length c) rfl; have k4l := E.lt 4 (b := w.heap.size) (v0 := .bool sx) (v1 := .slice a X.length c) rfl)
  by_cases hg : ((sx != sy) && decide (0 < r1)) = true
  · as_aux_lemma =>
      rw [if_pos hg] at hq
      rw [Bool.and_eq_true, decide_eq_true_eq] at hg
      obtain ⟨hg1, hg2⟩ := hg
      have hrl2 : (0 : Int) < ((dig 18446744073709551616 r1).length : Int) := by omega
      have HQ := Lib.hid hq
      have hne : ¬ sx = sy := by simpa using hg1
      have hne2 : (sx == sy) = false := by simpa using hg1
      clear hq hrl hg2
      go_upto_region 4 with fail
      (try simp only [hne2, Bool.not_false])
      clear hne hne2 hrl2 hg1
      generalize hB8 : w5.heap.size = B8 at *
      obtain ⟨W4, hW4⟩ := envZ E
      rw [hW4] at E ⊢
      (try clear k0c0 k0c1 k0f0 k0f1)
      (try clear k1c0 k1c1 k1f0 k1f1)
      (try clear k2c0 k2c1 k2f0 k2f1)
      (try clear k3c0 k3c1 k3f0 k3f1)
      (try clear k4c0 k4c1 k4f0 k4f1)
      clear hW4 hB8
      refine wp_region_parts2 (w := W4) 3 1 none [] [(fun u _ => u = .agg #[.bool (decide (z1 < 0)), .slice a6 (dig 18446744073709551616 z1.natAbs).length c6]), ((IsZ 1)), ((IsZ q))] [some 34, some 35, some 36, none] #[true, true, true, false] #[true, true, true, false] (by kernel_rfl) rfl (by kernel_rfl) (by kernel_rfl) rfl (by kernel_rfl) (by kernel_rfl) (.cons (carries_eq _) (.cons (isZ_carries _) (.cons (isZ_carries _) .nil))) (fun vs b hvl hvb => ?_)
      obtain ⟨x0, x1, x2, x3, rfl⟩ : ∃ x0 x1 x2 x3, vs = [x0, x1, x2, x3] := lst4 hvl
      clear hvl
      simp only [putAll, Act.put, List.setIfInBounds_toArray, List.set_cons_zero, List.set_cons_succ] at hvb
      subst hvb
      refine ⟨(.snoc (.snoc (.snoc .zero (PartOb.intro (d := (some 34)) (r := fun u _ => u = .agg #[.bool (decide (z1 < 0)), .slice a6 (dig 18446744073709551616 z1.natAbs).length c6]) rfl rfl rfl rfl ?po4x0)) (PartOb.intro (d := (some 35)) (r := (IsZ 1)) rfl rfl rfl rfl ?po4x1)) (PartOb.intro (d := (some 36)) (r := (IsZ q)) rfl rfl rfl rfl ?po4x2)), ?pend4, ?pfl4⟩
      case po4x0 =>
        intro w1 hb1 hd KK hK
        clear hd
        have E1 := E.next hb1
        obtain ⟨e0, e1, e2, e3⟩ := E1.box 0 (b := B8) (v0 := .bool (decide (z1 < 0))) (v1 := .slice a6 (dig 18446744073709551616 z1.natAbs).length c6) rfl
        simp only [Act.put, List.setIfInBounds_toArray, List.set_cons_zero, List.set_cons_succ] at hK
        go_simp
        first | exact hK.out _ _ (Below.refl _ _) rfl | (have hk := hK.out _ _ (Below.refl _ _) rfl; revert hk; go_simp)
      case po4x1 =>
        intro w1 hb1 hd KK hK
        clear hd
        simp only [Act.put, List.setIfInBounds_toArray, List.set_cons_zero, List.set_cons_succ] at hK
        go_simp
        go_at_call 20
        refine (H1 _).out.mono ?_
        rintro e w2 ⟨a2, c2, rfl, hN2, hb2⟩
        (try go_wp2_with fail)
        first | exact hK.out _ _ hb2 ⟨a2, c2, rfl, hN2⟩ | (have hk := hK.out _ _ hb2 ⟨a2, c2, rfl, hN2⟩; revert hk; go_simp)
      case po4x2 =>
        intro w1 hb1 hd KK hK
        have d0 : x0 = .agg #[.bool (decide (z1 < 0)), .slice a6 (dig 18446744073709551616 z1.natAbs).length c6] := hd 0 (by kernel_rfl)
        have d1 : (IsZ 1) x1 w1 := hd 1 (by kernel_rfl)
        clear hd
        subst d0
        obtain ⟨a1x, e1x, rfl, hN1⟩ := d1
        simp only [Act.put, List.setIfInBounds_toArray, List.set_cons_zero, List.set_cons_succ] at hK
        go_simp
        go_at_call 103
        refine (HL1 _ _ _ _ w1 ((E.next hb1).num 0 rfl) hN1 HQ.out).out.mono ?_
        rintro e w2 ⟨a2, c2, rfl, hN2, hb2⟩
        (try go_wp2_with fail)
        first | exact hK.out _ _ hb2 ⟨a2, c2, rfl, hN2⟩ | (have hk := hK.out _ _ hb2 ⟨a2, c2, rfl, hN2⟩; revert hk; go_simp)
      case pfl4 => (intro f hf; cases hf)
      case pend4 =>
      intro w1 hb1 hR hD
      have d0 : x0 = .agg #[.bool (decide (z1 < 0)), .slice a6 (dig 18446744073709551616 z1.natAbs).length c6] := hR 0 (by decide)
      have d1 : (IsZ 1) x1 w1 := hR 1 (by decide)
      have d2 : (IsZ q) x2 w1 := hR 2 (by decide)
      clear hR hD
      subst d0
      obtain ⟨a1x, e1x, rfl, hN1⟩ := d1
      obtain ⟨a2x, e2x, rfl, hN2⟩ := d2
      refine wpAny_ready (rs := [3]) (by kernel_rfl) (by simp) (AllReady.cons rfl (fun KK hK => ?_) AllReady.nil)
      have E4 := (E.next hb1).addN hN2
      have hXb := E4.box 0 (b := B8) rfl
      have E5 := E4.store HNE.out HLB.out bool_int slice_int (.bool (decide (q < 0))) (.slice a2x (dig 18446744073709551616 q.natAbs).length e2x)
      obtain ⟨m0c0, m0c1, m0f0, m0f1⟩ := hXb
      go_simp
      refine hK _ _ ?_
      clear hK KK
      try simp only [putAll, Act.put, List.setIfInBounds_toArray, List.set_cons_zero, List.set_cons_succ]
      refine wpAny_done (by kernel_rfl) ?_ _
      obtain ⟨W5, hW5⟩ := envZ E5
      rw [hW5] at E5 ⊢
      clear hW5 m0c0 m0c1 m0f0 m0f1 E4 E hb1 hN1
      have E := E5
      clear E5
      skip
      obtain ⟨a8, rfl⟩ : ∃ a8, a8 = a2x := ⟨_, rfl⟩
      obtain ⟨c8, rfl⟩ : ∃ c8, c8 = e2x := ⟨_, rfl⟩
      go_upto_region 5 with fail
      refine wp_region_parts2 (w := W5) 6 2 none [] [(fun u _ => u = .agg #[.bool (decide (q < 0)), .slice a8 (dig 18446744073709551616 q.natAbs).length c8]), (fun u _ => u = .agg #[.bool sx, .slice a X.length c]), (fun u _ => u = .agg #[.bool (decide (q < 0)), .slice a8 (dig 18446744073709551616 q.natAbs).length c8]), (fun u _ => u = .agg #[.bool sy, .slice b Y.length d]), ((IsZ qy)), ((IsZ r))] [some 37, some 38, some 39, some 40, some 41, some 42, none, none] #[true, true, true, true, true, true, false, false] #[true, true, true, true, true, true, false, false] (by kernel_rfl) rfl (by kernel_rfl) (by kernel_rfl) rfl (by kernel_rfl) (by kernel_rfl) (.cons (carries_eq _) (.cons (carries_eq _) (.cons (carries_eq _) (.cons (carries_eq _) (.cons (isZ_carries _) (.cons (isZ_carries _) .nil)))))) (fun vs b hvl hvb => ?_)
      obtain ⟨x0, x1, x2, x3, x4, x5, x6, x7, rfl⟩ : ∃ x0 x1 x2 x3 x4 x5 x6 x7, vs = [x0, x1, x2, x3, x4, x5, x6, x7] := lst8 hvl
      clear hvl
      simp only [putAll, Act.put, List.setIfInBounds_toArray, List.set_cons_zero, List.set_cons_succ] at hvb
      subst hvb
      refine ⟨(.snoc (.snoc (.snoc (.snoc (.snoc (.snoc .zero (PartOb.intro (d := (some 37)) (r := fun u _ => u = .agg #[.bool (decide (q < 0)), .slice a8 (dig 18446744073709551616 q.natAbs).length c8]) rfl rfl rfl rfl ?po5x0)) (PartOb.intro (d := (some 38)) (r := fun u _ => u = .agg #[.bool sx, .slice a X.length c]) rfl rfl rfl rfl ?po5x1)) (PartOb.intro (d := (some 39)) (r := fun u _ => u = .agg #[.bool (decide (q < 0)), .slice a8 (dig 18446744073709551616 q.natAbs).length c8]) rfl rfl rfl rfl ?po5x2)) (PartOb.intro (d := (some 40)) (r := fun u _ => u = .agg #[.bool sy, .slice b Y.length d]) rfl rfl rfl rfl ?po5x3)) (PartOb.intro (d := (some 41)) (r := (IsZ qy)) rfl rfl rfl rfl ?po5x4)) (PartOb.intro (d := (some 42)) (r := (IsZ r)) rfl rfl rfl rfl ?po5x5)), ?pend5, ?pfl5⟩
      case po5x0 =>
        intro w1 hb1 hd KK hK
        clear hd
        have E1 := E.next hb1
        obtain ⟨e0, e1, e2, e3⟩ := E1.box 0 (b := B8) (v0 := .bool (decide (q < 0))) (v1 := .slice a8 (dig 18446744073709551616 q.natAbs).length c8) rfl
        simp only [Act.put, List.setIfInBounds_toArray, List.set_cons_zero, List.set_cons_succ] at hK
        go_simp
        first | exact hK.out _ _ (Below.refl _ _) rfl | (have hk := hK.out _ _ (Below.refl _ _) rfl; revert hk; go_simp)
      case po5x1 =>
        intro w1 hb1 hd KK hK
        clear hd
        have E1 := E.next hb1
        obtain ⟨e0, e1, e2, e3⟩ := E1.box 4 (b := w.heap.size) (v0 := .bool sx) (v1 := .slice a X.length c) rfl
        simp only [Act.put, List.setIfInBounds_toArray, List.set_cons_zero, List.set_cons_succ] at hK
        go_simp
        first | exact hK.out _ _ (Below.refl _ _) rfl | (have hk := hK.out _ _ (Below.refl _ _) rfl; revert hk; go_simp)
      case po5x2 =>
        intro w1 hb1 hd KK hK
        clear hd
        have E1 := E.next hb1
        obtain ⟨e0, e1, e2, e3⟩ := E1.box 0 (b := B8) (v0 := .bool (decide (q < 0))) (v1 := .slice a8 (dig 18446744073709551616 q.natAbs).length c8) rfl
        simp only [Act.put, List.setIfInBounds_toArray, List.set_cons_zero, List.set_cons_succ] at hK
        go_simp
        first | exact hK.out _ _ (Below.refl _ _) rfl | (have hk := hK.out _ _ (Below.refl _ _) rfl; revert hk; go_simp)
      case po5x3 =>
        intro w1 hb1 hd KK hK
        clear hd
        have E1 := E.next hb1
        obtain ⟨e0, e1, e2, e3⟩ := E1.box 3 (b := (w.heap.size + 1)) (v0 := .bool sy) (v1 := .slice b Y.length d) rfl
        simp only [Act.put, List.setIfInBounds_toArray, List.set_cons_zero, List.set_cons_succ] at hK
        go_simp
        first | exact hK.out _ _ (Below.refl _ _) rfl | (have hk := hK.out _ _ (Below.refl _ _) rfl; revert hk; go_simp)
      case po5x4 =>
        intro w1 hb1 hd KK hK
        have d2 : x2 = .agg #[.bool (decide (q < 0)), .slice a8 (dig 18446744073709551616 q.natAbs).length c8] := hd 2 (by kernel_rfl)
        have d3 : x3 = .agg #[.bool sy, .slice b Y.length d] := hd 3 (by kernel_rfl)
        clear hd
        subst d2
        subst d3
        simp only [Act.put, List.setIfInBounds_toArray, List.set_cons_zero, List.set_cons_succ] at hK
        go_simp
        go_at_call 24
        refine (HTM _ _ _ _ w1 ((E.next hb1).num 0 rfl) ((E.next hb1).num 4 rfl)).out.mono ?_
        rintro e w2 ⟨a2, c2, rfl, hN2, hb2⟩
        (try go_wp2_with fail)
        first | exact hK.out _ _ hb2 ⟨a2, c2, rfl, hN2⟩ | (have hk := hK.out _ _ hb2 ⟨a2, c2, rfl, hN2⟩; revert hk; go_simp)
      case po5x5 =>
        intro w1 hb1 hd KK hK
        have d1 : x1 = .agg #[.bool sx, .slice a X.length c] := hd 1 (by kernel_rfl)
        have d4 : (IsZ qy) x4 w1 := hd 4 (by kernel_rfl)
        clear hd
        subst d1
        obtain ⟨a4x, e4x, rfl, hN4⟩ := d4
        simp only [Act.put, List.setIfInBounds_toArray, List.set_cons_zero, List.set_cons_succ] at hK
        go_simp
        go_at_call 103
        refine (HLS _ _ _ _ w1 ((E.next hb1).num 5 rfl) hN4).out.mono ?_
        rintro e w2 ⟨a3, c3, rfl, hN3, hb2⟩
        (try go_wp2_with fail)
        first | exact hK.out _ _ hb2 ⟨a3, c3, rfl, hN3⟩ | (have hk := hK.out _ _ hb2 ⟨a3, c3, rfl, hN3⟩; revert hk; go_simp)
      case pfl5 => (intro f hf; cases hf)
      case pend5 =>
      intro w1 hb1 hR hD
      have d0 : x0 = .agg #[.bool (decide (q < 0)), .slice a8 (dig 18446744073709551616 q.natAbs).length c8] := hR 0 (by decide)
      have d1 : x1 = .agg #[.bool sx, .slice a X.length c] := hR 1 (by decide)
      have d2 : x2 = .agg #[.bool (decide (q < 0)), .slice a8 (dig 18446744073709551616 q.natAbs).length c8] := hR 2 (by decide)
      have d3 : x3 = .agg #[.bool sy, .slice b Y.length d] := hR 3 (by decide)
      have d4 : (IsZ qy) x4 w1 := hR 4 (by decide)
      have d5 : (IsZ r) x5 w1 := hR 5 (by decide)
      clear hR hD
      subst d0
      subst d1
      subst d2
      subst d3
      obtain ⟨a4x, e4x, rfl, hN4⟩ := d4
      obtain ⟨a5x, e5x, rfl, hN5⟩ := d5
      refine wpAny_ready (rs := [6]) (by kernel_rfl) (by simp) (AllReady.cons rfl (fun KK hK => ?_) AllReady.nil)
      have E6 := E.next hb1
      obtain ⟨m0c0, m0c1, m0f0, m0f1⟩ := E6.box 0 (b := B8) (v0 := .bool (decide (q < 0))) (v1 := .slice a8 (dig 18446744073709551616 q.natAbs).length c8) rfl
      obtain ⟨m1c0, m1c1, m1f0, m1f1⟩ := E6.box 1 (b := (w.heap.size + 1 + 1 + 1)) (v0 := .bool false) (v1 := .slice none 0 0) rfl
      obtain ⟨m2c0, m2c1, m2f0, m2f1⟩ := E6.box 2 (b := (w.heap.size + 1 + 1)) (v0 := .bool false) (v1 := .slice none 0 0) rfl
      have l1 := E6.lt 1 (b := (w.heap.size + 1 + 1 + 1)) rfl
      go_simp
      refine hK _ _ ?_
      clear hK KK
      try simp only [putAll, Act.put, List.setIfInBounds_toArray, List.set_cons_zero, List.set_cons_succ]
      refine wpAny_ready (rs := [7]) (by kernel_rfl) (by simp) (AllReady.cons rfl (fun KK hK => ?_) AllReady.nil)
      go_simp
      refine hK _ _ ?_
      clear hK KK
      try simp only [putAll, Act.put, List.setIfInBounds_toArray, List.set_cons_zero, List.set_cons_succ]
      refine wpAny_done (by kernel_rfl) ?_ _
      go_wp2
      refine bodyPost_ret (v := .tuple #[.agg #[.bool (decide (q < 0)), .slice a8 (dig 18446744073709551616 q.natAbs).length c8], .agg #[.bool (decide (r < 0)), .slice a5x (dig 18446744073709551616 r.natAbs).length e5x]]) (by rw [nres_cc rfl]; go_simp) rfl ?_
      have E7 := (((E6.addN hN5).sub [(w.heap.size + 1 + 1, .bool false, .slice none 0 0), (w.heap.size + 1 + 1 + 1, .bool false, .slice none 0 0)] (by simp)).store (by simp) (by omega) bool_int slice_int (.bool (decide (q < 0))) (.slice a8 (dig 18446744073709551616 q.natAbs).length c8))
      have E8 := (E7.sub [(w.heap.size + 1 + 1 + 1, .bool false, .slice none 0 0)] (by simp)).store (by simp) (by omega) bool_int slice_int (.bool (decide (r < 0))) (.slice a5x (dig 18446744073709551616 r.natAbs).length e5x)
      exact ⟨a8, c8, a5x, e5x, rfl, E8.num 1 rfl, E8.num 0 rfl, E8.bel⟩
  · as_aux_lemma =>
      rw [if_neg hg, Int.sub_zero] at hq
      replace hq := hq.symm
      subst hq
      skip
      by_cases hne : sx = sy
      · as_aux_lemma =>
          subst hne
          clear hg hrl
          go_upto_region 5 with fail
          generalize hB8 : w5.heap.size = B8 at *
          obtain ⟨W5, hW5⟩ := envZ E
          rw [hW5] at E ⊢
          (try clear k0c0 k0c1 k0f0 k0f1)
          (try clear k1c0 k1c1 k1f0 k1f1)
          (try clear k2c0 k2c1 k2f0 k2f1)
          (try clear k3c0 k3c1 k3f0 k3f1)
          (try clear k4c0 k4c1 k4f0 k4f1)
          clear hW5 hB8
          obtain ⟨a8, rfl⟩ : ∃ a8, a8 = a6 := ⟨_, rfl⟩
          obtain ⟨c8, rfl⟩ : ∃ c8, c8 = c6 := ⟨_, rfl⟩
          refine wp_region_parts2 (w := W5) 6 2 none [] [(fun u _ => u = .agg #[.bool (decide (q < 0)), .slice a8 (dig 18446744073709551616 q.natAbs).length c8]), (fun u _ => u = .agg #[.bool sx, .slice a X.length c]), (fun u _ => u = .agg #[.bool (decide (q < 0)), .slice a8 (dig 18446744073709551616 q.natAbs).length c8]), (fun u _ => u = .agg #[.bool sx, .slice b Y.length d]), ((IsZ qy)), ((IsZ r))] [some 37, some 38, some 39, some 40, some 41, some 42, none, none] #[true, true, true, true, true, true, false, false] #[true, true, true, true, true, true, false, false] (by kernel_rfl) rfl (by kernel_rfl) (by kernel_rfl) rfl (by kernel_rfl) (by kernel_rfl) (.cons (carries_eq _) (.cons (carries_eq _) (.cons (carries_eq _) (.cons (carries_eq _) (.cons (isZ_carries _) (.cons (isZ_carries _) .nil)))))) (fun vs b hvl hvb => ?_)
          obtain ⟨x0, x1, x2, x3, x4, x5, x6, x7, rfl⟩ : ∃ x0 x1 x2 x3 x4 x5 x6 x7, vs = [x0, x1, x2, x3, x4, x5, x6, x7] := lst8 hvl
          clear hvl
          simp only [putAll, Act.put, List.setIfInBounds_toArray, List.set_cons_zero, List.set_cons_succ] at hvb
          subst hvb
          refine ⟨(.snoc (.snoc (.snoc (.snoc (.snoc (.snoc .zero (PartOb.intro (d := (some 37)) (r := fun u _ => u = .agg #[.bool (decide (q < 0)), .slice a8 (dig 18446744073709551616 q.natAbs).length c8]) rfl rfl rfl rfl ?po5x0)) (PartOb.intro (d := (some 38)) (r := fun u _ => u = .agg #[.bool sx, .slice a X.length c]) rfl rfl rfl rfl ?po5x1)) (PartOb.intro (d := (some 39)) (r := fun u _ => u = .agg #[.bool (decide (q < 0)), .slice a8 (dig 18446744073709551616 q.natAbs).length c8]) rfl rfl rfl rfl ?po5x2)) (PartOb.intro (d := (some 40)) (r := fun u _ => u = .agg #[.bool sx, .slice b Y.length d]) rfl rfl rfl rfl ?po5x3)) (PartOb.intro (d := (some 41)) (r := (IsZ qy)) rfl rfl rfl rfl ?po5x4)) (PartOb.intro (d := (some 42)) (r := (IsZ r)) rfl rfl rfl rfl ?po5x5)), ?pend5, ?pfl5⟩
          case po5x0 =>
            intro w1 hb1 hd KK hK
            clear hd
            have E1 := E.next hb1
            obtain ⟨e0, e1, e2, e3⟩ := E1.box 0 (b := B8) (v0 := .bool (decide (q < 0))) (v1 := .slice a8 (dig 18446744073709551616 q.natAbs).length c8) rfl
            simp only [Act.put, List.setIfInBounds_toArray, List.set_cons_zero, List.set_cons_succ] at hK
            go_simp
            first | exact hK.out _ _ (Below.refl _ _) rfl | (have hk := hK.out _ _ (Below.refl _ _) rfl; revert hk; go_simp)
          case po5x1 =>
            intro w1 hb1 hd KK hK
            clear hd
            have E1 := E.next hb1
            obtain ⟨e0, e1, e2, e3⟩ := E1.box 4 (b := w.heap.size) (v0 := .bool sx) (v1 := .slice a X.length c) rfl
            simp only [Act.put, List.setIfInBounds_toArray, List.set_cons_zero, List.set_cons_succ] at hK
            go_simp
            first | exact hK.out _ _ (Below.refl _ _) rfl | (have hk := hK.out _ _ (Below.refl _ _) rfl; revert hk; go_simp)
          case po5x2 =>
            intro w1 hb1 hd KK hK
            clear hd
            have E1 := E.next hb1
            obtain ⟨e0, e1, e2, e3⟩ := E1.box 0 (b := B8) (v0 := .bool (decide (q < 0))) (v1 := .slice a8 (dig 18446744073709551616 q.natAbs).length c8) rfl
            simp only [Act.put, List.setIfInBounds_toArray, List.set_cons_zero, List.set_cons_succ] at hK
            go_simp
            first | exact hK.out _ _ (Below.refl _ _) rfl | (have hk := hK.out _ _ (Below.refl _ _) rfl; revert hk; go_simp)
          case po5x3 =>
            intro w1 hb1 hd KK hK
            clear hd
            have E1 := E.next hb1
            obtain ⟨e0, e1, e2, e3⟩ := E1.box 3 (b := (w.heap.size + 1)) (v0 := .bool sx) (v1 := .slice b Y.length d) rfl
            simp only [Act.put, List.setIfInBounds_toArray, List.set_cons_zero, List.set_cons_succ] at hK
            go_simp
            first | exact hK.out _ _ (Below.refl _ _) rfl | (have hk := hK.out _ _ (Below.refl _ _) rfl; revert hk; go_simp)
          case po5x4 =>
            intro w1 hb1 hd KK hK
            have d2 : x2 = .agg #[.bool (decide (q < 0)), .slice a8 (dig 18446744073709551616 q.natAbs).length c8] := hd 2 (by kernel_rfl)
            have d3 : x3 = .agg #[.bool sx, .slice b Y.length d] := hd 3 (by kernel_rfl)
            clear hd
            subst d2
            subst d3
            simp only [Act.put, List.setIfInBounds_toArray, List.set_cons_zero, List.set_cons_succ] at hK
            go_simp
            go_at_call 24
            refine (HTM _ _ _ _ w1 ((E.next hb1).num 0 rfl) ((E.next hb1).num 3 rfl)).out.mono ?_
            rintro e w2 ⟨a2, c2, rfl, hN2, hb2⟩
            (try go_wp2_with fail)
            first | exact hK.out _ _ hb2 ⟨a2, c2, rfl, hN2⟩ | (have hk := hK.out _ _ hb2 ⟨a2, c2, rfl, hN2⟩; revert hk; go_simp)
          case po5x5 =>
            intro w1 hb1 hd KK hK
            have d1 : x1 = .agg #[.bool sx, .slice a X.length c] := hd 1 (by kernel_rfl)
            have d4 : (IsZ qy) x4 w1 := hd 4 (by kernel_rfl)
            clear hd
            subst d1
            obtain ⟨a4x, e4x, rfl, hN4⟩ := d4
            simp only [Act.put, List.setIfInBounds_toArray, List.set_cons_zero, List.set_cons_succ] at hK
            go_simp
            go_at_call 103
            refine (HLS _ _ _ _ w1 ((E.next hb1).num 4 rfl) hN4).out.mono ?_
            rintro e w2 ⟨a3, c3, rfl, hN3, hb2⟩
            (try go_wp2_with fail)
            first | exact hK.out _ _ hb2 ⟨a3, c3, rfl, hN3⟩ | (have hk := hK.out _ _ hb2 ⟨a3, c3, rfl, hN3⟩; revert hk; go_simp)
          case pfl5 => (intro f hf; cases hf)
          case pend5 =>
          intro w1 hb1 hR hD
          have d0 : x0 = .agg #[.bool (decide (q < 0)), .slice a8 (dig 18446744073709551616 q.natAbs).length c8] := hR 0 (by decide)
          have d1 : x1 = .agg #[.bool sx, .slice a X.length c] := hR 1 (by decide)
          have d2 : x2 = .agg #[.bool (decide (q < 0)), .slice a8 (dig 18446744073709551616 q.natAbs).length c8] := hR 2 (by decide)
          have d3 : x3 = .agg #[.bool sx, .slice b Y.length d] := hR 3 (by decide)
          have d4 : (IsZ qy) x4 w1 := hR 4 (by decide)
          have d5 : (IsZ r) x5 w1 := hR 5 (by decide)
          clear hR hD
          subst d0
          subst d1
          subst d2
          subst d3
          obtain ⟨a4x, e4x, rfl, hN4⟩ := d4
          obtain ⟨a5x, e5x, rfl, hN5⟩ := d5
          refine wpAny_ready (rs := [6]) (by kernel_rfl) (by simp) (AllReady.cons rfl (fun KK hK => ?_) AllReady.nil)
          have E6 := E.next hb1
          obtain ⟨m0c0, m0c1, m0f0, m0f1⟩ := E6.box 0 (b := B8) (v0 := .bool (decide (q < 0))) (v1 := .slice a8 (dig 18446744073709551616 q.natAbs).length c8) rfl
          obtain ⟨m1c0, m1c1, m1f0, m1f1⟩ := E6.box 1 (b := (w.heap.size + 1 + 1 + 1)) (v0 := .bool false) (v1 := .slice none 0 0) rfl
          obtain ⟨m2c0, m2c1, m2f0, m2f1⟩ := E6.box 2 (b := (w.heap.size + 1 + 1)) (v0 := .bool false) (v1 := .slice none 0 0) rfl
          have l1 := E6.lt 1 (b := (w.heap.size + 1 + 1 + 1)) rfl
          go_simp
          refine hK _ _ ?_
          clear hK KK
          try simp only [putAll, Act.put, List.setIfInBounds_toArray, List.set_cons_zero, List.set_cons_succ]
          refine wpAny_ready (rs := [7]) (by kernel_rfl) (by simp) (AllReady.cons rfl (fun KK hK => ?_) AllReady.nil)
          go_simp
          refine hK _ _ ?_
          clear hK KK
          try simp only [putAll, Act.put, List.setIfInBounds_toArray, List.set_cons_zero, List.set_cons_succ]
          refine wpAny_done (by kernel_rfl) ?_ _
          go_wp2
          refine bodyPost_ret (v := .tuple #[.agg #[.bool (decide (q < 0)), .slice a8 (dig 18446744073709551616 q.natAbs).length c8], .agg #[.bool (decide (r < 0)), .slice a5x (dig 18446744073709551616 r.natAbs).length e5x]]) (by rw [nres_cc rfl]; go_simp) rfl ?_
          have E7 := (((E6.addN hN5).sub [(w.heap.size + 1 + 1, .bool false, .slice none 0 0), (w.heap.size + 1 + 1 + 1, .bool false, .slice none 0 0)] (by simp)).store (by simp) (by omega) bool_int slice_int (.bool (decide (q < 0))) (.slice a8 (dig 18446744073709551616 q.natAbs).length c8))
          have E8 := (E7.sub [(w.heap.size + 1 + 1 + 1, .bool false, .slice none 0 0)] (by simp)).store (by simp) (by omega) bool_int slice_int (.bool (decide (r < 0))) (.slice a5x (dig 18446744073709551616 r.natAbs).length e5x)
          exact ⟨a8, c8, a5x, e5x, rfl, E8.num 1 rfl, E8.num 0 rfl, E8.bel⟩
      · as_aux_lemma =>
          have hne2 : (sx == sy) = false := by simpa using hne
          have hne3 : (sx != sy) = true := by simpa using hne
          have hg4 : ¬ (0 : Int) < ((dig 18446744073709551616 r1).length : Int) := by
            rw [hne3, Bool.true_and, decide_eq_true_eq] at hg
            omega
          clear hg hrl
          go_upto_region 5 with fail
          (try simp only [hne2, Bool.not_false])
          clear hne hne2 hne3 hg4
          generalize hB8 : w5.heap.size = B8 at *
          obtain ⟨W5, hW5⟩ := envZ E
          rw [hW5] at E ⊢
          (try clear k0c0 k0c1 k0f0 k0f1)
          (try clear k1c0 k1c1 k1f0 k1f1)
          (try clear k2c0 k2c1 k2f0 k2f1)
          (try clear k3c0 k3c1 k3f0 k3f1)
          (try clear k4c0 k4c1 k4f0 k4f1)
          clear hW5 hB8
          obtain ⟨a8, rfl⟩ : ∃ a8, a8 = a6 := ⟨_, rfl⟩
          obtain ⟨c8, rfl⟩ : ∃ c8, c8 = c6 := ⟨_, rfl⟩
          refine wp_region_parts2 (w := W5) 6 2 none [] [(fun u _ => u = .agg #[.bool (decide (q < 0)), .slice a8 (dig 18446744073709551616 q.natAbs).length c8]), (fun u _ => u = .agg #[.bool sx, .slice a X.length c]), (fun u _ => u = .agg #[.bool (decide (q < 0)), .slice a8 (dig 18446744073709551616 q.natAbs).length c8]), (fun u _ => u = .agg #[.bool sy, .slice b Y.length d]), ((IsZ qy)), ((IsZ r))] [some 37, some 38, some 39, some 40, some 41, some 42, none, none] #[true, true, true, true, true, true, false, false] #[true, true, true, true, true, true, false, false] (by kernel_rfl) rfl (by kernel_rfl) (by kernel_rfl) rfl (by kernel_rfl) (by kernel_rfl) (.cons (carries_eq _) (.cons (carries_eq _) (.cons (carries_eq _) (.cons (carries_eq _) (.cons (isZ_carries _) (.cons (isZ_carries _) .nil)))))) (fun vs b hvl hvb => ?_)
          obtain ⟨x0, x1, x2, x3, x4, x5, x6, x7, rfl⟩ : ∃ x0 x1 x2 x3 x4 x5 x6 x7, vs = [x0, x1, x2, x3, x4, x5, x6, x7] := lst8 hvl
          clear hvl
          simp only [putAll, Act.put, List.setIfInBounds_toArray, List.set_cons_zero, List.set_cons_succ] at hvb
          subst hvb
          refine ⟨(.snoc (.snoc (.snoc (.snoc (.snoc (.snoc .zero (PartOb.intro (d := (some 37)) (r := fun u _ => u = .agg #[.bool (decide (q < 0)), .slice a8 (dig 18446744073709551616 q.natAbs).length c8]) rfl rfl rfl rfl ?po5x0)) (PartOb.intro (d := (some 38)) (r := fun u _ => u = .agg #[.bool sx, .slice a X.length c]) rfl rfl rfl rfl ?po5x1)) (PartOb.intro (d := (some 39)) (r := fun u _ => u = .agg #[.bool (decide (q < 0)), .slice a8 (dig 18446744073709551616 q.natAbs).length c8]) rfl rfl rfl rfl ?po5x2)) (PartOb.intro (d := (some 40)) (r := fun u _ => u = .agg #[.bool sy, .slice b Y.length d]) rfl rfl rfl rfl ?po5x3)) (PartOb.intro (d := (some 41)) (r := (IsZ qy)) rfl rfl rfl rfl ?po5x4)) (PartOb.intro (d := (some 42)) (r := (IsZ r)) rfl rfl rfl rfl ?po5x5)), ?pend5, ?pfl5⟩
          case po5x0 =>
            intro w1 hb1 hd KK hK
            clear hd
            have E1 := E.next hb1
            obtain ⟨e0, e1, e2, e3⟩ := E1.box 0 (b := B8) (v0 := .bool (decide (q < 0))) (v1 := .slice a8 (dig 18446744073709551616 q.natAbs).length c8) rfl
            simp only [Act.put, List.setIfInBounds_toArray, List.set_cons_zero, List.set_cons_succ] at hK
            go_simp
            first | exact hK.out _ _ (Below.refl _ _) rfl | (have hk := hK.out _ _ (Below.refl _ _) rfl; revert hk; go_simp)
          case po5x1 =>
            intro w1 hb1 hd KK hK
            clear hd
            have E1 := E.next hb1
            obtain ⟨e0, e1, e2, e3⟩ := E1.box 4 (b := w.heap.size) (v0 := .bool sx) (v1 := .slice a X.length c) rfl
            simp only [Act.put, List.setIfInBounds_toArray, List.set_cons_zero, List.set_cons_succ] at hK
            go_simp
            first | exact hK.out _ _ (Below.refl _ _) rfl | (have hk := hK.out _ _ (Below.refl _ _) rfl; revert hk; go_simp)
          case po5x2 =>
            intro w1 hb1 hd KK hK
            clear hd
            have E1 := E.next hb1
            obtain ⟨e0, e1, e2, e3⟩ := E1.box 0 (b := B8) (v0 := .bool (decide (q < 0))) (v1 := .slice a8 (dig 18446744073709551616 q.natAbs).length c8) rfl
            simp only [Act.put, List.setIfInBounds_toArray, List.set_cons_zero, List.set_cons_succ] at hK
            go_simp
            first | exact hK.out _ _ (Below.refl _ _) rfl | (have hk := hK.out _ _ (Below.refl _ _) rfl; revert hk; go_simp)
          case po5x3 =>
            intro w1 hb1 hd KK hK
            clear hd
            have E1 := E.next hb1
            obtain ⟨e0, e1, e2, e3⟩ := E1.box 3 (b := (w.heap.size + 1)) (v0 := .bool sy) (v1 := .slice b Y.length d) rfl
            simp only [Act.put, List.setIfInBounds_toArray, List.set_cons_zero, List.set_cons_succ] at hK
            go_simp
            first | exact hK.out _ _ (Below.refl _ _) rfl | (have hk := hK.out _ _ (Below.refl _ _) rfl; revert hk; go_simp)
          case po5x4 =>
            intro w1 hb1 hd KK hK
            have d2 : x2 = .agg #[.bool (decide (q < 0)), .slice a8 (dig 18446744073709551616 q.natAbs).length c8] := hd 2 (by kernel_rfl)
            have d3 : x3 = .agg #[.bool sy, .slice b Y.length d] := hd 3 (by kernel_rfl)
            clear hd
            subst d2
            subst d3
            simp only [Act.put, List.setIfInBounds_toArray, List.set_cons_zero, List.set_cons_succ] at hK
            go_simp
            go_at_call 24
            refine (HTM _ _ _ _ w1 ((E.next hb1).num 0 rfl) ((E.next hb1).num 3 rfl)).out.mono ?_
            rintro e w2 ⟨a2, c2, rfl, hN2, hb2⟩
            (try go_wp2_with fail)
            first | exact hK.out _ _ hb2 ⟨a2, c2, rfl, hN2⟩ | (have hk := hK.out _ _ hb2 ⟨a2, c2, rfl, hN2⟩; revert hk; go_simp)
          case po5x5 =>
            intro w1 hb1 hd KK hK
            have d1 : x1 = .agg #[.bool sx, .slice a X.length c] := hd 1 (by kernel_rfl)
            have d4 : (IsZ qy) x4 w1 := hd 4 (by kernel_rfl)
            clear hd
            subst d1
            obtain ⟨a4x, e4x, rfl, hN4⟩ := d4
            simp only [Act.put, List.setIfInBounds_toArray, List.set_cons_zero, List.set_cons_succ] at hK
            go_simp
            go_at_call 103
            refine (HLS _ _ _ _ w1 ((E.next hb1).num 4 rfl) hN4).out.mono ?_
            rintro e w2 ⟨a3, c3, rfl, hN3, hb2⟩
            (try go_wp2_with fail)
            first | exact hK.out _ _ hb2 ⟨a3, c3, rfl, hN3⟩ | (have hk := hK.out _ _ hb2 ⟨a3, c3, rfl, hN3⟩; revert hk; go_simp)
          case pfl5 => (intro f hf; cases hf)
          case pend5 =>
          intro w1 hb1 hR hD
          have d0 : x0 = .agg #[.bool (decide (q < 0)), .slice a8 (dig 18446744073709551616 q.natAbs).length c8] := hR 0 (by decide)
          have d1 : x1 = .agg #[.bool sx, .slice a X.length c] := hR 1 (by decide)
          have d2 : x2 = .agg #[.bool (decide (q < 0)), .slice a8 (dig 18446744073709551616 q.natAbs).length c8] := hR 2 (by decide)
          have d3 : x3 = .agg #[.bool sy, .slice b Y.length d] := hR 3 (by decide)
          have d4 : (IsZ qy) x4 w1 := hR 4 (by decide)
          have d5 : (IsZ r) x5 w1 := hR 5 (by decide)
          clear hR hD
          subst d0
          subst d1
          subst d2
          subst d3
          obtain ⟨a4x, e4x, rfl, hN4⟩ := d4
          obtain ⟨a5x, e5x, rfl, hN5⟩ := d5
          refine wpAny_ready (rs := [6]) (by kernel_rfl) (by simp) (AllReady.cons rfl (fun KK hK => ?_) AllReady.nil)
          have E6 := E.next hb1
          obtain ⟨m0c0, m0c1, m0f0, m0f1⟩ := E6.box 0 (b := B8) (v0 := .bool (decide (q < 0))) (v1 := .slice a8 (dig 18446744073709551616 q.natAbs).length c8) rfl
          obtain ⟨m1c0, m1c1, m1f0, m1f1⟩ := E6.box 1 (b := (w.heap.size + 1 + 1 + 1)) (v0 := .bool false) (v1 := .slice none 0 0) rfl
          obtain ⟨m2c0, m2c1, m2f0, m2f1⟩ := E6.box 2 (b := (w.heap.size + 1 + 1)) (v0 := .bool false) (v1 := .slice none 0 0) rfl
          have l1 := E6.lt 1 (b := (w.heap.size + 1 + 1 + 1)) rfl
          go_simp
          refine hK _ _ ?_
          clear hK KK
          try simp only [putAll, Act.put, List.setIfInBounds_toArray, List.set_cons_zero, List.set_cons_succ]
          refine wpAny_ready (rs := [7]) (by kernel_rfl) (by simp) (AllReady.cons rfl (fun KK hK => ?_) AllReady.nil)
          go_simp
          refine hK _ _ ?_
          clear hK KK
          try simp only [putAll, Act.put, List.setIfInBounds_toArray, List.set_cons_zero, List.set_cons_succ]
          refine wpAny_done (by kernel_rfl) ?_ _
          go_wp2
          refine bodyPost_ret (v := .tuple #[.agg #[.bool (decide (q < 0)), .slice a8 (dig 18446744073709551616 q.natAbs).length c8], .agg #[.bool (decide (r < 0)), .slice a5x (dig 18446744073709551616 r.natAbs).length e5x]]) (by rw [nres_cc rfl]; go_simp) rfl ?_
          have E7 := (((E6.addN hN5).sub [(w.heap.size + 1 + 1, .bool false, .slice none 0 0), (w.heap.size + 1 + 1 + 1, .bool false, .slice none 0 0)] (by simp)).store (by simp) (by omega) bool_int slice_int (.bool (decide (q < 0))) (.slice a8 (dig 18446744073709551616 q.natAbs).length c8))
          have E8 := (E7.sub [(w.heap.size + 1 + 1 + 1, .bool false, .slice none 0 0)] (by simp)).store (by simp) (by omega) bool_int slice_int (.bool (decide (r < 0))) (.slice a5x (dig 18446744073709551616 r.natAbs).length e5x)
          exact ⟨a8, c8, a5x, e5x, rfl, E8.num 1 rfl, E8.num 0 rfl, E8.bel⟩
end Go.Proofs.YtddhhfhammmaaaaGreat
