/- Walks of the references' whole numbers: common divisors, shifts to the right. -/
import Derived.Test.YtddhhfhammmaaaaGreatN17
import Derived.Test.YtddhhfhammmaaaaGreatWideA
import Derived.Deep.LoopGhost
import Derived.BigQuiet
import Derived.WalkMore
import Derived.Deep.RegionHeld3
import Derived.Deep.RegionWith
import Derived.BigRegion
import Derived.Deep.Cut
import Derived.Deep.CutBlock
import Derived.Deep.CutRange
set_option linter.unusedVariables false
set_option linter.unusedSimpArgs false
namespace Go.Proofs.YtddhhfhammmaaaaGreat
open Go.RowKit Go.Rt

set_option maxHeartbeats 4000000 in
set_option maxRecDepth 100000 in
theorem ngcd_any (a b : Option Addr) (c d m n : Nat) (w : World) (h : NAt w w.heap.size a c m) (h' : NAt w w.heap.size b d n) (hm : (dig 18446744073709551616 m).length ≤ 400000) (hn : (dig 18446744073709551616 n).length ≤ 400000) :
    Calls Tryz.prog 58 #[.slice a (dig 18446744073709551616 m).length c, .slice b (dig 18446744073709551616 n).length d] w (RetN w (Nat.gcd m n)) := by
  have hHa := Lib.hid h
  have hHb := Lib.hid h'
  have hHm := Lib.hid hm
  have hHn := Lib.hid hn
  clear h h' hm hn
  go_enter Tryz.func58, Tryz.ntmps58
  go_wp2
  go_loopg [0, 1] n (fun gk av bv wr => ∃ (A : Nat) (aa : Option Addr) (ca : Nat) (bb : Option Addr) (cb : Nat), av = .slice aa (dig 18446744073709551616 A).length ca ∧ bv = .slice bb (dig 18446744073709551616 gk).length cb ∧ Hid (NAt wr wr.heap.size aa ca A) ∧ Hid (NAt wr wr.heap.size bb cb gk) ∧ Hid (Nat.gcd A gk = Nat.gcd m n) ∧ Hid ((dig 18446744073709551616 A).length ≤ 400000) ∧ Hid ((dig 18446744073709551616 gk).length ≤ 400000) ∧ Hid (Below w.heap.size w wr))
  case atStart => exact ⟨m, a, c, b, d, rfl, rfl, hHa, hHb, Lib.hid rfl, hHm, hHn, Lib.hid (Below.refl _ _)⟩
  case round =>
    obtain ⟨A, aa, ca, bb, cb, rfl, rfl, HA, HB, HG, HLA, HLB, HW⟩ := hrel
    obtain ⟨wi, rfl⟩ : ∃ wi : World, wi = wr := ⟨_, rfl⟩
    clear hHa hHb hHm hHn
    by_cases h0 : gk = 0
    · subst h0
      have hg := HG.out
      rw [Nat.gcd_zero_right] at hg
      have HGG := Lib.hid hg
      have hl0 : ¬ (0 : Int) < ((dig 18446744073709551616 0).length : Int) := by rw [dig_zero]; decide
      clear hg
      go_wp2
      go_ret
      exact ⟨aa, ca, by rw [← HGG.out]; rfl, by rw [← HGG.out]; exact HA.out, HW.out⟩
    · have hl : (0 : Int) < ((dig 18446744073709551616 gk).length : Int) := by have := (dig_len_zero (B := 18446744073709551616) (m := gk) (by decide)); omega
      have HD := Lib.hid (ndivide_any aa bb ca cb A gk wi HA.out HB.out HLA.out HLB.out (by omega))
      have HLT := Lib.hid (Nat.mod_lt A (show 0 < gk by omega))
      clear h0
      go_wp2_with (go_at_call 59; refine HD.out.mono ?_; rintro e w4 ⟨a4, c4, a5, c5, rfl, hN4, hN5, hb4⟩; have HN5 := Lib.hid hN5; have HB4 := Lib.hid hb4; clear hN4 hN5 hb4)
      go_roundg (A % gk)
      case measure => exact HLT.out
      case rel => exact ⟨gk, bb, cb, a5, c5, rfl, rfl, Lib.hid (HB.out.next HB4.out), HN5, Lib.hid (by rw [← HG.out, Nat.gcd_comm A gk, Nat.gcd_rec gk A, Nat.gcd_comm]), HLB, Lib.hid (Nat.le_trans (dig_len_mono (by decide) (Nat.mod_le A gk)) HLA.out), Lib.hid (HW.out.trans (HB4.out.mono HW.out.size))⟩
/-- Shifted to the right, rounded down, by sizes. -/
theorem right_pos {x : Int} {p : Nat} (hp : 0 < p) (h : ¬ x < 0) : sgnZ (decide (x < 0)) (x.natAbs / p) = x / (p : Int) := by
  obtain ⟨m, rfl⟩ := Int.eq_ofNat_of_zero_le (show 0 ≤ x by omega)
  rw [decide_eq_false h]
  unfold sgnZ
  rw [if_neg (by decide)]
  simp
theorem right_negE {x : Int} {p : Nat} (hp : 0 < p) (h : x < 0) (he : x.natAbs / p * p = x.natAbs) : sgnZ (decide (x < 0)) (x.natAbs / p) = x / (p : Int) := by
  obtain ⟨m, hm⟩ : ∃ m : Nat, x.natAbs = m := ⟨_, rfl⟩
  have ex : x = -(m : Int) := by omega
  rw [hm] at he ⊢
  rw [decide_eq_true h]
  unfold sgnZ
  rw [if_pos rfl]
  obtain ⟨q, hq⟩ : ∃ q, m / p = q := ⟨_, rfl⟩
  rw [hq] at he ⊢
  have e2 : x = (p : Int) * (-(q : Int)) := by rw [ex, ← he, Int.natCast_mul, Int.mul_neg, Int.mul_comm]
  rw [e2, Int.mul_ediv_cancel_left _ (by omega)]
theorem right_neg {x : Int} {p : Nat} (hp : 0 < p) (h : x < 0) (he : x.natAbs / p * p ≠ x.natAbs) : sgnZ (decide (x < 0)) (x.natAbs / p + 1) = x / (p : Int) := by
  obtain ⟨m, hm⟩ : ∃ m : Nat, x.natAbs = m := ⟨_, rfl⟩
  have ex : x = -(m : Int) := by omega
  rw [hm] at he ⊢
  rw [decide_eq_true h]
  unfold sgnZ
  rw [if_pos rfl]
  have h1 := Nat.div_add_mod m p
  have h2 := Nat.mod_lt m hp
  obtain ⟨q, hq⟩ : ∃ q, m / p = q := ⟨_, rfl⟩
  obtain ⟨r, hr⟩ : ∃ r, m % p = r := ⟨_, rfl⟩
  rw [hq] at he h1 ⊢
  rw [hr] at h1 h2
  have hr0 : 0 < r := by
    refine Classical.byContradiction fun hc => he ?_
    rw [Nat.mul_comm]
    omega
  have e2 : x = (p : Int) * (-((q : Int) + 1)) + ((p : Int) - (r : Int)) := by
    have e3 : (m : Int) = (p : Int) * (q : Int) + (r : Int) := by rw [← h1, Int.natCast_add, Int.natCast_mul]
    rw [ex, e3, Int.mul_neg, Int.mul_add, Int.mul_one]
    omega
  rw [e2, Int.add_comm, Int.add_mul_ediv_left _ _ (by omega : (p : Int) ≠ 0), Int.ediv_eq_zero_of_lt (by omega) (by omega)]
  omega
def IsN (m : Nat) (u : Value) (w : World) : Prop := ∃ a c, u = .slice a (dig 18446744073709551616 m).length c ∧ NAt w w.heap.size a c m
theorem isN_carries (m : Nat) : Carries (IsN m) := fun _ _ _ ⟨a, c, h, hN⟩ hb => ⟨a, c, h, hN.next hb⟩
theorem cellB {W w1 : World} {b o : Nat} {v : Value} (hb : Below W.heap.size W w1) (hc : W.cell? ⟨b, o, none⟩ = some v) (hlt : b < W.heap.size) : w1.cell? ⟨b, o, none⟩ = some v := (hb.cell (p := ⟨b, o, none⟩) hlt).trans hc
set_option maxHeartbeats 8000000 in
set_option maxRecDepth 100000 in
theorem zright_any (a : Option Addr) (c n : Nat) (x z : Int) (w : World) (h : NAt w w.heap.size a c x.natAbs) (hx : (dig 18446744073709551616 x.natAbs).length ≤ 1000000) (hn : n ≤ 60000000) (hz : x / ((2 ^ n : Nat) : Int) = z) :
    Calls Tryz.prog 82 #[.agg #[.bool (decide (x < 0)), .slice a (dig 18446744073709551616 x.natAbs).length c], .int .i64 n] w (RetZ w z) := by
  have hDN := fun w' (hb : Below w.heap.size w w') => Lib.hid (down2_any a c x.natAbs n w' (h.next hb) hx hn)
  have HH := Lib.hid h
  obtain ⟨X, hX⟩ : ∃ X, dig 18446744073709551616 x.natAbs = X := ⟨_, rfl⟩
  have HXE := Lib.hid hX
  obtain ⟨m, hm⟩ : ∃ m, x.natAbs / 2 ^ n = m := ⟨_, rfl⟩
  have hp : 0 < 2 ^ n := Nat.pow_pos (by decide)
  have HMW := Lib.hid (Nat.le_trans (dig_len_mono (by decide) (by rw [← hm]; exact Nat.div_le_self x.natAbs (2 ^ n))) hx : (dig 18446744073709551616 m).length ≤ 1000000)
  rw [hX] at hDN ⊢
  rw [hm] at hDN
  by_cases hs : x < 0
  · have ez := fun he => right_negE hp hs he
    have en := fun he => right_neg hp hs he
    rw [hm, hz] at ez
    rw [hm, hz] at en
    have hUP := fun a5 c5 w5 (h5 : NAt w5 w5.heap.size a5 c5 m) => Lib.hid (up2_any a5 c5 m n w5 h5 HMW.out hn)
    have hCM := fun a6 c6 (w6 : World) (h6 : NAt w6 w6.heap.size a6 c6 (m * 2 ^ n)) (hb : Below w.heap.size w w6) => Lib.hid (ncmp_any a6 a c6 c (m * 2 ^ n) x.natAbs w6.heap.size w6 h6 (HH.out.next hb))
    rw [hX] at hCM
    obtain ⟨C, hC⟩ : ∃ C, cmpN (m * 2 ^ n) x.natAbs = C := ⟨_, rfl⟩
    rw [hC] at hCM
    rw [decide_eq_true hs]
    rw [decide_eq_true hs] at ez en
    have HC := Lib.hid hC
    have HHX := HH
    clear h hm hC hX hs
    as_aux_lemma =>
      go_enter Tryz.func82, Tryz.ntmps82
      go_upto_region 2 with (go_at_call 87; refine (hDN _ (((Below.refl _ _).alloc (Nat.le_refl _) _).alloc (by simp) _)).out.mono ?_; rintro e w5 ⟨a5, c5, rfl, hN5, hb5⟩; have X5 := NBox2.below (b := w.heap.size + 1) (v0 := .bool false) (v1 := .slice none 0 0) (by constructor <;> go_simp) hb5 (by first | omega | (simp <;> omega)); have Y5 := NBox2.below (b := w.heap.size) (v0 := .bool (true)) (v1 := .slice a X.length c) (by constructor <;> go_simp) hb5 (by first | omega | (simp <;> omega)); have hs5 := hb5.size; (try simp at hs5); have HB5 : Hid (Below w.heap.size w w5) := Lib.hid (Below.trans (by (repeat' (first | exact Below.refl _ _ | refine Below.drew ?_ | refine Below.setCell ?_ (by first | omega | (simp <;> omega)) _ | refine Below.alloc ?_ (by first | omega | (simp <;> omega)) _))) (hb5.mono (by first | omega | (simp <;> omega)))); have HN5 := Lib.hid hN5; have HX5 := Lib.hid X5; have HY5 := Lib.hid Y5; obtain ⟨x0, x1, x2, x3⟩ := X5; obtain ⟨y0, y1, y2, y3⟩ := Y5; clear hN5 hb5)
      obtain ⟨W2, rfl⟩ : ∃ W2 : World, W2 = w5 := ⟨_, rfl⟩
      clear x0 x1 x2 x3 y0 y1 y2 y3
      have hpt : w.heap.size + 1 < W2.heap.size := by omega
      refine wp_region_parts2 (w := W2) 11 0 none [] [(fun u _ => u = .pointer (some ⟨w.heap.size, 0, none⟩)), (fun u _ => u = .bool true), (fun u _ => u = .bool true), (fun u _ => u = .slice a5 (dig 18446744073709551616 m).length c5), (fun u _ => u = .int .i64 n), ((IsN (m * 2 ^ n))), (fun u _ => u = .pointer (some ⟨w.heap.size, 1, none⟩)), (fun u _ => u = .slice a X.length c), (fun u _ => u = .int .i64 C), (fun u _ => u = .bool (C != 0)), (fun u _ => u = .bool (C != 0))] [some 10, some 11, some 12, some 13, some 14, some 15, some 16, some 17, some 18, some 19, some 20] #[true, true, true, true, true, true, true, true, true, true, true] #[true, true, true, true, true, true, true, true, true, true, true] (by kernel_rfl) rfl (by kernel_rfl) (by kernel_rfl) rfl (by kernel_rfl) (by kernel_rfl) (.cons (carries_eq _) (.cons (carries_eq _) (.cons (carries_eq _) (.cons (carries_eq _) (.cons (carries_eq _) (.cons (isN_carries _) (.cons (carries_eq _) (.cons (carries_eq _) (.cons (carries_eq _) (.cons (carries_eq _) (.cons (carries_eq _) .nil))))))))))) (fun vs b hvl hvb => ?_)
      obtain ⟨x0, x1, x2, x3, x4, x5, x6, x7, x8, x9, x10, rfl⟩ : ∃ x0 x1 x2 x3 x4 x5 x6 x7 x8 x9 x10, vs = [x0, x1, x2, x3, x4, x5, x6, x7, x8, x9, x10] := lst11 hvl
      clear hvl
      simp only [putAll, Act.put, List.setIfInBounds_toArray, List.set_cons_zero, List.set_cons_succ] at hvb
      subst hvb
      refine ⟨(.snoc (.snoc (.snoc (.snoc (.snoc (.snoc (.snoc (.snoc (.snoc (.snoc (.snoc .zero (PartOb.intro (d := (some 10)) (r := fun u _ => u = .pointer (some ⟨w.heap.size, 0, none⟩)) rfl rfl rfl rfl ?po2x0)) (PartOb.intro (d := (some 11)) (r := fun u _ => u = .bool true) rfl rfl rfl rfl ?po2x1)) (PartOb.intro (d := (some 12)) (r := fun u _ => u = .bool true) rfl rfl rfl rfl ?po2x2)) (PartOb.intro (d := (some 13)) (r := fun u _ => u = .slice a5 (dig 18446744073709551616 m).length c5) rfl rfl rfl rfl ?po2x3)) (PartOb.intro (d := (some 14)) (r := fun u _ => u = .int .i64 n) rfl rfl rfl rfl ?po2x4)) (PartOb.intro (d := (some 15)) (r := (IsN (m * 2 ^ n))) rfl rfl rfl rfl ?po2x5)) (PartOb.intro (d := (some 16)) (r := fun u _ => u = .pointer (some ⟨w.heap.size, 1, none⟩)) rfl rfl rfl rfl ?po2x6)) (PartOb.intro (d := (some 17)) (r := fun u _ => u = .slice a X.length c) rfl rfl rfl rfl ?po2x7)) (PartOb.intro (d := (some 18)) (r := fun u _ => u = .int .i64 C) rfl rfl rfl rfl ?po2x8)) (PartOb.intro (d := (some 19)) (r := fun u _ => u = .bool (C != 0)) rfl rfl rfl rfl ?po2x9)) (PartOb.intro (d := (some 20)) (r := fun u _ => u = .bool (C != 0)) rfl rfl rfl rfl ?po2x10)), ?pend2, ?pfl2⟩
      case po2x0 =>
        intro w1 hb1 hd KK hK
        clear hd
        simp only [Act.put, List.setIfInBounds_toArray, List.set_cons_zero, List.set_cons_succ] at hK
        go_simp
        exact hK.out _ _ (Below.refl _ _) rfl
      case po2x1 =>
        intro w1 hb1 hd KK hK
        have d0 : x0 = .pointer (some ⟨w.heap.size, 0, none⟩) := hd 0 (by kernel_rfl)
        clear hd
        subst d0
        have hc := cellB hb1 HY5.out.c0 (by omega)
        simp only [Act.put, List.setIfInBounds_toArray, List.set_cons_zero, List.set_cons_succ] at hK
        go_simp
        exact hK.out _ _ (Below.refl _ _) rfl
      case po2x2 =>
        intro w1 hb1 hd KK hK
        have d1 : x1 = .bool true := hd 1 (by kernel_rfl)
        clear hd
        subst d1
        simp only [Act.put, List.setIfInBounds_toArray, List.set_cons_zero, List.set_cons_succ] at hK
        go_simp
        exact hK.out _ _ (Below.refl _ _) rfl
      case po2x3 =>
        intro w1 hb1 hd KK hK
        have d2 : x2 = .bool true := hd 2 (by kernel_rfl)
        clear hd
        subst d2
        simp only [Act.put, List.setIfInBounds_toArray, List.set_cons_zero, List.set_cons_succ] at hK
        go_simp
        exact hK.out _ _ (Below.refl _ _) rfl
      case po2x4 =>
        intro w1 hb1 hd KK hK
        have d2 : x2 = .bool true := hd 2 (by kernel_rfl)
        clear hd
        subst d2
        simp only [Act.put, List.setIfInBounds_toArray, List.set_cons_zero, List.set_cons_succ] at hK
        go_simp
        exact hK.out _ _ (Below.refl _ _) rfl
      case po2x5 =>
        intro w1 hb1 hd KK hK
        have d2 : x2 = .bool true := hd 2 (by kernel_rfl)
        have d3 : x3 = .slice a5 (dig 18446744073709551616 m).length c5 := hd 3 (by kernel_rfl)
        have d4 : x4 = .int .i64 n := hd 4 (by kernel_rfl)
        clear hd
        subst d2
        subst d3
        subst d4
        simp only [Act.put, List.setIfInBounds_toArray, List.set_cons_zero, List.set_cons_succ] at hK
        go_simp
        go_at_call 27
        refine (hUP a5 c5 w1 (HN5.out.next hb1)).out.mono ?_
        rintro e w2 ⟨a2, c2, rfl, hN2, hb2⟩
        (try go_wp2_with fail)
        exact hK.out _ _ hb2 ⟨a2, c2, rfl, hN2⟩
      case po2x6 =>
        intro w1 hb1 hd KK hK
        have d2 : x2 = .bool true := hd 2 (by kernel_rfl)
        clear hd
        subst d2
        simp only [Act.put, List.setIfInBounds_toArray, List.set_cons_zero, List.set_cons_succ] at hK
        go_simp
        exact hK.out _ _ (Below.refl _ _) rfl
      case po2x7 =>
        intro w1 hb1 hd KK hK
        have d2 : x2 = .bool true := hd 2 (by kernel_rfl)
        have d6 : x6 = .pointer (some ⟨w.heap.size, 1, none⟩) := hd 6 (by kernel_rfl)
        clear hd
        subst d2
        subst d6
        have hc := cellB hb1 HY5.out.c1 (by omega)
        simp only [Act.put, List.setIfInBounds_toArray, List.set_cons_zero, List.set_cons_succ] at hK
        go_simp
        exact hK.out _ _ (Below.refl _ _) rfl
      case po2x8 =>
        intro w1 hb1 hd KK hK
        have d2 : x2 = .bool true := hd 2 (by kernel_rfl)
        have d5 : (IsN (m * 2 ^ n)) x5 w1 := hd 5 (by kernel_rfl)
        have d7 : x7 = .slice a X.length c := hd 7 (by kernel_rfl)
        clear hd
        subst d2
        obtain ⟨a7, e7, rfl, hN5⟩ := d5
        subst d7
        simp only [Act.put, List.setIfInBounds_toArray, List.set_cons_zero, List.set_cons_succ] at hK
        go_simp
        go_at_call 53
        refine (hCM _ _ w1 hN5 (HB5.out.trans (hb1.mono HB5.out.size))).out.mono ?_
        rintro e w2 ⟨rfl, q, rfl⟩
        (try go_wp2_with fail)
        exact hK.out _ _ (below_drewN0 _ _) rfl
      case po2x9 =>
        intro w1 hb1 hd KK hK
        have d2 : x2 = .bool true := hd 2 (by kernel_rfl)
        have d8 : x8 = .int .i64 C := hd 8 (by kernel_rfl)
        clear hd
        subst d2
        subst d8
        simp only [Act.put, List.setIfInBounds_toArray, List.set_cons_zero, List.set_cons_succ] at hK
        go_simp
        exact hK.out _ _ (Below.refl _ _) rfl
      case po2x10 =>
        intro w1 hb1 hd KK hK
        have d2 : x2 = .bool true := hd 2 (by kernel_rfl)
        have d9 : x9 = .bool (C != 0) := hd 9 (by kernel_rfl)
        clear hd
        subst d2
        subst d9
        simp only [Act.put, List.setIfInBounds_toArray, List.set_cons_zero, List.set_cons_succ] at hK
        go_simp
        exact hK.out _ _ (Below.refl _ _) rfl
      case pfl2 => (intro f hf; cases hf)
      case pend2 =>
      intro w1 hb1 hR hD
      have d0 : x0 = .pointer (some ⟨w.heap.size, 0, none⟩) := hR 0 (by decide)
      have d1 : x1 = .bool true := hR 1 (by decide)
      have d2 : x2 = .bool true := hR 2 (by decide)
      have d3 : x3 = .slice a5 (dig 18446744073709551616 m).length c5 := hR 3 (by decide)
      have d4 : x4 = .int .i64 n := hR 4 (by decide)
      have d5 : (IsN (m * 2 ^ n)) x5 w1 := hR 5 (by decide)
      have d6 : x6 = .pointer (some ⟨w.heap.size, 1, none⟩) := hR 6 (by decide)
      have d7 : x7 = .slice a X.length c := hR 7 (by decide)
      have d8 : x8 = .int .i64 C := hR 8 (by decide)
      have d9 : x9 = .bool (C != 0) := hR 9 (by decide)
      have d10 : x10 = .bool (C != 0) := hR 10 (by decide)
      clear hR hD
      subst d0
      subst d1
      subst d2
      subst d3
      subst d4
      obtain ⟨a7, e7, rfl, hN5⟩ := d5
      subst d6
      subst d7
      subst d8
      subst d9
      subst d10
      refine wpAny_done (by kernel_rfl) ?_ _
      have X6 := HX5.out.below hb1 (by omega)
      have Y6 := HY5.out.below hb1 (by omega)
      have HB6 : Hid (Below w.heap.size w w1) := Lib.hid (HB5.out.trans (hb1.mono HB5.out.size))
      have HN6 := Lib.hid (HN5.out.next hb1)
      have hs6 := hb1.size
      clear HN5 HX5 HY5 hb1 hN5 HB5
      have HXX := Lib.hid X6
      have HYY := Lib.hid Y6
      obtain ⟨x0, x1, x2, x3⟩ := X6
      obtain ⟨y0, y1, y2, y3⟩ := Y6
      by_cases hC0 : C = 0
      · as_aux_lemma =>
          have he : m * 2 ^ n = x.natAbs := by
            have hc := HC.out
            rw [hC0] at hc
            unfold cmpN at hc
            split at hc
            · cases hc
            · split at hc
              · cases hc
              · omega
          have HEZ := Lib.hid (ez he)
          have HBW := HB6
          clear HB6 ez en he
          have HN7 := HN6
          clear HN6
          subst hC0
          go_wp2_with (go_at_call 48; have HM := Lib.hid (made_any true _ _ _ _ HN7.out); rw [HEZ.out] at HM; refine HM.out.mono ?_; rintro e w8 ⟨a6, c6, rfl, hN8, hb8⟩; have HN6 := Lib.hid hN8; have X8 := NBox2.below (b := w.heap.size + 1) (v0 := .bool false) (v1 := .slice none 0 0) ⟨x0, x1, x2, x3⟩ hb8 (by first | omega | (simp <;> omega)); have HX6 := Lib.hid X8; have HB6 := Lib.hid (HBW.out.trans (hb8.mono HBW.out.size)); clear x0 x1 x2 x3; obtain ⟨x0, x1, x2, x3⟩ := X8; have hs8 := hb8.size; clear hN8 hb8)
          refine bodyPost_ret (v := .agg #[.bool (decide ((z) < 0)), .slice a6 (dig 18446744073709551616 (z).natAbs).length c6]) (by rw [nres_c1 rfl]; go_simp) rfl ?_
          exact retZ_box (by omega) HN6.out HX6.out (by intro z h; cases h) (by intro z h; cases h) HB6.out _ _
      · as_aux_lemma =>
          have he : m * 2 ^ n ≠ x.natAbs := fun e => hC0 (by rw [← HC.out, e]; exact cmpN_eq _)
          have HEZ := Lib.hid (en he)
          have hCb : (C != 0) = true := by simp; exact hC0
          have HOF := fun w => Lib.hid (nof_any 1 (by decide) w)
          have HNP := fun a c w h1 h2 => Lib.hid (nplus_any a5 a c5 c m 1 w h1 h2 HMW.out (by decide))
          clear ez en he HC
          go_wp2_with (first | (go_at_call 28; refine (HOF _).out.mono ?_; rintro e w6 ⟨a7, c7, rfl, hN7, hb6⟩; have HN7 := Lib.hid hN7; have X6 := NBox2.below (b := w.heap.size + 1) (v0 := .bool false) (v1 := .slice none 0 0) ⟨x0, x1, x2, x3⟩ hb6 (by first | omega | (simp <;> omega)); have Y6 := NBox2.below (b := w.heap.size) (v0 := .bool (true)) (v1 := .slice a X.length c) ⟨y0, y1, y2, y3⟩ hb6 (by first | omega | (simp <;> omega)); clear x0 x1 x2 x3 y0 y1 y2 y3; obtain ⟨x0, x1, x2, x3⟩ := X6; obtain ⟨y0, y1, y2, y3⟩ := Y6; have hs7 := hb6.size; have HB7 : Hid (Below w.heap.size w w6) := Lib.hid (HB6.out.trans (hb6.mono HB6.out.size)); have HNm := Lib.hid (HN6.out.next hb6); clear hN7 hb6) | (go_at_call 52; refine (HNP _ _ _ HNm.out HN7.out).out.mono ?_; rintro e w7 ⟨a8, c8, rfl, hN8, hb7⟩; have HN8 := Lib.hid hN8; have X7 := NBox2.below (b := w.heap.size + 1) (v0 := .bool false) (v1 := .slice none 0 0) ⟨x0, x1, x2, x3⟩ hb7 (by first | omega | (simp <;> omega)); have Y7 := NBox2.below (b := w.heap.size) (v0 := .bool (true)) (v1 := .slice a X.length c) ⟨y0, y1, y2, y3⟩ hb7 (by first | omega | (simp <;> omega)); clear x0 x1 x2 x3 y0 y1 y2 y3; obtain ⟨x0, x1, x2, x3⟩ := X7; obtain ⟨y0, y1, y2, y3⟩ := Y7; have hs9 := hb7.size; have HBW : Hid (Below w.heap.size w w7) := Lib.hid (HB7.out.trans (hb7.mono HB7.out.size)); clear hN8 hb7) | (go_at_call 48; have HM := Lib.hid (made_any true _ _ _ _ HN8.out); rw [HEZ.out] at HM; refine HM.out.mono ?_; rintro e w8 ⟨a6, c6, rfl, hN8, hb8⟩; have HN6 := Lib.hid hN8; have X8 := NBox2.below (b := w.heap.size + 1) (v0 := .bool false) (v1 := .slice none 0 0) ⟨x0, x1, x2, x3⟩ hb8 (by first | omega | (simp <;> omega)); have HX6 := Lib.hid X8; have HB6 := Lib.hid (HBW.out.trans (hb8.mono HBW.out.size)); clear x0 x1 x2 x3; obtain ⟨x0, x1, x2, x3⟩ := X8; have hs8 := hb8.size; clear hN8 hb8))
          refine bodyPost_ret (v := .agg #[.bool (decide ((z) < 0)), .slice a6 (dig 18446744073709551616 (z).natAbs).length c6]) (by rw [nres_c1 rfl]; go_simp) rfl ?_
          exact retZ_box (by omega) HN6.out HX6.out (by intro z h; cases h) (by intro z h; cases h) HB6.out _ _
  · have ez := right_pos hp hs
    rw [hm, hz] at ez
    rw [decide_eq_false hs]
    rw [decide_eq_false hs] at ez
    have HEZ := Lib.hid ez
    clear h hm hX hs ez
    as_aux_lemma =>
      go_enter Tryz.func82, Tryz.ntmps82
      go_upto_region 2 with (go_at_call 87; refine (hDN _ (((Below.refl _ _).alloc (Nat.le_refl _) _).alloc (by simp) _)).out.mono ?_; rintro e w5 ⟨a5, c5, rfl, hN5, hb5⟩; have X5 := NBox2.below (b := w.heap.size + 1) (v0 := .bool false) (v1 := .slice none 0 0) (by constructor <;> go_simp) hb5 (by first | omega | (simp <;> omega)); have Y5 := NBox2.below (b := w.heap.size) (v0 := .bool (false)) (v1 := .slice a X.length c) (by constructor <;> go_simp) hb5 (by first | omega | (simp <;> omega)); have hs5 := hb5.size; (try simp at hs5); have HB5 : Hid (Below w.heap.size w w5) := Lib.hid (Below.trans (by (repeat' (first | exact Below.refl _ _ | refine Below.drew ?_ | refine Below.setCell ?_ (by first | omega | (simp <;> omega)) _ | refine Below.alloc ?_ (by first | omega | (simp <;> omega)) _))) (hb5.mono (by first | omega | (simp <;> omega)))); have HN5 := Lib.hid hN5; have HX5 := Lib.hid X5; have HY5 := Lib.hid Y5; obtain ⟨x0, x1, x2, x3⟩ := X5; obtain ⟨y0, y1, y2, y3⟩ := Y5; clear hN5 hb5)
      obtain ⟨W2, rfl⟩ : ∃ W2 : World, W2 = w5 := ⟨_, rfl⟩
      clear x0 x1 x2 x3 y0 y1 y2 y3
      have hpt : w.heap.size + 1 < W2.heap.size := by omega
      refine wp_region_parts2 (w := W2) 11 0 none [] [(fun u _ => u = .pointer (some ⟨w.heap.size, 0, none⟩)), (fun u _ => u = .bool false), (fun u _ => u = .bool false), (fun u _ => u = undef), (fun u _ => u = undef), (fun u _ => u = undef), (fun u _ => u = undef), (fun u _ => u = undef), (fun u _ => u = undef), (fun u _ => u = undef), (fun u _ => u = .bool false)] [some 10, some 11, some 12, some 13, some 14, some 15, some 16, some 17, some 18, some 19, some 20] #[true, true, true, true, true, true, true, true, true, true, true] #[true, true, true, true, true, true, true, true, true, true, true] (by kernel_rfl) rfl (by kernel_rfl) (by kernel_rfl) rfl (by kernel_rfl) (by kernel_rfl) (.cons (carries_eq _) (.cons (carries_eq _) (.cons (carries_eq _) (.cons (carries_eq _) (.cons (carries_eq _) (.cons (carries_eq _) (.cons (carries_eq _) (.cons (carries_eq _) (.cons (carries_eq _) (.cons (carries_eq _) (.cons (carries_eq _) .nil))))))))))) (fun vs b hvl hvb => ?_)
      obtain ⟨x0, x1, x2, x3, x4, x5, x6, x7, x8, x9, x10, rfl⟩ : ∃ x0 x1 x2 x3 x4 x5 x6 x7 x8 x9 x10, vs = [x0, x1, x2, x3, x4, x5, x6, x7, x8, x9, x10] := lst11 hvl
      clear hvl
      simp only [putAll, Act.put, List.setIfInBounds_toArray, List.set_cons_zero, List.set_cons_succ] at hvb
      subst hvb
      refine ⟨(.snoc (.snoc (.snoc (.snoc (.snoc (.snoc (.snoc (.snoc (.snoc (.snoc (.snoc .zero (PartOb.intro (d := (some 10)) (r := fun u _ => u = .pointer (some ⟨w.heap.size, 0, none⟩)) rfl rfl rfl rfl ?po2x0)) (PartOb.intro (d := (some 11)) (r := fun u _ => u = .bool false) rfl rfl rfl rfl ?po2x1)) (PartOb.intro (d := (some 12)) (r := fun u _ => u = .bool false) rfl rfl rfl rfl ?po2x2)) (PartOb.intro (d := (some 13)) (r := fun u _ => u = undef) rfl rfl rfl rfl ?po2x3)) (PartOb.intro (d := (some 14)) (r := fun u _ => u = undef) rfl rfl rfl rfl ?po2x4)) (PartOb.intro (d := (some 15)) (r := fun u _ => u = undef) rfl rfl rfl rfl ?po2x5)) (PartOb.intro (d := (some 16)) (r := fun u _ => u = undef) rfl rfl rfl rfl ?po2x6)) (PartOb.intro (d := (some 17)) (r := fun u _ => u = undef) rfl rfl rfl rfl ?po2x7)) (PartOb.intro (d := (some 18)) (r := fun u _ => u = undef) rfl rfl rfl rfl ?po2x8)) (PartOb.intro (d := (some 19)) (r := fun u _ => u = undef) rfl rfl rfl rfl ?po2x9)) (PartOb.intro (d := (some 20)) (r := fun u _ => u = .bool false) rfl rfl rfl rfl ?po2x10)), ?pend2, ?pfl2⟩
      case po2x0 =>
        intro w1 hb1 hd KK hK
        clear hd
        simp only [Act.put, List.setIfInBounds_toArray, List.set_cons_zero, List.set_cons_succ] at hK
        go_simp
        exact hK.out _ _ (Below.refl _ _) rfl
      case po2x1 =>
        intro w1 hb1 hd KK hK
        have d0 : x0 = .pointer (some ⟨w.heap.size, 0, none⟩) := hd 0 (by kernel_rfl)
        clear hd
        subst d0
        have hc := cellB hb1 HY5.out.c0 (by omega)
        simp only [Act.put, List.setIfInBounds_toArray, List.set_cons_zero, List.set_cons_succ] at hK
        go_simp
        exact hK.out _ _ (Below.refl _ _) rfl
      case po2x2 =>
        intro w1 hb1 hd KK hK
        have d1 : x1 = .bool false := hd 1 (by kernel_rfl)
        clear hd
        subst d1
        simp only [Act.put, List.setIfInBounds_toArray, List.set_cons_zero, List.set_cons_succ] at hK
        go_simp
        exact hK.out _ _ (Below.refl _ _) rfl
      case po2x3 =>
        intro w1 hb1 hd KK hK
        have d2 : x2 = .bool false := hd 2 (by kernel_rfl)
        clear hd
        subst d2
        simp only [Act.put, List.setIfInBounds_toArray, List.set_cons_zero, List.set_cons_succ] at hK
        go_simp
        exact hK.out _ _ (Below.refl _ _) rfl
      case po2x4 =>
        intro w1 hb1 hd KK hK
        have d2 : x2 = .bool false := hd 2 (by kernel_rfl)
        clear hd
        subst d2
        simp only [Act.put, List.setIfInBounds_toArray, List.set_cons_zero, List.set_cons_succ] at hK
        go_simp
        exact hK.out _ _ (Below.refl _ _) rfl
      case po2x5 =>
        intro w1 hb1 hd KK hK
        have d2 : x2 = .bool false := hd 2 (by kernel_rfl)
        have d3 : x3 = undef := hd 3 (by kernel_rfl)
        have d4 : x4 = undef := hd 4 (by kernel_rfl)
        clear hd
        subst d2
        subst d3
        subst d4
        simp only [Act.put, List.setIfInBounds_toArray, List.set_cons_zero, List.set_cons_succ] at hK
        go_simp
        exact hK.out _ _ (Below.refl _ _) rfl
      case po2x6 =>
        intro w1 hb1 hd KK hK
        have d2 : x2 = .bool false := hd 2 (by kernel_rfl)
        clear hd
        subst d2
        simp only [Act.put, List.setIfInBounds_toArray, List.set_cons_zero, List.set_cons_succ] at hK
        go_simp
        exact hK.out _ _ (Below.refl _ _) rfl
      case po2x7 =>
        intro w1 hb1 hd KK hK
        have d2 : x2 = .bool false := hd 2 (by kernel_rfl)
        have d6 : x6 = undef := hd 6 (by kernel_rfl)
        clear hd
        subst d2
        subst d6
        simp only [Act.put, List.setIfInBounds_toArray, List.set_cons_zero, List.set_cons_succ] at hK
        go_simp
        exact hK.out _ _ (Below.refl _ _) rfl
      case po2x8 =>
        intro w1 hb1 hd KK hK
        have d2 : x2 = .bool false := hd 2 (by kernel_rfl)
        have d5 : x5 = undef := hd 5 (by kernel_rfl)
        have d7 : x7 = undef := hd 7 (by kernel_rfl)
        clear hd
        subst d2
        subst d5
        subst d7
        simp only [Act.put, List.setIfInBounds_toArray, List.set_cons_zero, List.set_cons_succ] at hK
        go_simp
        exact hK.out _ _ (Below.refl _ _) rfl
      case po2x9 =>
        intro w1 hb1 hd KK hK
        have d2 : x2 = .bool false := hd 2 (by kernel_rfl)
        have d8 : x8 = undef := hd 8 (by kernel_rfl)
        clear hd
        subst d2
        subst d8
        simp only [Act.put, List.setIfInBounds_toArray, List.set_cons_zero, List.set_cons_succ] at hK
        go_simp
        exact hK.out _ _ (Below.refl _ _) rfl
      case po2x10 =>
        intro w1 hb1 hd KK hK
        have d2 : x2 = .bool false := hd 2 (by kernel_rfl)
        have d9 : x9 = undef := hd 9 (by kernel_rfl)
        clear hd
        subst d2
        subst d9
        simp only [Act.put, List.setIfInBounds_toArray, List.set_cons_zero, List.set_cons_succ] at hK
        go_simp
        exact hK.out _ _ (Below.refl _ _) rfl
      case pfl2 => (intro f hf; cases hf)
      case pend2 =>
      intro w1 hb1 hR hD
      have d0 : x0 = .pointer (some ⟨w.heap.size, 0, none⟩) := hR 0 (by decide)
      have d1 : x1 = .bool false := hR 1 (by decide)
      have d2 : x2 = .bool false := hR 2 (by decide)
      have d3 : x3 = undef := hR 3 (by decide)
      have d4 : x4 = undef := hR 4 (by decide)
      have d5 : x5 = undef := hR 5 (by decide)
      have d6 : x6 = undef := hR 6 (by decide)
      have d7 : x7 = undef := hR 7 (by decide)
      have d8 : x8 = undef := hR 8 (by decide)
      have d9 : x9 = undef := hR 9 (by decide)
      have d10 : x10 = .bool false := hR 10 (by decide)
      clear hR hD
      subst d0
      subst d1
      subst d2
      subst d3
      subst d4
      subst d5
      subst d6
      subst d7
      subst d8
      subst d9
      subst d10
      refine wpAny_done (by kernel_rfl) ?_ _
      have X6 := HX5.out.below hb1 (by omega)
      have Y6 := HY5.out.below hb1 (by omega)
      have HBW : Hid (Below w.heap.size w w1) := Lib.hid (HB5.out.trans (hb1.mono HB5.out.size))
      have HN7 := Lib.hid (HN5.out.next hb1)
      have hs6 := hb1.size
      clear HN5 HX5 HY5 hb1 HB5
      obtain ⟨x0, x1, x2, x3⟩ := X6
      obtain ⟨y0, y1, y2, y3⟩ := Y6
      go_wp2_with (go_at_call 48; have HM := Lib.hid (made_any false _ _ _ _ HN7.out); rw [HEZ.out] at HM; refine HM.out.mono ?_; rintro e w8 ⟨a6, c6, rfl, hN8, hb8⟩; have HN6 := Lib.hid hN8; have X8 := NBox2.below (b := w.heap.size + 1) (v0 := .bool false) (v1 := .slice none 0 0) ⟨x0, x1, x2, x3⟩ hb8 (by first | omega | (simp <;> omega)); have HX6 := Lib.hid X8; have HB6 := Lib.hid (HBW.out.trans (hb8.mono HBW.out.size)); clear x0 x1 x2 x3; obtain ⟨x0, x1, x2, x3⟩ := X8; have hs8 := hb8.size; clear hN8 hb8)
      refine bodyPost_ret (v := .agg #[.bool (decide ((z) < 0)), .slice a6 (dig 18446744073709551616 (z).natAbs).length c6]) (by rw [nres_c1 rfl]; go_simp) rfl ?_
      exact retZ_box (by omega) HN6.out HX6.out (by intro z h; cases h) (by intro z h; cases h) HB6.out _ _
end Go.Proofs.YtddhhfhammmaaaaGreat
