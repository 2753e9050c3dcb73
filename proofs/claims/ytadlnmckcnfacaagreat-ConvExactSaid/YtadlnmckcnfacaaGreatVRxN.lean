import Derived.Test.YtadlnmckcnfacaaGreatRows
import Derived.Test.YtadlnmckcnfacaaGreatVRxN2
import Derived.BigQuiet
import Derived.BigRegion
import Derived.ChangeKeysEq
import Derived.Deep.Cut
import Derived.Deep.CutBlock
import Derived.Deep.CutRange
import Derived.Deep.RegionHeld3
import Derived.Deep.RegionWith
import Derived.Laws.BitsAllLaws
import Derived.Laws.BitsLemmas
import Derived.Laws.Externs
import Derived.Lib.BitFns
import Derived.Lib.Slices
import Derived.Lib.Small
import Derived.Lib.Strings
import Derived.Lib.Walk
import Derived.Shelf.Spec.BitsCarry
import Derived.Sort.AtCall
import Derived.WalkMore
set_option linter.unusedVariables false
set_option linter.unusedSimpArgs false
namespace Go.Proofs.YtadlnmckcnfacaaGreat
open Go.RowKit Go.Rt
set_option maxRecDepth 100000
attribute [local go_sem] run_add run_subI
theorem pow_pos (n : Nat) : 1 ≤ (2 : Int) ^ n := by rw [← castPow]; have := Nat.two_pow_pos n; omega
end Go.Proofs.YtadlnmckcnfacaaGreat
namespace Go.Proofs.YtadlnmckcnfacaaGreat
open Go.RowKit Go.Rt
theorem sgnZ_shift (x : Int) (n : Nat) : sgnZ (decide (x < 0)) (x.natAbs * 2 ^ n) = x * ((2 ^ n : Nat) : Int) := by
 obtain ⟨m, hm⟩ : ∃ m : Nat, x.natAbs = m := ⟨_, rfl⟩
 unfold sgnZ
 rw [hm, Int.natCast_mul]
 by_cases h1 : x < 0
 ·have ex : x = -(m : Int) := by omega
  rw [decide_eq_true h1, if_pos rfl, ex, Int.neg_mul]
 ·have ex : x = (m : Int) := by omega
  rw [decide_eq_false h1, if_neg (by decide), ex]
set_option maxHeartbeats 4000000 in
set_option maxRecDepth 100000 in
theorem zleft_any (a : Option Addr) (c n : Nat) (x z : Int) (w : World) (h : NAt w w.heap.size a c x.natAbs) (hx : (dig 18446744073709551616 x.natAbs).length ≤ 1000000) (hn : n ≤ 60000000) (hz : x * ((2 ^ n : Nat) : Int) = z) :
  Calls Tryz.prog 92 #[.agg #[.bool (decide (x < 0)), .slice a (dig 18446744073709551616 x.natAbs).length c], .int .i64 n] w (RetZ w z) := by
 have HT := fun w' (hb : Below w.heap.size w w') => Lib.hid (up2_any a c x.natAbs n w' (h.next hb) hx hn)
 have EZ := Lib.hid (sgnZ_shift x n)
 rw [hz] at EZ
 clear h hz
 generalize decide (x < 0) = s at *
 generalize dig 18446744073709551616 x.natAbs = X at *
 go_enter Tryz.func92, Tryz.ntmps92
 go_upto_region 1 with fail
 refine wp_region_held_drew (S := (fun w' => Below w.heap.size w w' ∧ w'.cell? ⟨w.heap.size, 0, none⟩ = some (.bool s) ∧ w'.cell? ⟨w.heap.size, 1, none⟩ = some (.slice a X.length c) ∧ w'.cell? ⟨w.heap.size, 0, none⟩ = some (.bool s) ∧ w'.cell? ⟨w.heap.size, 1, none⟩ = some (.slice a X.length c))) (by kernel_rfl) (⟨(by (repeat' (first | exact Below.refl _ _ | refine belowDN ?_ _ | refine Below.drew ?_ | refine Below.setCell ?_ (by first | omega | (simp <;> omega)) _ | refine Below.alloc ?_ (by first | omega | (simp <;> omega)) _))), by go_simp, by go_simp, by go_simp, by go_simp⟩) (fun hHeld => ?_)
 refine takeY (i := 0) (dst := (some 5)) (v := ?_) rfl rfl (by kernel_rfl) (by kernel_rfl) (by kernel_rfl) (fun _ _ _ h => h) (by rfl) ?hy2w0 (by assumption) ?rest2w0
 case hy2w0 => (intro w hSw; (try dsimp only at hSw); go_simp; (try with_reducible rfl))
 refine takeY (i := 1) (dst := (some 6)) (v := ?_) rfl rfl (by kernel_rfl) (by kernel_rfl) (by kernel_rfl) (fun _ _ _ h => h) (by rfl) ?hy2w1 (by assumption) ?rest2w1
 case hy2w1 => (intro w hSw; (try dsimp only at hSw); go_simp; (try with_reducible rfl))
 refine takeY (i := 2) (dst := (some 7)) (v := ?_) rfl rfl (by kernel_rfl) (by kernel_rfl) (by kernel_rfl) (fun _ _ _ h => h) (by rfl) ?hy2w2 (by assumption) ?rest2w2
 case hy2w2 => (intro w hSw; (try dsimp only at hSw); go_simp; (try with_reducible rfl))
 refine takeY (i := 3) (dst := (some 8)) (v := ?_) rfl rfl (by kernel_rfl) (by kernel_rfl) (by kernel_rfl) (fun _ _ _ h => h) (by rfl) ?hy2w3 (by assumption) ?rest2w3
 case hy2w3 => (intro w hSw; (try dsimp only at hSw); go_simp; (try with_reducible rfl))
 refine takeY (i := 4) (dst := (some 9)) (v := ?_) rfl rfl (by kernel_rfl) (by kernel_rfl) (by kernel_rfl) (fun _ _ _ h => h) (by rfl) ?hy2w4 (by assumption) ?rest2w4
 case hy2w4 => (intro w hSw; (try dsimp only at hSw); go_simp; (try with_reducible rfl))
 refine wpAnyH_ready (rs := [5]) (by kernel_rfl) (by simp) (AllReadyH.cons rfl (fun K hK => ?_) AllReadyH.nil)
 go_simp
 (go_at_call 29; refine (HT _ (heldZ1 (by assumption))).out.mono ?_; rintro e w5 ⟨a5, c5, rfl, hN5, hb5⟩; have X5 := NBox2.below (b := w.heap.size + 1) (v0 := .bool false) (v1 := .slice none 0 0) (by constructor <;> go_simp) hb5 (by first | omega | (simp <;> omega)); have hs5 := hb5.size; (try simp at hs5); have HM := made_any s a5 c5 _ w5 hN5; rw [EZ.out] at HM; have HM2 := Lib.hid HM; clear HM hN5)
 (try go_wp2_with fail)
 refine hK.out _ _ (heldZ4 (by assumption) (by assumption)) (fun hHeld => ?_)
 clear hK K
 refine wpAnyH_ready (rs := [6]) (by kernel_rfl) (by simp) (AllReadyH.cons rfl (fun K hK => ?_) AllReadyH.nil)
 go_simp
 (go_at_call 55; refine HM2.out.mono ?_; rintro e w6 ⟨a6, c6, rfl, hN6, hb6⟩; have HN6 := Lib.hid hN6; have X6 := X5.below hb6 (by first | omega | (simp <;> omega)); have hs6 := hb6.size; clear hN6 X5; have HX6 := Lib.hid X6; obtain ⟨x0, x1, x2, x3⟩ := X6)
 (try go_wp2_with fail)
 refine hK.out _ _ (heldZ4 (by assumption) (by assumption)) (fun hHeld => ?_)
 clear hK K
 refine wpAnyH_ready (rs := [7]) (by kernel_rfl) (by simp) (AllReadyH.cons rfl (fun K hK => ?_) AllReadyH.nil)
 go_simp
 skip
 (try go_wp2_with fail)
 refine hK.out _ _ (heldZset (by assumption) (by omega) (by omega) (by omega)) (fun hHeld => ?_)
 clear hK K
 refine wpAnyH_done (by kernel_rfl) ?_ _
 go_wp2_with fail
 refine bodyPost_ret (v := .agg #[.bool (decide ((z) < 0)), .slice a6 (dig 18446744073709551616 (z).natAbs).length c6]) (by rw [nres_c1 rfl]; go_simp) rfl ?_
 exact retZ_box (by omega) HN6.out HX6.out (by intro z h; cases h) (by intro z h; cases h) (Below.trans (Below.trans (by (repeat' (first | exact Below.refl _ _ | refine belowDN ?_ _ | refine Below.drew ?_ | refine Below.setCell ?_ (by first | omega | (simp <;> omega)) _ | refine Below.alloc ?_ (by first | omega | (simp <;> omega)) _))) (hb5.mono (by first | omega | (simp <;> omega)))) (hb6.mono (by first | omega | (simp <;> omega)))) _ _
def sgnI (x : Int) : Int := if x < 0 then -1 else if x = 0 then 0 else 1
theorem abs_len0 (x : Int) : (dig 18446744073709551616 x.natAbs).length = 0 ↔ x = 0 := by rw [dig_len_zero (by decide)]; omega
theorem zsign_any (a : Option Addr) (c : Nat) (x : Int) (w : World) : Calls Tryz.prog 116 #[.agg #[.bool (decide (x < 0)), .slice a (dig 18446744073709551616 x.natAbs).length c]] w fun e w' => e = .returned (.int .i64 (sgnI x)) ∧ Below w.heap.size w w' := by
 have hl := abs_len0 x
 by_cases h : x < 0
 ·have HS := Lib.hid (show sgnI x = -1 by unfold sgnI; rw [if_pos h])
  rw [decide_eq_true h]
  clear h hl
  go_enter Tryz.func116, Tryz.ntmps116
  go_wp2
  go_ret
  exact ⟨by rw [HS.out]; rfl, (by (repeat' (first | exact Below.refl _ _ | refine Below.drew ?_ | refine Below.setCell ?_ (by first | omega | (simp <;> omega)) _ | refine Below.alloc ?_ (by first | omega | (simp <;> omega)) _)))⟩
 ·rw [decide_eq_false h]
  by_cases h0 : x = 0
  ·have HS := Lib.hid (show sgnI x = 0 by subst h0; rfl)
   have e1 : ¬ (0 : Int) < ((dig 18446744073709551616 x.natAbs).length : Int) := by have := hl.2 h0; omega
   clear h hl h0
   go_enter Tryz.func116, Tryz.ntmps116
   go_wp2
   go_ret
   exact ⟨by rw [HS.out]; rfl, (by (repeat' (first | exact Below.refl _ _ | refine Below.drew ?_ | refine Below.setCell ?_ (by first | omega | (simp <;> omega)) _ | refine Below.alloc ?_ (by first | omega | (simp <;> omega)) _)))⟩
  ·have HS := Lib.hid (show sgnI x = 1 by unfold sgnI; rw [if_neg h, if_neg h0])
   have e1 : (0 : Int) < ((dig 18446744073709551616 x.natAbs).length : Int) := by have := fun h => h0 (hl.1 h); omega
   clear h hl h0
   go_enter Tryz.func116, Tryz.ntmps116
   go_wp2
   go_ret
   exact ⟨by rw [HS.out]; rfl, (by (repeat' (first | exact Below.refl _ _ | refine Below.drew ?_ | refine Below.setCell ?_ (by first | omega | (simp <;> omega)) _ | refine Below.alloc ?_ (by first | omega | (simp <;> omega)) _)))⟩
theorem zzero_any (a : Option Addr) (c : Nat) (x : Int) (w : World) : Calls Tryz.prog 95 #[.agg #[.bool (decide (x < 0)), .slice a (dig 18446744073709551616 x.natAbs).length c]] w fun e w' => e = .returned (.bool (decide (x = 0))) ∧ Below w.heap.size w w' := by
 have hl := abs_len0 x
 have HS := Lib.hid (show (((dig 18446744073709551616 x.natAbs).length : Int) == 0) = decide (x = 0) by
  rw [Bool.eq_iff_iff]
  simp only [beq_iff_eq, decide_eq_true_eq]
  rw [← hl]
  omega)
 clear hl
 generalize decide (x = 0) = z at *
 generalize decide (x < 0) = s at *
 generalize dig 18446744073709551616 x.natAbs = X at *
 have hs := HS.out
 clear HS
 go_enter Tryz.func95, Tryz.ntmps95
 go_wp2
 go_ret
 exact ⟨by first | rfl | simp, (by (repeat' (first | exact Below.refl _ _ | refine Below.drew ?_ | refine Below.setCell ?_ (by first | omega | (simp <;> omega)) _ | refine Below.alloc ?_ (by first | omega | (simp <;> omega)) _)))⟩
set_option maxHeartbeats 1000000 in
theorem zcmp_any (a b : Option Addr) (c d : Nat) (x y z : Int) (w : World) (h : NAt w w.heap.size a c x.natAbs) (h' : NAt w w.heap.size b d y.natAbs) (hx : (dig 18446744073709551616 x.natAbs).length ≤ 1000000) (hy : (dig 18446744073709551616 y.natAbs).length ≤ 1000000) (hz : x - y = z) :
  Calls Tryz.prog 94 #[.agg #[.bool (decide (x < 0)), .slice a (dig 18446744073709551616 x.natAbs).length c], .agg #[.bool (decide (y < 0)), .slice b (dig 18446744073709551616 y.natAbs).length d]] w fun e w' => e = .returned (.int .i64 (sgnI z)) ∧ Below w.heap.size w w' := by
 have HL := fun w' (hb : Below w.heap.size w w') => Lib.hid (zless_any a b c d x y z w' (h.next hb) (h'.next hb) hx hy hz)
 have HS := fun a c w' => Lib.hid (zsign_any a c z w')
 clear h h' hz
 generalize decide (x < 0) = s at *
 generalize decide (y < 0) = t at *
 generalize sgnI z = g at *
 generalize dig 18446744073709551616 x.natAbs = X at *
 generalize dig 18446744073709551616 y.natAbs = Y at *
 go_enter Tryz.func94, Tryz.ntmps94
 go_wp2_with (first | (go_at_call 115; refine (HL _ (by (repeat' (first | exact Below.refl _ _ | refine Below.drew ?_ | refine Below.setCell ?_ (by first | omega | (simp <;> omega)) _ | refine Below.alloc ?_ (by first | omega | (simp <;> omega)) _)))).out.mono ?_; rintro e w5 ⟨a5, c5, rfl, _, hb5⟩) | (go_at_call 116; refine (HS _ _ _).out.mono ?_; rintro e w6 ⟨rfl, hb6⟩))
 go_ret
 exact ⟨rfl, Below.trans (Below.trans (by (repeat' (first | exact Below.refl _ _ | refine Below.drew ?_ | refine Below.setCell ?_ (by first | omega | (simp <;> omega)) _ | refine Below.alloc ?_ (by first | omega | (simp <;> omega)) _))) (hb5.mono (by first | omega | (simp <;> omega)))) (hb6.mono (by have h5 := hb5.size; (try simp at h5); omega))⟩
def IsBox (W : World) (v0 v1 : Value) (u : Value) (w : World) : Prop := ∃ b, u = .pointer (some ⟨b, 0, none⟩) ∧ W.heap.size ≤ b ∧ b < w.heap.size ∧ NBox2 w b v0 v1
theorem isBox_carries (W : World) (v0 v1 : Value) : Carries (IsBox W v0 v1) := fun _ _ _ ⟨b, h, h1, h2, h3⟩ hb => ⟨b, h, h1, Nat.lt_of_lt_of_le h2 hb.size, h3.below hb h2⟩
def RetR (w : World) (x : Int) (m : Nat) (e : Ending) (w' : World) : Prop := ∃ a c b d, e = .returned (.agg #[.bool (decide (x < 0)), .slice a (dig 18446744073709551616 x.natAbs).length c, .slice b (dig 18446744073709551616 m).length d]) ∧ NAt w' w'.heap.size a c x.natAbs ∧ NAt w' w'.heap.size b d m ∧ Below w.heap.size w w'
theorem nat_set3 {w : World} {a : Option Addr} {c m b : Nat} {v0 v1 v2 y0 y1 y2 : Value} (h : NAt w w.heap.size a c m) (hX : NBox3 w b v0 v1 v2) (h0 : ∀ x, v0 ≠ .int .u64 x) (h1 : ∀ x, v1 ≠ .int .u64 x) (h2 : ∀ x, v2 ≠ .int .u64 x) :
  NAt (((w.setCell ⟨b, 0, none⟩ y0).setCell ⟨b, 1, none⟩ y1).setCell ⟨b, 2, none⟩ y2) (((w.setCell ⟨b, 0, none⟩ y0).setCell ⟨b, 1, none⟩ y1).setCell ⟨b, 2, none⟩ y2).heap.size a c m := by
 obtain ⟨c0, c1, c2, f0, f1, f2⟩ := hX
 refine nat_set (v := v2) (nat_set (v := v1) (nat_set h c0 h0) ?_ h1) ?_ h2 <;> go_simp
set_option maxHeartbeats 8000000 in
set_option maxRecDepth 100000 in
theorem rmake_any (a b : Option Addr) (c d m K : Nat) (x q : Int) (k : Nat) (w : World) (h : NAt w w.heap.size a c x.natAbs) (h' : NAt w w.heap.size b d m) (hK : K ≤ 1000000) (hx : x.natAbs < 2 ^ K) (hm : m < 2 ^ K) (hm0 : 0 < m) (hq : sgnZ (decide (x < 0)) (x.natAbs / Nat.gcd x.natAbs m) = q) (hk : m / Nat.gcd x.natAbs m = k) :
  Calls Tryz.prog 28 #[.agg #[.bool (decide (x < 0)), .slice a (dig 18446744073709551616 x.natAbs).length c], .slice b (dig 18446744073709551616 m).length d] w (RetR w q k) := by
 have hx4 := dig_fits K hx (by omega)
 have hm4 := dig_fits K hm (by omega)
 obtain ⟨G, hG⟩ : ∃ G, Nat.gcd x.natAbs m = G := ⟨_, rfl⟩
 have hG0 : 0 < G := by rw [← hG]; exact Nat.gcd_pos_of_pos_right _ hm0
 have hGm : G ≤ m := by rw [← hG]; exact Nat.gcd_le_right _ hm0
 have hG4 := Nat.le_trans (dig_len_mono (B := 18446744073709551616) (by decide) hGm) hm4
 have HG := fun w' (hb : Below w.heap.size w w') => Lib.hid (ngcd_any a b c d x.natAbs m w' (h.next hb) (h'.next hb) hx4 hm4)
 rw [hG] at HG
 have HD1 := fun a b c d w h h2 => Lib.hid (ndivide_any a b c d x.natAbs G w h h2 hx4 hG4 hG0)
 have HD2 := fun a b c d w h h2 => Lib.hid (ndivide_any a b c d m G w h h2 hm4 hG4 hG0)
 have HMD := fun a c w h => Lib.hid (made_any (decide (x < 0)) a c (x.natAbs / G) w h)
 obtain ⟨z, hz⟩ : ∃ z, sgnZ (decide (x < 0)) (x.natAbs / G) = z := ⟨_, rfl⟩
 rw [hz] at HMD
 rw [hG] at hq hk
 rw [hz] at hq
 subst hq
 subst hk
 obtain ⟨xq, hxq⟩ : ∃ q, x.natAbs / G = q := ⟨_, rfl⟩
 obtain ⟨xr, hxr⟩ : ∃ q, x.natAbs % G = q := ⟨_, rfl⟩
 obtain ⟨mq, hmq⟩ : ∃ q, m / G = q := ⟨_, rfl⟩
 obtain ⟨mr, hmr⟩ : ∃ q, m % G = q := ⟨_, rfl⟩
 rw [hxq, hxr] at HD1
 rw [hmq, hmr] at HD2
 rw [hmq]
 rw [hxq] at HMD
 have HA := Lib.hid h
 have HB := Lib.hid h'
 clear hx4 hm4 hG hG0 hGm hG4 hz hxq hxr hmq hmr hx hm hm0 h h'
 generalize hsx : decide (x < 0) = sx at *
 generalize hX : dig 18446744073709551616 x.natAbs = X at *
 generalize hY : dig 18446744073709551616 m = Y at *
 have HSX := Lib.hid hsx
 have HXE := Lib.hid hX
 have HYE := Lib.hid hY
 clear hsx hX hY
 go_enter Tryz.func28, Tryz.ntmps28
 go_wp2_with (first | (go_at_call 63; refine (HG _ (by (repeat' (first | exact Below.refl _ _ | refine Below.drew ?_ | refine Below.setCell ?_ (by first | omega | (simp <;> omega)) _ | refine Below.alloc ?_ (by first | omega | (simp <;> omega)) _)))).out.mono ?_; rintro e w4 ⟨a4, c4, rfl, hN4, hb4⟩; have X0 := NBox2.below (b := w.heap.size) (v0 := .bool sx) (v1 := .slice a X.length c) (by constructor <;> go_simp) hb4 (by first | omega | (simp <;> omega)); have R3 := NBox3.below (b := w.heap.size + 1) (v0 := .bool false) (v1 := .slice none 0 0) (v2 := .slice none 0 0) (by constructor <;> go_simp) hb4 (by first | omega | (simp <;> omega)); have RL : w.heap.size + 1 < w4.heap.size := (by have := hb4.size; (try simp at this); omega); have E := (((ZEnv.start w).addN HA.out).addN HB.out).next (W' := w4) (Below.trans (by (repeat' (first | exact Below.refl _ _ | refine Below.drew ?_ | refine Below.setCell ?_ (by first | omega | (simp <;> omega)) _ | refine Below.alloc ?_ (by first | omega | (simp <;> omega)) _))) (hb4.mono (by first | omega | (simp <;> omega)))); replace E := (E.addN hN4).addB X0; clear X0 hN4 hb4; obtain ⟨k0c0, k0c1, k0f0, k0f1⟩ := E.box 0 (b := w.heap.size) (v0 := .bool sx) (v1 := .slice a X.length c) rfl; obtain ⟨r0, r1, r2, r3, r4, r5⟩ := R3; have R3 : NBox3 _ (w.heap.size + 1) (.bool false) (.slice none 0 0) (.slice none 0 0) := ⟨r0, r1, r2, r3, r4, r5⟩) | (go_at_call_of 64 a; refine (HD1 _ _ _ _ _ (E.num 2 rfl) (E.num 0 rfl)).out.mono ?_; rintro e w5 ⟨a5, c5, a6, c6, rfl, hN5, hN6, hb5⟩; replace E := (E.next hb5).addN hN5; replace R3 := R3.below hb5 (by first | omega | (simp <;> omega) | exact RL); replace RL := Nat.lt_of_lt_of_le RL hb5.size; (try clear r0 r1 r2 r3 r4 r5); obtain ⟨r0, r1, r2, r3, r4, r5⟩ := R3; replace R3 : NBox3 _ (w.heap.size + 1) (.bool false) (.slice none 0 0) (.slice none 0 0) := ⟨r0, r1, r2, r3, r4, r5⟩; clear hN5 hN6 hb5; (try clear k0c0 k0c1 k0f0 k0f1); obtain ⟨k0c0, k0c1, k0f0, k0f1⟩ := E.box 0 (b := w.heap.size) (v0 := .bool sx) (v1 := .slice a X.length c) rfl) | (go_at_call_of 64 b; refine (HD2 _ _ _ _ _ (E.num 2 rfl) (E.num 1 rfl)).out.mono ?_; rintro e w6 ⟨a7, c7, a8, c8, rfl, hN7, hN8, hb6⟩; replace E := (E.next hb6).addN hN7; replace R3 := R3.below hb6 (by first | omega | (simp <;> omega) | exact RL); replace RL := Nat.lt_of_lt_of_le RL hb6.size; (try clear r0 r1 r2 r3 r4 r5); obtain ⟨r0, r1, r2, r3, r4, r5⟩ := R3; replace R3 : NBox3 _ (w.heap.size + 1) (.bool false) (.slice none 0 0) (.slice none 0 0) := ⟨r0, r1, r2, r3, r4, r5⟩; clear hN7 hN8 hb6; (try clear k0c0 k0c1 k0f0 k0f1); obtain ⟨k0c0, k0c1, k0f0, k0f1⟩ := E.box 0 (b := w.heap.size) (v0 := .bool sx) (v1 := .slice a X.length c) rfl) | (go_at_call 55; refine (HMD _ _ _ (E.num 1 rfl)).out.mono ?_; rintro e w7 ⟨a9, c9, rfl, hN9, hb7⟩; replace E := (E.next hb7).addN hN9; replace R3 := R3.below hb7 (by first | omega | (simp <;> omega) | exact RL); replace RL := Nat.lt_of_lt_of_le RL hb7.size; (try clear r0 r1 r2 r3 r4 r5); obtain ⟨r0, r1, r2, r3, r4, r5⟩ := R3; replace R3 : NBox3 _ (w.heap.size + 1) (.bool false) (.slice none 0 0) (.slice none 0 0) := ⟨r0, r1, r2, r3, r4, r5⟩; clear hN9 hb7; (try clear k0c0 k0c1 k0f0 k0f1); obtain ⟨k0c0, k0c1, k0f0, k0f1⟩ := E.box 0 (b := w.heap.size) (v0 := .bool sx) (v1 := .slice a X.length c) rfl))
 refine bodyPost_ret (v := .agg #[.bool (decide (z < 0)), .slice a9 (dig 18446744073709551616 z.natAbs).length c9, .slice a7 (dig 18446744073709551616 mq).length c7]) (by rw [nres_c1 rfl]; go_simp) rfl ?_
 exact ⟨a9, c9, a7, c7, rfl, nat_set3 (E.num 0 rfl) R3 bool_int slice_int slice_int, nat_set3 (E.num 1 rfl) R3 bool_int slice_int slice_int, ((E.bel.setCell (by simp) _).setCell (by simp) _).setCell (by simp) _⟩
def IsZZ (x y : Int) (u : Value) (w : World) : Prop := ∃ a c b d, u = .tuple #[.agg #[.bool (decide (x < 0)), .slice a (dig 18446744073709551616 (x).natAbs).length c], .agg #[.bool (decide (y < 0)), .slice b (dig 18446744073709551616 (y).natAbs).length d]] ∧ NAt w w.heap.size a c x.natAbs ∧ NAt w w.heap.size b d y.natAbs
theorem isZZ_carries (x y : Int) : Carries (IsZZ x y) := fun _ _ _ ⟨a, c, b, d, h, h1, h2⟩ hb => ⟨a, c, b, d, h, h1.next hb, h2.next hb⟩
set_option maxHeartbeats 8000000 in
set_option maxRecDepth 100000 in
theorem near_any (a b : Option Addr) (c d m K : Nat) (x z : Int) (w : World) (h : NAt w w.heap.size a c x.natAbs) (h' : NAt w w.heap.size b d m) (hK : K ≤ 1000000 - 8) (hx : x.natAbs < 2 ^ K) (hm : m < 2 ^ K) (hm0 : 0 < m) (hz : nearZ x m = z) :
  Calls Tryz.prog 62 #[.agg #[.bool (decide (x < 0)), .slice a (dig 18446744073709551616 x.natAbs).length c, .slice b (dig 18446744073709551616 m).length d]] w (RetZ w z) := by
 have hK4 : 2 ^ (K + 1) = 2 * 2 ^ K := by rw [Nat.pow_succ, Nat.mul_comm]
 have hK8 : 2 ^ (K + 8) = 256 * 2 ^ K := by rw [Nat.pow_add, Nat.mul_comm]
 obtain ⟨P, hP⟩ : ∃ P, 2 ^ K = P := ⟨_, rfl⟩
 rw [hP] at hx hm hK4 hK8
 obtain ⟨xt, hx2⟩ : ∃ z, x * 2 = z := ⟨_, rfl⟩
 obtain ⟨mi, hmi⟩ : ∃ z : Int, (m : Int) = z := ⟨_, rfl⟩
 obtain ⟨q, hq⟩ : ∃ z, floorZ xt mi = z := ⟨_, rfl⟩
 obtain ⟨r, hr⟩ : ∃ z, xt - q * mi = z := ⟨_, rfl⟩
 obtain ⟨h1, hh1⟩ : ∃ z, q / 2 = z := ⟨_, rfl⟩
 obtain ⟨h2, hh2⟩ : ∃ z, h1 * 2 = z := ⟨_, rfl⟩
 obtain ⟨s1, hs1⟩ : ∃ z, h2 - q = z := ⟨_, rfl⟩
 obtain ⟨up, hup⟩ : ∃ z, h1 + 1 = z := ⟨_, rfl⟩
 obtain ⟨g1, hg1⟩ : ∃ z, h1 / 2 = z := ⟨_, rfl⟩
 obtain ⟨g2, hg2⟩ : ∃ z, g1 * 2 = z := ⟨_, rfl⟩
 obtain ⟨s2, hs2⟩ : ∃ z, g2 - h1 = z := ⟨_, rfl⟩
 unfold nearZ at hz
 rw [hx2, hmi, hq, hr, hh1, hh2, hg1, hg2] at hz
 skip
 have hfa := floor_abs hq
 have hm0i : mi ≠ 0 := by omega
 have hmn : mi.natAbs = m := by omega
 have bx2 : xt.natAbs < 2 ^ (K + 1) := by rw [hK4]; omega
 have bmi : mi.natAbs < 2 ^ (K + 1) := by rw [hK4]; omega
 have b0 : 0 < P := by rw [← hP]; exact Nat.pow_pos (by decide)
 have L : ∀ z : Int, z.natAbs < 2 ^ (K + 8) → (dig 18446744073709551616 z.natAbs).length ≤ 1000000 := fun z hz => Nat.le_trans (dig_fits _ hz (by omega)) (by decide)
 rw [hK8] at L
 have lx := L x (by omega)
 have lq := L q (by omega)
 have lh1 := L h1 (by omega)
 have lh2 := L h2 (by omega)
 have lg1 := L g1 (by omega)
 have lg2 := L g2 (by omega)
 have l1 := L 1 (by omega)
 have HLF := fun a c w hN => Lib.hid (zleft_any a c 1 x xt w hN lx (by decide) hx2)
 have HMA := fun a c w hN => Lib.hid (made_any false a c m w hN)
 have esg : sgnZ false m = mi := by unfold sgnZ; rw [if_neg (by decide), hmi]
 rw [esg] at HMA
 have HDV := fun a b c d w hN hM => Lib.hid (zdivide_any a b c d (K + 1) xt mi q r w hN hM (by omega) bx2 bmi hm0i hq hr)
 have HR1 := fun a c w hN => Lib.hid (zright_any a c 1 q h1 w hN lq (by decide) hh1)
 have HL2 := fun a c w hN => Lib.hid (zleft_any a c 1 h1 h2 w hN lh1 (by decide) hh2)
 have HC1 := fun a b c d w hN hM => Lib.hid (zcmp_any a b c d h2 q s1 w hN hM lh2 lq hs1)
 have HON := fun w => Lib.hid (zfrom_any 1 w (by decide) (by decide))
 have HPL := fun a b c d w hN hM => Lib.hid (zplus_any a b c d h1 1 up w hN hM lh1 l1 hup)
 have HZR := fun a c w => Lib.hid (zzero_any a c r w)
 have HR2 := fun a c w hN => Lib.hid (zright_any a c 1 h1 g1 w hN lh1 (by decide) hg1)
 have HL3 := fun a c w hN => Lib.hid (zleft_any a c 1 g1 g2 w hN lg1 (by decide) hg2)
 have HC2 := fun a b c d w hN hM => Lib.hid (zcmp_any a b c d g2 h1 s2 w hN hM lg2 lh1 hs2)
 have hz1 : s1 = 0 → z = h1 := fun e => by rw [if_pos (by omega)] at hz; exact hz.symm
 have hz2 : s1 ≠ 0 → r ≠ 0 → z = up := fun e1 e2 => by rw [if_neg (by omega), if_neg (by omega)] at hz; omega
 have hz3 : s1 ≠ 0 → r = 0 → s2 = 0 → z = h1 := fun e1 e2 e3 => by rw [if_neg (by omega), if_pos ⟨by omega, by omega⟩] at hz; exact hz.symm
 have hz4 : s1 ≠ 0 → r = 0 → s2 ≠ 0 → z = up := fun e1 e2 e3 => by rw [if_neg (by omega), if_neg (by omega)] at hz; omega
 have HZ1 := Lib.hid hz1
 have HZ2 := Lib.hid hz2
 have HZ3 := Lib.hid hz3
 have HZ4 := Lib.hid hz4
 have HA := Lib.hid h
 have HB := Lib.hid h'
 have HMN := Lib.hid hmn
 clear hP hx2 hmi hq hr hh1 hh2 hs1 hup hg1 hg2 hs2 hz hfa hm0i hmn bx2 bmi b0 L lx lq lh1 lh2 lg1 lg2 l1 esg hz1 hz2 hz3 hz4 h h' hx hm hm0 hK hK4 hK8
 generalize hsx : decide (x < 0) = sx at *
 generalize hX : dig 18446744073709551616 x.natAbs = X at *
 generalize hY : dig 18446744073709551616 m = Y at *
 have HSX := Lib.hid hsx
 have HXE := Lib.hid hX
 have HYE := Lib.hid hY
 clear hsx hX hY
 go_enter Tryz.func62, Tryz.ntmps62
 go_upto_region 1 with fail
 have R3 := (by constructor <;> go_simp : NBox3 ((w.alloc (.cells #[.bool sx, .slice a X.length c, .slice b Y.length d] 68)).alloc (.cells #[.bool false, .slice none 0 0] 60)) w.heap.size (.bool sx) (.slice a X.length c) (.slice b Y.length d))
 have E := ((((ZEnv.start w).addN HA.out).addN HB.out).next (((Below.refl _ _).alloc (Nat.le_refl _) _).alloc (by simp) _)).addB (W := (w.alloc (.cells #[.bool sx, .slice a X.length c, .slice b Y.length d] 68)).alloc (.cells #[.bool false, .slice none 0 0] 60)) (b := w.heap.size + 1) (v0 := .bool false) (v1 := .slice none 0 0) (by constructor <;> go_simp)
 have hlw : w.heap.size + 1 < ((w.alloc (.cells #[.bool sx, .slice a X.length c, .slice b Y.length d] 68)).alloc (.cells #[.bool false, .slice none 0 0] 60)).heap.size := by simp
 obtain ⟨W1, hW1⟩ := envZ E
 rw [hW1] at E R3 hlw ⊢
 clear hW1
 go_cut [3, 4] from 8 to 42 (fun s3 s4 wx => ∃ (b10 b11 : Nat) (aq : Option Addr) (cq : Nat) (ar : Option Addr) (cr : Nat), s3 = .pointer (some ⟨b10, 0, none⟩) ∧ s4 = .pointer (some ⟨b11, 0, none⟩) ∧ Hid (b10 ≠ b11 ∧ w.heap.size + 1 < b10 ∧ w.heap.size + 1 < b11) ∧ Hid (ZEnv w.heap.size w wx [(b10, .bool (decide (q < 0)), .slice aq (dig 18446744073709551616 q.natAbs).length cq), (b11, .bool (decide (r < 0)), .slice ar (dig 18446744073709551616 r.natAbs).length cr), (w.heap.size + 1, .bool false, .slice none 0 0)] [(aq, cq, q.natAbs), (ar, cr, r.natAbs)]))
 case first =>
  refine wp_region_parts2 (w := W1) 12 2 (some 9) [10, 11] [(fun u _ => u = .pointer (some ⟨w.heap.size, 0, none⟩)), (fun u _ => u = .agg #[.bool sx, .slice a X.length c]), ((IsZ (xt))), (fun u _ => u = .pointer (some ⟨w.heap.size, 2, none⟩)), (fun u _ => u = .slice b Y.length d), ((IsZ (mi))), ((IsZZ q r)), ((IsZZ q r)), ((IsZ q)), ((IsZ r)), ((IsBox W1 (.bool false) (.slice none 0 0))), ((IsBox W1 (.bool false) (.slice none 0 0)))] [some 9, some 10, some 11, some 12, some 13, some 14, some 15, some 8, some 16, some 17, some 3, some 4, none, none] #[true, true, true, true, true, true, true, true, true, true, true, true, false, false] #[true, true, true, true, true, true, true, true, true, false, true, true, false, false] (by kernel_rfl) rfl (by kernel_rfl) (by kernel_rfl) rfl (by kernel_rfl) (by kernel_rfl) (.cons (carries_eq _) (.cons (carries_eq _) (.cons (isZ_carries _) (.cons (carries_eq _) (.cons (carries_eq _) (.cons (isZ_carries _) (.cons (isZZ_carries _ _) (.cons (isZZ_carries _ _) (.cons (isZ_carries _) (.cons (isZ_carries _) (.cons (isBox_carries _ _ _) (.cons (isBox_carries _ _ _) .nil)))))))))))) (fun vs b hvl hvb => ?_)
  obtain ⟨x0, x1, x2, x3, x4, x5, x6, x7, x8, x9, x10, x11, x12, x13, rfl⟩ : ∃ x0 x1 x2 x3 x4 x5 x6 x7 x8 x9 x10 x11 x12 x13, vs = [x0, x1, x2, x3, x4, x5, x6, x7, x8, x9, x10, x11, x12, x13] := lst14 hvl
  clear hvl
  simp only [putAll, Act.put, List.setIfInBounds_toArray, List.set_cons_zero, List.set_cons_succ] at hvb
  subst hvb
  refine ⟨(.snoc (.snoc (.snoc (.snoc (.snoc (.snoc (.snoc (.snoc (.snoc (.snoc (.snoc (.snoc .zero (PartOb.intro (d := (some 9)) (r := fun u _ => u = .pointer (some ⟨w.heap.size, 0, none⟩)) rfl rfl rfl rfl ?po1x0)) (PartOb.intro (d := (some 10)) (r := fun u _ => u = .agg #[.bool sx, .slice a X.length c]) rfl rfl rfl rfl ?po1x1)) (PartOb.intro (d := (some 11)) (r := (IsZ (xt))) rfl rfl rfl rfl ?po1x2)) (PartOb.intro (d := (some 12)) (r := fun u _ => u = .pointer (some ⟨w.heap.size, 2, none⟩)) rfl rfl rfl rfl ?po1x3)) (PartOb.intro (d := (some 13)) (r := fun u _ => u = .slice b Y.length d) rfl rfl rfl rfl ?po1x4)) (PartOb.intro (d := (some 14)) (r := (IsZ (mi))) rfl rfl rfl rfl ?po1x5)) (PartOb.intro (d := (some 15)) (r := (IsZZ q r)) rfl rfl rfl rfl ?po1x6)) (PartOb.intro (d := (some 8)) (r := (IsZZ q r)) rfl rfl rfl rfl ?po1x7)) (PartOb.intro (d := (some 16)) (r := (IsZ q)) rfl rfl rfl rfl ?po1x8)) (PartOb.intro (d := (some 17)) (r := (IsZ r)) rfl rfl rfl rfl ?po1x9)) (PartOb.made (d := (some 3)) (r := (IsBox W1 (.bool false) (.slice none 0 0))) rfl rfl rfl ?po1x10)) (PartOb.made (d := (some 4)) (r := (IsBox W1 (.bool false) (.slice none 0 0))) rfl rfl rfl ?po1x11)), ?pend1, ?pfl1⟩
  case po1x0 | po1x3 =>
   intro w1 hb1 hd KK hK
   go_simp
   exact hK.out _ _ (Below.refl _ _) rfl
  case po1x1 =>
   intro w1 hb1 hd KK hK
   obtain rfl := hd 0 (by kernel_rfl)
   have R4 := R3.below hb1 (by omega)
   obtain ⟨r0, r1, r2, r3, r4, r5⟩ := R4
   go_simp
   exact hK.out _ _ (Below.refl _ _) rfl
  case po1x2 =>
   intro w1 hb1 hd KK hK
   obtain rfl := hd 1 (by kernel_rfl)
   go_simp
   go_at_call 92
   refine (HLF _ _ w1 ((E.next hb1).num 1 rfl)).out.mono ?_
   rintro e w2 ⟨a2, c2, rfl, hN2, hb2⟩
   (try go_wp2_with fail)
   exact hK.out _ _ hb2 ⟨a2, c2, rfl, hN2⟩
  case po1x4 =>
   intro w1 hb1 hd KK hK
   obtain rfl := hd 3 (by kernel_rfl)
   have R4 := R3.below hb1 (by omega)
   obtain ⟨r0, r1, r2, r3, r4, r5⟩ := R4
   go_simp
   exact hK.out _ _ (Below.refl _ _) rfl
  case po1x5 =>
   intro w1 hb1 hd KK hK
   obtain ⟨a2x, e2x, rfl, hN2⟩ := hd 2 (by kernel_rfl)
   obtain rfl := hd 4 (by kernel_rfl)
   go_simp
   go_at_call 55
   refine (HMA _ _ w1 ((E.next hb1).num 0 rfl)).out.mono ?_
   rintro e w2 ⟨a2, c2, rfl, hN2, hb2⟩
   (try go_wp2_with fail)
   exact hK.out _ _ hb2 ⟨a2, c2, rfl, hN2⟩
  case po1x6 =>
   intro w1 hb1 hd KK hK
   obtain ⟨a2x, e2x, rfl, hN2⟩ := hd 2 (by kernel_rfl)
   obtain ⟨a5x, e5x, rfl, hN5⟩ := hd 5 (by kernel_rfl)
   go_simp
   go_at_call 91
   refine (HDV _ _ _ _ w1 hN2 hN5).out.mono ?_
   rintro e w2 ⟨a3, c3, a4, c4, rfl, hN3, hN4, hb2⟩
   (try go_wp2_with fail)
   exact hK.out _ _ hb2 ⟨a3, c3, a4, c4, rfl, hN3, hN4⟩
  case po1x7 =>
   intro w1 hb1 hd KK hK
   obtain ⟨a6x, e6x, b6x, d6x, rfl, hN6, hM6⟩ := hd 6 (by kernel_rfl)
   go_simp
   exact hK.out _ _ (Below.refl _ _) ⟨_, _, _, _, rfl, hN6, hM6⟩
  case po1x8 =>
   intro w1 hb1 hd KK hK
   obtain ⟨a7x, e7x, b7x, d7x, rfl, hN7, hM7⟩ := hd 7 (by kernel_rfl)
   go_simp
   exact hK.out _ _ (Below.refl _ _) ⟨_, _, rfl, hN7⟩
  case po1x9 =>
   intro w1 hb1 hd KK hK
   obtain ⟨a7x, e7x, b7x, d7x, rfl, hN7, hM7⟩ := hd 7 (by kernel_rfl)
   go_simp
   exact hK.out _ _ (Below.refl _ _) ⟨_, _, rfl, hM7⟩
  case po1x10 | po1x11 =>
   intro w1 hb1 hd KK hK
   go_simp
   exact hK.out _ ((Below.refl _ _).alloc (Nat.le_refl _) _) (by simp) ⟨w1.heap.size, rfl, hb1.size, by simp, by constructor <;> go_simp⟩
  case pend1 =>
   intro w1 hb1 hR hD
   have hD10x11 : x10 ≠ x11 := hD 10 11 (by decide) (by decide) rfl rfl (by decide)
   obtain rfl := hR 0 (by decide)
   obtain rfl := hR 1 (by decide)
   obtain ⟨a2x, e2x, rfl, hN2⟩ := hR 2 (by decide)
   obtain rfl := hR 3 (by decide)
   obtain rfl := hR 4 (by decide)
   obtain ⟨a5x, e5x, rfl, hN5⟩ := hR 5 (by decide)
   obtain ⟨a6x, e6x, b6x, d6x, rfl, hN6, hM6⟩ := hR 6 (by decide)
   obtain ⟨a7x, e7x, b7x, d7x, rfl, hN7, hM7⟩ := hR 7 (by decide)
   obtain ⟨a8x, e8x, rfl, hN8⟩ := hR 8 (by decide)
   obtain ⟨a9x, e9x, rfl, hN9⟩ := hR 9 (by decide)
   obtain ⟨b10, rfl, hle10, hlt10, hX10⟩ := hR 10 (by decide)
   obtain ⟨b11, rfl, hle11, hlt11, hX11⟩ := hR 11 (by decide)
   clear hR hD
   replace hD10x11 : b10 ≠ b11 := fun e => hD10x11 (by rw [e])
   refine wpAny_ready (rs := [12]) (by kernel_rfl) (by simp) (AllReady.cons rfl (fun KK hK => ?_) AllReady.nil)
   have E0 := ((E.next hb1).addN hN9).addN hN8
   have hX11c := hX11
   have E1 := ((E0.addB hX11).addB hX10).sub [(b10, .bool false, .slice none 0 0), (b11, .bool false, .slice none 0 0), (w.heap.size + 1, .bool false, .slice none 0 0)] (by simp)
   have hne : ∀ p ∈ [(b11, Value.bool false, Value.slice none 0 0), (w.heap.size + 1, Value.bool false, Value.slice none 0 0)], p.1 ≠ b10 := by intro p hp; simp at hp; rcases hp with rfl | rfl; exact Ne.symm hD10x11; (show w.heap.size + 1 ≠ b10); omega
   have E2 := E1.store hne (by omega) bool_int slice_int (.bool (decide (q < 0))) (.slice a8x (dig 18446744073709551616 q.natAbs).length e8x)
   have E3 := E2.sub [(b11, .bool false, .slice none 0 0), (b10, .bool (decide (q < 0)), .slice a8x (dig 18446744073709551616 q.natAbs).length e8x), (w.heap.size + 1, .bool false, .slice none 0 0)] (by simp)
   obtain ⟨m0c0, m0c1, m0f0, m0f1⟩ := hX10
   obtain ⟨m1c0, m1c1, m1f0, m1f1⟩ := hX11
   go_simp
   refine hK _ _ ?_
   clear hK KK
   refine wpAny_ready (rs := [13]) (by kernel_rfl) (by simp) (AllReady.cons rfl (fun KK hK => ?_) AllReady.nil)
   have hne2 : ∀ p ∈ [(b10, Value.bool (decide (q < 0)), Value.slice a8x (dig 18446744073709551616 q.natAbs).length e8x), (w.heap.size + 1, Value.bool false, Value.slice none 0 0)], p.1 ≠ b11 := by intro p hp; simp at hp; rcases hp with rfl | rfl; exact hD10x11; (show w.heap.size + 1 ≠ b11); omega
   have E4 := E3.store hne2 (by omega) bool_int slice_int (.bool (decide (r < 0))) (.slice a9x (dig 18446744073709551616 r.natAbs).length e9x)
   go_simp
   refine hK _ _ ?_
   clear hK KK
   refine wpAny_done (by kernel_rfl) ?_ _
   go_wp2_with fail
   go_meet
   exact ⟨b10, b11, a8x, e8x, a9x, e9x, rfl, rfl, Lib.hid ⟨hD10x11, by omega, by omega⟩, Lib.hid ((E4.sub _ (by intro p hp; simp only [List.mem_cons, List.not_mem_nil, or_false] at hp ⊢; rcases hp with h | h | h <;> simp [h])).subN _ (by intro p hp; simp only [List.mem_cons, List.not_mem_nil, or_false] at hp ⊢; rcases hp with h | h <;> simp [h]))⟩
  case pfl1 =>
   intro f hf hfn w1 hb1 hR hD
   injection hf with hf
   subst hf
   have hD10x11 : x10 ≠ x11 := hD 10 11 (by decide) (by decide) (by decide) (by decide) rfl rfl (by decide)
   obtain rfl := hR 0 (by decide) (by decide)
   obtain rfl := hR 1 (by decide) (by decide)
   obtain ⟨a2x, e2x, rfl, hN2⟩ := hR 2 (by decide) (by decide)
   obtain rfl := hR 3 (by decide) (by decide)
   obtain rfl := hR 4 (by decide) (by decide)
   obtain ⟨a5x, e5x, rfl, hN5⟩ := hR 5 (by decide) (by decide)
   obtain ⟨a6x, e6x, b6x, d6x, rfl, hN6, hM6⟩ := hR 6 (by decide) (by decide)
   obtain ⟨a7x, e7x, b7x, d7x, rfl, hN7, hM7⟩ := hR 7 (by decide) (by decide)
   obtain ⟨a8x, e8x, rfl, hN8⟩ := hR 8 (by decide) (by decide)
   obtain ⟨b10, rfl, hle10, hlt10, hX10⟩ := hR 10 (by decide) (by decide)
   obtain ⟨b11, rfl, hle11, hlt11, hX11⟩ := hR 11 (by decide) (by decide)
   clear hR hD
   replace hD10x11 : b10 ≠ b11 := fun e => hD10x11 (by rw [e])
   refine wpAny_take (i := 9) (v := .agg #[.bool (decide (r < 0)), .slice b7x (dig 18446744073709551616 (r).natAbs).length d7x]) rfl (by kernel_rfl) (by kernel_rfl) (by kernel_rfl) (fun _ _ _ h => h) (.inl ⟨by rfl, fun w => by go_simp⟩) ?_
   refine wpAny_ready (rs := [12]) (by kernel_rfl) (by simp) (AllReady.cons rfl (fun KK hK => ?_) AllReady.nil)
   have E0 := ((E.next hb1).addN hM7).addN hN8
   have hX11c := hX11
   have E1 := ((E0.addB hX11).addB hX10).sub [(b10, .bool false, .slice none 0 0), (b11, .bool false, .slice none 0 0), (w.heap.size + 1, .bool false, .slice none 0 0)] (by simp)
   have hne : ∀ p ∈ [(b11, Value.bool false, Value.slice none 0 0), (w.heap.size + 1, Value.bool false, Value.slice none 0 0)], p.1 ≠ b10 := by intro p hp; simp at hp; rcases hp with rfl | rfl; exact Ne.symm hD10x11; (show w.heap.size + 1 ≠ b10); omega
   have E2 := E1.store hne (by omega) bool_int slice_int (.bool (decide (q < 0))) (.slice a8x (dig 18446744073709551616 q.natAbs).length e8x)
   have E3 := E2.sub [(b11, .bool false, .slice none 0 0), (b10, .bool (decide (q < 0)), .slice a8x (dig 18446744073709551616 q.natAbs).length e8x), (w.heap.size + 1, .bool false, .slice none 0 0)] (by simp)
   obtain ⟨m0c0, m0c1, m0f0, m0f1⟩ := hX10
   obtain ⟨m1c0, m1c1, m1f0, m1f1⟩ := hX11
   go_simp
   refine hK _ _ ?_
   clear hK KK
   refine wpAny_ready (rs := [13]) (by kernel_rfl) (by simp) (AllReady.cons rfl (fun KK hK => ?_) AllReady.nil)
   have hne2 : ∀ p ∈ [(b10, Value.bool (decide (q < 0)), Value.slice a8x (dig 18446744073709551616 q.natAbs).length e8x), (w.heap.size + 1, Value.bool false, Value.slice none 0 0)], p.1 ≠ b11 := by intro p hp; simp at hp; rcases hp with rfl | rfl; exact hD10x11; (show w.heap.size + 1 ≠ b11); omega
   have E4 := E3.store hne2 (by omega) bool_int slice_int (.bool (decide (r < 0))) (.slice b7x (dig 18446744073709551616 r.natAbs).length d7x)
   go_simp
   refine hK _ _ ?_
   clear hK KK
   refine wpAny_done (by kernel_rfl) ?_ _
   go_wp2_with fail
   go_meet
   exact ⟨b10, b11, a8x, e8x, b7x, d7x, rfl, rfl, Lib.hid ⟨hD10x11, by omega, by omega⟩, Lib.hid ((E4.sub _ (by intro p hp; simp only [List.mem_cons, List.not_mem_nil, or_false] at hp ⊢; rcases hp with h | h | h <;> simp [h])).subN _ (by intro p hp; simp only [List.mem_cons, List.not_mem_nil, or_false] at hp ⊢; rcases hp with h | h <;> simp [h]))⟩
 case rest =>
 obtain ⟨b10, b11, aq, cq, ar, cr, rfl, rfl, HNE, HE⟩ := hcut
 obtain ⟨W2, rfl⟩ : ∃ W2 : World, W2 = wc := ⟨_, rfl⟩
 clear E R3 hlw
 have E := HE.out
 have hB10 := HNE.out.2.1
 have hB11 := HNE.out.2.2
 clear HE
 obtain ⟨k0c0, k0c1, k0f0, k0f1⟩ := E.box 0 (b := b10) (v0 := .bool (decide (q < 0))) (v1 := .slice aq (dig 18446744073709551616 (q).natAbs).length cq) rfl; obtain ⟨k1c0, k1c1, k1f0, k1f1⟩ := E.box 1 (b := b11) (v0 := .bool (decide (r < 0))) (v1 := .slice ar (dig 18446744073709551616 (r).natAbs).length cr) rfl; obtain ⟨k2c0, k2c1, k2f0, k2f1⟩ := E.box 2 (b := (w.heap.size + 1)) (v0 := .bool false) (v1 := .slice none 0 0) rfl
 go_upto_region 3 with (go_at_call 93; refine (HR1 _ _ _ (E.num 0 rfl)).out.mono ?_; rintro e w5 ⟨a5, c5, rfl, hN5, hb5⟩; have E' := E.next hb5; have HN5 := Lib.hid (fun p hp => Nat.ne_of_lt (E'.boxes p hp).2); clear E'; replace E := (((E.next hb5).addN hN5).alloc (.cells #[.bool (decide (h1 < 0)), .slice a5 (dig 18446744073709551616 (h1).natAbs).length c5] 60)).addB (zbox_made _ _ _ _); clear hN5 hb5; (try clear k0c0 k0c1 k0f0 k0f1); (try clear k1c0 k1c1 k1f0 k1f1); (try clear k2c0 k2c1 k2f0 k2f1); obtain ⟨k0c0, k0c1, k0f0, k0f1⟩ := E.box 0 (b := w5.heap.size) (v0 := .bool (decide (h1 < 0))) (v1 := .slice a5 (dig 18446744073709551616 (h1).natAbs).length c5) rfl; obtain ⟨k1c0, k1c1, k1f0, k1f1⟩ := E.box 1 (b := b10) (v0 := .bool (decide (q < 0))) (v1 := .slice aq (dig 18446744073709551616 (q).natAbs).length cq) rfl; obtain ⟨k2c0, k2c1, k2f0, k2f1⟩ := E.box 2 (b := b11) (v0 := .bool (decide (r < 0))) (v1 := .slice ar (dig 18446744073709551616 (r).natAbs).length cr) rfl; obtain ⟨k3c0, k3c1, k3f0, k3f1⟩ := E.box 3 (b := (w.heap.size + 1)) (v0 := .bool false) (v1 := .slice none 0 0) rfl)
 generalize hB5 : w5.heap.size = B5 at *
 obtain ⟨W3, hW3⟩ := envZ E
 rw [hW3] at E ⊢
 clear hW3 hB5
 (try clear k0c0 k0c1 k0f0 k0f1); (try clear k1c0 k1c1 k1f0 k1f1); (try clear k2c0 k2c1 k2f0 k2f1); (try clear k3c0 k3c1 k3f0 k3f1); (try clear k4c0 k4c1 k4f0 k4f1); (try clear k5c0 k5c1 k5f0 k5f1)
 obtain ⟨g1s, hg1s⟩ : ∃ g, sgnI s1 = g := ⟨_, rfl⟩
 rw [hg1s] at HC1
 refine wp_region_parts2 (w := W3) 6 0 none [] [(fun u _ => u = .agg #[.bool (decide (h1 < 0)), .slice a5 (dig 18446744073709551616 (h1).natAbs).length c5]), ((IsZ (h2))), (fun u _ => u = .agg #[.bool (decide (q < 0)), .slice aq (dig 18446744073709551616 (q).natAbs).length cq]), (fun u _ => u = .int .i64 (g1s)), (fun u _ => u = .bool (g1s != 0)), (fun u _ => u = .bool (g1s != 0))] [some 20, some 21, some 22, some 23, some 24, some 6] #[true, true, true, true, true, true] #[true, true, true, true, true, true] (by kernel_rfl) rfl (by kernel_rfl) (by kernel_rfl) rfl (by kernel_rfl) (by kernel_rfl) (.cons (carries_eq _) (.cons (isZ_carries _) (.cons (carries_eq _) (.cons (carries_eq _) (.cons (carries_eq _) (.cons (carries_eq _) .nil)))))) (fun vs b hvl hvb => ?_)
 obtain ⟨x0, x1, x2, x3, x4, x5, rfl⟩ : ∃ x0 x1 x2 x3 x4 x5, vs = [x0, x1, x2, x3, x4, x5] := lst6 hvl
 clear hvl
 simp only [putAll, Act.put, List.setIfInBounds_toArray, List.set_cons_zero, List.set_cons_succ] at hvb
 subst hvb
 refine ⟨(.snoc (.snoc (.snoc (.snoc (.snoc (.snoc .zero (PartOb.intro (d := (some 20)) (r := fun u _ => u = .agg #[.bool (decide (h1 < 0)), .slice a5 (dig 18446744073709551616 (h1).natAbs).length c5]) rfl rfl rfl rfl ?po3x0)) (PartOb.intro (d := (some 21)) (r := (IsZ (h2))) rfl rfl rfl rfl ?po3x1)) (PartOb.intro (d := (some 22)) (r := fun u _ => u = .agg #[.bool (decide (q < 0)), .slice aq (dig 18446744073709551616 (q).natAbs).length cq]) rfl rfl rfl rfl ?po3x2)) (PartOb.intro (d := (some 23)) (r := fun u _ => u = .int .i64 (g1s)) rfl rfl rfl rfl ?po3x3)) (PartOb.intro (d := (some 24)) (r := fun u _ => u = .bool (g1s != 0)) rfl rfl rfl rfl ?po3x4)) (PartOb.intro (d := (some 6)) (r := fun u _ => u = .bool (g1s != 0)) rfl rfl rfl rfl ?po3x5)), ?pend3, ?pfl3⟩
 case po3x0 =>
  intro w1 hb1 hd KK hK
  obtain ⟨l0c0, l0c1, l0f0, l0f1⟩ := (E.next hb1).box 0 (b := B5) (v0 := .bool (decide (h1 < 0))) (v1 := .slice a5 (dig 18446744073709551616 (h1).natAbs).length c5) rfl
  go_simp
  exact hK.out _ _ (Below.refl _ _) rfl
 case po3x1 =>
  intro w1 hb1 hd KK hK
  obtain rfl := hd 0 (by kernel_rfl)
  go_simp
  go_at_call 92
  refine (HL2 _ _ w1 ((E.next hb1).num 0 rfl)).out.mono ?_
  rintro e w2 ⟨a2, c2, rfl, hN2, hb2⟩
  (try go_wp2_with fail)
  exact hK.out _ _ hb2 ⟨a2, c2, rfl, hN2⟩
 case po3x2 =>
  intro w1 hb1 hd KK hK
  obtain ⟨l1c0, l1c1, l1f0, l1f1⟩ := (E.next hb1).box 1 (b := b10) (v0 := .bool (decide (q < 0))) (v1 := .slice aq (dig 18446744073709551616 (q).natAbs).length cq) rfl
  go_simp
  exact hK.out _ _ (Below.refl _ _) rfl
 case po3x3 =>
  intro w1 hb1 hd KK hK
  obtain ⟨a1x, e1x, rfl, hN1⟩ := hd 1 (by kernel_rfl)
  obtain rfl := hd 2 (by kernel_rfl)
  go_simp
  go_at_call 94
  refine (HC1 _ _ _ _ w1 hN1 ((E.next hb1).num 1 rfl)).out.mono ?_
  rintro e w2 ⟨rfl, hb2⟩
  (try go_wp2_with fail)
  exact hK.out _ _ hb2 rfl
 case po3x4 =>
  intro w1 hb1 hd KK hK
  obtain rfl := hd 3 (by kernel_rfl)
  go_simp
  exact hK.out _ _ (Below.refl _ _) rfl
 case po3x5 =>
  intro w1 hb1 hd KK hK
  obtain rfl := hd 0 (by kernel_rfl)
  obtain ⟨a1x, e1x, rfl, hN1⟩ := hd 1 (by kernel_rfl)
  obtain rfl := hd 2 (by kernel_rfl)
  obtain rfl := hd 3 (by kernel_rfl)
  obtain rfl := hd 4 (by kernel_rfl)
  go_simp
  exact hK.out _ _ (Below.refl _ _) rfl
 case pfl3 => (intro f hf; cases hf)
 case pend3 =>
 intro w1 hb1 hR hD
 obtain rfl := hR 0 (by decide)
 obtain ⟨a1x, e1x, rfl, hN1⟩ := hR 1 (by decide)
 obtain rfl := hR 2 (by decide)
 obtain rfl := hR 3 (by decide)
 obtain rfl := hR 4 (by decide)
 obtain rfl := hR 5 (by decide)
 clear hR hD
 refine wpAny_done (by kernel_rfl) ?_ _
 replace E := E.next hb1
 clear hN1 hb1
 obtain ⟨W4, rfl⟩ : ∃ W4 : World, W4 = w1 := ⟨_, rfl⟩
 obtain ⟨k0c0, k0c1, k0f0, k0f1⟩ := E.box 0 (b := B5) (v0 := .bool (decide (h1 < 0))) (v1 := .slice a5 (dig 18446744073709551616 (h1).natAbs).length c5) rfl; obtain ⟨k1c0, k1c1, k1f0, k1f1⟩ := E.box 1 (b := b10) (v0 := .bool (decide (q < 0))) (v1 := .slice aq (dig 18446744073709551616 (q).natAbs).length cq) rfl; obtain ⟨k2c0, k2c1, k2f0, k2f1⟩ := E.box 2 (b := b11) (v0 := .bool (decide (r < 0))) (v1 := .slice ar (dig 18446744073709551616 (r).natAbs).length cr) rfl; obtain ⟨k3c0, k3c1, k3f0, k3f1⟩ := E.box 3 (b := (w.heap.size + 1)) (v0 := .bool false) (v1 := .slice none 0 0) rfl
 by_cases hs1 : s1 = 0
 ·as_aux_lemma =>
   have eg : g1s = 0 := by rw [← hg1s, hs1]; rfl
   have hzz := HZ1.out hs1
   clear hg1s hs1 HZ1 HZ2 HZ3 HZ4
   subst eg
   have HZZ := Lib.hid hzz
   go_wp2
   refine bodyPost_ret (v := .agg #[.bool (decide (h1 < 0)), .slice a5 (dig 18446744073709551616 (h1).natAbs).length c5]) (by rw [nres_c1 rfl]; go_simp) rfl ?_
   have E9 := (E.sub [(w.heap.size + 1, .bool false, .slice none 0 0)] (by simp)).store (by simp) (by omega) bool_int slice_int (.bool (decide (h1 < 0))) (.slice a5 (dig 18446744073709551616 (h1).natAbs).length c5)
   rw [HZZ.out]
   exact ⟨_, _, rfl, E9.num 0 rfl, E9.bel⟩
 ·as_aux_lemma =>
   have eg : ¬ g1s = 0 := by rw [← hg1s]; unfold sgnI; split <;> omega
   have egb : (g1s != 0) = true := by simp; exact eg
   clear hg1s
   go_upto_region 6 with fail
   (try simp only [egb])
   clear eg egb
   obtain ⟨W6, rfl⟩ : ∃ W6 : World, W6 = W4 := ⟨_, rfl⟩
   (try clear k0c0 k0c1 k0f0 k0f1); (try clear k1c0 k1c1 k1f0 k1f1); (try clear k2c0 k2c1 k2f0 k2f1); (try clear k3c0 k3c1 k3f0 k3f1); (try clear k4c0 k4c1 k4f0 k4f1); (try clear k5c0 k5c1 k5f0 k5f1)
   have HLT := Lib.hid (fun p hp => (E.boxes p hp).2)
   have HB0 := Lib.hid E.hB
   refine wp_region_parts2 (w := W6) 4 1 none [] [(fun u _ => u = .agg #[.bool (decide (h1 < 0)), .slice a5 (dig 18446744073709551616 (h1).natAbs).length c5]), ((IsZ (1))), ((IsZ (up))), ((IsBox W6 (.bool false) (.slice none 0 0)))] [some 28, some 29, some 30, some 7, none] #[true, true, true, true, false] #[true, true, true, true, false] (by kernel_rfl) rfl (by kernel_rfl) (by kernel_rfl) rfl (by kernel_rfl) (by kernel_rfl) (.cons (carries_eq _) (.cons (isZ_carries _) (.cons (isZ_carries _) (.cons (isBox_carries _ _ _) .nil)))) (fun vs b hvl hvb => ?_)
   obtain ⟨x0, x1, x2, x3, x4, rfl⟩ : ∃ x0 x1 x2 x3 x4, vs = [x0, x1, x2, x3, x4] := lst5 hvl
   clear hvl
   simp only [putAll, Act.put, List.setIfInBounds_toArray, List.set_cons_zero, List.set_cons_succ] at hvb
   subst hvb
   refine ⟨(.snoc (.snoc (.snoc (.snoc .zero (PartOb.intro (d := (some 28)) (r := fun u _ => u = .agg #[.bool (decide (h1 < 0)), .slice a5 (dig 18446744073709551616 (h1).natAbs).length c5]) rfl rfl rfl rfl ?po6x0)) (PartOb.intro (d := (some 29)) (r := (IsZ (1))) rfl rfl rfl rfl ?po6x1)) (PartOb.intro (d := (some 30)) (r := (IsZ (up))) rfl rfl rfl rfl ?po6x2)) (PartOb.intro (d := (some 7)) (r := (IsBox W6 (.bool false) (.slice none 0 0))) rfl rfl rfl rfl ?po6x3)), ?pend6, ?pfl6⟩
   case po6x0 =>
    intro w1 hb1 hd KK hK
    obtain ⟨l0c0, l0c1, l0f0, l0f1⟩ := (E.next hb1).box 0 (b := B5) (v0 := .bool (decide (h1 < 0))) (v1 := .slice a5 (dig 18446744073709551616 (h1).natAbs).length c5) rfl
    go_simp
    exact hK.out _ _ (Below.refl _ _) rfl
   case po6x1 =>
    intro w1 hb1 hd KK hK
    go_simp
    go_at_call 26
    refine (HON _).out.mono ?_
    rintro e w2 ⟨a2, c2, rfl, hN2, hb2⟩
    (try go_wp2_with fail)
    exact hK.out _ _ hb2 ⟨a2, c2, rfl, hN2⟩
   case po6x2 =>
    intro w1 hb1 hd KK hK
    obtain rfl := hd 0 (by kernel_rfl)
    obtain ⟨a1x, e1x, rfl, hN1⟩ := hd 1 (by kernel_rfl)
    go_simp
    go_at_call 24
    refine (HPL _ _ _ _ w1 ((E.next hb1).num 0 rfl) hN1).out.mono ?_
    rintro e w2 ⟨a2, c2, rfl, hN2, hb2⟩
    (try go_wp2_with fail)
    exact hK.out _ _ hb2 ⟨a2, c2, rfl, hN2⟩
   case po6x3 =>
    intro w1 hb1 hd KK hK
    go_simp
    exact hK.out _ _ ((Below.refl _ _).alloc (Nat.le_refl _) _) ⟨w1.heap.size, rfl, hb1.size, by simp, by constructor <;> go_simp⟩
   case pfl6 => (intro f hf; cases hf)
   case pend6 =>
   intro w1 hb1 hR hD
   obtain rfl := hR 0 (by decide)
   obtain ⟨a1x, e1x, rfl, hN1⟩ := hR 1 (by decide)
   obtain ⟨a2x, e2x, rfl, hN2⟩ := hR 2 (by decide)
   obtain ⟨b3, rfl, hle3, hlt3, hX3⟩ := hR 3 (by decide)
   clear hR hD
   refine wpAny_ready (rs := [4]) (by kernel_rfl) (by simp) (AllReady.cons rfl (fun KK hK => ?_) AllReady.nil)
   have E1 := (((E.next hb1).addN hN2).addB hX3).store (fun p hp => Nat.ne_of_lt (Nat.lt_of_lt_of_le (HLT.out p hp) hle3)) (Nat.le_trans HB0.out hle3) bool_int slice_int (.bool (decide (up < 0))) (.slice a2x (dig 18446744073709551616 (up).natAbs).length e2x)
   obtain ⟨m0c0, m0c1, m0f0, m0f1⟩ := hX3
   go_simp
   refine hK _ _ ?_
   clear hK KK
   refine wpAny_done (by kernel_rfl) ?_ _
   clear hN1 hN2 hb1 E HLT HB0 m0c0 m0c1 m0f0 m0f1
   have E := E1
   clear E1
   obtain ⟨W7, hW7⟩ := envZ E
   rw [hW7] at E ⊢
   clear hW7
   obtain ⟨au, rfl⟩ : ∃ au, au = a2x := ⟨_, rfl⟩
   obtain ⟨cu, rfl⟩ : ∃ cu, cu = e2x := ⟨_, rfl⟩
   obtain ⟨k0c0, k0c1, k0f0, k0f1⟩ := E.box 0 (b := b3) (v0 := .bool (decide (up < 0))) (v1 := .slice au (dig 18446744073709551616 (up).natAbs).length cu) rfl; obtain ⟨k1c0, k1c1, k1f0, k1f1⟩ := E.box 1 (b := B5) (v0 := .bool (decide (h1 < 0))) (v1 := .slice a5 (dig 18446744073709551616 (h1).natAbs).length c5) rfl; obtain ⟨k2c0, k2c1, k2f0, k2f1⟩ := E.box 2 (b := b10) (v0 := .bool (decide (q < 0))) (v1 := .slice aq (dig 18446744073709551616 (q).natAbs).length cq) rfl; obtain ⟨k3c0, k3c1, k3f0, k3f1⟩ := E.box 3 (b := b11) (v0 := .bool (decide (r < 0))) (v1 := .slice ar (dig 18446744073709551616 (r).natAbs).length cr) rfl; obtain ⟨k4c0, k4c1, k4f0, k4f1⟩ := E.box 4 (b := (w.heap.size + 1)) (v0 := .bool false) (v1 := .slice none 0 0) rfl
   by_cases hr0 : r = 0
   ·as_aux_lemma =>
     rw [decide_eq_true hr0] at HZR
     have HR0 := Lib.hid hr0
     clear hr0
     go_upto_region 9 with (go_at_call 95; refine (HZR _ _ _).out.mono ?_; rintro e w8 ⟨rfl, hb8⟩; replace E := E.next hb8; clear hb8; (try clear k0c0 k0c1 k0f0 k0f1); (try clear k1c0 k1c1 k1f0 k1f1); (try clear k2c0 k2c1 k2f0 k2f1); (try clear k3c0 k3c1 k3f0 k3f1); (try clear k4c0 k4c1 k4f0 k4f1); obtain ⟨k0c0, k0c1, k0f0, k0f1⟩ := E.box 0 (b := b3) (v0 := .bool (decide (up < 0))) (v1 := .slice au (dig 18446744073709551616 (up).natAbs).length cu) rfl; obtain ⟨k1c0, k1c1, k1f0, k1f1⟩ := E.box 1 (b := B5) (v0 := .bool (decide (h1 < 0))) (v1 := .slice a5 (dig 18446744073709551616 (h1).natAbs).length c5) rfl; obtain ⟨k2c0, k2c1, k2f0, k2f1⟩ := E.box 2 (b := b10) (v0 := .bool (decide (q < 0))) (v1 := .slice aq (dig 18446744073709551616 (q).natAbs).length cq) rfl; obtain ⟨k3c0, k3c1, k3f0, k3f1⟩ := E.box 3 (b := b11) (v0 := .bool (decide (r < 0))) (v1 := .slice ar (dig 18446744073709551616 (r).natAbs).length cr) rfl; obtain ⟨k4c0, k4c1, k4f0, k4f1⟩ := E.box 4 (b := (w.heap.size + 1)) (v0 := .bool false) (v1 := .slice none 0 0) rfl)
     clear HZ1 HZ2
     obtain ⟨W9, rfl⟩ : ∃ W9 : World, W9 = w8 := ⟨_, rfl⟩
     (try clear k0c0 k0c1 k0f0 k0f1); (try clear k1c0 k1c1 k1f0 k1f1); (try clear k2c0 k2c1 k2f0 k2f1); (try clear k3c0 k3c1 k3f0 k3f1); (try clear k4c0 k4c1 k4f0 k4f1); (try clear k5c0 k5c1 k5f0 k5f1)
     obtain ⟨g2s, hg2s⟩ : ∃ g, sgnI s2 = g := ⟨_, rfl⟩
     rw [hg2s] at HC2
     refine wp_region_parts2 (w := W9) 6 0 none [] [(fun u _ => u = .agg #[.bool (decide (h1 < 0)), .slice a5 (dig 18446744073709551616 (h1).natAbs).length c5]), ((IsZ (g1))), ((IsZ (g2))), (fun u _ => u = .agg #[.bool (decide (h1 < 0)), .slice a5 (dig 18446744073709551616 (h1).natAbs).length c5]), (fun u _ => u = .int .i64 g2s), (fun u _ => u = .bool (g2s == 0))] [some 35, some 36, some 37, some 38, some 39, some 40] #[true, true, true, true, true, true] #[true, true, true, true, true, true] (by kernel_rfl) rfl (by kernel_rfl) (by kernel_rfl) rfl (by kernel_rfl) (by kernel_rfl) (.cons (carries_eq _) (.cons (isZ_carries _) (.cons (isZ_carries _) (.cons (carries_eq _) (.cons (carries_eq _) (.cons (carries_eq _) .nil)))))) (fun vs b hvl hvb => ?_)
     obtain ⟨x0, x1, x2, x3, x4, x5, rfl⟩ : ∃ x0 x1 x2 x3 x4 x5, vs = [x0, x1, x2, x3, x4, x5] := lst6 hvl
     clear hvl
     simp only [putAll, Act.put, List.setIfInBounds_toArray, List.set_cons_zero, List.set_cons_succ] at hvb
     subst hvb
     refine ⟨(.snoc (.snoc (.snoc (.snoc (.snoc (.snoc .zero (PartOb.intro (d := (some 35)) (r := fun u _ => u = .agg #[.bool (decide (h1 < 0)), .slice a5 (dig 18446744073709551616 (h1).natAbs).length c5]) rfl rfl rfl rfl ?po9x0)) (PartOb.intro (d := (some 36)) (r := (IsZ (g1))) rfl rfl rfl rfl ?po9x1)) (PartOb.intro (d := (some 37)) (r := (IsZ (g2))) rfl rfl rfl rfl ?po9x2)) (PartOb.intro (d := (some 38)) (r := fun u _ => u = .agg #[.bool (decide (h1 < 0)), .slice a5 (dig 18446744073709551616 (h1).natAbs).length c5]) rfl rfl rfl rfl ?po9x3)) (PartOb.intro (d := (some 39)) (r := fun u _ => u = .int .i64 g2s) rfl rfl rfl rfl ?po9x4)) (PartOb.intro (d := (some 40)) (r := fun u _ => u = .bool (g2s == 0)) rfl rfl rfl rfl ?po9x5)), ?pend9, ?pfl9⟩
     case po9x0 | po9x3 =>
      intro w1 hb1 hd KK hK
      obtain ⟨l1c0, l1c1, l1f0, l1f1⟩ := (E.next hb1).box 1 (b := B5) (v0 := .bool (decide (h1 < 0))) (v1 := .slice a5 (dig 18446744073709551616 (h1).natAbs).length c5) rfl
      go_simp
      exact hK.out _ _ (Below.refl _ _) rfl
     case po9x1 =>
      intro w1 hb1 hd KK hK
      obtain rfl := hd 0 (by kernel_rfl)
      go_simp
      go_at_call 93
      refine (HR2 _ _ w1 ((E.next hb1).num 1 rfl)).out.mono ?_
      rintro e w2 ⟨a2, c2, rfl, hN2, hb2⟩
      (try go_wp2_with fail)
      exact hK.out _ _ hb2 ⟨a2, c2, rfl, hN2⟩
     case po9x2 =>
      intro w1 hb1 hd KK hK
      obtain ⟨a1x, e1x, rfl, hN1⟩ := hd 1 (by kernel_rfl)
      go_simp
      go_at_call 92
      refine (HL3 _ _ w1 hN1).out.mono ?_
      rintro e w2 ⟨a2, c2, rfl, hN2, hb2⟩
      (try go_wp2_with fail)
      exact hK.out _ _ hb2 ⟨a2, c2, rfl, hN2⟩
     case po9x4 =>
      intro w1 hb1 hd KK hK
      obtain ⟨a2x, e2x, rfl, hN2⟩ := hd 2 (by kernel_rfl)
      obtain rfl := hd 3 (by kernel_rfl)
      go_simp
      go_at_call 94
      refine (HC2 _ _ _ _ w1 hN2 ((E.next hb1).num 1 rfl)).out.mono ?_
      rintro e w2 ⟨rfl, hb2⟩
      (try go_wp2_with fail)
      exact hK.out _ _ hb2 rfl
     case po9x5 =>
      intro w1 hb1 hd KK hK
      obtain rfl := hd 4 (by kernel_rfl)
      go_simp
      exact hK.out _ _ (Below.refl _ _) rfl
     case pfl9 => (intro f hf; cases hf)
     case pend9 =>
     intro w1 hb1 hR hD
     obtain rfl := hR 0 (by decide)
     obtain ⟨a1x, e1x, rfl, hN1⟩ := hR 1 (by decide)
     obtain ⟨a2x, e2x, rfl, hN2⟩ := hR 2 (by decide)
     obtain rfl := hR 3 (by decide)
     obtain rfl := hR 4 (by decide)
     obtain rfl := hR 5 (by decide)
     clear hR hD
     refine wpAny_done (by kernel_rfl) ?_ _
     replace E := E.next hb1
     clear hN1 hN2 hb1
     obtain ⟨W10, rfl⟩ : ∃ W10 : World, W10 = w1 := ⟨_, rfl⟩
     obtain ⟨k0c0, k0c1, k0f0, k0f1⟩ := E.box 0 (b := b3) (v0 := .bool (decide (up < 0))) (v1 := .slice au (dig 18446744073709551616 (up).natAbs).length cu) rfl; obtain ⟨k1c0, k1c1, k1f0, k1f1⟩ := E.box 1 (b := B5) (v0 := .bool (decide (h1 < 0))) (v1 := .slice a5 (dig 18446744073709551616 (h1).natAbs).length c5) rfl; obtain ⟨k2c0, k2c1, k2f0, k2f1⟩ := E.box 2 (b := b10) (v0 := .bool (decide (q < 0))) (v1 := .slice aq (dig 18446744073709551616 (q).natAbs).length cq) rfl; obtain ⟨k3c0, k3c1, k3f0, k3f1⟩ := E.box 3 (b := b11) (v0 := .bool (decide (r < 0))) (v1 := .slice ar (dig 18446744073709551616 (r).natAbs).length cr) rfl; obtain ⟨k4c0, k4c1, k4f0, k4f1⟩ := E.box 4 (b := (w.heap.size + 1)) (v0 := .bool false) (v1 := .slice none 0 0) rfl
     by_cases hs2 : s2 = 0
     ·as_aux_lemma =>
       have eg : g2s = 0 := by rw [← hg2s, hs2]; rfl
       have hzz := HZ3.out hs1 HR0.out hs2
       clear hg2s hs2 hs1 HZ3 HZ4
       subst eg
       have HZZ := Lib.hid hzz
       go_wp2
       refine bodyPost_ret (v := .agg #[.bool (decide (h1 < 0)), .slice a5 (dig 18446744073709551616 (h1).natAbs).length c5]) (by rw [nres_c1 rfl]; go_simp) rfl ?_
       have E9 := (E.sub [(w.heap.size + 1, .bool false, .slice none 0 0)] (by simp)).store (by simp) (by omega) bool_int slice_int (.bool (decide (h1 < 0))) (.slice a5 (dig 18446744073709551616 (h1).natAbs).length c5)
       rw [HZZ.out]
       exact ⟨_, _, rfl, E9.num 1 rfl, E9.bel⟩
     ·as_aux_lemma =>
       have eg : ¬ g2s = 0 := by rw [← hg2s]; unfold sgnI; split <;> omega
       have egb : (g2s == 0) = false := by simp; exact eg
       have hzz := HZ4.out hs1 HR0.out hs2
       clear hg2s hs2 hs1 HZ3 HZ4
       have HZZ := Lib.hid hzz
       go_wp2
       refine bodyPost_ret (v := .agg #[.bool (decide (up < 0)), .slice au (dig 18446744073709551616 (up).natAbs).length cu]) (by rw [nres_c1 rfl]; go_simp) rfl ?_
       have E9 := (E.sub [(w.heap.size + 1, .bool false, .slice none 0 0)] (by simp)).store (by simp) (by omega) bool_int slice_int (.bool (decide (up < 0))) (.slice au (dig 18446744073709551616 (up).natAbs).length cu)
       rw [HZZ.out]
       exact ⟨_, _, rfl, E9.num 0 rfl, E9.bel⟩
   ·as_aux_lemma =>
     rw [decide_eq_false hr0] at HZR
     have hzz := HZ2.out hs1 hr0
     have HZZ := Lib.hid hzz
     clear hr0 hs1 HZ1 HZ2 HZ3 HZ4 hzz
     go_wp2_with (go_at_call 95; refine (HZR _ _ _).out.mono ?_; rintro e w8 ⟨rfl, hb8⟩; replace E := E.next hb8; clear hb8; (try clear k0c0 k0c1 k0f0 k0f1); (try clear k1c0 k1c1 k1f0 k1f1); (try clear k2c0 k2c1 k2f0 k2f1); (try clear k3c0 k3c1 k3f0 k3f1); (try clear k4c0 k4c1 k4f0 k4f1); obtain ⟨k0c0, k0c1, k0f0, k0f1⟩ := E.box 0 (b := b3) (v0 := .bool (decide (up < 0))) (v1 := .slice au (dig 18446744073709551616 (up).natAbs).length cu) rfl; obtain ⟨k1c0, k1c1, k1f0, k1f1⟩ := E.box 1 (b := B5) (v0 := .bool (decide (h1 < 0))) (v1 := .slice a5 (dig 18446744073709551616 (h1).natAbs).length c5) rfl; obtain ⟨k2c0, k2c1, k2f0, k2f1⟩ := E.box 2 (b := b10) (v0 := .bool (decide (q < 0))) (v1 := .slice aq (dig 18446744073709551616 (q).natAbs).length cq) rfl; obtain ⟨k3c0, k3c1, k3f0, k3f1⟩ := E.box 3 (b := b11) (v0 := .bool (decide (r < 0))) (v1 := .slice ar (dig 18446744073709551616 (r).natAbs).length cr) rfl; obtain ⟨k4c0, k4c1, k4f0, k4f1⟩ := E.box 4 (b := (w.heap.size + 1)) (v0 := .bool false) (v1 := .slice none 0 0) rfl)
     refine bodyPost_ret (v := .agg #[.bool (decide (up < 0)), .slice au (dig 18446744073709551616 (up).natAbs).length cu]) (by rw [nres_c1 rfl]; go_simp) rfl ?_
     have E9 := (E.sub [(w.heap.size + 1, .bool false, .slice none 0 0)] (by simp)).store (by simp) (by omega) bool_int slice_int (.bool (decide (up < 0))) (.slice au (dig 18446744073709551616 (up).natAbs).length cu)
     rw [HZZ.out]
     exact ⟨_, _, rfl, E9.num 0 rfl, E9.bel⟩
end Go.Proofs.YtadlnmckcnfacaaGreat
namespace Go.Proofs.YtadlnmckcnfacaaGreat
open Go.RowKit Go.Rt
set_option maxRecDepth 100000
set_option maxHeartbeats 1000000 in
theorem ref2Near_any (a b : Option Addr) (c d m K : Nat) (x z : Int) (w : World) (h : NAt w w.heap.size a c x.natAbs) (h' : NAt w w.heap.size b d m) (hK : K ≤ 1000000 - 8) (hx : x.natAbs < 2 ^ K) (hm : m < 2 ^ K) (hm0 : 0 < m) (hz : nearZ x m = z) :
  Calls Tryz.prog 27 #[.agg #[.bool (decide (x < 0)), .slice a (dig 18446744073709551616 x.natAbs).length c, .slice b (dig 18446744073709551616 m).length d]] w fun e w' => RetV (wordV z) (wordE z) e ∧ Below w.heap.size w w' := by
 have hn := fun w' (hb : Below w.heap.size w w') => Lib.hid (near_any a b c d m K x z w' (h.next hb) (h'.next hb) hK hx hm hm0 hz)
 have hw := fun a c w h => Lib.hid (ref2Word_any a c z w h)
 obtain ⟨V, hV⟩ : ∃ y, wordV z = y := ⟨_, rfl⟩
 obtain ⟨E, hE⟩ : ∃ y, wordE z = y := ⟨_, rfl⟩
 rw [hV, hE] at hw ⊢
 clear h h' hx hm hm0 hz hV hE
 generalize decide (x < 0) = s at *
 generalize dig 18446744073709551616 x.natAbs = X at *
 generalize dig 18446744073709551616 m = Y at *
 go_enter Tryz.func27, Tryz.ntmps27
 go_wp2_with (first | (go_at_call 62; refine (hn _ (by (repeat' (first | exact Below.refl _ _ | refine Below.drew ?_ | refine Below.setCell ?_ (by first | omega | (simp <;> omega)) _ | refine Below.alloc ?_ (by first | omega | (simp <;> omega)) _)))).out.mono ?_; rintro e w1 ⟨a1, c1, rfl, hN1, hb⟩; have HN1 := Lib.hid hN1; have HB1 : Hid (Below w.heap.size w w1) := Lib.hid (Below.trans (by (repeat' (first | exact Below.refl _ _ | refine Below.drew ?_ | refine Below.setCell ?_ (by first | omega | (simp <;> omega)) _ | refine Below.alloc ?_ (by first | omega | (simp <;> omega)) _))) (hb.mono (by first | omega | (simp <;> omega)))); clear hb hN1) | (go_at_call 61; refine (hw _ _ _ HN1.out).out.mono ?_; rintro e w2 ⟨he, hb⟩; unfold RetV at he; subst he; have HB2 := Lib.hid (HB1.out.trans (hb.mono HB1.out.size)); clear hb))
 exact bodyPost_ret (by rw [results_tmp2 rfl]; go_simp) rfl ⟨rfl, HB2.out⟩
end Go.Proofs.YtadlnmckcnfacaaGreat
