/- Walks of the references' rational numbers: lowest terms. -/
import Derived.Test.YtddhhfhammmaaaaGreatN19
import Derived.BigQuiet
import Derived.WalkMore
import Derived.Deep.RegionHeld3
import Derived.Deep.RegionWith
import Derived.BigRegion
import Derived.Deep.Cut
import Derived.Deep.CutBlock
import Derived.Deep.CutRange
set_option linter.unusedVariables false
set_option linter.unusedSimpArgs false
namespace Go.Proofs.YtddhhfhammmaaaaGreat
open Go.RowKit Go.Rt

structure NBox3 (w : World) (b : Nat) (v0 v1 v2 : Value) : Prop where
  c0 : w.cell? ⟨b, 0, none⟩ = some v0
  c1 : w.cell? ⟨b, 1, none⟩ = some v1
  c2 : w.cell? ⟨b, 2, none⟩ = some v2
  f0 : w.frozen? ⟨b, 0, none⟩ = false
  f1 : w.frozen? ⟨b, 1, none⟩ = false
  f2 : w.frozen? ⟨b, 2, none⟩ = false
theorem NBox3.below {w w' : World} {b n : Nat} {v0 v1 v2 : Value} (h : NBox3 w b v0 v1 v2) (hb : Below n w w') (hn : b < n) : NBox3 w' b v0 v1 v2 :=
  ⟨(hb.cell (p := ⟨b, 0, none⟩) hn).trans h.c0, (hb.cell (p := ⟨b, 1, none⟩) hn).trans h.c1, (hb.cell (p := ⟨b, 2, none⟩) hn).trans h.c2, (hb.frozen (p := ⟨b, 0, none⟩) hn).trans h.f0, (hb.frozen (p := ⟨b, 1, none⟩) hn).trans h.f1, (hb.frozen (p := ⟨b, 2, none⟩) hn).trans h.f2⟩
/-- A rational number handed back. -/
def RetR (w : World) (x : Int) (m : Nat) (e : Ending) (w' : World) : Prop := ∃ a c b d, e = .returned (.agg #[.bool (decide (x < 0)), .slice a (dig 18446744073709551616 x.natAbs).length c, .slice b (dig 18446744073709551616 m).length d]) ∧ NAt w' w'.heap.size a c x.natAbs ∧ NAt w' w'.heap.size b d m ∧ Below w.heap.size w w'
theorem nat_set3 {w : World} {a : Option Addr} {c m b : Nat} {v0 v1 v2 y0 y1 y2 : Value} (h : NAt w w.heap.size a c m) (hX : NBox3 w b v0 v1 v2) (h0 : ∀ x, v0 ≠ .int .u64 x) (h1 : ∀ x, v1 ≠ .int .u64 x) (h2 : ∀ x, v2 ≠ .int .u64 x) :
    NAt (((w.setCell ⟨b, 0, none⟩ y0).setCell ⟨b, 1, none⟩ y1).setCell ⟨b, 2, none⟩ y2) (((w.setCell ⟨b, 0, none⟩ y0).setCell ⟨b, 1, none⟩ y1).setCell ⟨b, 2, none⟩ y2).heap.size a c m := by
  obtain ⟨c0, c1, c2, f0, f1, f2⟩ := hX
  refine nat_set (v := v2) (nat_set (v := v1) (nat_set h c0 h0) ?_ h1) ?_ h2 <;> go_simp
set_option maxHeartbeats 8000000 in
set_option maxRecDepth 100000 in
theorem rmake_any (a b : Option Addr) (c d m K : Nat) (x q : Int) (k : Nat) (w : World) (h : NAt w w.heap.size a c x.natAbs) (h' : NAt w w.heap.size b d m) (hK : K ≤ 1000000) (hx : x.natAbs < 2 ^ K) (hm : m < 2 ^ K) (hm0 : 0 < m) (hq : sgnZ (decide (x < 0)) (x.natAbs / Nat.gcd x.natAbs m) = q) (hk : m / Nat.gcd x.natAbs m = k) :
    Calls Tryz.prog 26 #[.agg #[.bool (decide (x < 0)), .slice a (dig 18446744073709551616 x.natAbs).length c], .slice b (dig 18446744073709551616 m).length d] w (RetR w q k) := by
  have hx4 := dig_fits K hx (by omega)
  have hm4 := dig_fits K hm (by omega)
  obtain ⟨G, hG⟩ : ∃ G, Nat.gcd x.natAbs m = G := ⟨_, rfl⟩
  have hG0 : 0 < G := by rw [← hG]; exact Nat.gcd_pos_of_pos_right _ hm0
  have hGm : G ≤ m := by rw [← hG]; exact Nat.gcd_le_right _ hm0
  have hG4 := Nat.le_trans (dig_len_mono (B := 18446744073709551616) (by decide) hGm) hm4
  have HG := fun w' (hb : Below w.heap.size w w') => Lib.hid (ngcd_any a b c d x.natAbs m w' (h.next hb) (h'.next hb) hx4 hm4)
  rw [hG] at HG
  have HD1 := fun a b c d w h h2 => Lib.hid (ndivide_any a b c d x.natAbs G w h h2 hx4 hG4 hG0)
  have HD2 := fun a b c d w h h2 => Lib.hid (ndivide_any a b c d m G w h h2 hm4 hG4 hG0)
  have HMD := fun a c w h => Lib.hid (made_any (decide (x < 0)) a c (x.natAbs / G) w h)
  obtain ⟨z, hz⟩ : ∃ z, sgnZ (decide (x < 0)) (x.natAbs / G) = z := ⟨_, rfl⟩
  rw [hz] at HMD
  rw [hG] at hq hk
  rw [hz] at hq
  subst hq
  subst hk
  obtain ⟨xq, hxq⟩ : ∃ q, x.natAbs / G = q := ⟨_, rfl⟩
  obtain ⟨xr, hxr⟩ : ∃ q, x.natAbs % G = q := ⟨_, rfl⟩
  obtain ⟨mq, hmq⟩ : ∃ q, m / G = q := ⟨_, rfl⟩
  obtain ⟨mr, hmr⟩ : ∃ q, m % G = q := ⟨_, rfl⟩
  rw [hxq, hxr] at HD1
  rw [hmq, hmr] at HD2
  rw [hmq]
  rw [hxq] at HMD
  have HA := Lib.hid h
  have HB := Lib.hid h'
  clear hx4 hm4 hG hG0 hGm hG4 hz hxq hxr hmq hmr hx hm hm0 h h'
  generalize hsx : decide (x < 0) = sx at *
  generalize hX : dig 18446744073709551616 x.natAbs = X at *
  generalize hY : dig 18446744073709551616 m = Y at *
  have HSX := Lib.hid hsx
  have HXE := Lib.hid hX
  have HYE := Lib.hid hY
  clear hsx hX hY
  go_enter Tryz.func26, Tryz.ntmps26
  go_wp2_with (first | (go_at_call 58; refine (HG _ (by (repeat' (first | exact Below.refl _ _ | refine Below.drew ?_ | refine Below.setCell ?_ (by first | omega | (simp <;> omega)) _ | refine Below.alloc ?_ (by first | omega | (simp <;> omega)) _)))).out.mono ?_; rintro e w4 ⟨a4, c4, rfl, hN4, hb4⟩; have X0 := NBox2.below (b := w.heap.size) (v0 := .bool sx) (v1 := .slice a X.length c) (by constructor <;> go_simp) hb4 (by first | omega | (simp <;> omega)); have R3 := NBox3.below (b := w.heap.size + 1) (v0 := .bool false) (v1 := .slice none 0 0) (v2 := .slice none 0 0) (by constructor <;> go_simp) hb4 (by first | omega | (simp <;> omega)); have RL : w.heap.size + 1 < w4.heap.size := (by have := hb4.size; (try simp at this); omega); have E := (((ZEnv.start w).addN HA.out).addN HB.out).next (W' := w4) (Below.trans (by (repeat' (first | exact Below.refl _ _ | refine Below.drew ?_ | refine Below.setCell ?_ (by first | omega | (simp <;> omega)) _ | refine Below.alloc ?_ (by first | omega | (simp <;> omega)) _))) (hb4.mono (by first | omega | (simp <;> omega)))); replace E := (E.addN hN4).addB X0; clear X0 hN4 hb4; obtain ⟨k0c0, k0c1, k0f0, k0f1⟩ := E.box 0 (b := w.heap.size) (v0 := .bool sx) (v1 := .slice a X.length c) rfl; obtain ⟨r0, r1, r2, r3, r4, r5⟩ := R3; have R3 : NBox3 _ (w.heap.size + 1) (.bool false) (.slice none 0 0) (.slice none 0 0) := ⟨r0, r1, r2, r3, r4, r5⟩) | (go_at_call_of 59 a; refine (HD1 _ _ _ _ _ (E.num 2 rfl) (E.num 0 rfl)).out.mono ?_; rintro e w5 ⟨a5, c5, a6, c6, rfl, hN5, hN6, hb5⟩; replace E := (E.next hb5).addN hN5; replace R3 := R3.below hb5 (by first | omega | (simp <;> omega) | exact RL); replace RL := Nat.lt_of_lt_of_le RL hb5.size; (try clear r0 r1 r2 r3 r4 r5); obtain ⟨r0, r1, r2, r3, r4, r5⟩ := R3; replace R3 : NBox3 _ (w.heap.size + 1) (.bool false) (.slice none 0 0) (.slice none 0 0) := ⟨r0, r1, r2, r3, r4, r5⟩; clear hN5 hN6 hb5; (try clear k0c0 k0c1 k0f0 k0f1); obtain ⟨k0c0, k0c1, k0f0, k0f1⟩ := E.box 0 (b := w.heap.size) (v0 := .bool sx) (v1 := .slice a X.length c) rfl) | (go_at_call_of 59 b; refine (HD2 _ _ _ _ _ (E.num 2 rfl) (E.num 1 rfl)).out.mono ?_; rintro e w6 ⟨a7, c7, a8, c8, rfl, hN7, hN8, hb6⟩; replace E := (E.next hb6).addN hN7; replace R3 := R3.below hb6 (by first | omega | (simp <;> omega) | exact RL); replace RL := Nat.lt_of_lt_of_le RL hb6.size; (try clear r0 r1 r2 r3 r4 r5); obtain ⟨r0, r1, r2, r3, r4, r5⟩ := R3; replace R3 : NBox3 _ (w.heap.size + 1) (.bool false) (.slice none 0 0) (.slice none 0 0) := ⟨r0, r1, r2, r3, r4, r5⟩; clear hN7 hN8 hb6; (try clear k0c0 k0c1 k0f0 k0f1); obtain ⟨k0c0, k0c1, k0f0, k0f1⟩ := E.box 0 (b := w.heap.size) (v0 := .bool sx) (v1 := .slice a X.length c) rfl) | (go_at_call 48; refine (HMD _ _ _ (E.num 1 rfl)).out.mono ?_; rintro e w7 ⟨a9, c9, rfl, hN9, hb7⟩; replace E := (E.next hb7).addN hN9; replace R3 := R3.below hb7 (by first | omega | (simp <;> omega) | exact RL); replace RL := Nat.lt_of_lt_of_le RL hb7.size; (try clear r0 r1 r2 r3 r4 r5); obtain ⟨r0, r1, r2, r3, r4, r5⟩ := R3; replace R3 : NBox3 _ (w.heap.size + 1) (.bool false) (.slice none 0 0) (.slice none 0 0) := ⟨r0, r1, r2, r3, r4, r5⟩; clear hN9 hb7; (try clear k0c0 k0c1 k0f0 k0f1); obtain ⟨k0c0, k0c1, k0f0, k0f1⟩ := E.box 0 (b := w.heap.size) (v0 := .bool sx) (v1 := .slice a X.length c) rfl))
  refine bodyPost_ret (v := .agg #[.bool (decide (z < 0)), .slice a9 (dig 18446744073709551616 z.natAbs).length c9, .slice a7 (dig 18446744073709551616 mq).length c7]) (by rw [nres_c1 rfl]; go_simp) rfl ?_
  exact ⟨a9, c9, a7, c7, rfl, nat_set3 (E.num 0 rfl) R3 bool_int slice_int slice_int, nat_set3 (E.num 1 rfl) R3 bool_int slice_int slice_int, ((E.bel.setCell (by simp) _).setCell (by simp) _).setCell (by simp) _⟩
end Go.Proofs.YtddhhfhammmaaaaGreat
