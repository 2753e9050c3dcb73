/- Walks of the references' whole numbers: quotient and rest. -/
import Derived.Test.YtddhhfhammmaaaaGreatNDivP
import Derived.Test.YtddhhfhammmaaaaGreatParts
import Derived.Test.YtddhhfhammmaaaaGreatN16
import Derived.BigQuiet
import Derived.WalkMore
import Derived.Deep.RegionHeld3
import Derived.Deep.RegionWith
import Derived.BigRegion
import Derived.Deep.Cut
import Derived.Deep.CutBlock
import Derived.Deep.CutRange
set_option linter.unusedVariables false
set_option linter.unusedSimpArgs false
namespace Go.Proofs.YtddhhfhammmaaaaGreat
open Go.RowKit Go.Rt

def IsH (m : Nat) (u : Value) (w : World) : Prop := ∃ a c, u = .slice a (dig 4294967296 m).length c ∧ HAt w w.heap.size a c m
theorem isH_carries (m : Nat) : Carries (IsH m) := fun _ _ _ ⟨a, c, h, hN⟩ hb => ⟨a, c, h, hN.next hb⟩
def IsQR (m r : Nat) (u : Value) (w : World) : Prop := ∃ a c, u = .tuple #[.slice a (dig 4294967296 m).length c, .int .u32 (r : Int)] ∧ HAt w w.heap.size a c m
theorem isQR_carries (m r : Nat) : Carries (IsQR m r) := fun _ _ _ ⟨a, c, h, hN⟩ hb => ⟨a, c, h, hN.next hb⟩
/-- Two numbers handed back. -/
def RetNN (w : World) (m n : Nat) (e : Ending) (w' : World) : Prop := ∃ a c b d, e = .returned (.tuple #[.slice a (dig 18446744073709551616 m).length c, .slice b (dig 18446744073709551616 n).length d]) ∧ NAt w' w'.heap.size a c m ∧ NAt w' w'.heap.size b d n ∧ Below w.heap.size w w'
theorem stored_u64 {w : World} {base g n cap : Nat} {L : List Int} (h : w.ownsRow base 65 1 (.slice (some ⟨g, 0, none⟩) n cap) n (L.map (Value.int .u64))) (j : Nat) (x : Int) : (w.setCell ⟨g, j, none⟩ (.int .u64 x)).ownsRow base 65 1 (.slice (some ⟨g, 0, none⟩) n cap) n ((L.set j x).map (Value.int .u64)) := by
  have := (h.stored j (.int .u64 x)).1
  rwa [map_set] at this

set_option maxHeartbeats 8000000 in
set_option maxRecDepth 100000 in
theorem ndivide_any (a b : Option Addr) (c d m n : Nat) (w : World) (h : NAt w w.heap.size a c m) (h' : NAt w w.heap.size b d n) (hm : (dig 18446744073709551616 m).length ≤ 400000) (hn : (dig 18446744073709551616 n).length ≤ 400000) (hn0 : 0 < n) :
    Calls Tryz.prog 59 #[.slice a (dig 18446744073709551616 m).length c, .slice b (dig 18446744073709551616 n).length d] w (RetNN w (m / n) (m % n)) := by
  have hl1 := dig32_len n
  have hH := fun w' (hb : Below w.heap.size w w') => Lib.hid (halves_any b d n w' (h'.next hb) (by omega))
  have hH2 := fun w' (hb : Below w.heap.size w w') => Lib.hid (halves_any a c m w' (h.next hb) (by omega))
  by_cases hy1 : (dig 4294967296 n).length = 1
  · as_aux_lemma =>
      obtain ⟨hY1, hY2, hY3⟩ := dig32_one hy1
      have hSH := fun a c w2 h2 => Lib.hid (short_any a c m n w2 h2 (by have := dig32_len m; omega) hn0 hY3)
      have hsm : (dig 4294967296 (m / n)).length ≤ 1000000000 := Nat.le_trans (dig_len_mono (by decide) (Nat.div_le_self m n)) (by have := dig32_len m; omega)
      have hWH := fun a c w2 h2 => Lib.hid (nwhole_any a c (m / n) w2 h2 hsm)
      have hmod : m % n < 4294967296 := Nat.lt_trans (Nat.mod_lt _ hn0) hY3
      have hNO := fun w2 => Lib.hid (nof_any ((m % n : Nat) : Int) ⟨by omega, by omega⟩ w2)
      rw [Int.toNat_natCast] at hNO
      have ew : ∀ [Inhabited Unit], IntKind.u64.wrap ((m % n : Nat) : Int) = ((m % n : Nat) : Int) := by intro _; exact u64_same _ (by omega) (by omega)
      generalize hqq : m / n = q at *
      generalize hrr : m % n = r at *
      clear hqq hrr hmod hsm hm hn hl1
      go_enter Tryz.func59, Tryz.ntmps59
      go_upto_region 3 with (go_at_call 76; refine (hH w (Below.refl _ _)).out.mono ?_; rintro e w1 ⟨ay, cy, rfl, hY, hb1⟩; rw [hy1]; have hYl := hY.li; rw [hY1] at hYl; have hYc := hYl.cell 0 (by simp); obtain ⟨by', oy, ey, hyl, hyc⟩ := hYc; subst ey; have HYC : Hid (w1.cell? ⟨by', oy + 0, none⟩ = some (.int .u32 (n : Int))) := Lib.hid hyc; rw [Nat.add_zero] at HYC; clear hyc hYl hY)
      obtain ⟨W3, rfl⟩ : ∃ W3 : World, W3 = w1 := ⟨_, rfl⟩
      have HBW := Lib.hid hb1
      clear hb1
      refine wp_region_parts2 (w := W3) 11 0 none [] [(fun u _ => u = .slice a (dig 18446744073709551616 m).length c), ((IsH m)), (fun u _ => u = .slice (some ⟨by', oy, none⟩) 1 cy), (fun u _ => u = .pointer (some ⟨by', oy, none⟩)), (fun u _ => u = .int .u32 (n : Int)), ((IsQR q r)), ((IsQR q r)), ((IsH q)), (fun u _ => u = .int .u32 (r : Int)), ((IsH q)), (fun u _ => u = .int .u32 (r : Int))] [some 20, some 21, some 22, some 23, some 24, some 25, some 19, some 26, some 27, some 7, some 8] #[true, true, true, true, true, true, true, true, true, true, true] #[true, true, true, true, true, true, true, true, true, true, true] (by kernel_rfl) rfl (by kernel_rfl) (by kernel_rfl) rfl (by kernel_rfl) (by kernel_rfl) (.cons (carries_eq _) (.cons (isH_carries _) (.cons (carries_eq _) (.cons (carries_eq _) (.cons (carries_eq _) (.cons (isQR_carries _ _) (.cons (isQR_carries _ _) (.cons (isH_carries _) (.cons (carries_eq _) (.cons (isH_carries _) (.cons (carries_eq _) .nil))))))))))) (fun vs b hvl hvb => ?_)
      obtain ⟨x0, x1, x2, x3, x4, x5, x6, x7, x8, x9, x10, rfl⟩ : ∃ x0 x1 x2 x3 x4 x5 x6 x7 x8 x9 x10, vs = [x0, x1, x2, x3, x4, x5, x6, x7, x8, x9, x10] := lst11 hvl
      clear hvl
      simp only [putAll, Act.put, List.setIfInBounds_toArray, List.set_cons_zero, List.set_cons_succ] at hvb
      subst hvb
      refine ⟨(.snoc (.snoc (.snoc (.snoc (.snoc (.snoc (.snoc (.snoc (.snoc (.snoc (.snoc .zero (PartOb.intro (d := (some 20)) (r := fun u _ => u = .slice a (dig 18446744073709551616 m).length c) rfl rfl rfl rfl ?po3x0)) (PartOb.intro (d := (some 21)) (r := (IsH m)) rfl rfl rfl rfl ?po3x1)) (PartOb.intro (d := (some 22)) (r := fun u _ => u = .slice (some ⟨by', oy, none⟩) 1 cy) rfl rfl rfl rfl ?po3x2)) (PartOb.intro (d := (some 23)) (r := fun u _ => u = .pointer (some ⟨by', oy, none⟩)) rfl rfl rfl rfl ?po3x3)) (PartOb.intro (d := (some 24)) (r := fun u _ => u = .int .u32 (n : Int)) rfl rfl rfl rfl ?po3x4)) (PartOb.intro (d := (some 25)) (r := (IsQR q r)) rfl rfl rfl rfl ?po3x5)) (PartOb.intro (d := (some 19)) (r := (IsQR q r)) rfl rfl rfl rfl ?po3x6)) (PartOb.intro (d := (some 26)) (r := (IsH q)) rfl rfl rfl rfl ?po3x7)) (PartOb.intro (d := (some 27)) (r := fun u _ => u = .int .u32 (r : Int)) rfl rfl rfl rfl ?po3x8)) (PartOb.intro (d := (some 7)) (r := (IsH q)) rfl rfl rfl rfl ?po3x9)) (PartOb.intro (d := (some 8)) (r := fun u _ => u = .int .u32 (r : Int)) rfl rfl rfl rfl ?po3x10)), ?pend3, ?pfl3⟩
      case po3x0 =>
        intro w1 hb1 hd KK hK
        clear hd
        simp only [Act.put, List.setIfInBounds_toArray, List.set_cons_zero, List.set_cons_succ] at hK
        go_simp
        exact hK.out _ _ (Below.refl _ _) rfl
      case po3x1 =>
        intro w1 hb1 hd KK hK
        have d0 : x0 = .slice a (dig 18446744073709551616 m).length c := hd 0 (by kernel_rfl)
        clear hd
        subst d0
        simp only [Act.put, List.setIfInBounds_toArray, List.set_cons_zero, List.set_cons_succ] at hK
        go_simp
        go_at_call 76
        refine (hH2 w1 (HBW.out.trans (hb1.mono HBW.out.size))).out.mono ?_
        rintro e w2 ⟨a2, c2, rfl, hN2, hb2⟩
        (try go_wp2_with fail)
        exact hK.out _ _ hb2 ⟨a2, c2, rfl, hN2⟩
      case po3x2 =>
        intro w1 hb1 hd KK hK
        clear hd
        simp only [Act.put, List.setIfInBounds_toArray, List.set_cons_zero, List.set_cons_succ] at hK
        go_simp
        exact hK.out _ _ (Below.refl _ _) rfl
      case po3x3 =>
        intro w1 hb1 hd KK hK
        have d2 : x2 = .slice (some ⟨by', oy, none⟩) 1 cy := hd 2 (by kernel_rfl)
        clear hd
        subst d2
        simp only [Act.put, List.setIfInBounds_toArray, List.set_cons_zero, List.set_cons_succ] at hK
        go_simp
        exact hK.out _ _ (Below.refl _ _) rfl
      case po3x4 =>
        intro w1 hb1 hd KK hK
        have d3 : x3 = .pointer (some ⟨by', oy, none⟩) := hd 3 (by kernel_rfl)
        clear hd
        subst d3
        have hc := (hb1.cell (p := ⟨by', oy, none⟩) hyl).trans HYC.out
        simp only [Act.put, List.setIfInBounds_toArray, List.set_cons_zero, List.set_cons_succ] at hK
        go_simp
        exact hK.out _ _ (Below.refl _ _) rfl
      case po3x5 =>
        intro w1 hb1 hd KK hK
        have d1 : (IsH m) x1 w1 := hd 1 (by kernel_rfl)
        have d4 : x4 = .int .u32 (n : Int) := hd 4 (by kernel_rfl)
        clear hd
        obtain ⟨a1, e1, rfl, hN1⟩ := d1
        subst d4
        simp only [Act.put, List.setIfInBounds_toArray, List.set_cons_zero, List.set_cons_succ] at hK
        go_simp
        go_at_call 85
        refine (hSH a1 e1 w1 hN1).out.mono ?_
        rintro e w2 ⟨a2, c2, rfl, hN2, hb2⟩
        (try go_wp2_with fail)
        exact hK.out _ _ hb2 ⟨a2, c2, rfl, hN2⟩
      case po3x6 =>
        intro w1 hb1 hd KK hK
        have d5 : (IsQR q r) x5 w1 := hd 5 (by kernel_rfl)
        clear hd
        obtain ⟨a5, e5, rfl, hN5⟩ := d5
        simp only [Act.put, List.setIfInBounds_toArray, List.set_cons_zero, List.set_cons_succ] at hK
        go_simp
        exact hK.out _ _ (Below.refl _ _) ⟨_, _, rfl, hN5⟩
      case po3x7 =>
        intro w1 hb1 hd KK hK
        have d6 : (IsQR q r) x6 w1 := hd 6 (by kernel_rfl)
        clear hd
        obtain ⟨a6, e6, rfl, hN6⟩ := d6
        simp only [Act.put, List.setIfInBounds_toArray, List.set_cons_zero, List.set_cons_succ] at hK
        go_simp
        exact hK.out _ _ (Below.refl _ _) ⟨_, _, rfl, hN6⟩
      case po3x8 =>
        intro w1 hb1 hd KK hK
        have d6 : (IsQR q r) x6 w1 := hd 6 (by kernel_rfl)
        clear hd
        obtain ⟨a6, e6, rfl, hN6⟩ := d6
        simp only [Act.put, List.setIfInBounds_toArray, List.set_cons_zero, List.set_cons_succ] at hK
        go_simp
        exact hK.out _ _ (Below.refl _ _) rfl
      case po3x9 =>
        intro w1 hb1 hd KK hK
        have d0 : x0 = .slice a (dig 18446744073709551616 m).length c := hd 0 (by kernel_rfl)
        have d1 : (IsH m) x1 w1 := hd 1 (by kernel_rfl)
        have d2 : x2 = .slice (some ⟨by', oy, none⟩) 1 cy := hd 2 (by kernel_rfl)
        have d3 : x3 = .pointer (some ⟨by', oy, none⟩) := hd 3 (by kernel_rfl)
        have d4 : x4 = .int .u32 (n : Int) := hd 4 (by kernel_rfl)
        have d5 : (IsQR q r) x5 w1 := hd 5 (by kernel_rfl)
        have d6 : (IsQR q r) x6 w1 := hd 6 (by kernel_rfl)
        have d7 : (IsH q) x7 w1 := hd 7 (by kernel_rfl)
        clear hd
        subst d0
        obtain ⟨a1, e1, rfl, hN1⟩ := d1
        subst d2
        subst d3
        subst d4
        obtain ⟨a5, e5, rfl, hN5⟩ := d5
        obtain ⟨a6, e6, rfl, hN6⟩ := d6
        obtain ⟨a7, e7, rfl, hN7⟩ := d7
        simp only [Act.put, List.setIfInBounds_toArray, List.set_cons_zero, List.set_cons_succ] at hK
        go_simp
        exact hK.out _ _ (Below.refl _ _) ⟨_, _, rfl, hN7⟩
      case po3x10 =>
        intro w1 hb1 hd KK hK
        have d0 : x0 = .slice a (dig 18446744073709551616 m).length c := hd 0 (by kernel_rfl)
        have d1 : (IsH m) x1 w1 := hd 1 (by kernel_rfl)
        have d2 : x2 = .slice (some ⟨by', oy, none⟩) 1 cy := hd 2 (by kernel_rfl)
        have d3 : x3 = .pointer (some ⟨by', oy, none⟩) := hd 3 (by kernel_rfl)
        have d4 : x4 = .int .u32 (n : Int) := hd 4 (by kernel_rfl)
        have d5 : (IsQR q r) x5 w1 := hd 5 (by kernel_rfl)
        have d6 : (IsQR q r) x6 w1 := hd 6 (by kernel_rfl)
        have d7 : (IsH q) x7 w1 := hd 7 (by kernel_rfl)
        have d8 : x8 = .int .u32 (r : Int) := hd 8 (by kernel_rfl)
        have d9 : (IsH q) x9 w1 := hd 9 (by kernel_rfl)
        clear hd
        subst d0
        obtain ⟨a1, e1, rfl, hN1⟩ := d1
        subst d2
        subst d3
        subst d4
        obtain ⟨a5, e5, rfl, hN5⟩ := d5
        obtain ⟨a6, e6, rfl, hN6⟩ := d6
        obtain ⟨a7, e7, rfl, hN7⟩ := d7
        subst d8
        obtain ⟨a9, e9, rfl, hN9⟩ := d9
        simp only [Act.put, List.setIfInBounds_toArray, List.set_cons_zero, List.set_cons_succ] at hK
        go_simp
        exact hK.out _ _ (Below.refl _ _) rfl
      case pfl3 => (intro f hf; cases hf)
      case pend3 =>
      intro w1 hb1 hR hD
      have d0 : x0 = .slice a (dig 18446744073709551616 m).length c := hR 0 (by decide)
      have d1 : (IsH m) x1 w1 := hR 1 (by decide)
      have d2 : x2 = .slice (some ⟨by', oy, none⟩) 1 cy := hR 2 (by decide)
      have d3 : x3 = .pointer (some ⟨by', oy, none⟩) := hR 3 (by decide)
      have d4 : x4 = .int .u32 (n : Int) := hR 4 (by decide)
      have d5 : (IsQR q r) x5 w1 := hR 5 (by decide)
      have d6 : (IsQR q r) x6 w1 := hR 6 (by decide)
      have d7 : (IsH q) x7 w1 := hR 7 (by decide)
      have d8 : x8 = .int .u32 (r : Int) := hR 8 (by decide)
      have d9 : (IsH q) x9 w1 := hR 9 (by decide)
      have d10 : x10 = .int .u32 (r : Int) := hR 10 (by decide)
      clear hR hD
      subst d0
      obtain ⟨a1, e1, rfl, hN1⟩ := d1
      subst d2
      subst d3
      subst d4
      obtain ⟨a5, e5, rfl, hN5⟩ := d5
      obtain ⟨a6, e6, rfl, hN6⟩ := d6
      obtain ⟨a7, e7, rfl, hN7⟩ := d7
      subst d8
      obtain ⟨a9, e9, rfl, hN9⟩ := d9
      subst d10
      refine wpAny_done (by kernel_rfl) ?_ _
      go_wp2_with (first | (go_at_call 77; refine (hWH _ _ _ hN9).out.mono ?_; rintro e w4 ⟨a4, c4, rfl, hN4, hb4⟩) | (go_at_call 28; refine (hNO _).out.mono ?_; rintro e w5 ⟨a5, c5, rfl, hN5, hb5⟩))
      refine bodyPost_ret (v := .tuple #[.slice a4 (dig 18446744073709551616 q).length c4, .slice a5 (dig 18446744073709551616 r).length c5]) (by rw [results_tmp2 rfl]; go_simp) rfl ?_
      exact ⟨a4, c4, a5, c5, rfl, hN4.next hb5, hN5, (HBW.out.trans (hb1.mono HBW.out.size)).trans ((hb4.mono (Nat.le_trans HBW.out.size hb1.size)).trans (hb5.mono (Nat.le_trans HBW.out.size (Nat.le_trans hb1.size hb4.size))))⟩
  · have hyb : (((dig 4294967296 n).length : Int) == 1) = false := by simp; exact fun e => hy1 (by omega)
    have hLA := fun w' (hb : Below w.heap.size w w') => Lib.hid (nlen_any a c m w'.heap.size w' (h.next hb) (by omega))
    have hLB := fun w' (hb : Below w.heap.size w w') => Lib.hid (nlen_any b d n w'.heap.size w' (h'.next hb) (by omega))
    have hbm := blen_le m
    have hbn := blen_le n
    by_cases hlt : blen m < blen n
    · as_aux_lemma =>
        have hmn := div_small hn0 hlt
        have eq0 : m / n = 0 := Nat.div_eq_of_lt hmn
        have er0 : m % n = m := Nat.mod_eq_of_lt hmn
        rw [eq0, er0]
        have HN := Lib.hid h
        obtain ⟨Z, hZ⟩ : ∃ Z : Int, (blen m : Int) - (blen n : Int) = Z := ⟨_, rfl⟩
        have hz1 : Z < 0 := by omega
        have hz2 : -9223372036854775808 ≤ Z := by omega
        have e1 : ∀ [Inhabited Unit], RowKit.wrap64 Z = Z := by intro _; exact IntWalk.wrap64_in _ ⟨by omega, by omega⟩
        clear eq0 er0 hmn hbm hbn hm hn hl1 hH2
        generalize blen m = bm at *
        generalize blen n = bn at *
        go_enter Tryz.func59, Tryz.ntmps59
        go_wp2_with (first | (go_at_call 76; refine (hH w (Below.refl _ _)).out.mono ?_; rintro e w1 ⟨ay, cy, rfl, hY, hb1⟩; have HY1 := Lib.hid hY; have HB1 := Lib.hid hb1; clear hY) | (go_at_call_of 86 a; refine (hLA _ HB1.out).out.mono ?_; rintro e w2 ⟨rfl, rfl⟩) | (go_at_call_of 86 b; refine (hLB _ HB1.out).out.mono ?_; rintro e w2 ⟨rfl, rfl⟩))
        refine bodyPost_ret (v := .tuple #[.slice none 0 0, .slice a (dig 18446744073709551616 m).length c]) (by rw [results_tmp2 rfl]; go_simp) rfl ?_
        exact ⟨none, 0, a, c, rfl, nat_zero _ _, HN.out.next HB1.out, HB1.out⟩
    · as_aux_lemma =>
        obtain ⟨N, hN⟩ : ∃ N, blen m = N + blen n := ⟨blen m - blen n, by omega⟩
        have hst := div_start hn0 hN
        have hDL := fun k hk => div_len hn0 hN (k := k) hk hm
        have hNb : N ≤ 25600000 := by omega
        have zN : ∀ [Inhabited Unit], (blen m : Int) - (blen n : Int) = (N : Int) := by intro _; omega
        have hUP := fun w' (hb : Below w.heap.size w w') => Lib.hid (up2F_any b d n N w' (h'.next hb) (by omega) (by omega))
        rw [up_half] at hUP
        have HA := fun w' (hb : Below w.heap.size w w') => h.next hb
        obtain ⟨M, hM⟩ : ∃ M, M = N / 64 + 1 := ⟨_, rfl⟩
        have hMb : M ≤ 1000000 := by omega
        have hmk := make_nat M (by omega)
        have t1 : ∀ [Inhabited Unit], Int.tdiv (N : Int) 64 = ((N / 64 : Nat) : Int) := by intro _; rw [Int.tdiv_eq_ediv_of_nonneg (by omega)]; rfl
        have t2 : ∀ [Inhabited Unit], (N : Int) / 64 = ((N / 64 : Nat) : Int) := by intro _; rfl
        obtain ⟨Mq, hMq⟩ : ∃ Mq, N / 64 = Mq := ⟨_, rfl⟩
        rw [hMq] at t1 t2
        have t3 : ∀ [Inhabited Unit], (Mq : Int) + 1 = (M : Int) := by intro _; omega
        have t4 : ∀ [Inhabited Unit], RowKit.wrap64 (M : Int) = (M : Int) := by intro _; exact IntWalk.wrap64_in _ ⟨by omega, by omega⟩
        have t5 : ∀ [Inhabited Unit], RowKit.wrap64 (N : Int) = (N : Int) := by intro _; exact IntWalk.wrap64_in _ ⟨by omega, by omega⟩
        have t6 : ¬ (N : Int) < 0 := by omega
        have t7 : ∀ [Inhabited Unit], RowKit.wrap64 (Mq : Int) = (Mq : Int) := by intro _; exact IntWalk.wrap64_in _ ⟨by omega, by omega⟩
        have hMN : ∀ j, j ≤ N → j / 64 < M := by intro j hj; omega
        have HMN := Lib.hid hMN
        have HST := Lib.hid hst
        have HDL := Lib.hid hDL
        have HNA := Lib.hid h
        have hRl : ∀ R, R ≤ m → (dig 18446744073709551616 R).length ≤ 1000000 := fun R hR => Nat.le_trans (dig_len_mono (by decide) hR) (by omega)
        have HRL := Lib.hid hRl
        have HAO := Lib.hid (nat_old h)
        clear hN hst hDL hlt hM hMN hbm hbn hm hn hl1 hH2 hy1 hRl hMq
        generalize blen m = bm at *
        generalize blen n = bn at *
        go_enter Tryz.func59, Tryz.ntmps59
        go_wp2_with (first | (go_at_call 76; refine (hH w (Below.refl _ _)).out.mono ?_; rintro e w1 ⟨ay, cy, rfl, hY, hb1⟩; have HY1 := Lib.hid hY; have HB1 := Lib.hid hb1; clear hY) | (go_at_call_of 86 a; refine (hLA _ HB1.out).out.mono ?_; rintro e w2 ⟨rfl, rfl⟩) | (go_at_call_of 86 b; refine (hLB _ HB1.out).out.mono ?_; rintro e w2 ⟨rfl, rfl⟩) | (go_at_call 27; refine (hUP _ (HB1.out.trans (((Below.refl _ _).alloc (Nat.le_refl _) _).mono HB1.out.size))).out.mono ?_; rintro e w2 ⟨ad0, cd0, rfl, hD2, hb2, hf2⟩; have HD2 := Lib.hid hD2; have HB2 := Lib.hid hb2; have HF2 := Lib.hid hf2; clear hD2 hb2 hf2))
        have row := World.ownsRow_lit (base := w1.heap.size) (e := 65) (size := 1) w1 (madeCells #[Value.int .u64 0] M) M (Nat.le_refl _) (by unfold maxLen; omega) (by rw [size_madeCells, Nat.mul_one])
        rw [made_zeros] at row
        have bel0 : Below w1.heap.size w1 (w1.alloc (.cells (madeCells #[Value.int .u64 0] M) 65)) := (Below.refl _ _).alloc (Nat.le_refl _) _
        have sz1 : (w1.alloc (.cells (madeCells #[Value.int .u64 0] M) 65)).heap.size = w1.heap.size + 1 := by simp
        have row2 := own_below row HB2.out (Nat.le_refl _)
        have bel2 : Below w1.heap.size w1 w2 := bel0.trans (HB2.out.mono (by rw [sz1]; omega))
        have hAD : Away w1.heap.size ad0 := HF2.out.away (by rw [sz1]; omega)
        have HA2 : Hid (NAt w2 w2.heap.size a c m) := Lib.hid (HA w2 (HB1.out.trans (bel2.mono HB1.out.size)))
        have hAA : m = 0 ∨ Away w1.heap.size a := by
          rcases HAO.out with h0 | h0
          · exact .inl h0
          · exact nat_old (((HNA.out.below HB1.out (Nat.le_refl _)).mono HB1.out.size))
        have ROW0 := Lib.hid row2
        have BEL0 := Lib.hid bel2
        have HAD := Lib.hid hAD
        have HAA := Lib.hid hAA
        clear row row2 bel0 bel2 sz1 hAD hAA HA hH hLA hLB hUP hmk t1 t2 t3 t4 t5 t6 t7 HB2 HF2 HNA HAO
        have hvz : valB 18446744073709551616 (List.replicate M 0) = 0 := valB_zeros _ _
        go_loopw [11, 12, 13] (fun rv dv iv wr => ∃ (k R D : Nat) (I : Int) (L : List Int) (ar : Option Addr) (cr : Nat) (ad : Option Addr) (cd : Nat), k ≤ N + 1 ∧ iv = .int .i64 I ∧ I = (k : Int) - 1 ∧ rv = .slice ar (dig 18446744073709551616 R).length cr ∧ dv = .slice ad (dig 18446744073709551616 D).length cd ∧ Hid (D = n * 2 ^ k / 2) ∧ Hid (NAt wr wr.heap.size ar cr R) ∧ Hid (NAt wr wr.heap.size ad cd D) ∧ Hid (R = 0 ∨ Away w1.heap.size ar) ∧ Hid (Away w1.heap.size ad) ∧ Hid (Rng 18446744073709551616 L) ∧ Hid (m = n * valB 18446744073709551616 L + R) ∧ Hid (R < n * 2 ^ k) ∧ Hid (valB 18446744073709551616 L % 2 ^ k = 0) ∧ Hid (wr.ownsRow w1.heap.size 65 1 (.slice (some ⟨w1.heap.size, 0, none⟩) M M) M (L.map (Value.int .u64))) ∧ Hid (Below w1.heap.size w1 wr)) (fun _ _ iv _ => (intOf iv + 1).toNat)
        case atStart => exact ⟨N + 1, m, _, N, List.replicate M 0, a, c, ad0, cd0, Nat.le_refl _, rfl, by omega, rfl, rfl, Lib.hid rfl, HA2, HD2, HAA, HAD, Lib.hid (fun x hx => by rw [(List.mem_replicate.1 hx).2]; omega), Lib.hid (by rw [hvz]; omega), HST, Lib.hid (by rw [hvz]; exact Nat.zero_mod _), ROW0, BEL0⟩
        case round =>
          clear HA2 HD2 HAA HAD HST ROW0 BEL0 hvz
          obtain ⟨k, R, D, I, L, ar, cr, ad, cd, hk, rfl, hI, rfl, rfl, HDE, HR, HD, HAR, HAD, HL, HM, HLT, HMOD, HO, HB⟩ := hrel
          obtain ⟨wi, rfl⟩ : ∃ wi : World, wi = wr := ⟨_, rfl⟩
          have HLL := Lib.hid (own_len_k HO.out)
          by_cases hk0 : k = 0
          · as_aux_lemma =>
              obtain rfl : I = -1 := by omega
              have hlt2 := HLT.out
              rw [hk0] at hlt2
              obtain ⟨hq, hr⟩ := div_end HM.out hlt2
              have HQ := Lib.hid hq
              have HRR := Lib.hid hr
              clear hlt2 hq hr hI hk hk0 HLT HM HMOD HDE HD HAD
              (have hown1 := HO.out; obtain ⟨a4, c4, he, hI⟩ := own_ints hown1 (fun x hx => by have := HL.out x hx; exact wf_u64_iff.2 ⟨by omega, by omega⟩); injection he with e1 e2 e3; clear e2; subst e1; subst e3; have HCP := Lib.hid (own_cap1 hown1); have HCQ : Hid (L.length ≤ M ∧ M ≤ 9223372036854775807) := Lib.hid (by rw [HLL.out]; exact HCP.out); have HI := Lib.hid hI; have HCC := Lib.hid (ntrim_any (some ⟨w1.heap.size, 0, none⟩) M wi.heap.size _ wi hI HCQ.out.1 HCQ.out.2); rw [HQ.out, HLL.out] at HCC; have HDD := Lib.hid (nat_of_ints HI.out HCQ.out); rw [HQ.out] at HDD; clear hown1 hI HI)
              go_wp2_with (first | (go_at_call 60; refine HCC.out.mono ?_; rintro e w4 ⟨rfl, rfl⟩))
              refine bodyPost_ret (v := .tuple #[.slice (some ⟨w1.heap.size, 0, none⟩) (dig 18446744073709551616 (m / n)).length M, .slice ar (dig 18446744073709551616 R).length cr]) (by rw [results_tmp2 rfl]; go_simp) rfl ?_
              refine ⟨_, _, ar, cr, by rw [← HRR.out], HDD.out, ?_, HB1.out.trans (HB.out.mono HB1.out.size)⟩
              rw [← HRR.out]
              exact HR.out
          · obtain ⟨j, rfl⟩ : ∃ j, k = j + 1 := ⟨k - 1, by omega⟩
            obtain rfl : I = (j : Int) := by omega
            clear hI hk0
            have hCM := Lib.hid (ncmp_any ar ad cr cd R D wi.heap.size wi HR.out HD.out)
            have ej : ∀ [Inhabited Unit], RowKit.wrap64 ((j : Int) - 1) = (j : Int) - 1 := by intro _; exact IntWalk.wrap64_in _ ⟨by omega, by omega⟩
            have j0 : (0 : Int) ≤ (j : Int) := by omega
            have HRm : Hid (R ≤ m) := Lib.hid (by have := HM.out; omega)
            have hDL := HDL.out (j + 1) hk
            rw [← HDE.out] at hDL
            have HDh : Hid (D / 2 ^ 1 = n * 2 ^ j / 2) := Lib.hid (by rw [HDE.out]; exact down_half n j)
            by_cases hge : D ≤ R
            · as_aux_lemma =>
                have eC : (0 : Int) ≤ cmpN R D := by
                  unfold cmpN
                  rw [if_neg (by omega)]
                  split <;> decide
                skip
                have hLS := fun nq => Lib.hid (nlessF_any ar ad cr cd R D (wi.drewN nq) (HR.out.next (below_drewN0 _ _)) (HD.out.next (below_drewN0 _ _)) (HRL.out R HRm.out) hDL hge)
                have hdb := div_bit HM.out (by rw [← HDE.out]; exact hge) HLT.out HMOD.out
                rw [← HDE.out] at hdb
                obtain ⟨g1, g2, g3⟩ := hdb
                obtain ⟨q, hq⟩ : ∃ q, j / 64 = q := ⟨_, rfl⟩
                obtain ⟨s, hs⟩ : ∃ s, j % 64 = s := ⟨_, rfl⟩
                have hjq : j = 64 * q + s := by omega
                have hsb : s < 64 := by omega
                have hqM : q < M := by rw [← hq]; exact HMN.out j (by omega)
                have a1 : ∀ [Inhabited Unit], Int.tdiv (j : Int) 64 = (q : Int) := by intro _; rw [Int.tdiv_eq_ediv_of_nonneg (by omega)]; omega
                have a2 : ∀ [Inhabited Unit], (j : Int) / 64 = (q : Int) := by intro _; omega
                have a3 : ∀ [Inhabited Unit], Int.tmod (j : Int) 64 = (s : Int) := by intro _; rw [Int.tmod_eq_emod_of_nonneg (by omega)]; omega
                have a4 : ∀ [Inhabited Unit], (j : Int) % 64 = (s : Int) := by intro _; omega
                have a5 : ∀ [Inhabited Unit], IntKind.u64.wrap (s : Int) = (s : Int) := by intro _; exact u64_same _ (by omega) (by omega)
                have hqL : q < L.length := by rw [HLL.out]; exact hqM
                have dL := HL.out.getD (by decide) q
                obtain ⟨x, ex⟩ : ∃ x : Nat, L[q]?.getD 0 = (x : Int) := ⟨(L[q]?.getD 0).toNat, by omega⟩
                rw [ex] at dL
                have hxb := limb_bits HL.out hqL hsb ex (by rw [← hjq]; exact HMOD.out)
                have hp64 : 2 ^ (s + 1) ≤ 2 ^ 64 := Nat.pow_le_pow_right (by decide) (by omega)
                have hps : 2 ^ (s + 1) = 2 * 2 ^ s := by rw [Nat.pow_succ, Nat.mul_comm]
                obtain ⟨t, ht⟩ := Nat.dvd_of_mod_eq_zero hxb
                have h64 : 2 ^ 64 = 2 ^ (s + 1) * 2 ^ (63 - s) := by rw [← Nat.pow_add]; congr 1; omega
                have htl : t < 2 ^ (63 - s) := by
                  refine Classical.byContradiction fun hc => ?_
                  have := Nat.mul_le_mul_left (2 ^ (s + 1)) (show 2 ^ (63 - s) ≤ t by omega)
                  omega
                have hle : x + 2 ^ (s + 1) ≤ 2 ^ 64 := by
                  have := Nat.mul_le_mul_left (2 ^ (s + 1)) (show t + 1 ≤ 2 ^ (63 - s) by omega)
                  rw [Nat.mul_add, Nat.mul_one] at this
                  omega
                obtain ⟨p, hp⟩ : ∃ p : Nat, 2 ^ s = p := ⟨_, rfl⟩
                have hset := set_bit hqL ex rfl hjq (d := x + 2 ^ s)
                rw [hp] at hset hps
                rw [← hset] at g1 g3
                obtain ⟨y, hy⟩ : ∃ y : Nat, y = x + p := ⟨_, rfl⟩
                rw [← hy] at hset g1 g3
                have hp0 : 1 ≤ p := by rw [← hp]; exact Nat.pow_pos (by decide)
                have hyb2 : y < 18446744073709551616 := by omega
                have hpb : p < 18446744073709551616 := by omega
                have hpc : ((2 : Int) ^ s) = (p : Int) := by rw [← hp]; simp
                have hpc1 : ((2 : Int) ^ (s + 1)) = ((2 ^ (s + 1) : Nat) : Int) := by simp
                have r1 : ∀ [Inhabited Unit], IntKind.u64.wrap ((2 : Int) ^ s) = (p : Int) := by intro _; rw [hpc]; exact u64_same _ (by omega) (by omega)
                have hx0 : (x : Int) % 2 ^ (s + 1) = 0 := by rw [hpc1, ← Int.natCast_emod, hxb]; rfl
                have hpl : (p : Int) < 2 ^ (s + 1) := by rw [hpc1]; omega
                have r2 : ∀ [Inhabited Unit], bits BinOp.or IntKind.u64 (x : Int) (p : Int) = (y : Int) := by intro _; rw [bits_join IntKind.u64 64 (by decide) u64_same (s + 1) (x : Int) (p : Int) (by omega) hx0 (by omega) (by omega) hpl (by omega)]; omega
                have HR2 := Lib.hid (HL.out.set q y hyb2)
                have HG1 := Lib.hid g1
                have HG2 := Lib.hid g2
                have HG3 := Lib.hid g3
                have iq : (q : Int) < (M : Int) := by omega
                have iq0 : (0 : Int) ≤ (q : Int) := by omega
                have is1 : (s : Int) < 64 := by omega
                have is0 : (0 : Int) ≤ (s : Int) := by omega
                have HEX := Lib.hid ex
                clear g1 g2 g3 hset hq hs hjq hxb hp64 hps ht h64 htl hle hp hy hpc hpc1 hx0 hpl hqL ex hge HMOD HLT HM
                generalize cmpN R D = CC at *
                have hsz1 : w1.heap.size < wi.heap.size := by
                  rcases HO.out.2 with ⟨e1, _⟩ | ⟨g, cap, cur, e1, _, hg, _⟩
                  · cases e1
                  · cases e1
                    exact (Array.getElem?_eq_some_iff.1 hg).1
                go_upto_region 16 with (first | (go_at_call 53; refine hCM.out.mono ?_; rintro e w3 ⟨rfl, nq, rfl⟩) | (go_at_call 54; refine (hLS _).out.mono ?_; rintro e w4 ⟨a4, c4, rfl, hN4, hb4, hf4⟩))
                have HO4 : Hid (w4.ownsRow w1.heap.size 65 1 (.slice (some ⟨w1.heap.size, 0, none⟩) M M) M (L.map (Value.int .u64))) := Lib.hid (own_below (w := wi.drewN nq) HO.out hb4 (Nat.le_refl _))
                have cM := own_cell HO4.out hqM
                rw [HEX.out] at cM
                have fM := HO4.out.frozenAt q
                have hb14 : Below w1.heap.size w1 w4 := HB.out.trans (((below_drewN0 wi nq).trans hb4).mono HB.out.size)
                have hA4 : Away w1.heap.size a4 := hf4.away hsz1
                have HN5 := Lib.hid (nat_setAway (g := w1.heap.size) (o := q) (v := .int .u64 (y : Int)) hN4 (.inr hA4))
                have HD5 := Lib.hid (nat_setAway (g := w1.heap.size) (o := q) (v := .int .u64 (y : Int)) ((HD.out.next (below_drewN0 wi nq)).next hb4) (.inr HAD.out))
                have HO5 := Lib.hid (stored_u64 HO4.out q (y : Int))
                have HB5 : Hid (Below w1.heap.size w1 (w4.setCell ⟨w1.heap.size, q, none⟩ (.int .u64 (y : Int)))) := Lib.hid (Below.setCell hb14 (Nat.le_refl _) _)
                have HA4 := Lib.hid hA4
                have hS4 : w1.heap.size < w4.heap.size := Nat.lt_of_lt_of_le (show w1.heap.size < (wi.drewN nq).heap.size from hsz1) hb4.size
                clear hb4 hf4 hN4 hb14 hA4 HO4 HEX
                have hDN := Lib.hid (down2F_any ad cd D 1 _ HD5.out hDL (by decide))
                generalize hw5 : w4.setCell ⟨w1.heap.size, q, none⟩ (.int .u64 (y : Int)) = w5 at HN5 HD5 HO5 HB5 hDN
                have hS5 : w1.heap.size < w5.heap.size := by rw [← hw5]; simpa using hS4
                go_upto_region 17 with fail
                (try rw [hw5])
                clear cM fM hw5 hS4
                go_wp2_with (go_at_call 87; refine hDN.out.mono ?_; rintro e w6 ⟨a6, c6, rfl, hN6, hb6, hf6⟩)
                go_roundw
                case rel => exact ⟨j, R - D, D / 2 ^ 1, _, _, a4, c4, a6, c6, by omega, by go_num, rfl, rfl, rfl, HDh, Lib.hid (HN5.out.next hb6), Lib.hid hN6, Lib.hid (.inr HA4.out), Lib.hid (hf6.away hS5), HR2, HG1, HG2, HG3, Lib.hid (own_below HO5.out hb6 (Nat.le_refl _)), Lib.hid (HB5.out.trans (hb6.mono HB5.out.size))⟩
                case measure => simp [intOf]
            · as_aux_lemma =>
                have eC : ¬ (0 : Int) ≤ cmpN R D := by
                  rw [cmpN_lt (by omega)]
                  decide
                have hdn := div_none (n := n) (R := R) (Q := valB 18446744073709551616 L) (j := j) (by rw [← HDE.out]; omega) HMOD.out
                have HG2 := Lib.hid hdn.1
                have HG3 := Lib.hid hdn.2
                have hDN := fun nq => Lib.hid (down2F_any ad cd D 1 (wi.drewN nq) (HD.out.next (below_drewN0 _ _)) hDL (by decide))
                have hsz1 : w1.heap.size < wi.heap.size := by
                  rcases HO.out.2 with ⟨e1, _⟩ | ⟨g, cap, cur, e1, _, hg, _⟩
                  · cases e1
                  · cases e1
                    exact (Array.getElem?_eq_some_iff.1 hg).1
                clear hdn hge HMOD HLT
                generalize cmpN R D = CC at *
                go_wp2_with (first | (go_at_call 53; refine hCM.out.mono ?_; rintro e w3 ⟨rfl, nq, rfl⟩) | (go_at_call 87; refine (hDN _).out.mono ?_; rintro e w6 ⟨a6, c6, rfl, hN6, hb6, hf6⟩))
                go_roundw
                case rel => exact ⟨j, R, D / 2 ^ 1, _, _, ar, cr, a6, c6, by omega, by go_num, rfl, rfl, rfl, HDh, Lib.hid ((HR.out.next (below_drewN0 _ _)).next hb6), Lib.hid hN6, HAR, Lib.hid (hf6.away hsz1), HL, HM, HG2, HG3, Lib.hid (own_below (w := wi.drewN nq) HO.out hb6 (Nat.le_refl _)), Lib.hid (HB.out.trans (((below_drewN0 _ _).trans hb6).mono HB.out.size))⟩
                case measure => simp [intOf]
end Go.Proofs.YtddhhfhammmaaaaGreat
