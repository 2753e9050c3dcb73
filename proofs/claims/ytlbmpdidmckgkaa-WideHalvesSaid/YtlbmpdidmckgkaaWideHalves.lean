/- The law WideHalves, walked. -/
import Derived.Test.YtlbmpdidmckgkaaWideA
import Derived.Test.YtlbmpdidmckgkaaEnv
import Derived.Deep.RegionHeld3
import Derived.Deep.Cut
import Derived.Deep.CutBlock
import Derived.Deep.CutRange
set_option linter.unusedVariables false
set_option linter.unusedSimpArgs false
namespace Go.Proofs.Ytlbmpdidmckgkaa
open Go.RowKit Go.Rt

theorem lst7 {α : Type} {l : List α} (h : l.length = 7) : ∃ x0 x1 x2 x3 x4 x5 x6, l = [x0, x1, x2, x3, x4, x5, x6] := by
  match l, h with
  | [x0, x1, x2, x3, x4, x5, x6], _ => exact ⟨x0, x1, x2, x3, x4, x5, x6, rfl⟩
theorem lst12 {α : Type} {l : List α} (h : l.length = 12) : ∃ x0 x1 x2 x3 x4 x5 x6 x7 x8 x9 x10 x11, l = [x0, x1, x2, x3, x4, x5, x6, x7, x8, x9, x10, x11] := by
  match l, h with
  | [x0, x1, x2, x3, x4, x5, x6, x7, x8, x9, x10, x11], _ => exact ⟨x0, x1, x2, x3, x4, x5, x6, x7, x8, x9, x10, x11, rfl⟩
theorem envW {k : IntKind} {e : TypeId} {B : Nat} {w0 W : World} {L : List (Option Addr × List Int)} {O : List (Nat × Option Addr × Nat × List Int)} {C : List (Addr × Value)} (E : Env k e B w0 W L O C) : ∃ Wb, W = Wb := ⟨_, rfl⟩
theorem V_split (s : Int) : V (s / 18446744073709551616) (s % 18446744073709551616) = s := by unfold V; omega
theorem V_from (x : Int) (h0 : -9223372036854775808 ≤ x) (h1 : x ≤ 9223372036854775807) : V (x / 9223372036854775808) (x % 18446744073709551616) = x := by unfold V; omega
theorem WR_from (x : Int) (h0 : -9223372036854775808 ≤ x) (h1 : x ≤ 9223372036854775807) : WR (x / 9223372036854775808) (x % 18446744073709551616) := ⟨by omega, by omega, by omega, by omega⟩
theorem WR_split {s : Int} (h : inR s) : WR (s / 18446744073709551616) (s % 18446744073709551616) := by unfold inR at h; exact ⟨by omega, by omega, by omega, by omega⟩
theorem cellOf {B : Nat} {Wb w' : World} {a : Addr} {v : Value} (h : Below B Wb w') (hc : Wb.cell? a = some v) (hlt : a.block < B) : w'.cell? a = some v := (h.cell (p := a) hlt).trans hc
theorem zbox_store {W w1 : World} {b : Nat} {a : Option Addr} {c : Nat} {z : Int} {v0 v1 : Value} (hb1 : Below W.heap.size W w1) (hX : NBox2 w1 b v0 v1) (hW : W.heap.size ≤ b) (hN : NAt w1 w1.heap.size a c z.natAbs) (h0 : ∀ x, v0 ≠ .int .u64 x) (h1 : ∀ x, v1 ≠ .int .u64 x) (y0 y1 : Value) :
    Below W.heap.size W ((w1.setCell ⟨b, 0, none⟩ y0).setCell ⟨b, 1, none⟩ y1) ∧ ((w1.setCell ⟨b, 0, none⟩ y0).setCell ⟨b, 1, none⟩ y1).cell? ⟨b, 0, none⟩ = some y0 ∧ ((w1.setCell ⟨b, 0, none⟩ y0).setCell ⟨b, 1, none⟩ y1).cell? ⟨b, 1, none⟩ = some y1 ∧ NAt ((w1.setCell ⟨b, 0, none⟩ y0).setCell ⟨b, 1, none⟩ y1) ((w1.setCell ⟨b, 0, none⟩ y0).setCell ⟨b, 1, none⟩ y1).heap.size a c z.natAbs := by
  have hN2 : NAt ((w1.setCell ⟨b, 0, none⟩ y0).setCell ⟨b, 1, none⟩ y1) ((w1.setCell ⟨b, 0, none⟩ y0).setCell ⟨b, 1, none⟩ y1).heap.size a c z.natAbs := by
    refine nat_set (v := v1) (nat_set hN hX.c0 h0) ?_ h1
    obtain ⟨c0, c1, f0, f1⟩ := hX
    go_simp
  obtain ⟨c0, c1, f0, f1⟩ := hX
  exact ⟨(hb1.setCell hW _).setCell hW _, by go_simp, by go_simp, hN2⟩

theorem round_words_neg (x y FH FL GH GL K : Int) (w : World) (x0 : -9223372036854775808 ≤ x) (x1 : x ≤ 9223372036854775807) (y0 : -9223372036854775808 ≤ y) (y1 : y ≤ 9223372036854775807) (hy : y ≠ 0)
    (hF : WR FH FL) (hFV : V FH FL = -x) (hG : WR GH GL) (hGV : V GH GL = y) (hK : roundI x y = K) (hKR : inR (-K)) :
    Calls Try.prog 14 #[.agg #[.int .i64 FH, .int .u64 FL], .agg #[.int .i64 GH, .int .u64 GL]] w (RetWE w (-K / 18446744073709551616) (-K % 18446744073709551616) 0) := by
  have hz : ¬ (GH = 0 ∧ GL = 0) := by rintro ⟨e1, e2⟩; rw [e1, e2] at hGV; exact hy (hGV.symm.trans V00)
  have eA : A FH FL = absI (-x) := by unfold A absI; rw [hFV]
  have eB : A GH GL = absI y := by unfold A absI; rw [hGV]
  have b1 := absI_pos hy
  have b2 := absI_nn (-x)
  have b3 : absI (-x) ≤ 9223372036854775808 := by unfold absI; split <;> omega
  have b4 : absI y ≤ 9223372036854775808 := by unfold absI; split <;> omega
  have := (round_of FH FL GH GL w hF hG hz (fun w => by rw [eA, eB]; exact divide_lo _ _ w b2 (by omega) b1 (by omega))).1
  rw [hFV, hGV, round_neg x y hy, hK] at this
  exact this hKR

set_option maxHeartbeats 4000000 in
set_option maxRecDepth 100000 in
theorem wideHalves_any (a : Option Addr) (n c : Nat) (w : World) (h : PairsAt w w.heap.size a n) :
    Calls Try.prog 4 #[.slice a n c] w fun e w' => e = .returned (.bool true) ∧ Below w.heap.size w w' := by
  have hm := h.len
  go_enter Try.func4, Try.ntmps4
  go_wp2_with fail
  go_loopw [3] (fun i wr => ∃ k : Nat, k ≤ n ∧ i = .int .i64 k ∧ Below w.heap.size w wr) (fun i _ => n - (intOf i).toNat)
  case atStart => exact ⟨0, Nat.zero_le _, rfl, Below.refl _ _⟩
  case round =>
    obtain ⟨k, hk, rfl, hbel⟩ := hrel
    by_cases hend : k < n ∧ k < 30
    · obtain ⟨hlt, h20⟩ := hend
      obtain ⟨b, off, ah, al, bh, bl, x, y, m, rfl, ht⟩ := h.at_ k hlt
      replace ht := ht.below hbel
      have hsz := hbel.size
      obtain ⟨hlb, c0, c1, c2, c3, c4, c5, c6, hA, hB, x0, x1, y0, y1, m0, m1⟩ := ht
      have HB := Lib.hid hbel
      clear hbel h
      have E : Env .u64 23 wr.heap.size wr (wr.alloc (.cells #[.int .i64 ah, .int .u64 al, .int .i64 bh, .int .u64 bl, .int .i64 x, .int .i64 y, .int .i64 m] 27)) [] [] [(⟨wr.heap.size, 6, none⟩, .int .i64 m), (⟨wr.heap.size, 5, none⟩, .int .i64 y), (⟨wr.heap.size, 4, none⟩, .int .i64 x), (⟨wr.heap.size, 3, none⟩, .int .u64 bl), (⟨wr.heap.size, 2, none⟩, .int .i64 bh), (⟨wr.heap.size, 1, none⟩, .int .u64 al), (⟨wr.heap.size, 0, none⟩, .int .i64 ah)] :=
        (((((((((Env.start .u64 23 wr)).alloc _).addC (by simp [go_sem])).addC (by simp [go_sem])).addC (by simp [go_sem])).addC (by simp [go_sem])).addC (by simp [go_sem])).addC (by simp [go_sem])).addC (by simp [go_sem])
      obtain ⟨FH, hFH⟩ : ∃ q, x / 9223372036854775808 = q := ⟨_, rfl⟩
      obtain ⟨FL, hFL⟩ : ∃ q, x % 18446744073709551616 = q := ⟨_, rfl⟩
      obtain ⟨GH, hGH⟩ : ∃ q, y / 9223372036854775808 = q := ⟨_, rfl⟩
      obtain ⟨GL, hGL⟩ : ∃ q, y % 18446744073709551616 = q := ⟨_, rfl⟩
      have hfn := fun w => Lib.hid (from_any x w x0 x1)
      have hfd := fun w => Lib.hid (from_any y w y0 y1)
      have hWF := Lib.hid (WR_from x x0 x1)
      have hVF := Lib.hid (V_from x x0 x1)
      have hWG := Lib.hid (WR_from y y0 y1)
      have hVG := Lib.hid (V_from y y0 y1)
      rw [hFH, hFL] at hfn hWF hVF
      rw [hGH, hGL] at hfd hWG hVG
      clear hFH hFL hGH hGL
      have M1 := True.intro
      have M2 := True.intro
      have p0 := E.cell (a := ⟨wr.heap.size, 0, none⟩) (v := .int .i64 ah) (by simp)
      have p1 := E.cell (a := ⟨wr.heap.size, 1, none⟩) (v := .int .u64 al) (by simp)
      have p2 := E.cell (a := ⟨wr.heap.size, 2, none⟩) (v := .int .i64 bh) (by simp)
      have p3 := E.cell (a := ⟨wr.heap.size, 3, none⟩) (v := .int .u64 bl) (by simp)
      have p4 := E.cell (a := ⟨wr.heap.size, 4, none⟩) (v := .int .i64 x) (by simp)
      have p5 := E.cell (a := ⟨wr.heap.size, 5, none⟩) (v := .int .i64 y) (by simp)
      have p6 := E.cell (a := ⟨wr.heap.size, 6, none⟩) (v := .int .i64 m) (by simp)
      by_cases hy0 : y = 0
      · as_aux_lemma =>
          subst hy0
          go_wp2_with (first | (go_at_call 18; have hmk := M1; clear hmk M1; go_loud (refine ((hfn _).out).mono ?_; rintro e wn ⟨rfl, hb⟩; replace E := (((E.next hb).alloc (.cells #[.int .i64 FH, .int .u64 FL] 25)).addC (a := ⟨wn.heap.size, 0, none⟩) (v := .int .i64 FH) (by simp [go_sem])).addC (a := ⟨wn.heap.size, 1, none⟩) (v := .int .u64 FL) (by simp [go_sem]); clear hb; have p0 := E.cell (a := ⟨wr.heap.size, 0, none⟩) (v := .int .i64 ah) (by simp); have p1 := E.cell (a := ⟨wr.heap.size, 1, none⟩) (v := .int .u64 al) (by simp); have p2 := E.cell (a := ⟨wr.heap.size, 2, none⟩) (v := .int .i64 bh) (by simp); have p3 := E.cell (a := ⟨wr.heap.size, 3, none⟩) (v := .int .u64 bl) (by simp); have p4 := E.cell (a := ⟨wr.heap.size, 4, none⟩) (v := .int .i64 x) (by simp); have p5 := E.cell (a := ⟨wr.heap.size, 5, none⟩) (v := .int .i64 0) (by simp); have p6 := E.cell (a := ⟨wr.heap.size, 6, none⟩) (v := .int .i64 m) (by simp); have qn0 := E.cell (a := ⟨wn.heap.size, 0, none⟩) (v := .int .i64 FH) (by simp); have qn1 := E.cell (a := ⟨wn.heap.size, 1, none⟩) (v := .int .u64 FL) (by simp))) | (go_at_call 18; have hmk := M2; clear hmk M2; go_loud (refine ((hfd _).out).mono ?_; rintro e wd ⟨rfl, hb⟩; replace E := (((E.next hb).alloc (.cells #[.int .i64 GH, .int .u64 GL] 25)).addC (a := ⟨wd.heap.size, 0, none⟩) (v := .int .i64 GH) (by simp [go_sem])).addC (a := ⟨wd.heap.size, 1, none⟩) (v := .int .u64 GL) (by simp [go_sem]); clear hb; have p0 := E.cell (a := ⟨wr.heap.size, 0, none⟩) (v := .int .i64 ah) (by simp); have p1 := E.cell (a := ⟨wr.heap.size, 1, none⟩) (v := .int .u64 al) (by simp); have p2 := E.cell (a := ⟨wr.heap.size, 2, none⟩) (v := .int .i64 bh) (by simp); have p3 := E.cell (a := ⟨wr.heap.size, 3, none⟩) (v := .int .u64 bl) (by simp); have p4 := E.cell (a := ⟨wr.heap.size, 4, none⟩) (v := .int .i64 x) (by simp); have p5 := E.cell (a := ⟨wr.heap.size, 5, none⟩) (v := .int .i64 0) (by simp); have p6 := E.cell (a := ⟨wr.heap.size, 6, none⟩) (v := .int .i64 m) (by simp); have qn0 := E.cell (a := ⟨wn.heap.size, 0, none⟩) (v := .int .i64 FH) (by simp); have qn1 := E.cell (a := ⟨wn.heap.size, 1, none⟩) (v := .int .u64 FL) (by simp); have qd0 := E.cell (a := ⟨wd.heap.size, 0, none⟩) (v := .int .i64 GH) (by simp); have qd1 := E.cell (a := ⟨wd.heap.size, 1, none⟩) (v := .int .u64 GL) (by simp))))
          refine ⟨⟨k + 1, by omega, by go_num, HB.out.trans (E.bel.mono hsz)⟩, ?_⟩
          simp [intOf]; omega
      · as_aux_lemma =>
          have hyb : (y == 0) = false := by simp; exact hy0
          have HLaw := Lib.hid (halves_law x y hy0)
          have hrg := halves_range x y x0 x1 hy0
          obtain ⟨K, hK⟩ : ∃ q, roundI x y = q := ⟨_, rfl⟩
          rw [hK] at HLaw hrg
          have hKb : -9223372036854775808 ≤ K ∧ K ≤ 9223372036854775808 := by rcases hrg with h | ⟨_, _, h⟩ <;> omega
          have hin := inR_word hKb
          have hrd := fun w => Lib.hid (round_words x y FH FL GH GL K w x0 x1 y0 y1 hy0 hWF.out hVF.out hWG.out hVG.out hK hin)
          have hWK := Lib.hid (WR_split hin)
          have hVK := Lib.hid (V_split K)
          have hsm := fun w => Lib.hid (small_any (K / 18446744073709551616) (K % 18446744073709551616) w hWK.out)
          rw [hVK.out] at hsm
          obtain ⟨KH, hKH⟩ : ∃ q, K / 18446744073709551616 = q := ⟨_, rfl⟩
          obtain ⟨KL, hKL⟩ : ∃ q, K % 18446744073709551616 = q := ⟨_, rfl⟩
          rw [hKH, hKL] at hrd hWK hVK hsm
          clear hKH hKL
          by_cases hKs : -9223372036854775808 ≤ K ∧ K ≤ 9223372036854775807
          · as_aux_lemma =>
              rw [if_pos hKs, decide_eq_true hKs] at hsm
              have hxa : (x.natAbs : Int) ≤ 9223372036854775808 := by omega
              have hya : (y.natAbs : Int) ≤ 9223372036854775808 := by omega
              obtain ⟨KY, hKY⟩ : ∃ q, K * y = q := ⟨_, rfl⟩
              obtain ⟨R, hR⟩ : ∃ q, x - KY = q := ⟨_, rfl⟩
              obtain ⟨RA, hRA⟩ : ∃ q, (R.natAbs : Int) = q := ⟨_, rfl⟩
              obtain ⟨T, hT⟩ : ∃ q, RA * ((2 ^ 1 : Nat) : Int) = q := ⟨_, rfl⟩
              obtain ⟨YA, hYA⟩ : ∃ q, (y.natAbs : Int) = q := ⟨_, rfl⟩
              obtain ⟨U, hU⟩ : ∃ q, T - YA = q := ⟨_, rfl⟩
              obtain ⟨C, hC⟩ : ∃ q, sgnI U = q := ⟨_, rfl⟩
              have hlaw : C = -1 ∨ (C = 0 ∧ K % 2 = 0) := by
                have h1 := HLaw.out
                rw [hKY, hR, hRA, hYA] at h1
                have e1 : 2 * RA - YA = U := by rw [← hU, ← hT]; omega
                rw [e1, hC] at h1
                exact h1
              have hbR : -9223372036854775808 ≤ R ∧ R ≤ 9223372036854775808 := by
                have h1 := round_half x y hy0
                rw [hK, hKY, hR, absI_natAbs, absI_natAbs] at h1
                omega
              have hbKY : -18446744073709551616 ≤ KY ∧ KY ≤ 18446744073709551616 := by omega
              have zx := fun w => Lib.hid (zfrom_any x w x0 x1)
              have zy := fun w => Lib.hid (zfrom_any y w y0 y1)
              have zk := fun w => Lib.hid (zfrom_any K w hKs.1 hKs.2)
              have lx := dig_word (z := x) (by omega)
              have ly := dig_word (z := y) (by omega)
              have lk := dig_word (z := K) (by omega)
              have lky := dig_word (z := KY) (by omega)
              have lra := dig_word (z := RA) (by omega)
              have lt := dig_word (z := T) (by omega)
              have lya := dig_word (z := YA) (by omega)
              have ztm := fun a b c d w h h2 => Lib.hid (ztimes_any a b c d K y w h h2 lk ly)
              rw [hKY] at ztm
              have zls := fun a b c d w h h2 => Lib.hid (zless_any a b c d x KY R w h h2 lx lky hR)
              have zar := fun a c w h => Lib.hid (zabs_any a c R w h)
              rw [hRA] at zar
              have zlf := fun a c w h => Lib.hid (zleft_any a c 1 RA T w h lra (by decide) hT)
              have zay := fun a c w h => Lib.hid (zabs_any a c y w h)
              rw [hYA] at zay
              have zcm := fun a b c d w h h2 => Lib.hid (zcmp_any a b c d T YA U w h h2 lt lya hU)
              rw [hC] at zcm
              have hng := fun w => Lib.hid (neg_in FH FL w hWF.out (by rw [hVF.out]; exact inR_word (by omega)))
              rw [hVF.out] at hng
              have hnk := fun w => Lib.hid (neg_in KH KL w hWK.out (by rw [hVK.out]; exact inR_word (by omega)))
              rw [hVK.out] at hnk
              have hW1 := WR_split (s := -x) (inR_word (by omega))
              have hV1 := V_split (-x)
              have hrn := fun w => Lib.hid (round_words_neg x y (-x / 18446744073709551616) (-x % 18446744073709551616) GH GL K w x0 x1 y0 y1 hy0 hW1 hV1 hWG.out hVG.out hK (inR_word (by omega)))
              obtain ⟨NH, hNH⟩ : ∃ q, -x / 18446744073709551616 = q := ⟨_, rfl⟩
              obtain ⟨NL, hNL⟩ : ∃ q, -x % 18446744073709551616 = q := ⟨_, rfl⟩
              rw [hNH, hNL] at hng hrn
              obtain ⟨SH, hSH⟩ : ∃ q, -K / 18446744073709551616 = q := ⟨_, rfl⟩
              obtain ⟨SL, hSL⟩ : ∃ q, -K % 18446744073709551616 = q := ⟨_, rfl⟩
              rw [hSH, hSL] at hnk hrn
              have hkm : ∀ [Inhabited Unit], K % 2 = 0 → K.tmod 2 = 0 := fun h => Int.tmod_eq_zero_of_dvd (Int.dvd_of_emod_eq_zero h)
              clear HLaw hrg hin hK hKb hWF hVF hWG hVG hWK hVK hKY hR hRA hT hYA hU hC hbR hbKY lx ly lk lky lra lt lya hW1 hV1 hNH hNL hSH hSL hxa hya
              go_upto_region 13 with (first | (go_at_call 20; refine (num1_any _ _).mono ?_; rintro e w' ⟨rfl, rfl⟩) | (go_at_call 18; have hmk := M1; clear hmk M1; go_loud (refine ((hfn _).out).mono ?_; rintro e wn ⟨rfl, hb⟩; replace E := (((E.next hb).alloc (.cells #[.int .i64 FH, .int .u64 FL] 25)).addC (a := ⟨wn.heap.size, 0, none⟩) (v := .int .i64 FH) (by simp [go_sem])).addC (a := ⟨wn.heap.size, 1, none⟩) (v := .int .u64 FL) (by simp [go_sem]); clear hb; have p0 := E.cell (a := ⟨wr.heap.size, 0, none⟩) (v := .int .i64 ah) (by simp); have p1 := E.cell (a := ⟨wr.heap.size, 1, none⟩) (v := .int .u64 al) (by simp); have p2 := E.cell (a := ⟨wr.heap.size, 2, none⟩) (v := .int .i64 bh) (by simp); have p3 := E.cell (a := ⟨wr.heap.size, 3, none⟩) (v := .int .u64 bl) (by simp); have p4 := E.cell (a := ⟨wr.heap.size, 4, none⟩) (v := .int .i64 x) (by simp); have p5 := E.cell (a := ⟨wr.heap.size, 5, none⟩) (v := .int .i64 y) (by simp); have p6 := E.cell (a := ⟨wr.heap.size, 6, none⟩) (v := .int .i64 m) (by simp); have qn0 := E.cell (a := ⟨wn.heap.size, 0, none⟩) (v := .int .i64 FH) (by simp); have qn1 := E.cell (a := ⟨wn.heap.size, 1, none⟩) (v := .int .u64 FL) (by simp))) | (go_at_call 18; have hmk := M2; clear hmk M2; go_loud (refine ((hfd _).out).mono ?_; rintro e wd ⟨rfl, hb⟩; replace E := (((E.next hb).alloc (.cells #[.int .i64 GH, .int .u64 GL] 25)).addC (a := ⟨wd.heap.size, 0, none⟩) (v := .int .i64 GH) (by simp [go_sem])).addC (a := ⟨wd.heap.size, 1, none⟩) (v := .int .u64 GL) (by simp [go_sem]); clear hb; have p0 := E.cell (a := ⟨wr.heap.size, 0, none⟩) (v := .int .i64 ah) (by simp); have p1 := E.cell (a := ⟨wr.heap.size, 1, none⟩) (v := .int .u64 al) (by simp); have p2 := E.cell (a := ⟨wr.heap.size, 2, none⟩) (v := .int .i64 bh) (by simp); have p3 := E.cell (a := ⟨wr.heap.size, 3, none⟩) (v := .int .u64 bl) (by simp); have p4 := E.cell (a := ⟨wr.heap.size, 4, none⟩) (v := .int .i64 x) (by simp); have p5 := E.cell (a := ⟨wr.heap.size, 5, none⟩) (v := .int .i64 y) (by simp); have p6 := E.cell (a := ⟨wr.heap.size, 6, none⟩) (v := .int .i64 m) (by simp); have qn0 := E.cell (a := ⟨wn.heap.size, 0, none⟩) (v := .int .i64 FH) (by simp); have qn1 := E.cell (a := ⟨wn.heap.size, 1, none⟩) (v := .int .u64 FL) (by simp); have qd0 := E.cell (a := ⟨wd.heap.size, 0, none⟩) (v := .int .i64 GH) (by simp); have qd1 := E.cell (a := ⟨wd.heap.size, 1, none⟩) (v := .int .u64 GL) (by simp))) | (go_at_call 14; go_loud (refine ((hrd _).out).mono ?_; rintro e wx ⟨rfl, hb⟩; replace E := (((E.next hb).alloc (.cells #[.int .i64 KH, .int .u64 KL] 25)).addC (a := ⟨wx.heap.size, 0, none⟩) (v := .int .i64 KH) (by simp [go_sem])).addC (a := ⟨wx.heap.size, 1, none⟩) (v := .int .u64 KL) (by simp [go_sem]); clear hb; have p0 := E.cell (a := ⟨wr.heap.size, 0, none⟩) (v := .int .i64 ah) (by simp); have p1 := E.cell (a := ⟨wr.heap.size, 1, none⟩) (v := .int .u64 al) (by simp); have p2 := E.cell (a := ⟨wr.heap.size, 2, none⟩) (v := .int .i64 bh) (by simp); have p3 := E.cell (a := ⟨wr.heap.size, 3, none⟩) (v := .int .u64 bl) (by simp); have p4 := E.cell (a := ⟨wr.heap.size, 4, none⟩) (v := .int .i64 x) (by simp); have p5 := E.cell (a := ⟨wr.heap.size, 5, none⟩) (v := .int .i64 y) (by simp); have p6 := E.cell (a := ⟨wr.heap.size, 6, none⟩) (v := .int .i64 m) (by simp); have qn0 := E.cell (a := ⟨wn.heap.size, 0, none⟩) (v := .int .i64 FH) (by simp); have qn1 := E.cell (a := ⟨wn.heap.size, 1, none⟩) (v := .int .u64 FL) (by simp); have qd0 := E.cell (a := ⟨wd.heap.size, 0, none⟩) (v := .int .i64 GH) (by simp); have qd1 := E.cell (a := ⟨wd.heap.size, 1, none⟩) (v := .int .u64 GL) (by simp); have qx0 := E.cell (a := ⟨wx.heap.size, 0, none⟩) (v := .int .i64 KH) (by simp); have qx1 := E.cell (a := ⟨wx.heap.size, 1, none⟩) (v := .int .u64 KL) (by simp))) | (go_at_call 19; go_loud (refine ((hsm _).out).mono ?_; rintro e ws ⟨rfl, hb⟩; replace E := E.next hb; clear hb; have p0 := E.cell (a := ⟨wr.heap.size, 0, none⟩) (v := .int .i64 ah) (by simp); have p1 := E.cell (a := ⟨wr.heap.size, 1, none⟩) (v := .int .u64 al) (by simp); have p2 := E.cell (a := ⟨wr.heap.size, 2, none⟩) (v := .int .i64 bh) (by simp); have p3 := E.cell (a := ⟨wr.heap.size, 3, none⟩) (v := .int .u64 bl) (by simp); have p4 := E.cell (a := ⟨wr.heap.size, 4, none⟩) (v := .int .i64 x) (by simp); have p5 := E.cell (a := ⟨wr.heap.size, 5, none⟩) (v := .int .i64 y) (by simp); have p6 := E.cell (a := ⟨wr.heap.size, 6, none⟩) (v := .int .i64 m) (by simp); have qn0 := E.cell (a := ⟨wn.heap.size, 0, none⟩) (v := .int .i64 FH) (by simp); have qn1 := E.cell (a := ⟨wn.heap.size, 1, none⟩) (v := .int .u64 FL) (by simp); have qd0 := E.cell (a := ⟨wd.heap.size, 0, none⟩) (v := .int .i64 GH) (by simp); have qd1 := E.cell (a := ⟨wd.heap.size, 1, none⟩) (v := .int .u64 GL) (by simp); have qx0 := E.cell (a := ⟨wx.heap.size, 0, none⟩) (v := .int .i64 KH) (by simp); have qx1 := E.cell (a := ⟨wx.heap.size, 1, none⟩) (v := .int .u64 KL) (by simp))))
              obtain ⟨W13, hW13⟩ := envW E
              rw [hW13] at E ⊢
              clear hW13
              have hlt0 := (E.cells (⟨wr.heap.size, 0, none⟩, .int .i64 ah) (by simp)).2
              have c4 := Lib.hid (E.cell (a := ⟨wr.heap.size, 4, none⟩) (v := .int .i64 x) (by simp))
              have c5 := Lib.hid (E.cell (a := ⟨wr.heap.size, 5, none⟩) (v := .int .i64 y) (by simp))
              (try clear p0 p1 p2 p3 p4 p5 p6)
              (try clear qn0 qn1 qd0 qd1 qx0 qx1)
              have EB := Lib.hid E
              clear E
              refine wp_region_parts (w := W13) 11 1 [(fun u _ => u = .pointer (some ⟨wr.heap.size, 4, none⟩)), (fun u _ => u = .int .i64 x), ((IsZ (x))), (fun u _ => u = .int .i64 K), ((IsZ (K))), (fun u _ => u = .pointer (some ⟨wr.heap.size, 5, none⟩)), (fun u _ => u = .int .i64 y), ((IsZ (y))), ((IsZ (KY))), ((IsZ (R))), ((IsBox W13 (.bool false) (.slice none 0 0)))] [some 74, some 75, some 76, some 77, some 78, some 79, some 80, some 81, some 82, some 83, some 11, none] #[true, true, true, true, true, true, true, true, true, true, true, false] (by kernel_rfl) rfl (by kernel_rfl) (by kernel_rfl) rfl (by kernel_rfl) (.cons (carries_eq _) (.cons (carries_eq _) (.cons (isZ_carries _) (.cons (carries_eq _) (.cons (isZ_carries _) (.cons (carries_eq _) (.cons (carries_eq _) (.cons (isZ_carries _) (.cons (isZ_carries _) (.cons (isZ_carries _) (.cons (isBox_carries _ _ _) .nil))))))))))) (fun vs b hvl hvb => ?_)
              obtain ⟨x0, x1, x2, x3, x4, x5, x6, x7, x8, x9, x10, x11, rfl⟩ : ∃ x0 x1 x2 x3 x4 x5 x6 x7 x8 x9 x10 x11, vs = [x0, x1, x2, x3, x4, x5, x6, x7, x8, x9, x10, x11] := lst12 hvl
              clear hvl
              simp only [putAll, Act.put, List.setIfInBounds_toArray, List.set_cons_zero, List.set_cons_succ] at hvb
              subst hvb
              refine ⟨(.snoc (.snoc (.snoc (.snoc (.snoc (.snoc (.snoc (.snoc (.snoc (.snoc (.snoc .zero (PartOb.intro (r := fun u _ => u = .pointer (some ⟨wr.heap.size, 4, none⟩)) rfl rfl ?po13x0)) (PartOb.intro (r := fun u _ => u = .int .i64 x) rfl rfl ?po13x1)) (PartOb.intro (r := (IsZ (x))) rfl rfl ?po13x2)) (PartOb.intro (r := fun u _ => u = .int .i64 K) rfl rfl ?po13x3)) (PartOb.intro (r := (IsZ (K))) rfl rfl ?po13x4)) (PartOb.intro (r := fun u _ => u = .pointer (some ⟨wr.heap.size, 5, none⟩)) rfl rfl ?po13x5)) (PartOb.intro (r := fun u _ => u = .int .i64 y) rfl rfl ?po13x6)) (PartOb.intro (r := (IsZ (y))) rfl rfl ?po13x7)) (PartOb.intro (r := (IsZ (KY))) rfl rfl ?po13x8)) (PartOb.intro (r := (IsZ (R))) rfl rfl ?po13x9)) (PartOb.intro (r := (IsBox W13 (.bool false) (.slice none 0 0))) rfl rfl ?po13x10)), ?pend13⟩
              case po13x0 =>
                intro w1 hb1 hd KK hK
                clear hd
                simp only [Act.put, List.setIfInBounds_toArray, List.set_cons_zero, List.set_cons_succ] at hK
                go_simp
                exact hK.out _ _ (Below.refl _ _) rfl
              case po13x1 =>
                intro w1 hb1 hd KK hK
                have d0 : x0 = .pointer (some ⟨wr.heap.size, 4, none⟩) := hd 0 (by kernel_rfl)
                clear hd
                subst d0
                have hc := cellOf hb1 c4.out hlt0
                simp only [Act.put, List.setIfInBounds_toArray, List.set_cons_zero, List.set_cons_succ] at hK
                go_simp
                exact hK.out _ _ (Below.refl _ _) rfl
              case po13x2 =>
                intro w1 hb1 hd KK hK
                have d1 : x1 = .int .i64 x := hd 1 (by kernel_rfl)
                clear hd
                subst d1
                simp only [Act.put, List.setIfInBounds_toArray, List.set_cons_zero, List.set_cons_succ] at hK
                go_simp
                go_at_call 22
                refine (zx _).out.mono ?_
                rintro e w2 ⟨a2, c2, rfl, hN2, hb2⟩
                (try go_wp2_with fail)
                exact hK.out _ _ hb2 ⟨a2, c2, rfl, hN2⟩
              case po13x3 =>
                intro w1 hb1 hd KK hK
                clear hd
                simp only [Act.put, List.setIfInBounds_toArray, List.set_cons_zero, List.set_cons_succ] at hK
                go_simp
                exact hK.out _ _ (Below.refl _ _) rfl
              case po13x4 =>
                intro w1 hb1 hd KK hK
                have d2 : (IsZ (x)) x2 w1 := hd 2 (by kernel_rfl)
                have d3 : x3 = .int .i64 K := hd 3 (by kernel_rfl)
                clear hd
                obtain ⟨a2, e2, rfl, hN2⟩ := d2
                subst d3
                simp only [Act.put, List.setIfInBounds_toArray, List.set_cons_zero, List.set_cons_succ] at hK
                go_simp
                go_at_call 22
                refine (zk _).out.mono ?_
                rintro e w2 ⟨a2, c2, rfl, hN2, hb2⟩
                (try go_wp2_with fail)
                exact hK.out _ _ hb2 ⟨a2, c2, rfl, hN2⟩
              case po13x5 =>
                intro w1 hb1 hd KK hK
                clear hd
                simp only [Act.put, List.setIfInBounds_toArray, List.set_cons_zero, List.set_cons_succ] at hK
                go_simp
                exact hK.out _ _ (Below.refl _ _) rfl
              case po13x6 =>
                intro w1 hb1 hd KK hK
                have d5 : x5 = .pointer (some ⟨wr.heap.size, 5, none⟩) := hd 5 (by kernel_rfl)
                clear hd
                subst d5
                have hc := cellOf hb1 c5.out hlt0
                simp only [Act.put, List.setIfInBounds_toArray, List.set_cons_zero, List.set_cons_succ] at hK
                go_simp
                exact hK.out _ _ (Below.refl _ _) rfl
              case po13x7 =>
                intro w1 hb1 hd KK hK
                have d4 : (IsZ (K)) x4 w1 := hd 4 (by kernel_rfl)
                have d6 : x6 = .int .i64 y := hd 6 (by kernel_rfl)
                clear hd
                obtain ⟨a4, e4, rfl, hN4⟩ := d4
                subst d6
                simp only [Act.put, List.setIfInBounds_toArray, List.set_cons_zero, List.set_cons_succ] at hK
                go_simp
                go_at_call 22
                refine (zy _).out.mono ?_
                rintro e w2 ⟨a2, c2, rfl, hN2, hb2⟩
                (try go_wp2_with fail)
                exact hK.out _ _ hb2 ⟨a2, c2, rfl, hN2⟩
              case po13x8 =>
                intro w1 hb1 hd KK hK
                have d4 : (IsZ (K)) x4 w1 := hd 4 (by kernel_rfl)
                have d7 : (IsZ (y)) x7 w1 := hd 7 (by kernel_rfl)
                clear hd
                obtain ⟨a4, e4, rfl, hN4⟩ := d4
                obtain ⟨a7, e7, rfl, hN7⟩ := d7
                simp only [Act.put, List.setIfInBounds_toArray, List.set_cons_zero, List.set_cons_succ] at hK
                go_simp
                go_at_call 23
                refine (ztm a4 a7 e4 e7 w1 hN4 hN7).out.mono ?_
                rintro e w2 ⟨a2, c2, rfl, hN2, hb2⟩
                (try go_wp2_with fail)
                exact hK.out _ _ hb2 ⟨a2, c2, rfl, hN2⟩
              case po13x9 =>
                intro w1 hb1 hd KK hK
                have d2 : (IsZ (x)) x2 w1 := hd 2 (by kernel_rfl)
                have d8 : (IsZ (KY)) x8 w1 := hd 8 (by kernel_rfl)
                clear hd
                obtain ⟨a2, e2, rfl, hN2⟩ := d2
                obtain ⟨a8, e8, rfl, hN8⟩ := d8
                simp only [Act.put, List.setIfInBounds_toArray, List.set_cons_zero, List.set_cons_succ] at hK
                go_simp
                go_at_call 21
                refine (zls a2 a8 e2 e8 w1 hN2 hN8).out.mono ?_
                rintro e w2 ⟨a3, c3, rfl, hN3, hb2⟩
                (try go_wp2_with fail)
                exact hK.out _ _ hb2 ⟨a3, c3, rfl, hN3⟩
              case po13x10 =>
                intro w1 hb1 hd KK hK
                clear hd
                simp only [Act.put, List.setIfInBounds_toArray, List.set_cons_zero, List.set_cons_succ] at hK
                go_simp
                exact hK.out _ _ ((Below.refl _ _).alloc (Nat.le_refl _) _) ⟨w1.heap.size, rfl, hb1.size, by simp, by constructor <;> go_simp⟩
              case pend13 =>
              intro w1 hb1 hR
              have d0 : x0 = .pointer (some ⟨wr.heap.size, 4, none⟩) := hR 0 (by decide)
              have d1 : x1 = .int .i64 x := hR 1 (by decide)
              have d2 : (IsZ (x)) x2 w1 := hR 2 (by decide)
              have d3 : x3 = .int .i64 K := hR 3 (by decide)
              have d4 : (IsZ (K)) x4 w1 := hR 4 (by decide)
              have d5 : x5 = .pointer (some ⟨wr.heap.size, 5, none⟩) := hR 5 (by decide)
              have d6 : x6 = .int .i64 y := hR 6 (by decide)
              have d7 : (IsZ (y)) x7 w1 := hR 7 (by decide)
              have d8 : (IsZ (KY)) x8 w1 := hR 8 (by decide)
              have d9 : (IsZ (R)) x9 w1 := hR 9 (by decide)
              have d10 : (IsBox W13 (.bool false) (.slice none 0 0)) x10 w1 := hR 10 (by decide)
              clear hR
              subst d0
              subst d1
              obtain ⟨a2, e2, rfl, hN2⟩ := d2
              subst d3
              obtain ⟨a4, e4, rfl, hN4⟩ := d4
              subst d5
              subst d6
              obtain ⟨a7, e7, rfl, hN7⟩ := d7
              obtain ⟨a8, e8, rfl, hN8⟩ := d8
              obtain ⟨a9, e9, rfl, hN9⟩ := d9
              obtain ⟨b10, rfl, hle10, hlt10, hX10⟩ := d10
              refine wpAny_ready (rs := [11]) (by kernel_rfl) (by simp) (AllReady.cons rfl (fun KK hK => ?_) AllReady.nil)
              have hz := zbox_store (y0 := .bool (decide (R < 0))) (y1 := .slice a9 (dig 18446744073709551616 R.natAbs).length e9) hb1 hX10 hle10 hN9 (by intro z h; cases h) (by intro z h; cases h)
              obtain ⟨f0, f1, f2, f3⟩ := hX10
              go_simp
              refine hK _ _ ?_
              clear hK KK
              try simp only [putAll, Act.put, List.setIfInBounds_toArray, List.set_cons_zero, List.set_cons_succ]
              refine wpAny_done (by kernel_rfl) ?_ _
              generalize (w1.setCell ⟨b10, 0, none⟩ (.bool (decide (R < 0)))).setCell ⟨b10, 1, none⟩ (.slice a9 (dig 18446744073709551616 R.natAbs).length e9) = W14 at hz ⊢
              obtain ⟨hb14, hc0, hc1, hN14⟩ := hz
              have E := EB.out.next hb14
              clear hb14 EB hN2 hN4 hN7 hN8 hN9 f0 f1 f2 f3
              go_upto_region 15 with (first | (go_at_call 25; refine (zar a9 e9 _ hN14).out.mono ?_; rintro e w4 ⟨a4, e4, rfl, hN4, hb4⟩; replace E := E.next hb4; clear hb4) | (go_at_call 24; refine (zlf a4 e4 _ hN4).out.mono ?_; rintro e w5 ⟨a5, e5, rfl, hN5, hb5⟩; replace E := ((((E.next hb5).addL hN5.li).alloc (.cells #[.bool (decide (T < 0)), .slice a5 (dig 18446744073709551616 T.natAbs).length e5] 31)).addC (a := ⟨w5.heap.size, 0, none⟩) (v := .bool (decide (T < 0))) (by simp [go_sem])).addC (a := ⟨w5.heap.size, 1, none⟩) (v := .slice a5 (dig 18446744073709551616 T.natAbs).length e5) (by simp [go_sem]); clear hb5))
              have hNt := And.intro hN5.c1 hN5.c2
              obtain ⟨B12, hB12⟩ : ∃ B, w5.heap.size = B := ⟨_, rfl⟩
              rw [hB12] at E
              obtain ⟨W15, hW15⟩ := envW E
              rw [hW15] at E ⊢
              (try rw [hB12])
              clear hW15 hN5 hN4 hN14 hB12
              have g5 := Lib.hid (E.cell (a := ⟨wr.heap.size, 5, none⟩) (v := .int .i64 y) (by simp))
              have g0 := Lib.hid (E.cell (a := ⟨B12, 0, none⟩) (v := .bool (decide (T < 0))) (by simp))
              have g1 := Lib.hid (E.cell (a := ⟨B12, 1, none⟩) (v := .slice a5 (dig 18446744073709551616 T.natAbs).length e5) (by simp))
              have hlt1 := (E.cells (⟨wr.heap.size, 0, none⟩, .int .i64 ah) (by simp)).2
              have hlt2 := (E.cells (⟨B12, 0, none⟩, .bool (decide (T < 0))) (by simp)).2
              have hNT : NAt W15 W15.heap.size a5 e5 T.natAbs := ⟨E.live (by simp), hNt.1, hNt.2⟩
              have HNT := Lib.hid hNT
              have EB := Lib.hid E
              clear E hNT
              refine wp_region_parts (w := W15) 7 0 [(fun u _ => u = .agg #[.bool (decide (T < 0)), .slice a5 (dig 18446744073709551616 T.natAbs).length e5]), (fun u _ => u = .pointer (some ⟨wr.heap.size, 5, none⟩)), (fun u _ => u = .int .i64 y), ((IsZ (y))), ((IsZ (YA))), (fun u _ => u = .int .i64 C), (fun u _ => u = .int .i64 C)] [some 87, some 88, some 89, some 90, some 91, some 92, some 13] #[true, true, true, true, true, true, true] (by kernel_rfl) rfl (by kernel_rfl) (by kernel_rfl) rfl (by kernel_rfl) (.cons (carries_eq _) (.cons (carries_eq _) (.cons (carries_eq _) (.cons (isZ_carries _) (.cons (isZ_carries _) (.cons (carries_eq _) (.cons (carries_eq _) .nil))))))) (fun vs b hvl hvb => ?_)
              obtain ⟨x0, x1, x2, x3, x4, x5, x6, rfl⟩ : ∃ x0 x1 x2 x3 x4 x5 x6, vs = [x0, x1, x2, x3, x4, x5, x6] := lst7 hvl
              clear hvl
              simp only [putAll, Act.put, List.setIfInBounds_toArray, List.set_cons_zero, List.set_cons_succ] at hvb
              subst hvb
              refine ⟨(.snoc (.snoc (.snoc (.snoc (.snoc (.snoc (.snoc .zero (PartOb.intro (r := fun u _ => u = .agg #[.bool (decide (T < 0)), .slice a5 (dig 18446744073709551616 T.natAbs).length e5]) rfl rfl ?po15x0)) (PartOb.intro (r := fun u _ => u = .pointer (some ⟨wr.heap.size, 5, none⟩)) rfl rfl ?po15x1)) (PartOb.intro (r := fun u _ => u = .int .i64 y) rfl rfl ?po15x2)) (PartOb.intro (r := (IsZ (y))) rfl rfl ?po15x3)) (PartOb.intro (r := (IsZ (YA))) rfl rfl ?po15x4)) (PartOb.intro (r := fun u _ => u = .int .i64 C) rfl rfl ?po15x5)) (PartOb.intro (r := fun u _ => u = .int .i64 C) rfl rfl ?po15x6)), ?pend15⟩
              case po15x0 =>
                intro w1 hb1 hd KK hK
                clear hd
                have hc0 := cellOf hb1 g0.out hlt2
                have hc1 := cellOf hb1 g1.out hlt2
                simp only [Act.put, List.setIfInBounds_toArray, List.set_cons_zero, List.set_cons_succ] at hK
                go_simp
                exact hK.out _ _ (Below.refl _ _) rfl
              case po15x1 =>
                intro w1 hb1 hd KK hK
                clear hd
                simp only [Act.put, List.setIfInBounds_toArray, List.set_cons_zero, List.set_cons_succ] at hK
                go_simp
                exact hK.out _ _ (Below.refl _ _) rfl
              case po15x2 =>
                intro w1 hb1 hd KK hK
                have d1 : x1 = .pointer (some ⟨wr.heap.size, 5, none⟩) := hd 1 (by kernel_rfl)
                clear hd
                subst d1
                have hc := cellOf hb1 g5.out hlt1
                simp only [Act.put, List.setIfInBounds_toArray, List.set_cons_zero, List.set_cons_succ] at hK
                go_simp
                exact hK.out _ _ (Below.refl _ _) rfl
              case po15x3 =>
                intro w1 hb1 hd KK hK
                have d2 : x2 = .int .i64 y := hd 2 (by kernel_rfl)
                clear hd
                subst d2
                simp only [Act.put, List.setIfInBounds_toArray, List.set_cons_zero, List.set_cons_succ] at hK
                go_simp
                go_at_call 22
                refine (zy _).out.mono ?_
                rintro e w2 ⟨a2, c2, rfl, hN2, hb2⟩
                (try go_wp2_with fail)
                exact hK.out _ _ hb2 ⟨a2, c2, rfl, hN2⟩
              case po15x4 =>
                intro w1 hb1 hd KK hK
                have d3 : (IsZ (y)) x3 w1 := hd 3 (by kernel_rfl)
                clear hd
                obtain ⟨a3, e3, rfl, hN3⟩ := d3
                simp only [Act.put, List.setIfInBounds_toArray, List.set_cons_zero, List.set_cons_succ] at hK
                go_simp
                go_at_call 25
                refine (zay a3 e3 w1 hN3).out.mono ?_
                rintro e w2 ⟨a2, c2, rfl, hN2, hb2⟩
                (try go_wp2_with fail)
                exact hK.out _ _ hb2 ⟨a2, c2, rfl, hN2⟩
              case po15x5 =>
                intro w1 hb1 hd KK hK
                have d0 : x0 = .agg #[.bool (decide (T < 0)), .slice a5 (dig 18446744073709551616 T.natAbs).length e5] := hd 0 (by kernel_rfl)
                have d4 : (IsZ (YA)) x4 w1 := hd 4 (by kernel_rfl)
                clear hd
                subst d0
                obtain ⟨a4, e4, rfl, hN4⟩ := d4
                simp only [Act.put, List.setIfInBounds_toArray, List.set_cons_zero, List.set_cons_succ] at hK
                go_simp
                go_at_call 26
                refine (zcm a5 a4 e5 e4 w1 ((HNT.out.below hb1 (Nat.le_refl _)).mono hb1.size) hN4).out.mono ?_
                rintro e w2 ⟨rfl, hb2⟩
                (try go_wp2_with fail)
                exact hK.out _ _ hb2 rfl
              case po15x6 =>
                intro w1 hb1 hd KK hK
                have d0 : x0 = .agg #[.bool (decide (T < 0)), .slice a5 (dig 18446744073709551616 T.natAbs).length e5] := hd 0 (by kernel_rfl)
                have d1 : x1 = .pointer (some ⟨wr.heap.size, 5, none⟩) := hd 1 (by kernel_rfl)
                have d2 : x2 = .int .i64 y := hd 2 (by kernel_rfl)
                have d3 : (IsZ (y)) x3 w1 := hd 3 (by kernel_rfl)
                have d4 : (IsZ (YA)) x4 w1 := hd 4 (by kernel_rfl)
                have d5 : x5 = .int .i64 C := hd 5 (by kernel_rfl)
                clear hd
                subst d0
                subst d1
                subst d2
                obtain ⟨a3, e3, rfl, hN3⟩ := d3
                obtain ⟨a4, e4, rfl, hN4⟩ := d4
                subst d5
                simp only [Act.put, List.setIfInBounds_toArray, List.set_cons_zero, List.set_cons_succ] at hK
                go_simp
                exact hK.out _ _ (Below.refl _ _) rfl
              case pend15 =>
              intro w1 hb1 hR
              have d0 : x0 = .agg #[.bool (decide (T < 0)), .slice a5 (dig 18446744073709551616 T.natAbs).length e5] := hR 0 (by decide)
              have d1 : x1 = .pointer (some ⟨wr.heap.size, 5, none⟩) := hR 1 (by decide)
              have d2 : x2 = .int .i64 y := hR 2 (by decide)
              have d3 : (IsZ (y)) x3 w1 := hR 3 (by decide)
              have d4 : (IsZ (YA)) x4 w1 := hR 4 (by decide)
              have d5 : x5 = .int .i64 C := hR 5 (by decide)
              have d6 : x6 = .int .i64 C := hR 6 (by decide)
              clear hR
              subst d0
              subst d1
              subst d2
              obtain ⟨a3, e3, rfl, hN3⟩ := d3
              obtain ⟨a4, e4, rfl, hN4⟩ := d4
              subst d5
              subst d6
              refine wpAny_done (by kernel_rfl) ?_ _
              have E := EB.out.next hb1
              clear EB hb1 hN3 hN4 HNT
              have p0 := E.cell (a := ⟨wr.heap.size, 0, none⟩) (v := .int .i64 ah) (by simp)
              have p1 := E.cell (a := ⟨wr.heap.size, 1, none⟩) (v := .int .u64 al) (by simp)
              have p2 := E.cell (a := ⟨wr.heap.size, 2, none⟩) (v := .int .i64 bh) (by simp)
              have p3 := E.cell (a := ⟨wr.heap.size, 3, none⟩) (v := .int .u64 bl) (by simp)
              have p4 := E.cell (a := ⟨wr.heap.size, 4, none⟩) (v := .int .i64 x) (by simp)
              have p5 := E.cell (a := ⟨wr.heap.size, 5, none⟩) (v := .int .i64 y) (by simp)
              have p6 := E.cell (a := ⟨wr.heap.size, 6, none⟩) (v := .int .i64 m) (by simp)
              have qn0 := E.cell (a := ⟨wn.heap.size, 0, none⟩) (v := .int .i64 FH) (by simp)
              have qn1 := E.cell (a := ⟨wn.heap.size, 1, none⟩) (v := .int .u64 FL) (by simp)
              have qd0 := E.cell (a := ⟨wd.heap.size, 0, none⟩) (v := .int .i64 GH) (by simp)
              have qd1 := E.cell (a := ⟨wd.heap.size, 1, none⟩) (v := .int .u64 GL) (by simp)
              have qx0 := E.cell (a := ⟨wx.heap.size, 0, none⟩) (v := .int .i64 KH) (by simp)
              have qx1 := E.cell (a := ⟨wx.heap.size, 1, none⟩) (v := .int .u64 KL) (by simp)
              have M3 := True.intro
              have M4 := True.intro
              rcases hlaw with rfl | ⟨rfl, hk2⟩
              · as_aux_lemma =>
                  clear hkm
                  go_wp2_with (first | (go_at_call 20; refine (num1_any _ _).mono ?_; rintro e w' ⟨rfl, rfl⟩) | (go_at_call 27; have hmk := M3; clear hmk M3; go_loud (refine ((hng _).out).mono ?_; rintro e wm ⟨rfl, hb⟩; replace E := (((E.next hb).alloc (.cells #[.int .i64 NH, .int .u64 NL] 25)).addC (a := ⟨wm.heap.size, 0, none⟩) (v := .int .i64 NH) (by simp [go_sem])).addC (a := ⟨wm.heap.size, 1, none⟩) (v := .int .u64 NL) (by simp [go_sem]); clear hb; have p0 := E.cell (a := ⟨wr.heap.size, 0, none⟩) (v := .int .i64 ah) (by simp); have p1 := E.cell (a := ⟨wr.heap.size, 1, none⟩) (v := .int .u64 al) (by simp); have p2 := E.cell (a := ⟨wr.heap.size, 2, none⟩) (v := .int .i64 bh) (by simp); have p3 := E.cell (a := ⟨wr.heap.size, 3, none⟩) (v := .int .u64 bl) (by simp); have p4 := E.cell (a := ⟨wr.heap.size, 4, none⟩) (v := .int .i64 x) (by simp); have p5 := E.cell (a := ⟨wr.heap.size, 5, none⟩) (v := .int .i64 y) (by simp); have p6 := E.cell (a := ⟨wr.heap.size, 6, none⟩) (v := .int .i64 m) (by simp); have qn0 := E.cell (a := ⟨wn.heap.size, 0, none⟩) (v := .int .i64 FH) (by simp); have qn1 := E.cell (a := ⟨wn.heap.size, 1, none⟩) (v := .int .u64 FL) (by simp); have qd0 := E.cell (a := ⟨wd.heap.size, 0, none⟩) (v := .int .i64 GH) (by simp); have qd1 := E.cell (a := ⟨wd.heap.size, 1, none⟩) (v := .int .u64 GL) (by simp); have qx0 := E.cell (a := ⟨wx.heap.size, 0, none⟩) (v := .int .i64 KH) (by simp); have qx1 := E.cell (a := ⟨wx.heap.size, 1, none⟩) (v := .int .u64 KL) (by simp); have qm0 := E.cell (a := ⟨wm.heap.size, 0, none⟩) (v := .int .i64 NH) (by simp); have qm1 := E.cell (a := ⟨wm.heap.size, 1, none⟩) (v := .int .u64 NL) (by simp))) | (go_at_call 14; go_loud (refine ((hrn _).out).mono ?_; rintro e wy ⟨rfl, hb⟩; replace E := (((E.next hb).alloc (.cells #[.int .i64 SH, .int .u64 SL] 25)).addC (a := ⟨wy.heap.size, 0, none⟩) (v := .int .i64 SH) (by simp [go_sem])).addC (a := ⟨wy.heap.size, 1, none⟩) (v := .int .u64 SL) (by simp [go_sem]); clear hb; have p0 := E.cell (a := ⟨wr.heap.size, 0, none⟩) (v := .int .i64 ah) (by simp); have p1 := E.cell (a := ⟨wr.heap.size, 1, none⟩) (v := .int .u64 al) (by simp); have p2 := E.cell (a := ⟨wr.heap.size, 2, none⟩) (v := .int .i64 bh) (by simp); have p3 := E.cell (a := ⟨wr.heap.size, 3, none⟩) (v := .int .u64 bl) (by simp); have p4 := E.cell (a := ⟨wr.heap.size, 4, none⟩) (v := .int .i64 x) (by simp); have p5 := E.cell (a := ⟨wr.heap.size, 5, none⟩) (v := .int .i64 y) (by simp); have p6 := E.cell (a := ⟨wr.heap.size, 6, none⟩) (v := .int .i64 m) (by simp); have qn0 := E.cell (a := ⟨wn.heap.size, 0, none⟩) (v := .int .i64 FH) (by simp); have qn1 := E.cell (a := ⟨wn.heap.size, 1, none⟩) (v := .int .u64 FL) (by simp); have qd0 := E.cell (a := ⟨wd.heap.size, 0, none⟩) (v := .int .i64 GH) (by simp); have qd1 := E.cell (a := ⟨wd.heap.size, 1, none⟩) (v := .int .u64 GL) (by simp); have qx0 := E.cell (a := ⟨wx.heap.size, 0, none⟩) (v := .int .i64 KH) (by simp); have qx1 := E.cell (a := ⟨wx.heap.size, 1, none⟩) (v := .int .u64 KL) (by simp); have qm0 := E.cell (a := ⟨wm.heap.size, 0, none⟩) (v := .int .i64 NH) (by simp); have qm1 := E.cell (a := ⟨wm.heap.size, 1, none⟩) (v := .int .u64 NL) (by simp); have qy0 := E.cell (a := ⟨wy.heap.size, 0, none⟩) (v := .int .i64 SH) (by simp); have qy1 := E.cell (a := ⟨wy.heap.size, 1, none⟩) (v := .int .u64 SL) (by simp))) | (go_at_call 27; have hmk := M4; clear hmk M4; go_loud (refine ((hnk _).out).mono ?_; rintro e wv ⟨rfl, hb⟩; replace E := (((E.next hb).alloc (.cells #[.int .i64 SH, .int .u64 SL] 25)).addC (a := ⟨wv.heap.size, 0, none⟩) (v := .int .i64 SH) (by simp [go_sem])).addC (a := ⟨wv.heap.size, 1, none⟩) (v := .int .u64 SL) (by simp [go_sem]); clear hb; have p0 := E.cell (a := ⟨wr.heap.size, 0, none⟩) (v := .int .i64 ah) (by simp); have p1 := E.cell (a := ⟨wr.heap.size, 1, none⟩) (v := .int .u64 al) (by simp); have p2 := E.cell (a := ⟨wr.heap.size, 2, none⟩) (v := .int .i64 bh) (by simp); have p3 := E.cell (a := ⟨wr.heap.size, 3, none⟩) (v := .int .u64 bl) (by simp); have p4 := E.cell (a := ⟨wr.heap.size, 4, none⟩) (v := .int .i64 x) (by simp); have p5 := E.cell (a := ⟨wr.heap.size, 5, none⟩) (v := .int .i64 y) (by simp); have p6 := E.cell (a := ⟨wr.heap.size, 6, none⟩) (v := .int .i64 m) (by simp); have qn0 := E.cell (a := ⟨wn.heap.size, 0, none⟩) (v := .int .i64 FH) (by simp); have qn1 := E.cell (a := ⟨wn.heap.size, 1, none⟩) (v := .int .u64 FL) (by simp); have qd0 := E.cell (a := ⟨wd.heap.size, 0, none⟩) (v := .int .i64 GH) (by simp); have qd1 := E.cell (a := ⟨wd.heap.size, 1, none⟩) (v := .int .u64 GL) (by simp); have qx0 := E.cell (a := ⟨wx.heap.size, 0, none⟩) (v := .int .i64 KH) (by simp); have qx1 := E.cell (a := ⟨wx.heap.size, 1, none⟩) (v := .int .u64 KL) (by simp); have qm0 := E.cell (a := ⟨wm.heap.size, 0, none⟩) (v := .int .i64 NH) (by simp); have qm1 := E.cell (a := ⟨wm.heap.size, 1, none⟩) (v := .int .u64 NL) (by simp); have qy0 := E.cell (a := ⟨wy.heap.size, 0, none⟩) (v := .int .i64 SH) (by simp); have qy1 := E.cell (a := ⟨wy.heap.size, 1, none⟩) (v := .int .u64 SL) (by simp); have qv0 := E.cell (a := ⟨wv.heap.size, 0, none⟩) (v := .int .i64 SH) (by simp); have qv1 := E.cell (a := ⟨wv.heap.size, 1, none⟩) (v := .int .u64 SL) (by simp))))
                  refine ⟨⟨k + 1, by omega, by go_num, HB.out.trans (E.bel.mono hsz)⟩, ?_⟩
                  simp [intOf]; omega
              · as_aux_lemma =>
                  have hkt := hkm hk2
                  clear hkm
                  go_wp2_with (first | (go_at_call 20; refine (num1_any _ _).mono ?_; rintro e w' ⟨rfl, rfl⟩) | (go_at_call 27; have hmk := M3; clear hmk M3; go_loud (refine ((hng _).out).mono ?_; rintro e wm ⟨rfl, hb⟩; replace E := (((E.next hb).alloc (.cells #[.int .i64 NH, .int .u64 NL] 25)).addC (a := ⟨wm.heap.size, 0, none⟩) (v := .int .i64 NH) (by simp [go_sem])).addC (a := ⟨wm.heap.size, 1, none⟩) (v := .int .u64 NL) (by simp [go_sem]); clear hb; have p0 := E.cell (a := ⟨wr.heap.size, 0, none⟩) (v := .int .i64 ah) (by simp); have p1 := E.cell (a := ⟨wr.heap.size, 1, none⟩) (v := .int .u64 al) (by simp); have p2 := E.cell (a := ⟨wr.heap.size, 2, none⟩) (v := .int .i64 bh) (by simp); have p3 := E.cell (a := ⟨wr.heap.size, 3, none⟩) (v := .int .u64 bl) (by simp); have p4 := E.cell (a := ⟨wr.heap.size, 4, none⟩) (v := .int .i64 x) (by simp); have p5 := E.cell (a := ⟨wr.heap.size, 5, none⟩) (v := .int .i64 y) (by simp); have p6 := E.cell (a := ⟨wr.heap.size, 6, none⟩) (v := .int .i64 m) (by simp); have qn0 := E.cell (a := ⟨wn.heap.size, 0, none⟩) (v := .int .i64 FH) (by simp); have qn1 := E.cell (a := ⟨wn.heap.size, 1, none⟩) (v := .int .u64 FL) (by simp); have qd0 := E.cell (a := ⟨wd.heap.size, 0, none⟩) (v := .int .i64 GH) (by simp); have qd1 := E.cell (a := ⟨wd.heap.size, 1, none⟩) (v := .int .u64 GL) (by simp); have qx0 := E.cell (a := ⟨wx.heap.size, 0, none⟩) (v := .int .i64 KH) (by simp); have qx1 := E.cell (a := ⟨wx.heap.size, 1, none⟩) (v := .int .u64 KL) (by simp); have qm0 := E.cell (a := ⟨wm.heap.size, 0, none⟩) (v := .int .i64 NH) (by simp); have qm1 := E.cell (a := ⟨wm.heap.size, 1, none⟩) (v := .int .u64 NL) (by simp))) | (go_at_call 14; go_loud (refine ((hrn _).out).mono ?_; rintro e wy ⟨rfl, hb⟩; replace E := (((E.next hb).alloc (.cells #[.int .i64 SH, .int .u64 SL] 25)).addC (a := ⟨wy.heap.size, 0, none⟩) (v := .int .i64 SH) (by simp [go_sem])).addC (a := ⟨wy.heap.size, 1, none⟩) (v := .int .u64 SL) (by simp [go_sem]); clear hb; have p0 := E.cell (a := ⟨wr.heap.size, 0, none⟩) (v := .int .i64 ah) (by simp); have p1 := E.cell (a := ⟨wr.heap.size, 1, none⟩) (v := .int .u64 al) (by simp); have p2 := E.cell (a := ⟨wr.heap.size, 2, none⟩) (v := .int .i64 bh) (by simp); have p3 := E.cell (a := ⟨wr.heap.size, 3, none⟩) (v := .int .u64 bl) (by simp); have p4 := E.cell (a := ⟨wr.heap.size, 4, none⟩) (v := .int .i64 x) (by simp); have p5 := E.cell (a := ⟨wr.heap.size, 5, none⟩) (v := .int .i64 y) (by simp); have p6 := E.cell (a := ⟨wr.heap.size, 6, none⟩) (v := .int .i64 m) (by simp); have qn0 := E.cell (a := ⟨wn.heap.size, 0, none⟩) (v := .int .i64 FH) (by simp); have qn1 := E.cell (a := ⟨wn.heap.size, 1, none⟩) (v := .int .u64 FL) (by simp); have qd0 := E.cell (a := ⟨wd.heap.size, 0, none⟩) (v := .int .i64 GH) (by simp); have qd1 := E.cell (a := ⟨wd.heap.size, 1, none⟩) (v := .int .u64 GL) (by simp); have qx0 := E.cell (a := ⟨wx.heap.size, 0, none⟩) (v := .int .i64 KH) (by simp); have qx1 := E.cell (a := ⟨wx.heap.size, 1, none⟩) (v := .int .u64 KL) (by simp); have qm0 := E.cell (a := ⟨wm.heap.size, 0, none⟩) (v := .int .i64 NH) (by simp); have qm1 := E.cell (a := ⟨wm.heap.size, 1, none⟩) (v := .int .u64 NL) (by simp); have qy0 := E.cell (a := ⟨wy.heap.size, 0, none⟩) (v := .int .i64 SH) (by simp); have qy1 := E.cell (a := ⟨wy.heap.size, 1, none⟩) (v := .int .u64 SL) (by simp))) | (go_at_call 27; have hmk := M4; clear hmk M4; go_loud (refine ((hnk _).out).mono ?_; rintro e wv ⟨rfl, hb⟩; replace E := (((E.next hb).alloc (.cells #[.int .i64 SH, .int .u64 SL] 25)).addC (a := ⟨wv.heap.size, 0, none⟩) (v := .int .i64 SH) (by simp [go_sem])).addC (a := ⟨wv.heap.size, 1, none⟩) (v := .int .u64 SL) (by simp [go_sem]); clear hb; have p0 := E.cell (a := ⟨wr.heap.size, 0, none⟩) (v := .int .i64 ah) (by simp); have p1 := E.cell (a := ⟨wr.heap.size, 1, none⟩) (v := .int .u64 al) (by simp); have p2 := E.cell (a := ⟨wr.heap.size, 2, none⟩) (v := .int .i64 bh) (by simp); have p3 := E.cell (a := ⟨wr.heap.size, 3, none⟩) (v := .int .u64 bl) (by simp); have p4 := E.cell (a := ⟨wr.heap.size, 4, none⟩) (v := .int .i64 x) (by simp); have p5 := E.cell (a := ⟨wr.heap.size, 5, none⟩) (v := .int .i64 y) (by simp); have p6 := E.cell (a := ⟨wr.heap.size, 6, none⟩) (v := .int .i64 m) (by simp); have qn0 := E.cell (a := ⟨wn.heap.size, 0, none⟩) (v := .int .i64 FH) (by simp); have qn1 := E.cell (a := ⟨wn.heap.size, 1, none⟩) (v := .int .u64 FL) (by simp); have qd0 := E.cell (a := ⟨wd.heap.size, 0, none⟩) (v := .int .i64 GH) (by simp); have qd1 := E.cell (a := ⟨wd.heap.size, 1, none⟩) (v := .int .u64 GL) (by simp); have qx0 := E.cell (a := ⟨wx.heap.size, 0, none⟩) (v := .int .i64 KH) (by simp); have qx1 := E.cell (a := ⟨wx.heap.size, 1, none⟩) (v := .int .u64 KL) (by simp); have qm0 := E.cell (a := ⟨wm.heap.size, 0, none⟩) (v := .int .i64 NH) (by simp); have qm1 := E.cell (a := ⟨wm.heap.size, 1, none⟩) (v := .int .u64 NL) (by simp); have qy0 := E.cell (a := ⟨wy.heap.size, 0, none⟩) (v := .int .i64 SH) (by simp); have qy1 := E.cell (a := ⟨wy.heap.size, 1, none⟩) (v := .int .u64 SL) (by simp); have qv0 := E.cell (a := ⟨wv.heap.size, 0, none⟩) (v := .int .i64 SH) (by simp); have qv1 := E.cell (a := ⟨wv.heap.size, 1, none⟩) (v := .int .u64 SL) (by simp))))
                  refine ⟨⟨k + 1, by omega, by go_num, HB.out.trans (E.bel.mono hsz)⟩, ?_⟩
                  simp [intOf]; omega
          · as_aux_lemma =>
              rw [if_neg hKs, decide_eq_false hKs] at hsm
              have hxy : x = -9223372036854775808 ∧ y = -1 := by rcases hrg with h | ⟨h1, h2, _⟩ <;> omega
              obtain ⟨hx9, hy9⟩ := hxy
              clear HLaw hrg hin hK hKs hKb
              subst hx9 hy9
              go_wp2_with (first | (go_at_call 20; refine (num1_any _ _).mono ?_; rintro e w' ⟨rfl, rfl⟩) | (go_at_call 18; have hmk := M1; clear hmk M1; go_loud (refine ((hfn _).out).mono ?_; rintro e wn ⟨rfl, hb⟩; replace E := (((E.next hb).alloc (.cells #[.int .i64 FH, .int .u64 FL] 25)).addC (a := ⟨wn.heap.size, 0, none⟩) (v := .int .i64 FH) (by simp [go_sem])).addC (a := ⟨wn.heap.size, 1, none⟩) (v := .int .u64 FL) (by simp [go_sem]); clear hb; have p0 := E.cell (a := ⟨wr.heap.size, 0, none⟩) (v := .int .i64 ah) (by simp); have p1 := E.cell (a := ⟨wr.heap.size, 1, none⟩) (v := .int .u64 al) (by simp); have p2 := E.cell (a := ⟨wr.heap.size, 2, none⟩) (v := .int .i64 bh) (by simp); have p3 := E.cell (a := ⟨wr.heap.size, 3, none⟩) (v := .int .u64 bl) (by simp); have p4 := E.cell (a := ⟨wr.heap.size, 4, none⟩) (v := .int .i64 (-9223372036854775808)) (by simp); have p5 := E.cell (a := ⟨wr.heap.size, 5, none⟩) (v := .int .i64 (-1)) (by simp); have p6 := E.cell (a := ⟨wr.heap.size, 6, none⟩) (v := .int .i64 m) (by simp); have qn0 := E.cell (a := ⟨wn.heap.size, 0, none⟩) (v := .int .i64 FH) (by simp); have qn1 := E.cell (a := ⟨wn.heap.size, 1, none⟩) (v := .int .u64 FL) (by simp))) | (go_at_call 18; have hmk := M2; clear hmk M2; go_loud (refine ((hfd _).out).mono ?_; rintro e wd ⟨rfl, hb⟩; replace E := (((E.next hb).alloc (.cells #[.int .i64 GH, .int .u64 GL] 25)).addC (a := ⟨wd.heap.size, 0, none⟩) (v := .int .i64 GH) (by simp [go_sem])).addC (a := ⟨wd.heap.size, 1, none⟩) (v := .int .u64 GL) (by simp [go_sem]); clear hb; have p0 := E.cell (a := ⟨wr.heap.size, 0, none⟩) (v := .int .i64 ah) (by simp); have p1 := E.cell (a := ⟨wr.heap.size, 1, none⟩) (v := .int .u64 al) (by simp); have p2 := E.cell (a := ⟨wr.heap.size, 2, none⟩) (v := .int .i64 bh) (by simp); have p3 := E.cell (a := ⟨wr.heap.size, 3, none⟩) (v := .int .u64 bl) (by simp); have p4 := E.cell (a := ⟨wr.heap.size, 4, none⟩) (v := .int .i64 (-9223372036854775808)) (by simp); have p5 := E.cell (a := ⟨wr.heap.size, 5, none⟩) (v := .int .i64 (-1)) (by simp); have p6 := E.cell (a := ⟨wr.heap.size, 6, none⟩) (v := .int .i64 m) (by simp); have qn0 := E.cell (a := ⟨wn.heap.size, 0, none⟩) (v := .int .i64 FH) (by simp); have qn1 := E.cell (a := ⟨wn.heap.size, 1, none⟩) (v := .int .u64 FL) (by simp); have qd0 := E.cell (a := ⟨wd.heap.size, 0, none⟩) (v := .int .i64 GH) (by simp); have qd1 := E.cell (a := ⟨wd.heap.size, 1, none⟩) (v := .int .u64 GL) (by simp))) | (go_at_call 14; go_loud (refine ((hrd _).out).mono ?_; rintro e wx ⟨rfl, hb⟩; replace E := (((E.next hb).alloc (.cells #[.int .i64 KH, .int .u64 KL] 25)).addC (a := ⟨wx.heap.size, 0, none⟩) (v := .int .i64 KH) (by simp [go_sem])).addC (a := ⟨wx.heap.size, 1, none⟩) (v := .int .u64 KL) (by simp [go_sem]); clear hb; have p0 := E.cell (a := ⟨wr.heap.size, 0, none⟩) (v := .int .i64 ah) (by simp); have p1 := E.cell (a := ⟨wr.heap.size, 1, none⟩) (v := .int .u64 al) (by simp); have p2 := E.cell (a := ⟨wr.heap.size, 2, none⟩) (v := .int .i64 bh) (by simp); have p3 := E.cell (a := ⟨wr.heap.size, 3, none⟩) (v := .int .u64 bl) (by simp); have p4 := E.cell (a := ⟨wr.heap.size, 4, none⟩) (v := .int .i64 (-9223372036854775808)) (by simp); have p5 := E.cell (a := ⟨wr.heap.size, 5, none⟩) (v := .int .i64 (-1)) (by simp); have p6 := E.cell (a := ⟨wr.heap.size, 6, none⟩) (v := .int .i64 m) (by simp); have qn0 := E.cell (a := ⟨wn.heap.size, 0, none⟩) (v := .int .i64 FH) (by simp); have qn1 := E.cell (a := ⟨wn.heap.size, 1, none⟩) (v := .int .u64 FL) (by simp); have qd0 := E.cell (a := ⟨wd.heap.size, 0, none⟩) (v := .int .i64 GH) (by simp); have qd1 := E.cell (a := ⟨wd.heap.size, 1, none⟩) (v := .int .u64 GL) (by simp); have qx0 := E.cell (a := ⟨wx.heap.size, 0, none⟩) (v := .int .i64 KH) (by simp); have qx1 := E.cell (a := ⟨wx.heap.size, 1, none⟩) (v := .int .u64 KL) (by simp))) | (go_at_call 19; go_loud (refine ((hsm _).out).mono ?_; rintro e ws ⟨rfl, hb⟩; replace E := E.next hb; clear hb; have p0 := E.cell (a := ⟨wr.heap.size, 0, none⟩) (v := .int .i64 ah) (by simp); have p1 := E.cell (a := ⟨wr.heap.size, 1, none⟩) (v := .int .u64 al) (by simp); have p2 := E.cell (a := ⟨wr.heap.size, 2, none⟩) (v := .int .i64 bh) (by simp); have p3 := E.cell (a := ⟨wr.heap.size, 3, none⟩) (v := .int .u64 bl) (by simp); have p4 := E.cell (a := ⟨wr.heap.size, 4, none⟩) (v := .int .i64 (-9223372036854775808)) (by simp); have p5 := E.cell (a := ⟨wr.heap.size, 5, none⟩) (v := .int .i64 (-1)) (by simp); have p6 := E.cell (a := ⟨wr.heap.size, 6, none⟩) (v := .int .i64 m) (by simp); have qn0 := E.cell (a := ⟨wn.heap.size, 0, none⟩) (v := .int .i64 FH) (by simp); have qn1 := E.cell (a := ⟨wn.heap.size, 1, none⟩) (v := .int .u64 FL) (by simp); have qd0 := E.cell (a := ⟨wd.heap.size, 0, none⟩) (v := .int .i64 GH) (by simp); have qd1 := E.cell (a := ⟨wd.heap.size, 1, none⟩) (v := .int .u64 GL) (by simp); have qx0 := E.cell (a := ⟨wx.heap.size, 0, none⟩) (v := .int .i64 KH) (by simp); have qx1 := E.cell (a := ⟨wx.heap.size, 1, none⟩) (v := .int .u64 KL) (by simp))))
              refine ⟨⟨k + 1, by omega, by go_num, HB.out.trans (E.bel.mono hsz)⟩, ?_⟩
              simp [intOf]; omega
    · have HB := Lib.hid hbel
      clear hbel h
      by_cases hlt : k < n
      · have hk15 : ¬ (k : Int) < 30 := by omega
        have hkn : (k : Int) < n := by omega
        go_wp2_with (first | (go_at_call 17; refine (wakes1_any _).mono ?_; rintro e w1 ⟨rfl, hb⟩; have HW1 := Lib.hid hb; clear hb))
        go_ret
        exact ⟨rfl, HB.out.trans (HW1.out.mono HB.out.size)⟩
      · have hkn : ¬ (k : Int) < n := by omega
        go_wp2_with (first | (go_at_call 17; refine (wakes1_any _).mono ?_; rintro e w1 ⟨rfl, hb⟩; have HW1 := Lib.hid hb; clear hb))
        go_ret
        exact ⟨rfl, HB.out.trans (HW1.out.mono HB.out.size)⟩
end Go.Proofs.Ytlbmpdidmckgkaa
