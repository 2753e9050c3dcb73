/- Walks: numbers times powers of 2. -/
import Derived.Test.YtlbmpdidmckgkaaLeft1
import Derived.WalkMore
import Derived.Deep.RegionHeld3
import Derived.Deep.Cut
set_option linter.unusedVariables false
set_option linter.unusedSimpArgs false
namespace Go.Proofs.Ytlbmpdidmckgkaa
open Go.RowKit Go.Rt

theorem shortTrans {w w1 w' w'' : World} {HI LO : Int} (h : Below w.heap.size w w' ∧ w1.heap.size < w'.heap.size ∧ w'.cell? ⟨w1.heap.size, 0, none⟩ = some (.int .u64 HI) ∧ w'.cell? ⟨w1.heap.size, 1, none⟩ = some (.int .u64 LO) ∧ Hid (∃ v0 v1, Box2 w' (w.heap.size + 1) v0 v1)) (hl : w.heap.size + 1 < w1.heap.size) (hb : Below w'.heap.size w' w'') :
    Below w.heap.size w w'' ∧ w1.heap.size < w''.heap.size ∧ w''.cell? ⟨w1.heap.size, 0, none⟩ = some (.int .u64 HI) ∧ w''.cell? ⟨w1.heap.size, 1, none⟩ = some (.int .u64 LO) ∧ Hid (∃ v0 v1, Box2 w'' (w.heap.size + 1) v0 v1) := by
  obtain ⟨h1, h2, h3, h4, h5⟩ := h
  obtain ⟨v0, v1, hB⟩ := h5.out
  exact ⟨h1.trans (hb.mono h1.size), Nat.lt_of_lt_of_le h2 hb.size, (hb.cell (p := ⟨w1.heap.size, 0, none⟩) h2).trans h3, (hb.cell (p := ⟨w1.heap.size, 1, none⟩) h2).trans h4, Lib.hid ⟨v0, v1, hB.below hb (Nat.lt_trans hl h2)⟩⟩
theorem shortB {w w1 w' : World} {HI LO : Int} (h : Below w.heap.size w w' ∧ w1.heap.size < w'.heap.size ∧ w'.cell? ⟨w1.heap.size, 0, none⟩ = some (.int .u64 HI) ∧ w'.cell? ⟨w1.heap.size, 1, none⟩ = some (.int .u64 LO) ∧ Hid (∃ v0 v1, Box2 w' (w.heap.size + 1) v0 v1)) : Below w.heap.size w w' := h.1
theorem shortSet {w w1 w' : World} {HI LO : Int} {x y : Value} (h : Below w.heap.size w w' ∧ w1.heap.size < w'.heap.size ∧ w'.cell? ⟨w1.heap.size, 0, none⟩ = some (.int .u64 HI) ∧ w'.cell? ⟨w1.heap.size, 1, none⟩ = some (.int .u64 LO) ∧ Hid (∃ v0 v1, Box2 w' (w.heap.size + 1) v0 v1)) (hl : w.heap.size + 1 < w1.heap.size) :
    Below w.heap.size w ((w'.setCell ⟨w.heap.size + 1, 0, none⟩ x).setCell ⟨w.heap.size + 1, 1, none⟩ y) ∧ w1.heap.size < ((w'.setCell ⟨w.heap.size + 1, 0, none⟩ x).setCell ⟨w.heap.size + 1, 1, none⟩ y).heap.size ∧ ((w'.setCell ⟨w.heap.size + 1, 0, none⟩ x).setCell ⟨w.heap.size + 1, 1, none⟩ y).cell? ⟨w1.heap.size, 0, none⟩ = some (.int .u64 HI) ∧ ((w'.setCell ⟨w.heap.size + 1, 0, none⟩ x).setCell ⟨w.heap.size + 1, 1, none⟩ y).cell? ⟨w1.heap.size, 1, none⟩ = some (.int .u64 LO) ∧ Hid (∃ v0 v1, Box2 ((w'.setCell ⟨w.heap.size + 1, 0, none⟩ x).setCell ⟨w.heap.size + 1, 1, none⟩ y) (w.heap.size + 1) v0 v1) := by
  obtain ⟨h1, h2, h3, h4, h5⟩ := h
  obtain ⟨v0, v1, hB⟩ := h5.out
  obtain ⟨c0, c1, f0, f1⟩ := hB
  have hne : ¬ w1.heap.size = w.heap.size + 1 := by omega
  refine ⟨(h1.setCell (by simp) _).setCell (by simp) _, by simpa using h2, ?_, ?_, Lib.hid ⟨x, y, ?_⟩⟩
  · go_simp
  · go_simp
  · constructor <;> go_simp

set_option maxHeartbeats 2000000 in
set_option maxRecDepth 100000 in
theorem left_of (h l : Int) (n : Nat) (hn : n ≤ 126) (a : WR h l) (H L Z : Int) (w : World)
    (htold : A h l * 2 ^ n < 340282366920938463463374607431768211456 → ∀ w, Calls Try.prog 60 #[.bool (decide (h < 0)), .agg #[.int .u64 ((A h l * 2 ^ n) / 18446744073709551616), .int .u64 ((A h l * 2 ^ n) % 18446744073709551616)]] w (RetWE w H L Z))
    (hout : ¬ A h l * 2 ^ n < 340282366920938463463374607431768211456 → H = 0 ∧ L = 0 ∧ Z = 3) :
    Calls Try.prog 30 #[.agg #[.int .i64 h, .int .u64 l], .int .i64 n] w (RetWE w H L Z) := by
  have ho := fun w => Lib.hid (of_any h l w a)
  have hA := A_bounds h l a
  obtain ⟨HI, hHI⟩ : ∃ q, A h l / 18446744073709551616 = q := ⟨_, rfl⟩
  obtain ⟨LO, hLO⟩ : ∃ q, A h l % 18446744073709551616 = q := ⟨_, rfl⟩
  have eA : A h l = HI * 18446744073709551616 + LO := by omega
  rw [hHI, hLO] at ho
  rw [eA] at htold hout
  have b0 : 0 ≤ HI := by omega
  have b1 : HI ≤ 18446744073709551615 := by omega
  have b2 : 0 ≤ LO := by omega
  have b3 : LO ≤ 18446744073709551615 := by omega
  have hlen := len_of HI LO n b0 b1 b2 b3 (by omega)
  have hl1 := fun w => Lib.hid (len64_any HI w b0 b1)
  have hl2 := fun w => Lib.hid (len64_any LO w b2 b3)
  have g1 := bitLen_64 HI b0 b1
  have g2 := bitLen_64 LO b2 b3
  have hsh := left_short HI LO n b0 b2 b3
  have hlg := left_long LO n b2
  have hon := left_one HI LO n b0 b2
  unfold lenI at hlen
  obtain ⟨BH, hBH⟩ : ∃ q, Lib.bitLen HI.toNat = q := ⟨_, rfl⟩
  obtain ⟨BL, hBL⟩ : ∃ q, Lib.bitLen LO.toNat = q := ⟨_, rfl⟩
  rw [hBH] at hl1 g1 hlen
  rw [hBL] at hl2 g2 hlen
  obtain ⟨NG, hNG⟩ : ∃ q, decide (h < 0) = q := ⟨_, rfl⟩
  rw [hNG] at ho htold
  clear hBH hBL hHI hLO eA hA hNG a
  have ew1 : RowKit.wrap64 (64 + (BH : Int)) = 64 + BH := by unfold RowKit.wrap64; omega
  have ew2 : RowKit.wrap64 (64 + (BH : Int) + n) = 64 + BH + n := by unfold RowKit.wrap64; omega
  have ew3 : RowKit.wrap64 ((BL : Int) + n) = BL + n := by unfold RowKit.wrap64; omega
  have M1 := True.intro
  have M2 := True.intro
  by_cases hz : HI = 0
  · rw [if_pos hz] at hlen
    have hz2 : (HI == 0) = true := by simp; exact hz
    by_cases hfit : (BL : Int) + n ≤ 128
    · have hlt := hlen.1 hfit
      replace htold := htold hlt
      by_cases h64 : 64 ≤ n
      · clear hsh hon hout hlen
        have := hlg h64 (by rw [hz, Int.zero_mul, Int.zero_add] at hlt; exact hlt)
        obtain ⟨k0, k1, k2, k3⟩ := this
        rw [hz, Int.zero_mul, Int.zero_add, k2, k3] at htold
        clear k2 k3 hlg hlt hz
        have HT := fun w => Lib.hid (htold w)
        clear htold
        have eT : IntKind.u64.wrap (LO * 2 ^ (n - 64)) = LO * 2 ^ (n - 64) := by rw [wrapU]; omega
        obtain ⟨T, hT⟩ : ∃ q, LO * 2 ^ (n - 64) = q := ⟨_, rfl⟩
        rw [hT] at HT eT k0 k1
        go_enter Try.func30, Try.ntmps30
        go_wp2_with (first | (go_at_call 58; go_loud (refine (ho _).out.mono ?_; rintro e w1 ⟨rfl, hb⟩; have HB1 := Lib.hid hb; have hs1 := hb.size; (try simp at hs1); have X0 := Box2.below (b := w.heap.size) (v0 := .int .i64 h) (v1 := .int .u64 l) (by constructor <;> go_simp) hb (by first | omega | (simp <;> omega)); have X1 := Box2.below (b := w.heap.size + 1) (v0 := .int .i64 0) (v1 := .int .u64 0) (by constructor <;> go_simp) hb (by first | omega | (simp <;> omega)); obtain ⟨xc0, xc1, xf0, xf1⟩ := X0; have HX1 := Lib.hid X1; obtain ⟨yc0, yc1, yf0, yf1⟩ := X1; have hl9 : w.heap.size + 1 < w1.heap.size := (by omega); clear hb)) | (go_at_call 59; have hmk := M1; clear hmk M1; refine (hl1 _).out.mono ?_; rintro e w' ⟨rfl, rfl⟩) | (go_at_call 59; have hmk := M2; clear hmk M2; refine (hl2 _).out.mono ?_; rintro e w' ⟨rfl, rfl⟩) | (go_at_call 60; go_loud (refine (HT _).out.mono ?_; rintro e w2 ⟨rfl, hb⟩; have HB2 := Lib.hid hb; have hs2 := hb.size; (try simp at hs2); have Z1 := (HX1.out.below (n := w1.heap.size) (by (repeat' (first | exact Below.refl _ _ | refine Below.drew ?_ | refine Below.setCell ?_ (by first | omega | (simp <;> omega)) _ | refine Below.alloc ?_ (by first | omega | (simp <;> omega)) _))) (by first | omega | (simp <;> omega))).below hb (by first | omega | (simp <;> omega)); obtain ⟨zc0, zc1, zf0, zf1⟩ := Z1; clear hb)))
        (try simp only [Exit.noGoto, Exit.inBlock, Exit.then])
        refine bodyPost_ret (v := .tuple #[.agg #[.int .i64 H, .int .u64 L], .int .i64 Z]) (by rw [results_ct rfl]; go_simp) rfl ⟨rfl, ?_⟩
        iterate 2 refine Below.setCell ?_ (by first | omega | (simp <;> omega)) _
        exact Below.trans (by (repeat' (first | exact Below.refl _ _ | refine Below.drew ?_ | refine Below.setCell ?_ (by first | omega | (simp <;> omega)) _ | refine Below.alloc ?_ (by first | omega | (simp <;> omega)) _))) (Below.trans (HB1.out.mono (by first | omega | (simp <;> omega))) (Below.trans (by (repeat' (first | exact Below.refl _ _ | refine Below.drew ?_ | refine Below.setCell ?_ (by first | omega | (simp <;> omega)) _ | refine Below.alloc ?_ (by first | omega | (simp <;> omega)) _))) (HB2.out.mono (by first | omega | (simp <;> omega)))))
      · have := hsh (by omega) hlt
        obtain ⟨k0, k1, k2, k3, k4, k5, k6⟩ := this
        rw [k5, k6] at htold
        have hn63 : n ≤ 63 := by omega
        clear hlg hon hout hlen k5 k6 hsh hlt hz
        have ew4 : RowKit.wrap64 (64 - (n : Int)) = 64 - n := by unfold RowKit.wrap64; omega
        have ew5 : IntKind.i64.wrap (64 - (n : Int)) = 64 - n := by rw [wrapI]; omega
        have HT := fun w => Lib.hid (htold w)
        clear htold
        have eHw : IntKind.u64.wrap (HI * 2 ^ n) = HI * 2 ^ n := by rw [wrapU]; omega
        have eOr : bits BinOp.or IntKind.u64 (HI * 2 ^ n) (LO / 2 ^ (64 - n)) = HI * 2 ^ n + LO / 2 ^ (64 - n) := bits_join IntKind.u64 64 (by decide) (fun n h0 h1 => by rw [wrapU]; omega) n _ _ k0 (Int.mul_emod_left _ _) (by omega) k2 k3 (by omega)
        have eLw : IntKind.u64.wrap (LO * 2 ^ n) = LO * 2 ^ n % 18446744073709551616 := by rw [wrapU]
        obtain ⟨T1, hT1⟩ : ∃ q, HI * 2 ^ n + LO / 2 ^ (64 - n) = q := ⟨_, rfl⟩
        obtain ⟨T2, hT2⟩ : ∃ q, LO * 2 ^ n % 18446744073709551616 = q := ⟨_, rfl⟩
        rw [hT1, hT2] at HT
        rw [hT1] at eOr
        rw [hT2] at eLw
        go_enter Try.func30, Try.ntmps30
        go_upto_region 11 with (first | (go_at_call 58; go_loud (refine (ho _).out.mono ?_; rintro e w1 ⟨rfl, hb⟩; have HB1 := Lib.hid hb; have hs1 := hb.size; (try simp at hs1); have X0 := Box2.below (b := w.heap.size) (v0 := .int .i64 h) (v1 := .int .u64 l) (by constructor <;> go_simp) hb (by first | omega | (simp <;> omega)); have X1 := Box2.below (b := w.heap.size + 1) (v0 := .int .i64 0) (v1 := .int .u64 0) (by constructor <;> go_simp) hb (by first | omega | (simp <;> omega)); obtain ⟨xc0, xc1, xf0, xf1⟩ := X0; have HX1 := Lib.hid X1; obtain ⟨yc0, yc1, yf0, yf1⟩ := X1; have hl9 : w.heap.size + 1 < w1.heap.size := (by omega); clear hb)) | (go_at_call 59; have hmk := M1; clear hmk M1; refine (hl1 _).out.mono ?_; rintro e w' ⟨rfl, rfl⟩) | (go_at_call 59; have hmk := M2; clear hmk M2; refine (hl2 _).out.mono ?_; rintro e w' ⟨rfl, rfl⟩))
        obtain ⟨Wb, hWb⟩ : ∃ Wb : World, Wb = w1.alloc (.cells #[.int .u64 HI, .int .u64 LO] 71) := ⟨_, rfl⟩
        have HS0 : Hid (Below w.heap.size w Wb ∧ w1.heap.size < Wb.heap.size ∧ Wb.cell? ⟨w1.heap.size, 0, none⟩ = some (.int .u64 HI) ∧ Wb.cell? ⟨w1.heap.size, 1, none⟩ = some (.int .u64 LO) ∧ Hid (∃ v0 v1, Box2 Wb (w.heap.size + 1) v0 v1)) := by
          rw [hWb]
          refine Lib.hid ⟨Below.trans (by (repeat' (first | exact Below.refl _ _ | refine Below.drew ?_ | refine Below.setCell ?_ (by first | omega | (simp <;> omega)) _ | refine Below.alloc ?_ (by first | omega | (simp <;> omega)) _))) (Below.trans (HB1.out.mono (by first | omega | (simp <;> omega))) (by (repeat' (first | exact Below.refl _ _ | refine Below.drew ?_ | refine Below.setCell ?_ (by first | omega | (simp <;> omega)) _ | refine Below.alloc ?_ (by first | omega | (simp <;> omega)) _)))), by simp, by simp [go_sem], by simp [go_sem], Lib.hid ⟨_, _, HX1.out.below (n := w1.heap.size) (by (repeat' (first | exact Below.refl _ _ | refine Below.drew ?_ | refine Below.setCell ?_ (by first | omega | (simp <;> omega)) _ | refine Below.alloc ?_ (by first | omega | (simp <;> omega)) _))) (by first | omega | (simp <;> omega))⟩⟩
        rw [← hWb]
        clear hWb xc0 xc1 xf0 xf1 yc0 yc1 yf0 yf1 HX1 HB1
        go_region_held3 (fun w' => Below w.heap.size w w' ∧ w1.heap.size < w'.heap.size ∧ w'.cell? ⟨w1.heap.size, 0, none⟩ = some (.int .u64 HI) ∧ w'.cell? ⟨w1.heap.size, 1, none⟩ = some (.int .u64 LO) ∧ Hid (∃ v0 v1, Box2 w' (w.heap.size + 1) v0 v1)) (first | assumption | exact shortTrans HS0.out hl9 (Below.drew (Below.refl _ _)) | exact shortTrans (by assumption) hl9 (by assumption) | exact shortSet (by assumption) hl9)
          (first | (go_at_call 60; refine (HT _).out.mono ?_; rintro e w2 ⟨rfl, hb⟩; have hS2 := shortTrans (by assumption) hl9 hb; obtain ⟨v0, v1, Z1⟩ := hS2.2.2.2.2.out; obtain ⟨zc0, zc1, zf0, zf1⟩ := Z1; clear hS2))
        all_goals
          go_wp2_with fail
          (try simp only [Exit.noGoto, Exit.inBlock, Exit.then])
          refine bodyPost_ret (v := .tuple #[.agg #[.int .i64 H, .int .u64 L], .int .i64 Z]) (by rw [results_ct rfl]; go_simp) rfl ⟨rfl, shortB (by assumption)⟩
    · obtain ⟨rfl, rfl, rfl⟩ := hout (fun hlt => hfit (hlen.2 hlt))
      have hfit2 : 128 < (BL : Int) + n := by omega
      clear hsh hlg hon hlen htold hout hfit hz
      go_enter Try.func30, Try.ntmps30
      go_wp2_with (first | (go_at_call 58; go_loud (refine (ho _).out.mono ?_; rintro e w1 ⟨rfl, hb⟩; have HB1 := Lib.hid hb; have hs1 := hb.size; (try simp at hs1); have X0 := Box2.below (b := w.heap.size) (v0 := .int .i64 h) (v1 := .int .u64 l) (by constructor <;> go_simp) hb (by first | omega | (simp <;> omega)); have X1 := Box2.below (b := w.heap.size + 1) (v0 := .int .i64 0) (v1 := .int .u64 0) (by constructor <;> go_simp) hb (by first | omega | (simp <;> omega)); obtain ⟨xc0, xc1, xf0, xf1⟩ := X0; have HX1 := Lib.hid X1; obtain ⟨yc0, yc1, yf0, yf1⟩ := X1; have hl9 : w.heap.size + 1 < w1.heap.size := (by omega); clear hb)) | (go_at_call 59; have hmk := M1; clear hmk M1; refine (hl1 _).out.mono ?_; rintro e w' ⟨rfl, rfl⟩) | (go_at_call 59; have hmk := M2; clear hmk M2; refine (hl2 _).out.mono ?_; rintro e w' ⟨rfl, rfl⟩))
      (try simp only [Exit.noGoto, Exit.inBlock, Exit.then])
      refine bodyPost_ret (v := .tuple #[.agg #[.int .i64 0, .int .u64 0], .int .i64 3]) (by rw [results_ct rfl]; go_simp) rfl ⟨rfl, ?_⟩
      refine Below.alloc ?_ (by first | omega | (simp <;> omega)) _
      iterate 2 refine Below.setCell ?_ (by first | omega | (simp <;> omega)) _
      exact Below.trans (by (repeat' (first | exact Below.refl _ _ | refine Below.drew ?_ | refine Below.setCell ?_ (by first | omega | (simp <;> omega)) _ | refine Below.alloc ?_ (by first | omega | (simp <;> omega)) _))) (HB1.out.mono (by first | omega | (simp <;> omega)))
  · rw [if_neg hz] at hlen
    have hz2 : (HI == 0) = false := by simp; exact hz
    by_cases hfit : 64 + (BH : Int) + n ≤ 128
    · have hlt := hlen.1 hfit
      replace htold := htold hlt
      have hn63 : n ≤ 63 := by
        rcases Nat.lt_or_ge 63 n with h1 | h1
        · exact absurd (hon h1 hlt) hz
        · exact h1
      have := hsh hn63 hlt
      obtain ⟨k0, k1, k2, k3, k4, k5, k6⟩ := this
      rw [k5, k6] at htold
      clear hlg hon hout hlen k5 k6 hsh hlt
      have ew4 : RowKit.wrap64 (64 - (n : Int)) = 64 - n := by unfold RowKit.wrap64; omega
      have ew5 : IntKind.i64.wrap (64 - (n : Int)) = 64 - n := by rw [wrapI]; omega
      have HT := fun w => Lib.hid (htold w)
      clear htold
      have eHw : IntKind.u64.wrap (HI * 2 ^ n) = HI * 2 ^ n := by rw [wrapU]; omega
      have eOr : bits BinOp.or IntKind.u64 (HI * 2 ^ n) (LO / 2 ^ (64 - n)) = HI * 2 ^ n + LO / 2 ^ (64 - n) := bits_join IntKind.u64 64 (by decide) (fun n h0 h1 => by rw [wrapU]; omega) n _ _ k0 (Int.mul_emod_left _ _) (by omega) k2 k3 (by omega)
      have eLw : IntKind.u64.wrap (LO * 2 ^ n) = LO * 2 ^ n % 18446744073709551616 := by rw [wrapU]
      obtain ⟨T1, hT1⟩ : ∃ q, HI * 2 ^ n + LO / 2 ^ (64 - n) = q := ⟨_, rfl⟩
      obtain ⟨T2, hT2⟩ : ∃ q, LO * 2 ^ n % 18446744073709551616 = q := ⟨_, rfl⟩
      rw [hT1, hT2] at HT
      rw [hT1] at eOr
      rw [hT2] at eLw
      go_enter Try.func30, Try.ntmps30
      go_upto_region 11 with (first | (go_at_call 58; go_loud (refine (ho _).out.mono ?_; rintro e w1 ⟨rfl, hb⟩; have HB1 := Lib.hid hb; have hs1 := hb.size; (try simp at hs1); have X0 := Box2.below (b := w.heap.size) (v0 := .int .i64 h) (v1 := .int .u64 l) (by constructor <;> go_simp) hb (by first | omega | (simp <;> omega)); have X1 := Box2.below (b := w.heap.size + 1) (v0 := .int .i64 0) (v1 := .int .u64 0) (by constructor <;> go_simp) hb (by first | omega | (simp <;> omega)); obtain ⟨xc0, xc1, xf0, xf1⟩ := X0; have HX1 := Lib.hid X1; obtain ⟨yc0, yc1, yf0, yf1⟩ := X1; have hl9 : w.heap.size + 1 < w1.heap.size := (by omega); clear hb)) | (go_at_call 59; have hmk := M1; clear hmk M1; refine (hl1 _).out.mono ?_; rintro e w' ⟨rfl, rfl⟩) | (go_at_call 59; have hmk := M2; clear hmk M2; refine (hl2 _).out.mono ?_; rintro e w' ⟨rfl, rfl⟩))
      obtain ⟨Wb, hWb⟩ : ∃ Wb : World, Wb = w1.alloc (.cells #[.int .u64 HI, .int .u64 LO] 71) := ⟨_, rfl⟩
      have HS0 : Hid (Below w.heap.size w Wb ∧ w1.heap.size < Wb.heap.size ∧ Wb.cell? ⟨w1.heap.size, 0, none⟩ = some (.int .u64 HI) ∧ Wb.cell? ⟨w1.heap.size, 1, none⟩ = some (.int .u64 LO) ∧ Hid (∃ v0 v1, Box2 Wb (w.heap.size + 1) v0 v1)) := by
        rw [hWb]
        refine Lib.hid ⟨Below.trans (by (repeat' (first | exact Below.refl _ _ | refine Below.drew ?_ | refine Below.setCell ?_ (by first | omega | (simp <;> omega)) _ | refine Below.alloc ?_ (by first | omega | (simp <;> omega)) _))) (Below.trans (HB1.out.mono (by first | omega | (simp <;> omega))) (by (repeat' (first | exact Below.refl _ _ | refine Below.drew ?_ | refine Below.setCell ?_ (by first | omega | (simp <;> omega)) _ | refine Below.alloc ?_ (by first | omega | (simp <;> omega)) _)))), by simp, by simp [go_sem], by simp [go_sem], Lib.hid ⟨_, _, HX1.out.below (n := w1.heap.size) (by (repeat' (first | exact Below.refl _ _ | refine Below.drew ?_ | refine Below.setCell ?_ (by first | omega | (simp <;> omega)) _ | refine Below.alloc ?_ (by first | omega | (simp <;> omega)) _))) (by first | omega | (simp <;> omega))⟩⟩
      rw [← hWb]
      clear hWb xc0 xc1 xf0 xf1 yc0 yc1 yf0 yf1 HX1 HB1
      go_region_held3 (fun w' => Below w.heap.size w w' ∧ w1.heap.size < w'.heap.size ∧ w'.cell? ⟨w1.heap.size, 0, none⟩ = some (.int .u64 HI) ∧ w'.cell? ⟨w1.heap.size, 1, none⟩ = some (.int .u64 LO) ∧ Hid (∃ v0 v1, Box2 w' (w.heap.size + 1) v0 v1)) (first | assumption | exact shortTrans HS0.out hl9 (Below.drew (Below.refl _ _)) | exact shortTrans (by assumption) hl9 (by assumption) | exact shortSet (by assumption) hl9)
        (first | (go_at_call 60; refine (HT _).out.mono ?_; rintro e w2 ⟨rfl, hb⟩; have hS2 := shortTrans (by assumption) hl9 hb; obtain ⟨v0, v1, Z1⟩ := hS2.2.2.2.2.out; obtain ⟨zc0, zc1, zf0, zf1⟩ := Z1; clear hS2))
      all_goals
        go_wp2_with fail
        (try simp only [Exit.noGoto, Exit.inBlock, Exit.then])
        refine bodyPost_ret (v := .tuple #[.agg #[.int .i64 H, .int .u64 L], .int .i64 Z]) (by rw [results_ct rfl]; go_simp) rfl ⟨rfl, shortB (by assumption)⟩
    · obtain ⟨rfl, rfl, rfl⟩ := hout (fun hlt => hfit (hlen.2 hlt))
      have hfit2 : 128 < 64 + (BH : Int) + n := by omega
      clear hsh hlg hon hlen htold hout hfit hz
      go_enter Try.func30, Try.ntmps30
      go_wp2_with (first | (go_at_call 58; go_loud (refine (ho _).out.mono ?_; rintro e w1 ⟨rfl, hb⟩; have HB1 := Lib.hid hb; have hs1 := hb.size; (try simp at hs1); have X0 := Box2.below (b := w.heap.size) (v0 := .int .i64 h) (v1 := .int .u64 l) (by constructor <;> go_simp) hb (by first | omega | (simp <;> omega)); have X1 := Box2.below (b := w.heap.size + 1) (v0 := .int .i64 0) (v1 := .int .u64 0) (by constructor <;> go_simp) hb (by first | omega | (simp <;> omega)); obtain ⟨xc0, xc1, xf0, xf1⟩ := X0; have HX1 := Lib.hid X1; obtain ⟨yc0, yc1, yf0, yf1⟩ := X1; have hl9 : w.heap.size + 1 < w1.heap.size := (by omega); clear hb)) | (go_at_call 59; have hmk := M1; clear hmk M1; refine (hl1 _).out.mono ?_; rintro e w' ⟨rfl, rfl⟩) | (go_at_call 59; have hmk := M2; clear hmk M2; refine (hl2 _).out.mono ?_; rintro e w' ⟨rfl, rfl⟩))
      (try simp only [Exit.noGoto, Exit.inBlock, Exit.then])
      refine bodyPost_ret (v := .tuple #[.agg #[.int .i64 0, .int .u64 0], .int .i64 3]) (by rw [results_ct rfl]; go_simp) rfl ⟨rfl, ?_⟩
      refine Below.alloc ?_ (by first | omega | (simp <;> omega)) _
      iterate 2 refine Below.setCell ?_ (by first | omega | (simp <;> omega)) _
      exact Below.trans (by (repeat' (first | exact Below.refl _ _ | refine Below.drew ?_ | refine Below.setCell ?_ (by first | omega | (simp <;> omega)) _ | refine Below.alloc ?_ (by first | omega | (simp <;> omega)) _))) (HB1.out.mono (by first | omega | (simp <;> omega)))
end Go.Proofs.Ytlbmpdidmckgkaa
