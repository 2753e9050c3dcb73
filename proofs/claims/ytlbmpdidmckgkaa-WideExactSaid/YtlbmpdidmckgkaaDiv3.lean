/- Division of two words by one, walked. -/
import Derived.Test.YtlbmpdidmckgkaaDiv2
import Derived.Deep.Cut
import Derived.Deep.CutBlock
import Derived.Deep.CutRange
set_option linter.unusedVariables false
set_option linter.unusedSimpArgs false
namespace Go.Proofs.Ytlbmpdidmckgkaa
open Go.RowKit Go.Rt

set_option maxHeartbeats 2000000 in
set_option maxRecDepth 100000 in
theorem div64_hi (hi lo y : Int) (w : World) (k0 : 1 ≤ hi) (k1 : hi < y) (l0 : 0 ≤ lo) (l1 : lo ≤ 18446744073709551615) (y1 : y ≤ 18446744073709551615) :
    Calls Try.prog 78 #[.int .u64 hi, .int .u64 lo, .int .u64 y] w fun e w' => e = .returned (.tuple #[.int .u64 ((hi * 18446744073709551616 + lo) / y), .int .u64 ((hi * 18446744073709551616 + lo) % y)]) ∧ Below w.heap.size w w' := by
  have hy0 : (y == 0) = false := by simp; omega
  have hh0 : (hi == 0) = false := by simp; omega
  have hy1 : ¬ y ≤ hi := by omega
  have hy2 : ¬ y = 0 := by omega
  have hlz := fun w => Lib.hid (lz64_any y w (by omega) y1)
  obtain ⟨S, hS⟩ : ∃ q : Nat, 64 - (Lib.bitLen y.toNat : Int) = q := ⟨64 - Lib.bitLen y.toNat, by have := bitLen_64 y (by omega) y1; omega⟩
  rw [hS] at hlz
  obtain ⟨hS63, pp, hp, hp', hY0, hY1⟩ := norm_facts y S (by omega) y1 hS
  obtain ⟨hh1, hh2, hlq1, hlq2, hUY, hN⟩ := norm_num hi lo y ((2 : Int) ^ S) ((2 : Int) ^ (64 - S)) (by omega) k1 l0 l1 pp hp hp' hY1
  have hSw : IntKind.u64.wrap (S : Int) = S := by rw [wrapU]; omega
  have eY : IntKind.u64.wrap (y * 2 ^ S) = y * 2 ^ S := by rw [wrapU]; omega
  have eH : IntKind.u64.wrap (hi * 2 ^ S) = hi * 2 ^ S := by rw [wrapU]; omega
  have eL : IntKind.u64.wrap (lo * 2 ^ S) = lo * 2 ^ S % 18446744073709551616 := by rw [wrapU]
  have eU : bits BinOp.or IntKind.u64 (hi * 2 ^ S) (lo / 2 ^ (64 - S)) = hi * 2 ^ S + lo / 2 ^ (64 - S) :=
    bits_join IntKind.u64 64 (by decide) (fun n h0 h1 => by rw [wrapU]; omega) S _ _ hh1 (Int.mul_emod_left _ _) (by omega) hlq1 hlq2 (by omega)
  have hQR := norm_told (hi * 18446744073709551616 + lo) y ((2 : Int) ^ S)
  obtain ⟨Y, hY⟩ : ∃ q, y * 2 ^ S = q := ⟨_, rfl⟩
  obtain ⟨L, hL⟩ : ∃ q, lo * 2 ^ S % 18446744073709551616 = q := ⟨_, rfl⟩
  obtain ⟨HP, hHP⟩ : ∃ q, hi * 2 ^ S = q := ⟨_, rfl⟩
  obtain ⟨LQ, hLQ⟩ : ∃ q, lo / 2 ^ (64 - S) = q := ⟨_, rfl⟩
  obtain ⟨U, hU⟩ : ∃ q, HP + LQ = q := ⟨_, rfl⟩
  obtain ⟨a, ha⟩ : ∃ q, Y / 4294967296 = q := ⟨_, rfl⟩
  obtain ⟨b, hb⟩ : ∃ q, Y % 4294967296 = q := ⟨_, rfl⟩
  obtain ⟨d1, hd1⟩ : ∃ q, L / 4294967296 = q := ⟨_, rfl⟩
  obtain ⟨d0, hd0⟩ : ∃ q, L % 4294967296 = q := ⟨_, rfl⟩
  have hLb : 0 ≤ L ∧ L < 18446744073709551616 := by omega
  rw [hY] at eY hY0 hY1 hUY hQR
  rw [hL] at eL hN
  rw [hHP, hLQ, hU] at hUY hN
  rw [hHP] at eH
  rw [hHP, hLQ, hU] at eU
  have hU0 : 0 ≤ U := by omega
  have m1 : bits BinOp.and IntKind.u64 Y 4294967295 = b := by rw [← hb]; exact bits_mask IntKind.u64 64 (by decide) (fun n h0 h1 => by rw [wrapU]; omega) 32 (by omega) Y (by omega) (by omega)
  have m2 : bits BinOp.and IntKind.u64 L 4294967295 = d0 := by rw [← hd0]; exact bits_mask IntKind.u64 64 (by decide) (fun n h0 h1 => by rw [wrapU]; omega) 32 (by omega) L (by omega) (by omega)
  have HYab := Lib.hid (show Y = a * 4294967296 + b by omega)
  have HLd := Lib.hid (show L = d1 * 4294967296 + d0 by omega)
  have ha0 : 2147483648 ≤ a := by omega
  have ha1 : a < 4294967296 := by omega
  have hb0 : 0 ≤ b := by omega
  have hb1 : b < 4294967296 := by omega
  have hd10 : 0 ≤ d1 := by omega
  have hd11 : d1 < 4294967296 := by omega
  have hd00 : 0 ≤ d0 := by omega
  have hd01 : d0 < 4294967296 := by omega
  have hA0 : (a == 0) = false := by simp; omega
  have hA0' : ¬ a = 0 := by omega
  have hYp : 0 < Y := by omega
  have hd1b : U * 4294967296 + d1 = U * 4294967296 + d1 := rfl
  clear hd1b
  have d10 := hd10
  have d11 := hd11
  have d00 := hd00
  have d01 := hd01
  clear hd10 hd11 hd00 hd01
  -- the first digit
  obtain ⟨Q1, hQ1⟩ : ∃ q, (U * 4294967296 + d1) / Y = q := ⟨_, rfl⟩
  obtain ⟨R1, hR1⟩ : ∃ q, (U * 4294967296 + d1) % Y = q := ⟨_, rfl⟩
  have hQ10 : 0 ≤ Q1 := by rw [← hQ1]; exact Int.ediv_nonneg (by omega) (by omega)
  have hQ11 : Q1 < 4294967296 := by rw [← hQ1]; exact digit_lt U d1 Y hYp hUY d11
  have hR10 : 0 ≤ R1 := by rw [← hR1]; exact Int.emod_nonneg _ (by omega)
  have hR11 : R1 < Y := by rw [← hR1]; exact Int.emod_lt_of_pos _ hYp
  have hE1 := Lib.hid (show U * 4294967296 + d1 = Q1 * Y + R1 by have := Int.mul_ediv_add_emod (U * 4294967296 + d1) Y; rw [hQ1, hR1, Int.mul_comm] at this; omega)
  have hfirst1 := Lib.hid (digit_first a b U d1 Y HYab.out (by omega) hb0 hU0 d10 d11)
  have hstart1 := Lib.hid (Int.mul_ediv_add_emod U a)
  rw [Int.mul_comm] at hstart1
  obtain ⟨q1, hq1⟩ : ∃ q, U / a = q := ⟨_, rfl⟩
  obtain ⟨r1, hr1⟩ : ∃ q, U % a = q := ⟨_, rfl⟩
  have hrs1 : 0 ≤ r1 := by rw [← hr1]; exact Int.emod_nonneg _ (by omega)
  have hrt1 : r1 < a := by rw [← hr1]; exact Int.emod_lt_of_pos _ (by omega)
  rw [hq1, hr1] at hstart1
  rw [hq1, hQ1] at hfirst1
  have eq1 : IntKind.u64.wrap (q1 * a) = q1 * a := by rw [wrapU]; have := hstart1.out; have : 0 ≤ q1 := (by rw [← hq1]; exact Int.ediv_nonneg hU0 (by omega)); have := Int.mul_nonneg this (show 0 ≤ a by omega); omega
  have er1 : IntKind.u64.wrap (U - q1 * a) = r1 := by rw [wrapU]; have := hstart1.out; omega
  clear hr1
  have kdown1 := Lib.hid (fun (q r : Int) (h1 : q * a + r = U) (h2 : Q1 ≤ q) (h3 : 4294967296 ≤ q ∨ 4294967296 * r + d1 < q * b) => (show Q1 ≤ q - 1 by have := digit_down a b U d1 Y q r HYab.out hYp hUY d11 h1 (by rw [hQ1]; exact h2) h3; rw [hQ1] at this; exact this))
  have kdone1 := Lib.hid (fun (q r : Int) (h1 : q * a + r = U) (h2 : Q1 ≤ q) (h3 : q * b ≤ 4294967296 * r + d1) => (show q = Q1 by have := digit_done a b U d1 Y q r HYab.out hYp h1 (by rw [hQ1]; exact h2) h3; rw [hQ1] at this; exact this.symm))
  have kbreak1 := Lib.hid (fun (q r : Int) (h0 : 0 ≤ q) (h1 : q * a + r = U) (h2 : Q1 ≤ q) (h3 : 4294967296 ≤ r) => (show q = Q1 by have := digit_break a b U d1 Y q r HYab.out (by omega) hb0 hb1 hUY d10 h0 h1 (by rw [hQ1]; exact h2) h3; rw [hQ1] at this; exact this.symm))
  -- the second digit
  obtain ⟨Q0, hQ0⟩ : ∃ q, (R1 * 4294967296 + d0) / Y = q := ⟨_, rfl⟩
  obtain ⟨R0, hR0⟩ : ∃ q, (R1 * 4294967296 + d0) % Y = q := ⟨_, rfl⟩
  have hQ00 : 0 ≤ Q0 := by rw [← hQ0]; exact Int.ediv_nonneg (by omega) (by omega)
  have hQ01 : Q0 < 4294967296 := by rw [← hQ0]; exact digit_lt R1 d0 Y hYp hR11 d01
  have hR00 : 0 ≤ R0 := by rw [← hR0]; exact Int.emod_nonneg _ (by omega)
  have hR01 : R0 < Y := by rw [← hR0]; exact Int.emod_lt_of_pos _ hYp
  have hE0 := Lib.hid (show R1 * 4294967296 + d0 = Q0 * Y + R0 by have := Int.mul_ediv_add_emod (R1 * 4294967296 + d0) Y; rw [hQ0, hR0, Int.mul_comm] at this; omega)
  have hfirst0 := Lib.hid (digit_first a b R1 d0 Y HYab.out (by omega) hb0 hR10 d00 d01)
  have hstart0 := Lib.hid (Int.mul_ediv_add_emod R1 a)
  rw [Int.mul_comm] at hstart0
  obtain ⟨q0, hq0⟩ : ∃ q, R1 / a = q := ⟨_, rfl⟩
  obtain ⟨r0, hr0⟩ : ∃ q, R1 % a = q := ⟨_, rfl⟩
  have hrs0 : 0 ≤ r0 := by rw [← hr0]; exact Int.emod_nonneg _ (by omega)
  have hrt0 : r0 < a := by rw [← hr0]; exact Int.emod_lt_of_pos _ (by omega)
  rw [hq0, hr0] at hstart0
  rw [hq0, hQ0] at hfirst0
  have eq0 : IntKind.u64.wrap (q0 * a) = q0 * a := by rw [wrapU]; have := hstart0.out; have : 0 ≤ q0 := (by rw [← hq0]; exact Int.ediv_nonneg hR10 (by omega)); have := Int.mul_nonneg this (show 0 ≤ a by omega); omega
  have er0 : IntKind.u64.wrap (R1 - q0 * a) = r0 := by rw [wrapU]; have := hstart0.out; omega
  clear hr0
  have kdown0 := Lib.hid (fun (q r : Int) (h1 : q * a + r = R1) (h2 : Q0 ≤ q) (h3 : 4294967296 ≤ q ∨ 4294967296 * r + d0 < q * b) => (show Q0 ≤ q - 1 by have := digit_down a b R1 d0 Y q r HYab.out hYp hR11 d01 h1 (by rw [hQ0]; exact h2) h3; rw [hQ0] at this; exact this))
  have kdone0 := Lib.hid (fun (q r : Int) (h1 : q * a + r = R1) (h2 : Q0 ≤ q) (h3 : q * b ≤ 4294967296 * r + d0) => (show q = Q0 by have := digit_done a b R1 d0 Y q r HYab.out hYp h1 (by rw [hQ0]; exact h2) h3; rw [hQ0] at this; exact this.symm))
  have kbreak0 := Lib.hid (fun (q r : Int) (h0 : 0 ≤ q) (h1 : q * a + r = R1) (h2 : Q0 ≤ q) (h3 : 4294967296 ≤ r) => (show q = Q0 by have := digit_break a b R1 d0 Y q r HYab.out (by omega) hb0 hb1 hR11 d00 h0 h1 (by rw [hQ0]; exact h2) h3; rw [hQ0] at this; exact this.symm))
  -- what the rests are
  have eu1 : IntKind.u64.wrap (IntKind.u64.wrap (IntKind.u64.wrap (U * 4294967296) + d1) - IntKind.u64.wrap (Q1 * Y)) = R1 := by simp only [wrapU]; have := hE1.out; omega
  have eu0 : IntKind.u64.wrap (IntKind.u64.wrap (IntKind.u64.wrap (R1 * 4294967296) + d0) - IntKind.u64.wrap (Q0 * Y)) = R0 := by simp only [wrapU]; have := hE0.out; omega
  have hfin := Lib.hid (hQR (Q1 * 4294967296 + Q0) R0 hp (by rw [hN, HLd.out]; have h1 := hE1.out; have h0 := hE0.out; rw [Int.add_mul, Int.mul_right_comm Q1 4294967296 Y]; omega) hR00 hR01)
  have eqq : IntKind.u64.wrap (Q1 * 4294967296) = Q1 * 4294967296 := by rw [wrapU]; omega
  have eqr : IntKind.u64.wrap (Q1 * 4294967296 + Q0) = Q1 * 4294967296 + Q0 := by rw [wrapU]; omega
  rw [← hfin.out.1, ← hfin.out.2]
  clear hfin hE0 hE1 hN hQR hQ1 hR1 hQ0 hR0 HLd
  clear hS hh1 hh2
  subst hq1
  subst hq0
  have hUYU := hUY
  have hUYR1 := hR11
  go_enter Try.func78, Try.ntmps78
  go_upto_block 0 with (first | (go_at_call 83; refine (hlz _).out.mono ?_; rintro e w1 ⟨rfl, rfl⟩))
  go_cut [15] from 67 (fun s15 wx => s15 = .int .u64 Q1 ∧ wx = w1)
  case first =>
    go_wp2
    go_loopw [15, 16] (fun s15 s16 wr => ∃ q r : Int, s15 = .int .u64 q ∧ s16 = .int .u64 r ∧ wr = w1 ∧ q * a + r = U ∧ Q1 ≤ q ∧ 0 ≤ r ∧ r < 4294967296) (fun s15 _ _ => (intOf s15).toNat)
    case atStart => exact ⟨_, _, rfl, rfl, rfl, hstart1.out, hfirst1.out, hrs1, by omega⟩
    case round =>
      obtain ⟨q, r, rfl, rfl, rfl, hqr, hQq, hr0, hr1⟩ := hrel
      have hq0 : 0 ≤ q := Int.le_trans hQ10 hQq
      have hq9 : q < 18446744073709551616 := by have := Int.mul_le_mul_of_nonneg_left (show 1 ≤ a by omega) hq0; rw [Int.mul_one] at this; omega
      have e4 : IntKind.u64.wrap (r + a) = r + a := by rw [wrapU]; omega
      have HQR := Lib.hid hqr
      have HQQ := Lib.hid hQq
      clear hqr hQq
      by_cases hbig : 4294967296 ≤ q
      · skip
        have hdn := Lib.hid (kdown1.out q r HQR.out HQQ.out (.inl hbig))
        have hqp : 1 ≤ q := by have := hdn.out; have := hQ10; omega
        have e3 : IntKind.u64.wrap (q - 1) = q - 1 := by rw [wrapU]; omega
        have hqr2 : Hid ((q - 1) * a + (r + a) = U) := Lib.hid (by rw [Int.sub_mul, Int.one_mul]; have := HQR.out; omega)
        by_cases hbr : 4294967296 ≤ r + a
        · go_wp2
          go_meet
          exact ⟨congrArg (Value.int IntKind.u64) (kbreak1.out (q - 1) (r + a) (by omega) hqr2.out hdn.out hbr), (by first | rfl | trivial)⟩
        · go_wp2
          refine ⟨⟨q - 1, r + a, rfl, rfl, (by first | rfl | trivial), hqr2.out, hdn.out, by omega, by omega⟩, ?_⟩
          simp [intOf]
          omega
      · have hqb := Int.mul_le_mul (show q ≤ 4294967295 by omega) (show b ≤ 4294967295 by omega) hb0 (show (0:Int) ≤ 4294967295 by omega)
        have hqb0 := Int.mul_nonneg hq0 hb0
        have hw1 : IntKind.u64.wrap (q * b) = q * b := by rw [wrapU]; omega
        have hw2 : IntKind.u64.wrap (4294967296 * r) = 4294967296 * r := by rw [wrapU]; omega
        have hw3 : IntKind.u64.wrap (4294967296 * r + d1) = 4294967296 * r + d1 := by rw [wrapU]; omega
        have hdone := fun h => Lib.hid (kdone1.out q r HQR.out HQQ.out h)
        by_cases hgt : 4294967296 * r + d1 < q * b
        · have hgt2 := Lib.hid hgt
          have hdn := Lib.hid (kdown1.out q r HQR.out HQQ.out (.inr hgt2.out))
          have hqp : 1 ≤ q := by have := hdn.out; have := hQ10; omega
          have e3 : IntKind.u64.wrap (q - 1) = q - 1 := by rw [wrapU]; omega
          have hqr2 : Hid ((q - 1) * a + (r + a) = U) := Lib.hid (by rw [Int.sub_mul, Int.one_mul]; have := HQR.out; omega)
          by_cases hbr : 4294967296 ≤ r + a
          · go_wp2
            go_meet
            exact ⟨congrArg (Value.int IntKind.u64) (kbreak1.out (q - 1) (r + a) (by omega) hqr2.out hdn.out hbr), (by first | rfl | trivial)⟩
          · go_wp2
            refine ⟨⟨q - 1, r + a, rfl, rfl, (by first | rfl | trivial), hqr2.out, hdn.out, by omega, by omega⟩, ?_⟩
            simp [intOf]
            omega
        · go_wp2
          go_meet
          exact ⟨congrArg (Value.int IntKind.u64) (hdone (by omega)).out, (by first | rfl | trivial)⟩
  case rest =>
  obtain ⟨rfl, rfl⟩ := hcut
  go_upto_block 2 with fail
  go_cut [18] from 102 (fun s18 wx => s18 = .int .u64 Q0 ∧ wx = wc)
  case first =>
    go_wp2
    go_loopw [16, 18] (fun s16 s18 wr => ∃ q r : Int, s18 = .int .u64 q ∧ s16 = .int .u64 r ∧ wr = wc ∧ q * a + r = R1 ∧ Q0 ≤ q ∧ 0 ≤ r ∧ r < 4294967296) (fun _ s18 _ => (intOf s18).toNat)
    case atStart => exact ⟨_, _, rfl, rfl, rfl, hstart0.out, hfirst0.out, hrs0, by omega⟩
    case round =>
      obtain ⟨q, r, rfl, rfl, rfl, hqr, hQq, hr0, hr1⟩ := hrel
      have hq0 : 0 ≤ q := Int.le_trans hQ00 hQq
      have hq9 : q < 18446744073709551616 := by have := Int.mul_le_mul_of_nonneg_left (show 1 ≤ a by omega) hq0; rw [Int.mul_one] at this; omega
      have e4 : IntKind.u64.wrap (r + a) = r + a := by rw [wrapU]; omega
      have HQR := Lib.hid hqr
      have HQQ := Lib.hid hQq
      clear hqr hQq
      by_cases hbig : 4294967296 ≤ q
      · skip
        have hdn := Lib.hid (kdown0.out q r HQR.out HQQ.out (.inl hbig))
        have hqp : 1 ≤ q := by have := hdn.out; have := hQ00; omega
        have e3 : IntKind.u64.wrap (q - 1) = q - 1 := by rw [wrapU]; omega
        have hqr2 : Hid ((q - 1) * a + (r + a) = R1) := Lib.hid (by rw [Int.sub_mul, Int.one_mul]; have := HQR.out; omega)
        by_cases hbr : 4294967296 ≤ r + a
        · go_wp2
          go_meet
          exact ⟨congrArg (Value.int IntKind.u64) (kbreak0.out (q - 1) (r + a) (by omega) hqr2.out hdn.out hbr), (by first | rfl | trivial)⟩
        · go_wp2
          refine ⟨⟨q - 1, r + a, rfl, rfl, (by first | rfl | trivial), hqr2.out, hdn.out, by omega, by omega⟩, ?_⟩
          simp [intOf]
          omega
      · have hqb := Int.mul_le_mul (show q ≤ 4294967295 by omega) (show b ≤ 4294967295 by omega) hb0 (show (0:Int) ≤ 4294967295 by omega)
        have hqb0 := Int.mul_nonneg hq0 hb0
        have hw1 : IntKind.u64.wrap (q * b) = q * b := by rw [wrapU]; omega
        have hw2 : IntKind.u64.wrap (4294967296 * r) = 4294967296 * r := by rw [wrapU]; omega
        have hw3 : IntKind.u64.wrap (4294967296 * r + d0) = 4294967296 * r + d0 := by rw [wrapU]; omega
        have hdone := fun h => Lib.hid (kdone0.out q r HQR.out HQQ.out h)
        by_cases hgt : 4294967296 * r + d0 < q * b
        · have hgt2 := Lib.hid hgt
          have hdn := Lib.hid (kdown0.out q r HQR.out HQQ.out (.inr hgt2.out))
          have hqp : 1 ≤ q := by have := hdn.out; have := hQ00; omega
          have e3 : IntKind.u64.wrap (q - 1) = q - 1 := by rw [wrapU]; omega
          have hqr2 : Hid ((q - 1) * a + (r + a) = R1) := Lib.hid (by rw [Int.sub_mul, Int.one_mul]; have := HQR.out; omega)
          by_cases hbr : 4294967296 ≤ r + a
          · go_wp2
            go_meet
            exact ⟨congrArg (Value.int IntKind.u64) (kbreak0.out (q - 1) (r + a) (by omega) hqr2.out hdn.out hbr), (by first | rfl | trivial)⟩
          · go_wp2
            refine ⟨⟨q - 1, r + a, rfl, rfl, (by first | rfl | trivial), hqr2.out, hdn.out, by omega, by omega⟩, ?_⟩
            simp [intOf]
            omega
        · go_wp2
          go_meet
          exact ⟨congrArg (Value.int IntKind.u64) (hdone (by omega)).out, (by first | rfl | trivial)⟩
  case rest =>
  obtain ⟨rfl, rfl⟩ := hcut
  go_wp2
  (try simp only [Exit.inBlock, Exit.then])
  exact bodyPost_ret (by rw [results_tmp2 rfl]; go_simp) rfl ⟨rfl, Below.refl _ _⟩
end Go.Proofs.Ytlbmpdidmckgkaa
