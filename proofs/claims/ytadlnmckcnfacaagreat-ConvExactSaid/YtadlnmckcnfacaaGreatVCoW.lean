import Derived.Test.YtadlnmckcnfacaaGreatVPoE
import Derived.Test.YtadlnmckcnfacaaGreatVRdV
import Derived.Test.YtadlnmckcnfacaaGreatVRdU
import Derived.Test.YtadlnmckcnfacaaGreatVRdT
import Derived.BigRegion
import Derived.ChangeKeysEq
import Derived.Deep.Cut
import Derived.Deep.RegionHeld3
import Derived.Laws.BitsAllLaws
import Derived.Laws.BitsLemmas
import Derived.Laws.Externs
import Derived.Lib.BitFns
import Derived.Lib.Slices
import Derived.Lib.Small
import Derived.Lib.Strings
import Derived.Lib.Walk
import Derived.Shelf.Spec.BitsCarry
import Derived.Sort.AtCall
import Derived.WalkMore
set_option linter.unusedVariables false
set_option linter.unusedSimpArgs false
namespace Go.Proofs.YtadlnmckcnfacaaGreat
open Go.RowKit Go.Rt
theorem wrapI (y : Int) : IntKind.i64.wrap y = (y + 9223372036854775808) % 18446744073709551616 - 9223372036854775808 := by
 rw [IntKind.wrap_i64]
end Go.Proofs.YtadlnmckcnfacaaGreat
namespace Go.Proofs.YtadlnmckcnfacaaGreat
open Go.RowKit Go.Rt
attribute [local go_sem] run_add run_subI
theorem abs_any (x : Int) (w : World) (h0 : -9223372036854775808 ≤ x) (h1 : x ≤ 9223372036854775807) :
  Calls Tryz.prog 79 #[.int .i64 x] w fun e w' => e = .returned (.int .u64 (absI x)) ∧ Below w.heap.size w w' := by
 by_cases hx : x < 0
 ·have e1 : IntKind.u64.wrap x = x + 18446744073709551616 := by rw [wrapU]; omega
  have e2 : IntKind.u64.wrap (-(x + 18446744073709551616)) = -x := by rw [wrapU]; omega
  have e3 : absI x = -x := by unfold absI; rw [if_pos hx]
  rw [e3]
  go_enter Tryz.func79, Tryz.ntmps79
  go_wp2
  go_ret
  exact ⟨ret_int (by omega), Below.refl _ _⟩
 ·have e1 : IntKind.u64.wrap x = x := by rw [wrapU]; omega
  have e3 : absI x = x := by unfold absI; rw [if_neg hx]
  rw [e3]
  go_enter Tryz.func79, Tryz.ntmps79
  go_wp2
  go_ret
  exact ⟨ret_int (by omega), Below.refl _ _⟩
theorem mul_halves (a b c d : Int) (ha : 0 ≤ a ∧ a ≤ 4294967295) (hb : 0 ≤ b ∧ b ≤ 4294967295) (hc : 0 ≤ c ∧ c ≤ 4294967295) (hd : 0 ≤ d ∧ d ≤ 4294967295) :
  (0 ≤ a * c ∧ a * c ≤ 18446744065119617025) ∧ (0 ≤ a * d ∧ a * d ≤ 18446744065119617025) ∧ (0 ≤ b * c ∧ b * c ≤ 18446744065119617025) ∧ (0 ≤ b * d ∧ b * d ≤ 18446744065119617025) := by
 have h : ∀ x y : Int, (0 ≤ x ∧ x ≤ 4294967295) → (0 ≤ y ∧ y ≤ 4294967295) → 0 ≤ x * y ∧ x * y ≤ 18446744065119617025 := fun x y hx hy =>
  ⟨Int.mul_nonneg hx.1 hy.1, Int.le_trans (Int.mul_le_mul hx.2 hy.2 hy.1 (by omega)) (by omega)⟩
 exact ⟨h a c ha hc, h a d ha hd, h b c hb hc, h b d hb hd⟩
theorem mul64_any (x y : Int) (w : World) (x0 : 0 ≤ x) (x1 : x ≤ 18446744073709551615) (y0 : 0 ≤ y) (y1 : y ≤ 18446744073709551615) :
  Calls Tryz.prog 78 #[.int .u64 x, .int .u64 y] w fun e w' => e = .returned (.tuple #[.int .u64 (x * y / 18446744073709551616), .int .u64 (x * y % 18446744073709551616)]) ∧ Below w.heap.size w w' := by
 have m1 : bits BinOp.and IntKind.u64 x 4294967295 = x % 4294967296 := bits_mask IntKind.u64 64 (by decide) (fun n h0 h1 => by rw [wrapU]; omega) 32 (by omega) x x0 (by omega)
 have m2 : bits BinOp.and IntKind.u64 y 4294967295 = y % 4294967296 := bits_mask IntKind.u64 64 (by decide) (fun n h0 h1 => by rw [wrapU]; omega) 32 (by omega) y y0 (by omega)
 obtain ⟨a, ha⟩ : ∃ q, x % 4294967296 = q := ⟨_, rfl⟩
 obtain ⟨b, hb⟩ : ∃ q, x / 4294967296 = q := ⟨_, rfl⟩
 obtain ⟨c, hc⟩ : ∃ q, y % 4294967296 = q := ⟨_, rfl⟩
 obtain ⟨d, hd⟩ : ∃ q, y / 4294967296 = q := ⟨_, rfl⟩
 rw [ha] at m1
 rw [hc] at m2
 have hxa : x = b * 4294967296 + a := by omega
 have hyc : y = d * 4294967296 + c := by omega
 have hxy : x * y = b * d * 18446744073709551616 + (a * d + b * c) * 4294967296 + a * c := by
  rw [hxa, hyc, Int.add_mul, Int.mul_add, Int.mul_add]
  have e1 : b * 4294967296 * (d * 4294967296) = b * d * 18446744073709551616 := by rw [Int.mul_assoc, Int.mul_left_comm 4294967296, ← Int.mul_assoc]; rfl
  have e2 : b * 4294967296 * c = b * c * 4294967296 := by rw [Int.mul_assoc, Int.mul_comm 4294967296, ← Int.mul_assoc]
  have e3 : a * (d * 4294967296) = a * d * 4294967296 := by rw [Int.mul_assoc]
  rw [e1, e2, e3]
  omega
 obtain ⟨⟨ac0, ac1⟩, ⟨ad0, ad1⟩, ⟨bc0, bc1⟩, ⟨bd0, bd1⟩⟩ := mul_halves a b c d (by omega) (by omega) (by omega) (by omega)
 obtain ⟨P, hP⟩ : ∃ q, x * y = q := ⟨_, rfl⟩
 rw [hP] at hxy
 obtain ⟨AC, hAC⟩ : ∃ q, a * c = q := ⟨_, rfl⟩
 obtain ⟨AD, hAD⟩ : ∃ q, a * d = q := ⟨_, rfl⟩
 obtain ⟨BC, hBC⟩ : ∃ q, b * c = q := ⟨_, rfl⟩
 obtain ⟨BD, hBD⟩ : ∃ q, b * d = q := ⟨_, rfl⟩
 rw [hAC] at hxy ac0 ac1
 rw [hAD] at hxy ad0 ad1
 rw [hBC] at hxy bc0 bc1
 rw [hBD] at hxy bd0 bd1
 rw [hP]
 have w1 : IntKind.u64.wrap AC = AC := by rw [wrapU]; omega
 have w2 : IntKind.u64.wrap BC = BC := by rw [wrapU]; omega
 have w3 : IntKind.u64.wrap AD = AD := by rw [wrapU]; omega
 have w4 : IntKind.u64.wrap BD = BD := by rw [wrapU]; omega
 obtain ⟨T, hT⟩ : ∃ q, BC + AC / 4294967296 = q := ⟨_, rfl⟩
 have w5 : IntKind.u64.wrap T = T := by rw [wrapU]; omega
 have t0 : 0 ≤ T := by omega
 have m3 : bits BinOp.and IntKind.u64 T 4294967295 = T % 4294967296 := bits_mask IntKind.u64 64 (by decide) (fun n h0 h1 => by rw [wrapU]; omega) 32 (by omega) T t0 (by omega)
 obtain ⟨W1, hW1⟩ : ∃ q, T % 4294967296 + AD = q := ⟨_, rfl⟩
 have w6 : IntKind.u64.wrap W1 = W1 := by rw [wrapU]; omega
 have v0 : 0 ≤ W1 := by omega
 have w7 : IntKind.u64.wrap (BD + T / 4294967296) = BD + T / 4294967296 := by rw [wrapU]; omega
 have w8 : IntKind.u64.wrap (BD + T / 4294967296 + W1 / 4294967296) = P / 18446744073709551616 := by rw [wrapU]; omega
 have w9 : IntKind.u64.wrap P = P % 18446744073709551616 := wrapU P
 clear ha hc hxa hyc hxy
 go_enter Tryz.func78, Tryz.ntmps78
 go_wp2
 exact bodyPost_ret (by rw [results_tmp2 rfl]; go_simp <;> omega) rfl ⟨rfl, Below.refl _ _⟩
theorem abs_mul (x y : Int) : (if (decide (x < 0) != decide (y < 0)) = true then -(absI x * absI y) else absI x * absI y) = x * y := by
 unfold absI
 by_cases hx : x < 0 <;> by_cases hy : y < 0 <;> simp [hx, hy, Int.neg_mul, Int.mul_neg]
theorem abs_bounds (x : Int) (h0 : -9223372036854775808 ≤ x) (h1 : x ≤ 9223372036854775807) : 0 ≤ absI x ∧ absI x ≤ 9223372036854775808 := by unfold absI; split <;> omega
theorem abs_mul_bounds (x y : Int) (h0 : -9223372036854775808 ≤ x) (h1 : x ≤ 9223372036854775807) (k0 : -9223372036854775808 ≤ y) (k1 : y ≤ 9223372036854775807) :
  0 ≤ absI x * absI y ∧ absI x * absI y ≤ 85070591730234615865843651857942052864 := by
 obtain ⟨a, b⟩ := abs_bounds x h0 h1
 obtain ⟨c, d⟩ := abs_bounds y k0 k1
 exact ⟨Int.mul_nonneg a c, Int.le_trans (Int.mul_le_mul b d c (by omega)) (by omega)⟩
theorem mul_any (x y : Int) (w : World) (h0 : -9223372036854775808 ≤ x) (h1 : x ≤ 9223372036854775807) (k0 : -9223372036854775808 ≤ y) (k1 : y ≤ 9223372036854775807) :
  Calls Tryz.prog 42 #[.int .i64 x, .int .i64 y] w (RetW w (x * y / 18446744073709551616) (x * y % 18446744073709551616)) := by
 have hb := abs_mul_bounds x y h0 h1 k0 k1
 have hx := abs_bounds x h0 h1
 have hy := abs_bounds y k0 k1
 have hax := fun w => Lib.hid (abs_any x w h0 h1)
 have hay := fun w => Lib.hid (abs_any y w k0 k1)
 have hm := fun w => Lib.hid (mul64_any (absI x) (absI y) w hx.1 (by omega) hy.1 (by omega))
 have ht := fun w => Lib.hid (told_in (decide (x < 0) != decide (y < 0)) (absI x * absI y) w hb.1 (by split <;> omega))
 rw [abs_mul] at ht
 obtain ⟨AX, hAX⟩ : ∃ q, absI x = q := ⟨_, rfl⟩
 obtain ⟨AY, hAY⟩ : ∃ q, absI y = q := ⟨_, rfl⟩
 rw [hAX, hAY] at hm ht
 rw [hAX] at hax
 rw [hAY] at hay
 obtain ⟨P1, hP1⟩ : ∃ q, AX * AY / 18446744073709551616 = q := ⟨_, rfl⟩
 obtain ⟨P2, hP2⟩ : ∃ q, AX * AY % 18446744073709551616 = q := ⟨_, rfl⟩
 obtain ⟨H, hH⟩ : ∃ q, x * y / 18446744073709551616 = q := ⟨_, rfl⟩
 obtain ⟨L, hL⟩ : ∃ q, x * y % 18446744073709551616 = q := ⟨_, rfl⟩
 rw [hP1, hP2] at hm ht
 rw [hH, hL] at ht
 rw [hH, hL]
 clear hb hx hy hAX hAY hP1 hP2 hH hL
 obtain ⟨NG, hNG⟩ : ∃ q, (decide (x < 0) != decide (y < 0)) = q := ⟨_, rfl⟩
 rw [hNG] at ht
 obtain ⟨n1, hn1⟩ : ∃ q, decide (x < 0) = q := ⟨_, rfl⟩
 obtain ⟨n2, hn2⟩ : ∃ q, decide (y < 0) = q := ⟨_, rfl⟩
 rw [hn1, hn2] at hNG
 have hNG2 : (!(n1 == n2)) = NG := hNG
 have M1 := True.intro
 go_enter Tryz.func42, Tryz.ntmps42
 go_wp2_with (first
  | (go_at_call 79; have hmk := M1; clear hmk M1; go_loud (refine (hax _).out.mono ?_; rintro e w1 ⟨rfl, hb⟩; have HB1 := Lib.hid hb; have hs1 := hb.size; (try simp at hs1); have X := Box2.below (b := w.heap.size) (v0 := .int .i64 0) (v1 := .int .u64 0) (by constructor <;> go_simp) hb (by first | omega | (simp <;> omega)); have HX1 := Lib.hid X; clear hb X))
  | (go_at_call 79; go_loud (refine (hay _).out.mono ?_; rintro e w2 ⟨rfl, hb⟩; have HB2 := Lib.hid hb; have hs2 := hb.size; (try simp at hs2); have HX2 := Lib.hid (HX1.out.below hb (by first | omega | (simp <;> omega))); clear hb))
  | (go_at_call 78; go_loud (refine (hm _).out.mono ?_; rintro e w3 ⟨rfl, hb⟩; have HB3 := Lib.hid hb; have hs3 := hb.size; (try simp at hs3); have HX3 := Lib.hid (HX2.out.below hb (by first | omega | (simp <;> omega))); clear hb))
  | (go_at_call 80; go_loud (refine (ht _).out.mono ?_; rintro e w4 ⟨rfl, hb⟩; have HB4 := Lib.hid hb; have hs4 := hb.size; (try simp at hs4); have X := HX3.out.below hb (by first | omega | (simp <;> omega)); obtain ⟨xc0, xc1, xf0, xf1⟩ := X; have hl : w.heap.size < w4.heap.size := (by omega); have hl2 : ¬ w.heap.size = w4.heap.size := (by omega); have hl3 : ¬ w4.heap.size = w.heap.size := (by omega); clear hb)))
 (try simp only [Exit.inBlock, Exit.then])
 refine bodyPost_ret (v := .agg #[.int .i64 H, .int .u64 L]) (by rw [results_c1 rfl]; go_simp) rfl ⟨rfl, ?_⟩
 have hT : Below w.heap.size w w4 := Below.trans (by (repeat' (first | exact Below.refl _ _ | refine Below.drew ?_ | refine Below.setCell ?_ (by first | omega | (simp <;> omega)) _ | refine Below.alloc ?_ (by first | omega | (simp <;> omega)) _))) (Below.trans (HB1.out.mono (B' := w.heap.size) (by first | omega | (simp <;> omega))) (Below.trans (HB2.out.mono (B' := w.heap.size) (by first | omega | (simp <;> omega))) (Below.trans (HB3.out.mono (B' := w.heap.size) (by first | omega | (simp <;> omega))) (HB4.out.mono (B' := w.heap.size) (by first | omega | (simp <;> omega))))))
 repeat' (first | exact hT | refine Below.setCell ?_ (by first | omega | (simp <;> omega)) _ | refine Below.alloc ?_ (by first | omega | (simp <;> omega)) _)
theorem pow_split (n : Nat) (h : n ≤ 64) : (2 : Int) ^ n * (2 : Int) ^ (64 - n) = 18446744073709551616 := by
 rw [← castPow, ← castPow, ← Int.natCast_mul, ← Nat.pow_add, Nat.add_sub_cancel' h]
 rfl
theorem pow_pos (n : Nat) : 1 ≤ (2 : Int) ^ n := by rw [← castPow]; have := Nat.two_pow_pos n; omega
def lenI (HI LO : Int) : Int := if HI = 0 then (Lib.bitLen LO.toNat : Int) else 64 + (Lib.bitLen HI.toNat : Int)
theorem len_pow (S L n : Nat) (h1 : S < 2 ^ L) (h2 : S ≠ 0 → 1 ≤ L ∧ 2 ^ (L - 1) ≤ S) (h3 : S = 0 → L = 0) (hn : n ≤ 128) : L + n ≤ 128 ↔ S * 2 ^ n < 340282366920938463463374607431768211456 := by
 have e128 : (340282366920938463463374607431768211456 : Nat) = 2 ^ 128 := rfl
 constructor
 ·intro h
  have : S * 2 ^ n < 2 ^ L * 2 ^ n := Nat.mul_lt_mul_of_pos_right h1 (Nat.two_pow_pos n)
  rw [← Nat.pow_add] at this
  exact Nat.lt_of_lt_of_le this (by rw [e128]; exact Nat.pow_le_pow_right (by decide) h)
 ·intro h
  by_cases h0 : S = 0
  ·have := h3 h0; omega
  ·obtain ⟨k1, k2⟩ := h2 h0
   rcases Nat.lt_or_ge 128 (L + n) with hc | hc
   ·have : 2 ^ (L - 1) * 2 ^ n ≤ S * 2 ^ n := Nat.mul_le_mul_right _ k2
    rw [← Nat.pow_add] at this
    have h5 : 2 ^ 128 ≤ 2 ^ (L - 1 + n) := Nat.pow_le_pow_right (by decide) (by omega)
    rw [e128] at h
    omega
   ·exact hc
theorem len_of (HI LO : Int) (n : Nat) (h0 : 0 ≤ HI) (h1 : HI ≤ 18446744073709551615) (l0 : 0 ≤ LO) (l1 : LO ≤ 18446744073709551615) (hn : n ≤ 128) :
  lenI HI LO + n ≤ 128 ↔ (HI * 18446744073709551616 + LO) * (2 : Int) ^ n < 340282366920938463463374607431768211456 := by
 obtain ⟨a, rfl⟩ := Int.eq_ofNat_of_zero_le h0
 obtain ⟨b, rfl⟩ := Int.eq_ofNat_of_zero_le l0
 obtain ⟨b1, b2⟩ := bitLen_bounds a (by omega)
 obtain ⟨c1, c2⟩ := bitLen_bounds b (by omega)
 have key : ∀ L : Nat, lenI a b = L → (a * 18446744073709551616 + b < 2 ^ L) → (a * 18446744073709551616 + b ≠ 0 → 1 ≤ L ∧ 2 ^ (L - 1) ≤ a * 18446744073709551616 + b) → (a * 18446744073709551616 + b = 0 → L = 0) →
   (lenI a b + n ≤ 128 ↔ ((a : Int) * 18446744073709551616 + b) * (2 : Int) ^ n < 340282366920938463463374607431768211456) := by
  intro L hL k1 k2 k3
  have := len_pow (a * 18446744073709551616 + b) L n k1 k2 k3 hn
  rw [hL, ← castPow]
  have e : ((a : Int) * 18446744073709551616 + b) * ((2 ^ n : Nat) : Int) = (((a * 18446744073709551616 + b) * 2 ^ n : Nat) : Int) := by
   rw [Int.natCast_mul (a * 18446744073709551616 + b) (2 ^ n)]
   rfl
  rw [e]
  generalize (a * 18446744073709551616 + b) * 2 ^ n = T at this
  omega
 by_cases ha : a = 0
 ·subst ha
  have e : lenI ((0 : Nat) : Int) b = (Lib.bitLen b : Nat) := by simp [lenI]
  refine key _ e ?_ ?_ ?_
  ·simpa using c1
  ·intro h; simpa using c2 (by simpa using h)
  ·intro h
   have : b = 0 := by simpa using h
   subst this
   decide
 ·have e : lenI (a : Int) b = ((64 + Lib.bitLen a : Nat) : Int) := by
   unfold lenI
   rw [if_neg (by omega)]
   simp
  obtain ⟨d1, d2⟩ := b2 ha
  have p64 : (2 : Nat) ^ (64 + Lib.bitLen a) = 18446744073709551616 * 2 ^ Lib.bitLen a := by rw [Nat.pow_add]
  have q64 : (2 : Nat) ^ (64 + Lib.bitLen a - 1) = 18446744073709551616 * 2 ^ (Lib.bitLen a - 1) := by
   have : 64 + Lib.bitLen a - 1 = 64 + (Lib.bitLen a - 1) := by omega
   rw [this, Nat.pow_add]
  refine key _ e ?_ ?_ ?_
  ·rw [p64]
   generalize 2 ^ Lib.bitLen a = X at b1
   omega
  ·intro _
   rw [q64]
   generalize 2 ^ (Lib.bitLen a - 1) = X at d2
   exact ⟨by omega, by omega⟩
  ·intro h; omega
theorem left_short (HI LO : Int) (n : Nat) (h0 : 0 ≤ HI) (l0 : 0 ≤ LO) (l1 : LO ≤ 18446744073709551615) (hn : n ≤ 63) (hlt : (HI * 18446744073709551616 + LO) * (2 : Int) ^ n < 340282366920938463463374607431768211456) :
  0 ≤ HI * 2 ^ n ∧ HI * 2 ^ n < 18446744073709551616 ∧ 0 ≤ LO / 2 ^ (64 - n) ∧ LO / 2 ^ (64 - n) < 2 ^ n ∧ HI * 2 ^ n + LO / 2 ^ (64 - n) < 18446744073709551616 ∧
   (HI * 18446744073709551616 + LO) * 2 ^ n / 18446744073709551616 = HI * 2 ^ n + LO / 2 ^ (64 - n) ∧ (HI * 18446744073709551616 + LO) * 2 ^ n % 18446744073709551616 = LO * 2 ^ n % 18446744073709551616 := by
 have pp := pow_split n (by omega)
 have hp := pow_pos n
 have hp' := pow_pos (64 - n)
 generalize (2 : Int) ^ n = p at *
 generalize (2 : Int) ^ (64 - n) = p' at *
 have hHp : 0 ≤ HI * p := Int.mul_nonneg h0 (by omega)
 have h3 : 0 ≤ LO / p' := Int.ediv_nonneg l0 (by omega)
 have h4 : LO / p' < p := Int.ediv_lt_of_lt_mul (by omega) (by rw [pp]; omega)
 have h5 := Int.mul_ediv_add_emod LO p'
 have h6 : 0 ≤ LO % p' := Int.emod_nonneg _ (by omega)
 have h7 : LO % p' < p' := Int.emod_lt_of_pos _ (by omega)
 have h8 : LO * p = LO / p' * 18446744073709551616 + LO % p' * p := by
  rw [← pp]
  conv => lhs; rw [← h5]
  rw [Int.add_mul, Int.mul_comm p' (LO / p'), Int.mul_assoc (LO / p') p' p, Int.mul_comm p' p]
 have h9 : 0 ≤ LO % p' * p := Int.mul_nonneg h6 (by omega)
 have ha : LO % p' * p < 18446744073709551616 := by
  rw [← pp, Int.mul_comm p p']
  exact Int.mul_lt_mul_of_pos_right h7 (by omega)
 have hX : (HI * 18446744073709551616 + LO) * p = (HI * p + LO / p') * 18446744073709551616 + LO % p' * p := by
  rw [Int.add_mul, h8, Int.mul_right_comm, Int.add_mul]
  omega
 rw [hX] at hlt ⊢
 have hlt2 : HI * p + LO / p' < 18446744073709551616 := by omega
 exact ⟨hHp, by omega, h3, h4, hlt2, by omega, by omega⟩
theorem left_long (LO : Int) (n : Nat) (l0 : 0 ≤ LO) (hn : 64 ≤ n) (hlt : LO * (2 : Int) ^ n < 340282366920938463463374607431768211456) :
  0 ≤ LO * 2 ^ (n - 64) ∧ LO * 2 ^ (n - 64) < 18446744073709551616 ∧ LO * 2 ^ n / 18446744073709551616 = LO * 2 ^ (n - 64) ∧ LO * 2 ^ n % 18446744073709551616 = 0 := by
 have e : (2 : Int) ^ n = 2 ^ (n - 64) * 18446744073709551616 := by
  have : n = (n - 64) + 64 := by omega
  conv => lhs; rw [this, Int.pow_add]
  rfl
 have hp := pow_pos (n - 64)
 rw [e, ← Int.mul_assoc] at hlt ⊢
 have : 0 ≤ LO * 2 ^ (n - 64) := Int.mul_nonneg l0 (by omega)
 generalize LO * 2 ^ (n - 64) = T at *
 omega
theorem left_one (HI LO : Int) (n : Nat) (h0 : 0 ≤ HI) (l0 : 0 ≤ LO) (hn : 64 ≤ n) (hlt : (HI * 18446744073709551616 + LO) * (2 : Int) ^ n < 340282366920938463463374607431768211456) : HI = 0 := by
 have e : (2 : Int) ^ n = 2 ^ (n - 64) * 18446744073709551616 := by
  have : n = (n - 64) + 64 := by omega
  conv => lhs; rw [this, Int.pow_add]
  rfl
 have hp := pow_pos (n - 64)
 rcases Int.lt_or_le 0 HI with h | h
 ·have h1 := Int.mul_le_mul (show 18446744073709551616 ≤ HI * 18446744073709551616 + LO by omega) (show 18446744073709551616 ≤ (2 : Int) ^ n by rw [e]; omega) (by omega) (by omega)
  omega
 ·omega
theorem shortTrans {w w1 w' w'' : World} {HI LO : Int} (h : Below w.heap.size w w' ∧ w1.heap.size < w'.heap.size ∧ w'.cell? ⟨w1.heap.size, 0, none⟩ = some (.int .u64 HI) ∧ w'.cell? ⟨w1.heap.size, 1, none⟩ = some (.int .u64 LO) ∧ Hid (∃ v0 v1, Box2 w' (w.heap.size + 1) v0 v1)) (hl : w.heap.size + 1 < w1.heap.size) (hb : Below w'.heap.size w' w'') :
  Below w.heap.size w w'' ∧ w1.heap.size < w''.heap.size ∧ w''.cell? ⟨w1.heap.size, 0, none⟩ = some (.int .u64 HI) ∧ w''.cell? ⟨w1.heap.size, 1, none⟩ = some (.int .u64 LO) ∧ Hid (∃ v0 v1, Box2 w'' (w.heap.size + 1) v0 v1) := by
 obtain ⟨h1, h2, h3, h4, h5⟩ := h
 obtain ⟨v0, v1, hB⟩ := h5.out
 exact ⟨h1.trans (hb.mono h1.size), Nat.lt_of_lt_of_le h2 hb.size, (hb.cell (p := ⟨w1.heap.size, 0, none⟩) h2).trans h3, (hb.cell (p := ⟨w1.heap.size, 1, none⟩) h2).trans h4, Lib.hid ⟨v0, v1, hB.below hb (Nat.lt_trans hl h2)⟩⟩
theorem shortB {w w1 w' : World} {HI LO : Int} (h : Below w.heap.size w w' ∧ w1.heap.size < w'.heap.size ∧ w'.cell? ⟨w1.heap.size, 0, none⟩ = some (.int .u64 HI) ∧ w'.cell? ⟨w1.heap.size, 1, none⟩ = some (.int .u64 LO) ∧ Hid (∃ v0 v1, Box2 w' (w.heap.size + 1) v0 v1)) : Below w.heap.size w w' := h.1
theorem shortSet {w w1 w' : World} {HI LO : Int} {x y : Value} (h : Below w.heap.size w w' ∧ w1.heap.size < w'.heap.size ∧ w'.cell? ⟨w1.heap.size, 0, none⟩ = some (.int .u64 HI) ∧ w'.cell? ⟨w1.heap.size, 1, none⟩ = some (.int .u64 LO) ∧ Hid (∃ v0 v1, Box2 w' (w.heap.size + 1) v0 v1)) (hl : w.heap.size + 1 < w1.heap.size) :
  Below w.heap.size w ((w'.setCell ⟨w.heap.size + 1, 0, none⟩ x).setCell ⟨w.heap.size + 1, 1, none⟩ y) ∧ w1.heap.size < ((w'.setCell ⟨w.heap.size + 1, 0, none⟩ x).setCell ⟨w.heap.size + 1, 1, none⟩ y).heap.size ∧ ((w'.setCell ⟨w.heap.size + 1, 0, none⟩ x).setCell ⟨w.heap.size + 1, 1, none⟩ y).cell? ⟨w1.heap.size, 0, none⟩ = some (.int .u64 HI) ∧ ((w'.setCell ⟨w.heap.size + 1, 0, none⟩ x).setCell ⟨w.heap.size + 1, 1, none⟩ y).cell? ⟨w1.heap.size, 1, none⟩ = some (.int .u64 LO) ∧ Hid (∃ v0 v1, Box2 ((w'.setCell ⟨w.heap.size + 1, 0, none⟩ x).setCell ⟨w.heap.size + 1, 1, none⟩ y) (w.heap.size + 1) v0 v1) := by
 obtain ⟨h1, h2, h3, h4, h5⟩ := h
 obtain ⟨v0, v1, hB⟩ := h5.out
 obtain ⟨c0, c1, f0, f1⟩ := hB
 have hne : ¬ w1.heap.size = w.heap.size + 1 := by omega
 refine ⟨(h1.setCell (by simp) _).setCell (by simp) _, by simpa using h2, ?_, ?_, Lib.hid ⟨x, y, ?_⟩⟩
 ·go_simp
 ·go_simp
 ·constructor <;> go_simp
set_option maxHeartbeats 2000000 in
set_option maxRecDepth 100000 in
theorem left_of (h l : Int) (n : Nat) (hn : n ≤ 126) (a : WR h l) (H L Z : Int) (w : World)
  (htold : A h l * 2 ^ n < 340282366920938463463374607431768211456 → ∀ w, Calls Tryz.prog 80 #[.bool (decide (h < 0)), .agg #[.int .u64 ((A h l * 2 ^ n) / 18446744073709551616), .int .u64 ((A h l * 2 ^ n) % 18446744073709551616)]] w (RetWE w H L Z))
  (hout : ¬ A h l * 2 ^ n < 340282366920938463463374607431768211456 → H = 0 ∧ L = 0 ∧ Z = 3) :
  Calls Tryz.prog 109 #[.agg #[.int .i64 h, .int .u64 l], .int .i64 n] w (RetWE w H L Z) := by
 have ho := fun w => Lib.hid (of_any h l w a)
 have hA := A_bounds h l a
 obtain ⟨HI, hHI⟩ : ∃ q, A h l / 18446744073709551616 = q := ⟨_, rfl⟩
 obtain ⟨LO, hLO⟩ : ∃ q, A h l % 18446744073709551616 = q := ⟨_, rfl⟩
 have eA : A h l = HI * 18446744073709551616 + LO := by omega
 rw [hHI, hLO] at ho
 rw [eA] at htold hout
 have b0 : 0 ≤ HI := by omega
 have b1 : HI ≤ 18446744073709551615 := by omega
 have b2 : 0 ≤ LO := by omega
 have b3 : LO ≤ 18446744073709551615 := by omega
 have hlen := len_of HI LO n b0 b1 b2 b3 (by omega)
 have hl1 := fun w => Lib.hid (len64_any HI w b0 b1)
 have hl2 := fun w => Lib.hid (len64_any LO w b2 b3)
 have g1 := bitLen_64 HI b0 b1
 have g2 := bitLen_64 LO b2 b3
 have hsh := left_short HI LO n b0 b2 b3
 have hlg := left_long LO n b2
 have hon := left_one HI LO n b0 b2
 unfold lenI at hlen
 obtain ⟨BH, hBH⟩ : ∃ q, Lib.bitLen HI.toNat = q := ⟨_, rfl⟩
 obtain ⟨BL, hBL⟩ : ∃ q, Lib.bitLen LO.toNat = q := ⟨_, rfl⟩
 rw [hBH] at hl1 g1 hlen
 rw [hBL] at hl2 g2 hlen
 obtain ⟨NG, hNG⟩ : ∃ q, decide (h < 0) = q := ⟨_, rfl⟩
 rw [hNG] at ho htold
 clear hBH hBL hHI hLO eA hA hNG a
 have ew1 : RowKit.wrap64 (64 + (BH : Int)) = 64 + BH := by unfold RowKit.wrap64; omega
 have ew2 : RowKit.wrap64 (64 + (BH : Int) + n) = 64 + BH + n := by unfold RowKit.wrap64; omega
 have ew3 : RowKit.wrap64 ((BL : Int) + n) = BL + n := by unfold RowKit.wrap64; omega
 have M1 := True.intro
 have M2 := True.intro
 by_cases hz : HI = 0
 ·rw [if_pos hz] at hlen
  have hz2 : (HI == 0) = true := by simp; exact hz
  by_cases hfit : (BL : Int) + n ≤ 128
  ·have hlt := hlen.1 hfit
   replace htold := htold hlt
   by_cases h64 : 64 ≤ n
   ·clear hsh hon hout hlen
    have := hlg h64 (by rw [hz, Int.zero_mul, Int.zero_add] at hlt; exact hlt)
    obtain ⟨k0, k1, k2, k3⟩ := this
    rw [hz, Int.zero_mul, Int.zero_add, k2, k3] at htold
    clear k2 k3 hlg hlt hz
    have HT := fun w => Lib.hid (htold w)
    clear htold
    have eT : IntKind.u64.wrap (LO * 2 ^ (n - 64)) = LO * 2 ^ (n - 64) := by rw [wrapU]; omega
    obtain ⟨T, hT⟩ : ∃ q, LO * 2 ^ (n - 64) = q := ⟨_, rfl⟩
    rw [hT] at HT eT k0 k1
    go_enter Tryz.func109, Tryz.ntmps109
    go_wp2_with (first | (go_at_call 111; go_loud (refine (ho _).out.mono ?_; rintro e w1 ⟨rfl, hb⟩; have HB1 := Lib.hid hb; have hs1 := hb.size; (try simp at hs1); have X0 := Box2.below (b := w.heap.size) (v0 := .int .i64 h) (v1 := .int .u64 l) (by constructor <;> go_simp) hb (by first | omega | (simp <;> omega)); have X1 := Box2.below (b := w.heap.size + 1) (v0 := .int .i64 0) (v1 := .int .u64 0) (by constructor <;> go_simp) hb (by first | omega | (simp <;> omega)); obtain ⟨xc0, xc1, xf0, xf1⟩ := X0; have HX1 := Lib.hid X1; obtain ⟨yc0, yc1, yf0, yf1⟩ := X1; have hl9 : w.heap.size + 1 < w1.heap.size := (by omega); clear hb)) | (go_at_call 119; have hmk := M1; clear hmk M1; refine (hl1 _).out.mono ?_; rintro e w' ⟨rfl, rfl⟩) | (go_at_call 119; have hmk := M2; clear hmk M2; refine (hl2 _).out.mono ?_; rintro e w' ⟨rfl, rfl⟩) | (go_at_call 80; go_loud (refine (HT _).out.mono ?_; rintro e w2 ⟨rfl, hb⟩; have HB2 := Lib.hid hb; have hs2 := hb.size; (try simp at hs2); have Z1 := (HX1.out.below (n := w1.heap.size) (by (repeat' (first | exact Below.refl _ _ | refine Below.drew ?_ | refine Below.setCell ?_ (by first | omega | (simp <;> omega)) _ | refine Below.alloc ?_ (by first | omega | (simp <;> omega)) _))) (by first | omega | (simp <;> omega))).below hb (by first | omega | (simp <;> omega)); obtain ⟨zc0, zc1, zf0, zf1⟩ := Z1; clear hb)))
    (try simp only [Exit.noGoto, Exit.inBlock, Exit.then])
    refine bodyPost_ret (v := .tuple #[.agg #[.int .i64 H, .int .u64 L], .int .i64 Z]) (by rw [results_ct rfl]; go_simp) rfl ⟨rfl, ?_⟩
    iterate 2 refine Below.setCell ?_ (by first | omega | (simp <;> omega)) _
    exact Below.trans (by (repeat' (first | exact Below.refl _ _ | refine Below.drew ?_ | refine Below.setCell ?_ (by first | omega | (simp <;> omega)) _ | refine Below.alloc ?_ (by first | omega | (simp <;> omega)) _))) (Below.trans (HB1.out.mono (by first | omega | (simp <;> omega))) (Below.trans (by (repeat' (first | exact Below.refl _ _ | refine Below.drew ?_ | refine Below.setCell ?_ (by first | omega | (simp <;> omega)) _ | refine Below.alloc ?_ (by first | omega | (simp <;> omega)) _))) (HB2.out.mono (by first | omega | (simp <;> omega)))))
   ·have := hsh (by omega) hlt
    obtain ⟨k0, k1, k2, k3, k4, k5, k6⟩ := this
    rw [k5, k6] at htold
    have hn63 : n ≤ 63 := by omega
    clear hlg hon hout hlen k5 k6 hsh hlt hz
    have ew4 : RowKit.wrap64 (64 - (n : Int)) = 64 - n := by unfold RowKit.wrap64; omega
    have ew5 : IntKind.i64.wrap (64 - (n : Int)) = 64 - n := by rw [wrapI]; omega
    have HT := fun w => Lib.hid (htold w)
    clear htold
    have eHw : IntKind.u64.wrap (HI * 2 ^ n) = HI * 2 ^ n := by rw [wrapU]; omega
    have eOr : bits BinOp.or IntKind.u64 (HI * 2 ^ n) (LO / 2 ^ (64 - n)) = HI * 2 ^ n + LO / 2 ^ (64 - n) := bits_join IntKind.u64 64 (by decide) (fun n h0 h1 => by rw [wrapU]; omega) n _ _ k0 (Int.mul_emod_left _ _) (by omega) k2 k3 (by omega)
    have eLw : IntKind.u64.wrap (LO * 2 ^ n) = LO * 2 ^ n % 18446744073709551616 := by rw [wrapU]
    obtain ⟨T1, hT1⟩ : ∃ q, HI * 2 ^ n + LO / 2 ^ (64 - n) = q := ⟨_, rfl⟩
    obtain ⟨T2, hT2⟩ : ∃ q, LO * 2 ^ n % 18446744073709551616 = q := ⟨_, rfl⟩
    rw [hT1, hT2] at HT
    rw [hT1] at eOr
    rw [hT2] at eLw
    go_enter Tryz.func109, Tryz.ntmps109
    go_upto_region 11 with (first | (go_at_call 111; go_loud (refine (ho _).out.mono ?_; rintro e w1 ⟨rfl, hb⟩; have HB1 := Lib.hid hb; have hs1 := hb.size; (try simp at hs1); have X0 := Box2.below (b := w.heap.size) (v0 := .int .i64 h) (v1 := .int .u64 l) (by constructor <;> go_simp) hb (by first | omega | (simp <;> omega)); have X1 := Box2.below (b := w.heap.size + 1) (v0 := .int .i64 0) (v1 := .int .u64 0) (by constructor <;> go_simp) hb (by first | omega | (simp <;> omega)); obtain ⟨xc0, xc1, xf0, xf1⟩ := X0; have HX1 := Lib.hid X1; obtain ⟨yc0, yc1, yf0, yf1⟩ := X1; have hl9 : w.heap.size + 1 < w1.heap.size := (by omega); clear hb)) | (go_at_call 119; have hmk := M1; clear hmk M1; refine (hl1 _).out.mono ?_; rintro e w' ⟨rfl, rfl⟩) | (go_at_call 119; have hmk := M2; clear hmk M2; refine (hl2 _).out.mono ?_; rintro e w' ⟨rfl, rfl⟩))
    obtain ⟨Wb, hWb⟩ : ∃ Wb : World, Wb = w1.alloc (.cells #[.int .u64 HI, .int .u64 LO] 130) := ⟨_, rfl⟩
    have HS0 : Hid (Below w.heap.size w Wb ∧ w1.heap.size < Wb.heap.size ∧ Wb.cell? ⟨w1.heap.size, 0, none⟩ = some (.int .u64 HI) ∧ Wb.cell? ⟨w1.heap.size, 1, none⟩ = some (.int .u64 LO) ∧ Hid (∃ v0 v1, Box2 Wb (w.heap.size + 1) v0 v1)) := by
     rw [hWb]
     refine Lib.hid ⟨Below.trans (by (repeat' (first | exact Below.refl _ _ | refine Below.drew ?_ | refine Below.setCell ?_ (by first | omega | (simp <;> omega)) _ | refine Below.alloc ?_ (by first | omega | (simp <;> omega)) _))) (Below.trans (HB1.out.mono (by first | omega | (simp <;> omega))) (by (repeat' (first | exact Below.refl _ _ | refine Below.drew ?_ | refine Below.setCell ?_ (by first | omega | (simp <;> omega)) _ | refine Below.alloc ?_ (by first | omega | (simp <;> omega)) _)))), by simp, by simp [go_sem], by simp [go_sem], Lib.hid ⟨_, _, HX1.out.below (n := w1.heap.size) (by (repeat' (first | exact Below.refl _ _ | refine Below.drew ?_ | refine Below.setCell ?_ (by first | omega | (simp <;> omega)) _ | refine Below.alloc ?_ (by first | omega | (simp <;> omega)) _))) (by first | omega | (simp <;> omega))⟩⟩
    rw [← hWb]
    clear hWb xc0 xc1 xf0 xf1 yc0 yc1 yf0 yf1 HX1 HB1
    go_region_held3 (fun w' => Below w.heap.size w w' ∧ w1.heap.size < w'.heap.size ∧ w'.cell? ⟨w1.heap.size, 0, none⟩ = some (.int .u64 HI) ∧ w'.cell? ⟨w1.heap.size, 1, none⟩ = some (.int .u64 LO) ∧ Hid (∃ v0 v1, Box2 w' (w.heap.size + 1) v0 v1)) (first | assumption | exact shortTrans HS0.out hl9 (Below.drew (Below.refl _ _)) | exact shortTrans (by assumption) hl9 (by assumption) | exact shortSet (by assumption) hl9)
     (first | (go_at_call 80; refine (HT _).out.mono ?_; rintro e w2 ⟨rfl, hb⟩; have hS2 := shortTrans (by assumption) hl9 hb; obtain ⟨v0, v1, Z1⟩ := hS2.2.2.2.2.out; obtain ⟨zc0, zc1, zf0, zf1⟩ := Z1; clear hS2))
    all_goals
     go_wp2_with fail
     (try simp only [Exit.noGoto, Exit.inBlock, Exit.then])
     refine bodyPost_ret (v := .tuple #[.agg #[.int .i64 H, .int .u64 L], .int .i64 Z]) (by rw [results_ct rfl]; go_simp) rfl ⟨rfl, shortB (by assumption)⟩
  ·obtain ⟨rfl, rfl, rfl⟩ := hout (fun hlt => hfit (hlen.2 hlt))
   have hfit2 : 128 < (BL : Int) + n := by omega
   clear hsh hlg hon hlen htold hout hfit hz
   go_enter Tryz.func109, Tryz.ntmps109
   go_wp2_with (first | (go_at_call 111; go_loud (refine (ho _).out.mono ?_; rintro e w1 ⟨rfl, hb⟩; have HB1 := Lib.hid hb; have hs1 := hb.size; (try simp at hs1); have X0 := Box2.below (b := w.heap.size) (v0 := .int .i64 h) (v1 := .int .u64 l) (by constructor <;> go_simp) hb (by first | omega | (simp <;> omega)); have X1 := Box2.below (b := w.heap.size + 1) (v0 := .int .i64 0) (v1 := .int .u64 0) (by constructor <;> go_simp) hb (by first | omega | (simp <;> omega)); obtain ⟨xc0, xc1, xf0, xf1⟩ := X0; have HX1 := Lib.hid X1; obtain ⟨yc0, yc1, yf0, yf1⟩ := X1; have hl9 : w.heap.size + 1 < w1.heap.size := (by omega); clear hb)) | (go_at_call 119; have hmk := M1; clear hmk M1; refine (hl1 _).out.mono ?_; rintro e w' ⟨rfl, rfl⟩) | (go_at_call 119; have hmk := M2; clear hmk M2; refine (hl2 _).out.mono ?_; rintro e w' ⟨rfl, rfl⟩))
   (try simp only [Exit.noGoto, Exit.inBlock, Exit.then])
   refine bodyPost_ret (v := .tuple #[.agg #[.int .i64 0, .int .u64 0], .int .i64 3]) (by rw [results_ct rfl]; go_simp) rfl ⟨rfl, ?_⟩
   refine Below.alloc ?_ (by first | omega | (simp <;> omega)) _
   iterate 2 refine Below.setCell ?_ (by first | omega | (simp <;> omega)) _
   exact Below.trans (by (repeat' (first | exact Below.refl _ _ | refine Below.drew ?_ | refine Below.setCell ?_ (by first | omega | (simp <;> omega)) _ | refine Below.alloc ?_ (by first | omega | (simp <;> omega)) _))) (HB1.out.mono (by first | omega | (simp <;> omega)))
 ·rw [if_neg hz] at hlen
  have hz2 : (HI == 0) = false := by simp; exact hz
  by_cases hfit : 64 + (BH : Int) + n ≤ 128
  ·have hlt := hlen.1 hfit
   replace htold := htold hlt
   have hn63 : n ≤ 63 := by
    rcases Nat.lt_or_ge 63 n with h1 | h1
    ·exact absurd (hon h1 hlt) hz
    ·exact h1
   have := hsh hn63 hlt
   obtain ⟨k0, k1, k2, k3, k4, k5, k6⟩ := this
   rw [k5, k6] at htold
   clear hlg hon hout hlen k5 k6 hsh hlt
   have ew4 : RowKit.wrap64 (64 - (n : Int)) = 64 - n := by unfold RowKit.wrap64; omega
   have ew5 : IntKind.i64.wrap (64 - (n : Int)) = 64 - n := by rw [wrapI]; omega
   have HT := fun w => Lib.hid (htold w)
   clear htold
   have eHw : IntKind.u64.wrap (HI * 2 ^ n) = HI * 2 ^ n := by rw [wrapU]; omega
   have eOr : bits BinOp.or IntKind.u64 (HI * 2 ^ n) (LO / 2 ^ (64 - n)) = HI * 2 ^ n + LO / 2 ^ (64 - n) := bits_join IntKind.u64 64 (by decide) (fun n h0 h1 => by rw [wrapU]; omega) n _ _ k0 (Int.mul_emod_left _ _) (by omega) k2 k3 (by omega)
   have eLw : IntKind.u64.wrap (LO * 2 ^ n) = LO * 2 ^ n % 18446744073709551616 := by rw [wrapU]
   obtain ⟨T1, hT1⟩ : ∃ q, HI * 2 ^ n + LO / 2 ^ (64 - n) = q := ⟨_, rfl⟩
   obtain ⟨T2, hT2⟩ : ∃ q, LO * 2 ^ n % 18446744073709551616 = q := ⟨_, rfl⟩
   rw [hT1, hT2] at HT
   rw [hT1] at eOr
   rw [hT2] at eLw
   go_enter Tryz.func109, Tryz.ntmps109
   go_upto_region 11 with (first | (go_at_call 111; go_loud (refine (ho _).out.mono ?_; rintro e w1 ⟨rfl, hb⟩; have HB1 := Lib.hid hb; have hs1 := hb.size; (try simp at hs1); have X0 := Box2.below (b := w.heap.size) (v0 := .int .i64 h) (v1 := .int .u64 l) (by constructor <;> go_simp) hb (by first | omega | (simp <;> omega)); have X1 := Box2.below (b := w.heap.size + 1) (v0 := .int .i64 0) (v1 := .int .u64 0) (by constructor <;> go_simp) hb (by first | omega | (simp <;> omega)); obtain ⟨xc0, xc1, xf0, xf1⟩ := X0; have HX1 := Lib.hid X1; obtain ⟨yc0, yc1, yf0, yf1⟩ := X1; have hl9 : w.heap.size + 1 < w1.heap.size := (by omega); clear hb)) | (go_at_call 119; have hmk := M1; clear hmk M1; refine (hl1 _).out.mono ?_; rintro e w' ⟨rfl, rfl⟩) | (go_at_call 119; have hmk := M2; clear hmk M2; refine (hl2 _).out.mono ?_; rintro e w' ⟨rfl, rfl⟩))
   obtain ⟨Wb, hWb⟩ : ∃ Wb : World, Wb = w1.alloc (.cells #[.int .u64 HI, .int .u64 LO] 130) := ⟨_, rfl⟩
   have HS0 : Hid (Below w.heap.size w Wb ∧ w1.heap.size < Wb.heap.size ∧ Wb.cell? ⟨w1.heap.size, 0, none⟩ = some (.int .u64 HI) ∧ Wb.cell? ⟨w1.heap.size, 1, none⟩ = some (.int .u64 LO) ∧ Hid (∃ v0 v1, Box2 Wb (w.heap.size + 1) v0 v1)) := by
    rw [hWb]
    refine Lib.hid ⟨Below.trans (by (repeat' (first | exact Below.refl _ _ | refine Below.drew ?_ | refine Below.setCell ?_ (by first | omega | (simp <;> omega)) _ | refine Below.alloc ?_ (by first | omega | (simp <;> omega)) _))) (Below.trans (HB1.out.mono (by first | omega | (simp <;> omega))) (by (repeat' (first | exact Below.refl _ _ | refine Below.drew ?_ | refine Below.setCell ?_ (by first | omega | (simp <;> omega)) _ | refine Below.alloc ?_ (by first | omega | (simp <;> omega)) _)))), by simp, by simp [go_sem], by simp [go_sem], Lib.hid ⟨_, _, HX1.out.below (n := w1.heap.size) (by (repeat' (first | exact Below.refl _ _ | refine Below.drew ?_ | refine Below.setCell ?_ (by first | omega | (simp <;> omega)) _ | refine Below.alloc ?_ (by first | omega | (simp <;> omega)) _))) (by first | omega | (simp <;> omega))⟩⟩
   rw [← hWb]
   clear hWb xc0 xc1 xf0 xf1 yc0 yc1 yf0 yf1 HX1 HB1
   go_region_held3 (fun w' => Below w.heap.size w w' ∧ w1.heap.size < w'.heap.size ∧ w'.cell? ⟨w1.heap.size, 0, none⟩ = some (.int .u64 HI) ∧ w'.cell? ⟨w1.heap.size, 1, none⟩ = some (.int .u64 LO) ∧ Hid (∃ v0 v1, Box2 w' (w.heap.size + 1) v0 v1)) (first | assumption | exact shortTrans HS0.out hl9 (Below.drew (Below.refl _ _)) | exact shortTrans (by assumption) hl9 (by assumption) | exact shortSet (by assumption) hl9)
    (first | (go_at_call 80; refine (HT _).out.mono ?_; rintro e w2 ⟨rfl, hb⟩; have hS2 := shortTrans (by assumption) hl9 hb; obtain ⟨v0, v1, Z1⟩ := hS2.2.2.2.2.out; obtain ⟨zc0, zc1, zf0, zf1⟩ := Z1; clear hS2))
   all_goals
    go_wp2_with fail
    (try simp only [Exit.noGoto, Exit.inBlock, Exit.then])
    refine bodyPost_ret (v := .tuple #[.agg #[.int .i64 H, .int .u64 L], .int .i64 Z]) (by rw [results_ct rfl]; go_simp) rfl ⟨rfl, shortB (by assumption)⟩
  ·obtain ⟨rfl, rfl, rfl⟩ := hout (fun hlt => hfit (hlen.2 hlt))
   have hfit2 : 128 < 64 + (BH : Int) + n := by omega
   clear hsh hlg hon hlen htold hout hfit hz
   go_enter Tryz.func109, Tryz.ntmps109
   go_wp2_with (first | (go_at_call 111; go_loud (refine (ho _).out.mono ?_; rintro e w1 ⟨rfl, hb⟩; have HB1 := Lib.hid hb; have hs1 := hb.size; (try simp at hs1); have X0 := Box2.below (b := w.heap.size) (v0 := .int .i64 h) (v1 := .int .u64 l) (by constructor <;> go_simp) hb (by first | omega | (simp <;> omega)); have X1 := Box2.below (b := w.heap.size + 1) (v0 := .int .i64 0) (v1 := .int .u64 0) (by constructor <;> go_simp) hb (by first | omega | (simp <;> omega)); obtain ⟨xc0, xc1, xf0, xf1⟩ := X0; have HX1 := Lib.hid X1; obtain ⟨yc0, yc1, yf0, yf1⟩ := X1; have hl9 : w.heap.size + 1 < w1.heap.size := (by omega); clear hb)) | (go_at_call 119; have hmk := M1; clear hmk M1; refine (hl1 _).out.mono ?_; rintro e w' ⟨rfl, rfl⟩) | (go_at_call 119; have hmk := M2; clear hmk M2; refine (hl2 _).out.mono ?_; rintro e w' ⟨rfl, rfl⟩))
   (try simp only [Exit.noGoto, Exit.inBlock, Exit.then])
   refine bodyPost_ret (v := .tuple #[.agg #[.int .i64 0, .int .u64 0], .int .i64 3]) (by rw [results_ct rfl]; go_simp) rfl ⟨rfl, ?_⟩
   refine Below.alloc ?_ (by first | omega | (simp <;> omega)) _
   iterate 2 refine Below.setCell ?_ (by first | omega | (simp <;> omega)) _
   exact Below.trans (by (repeat' (first | exact Below.refl _ _ | refine Below.drew ?_ | refine Below.setCell ?_ (by first | omega | (simp <;> omega)) _ | refine Below.alloc ?_ (by first | omega | (simp <;> omega)) _))) (HB1.out.mono (by first | omega | (simp <;> omega)))
theorem V_split3 (s : Int) : V (s / 18446744073709551616) (s % 18446744073709551616) = s := by unfold V; omega
theorem left_in (h l : Int) (n : Nat) (w : World) (hn : n ≤ 126) (a : WR h l) (hin : inR (V h l * 2 ^ n)) :
  Calls Tryz.prog 109 #[.agg #[.int .i64 h, .int .u64 l], .int .i64 n] w (RetWE w (V h l * 2 ^ n / 18446744073709551616) (V h l * 2 ^ n % 18446744073709551616) 0) := by
 have hA := A_bounds h l a
 have hs := V_neg h l a
 have hp := pow_pos n
 have h0 : 0 ≤ A h l * 2 ^ n := Int.mul_nonneg hA.1 (by omega)
 have e : V h l * 2 ^ n = if decide (h < 0) = true then -(A h l * 2 ^ n) else A h l * 2 ^ n := by
  rw [← hs]
  by_cases hv : V h l < 0
  ·rw [decide_eq_true hv, if_pos rfl]
   unfold A
   rw [if_pos hv, Int.neg_mul, Int.neg_neg]
  ·rw [decide_eq_false hv, if_neg (by decide)]
   unfold A
   rw [if_neg hv]
 refine left_of h l n hn a _ _ _ w (fun hlt w => ?_) (fun hlt => ?_)
 ·rw [e]
  refine told_in _ _ w h0 ?_
  rw [e] at hin
  unfold inR at hin
  split at hin
  ·rename_i hd; rw [if_pos hd]; omega
  ·rename_i hd; rw [if_neg hd]; omega
 ·exfalso
  rw [e] at hin
  unfold inR at hin
  split at hin <;> omega
end Go.Proofs.YtadlnmckcnfacaaGreat
namespace Go.Proofs.YtadlnmckcnfacaaGreat
open Go.RowKit Go.Rt
theorem shift_split (HI LO : Int) (n : Nat) (h0 : 0 ≤ HI) (h1 : HI ≤ 18446744073709551615) (l0 : 0 ≤ LO) (l1 : LO ≤ 18446744073709551615) (hn : n ≤ 62) :
  (HI * 18446744073709551616 + LO) / 2 ^ n / 18446744073709551616 = HI / 2 ^ n ∧
  (HI * 18446744073709551616 + LO) / 2 ^ n % 18446744073709551616 = bits BinOp.or IntKind.u64 (IntKind.u64.wrap (HI * 2 ^ (64 - n))) (LO / 2 ^ n) ∧
  (HI * 18446744073709551616 + LO) % 2 ^ n = bits BinOp.and IntKind.u64 LO (2 ^ n - 1) := by
 have pp := pow_split n (by omega)
 have hp := pow_pos n
 have hp' := pow_pos (64 - n)
 have hmask : bits BinOp.and IntKind.u64 LO (2 ^ n - 1) = LO % 2 ^ n := bits_mask IntKind.u64 64 (by decide) (fun n h0 h1 => by rw [wrapU]; omega) n (by omega) LO l0 (by omega)
 have hjoin := fun x y a b c d e f => bits_join IntKind.u64 64 (by decide) (fun n h0 h1 => by rw [wrapU]; omega) (64 - n) x y a b c d e f
 rw [hmask]
 generalize (2 : Int) ^ n = p at *
 generalize (2 : Int) ^ (64 - n) = p' at *
 have e0 : HI * 18446744073709551616 + LO = LO + HI * p' * p := by rw [← pp, Int.mul_assoc, Int.mul_comm p' p]; omega
 have e1 : (HI * 18446744073709551616 + LO) / p = LO / p + HI * p' := by rw [e0, Int.add_mul_ediv_right _ _ (by omega)]
 have e2 : (HI * 18446744073709551616 + LO) % p = LO % p := by rw [e0, Int.add_mul_emod_self_right]
 have d1 := Int.mul_ediv_add_emod HI p
 have d2 : 0 ≤ HI % p := Int.emod_nonneg _ (by omega)
 have d3 : HI % p < p := Int.emod_lt_of_pos _ (by omega)
 have e3 : HI * p' = HI / p * 18446744073709551616 + HI % p * p' := by
  conv => lhs; rw [← d1]
  rw [Int.add_mul, Int.mul_comm p (HI / p), Int.mul_assoc, pp]
 have d4 : 0 ≤ HI % p * p' := Int.mul_nonneg d2 (by omega)
 have d5 : HI % p * p' + p' ≤ 18446744073709551616 := by
  have := Int.mul_le_mul_of_nonneg_right (show HI % p + 1 ≤ p by omega) (show 0 ≤ p' by omega)
  rw [Int.add_mul, Int.one_mul, pp] at this
  exact this
 have d6 : 0 ≤ LO / p := Int.ediv_nonneg l0 (by omega)
 have d7 : LO / p < p' := Int.ediv_lt_of_lt_mul (by omega) (by rw [Int.mul_comm, pp]; omega)
 have e4 : IntKind.u64.wrap (HI * p') = HI % p * p' := by rw [wrapU, e3]; omega
 rw [e4, hjoin _ _ d4 (Int.mul_emod_left _ _) (by omega) d6 d7 (by omega), e1, e2, e3]
 exact ⟨by omega, by omega, rfl⟩
set_option maxHeartbeats 4000000 in
set_option maxRecDepth 100000 in
theorem shift_any (h l : Int) (n : Nat) (w : World) (hn1 : 1 ≤ n) (hn : n ≤ 62) (a : WR h l) :
  Calls Tryz.prog 82 #[.agg #[.int .i64 h, .int .u64 l], .int .i64 n] w (RetW w (roundI (V h l) (2 ^ n) / 18446744073709551616) (roundI (V h l) (2 ^ n) % 18446744073709551616)) := by
 have hA := A_bounds h l a
 have hVn := V_neg h l a
 have hp := pow_pos n
 have hp2 : (2 : Int) ^ n ≤ 4611686018427387904 := by
  rw [← castPow]
  have := Nat.pow_le_pow_right (show 0 < 2 by decide) hn
  have e : (2 : Nat) ^ 62 = 4611686018427387904 := by decide
  rw [e] at this
  omega
 have hev : (2 : Int) ≤ 2 ^ n := by
  rw [← castPow]
  have := Nat.pow_le_pow_right (show 0 < 2 by decide) hn1
  omega
 have ho1 := fun w => Lib.hid (of_any h l w a)
 have eq0 : 0 ≤ A h l / 2 ^ n := Int.ediv_nonneg hA.1 (by omega)
 have er0 : 0 ≤ A h l % 2 ^ n := Int.emod_nonneg _ (by omega)
 have er1 : A h l % 2 ^ n < 2 ^ n := Int.emod_lt_of_pos _ (by omega)
 have eq1 : A h l / 2 ^ n * 2 ≤ A h l := by
  have h1 := Int.ediv_mul_le (A h l) (show (2 : Int) ^ n ≠ 0 by omega)
  have h2 := Int.mul_le_mul_of_nonneg_left hev eq0
  omega
 have hround : roundI (V h l) (2 ^ n) = if decide (h < 0) = true then -(if upR (A h l / 2 ^ n) (A h l % 2 ^ n) (2 ^ n) = true then A h l / 2 ^ n + 1 else A h l / 2 ^ n) else (if upR (A h l / 2 ^ n) (A h l % 2 ^ n) (2 ^ n) = true then A h l / 2 ^ n + 1 else A h l / 2 ^ n) := by
  have e1 : absI ((2 : Int) ^ n) = 2 ^ n := by unfold absI; rw [if_neg (by omega)]
  have e2 : decide ((2 : Int) ^ n < 0) = false := by simp; omega
  unfold roundI
  rw [hVn, e1, e2, Bool.bne_false]
  rfl
 obtain ⟨HI, hHI⟩ : ∃ q, A h l / 18446744073709551616 = q := ⟨_, rfl⟩
 obtain ⟨LO, hLO⟩ : ∃ q, A h l % 18446744073709551616 = q := ⟨_, rfl⟩
 have eA : A h l = HI * 18446744073709551616 + LO := by omega
 obtain ⟨k1, k2, k3⟩ := shift_split HI LO n (by omega) (by omega) (by omega) (by omega) hn
 rw [← eA] at k1 k2 k3
 rw [hHI, hLO] at ho1
 have hb0 : 0 ≤ HI := by omega
 have hb1 : HI ≤ 18446744073709551615 := by omega
 have hb2 : 0 ≤ LO := by omega
 have hb3 : LO ≤ 18446744073709551615 := by omega
 obtain ⟨Q, hQ⟩ : ∃ q, A h l / 2 ^ n = q := ⟨_, rfl⟩
 obtain ⟨R, hR⟩ : ∃ q, A h l % 2 ^ n = q := ⟨_, rfl⟩
 obtain ⟨p, hP⟩ : ∃ q, (2 : Int) ^ n = q := ⟨_, rfl⟩
 obtain ⟨Q1, hQ1⟩ : ∃ q, Q / 18446744073709551616 = q := ⟨_, rfl⟩
 obtain ⟨Q2, hQ2⟩ : ∃ q, Q % 18446744073709551616 = q := ⟨_, rfl⟩
 obtain ⟨NG, hNG⟩ : ∃ q, decide (h < 0) = q := ⟨_, rfl⟩
 rw [hQ] at hround k1 k2 eq0 eq1
 rw [hR] at hround k3 er0 er1
 rw [hNG] at hround ho1
 rw [hQ1] at k1
 rw [hQ2] at k2
 have e01 : V 0 1 = 1 := by decide
 have hW01 : WR 0 1 := ⟨by decide, by decide, by decide, by decide⟩
 have hfr : ∀ w, Hid (Calls Tryz.prog 110 #[.int .i64 1] w (RetW w 0 1)) := fun w => Lib.hid (from_any 1 w (by decide) (by decide))
 have hq4 : inR (V 0 1 * 2 ^ n) := by rw [e01, Int.one_mul, hP]; exact ⟨by omega, by omega⟩
 have hn126 : n ≤ 126 := Nat.le_trans hn (by decide)
 have hle := fun w => Lib.hid (left_in 0 1 n w hn126 hW01 hq4)
 rw [e01, Int.one_mul, hP] at hle
 have ep1 : p / 18446744073709551616 = 0 := by omega
 have ep2 : p % 18446744073709551616 = p := by omega
 rw [ep1, ep2] at hle
 have hWp : WR 0 p := ⟨by decide, by decide, by omega, by omega⟩
 have ho2 := fun w => Lib.hid (of_any 0 p w hWp)
 have eAp : A 0 p = p := by unfold A V; rw [if_neg (by omega)]; omega
 rw [eAp, ep1, ep2] at ho2
 have d00 : decide ((0 : Int) < 0) = false := by decide
 rw [d00] at ho2
 have hsub := fun w => Lib.hid (szsub_any 0 p 0 R w (by omega) (by omega) (by omega) (by omega) (by omega) (by omega) (by omega) (by omega))
 have eVp : V 0 p = p := by unfold V; omega
 have eVR : V 0 R = R := by unfold V; omega
 obtain ⟨LV, hLV⟩ : ∃ q, p - R = q := ⟨_, rfl⟩
 have lv0 : 0 ≤ LV := by omega
 have lv1 : LV ≤ 18446744073709551615 := by omega
 have eVL : V 0 LV = LV := by unfold V; omega
 have es1 : LV % 340282366920938463463374607431768211456 / 18446744073709551616 = 0 := by omega
 have es2 : LV % 340282366920938463463374607431768211456 % 18446744073709551616 = LV := by omega
 rw [eVp, eVR, hLV, es1, es2] at hsub
 have hless := fun w => Lib.hid (less_any 0 LV 0 R w lv0 lv1 (by omega) (by omega))
 rw [eVL, eVR] at hless
 have q20 : 0 ≤ Q2 := by omega
 have hnx := fun w => Lib.hid (next_any Q1 Q2 w (by omega) (by omega) (by omega) (by omega))
 have eVQ : V Q1 Q2 = Q := by unfold V; omega
 have em : (Q + 1) % 340282366920938463463374607431768211456 = Q + 1 := by omega
 rw [eVQ, em] at hnx
 have htu := fun w => Lib.hid (told_in NG (Q + 1) w (by omega) (by split <;> omega))
 have htq := fun w => Lib.hid (told_in NG Q w eq0 (by split <;> omega))
 rw [hQ1, hQ2] at htq
 obtain ⟨N1, hN1⟩ : ∃ q, (Q + 1) / 18446744073709551616 = q := ⟨_, rfl⟩
 obtain ⟨N2, hN2⟩ : ∃ q, (Q + 1) % 18446744073709551616 = q := ⟨_, rfl⟩
 rw [hN1, hN2] at hnx htu
 obtain ⟨W0, hW0⟩ : ∃ q, IntKind.u64.wrap (HI * 2 ^ (64 - n)) = q := ⟨_, rfl⟩
 rw [hW0] at k2
 have f1 : HI / 2 ^ n = Q1 := k1.symm
 have f3 : bits BinOp.or IntKind.u64 W0 (LO / 2 ^ n) = Q2 := k2.symm
 have f4 : IntKind.u64.wrap (p - 1) = p - 1 := by rw [wrapU]; omega
 have f5 : bits BinOp.and IntKind.u64 LO (p - 1) = R := by rw [← hP]; exact k3.symm
 have ew4 : RowKit.wrap64 (64 - (n : Int)) = 64 - n := by unfold RowKit.wrap64; omega
 have ew5 : IntKind.i64.wrap (64 - (n : Int)) = 64 - n := by rw [wrapI]; omega
 have hodd : decide (Q % 2 = 1) = decide (Q2 % 2 = 1) := by
  by_cases h0 : Q % 2 = 1
  ·rw [decide_eq_true h0, decide_eq_true (show Q2 % 2 = 1 by omega)]
  ·rw [decide_eq_false h0, decide_eq_false (show ¬ Q2 % 2 = 1 by omega)]
 have hup : upR Q R p = (decide (LV < R) || (decide (LV = R) && decide (Q2 % 2 = 1))) := by unfold upR; rw [hLV, hodd]
 rw [hP] at hround ⊢
 rw [hround, hup]
 clear hround hup hodd hP k1 k2 k3 hQ hR hHI hLO eA hA hVn hNG a hq4 hW01 hWp e01 eAp d00 eVp eVR eVL es1 es2 eVQ em hN1 hN2 eq0 eq1 er1 hQ1 hQ2 hp hp2 hev ep1 ep2 hn126
 have M1 := True.intro
 have M2 := True.intro
 by_cases hA1 : LV < R
 ·rw [decide_eq_true hA1] at hless ⊢
  simp only [Bool.true_or, if_true]
  have htd := htu
  clear htu htq hA1 hLV
  generalize (if NG = true then -(Q + 1) else (Q + 1)) = X at htd ⊢
  generalize X / 18446744073709551616 = XH at htd ⊢
  generalize X % 18446744073709551616 = XL at htd ⊢
  go_enter Tryz.func82, Tryz.ntmps82
  go_upto_region 10 with (first | (go_at_call 110; go_loud (refine (hfr _).out.mono ?_; rintro e w1 ⟨rfl, hb⟩; have HB1 := Lib.hid hb; have hs1 := hb.size; (try simp at hs1); have Xt2_1 := Box2.below (b := w.heap.size) (v0 := .int .i64 h) (v1 := .int .u64 l) (by constructor <;> go_simp) hb (by first | omega | (simp <;> omega)); obtain ⟨c0t2_1, c1t2_1, f0t2_1, f1t2_1⟩ := Xt2_1; have Lt2_1 : w.heap.size < w1.heap.size := (by omega); have Xt4_1 := Box2.below (b := w.heap.size + 1) (v0 := .int .i64 0) (v1 := .int .u64 0) (by constructor <;> go_simp) hb (by first | omega | (simp <;> omega)); obtain ⟨c0t4_1, c1t4_1, f0t4_1, f1t4_1⟩ := Xt4_1; have Lt4_1 : w.heap.size + 1 < w1.heap.size := (by omega); clear hb)) | (go_at_call 109; go_loud (refine (hle _).out.mono ?_; rintro e w2 ⟨rfl, hb⟩; have HB2 := Lib.hid hb; have hs2 := hb.size; (try simp at hs2); have Xt2_2 := Box2.below (b := w.heap.size) (v0 := .int .i64 h) (v1 := .int .u64 l) (by constructor <;> go_simp) hb (by first | omega | (simp <;> omega)); obtain ⟨c0t2_2, c1t2_2, f0t2_2, f1t2_2⟩ := Xt2_2; have Lt2_2 : w.heap.size < w2.heap.size := (by omega); have Xt4_2 := Box2.below (b := w.heap.size + 1) (v0 := .int .i64 0) (v1 := .int .u64 0) (by constructor <;> go_simp) hb (by first | omega | (simp <;> omega)); obtain ⟨c0t4_2, c1t4_2, f0t4_2, f1t4_2⟩ := Xt4_2; have Lt4_2 : w.heap.size + 1 < w2.heap.size := (by omega); clear hb)) | (go_at_call 111; have hmk := M1; clear hmk M1; go_loud (refine (ho1 _).out.mono ?_; rintro e w3 ⟨rfl, hb⟩; have HB3 := Lib.hid hb; have hs3 := hb.size; (try simp at hs3); have Xt4_3 := Box2.below (b := w.heap.size + 1) (v0 := .int .i64 0) (v1 := .int .u64 0) (by constructor <;> go_simp) hb (by first | omega | (simp <;> omega)); obtain ⟨c0t4_3, c1t4_3, f0t4_3, f1t4_3⟩ := Xt4_3; have Lt4_3 : w.heap.size + 1 < w3.heap.size := (by omega); have Xt5_3 := Box2.below (b := w2.heap.size) (v0 := .int .i64 0) (v1 := .int .u64 p) (by constructor <;> go_simp) hb (by first | omega | (simp <;> omega)); obtain ⟨c0t5_3, c1t5_3, f0t5_3, f1t5_3⟩ := Xt5_3; have Lt5_3 : w2.heap.size < w3.heap.size := (by omega); clear hb)) | (go_at_call 111; have hmk := M2; clear hmk M2; go_loud (refine (ho2 _).out.mono ?_; rintro e w4 ⟨rfl, hb⟩; have HB4 := Lib.hid hb; have hs4 := hb.size; (try simp at hs4); have Xt4_4 := Box2.below (b := w.heap.size + 1) (v0 := .int .i64 0) (v1 := .int .u64 0) (by constructor <;> go_simp) hb (by first | omega | (simp <;> omega)); obtain ⟨c0t4_4, c1t4_4, f0t4_4, f1t4_4⟩ := Xt4_4; have Lt4_4 : w.heap.size + 1 < w4.heap.size := (by omega); have Xt8_4 := Box2.below (b := w3.heap.size) (v0 := .int .u64 HI) (v1 := .int .u64 LO) (by constructor <;> go_simp) hb (by first | omega | (simp <;> omega)); obtain ⟨c0t8_4, c1t8_4, f0t8_4, f1t8_4⟩ := Xt8_4; have Lt8_4 : w3.heap.size < w4.heap.size := (by omega); clear hb)))
  obtain ⟨Wb, hWb⟩ : ∃ Wb : World, Wb = ((w4.alloc (.cells #[.int .u64 0, .int .u64 p] 130)).alloc (.cells #[.int .u64 0, .int .u64 0] 130)).alloc (.cells #[.int .u64 0, .int .u64 0] 130) := ⟨_, rfl⟩
  have Yt4 : Box2 Wb (w.heap.size + 1) (.int .i64 0) (.int .u64 0) := by rw [hWb]; exact Box2.below (n := w4.heap.size) ⟨c0t4_4, c1t4_4, f0t4_4, f1t4_4⟩ (by (repeat' (first | exact Below.refl _ _ | refine Below.drew ?_ | refine Below.setCell ?_ (by first | omega | (simp <;> omega)) _ | refine Below.alloc ?_ (by first | omega | (simp <;> omega)) _))) Lt4_4
  have Yt8 : Box2 Wb (w3.heap.size) (.int .u64 HI) (.int .u64 LO) := by rw [hWb]; exact Box2.below (n := w4.heap.size) ⟨c0t8_4, c1t8_4, f0t8_4, f1t8_4⟩ (by (repeat' (first | exact Below.refl _ _ | refine Below.drew ?_ | refine Below.setCell ?_ (by first | omega | (simp <;> omega)) _ | refine Below.alloc ?_ (by first | omega | (simp <;> omega)) _))) Lt8_4
  have Yt10 : Box2 Wb (w4.heap.size) (.int .u64 0) (.int .u64 p) := by rw [hWb]; constructor <;> go_simp
  have Yt11 : Box2 Wb (w4.heap.size + 1) (.int .u64 0) (.int .u64 0) := by rw [hWb]; constructor <;> go_simp
  have Yt12 : Box2 Wb (w4.heap.size + 1 + 1) (.int .u64 0) (.int .u64 0) := by rw [hWb]; constructor <;> go_simp
  have HBb : Hid (Below w4.heap.size w4 Wb) := by rw [hWb]; exact Lib.hid (by (repeat' (first | exact Below.refl _ _ | refine Below.drew ?_ | refine Below.setCell ?_ (by first | omega | (simp <;> omega)) _ | refine Below.alloc ?_ (by first | omega | (simp <;> omega)) _)))
  have hsb : Wb.heap.size = w4.heap.size + 1 + 1 + 1 := by rw [hWb]; simp
  rw [← hWb]
  clear hWb
  clear c0t2_1 c1t2_1 f0t2_1 f1t2_1; clear c0t2_2 c1t2_2 f0t2_2 f1t2_2
  clear c0t4_1 c1t4_1 f0t4_1 f1t4_1; clear c0t4_2 c1t4_2 f0t4_2 f1t4_2
  clear c0t4_3 c1t4_3 f0t4_3 f1t4_3
  clear c0t5_3 c1t5_3 f0t5_3 f1t5_3
  clear c0t4_4 c1t4_4 f0t4_4 f1t4_4
  clear c0t8_4 c1t8_4 f0t8_4 f1t8_4
  obtain ⟨c0t4, c1t4, f0t4, f1t4⟩ := Yt4
  have Lt4 : w.heap.size + 1 < Wb.heap.size := by omega
  obtain ⟨c0t8, c1t8, f0t8, f1t8⟩ := Yt8
  have Lt8 : w3.heap.size < Wb.heap.size := by omega
  obtain ⟨c0t10, c1t10, f0t10, f1t10⟩ := Yt10
  have Lt10 : w4.heap.size < Wb.heap.size := by omega
  obtain ⟨c0t11, c1t11, f0t11, f1t11⟩ := Yt11
  have Lt11 : w4.heap.size + 1 < Wb.heap.size := by omega
  obtain ⟨c0t12, c1t12, f0t12, f1t12⟩ := Yt12
  have Lt12 : w4.heap.size + 1 + 1 < Wb.heap.size := by omega
  go_region
  go_wp2_with (first | (go_at_call 112; go_loud (refine (hsub _).out.mono ?_; rintro e w5 ⟨rfl, hb⟩; have HB5 := Lib.hid hb; have hs5 := hb.size; (try simp at hs5); have Xt4_5 := Box2.below (b := w.heap.size + 1) (v0 := .int .i64 0) (v1 := .int .u64 0) (by constructor <;> go_simp) hb (by first | omega | (simp <;> omega)); obtain ⟨c0t4_5, c1t4_5, f0t4_5, f1t4_5⟩ := Xt4_5; have Lt4_5 : w.heap.size + 1 < w5.heap.size := (by omega); have Xt11_5 := Box2.below (b := w4.heap.size + 1) (v0 := .int .u64 Q1) (v1 := .int .u64 Q2) (by constructor <;> go_simp) hb (by first | omega | (simp <;> omega)); obtain ⟨c0t11_5, c1t11_5, f0t11_5, f1t11_5⟩ := Xt11_5; have Lt11_5 : w4.heap.size + 1 < w5.heap.size := (by omega); have Xt12_5 := Box2.below (b := w4.heap.size + 1 + 1) (v0 := .int .u64 0) (v1 := .int .u64 R) (by constructor <;> go_simp) hb (by first | omega | (simp <;> omega)); obtain ⟨c0t12_5, c1t12_5, f0t12_5, f1t12_5⟩ := Xt12_5; have Lt12_5 : w4.heap.size + 1 + 1 < w5.heap.size := (by omega); clear hb)) | (go_at_call 113; go_loud (refine (hless _).out.mono ?_; rintro e w6 ⟨rfl, hb⟩; have HB6 := Lib.hid hb; have hs6 := hb.size; (try simp at hs6); have Xt4_6 := Box2.below (b := w.heap.size + 1) (v0 := .int .i64 0) (v1 := .int .u64 0) (by constructor <;> go_simp) hb (by first | omega | (simp <;> omega)); obtain ⟨c0t4_6, c1t4_6, f0t4_6, f1t4_6⟩ := Xt4_6; have Lt4_6 : w.heap.size + 1 < w6.heap.size := (by omega); have Xt11_6 := Box2.below (b := w4.heap.size + 1) (v0 := .int .u64 Q1) (v1 := .int .u64 Q2) (by constructor <;> go_simp) hb (by first | omega | (simp <;> omega)); obtain ⟨c0t11_6, c1t11_6, f0t11_6, f1t11_6⟩ := Xt11_6; have Lt11_6 : w4.heap.size + 1 < w6.heap.size := (by omega); have Xt12_6 := Box2.below (b := w4.heap.size + 1 + 1) (v0 := .int .u64 0) (v1 := .int .u64 R) (by constructor <;> go_simp) hb (by first | omega | (simp <;> omega)); obtain ⟨c0t12_6, c1t12_6, f0t12_6, f1t12_6⟩ := Xt12_6; have Lt12_6 : w4.heap.size + 1 + 1 < w6.heap.size := (by omega); have Xt13_6 := Box2.below (b := w5.heap.size) (v0 := .int .u64 0) (v1 := .int .u64 LV) (by constructor <;> go_simp) hb (by first | omega | (simp <;> omega)); obtain ⟨c0t13_6, c1t13_6, f0t13_6, f1t13_6⟩ := Xt13_6; have Lt13_6 : w5.heap.size < w6.heap.size := (by omega); clear hb)) | (go_at_call 114; go_loud (refine (hnx _).out.mono ?_; rintro e w7 ⟨rfl, hb⟩; have HB7 := Lib.hid hb; have hs7 := hb.size; (try simp at hs7); have Xt4_7 := Box2.below (b := w.heap.size + 1) (v0 := .int .i64 0) (v1 := .int .u64 0) (by constructor <;> go_simp) hb (by first | omega | (simp <;> omega)); obtain ⟨c0t4_7, c1t4_7, f0t4_7, f1t4_7⟩ := Xt4_7; have Lt4_7 : w.heap.size + 1 < w7.heap.size := (by omega); have Xt11_7 := Box2.below (b := w4.heap.size + 1) (v0 := .int .u64 Q1) (v1 := .int .u64 Q2) (by constructor <;> go_simp) hb (by first | omega | (simp <;> omega)); obtain ⟨c0t11_7, c1t11_7, f0t11_7, f1t11_7⟩ := Xt11_7; have Lt11_7 : w4.heap.size + 1 < w7.heap.size := (by omega); clear hb)) | (go_at_call 80; go_loud (refine (htd _).out.mono ?_; rintro e w8 ⟨rfl, hb⟩; have HB8 := Lib.hid hb; have hs8 := hb.size; (try simp at hs8); have Xt4_8 := Box2.below (b := w.heap.size + 1) (v0 := .int .i64 0) (v1 := .int .u64 0) (by constructor <;> go_simp) hb (by first | omega | (simp <;> omega)); obtain ⟨c0t4_8, c1t4_8, f0t4_8, f1t4_8⟩ := Xt4_8; have Lt4_8 : w.heap.size + 1 < w8.heap.size := (by omega); clear hb)))
  (try simp only [Exit.noGoto, Exit.inBlock, Exit.then])
  refine bodyPost_ret (v := .agg #[.int .i64 XH, .int .u64 XL]) (by rw [results_c1 rfl]; go_simp) rfl ⟨rfl, ?_⟩
  refine Below.alloc ?_ (by first | omega | (simp <;> omega)) _
  iterate 2 refine Below.setCell ?_ (by first | omega | (simp <;> omega)) _
  exact (Below.trans (by (repeat' (first | exact Below.refl _ _ | refine Below.drew ?_ | refine Below.setCell ?_ (by first | omega | (simp <;> omega)) _ | refine Below.alloc ?_ (by first | omega | (simp <;> omega)) _))) (Below.trans (HB1.out.mono (by first | omega | (simp <;> omega))) (Below.trans (HB2.out.mono (by first | omega | (simp <;> omega))) (Below.trans (by (repeat' (first | exact Below.refl _ _ | refine Below.drew ?_ | refine Below.setCell ?_ (by first | omega | (simp <;> omega)) _ | refine Below.alloc ?_ (by first | omega | (simp <;> omega)) _))) (Below.trans (HB3.out.mono (by first | omega | (simp <;> omega))) (Below.trans (by (repeat' (first | exact Below.refl _ _ | refine Below.drew ?_ | refine Below.setCell ?_ (by first | omega | (simp <;> omega)) _ | refine Below.alloc ?_ (by first | omega | (simp <;> omega)) _))) (Below.trans (HB4.out.mono (by first | omega | (simp <;> omega))) (Below.trans (HBb.out.mono (by first | omega | (simp <;> omega))) (Below.trans (by (repeat' (first | exact Below.refl _ _ | refine Below.drew ?_ | refine Below.setCell ?_ (by first | omega | (simp <;> omega)) _ | refine Below.alloc ?_ (by first | omega | (simp <;> omega)) _))) (Below.trans (HB5.out.mono (by first | omega | (simp <;> omega))) (Below.trans (by (repeat' (first | exact Below.refl _ _ | refine Below.drew ?_ | refine Below.setCell ?_ (by first | omega | (simp <;> omega)) _ | refine Below.alloc ?_ (by first | omega | (simp <;> omega)) _))) (Below.trans (HB6.out.mono (by first | omega | (simp <;> omega))) (Below.trans (HB7.out.mono (by first | omega | (simp <;> omega))) (Below.trans (by (repeat' (first | exact Below.refl _ _ | refine Below.drew ?_ | refine Below.setCell ?_ (by first | omega | (simp <;> omega)) _ | refine Below.alloc ?_ (by first | omega | (simp <;> omega)) _))) (HB8.out.mono (by first | omega | (simp <;> omega)))))))))))))))))
 ·rw [decide_eq_false hA1] at hless ⊢
  by_cases hE : LV = R
  ·by_cases hO : Q2 % 2 = 1
   ·rw [decide_eq_true hE, decide_eq_true hO]
    simp only [Bool.and_true, Bool.or_true, if_true]
    have htd := htu
    have e4 : (Q2 % 2 == 1) = true := by simp; exact hO
    clear htu htq hA1 hLV hO lv0 lv1
    subst hE
    generalize (if NG = true then -(Q + 1) else (Q + 1)) = X at htd ⊢
    generalize X / 18446744073709551616 = XH at htd ⊢
    generalize X % 18446744073709551616 = XL at htd ⊢
    go_enter Tryz.func82, Tryz.ntmps82
    go_upto_region 10 with (first | (go_at_call 110; go_loud (refine (hfr _).out.mono ?_; rintro e w1 ⟨rfl, hb⟩; have HB1 := Lib.hid hb; have hs1 := hb.size; (try simp at hs1); have Xt2_1 := Box2.below (b := w.heap.size) (v0 := .int .i64 h) (v1 := .int .u64 l) (by constructor <;> go_simp) hb (by first | omega | (simp <;> omega)); obtain ⟨c0t2_1, c1t2_1, f0t2_1, f1t2_1⟩ := Xt2_1; have Lt2_1 : w.heap.size < w1.heap.size := (by omega); have Xt4_1 := Box2.below (b := w.heap.size + 1) (v0 := .int .i64 0) (v1 := .int .u64 0) (by constructor <;> go_simp) hb (by first | omega | (simp <;> omega)); obtain ⟨c0t4_1, c1t4_1, f0t4_1, f1t4_1⟩ := Xt4_1; have Lt4_1 : w.heap.size + 1 < w1.heap.size := (by omega); clear hb)) | (go_at_call 109; go_loud (refine (hle _).out.mono ?_; rintro e w2 ⟨rfl, hb⟩; have HB2 := Lib.hid hb; have hs2 := hb.size; (try simp at hs2); have Xt2_2 := Box2.below (b := w.heap.size) (v0 := .int .i64 h) (v1 := .int .u64 l) (by constructor <;> go_simp) hb (by first | omega | (simp <;> omega)); obtain ⟨c0t2_2, c1t2_2, f0t2_2, f1t2_2⟩ := Xt2_2; have Lt2_2 : w.heap.size < w2.heap.size := (by omega); have Xt4_2 := Box2.below (b := w.heap.size + 1) (v0 := .int .i64 0) (v1 := .int .u64 0) (by constructor <;> go_simp) hb (by first | omega | (simp <;> omega)); obtain ⟨c0t4_2, c1t4_2, f0t4_2, f1t4_2⟩ := Xt4_2; have Lt4_2 : w.heap.size + 1 < w2.heap.size := (by omega); clear hb)) | (go_at_call 111; have hmk := M1; clear hmk M1; go_loud (refine (ho1 _).out.mono ?_; rintro e w3 ⟨rfl, hb⟩; have HB3 := Lib.hid hb; have hs3 := hb.size; (try simp at hs3); have Xt4_3 := Box2.below (b := w.heap.size + 1) (v0 := .int .i64 0) (v1 := .int .u64 0) (by constructor <;> go_simp) hb (by first | omega | (simp <;> omega)); obtain ⟨c0t4_3, c1t4_3, f0t4_3, f1t4_3⟩ := Xt4_3; have Lt4_3 : w.heap.size + 1 < w3.heap.size := (by omega); have Xt5_3 := Box2.below (b := w2.heap.size) (v0 := .int .i64 0) (v1 := .int .u64 p) (by constructor <;> go_simp) hb (by first | omega | (simp <;> omega)); obtain ⟨c0t5_3, c1t5_3, f0t5_3, f1t5_3⟩ := Xt5_3; have Lt5_3 : w2.heap.size < w3.heap.size := (by omega); clear hb)) | (go_at_call 111; have hmk := M2; clear hmk M2; go_loud (refine (ho2 _).out.mono ?_; rintro e w4 ⟨rfl, hb⟩; have HB4 := Lib.hid hb; have hs4 := hb.size; (try simp at hs4); have Xt4_4 := Box2.below (b := w.heap.size + 1) (v0 := .int .i64 0) (v1 := .int .u64 0) (by constructor <;> go_simp) hb (by first | omega | (simp <;> omega)); obtain ⟨c0t4_4, c1t4_4, f0t4_4, f1t4_4⟩ := Xt4_4; have Lt4_4 : w.heap.size + 1 < w4.heap.size := (by omega); have Xt8_4 := Box2.below (b := w3.heap.size) (v0 := .int .u64 HI) (v1 := .int .u64 LO) (by constructor <;> go_simp) hb (by first | omega | (simp <;> omega)); obtain ⟨c0t8_4, c1t8_4, f0t8_4, f1t8_4⟩ := Xt8_4; have Lt8_4 : w3.heap.size < w4.heap.size := (by omega); clear hb)))
    obtain ⟨Wb, hWb⟩ : ∃ Wb : World, Wb = ((w4.alloc (.cells #[.int .u64 0, .int .u64 p] 130)).alloc (.cells #[.int .u64 0, .int .u64 0] 130)).alloc (.cells #[.int .u64 0, .int .u64 0] 130) := ⟨_, rfl⟩
    have Yt4 : Box2 Wb (w.heap.size + 1) (.int .i64 0) (.int .u64 0) := by rw [hWb]; exact Box2.below (n := w4.heap.size) ⟨c0t4_4, c1t4_4, f0t4_4, f1t4_4⟩ (by (repeat' (first | exact Below.refl _ _ | refine Below.drew ?_ | refine Below.setCell ?_ (by first | omega | (simp <;> omega)) _ | refine Below.alloc ?_ (by first | omega | (simp <;> omega)) _))) Lt4_4
    have Yt8 : Box2 Wb (w3.heap.size) (.int .u64 HI) (.int .u64 LO) := by rw [hWb]; exact Box2.below (n := w4.heap.size) ⟨c0t8_4, c1t8_4, f0t8_4, f1t8_4⟩ (by (repeat' (first | exact Below.refl _ _ | refine Below.drew ?_ | refine Below.setCell ?_ (by first | omega | (simp <;> omega)) _ | refine Below.alloc ?_ (by first | omega | (simp <;> omega)) _))) Lt8_4
    have Yt10 : Box2 Wb (w4.heap.size) (.int .u64 0) (.int .u64 p) := by rw [hWb]; constructor <;> go_simp
    have Yt11 : Box2 Wb (w4.heap.size + 1) (.int .u64 0) (.int .u64 0) := by rw [hWb]; constructor <;> go_simp
    have Yt12 : Box2 Wb (w4.heap.size + 1 + 1) (.int .u64 0) (.int .u64 0) := by rw [hWb]; constructor <;> go_simp
    have HBb : Hid (Below w4.heap.size w4 Wb) := by rw [hWb]; exact Lib.hid (by (repeat' (first | exact Below.refl _ _ | refine Below.drew ?_ | refine Below.setCell ?_ (by first | omega | (simp <;> omega)) _ | refine Below.alloc ?_ (by first | omega | (simp <;> omega)) _)))
    have hsb : Wb.heap.size = w4.heap.size + 1 + 1 + 1 := by rw [hWb]; simp
    rw [← hWb]
    clear hWb
    clear c0t2_1 c1t2_1 f0t2_1 f1t2_1; clear c0t2_2 c1t2_2 f0t2_2 f1t2_2
    clear c0t4_1 c1t4_1 f0t4_1 f1t4_1; clear c0t4_2 c1t4_2 f0t4_2 f1t4_2
    clear c0t4_3 c1t4_3 f0t4_3 f1t4_3
    clear c0t5_3 c1t5_3 f0t5_3 f1t5_3
    clear c0t4_4 c1t4_4 f0t4_4 f1t4_4
    clear c0t8_4 c1t8_4 f0t8_4 f1t8_4
    obtain ⟨c0t4, c1t4, f0t4, f1t4⟩ := Yt4
    have Lt4 : w.heap.size + 1 < Wb.heap.size := by omega
    obtain ⟨c0t8, c1t8, f0t8, f1t8⟩ := Yt8
    have Lt8 : w3.heap.size < Wb.heap.size := by omega
    obtain ⟨c0t10, c1t10, f0t10, f1t10⟩ := Yt10
    have Lt10 : w4.heap.size < Wb.heap.size := by omega
    obtain ⟨c0t11, c1t11, f0t11, f1t11⟩ := Yt11
    have Lt11 : w4.heap.size + 1 < Wb.heap.size := by omega
    obtain ⟨c0t12, c1t12, f0t12, f1t12⟩ := Yt12
    have Lt12 : w4.heap.size + 1 + 1 < Wb.heap.size := by omega
    go_region
    go_wp2_with (first | (go_at_call 112; go_loud (refine (hsub _).out.mono ?_; rintro e w5 ⟨rfl, hb⟩; have HB5 := Lib.hid hb; have hs5 := hb.size; (try simp at hs5); have Xt4_5 := Box2.below (b := w.heap.size + 1) (v0 := .int .i64 0) (v1 := .int .u64 0) (by constructor <;> go_simp) hb (by first | omega | (simp <;> omega)); obtain ⟨c0t4_5, c1t4_5, f0t4_5, f1t4_5⟩ := Xt4_5; have Lt4_5 : w.heap.size + 1 < w5.heap.size := (by omega); have Xt11_5 := Box2.below (b := w4.heap.size + 1) (v0 := .int .u64 Q1) (v1 := .int .u64 Q2) (by constructor <;> go_simp) hb (by first | omega | (simp <;> omega)); obtain ⟨c0t11_5, c1t11_5, f0t11_5, f1t11_5⟩ := Xt11_5; have Lt11_5 : w4.heap.size + 1 < w5.heap.size := (by omega); have Xt12_5 := Box2.below (b := w4.heap.size + 1 + 1) (v0 := .int .u64 0) (v1 := .int .u64 LV) (by constructor <;> go_simp) hb (by first | omega | (simp <;> omega)); obtain ⟨c0t12_5, c1t12_5, f0t12_5, f1t12_5⟩ := Xt12_5; have Lt12_5 : w4.heap.size + 1 + 1 < w5.heap.size := (by omega); clear hb)) | (go_at_call 113; go_loud (refine (hless _).out.mono ?_; rintro e w6 ⟨rfl, hb⟩; have HB6 := Lib.hid hb; have hs6 := hb.size; (try simp at hs6); have Xt4_6 := Box2.below (b := w.heap.size + 1) (v0 := .int .i64 0) (v1 := .int .u64 0) (by constructor <;> go_simp) hb (by first | omega | (simp <;> omega)); obtain ⟨c0t4_6, c1t4_6, f0t4_6, f1t4_6⟩ := Xt4_6; have Lt4_6 : w.heap.size + 1 < w6.heap.size := (by omega); have Xt11_6 := Box2.below (b := w4.heap.size + 1) (v0 := .int .u64 Q1) (v1 := .int .u64 Q2) (by constructor <;> go_simp) hb (by first | omega | (simp <;> omega)); obtain ⟨c0t11_6, c1t11_6, f0t11_6, f1t11_6⟩ := Xt11_6; have Lt11_6 : w4.heap.size + 1 < w6.heap.size := (by omega); have Xt12_6 := Box2.below (b := w4.heap.size + 1 + 1) (v0 := .int .u64 0) (v1 := .int .u64 LV) (by constructor <;> go_simp) hb (by first | omega | (simp <;> omega)); obtain ⟨c0t12_6, c1t12_6, f0t12_6, f1t12_6⟩ := Xt12_6; have Lt12_6 : w4.heap.size + 1 + 1 < w6.heap.size := (by omega); have Xt13_6 := Box2.below (b := w5.heap.size) (v0 := .int .u64 0) (v1 := .int .u64 LV) (by constructor <;> go_simp) hb (by first | omega | (simp <;> omega)); obtain ⟨c0t13_6, c1t13_6, f0t13_6, f1t13_6⟩ := Xt13_6; have Lt13_6 : w5.heap.size < w6.heap.size := (by omega); clear hb)) | (go_at_call 114; go_loud (refine (hnx _).out.mono ?_; rintro e w7 ⟨rfl, hb⟩; have HB7 := Lib.hid hb; have hs7 := hb.size; (try simp at hs7); have Xt4_7 := Box2.below (b := w.heap.size + 1) (v0 := .int .i64 0) (v1 := .int .u64 0) (by constructor <;> go_simp) hb (by first | omega | (simp <;> omega)); obtain ⟨c0t4_7, c1t4_7, f0t4_7, f1t4_7⟩ := Xt4_7; have Lt4_7 : w.heap.size + 1 < w7.heap.size := (by omega); have Xt11_7 := Box2.below (b := w4.heap.size + 1) (v0 := .int .u64 Q1) (v1 := .int .u64 Q2) (by constructor <;> go_simp) hb (by first | omega | (simp <;> omega)); obtain ⟨c0t11_7, c1t11_7, f0t11_7, f1t11_7⟩ := Xt11_7; have Lt11_7 : w4.heap.size + 1 < w7.heap.size := (by omega); clear hb)) | (go_at_call 80; go_loud (refine (htd _).out.mono ?_; rintro e w8 ⟨rfl, hb⟩; have HB8 := Lib.hid hb; have hs8 := hb.size; (try simp at hs8); have Xt4_8 := Box2.below (b := w.heap.size + 1) (v0 := .int .i64 0) (v1 := .int .u64 0) (by constructor <;> go_simp) hb (by first | omega | (simp <;> omega)); obtain ⟨c0t4_8, c1t4_8, f0t4_8, f1t4_8⟩ := Xt4_8; have Lt4_8 : w.heap.size + 1 < w8.heap.size := (by omega); clear hb)))
    (try simp only [Exit.noGoto, Exit.inBlock, Exit.then])
    refine bodyPost_ret (v := .agg #[.int .i64 XH, .int .u64 XL]) (by rw [results_c1 rfl]; go_simp) rfl ⟨rfl, ?_⟩
    refine Below.alloc ?_ (by first | omega | (simp <;> omega)) _
    iterate 2 refine Below.setCell ?_ (by first | omega | (simp <;> omega)) _
    exact (Below.trans (by (repeat' (first | exact Below.refl _ _ | refine Below.drew ?_ | refine Below.setCell ?_ (by first | omega | (simp <;> omega)) _ | refine Below.alloc ?_ (by first | omega | (simp <;> omega)) _))) (Below.trans (HB1.out.mono (by first | omega | (simp <;> omega))) (Below.trans (HB2.out.mono (by first | omega | (simp <;> omega))) (Below.trans (by (repeat' (first | exact Below.refl _ _ | refine Below.drew ?_ | refine Below.setCell ?_ (by first | omega | (simp <;> omega)) _ | refine Below.alloc ?_ (by first | omega | (simp <;> omega)) _))) (Below.trans (HB3.out.mono (by first | omega | (simp <;> omega))) (Below.trans (by (repeat' (first | exact Below.refl _ _ | refine Below.drew ?_ | refine Below.setCell ?_ (by first | omega | (simp <;> omega)) _ | refine Below.alloc ?_ (by first | omega | (simp <;> omega)) _))) (Below.trans (HB4.out.mono (by first | omega | (simp <;> omega))) (Below.trans (HBb.out.mono (by first | omega | (simp <;> omega))) (Below.trans (by (repeat' (first | exact Below.refl _ _ | refine Below.drew ?_ | refine Below.setCell ?_ (by first | omega | (simp <;> omega)) _ | refine Below.alloc ?_ (by first | omega | (simp <;> omega)) _))) (Below.trans (HB5.out.mono (by first | omega | (simp <;> omega))) (Below.trans (by (repeat' (first | exact Below.refl _ _ | refine Below.drew ?_ | refine Below.setCell ?_ (by first | omega | (simp <;> omega)) _ | refine Below.alloc ?_ (by first | omega | (simp <;> omega)) _))) (Below.trans (HB6.out.mono (by first | omega | (simp <;> omega))) (Below.trans (HB7.out.mono (by first | omega | (simp <;> omega))) (Below.trans (by (repeat' (first | exact Below.refl _ _ | refine Below.drew ?_ | refine Below.setCell ?_ (by first | omega | (simp <;> omega)) _ | refine Below.alloc ?_ (by first | omega | (simp <;> omega)) _))) (HB8.out.mono (by first | omega | (simp <;> omega)))))))))))))))))
   ·rw [decide_eq_true hE, decide_eq_false hO]
    simp only [Bool.and_false, Bool.or_false, Bool.false_eq_true, if_false]
    have htd := htq
    have e4 : (Q2 % 2 == 1) = false := by simp; omega
    clear htu htq hA1 hLV hO lv0 lv1
    subst hE
    generalize (if NG = true then -Q else Q) = X at htd ⊢
    generalize X / 18446744073709551616 = XH at htd ⊢
    generalize X % 18446744073709551616 = XL at htd ⊢
    go_enter Tryz.func82, Tryz.ntmps82
    go_upto_region 10 with (first | (go_at_call 110; go_loud (refine (hfr _).out.mono ?_; rintro e w1 ⟨rfl, hb⟩; have HB1 := Lib.hid hb; have hs1 := hb.size; (try simp at hs1); have Xt2_1 := Box2.below (b := w.heap.size) (v0 := .int .i64 h) (v1 := .int .u64 l) (by constructor <;> go_simp) hb (by first | omega | (simp <;> omega)); obtain ⟨c0t2_1, c1t2_1, f0t2_1, f1t2_1⟩ := Xt2_1; have Lt2_1 : w.heap.size < w1.heap.size := (by omega); have Xt4_1 := Box2.below (b := w.heap.size + 1) (v0 := .int .i64 0) (v1 := .int .u64 0) (by constructor <;> go_simp) hb (by first | omega | (simp <;> omega)); obtain ⟨c0t4_1, c1t4_1, f0t4_1, f1t4_1⟩ := Xt4_1; have Lt4_1 : w.heap.size + 1 < w1.heap.size := (by omega); clear hb)) | (go_at_call 109; go_loud (refine (hle _).out.mono ?_; rintro e w2 ⟨rfl, hb⟩; have HB2 := Lib.hid hb; have hs2 := hb.size; (try simp at hs2); have Xt2_2 := Box2.below (b := w.heap.size) (v0 := .int .i64 h) (v1 := .int .u64 l) (by constructor <;> go_simp) hb (by first | omega | (simp <;> omega)); obtain ⟨c0t2_2, c1t2_2, f0t2_2, f1t2_2⟩ := Xt2_2; have Lt2_2 : w.heap.size < w2.heap.size := (by omega); have Xt4_2 := Box2.below (b := w.heap.size + 1) (v0 := .int .i64 0) (v1 := .int .u64 0) (by constructor <;> go_simp) hb (by first | omega | (simp <;> omega)); obtain ⟨c0t4_2, c1t4_2, f0t4_2, f1t4_2⟩ := Xt4_2; have Lt4_2 : w.heap.size + 1 < w2.heap.size := (by omega); clear hb)) | (go_at_call 111; have hmk := M1; clear hmk M1; go_loud (refine (ho1 _).out.mono ?_; rintro e w3 ⟨rfl, hb⟩; have HB3 := Lib.hid hb; have hs3 := hb.size; (try simp at hs3); have Xt4_3 := Box2.below (b := w.heap.size + 1) (v0 := .int .i64 0) (v1 := .int .u64 0) (by constructor <;> go_simp) hb (by first | omega | (simp <;> omega)); obtain ⟨c0t4_3, c1t4_3, f0t4_3, f1t4_3⟩ := Xt4_3; have Lt4_3 : w.heap.size + 1 < w3.heap.size := (by omega); have Xt5_3 := Box2.below (b := w2.heap.size) (v0 := .int .i64 0) (v1 := .int .u64 p) (by constructor <;> go_simp) hb (by first | omega | (simp <;> omega)); obtain ⟨c0t5_3, c1t5_3, f0t5_3, f1t5_3⟩ := Xt5_3; have Lt5_3 : w2.heap.size < w3.heap.size := (by omega); clear hb)) | (go_at_call 111; have hmk := M2; clear hmk M2; go_loud (refine (ho2 _).out.mono ?_; rintro e w4 ⟨rfl, hb⟩; have HB4 := Lib.hid hb; have hs4 := hb.size; (try simp at hs4); have Xt4_4 := Box2.below (b := w.heap.size + 1) (v0 := .int .i64 0) (v1 := .int .u64 0) (by constructor <;> go_simp) hb (by first | omega | (simp <;> omega)); obtain ⟨c0t4_4, c1t4_4, f0t4_4, f1t4_4⟩ := Xt4_4; have Lt4_4 : w.heap.size + 1 < w4.heap.size := (by omega); have Xt8_4 := Box2.below (b := w3.heap.size) (v0 := .int .u64 HI) (v1 := .int .u64 LO) (by constructor <;> go_simp) hb (by first | omega | (simp <;> omega)); obtain ⟨c0t8_4, c1t8_4, f0t8_4, f1t8_4⟩ := Xt8_4; have Lt8_4 : w3.heap.size < w4.heap.size := (by omega); clear hb)))
    obtain ⟨Wb, hWb⟩ : ∃ Wb : World, Wb = ((w4.alloc (.cells #[.int .u64 0, .int .u64 p] 130)).alloc (.cells #[.int .u64 0, .int .u64 0] 130)).alloc (.cells #[.int .u64 0, .int .u64 0] 130) := ⟨_, rfl⟩
    have Yt4 : Box2 Wb (w.heap.size + 1) (.int .i64 0) (.int .u64 0) := by rw [hWb]; exact Box2.below (n := w4.heap.size) ⟨c0t4_4, c1t4_4, f0t4_4, f1t4_4⟩ (by (repeat' (first | exact Below.refl _ _ | refine Below.drew ?_ | refine Below.setCell ?_ (by first | omega | (simp <;> omega)) _ | refine Below.alloc ?_ (by first | omega | (simp <;> omega)) _))) Lt4_4
    have Yt8 : Box2 Wb (w3.heap.size) (.int .u64 HI) (.int .u64 LO) := by rw [hWb]; exact Box2.below (n := w4.heap.size) ⟨c0t8_4, c1t8_4, f0t8_4, f1t8_4⟩ (by (repeat' (first | exact Below.refl _ _ | refine Below.drew ?_ | refine Below.setCell ?_ (by first | omega | (simp <;> omega)) _ | refine Below.alloc ?_ (by first | omega | (simp <;> omega)) _))) Lt8_4
    have Yt10 : Box2 Wb (w4.heap.size) (.int .u64 0) (.int .u64 p) := by rw [hWb]; constructor <;> go_simp
    have Yt11 : Box2 Wb (w4.heap.size + 1) (.int .u64 0) (.int .u64 0) := by rw [hWb]; constructor <;> go_simp
    have Yt12 : Box2 Wb (w4.heap.size + 1 + 1) (.int .u64 0) (.int .u64 0) := by rw [hWb]; constructor <;> go_simp
    have HBb : Hid (Below w4.heap.size w4 Wb) := by rw [hWb]; exact Lib.hid (by (repeat' (first | exact Below.refl _ _ | refine Below.drew ?_ | refine Below.setCell ?_ (by first | omega | (simp <;> omega)) _ | refine Below.alloc ?_ (by first | omega | (simp <;> omega)) _)))
    have hsb : Wb.heap.size = w4.heap.size + 1 + 1 + 1 := by rw [hWb]; simp
    rw [← hWb]
    clear hWb
    clear c0t2_1 c1t2_1 f0t2_1 f1t2_1; clear c0t2_2 c1t2_2 f0t2_2 f1t2_2
    clear c0t4_1 c1t4_1 f0t4_1 f1t4_1; clear c0t4_2 c1t4_2 f0t4_2 f1t4_2
    clear c0t4_3 c1t4_3 f0t4_3 f1t4_3
    clear c0t5_3 c1t5_3 f0t5_3 f1t5_3
    clear c0t4_4 c1t4_4 f0t4_4 f1t4_4
    clear c0t8_4 c1t8_4 f0t8_4 f1t8_4
    obtain ⟨c0t4, c1t4, f0t4, f1t4⟩ := Yt4
    have Lt4 : w.heap.size + 1 < Wb.heap.size := by omega
    obtain ⟨c0t8, c1t8, f0t8, f1t8⟩ := Yt8
    have Lt8 : w3.heap.size < Wb.heap.size := by omega
    obtain ⟨c0t10, c1t10, f0t10, f1t10⟩ := Yt10
    have Lt10 : w4.heap.size < Wb.heap.size := by omega
    obtain ⟨c0t11, c1t11, f0t11, f1t11⟩ := Yt11
    have Lt11 : w4.heap.size + 1 < Wb.heap.size := by omega
    obtain ⟨c0t12, c1t12, f0t12, f1t12⟩ := Yt12
    have Lt12 : w4.heap.size + 1 + 1 < Wb.heap.size := by omega
    go_region
    go_wp2_with (first | (go_at_call 112; go_loud (refine (hsub _).out.mono ?_; rintro e w5 ⟨rfl, hb⟩; have HB5 := Lib.hid hb; have hs5 := hb.size; (try simp at hs5); have Xt4_5 := Box2.below (b := w.heap.size + 1) (v0 := .int .i64 0) (v1 := .int .u64 0) (by constructor <;> go_simp) hb (by first | omega | (simp <;> omega)); obtain ⟨c0t4_5, c1t4_5, f0t4_5, f1t4_5⟩ := Xt4_5; have Lt4_5 : w.heap.size + 1 < w5.heap.size := (by omega); have Xt11_5 := Box2.below (b := w4.heap.size + 1) (v0 := .int .u64 Q1) (v1 := .int .u64 Q2) (by constructor <;> go_simp) hb (by first | omega | (simp <;> omega)); obtain ⟨c0t11_5, c1t11_5, f0t11_5, f1t11_5⟩ := Xt11_5; have Lt11_5 : w4.heap.size + 1 < w5.heap.size := (by omega); have Xt12_5 := Box2.below (b := w4.heap.size + 1 + 1) (v0 := .int .u64 0) (v1 := .int .u64 LV) (by constructor <;> go_simp) hb (by first | omega | (simp <;> omega)); obtain ⟨c0t12_5, c1t12_5, f0t12_5, f1t12_5⟩ := Xt12_5; have Lt12_5 : w4.heap.size + 1 + 1 < w5.heap.size := (by omega); clear hb)) | (go_at_call 113; go_loud (refine (hless _).out.mono ?_; rintro e w6 ⟨rfl, hb⟩; have HB6 := Lib.hid hb; have hs6 := hb.size; (try simp at hs6); have Xt4_6 := Box2.below (b := w.heap.size + 1) (v0 := .int .i64 0) (v1 := .int .u64 0) (by constructor <;> go_simp) hb (by first | omega | (simp <;> omega)); obtain ⟨c0t4_6, c1t4_6, f0t4_6, f1t4_6⟩ := Xt4_6; have Lt4_6 : w.heap.size + 1 < w6.heap.size := (by omega); have Xt11_6 := Box2.below (b := w4.heap.size + 1) (v0 := .int .u64 Q1) (v1 := .int .u64 Q2) (by constructor <;> go_simp) hb (by first | omega | (simp <;> omega)); obtain ⟨c0t11_6, c1t11_6, f0t11_6, f1t11_6⟩ := Xt11_6; have Lt11_6 : w4.heap.size + 1 < w6.heap.size := (by omega); have Xt12_6 := Box2.below (b := w4.heap.size + 1 + 1) (v0 := .int .u64 0) (v1 := .int .u64 LV) (by constructor <;> go_simp) hb (by first | omega | (simp <;> omega)); obtain ⟨c0t12_6, c1t12_6, f0t12_6, f1t12_6⟩ := Xt12_6; have Lt12_6 : w4.heap.size + 1 + 1 < w6.heap.size := (by omega); have Xt13_6 := Box2.below (b := w5.heap.size) (v0 := .int .u64 0) (v1 := .int .u64 LV) (by constructor <;> go_simp) hb (by first | omega | (simp <;> omega)); obtain ⟨c0t13_6, c1t13_6, f0t13_6, f1t13_6⟩ := Xt13_6; have Lt13_6 : w5.heap.size < w6.heap.size := (by omega); clear hb)) | (go_at_call 114; go_loud (refine (hnx _).out.mono ?_; rintro e w7 ⟨rfl, hb⟩; have HB7 := Lib.hid hb; have hs7 := hb.size; (try simp at hs7); have Xt4_7 := Box2.below (b := w.heap.size + 1) (v0 := .int .i64 0) (v1 := .int .u64 0) (by constructor <;> go_simp) hb (by first | omega | (simp <;> omega)); obtain ⟨c0t4_7, c1t4_7, f0t4_7, f1t4_7⟩ := Xt4_7; have Lt4_7 : w.heap.size + 1 < w7.heap.size := (by omega); have Xt11_7 := Box2.below (b := w4.heap.size + 1) (v0 := .int .u64 Q1) (v1 := .int .u64 Q2) (by constructor <;> go_simp) hb (by first | omega | (simp <;> omega)); obtain ⟨c0t11_7, c1t11_7, f0t11_7, f1t11_7⟩ := Xt11_7; have Lt11_7 : w4.heap.size + 1 < w7.heap.size := (by omega); clear hb)) | (go_at_call 80; go_loud (refine (htd _).out.mono ?_; rintro e w8 ⟨rfl, hb⟩; have HB8 := Lib.hid hb; have hs8 := hb.size; (try simp at hs8); have Xt4_8 := Box2.below (b := w.heap.size + 1) (v0 := .int .i64 0) (v1 := .int .u64 0) (by constructor <;> go_simp) hb (by first | omega | (simp <;> omega)); obtain ⟨c0t4_8, c1t4_8, f0t4_8, f1t4_8⟩ := Xt4_8; have Lt4_8 : w.heap.size + 1 < w8.heap.size := (by omega); clear hb)))
    (try simp only [Exit.noGoto, Exit.inBlock, Exit.then])
    refine bodyPost_ret (v := .agg #[.int .i64 XH, .int .u64 XL]) (by rw [results_c1 rfl]; go_simp) rfl ⟨rfl, ?_⟩
    refine Below.alloc ?_ (by first | omega | (simp <;> omega)) _
    iterate 2 refine Below.setCell ?_ (by first | omega | (simp <;> omega)) _
    exact (Below.trans (by (repeat' (first | exact Below.refl _ _ | refine Below.drew ?_ | refine Below.setCell ?_ (by first | omega | (simp <;> omega)) _ | refine Below.alloc ?_ (by first | omega | (simp <;> omega)) _))) (Below.trans (HB1.out.mono (by first | omega | (simp <;> omega))) (Below.trans (HB2.out.mono (by first | omega | (simp <;> omega))) (Below.trans (by (repeat' (first | exact Below.refl _ _ | refine Below.drew ?_ | refine Below.setCell ?_ (by first | omega | (simp <;> omega)) _ | refine Below.alloc ?_ (by first | omega | (simp <;> omega)) _))) (Below.trans (HB3.out.mono (by first | omega | (simp <;> omega))) (Below.trans (by (repeat' (first | exact Below.refl _ _ | refine Below.drew ?_ | refine Below.setCell ?_ (by first | omega | (simp <;> omega)) _ | refine Below.alloc ?_ (by first | omega | (simp <;> omega)) _))) (Below.trans (HB4.out.mono (by first | omega | (simp <;> omega))) (Below.trans (HBb.out.mono (by first | omega | (simp <;> omega))) (Below.trans (by (repeat' (first | exact Below.refl _ _ | refine Below.drew ?_ | refine Below.setCell ?_ (by first | omega | (simp <;> omega)) _ | refine Below.alloc ?_ (by first | omega | (simp <;> omega)) _))) (Below.trans (HB5.out.mono (by first | omega | (simp <;> omega))) (Below.trans (by (repeat' (first | exact Below.refl _ _ | refine Below.drew ?_ | refine Below.setCell ?_ (by first | omega | (simp <;> omega)) _ | refine Below.alloc ?_ (by first | omega | (simp <;> omega)) _))) (Below.trans (HB6.out.mono (by first | omega | (simp <;> omega))) (HB8.out.mono (by first | omega | (simp <;> omega)))))))))))))))
  ·rw [decide_eq_false hE]
   simp only [Bool.false_and, Bool.or_false, Bool.false_eq_true, if_false]
   have htd := htq
   have e3 : (LV == R) = false := by simp; exact hE
   clear htu htq hA1 hLV hE lv0 lv1
   generalize (if NG = true then -Q else Q) = X at htd ⊢
   generalize X / 18446744073709551616 = XH at htd ⊢
   generalize X % 18446744073709551616 = XL at htd ⊢
   go_enter Tryz.func82, Tryz.ntmps82
   go_upto_region 10 with (first | (go_at_call 110; go_loud (refine (hfr _).out.mono ?_; rintro e w1 ⟨rfl, hb⟩; have HB1 := Lib.hid hb; have hs1 := hb.size; (try simp at hs1); have Xt2_1 := Box2.below (b := w.heap.size) (v0 := .int .i64 h) (v1 := .int .u64 l) (by constructor <;> go_simp) hb (by first | omega | (simp <;> omega)); obtain ⟨c0t2_1, c1t2_1, f0t2_1, f1t2_1⟩ := Xt2_1; have Lt2_1 : w.heap.size < w1.heap.size := (by omega); have Xt4_1 := Box2.below (b := w.heap.size + 1) (v0 := .int .i64 0) (v1 := .int .u64 0) (by constructor <;> go_simp) hb (by first | omega | (simp <;> omega)); obtain ⟨c0t4_1, c1t4_1, f0t4_1, f1t4_1⟩ := Xt4_1; have Lt4_1 : w.heap.size + 1 < w1.heap.size := (by omega); clear hb)) | (go_at_call 109; go_loud (refine (hle _).out.mono ?_; rintro e w2 ⟨rfl, hb⟩; have HB2 := Lib.hid hb; have hs2 := hb.size; (try simp at hs2); have Xt2_2 := Box2.below (b := w.heap.size) (v0 := .int .i64 h) (v1 := .int .u64 l) (by constructor <;> go_simp) hb (by first | omega | (simp <;> omega)); obtain ⟨c0t2_2, c1t2_2, f0t2_2, f1t2_2⟩ := Xt2_2; have Lt2_2 : w.heap.size < w2.heap.size := (by omega); have Xt4_2 := Box2.below (b := w.heap.size + 1) (v0 := .int .i64 0) (v1 := .int .u64 0) (by constructor <;> go_simp) hb (by first | omega | (simp <;> omega)); obtain ⟨c0t4_2, c1t4_2, f0t4_2, f1t4_2⟩ := Xt4_2; have Lt4_2 : w.heap.size + 1 < w2.heap.size := (by omega); clear hb)) | (go_at_call 111; have hmk := M1; clear hmk M1; go_loud (refine (ho1 _).out.mono ?_; rintro e w3 ⟨rfl, hb⟩; have HB3 := Lib.hid hb; have hs3 := hb.size; (try simp at hs3); have Xt4_3 := Box2.below (b := w.heap.size + 1) (v0 := .int .i64 0) (v1 := .int .u64 0) (by constructor <;> go_simp) hb (by first | omega | (simp <;> omega)); obtain ⟨c0t4_3, c1t4_3, f0t4_3, f1t4_3⟩ := Xt4_3; have Lt4_3 : w.heap.size + 1 < w3.heap.size := (by omega); have Xt5_3 := Box2.below (b := w2.heap.size) (v0 := .int .i64 0) (v1 := .int .u64 p) (by constructor <;> go_simp) hb (by first | omega | (simp <;> omega)); obtain ⟨c0t5_3, c1t5_3, f0t5_3, f1t5_3⟩ := Xt5_3; have Lt5_3 : w2.heap.size < w3.heap.size := (by omega); clear hb)) | (go_at_call 111; have hmk := M2; clear hmk M2; go_loud (refine (ho2 _).out.mono ?_; rintro e w4 ⟨rfl, hb⟩; have HB4 := Lib.hid hb; have hs4 := hb.size; (try simp at hs4); have Xt4_4 := Box2.below (b := w.heap.size + 1) (v0 := .int .i64 0) (v1 := .int .u64 0) (by constructor <;> go_simp) hb (by first | omega | (simp <;> omega)); obtain ⟨c0t4_4, c1t4_4, f0t4_4, f1t4_4⟩ := Xt4_4; have Lt4_4 : w.heap.size + 1 < w4.heap.size := (by omega); have Xt8_4 := Box2.below (b := w3.heap.size) (v0 := .int .u64 HI) (v1 := .int .u64 LO) (by constructor <;> go_simp) hb (by first | omega | (simp <;> omega)); obtain ⟨c0t8_4, c1t8_4, f0t8_4, f1t8_4⟩ := Xt8_4; have Lt8_4 : w3.heap.size < w4.heap.size := (by omega); clear hb)))
   obtain ⟨Wb, hWb⟩ : ∃ Wb : World, Wb = ((w4.alloc (.cells #[.int .u64 0, .int .u64 p] 130)).alloc (.cells #[.int .u64 0, .int .u64 0] 130)).alloc (.cells #[.int .u64 0, .int .u64 0] 130) := ⟨_, rfl⟩
   have Yt4 : Box2 Wb (w.heap.size + 1) (.int .i64 0) (.int .u64 0) := by rw [hWb]; exact Box2.below (n := w4.heap.size) ⟨c0t4_4, c1t4_4, f0t4_4, f1t4_4⟩ (by (repeat' (first | exact Below.refl _ _ | refine Below.drew ?_ | refine Below.setCell ?_ (by first | omega | (simp <;> omega)) _ | refine Below.alloc ?_ (by first | omega | (simp <;> omega)) _))) Lt4_4
   have Yt8 : Box2 Wb (w3.heap.size) (.int .u64 HI) (.int .u64 LO) := by rw [hWb]; exact Box2.below (n := w4.heap.size) ⟨c0t8_4, c1t8_4, f0t8_4, f1t8_4⟩ (by (repeat' (first | exact Below.refl _ _ | refine Below.drew ?_ | refine Below.setCell ?_ (by first | omega | (simp <;> omega)) _ | refine Below.alloc ?_ (by first | omega | (simp <;> omega)) _))) Lt8_4
   have Yt10 : Box2 Wb (w4.heap.size) (.int .u64 0) (.int .u64 p) := by rw [hWb]; constructor <;> go_simp
   have Yt11 : Box2 Wb (w4.heap.size + 1) (.int .u64 0) (.int .u64 0) := by rw [hWb]; constructor <;> go_simp
   have Yt12 : Box2 Wb (w4.heap.size + 1 + 1) (.int .u64 0) (.int .u64 0) := by rw [hWb]; constructor <;> go_simp
   have HBb : Hid (Below w4.heap.size w4 Wb) := by rw [hWb]; exact Lib.hid (by (repeat' (first | exact Below.refl _ _ | refine Below.drew ?_ | refine Below.setCell ?_ (by first | omega | (simp <;> omega)) _ | refine Below.alloc ?_ (by first | omega | (simp <;> omega)) _)))
   have hsb : Wb.heap.size = w4.heap.size + 1 + 1 + 1 := by rw [hWb]; simp
   rw [← hWb]
   clear hWb
   clear c0t2_1 c1t2_1 f0t2_1 f1t2_1; clear c0t2_2 c1t2_2 f0t2_2 f1t2_2
   clear c0t4_1 c1t4_1 f0t4_1 f1t4_1; clear c0t4_2 c1t4_2 f0t4_2 f1t4_2
   clear c0t4_3 c1t4_3 f0t4_3 f1t4_3
   clear c0t5_3 c1t5_3 f0t5_3 f1t5_3
   clear c0t4_4 c1t4_4 f0t4_4 f1t4_4
   clear c0t8_4 c1t8_4 f0t8_4 f1t8_4
   obtain ⟨c0t4, c1t4, f0t4, f1t4⟩ := Yt4
   have Lt4 : w.heap.size + 1 < Wb.heap.size := by omega
   obtain ⟨c0t8, c1t8, f0t8, f1t8⟩ := Yt8
   have Lt8 : w3.heap.size < Wb.heap.size := by omega
   obtain ⟨c0t10, c1t10, f0t10, f1t10⟩ := Yt10
   have Lt10 : w4.heap.size < Wb.heap.size := by omega
   obtain ⟨c0t11, c1t11, f0t11, f1t11⟩ := Yt11
   have Lt11 : w4.heap.size + 1 < Wb.heap.size := by omega
   obtain ⟨c0t12, c1t12, f0t12, f1t12⟩ := Yt12
   have Lt12 : w4.heap.size + 1 + 1 < Wb.heap.size := by omega
   go_region
   go_wp2_with (first | (go_at_call 112; go_loud (refine (hsub _).out.mono ?_; rintro e w5 ⟨rfl, hb⟩; have HB5 := Lib.hid hb; have hs5 := hb.size; (try simp at hs5); have Xt4_5 := Box2.below (b := w.heap.size + 1) (v0 := .int .i64 0) (v1 := .int .u64 0) (by constructor <;> go_simp) hb (by first | omega | (simp <;> omega)); obtain ⟨c0t4_5, c1t4_5, f0t4_5, f1t4_5⟩ := Xt4_5; have Lt4_5 : w.heap.size + 1 < w5.heap.size := (by omega); have Xt11_5 := Box2.below (b := w4.heap.size + 1) (v0 := .int .u64 Q1) (v1 := .int .u64 Q2) (by constructor <;> go_simp) hb (by first | omega | (simp <;> omega)); obtain ⟨c0t11_5, c1t11_5, f0t11_5, f1t11_5⟩ := Xt11_5; have Lt11_5 : w4.heap.size + 1 < w5.heap.size := (by omega); have Xt12_5 := Box2.below (b := w4.heap.size + 1 + 1) (v0 := .int .u64 0) (v1 := .int .u64 R) (by constructor <;> go_simp) hb (by first | omega | (simp <;> omega)); obtain ⟨c0t12_5, c1t12_5, f0t12_5, f1t12_5⟩ := Xt12_5; have Lt12_5 : w4.heap.size + 1 + 1 < w5.heap.size := (by omega); clear hb)) | (go_at_call 113; go_loud (refine (hless _).out.mono ?_; rintro e w6 ⟨rfl, hb⟩; have HB6 := Lib.hid hb; have hs6 := hb.size; (try simp at hs6); have Xt4_6 := Box2.below (b := w.heap.size + 1) (v0 := .int .i64 0) (v1 := .int .u64 0) (by constructor <;> go_simp) hb (by first | omega | (simp <;> omega)); obtain ⟨c0t4_6, c1t4_6, f0t4_6, f1t4_6⟩ := Xt4_6; have Lt4_6 : w.heap.size + 1 < w6.heap.size := (by omega); have Xt11_6 := Box2.below (b := w4.heap.size + 1) (v0 := .int .u64 Q1) (v1 := .int .u64 Q2) (by constructor <;> go_simp) hb (by first | omega | (simp <;> omega)); obtain ⟨c0t11_6, c1t11_6, f0t11_6, f1t11_6⟩ := Xt11_6; have Lt11_6 : w4.heap.size + 1 < w6.heap.size := (by omega); have Xt12_6 := Box2.below (b := w4.heap.size + 1 + 1) (v0 := .int .u64 0) (v1 := .int .u64 R) (by constructor <;> go_simp) hb (by first | omega | (simp <;> omega)); obtain ⟨c0t12_6, c1t12_6, f0t12_6, f1t12_6⟩ := Xt12_6; have Lt12_6 : w4.heap.size + 1 + 1 < w6.heap.size := (by omega); have Xt13_6 := Box2.below (b := w5.heap.size) (v0 := .int .u64 0) (v1 := .int .u64 LV) (by constructor <;> go_simp) hb (by first | omega | (simp <;> omega)); obtain ⟨c0t13_6, c1t13_6, f0t13_6, f1t13_6⟩ := Xt13_6; have Lt13_6 : w5.heap.size < w6.heap.size := (by omega); clear hb)) | (go_at_call 114; go_loud (refine (hnx _).out.mono ?_; rintro e w7 ⟨rfl, hb⟩; have HB7 := Lib.hid hb; have hs7 := hb.size; (try simp at hs7); have Xt4_7 := Box2.below (b := w.heap.size + 1) (v0 := .int .i64 0) (v1 := .int .u64 0) (by constructor <;> go_simp) hb (by first | omega | (simp <;> omega)); obtain ⟨c0t4_7, c1t4_7, f0t4_7, f1t4_7⟩ := Xt4_7; have Lt4_7 : w.heap.size + 1 < w7.heap.size := (by omega); have Xt11_7 := Box2.below (b := w4.heap.size + 1) (v0 := .int .u64 Q1) (v1 := .int .u64 Q2) (by constructor <;> go_simp) hb (by first | omega | (simp <;> omega)); obtain ⟨c0t11_7, c1t11_7, f0t11_7, f1t11_7⟩ := Xt11_7; have Lt11_7 : w4.heap.size + 1 < w7.heap.size := (by omega); clear hb)) | (go_at_call 80; go_loud (refine (htd _).out.mono ?_; rintro e w8 ⟨rfl, hb⟩; have HB8 := Lib.hid hb; have hs8 := hb.size; (try simp at hs8); have Xt4_8 := Box2.below (b := w.heap.size + 1) (v0 := .int .i64 0) (v1 := .int .u64 0) (by constructor <;> go_simp) hb (by first | omega | (simp <;> omega)); obtain ⟨c0t4_8, c1t4_8, f0t4_8, f1t4_8⟩ := Xt4_8; have Lt4_8 : w.heap.size + 1 < w8.heap.size := (by omega); clear hb)))
   (try simp only [Exit.noGoto, Exit.inBlock, Exit.then])
   refine bodyPost_ret (v := .agg #[.int .i64 XH, .int .u64 XL]) (by rw [results_c1 rfl]; go_simp) rfl ⟨rfl, ?_⟩
   refine Below.alloc ?_ (by first | omega | (simp <;> omega)) _
   iterate 2 refine Below.setCell ?_ (by first | omega | (simp <;> omega)) _
   exact (Below.trans (by (repeat' (first | exact Below.refl _ _ | refine Below.drew ?_ | refine Below.setCell ?_ (by first | omega | (simp <;> omega)) _ | refine Below.alloc ?_ (by first | omega | (simp <;> omega)) _))) (Below.trans (HB1.out.mono (by first | omega | (simp <;> omega))) (Below.trans (HB2.out.mono (by first | omega | (simp <;> omega))) (Below.trans (by (repeat' (first | exact Below.refl _ _ | refine Below.drew ?_ | refine Below.setCell ?_ (by first | omega | (simp <;> omega)) _ | refine Below.alloc ?_ (by first | omega | (simp <;> omega)) _))) (Below.trans (HB3.out.mono (by first | omega | (simp <;> omega))) (Below.trans (by (repeat' (first | exact Below.refl _ _ | refine Below.drew ?_ | refine Below.setCell ?_ (by first | omega | (simp <;> omega)) _ | refine Below.alloc ?_ (by first | omega | (simp <;> omega)) _))) (Below.trans (HB4.out.mono (by first | omega | (simp <;> omega))) (Below.trans (HBb.out.mono (by first | omega | (simp <;> omega))) (Below.trans (by (repeat' (first | exact Below.refl _ _ | refine Below.drew ?_ | refine Below.setCell ?_ (by first | omega | (simp <;> omega)) _ | refine Below.alloc ?_ (by first | omega | (simp <;> omega)) _))) (Below.trans (HB5.out.mono (by first | omega | (simp <;> omega))) (Below.trans (by (repeat' (first | exact Below.refl _ _ | refine Below.drew ?_ | refine Below.setCell ?_ (by first | omega | (simp <;> omega)) _ | refine Below.alloc ?_ (by first | omega | (simp <;> omega)) _))) (Below.trans (HB6.out.mono (by first | omega | (simp <;> omega))) (HB8.out.mono (by first | omega | (simp <;> omega)))))))))))))))
theorem goodF_any (v : Int) (w : World) : Calls Tryz.prog 34 #[.int .i64 v] w fun e w' => e = .returned (.bool (decide (8 ≤ v) && decide (v ≤ 32))) ∧ w = w' := by
 by_cases h1 : 8 ≤ v
 ·by_cases h2 : v ≤ 32
  ·rw [decide_eq_true h1, decide_eq_true h2]
   go_enter Tryz.func34, Tryz.ntmps34
   go_wp2
   go_ret
   exact ⟨rfl, rfl⟩
  ·rw [decide_eq_true h1, decide_eq_false h2]
   go_enter Tryz.func34, Tryz.ntmps34
   go_wp2
   go_ret
   exact ⟨rfl, rfl⟩
 ·rw [decide_eq_false h1]
  go_enter Tryz.func34, Tryz.ntmps34
  go_wp2
  go_ret
  exact ⟨rfl, rfl⟩
def shI (s : Int) (n : Nat) : Int := roundI s (2 ^ n)
theorem roundI_bound (s p : Int) (hp : 2 ≤ p) (h : inR s) : inR (roundI s p) := by
 have ep : absI p = p := by unfold absI; rw [if_neg (by omega)]
 have h0 : 0 ≤ absI s := by unfold absI; split <;> omega
 have q0 : 0 ≤ absI s / p := Int.ediv_nonneg h0 (by omega)
 have q1 : absI s / p * 2 ≤ absI s := by
  have h1 := Int.ediv_mul_le (absI s) (show p ≠ 0 by omega)
  have h2 := Int.mul_le_mul_of_nonneg_left hp q0
  omega
 have h2 : absI s ≤ 170141183460469231731687303715884105728 := by unfold inR at h; unfold absI; split <;> omega
 unfold roundI
 rw [ep]
 unfold inR
 split <;> split <;> omega
theorem shifted_any (h l : Int) (n : Nat) (w : World) (hn1 : 1 ≤ n) (hn : n ≤ 62) (a : WR h l) :
  Calls Tryz.prog 44 #[.agg #[.int .i64 h, .int .u64 l], .int .i64 n] w fun e w' => RetV (wordV (shI (V h l) n)) (wordE (shI (V h l) n)) e ∧ Below w.heap.size w w' := by
 have hs := fun w => Lib.hid (shift_any h l n w hn1 hn a)
 have hp2 : (2 : Int) ≤ 2 ^ n := by
  rw [← castPow]
  have := Nat.pow_le_pow_right (show 0 < 2 by decide) hn1
  omega
 have hin : inR (roundI (V h l) (2 ^ n)) := roundI_bound _ _ hp2 (by obtain ⟨_, _, _, _⟩ := a; unfold V inR; omega)
 unfold shI
 generalize roundI (V h l) (2 ^ n) = X at hs hin ⊢
 have hW : WR (X / 18446744073709551616) (X % 18446744073709551616) := by unfold inR at hin; exact ⟨by omega, by omega, by omega, by omega⟩
 have hw := fun w => Lib.hid (narrow_any _ _ w hW)
 rw [V_split3] at hw
 generalize X / 18446744073709551616 = XH at hs hw
 generalize X % 18446744073709551616 = XL at hs hw
 generalize wordV X = XV at hw ⊢
 generalize wordE X = XE at hw ⊢
 clear hW hin hp2
 go_enter Tryz.func44, Tryz.ntmps44
 go_wp2_with (first | (go_at_call 82; refine (hs _).out.mono ?_; rintro e w1 ⟨rfl, hb⟩; have HB1 := Lib.hid hb; clear hb) | (go_at_call 81; refine (hw _).out.mono ?_; rintro e w2 ⟨he, hb⟩; unfold RetV at he; subst he; have HB2 := Lib.hid hb; have hs2 := hb.size; clear hb))
 have hs1 := HB1.out.size
 (try simp at hs1)
 exact bodyPost_ret (by rw [results_tmp2 rfl]; go_simp) rfl ⟨rfl, Below.trans (by (repeat' (first | exact Below.refl _ _ | refine Below.drew ?_ | refine Below.setCell ?_ (by first | omega | (simp <;> omega)) _ | refine Below.alloc ?_ (by first | omega | (simp <;> omega)) _))) (Below.trans (HB1.out.mono (by first | omega | (simp <;> omega))) (HB2.out.mono (by first | omega | (simp <;> omega))))⟩
theorem all1B_any (a b : Option Addr) (c d : Nat) (xs ys : List Int) (w : World) (h : Ints .i64 w w.heap.size a xs) (h2 : Ints .i64 w w.heap.size b ys) :
  Calls Tryz.prog 67 #[.agg #[.slice a xs.length c, .slice b ys.length d]] w fun e w' => e = .returned (.bool (!tenB xs ys)) ∧ Below w.heap.size w w' := by
 have hg := fun w' (hb : Below w.heap.size w w') => Lib.hid (elemGood_any a b c d xs ys w' ((h.below hb (Nat.le_refl _)).mono hb.size) ((h2.below hb (Nat.le_refl _)).mono hb.size))
 obtain ⟨t, ht⟩ : ∃ t, tenB xs ys = t := ⟨_, rfl⟩
 rw [ht] at hg ⊢
 clear h h2 ht
 cases t <;>
 ·go_enter Tryz.func67, Tryz.ntmps67
  go_wp2_with (first | (go_at_call 68; refine (hg _ (by (repeat' (first | exact Below.refl _ _ | refine below_drewN ?_ _ | refine Below.drew ?_ | refine Below.setCell ?_ (by first | omega | (simp <;> omega)) _ | refine Below.alloc ?_ (by first | omega | (simp <;> omega)) _)))).out.mono ?_; rintro e w1 ⟨rfl, hb⟩; have HB := Lib.hid hb; clear hb))
  go_ret
  exact ⟨rfl, Below.trans (by (repeat' (first | exact Below.refl _ _ | refine below_drewN ?_ _ | refine Below.drew ?_ | refine Below.setCell ?_ (by first | omega | (simp <;> omega)) _ | refine Below.alloc ?_ (by first | omega | (simp <;> omega)) _))) (HB.out.mono (by first | omega | (simp <;> omega)))⟩
def allIx : Bool → Bool → Int
 | true, true => -1
 | true, false => 1
 | false, _ => 0
set_option maxHeartbeats 1000000 in
theorem elemAllB_any (a b a' b' : Option Addr) (c d c' d' : Nat) (xsA ysA xsB ysB : List Int) (ty : TypeId) (W : World) (hA : Ints .i64 W W.heap.size a xsA) (hA2 : Ints .i64 W W.heap.size b ysA) (hB : Ints .i64 W W.heap.size a' xsB) (hB2 : Ints .i64 W W.heap.size b' ysB) :
  Calls Tryz.prog 33 #[.slice (some ⟨W.heap.size, 0, none⟩) 2 2] (W.alloc (.cells #[.slice a xsA.length c, .slice b ysA.length d, .slice a' xsB.length c', .slice b' ysB.length d'] ty)) fun e w' => e = .returned (.bool (tenB xsA ysA && tenB xsB ysB)) ∧ Below W.heap.size W w' := by
 have hgA := fun w' (hb : Below W.heap.size W w') => Lib.hid (all1B_any a b c d xsA ysA w' ((hA.below hb (Nat.le_refl _)).mono hb.size) ((hA2.below hb (Nat.le_refl _)).mono hb.size))
 have hgB := fun w' (hb : Below W.heap.size W w') => Lib.hid (all1B_any a' b' c' d' xsB ysB w' ((hB.below hb (Nat.le_refl _)).mono hb.size) ((hB2.below hb (Nat.le_refl _)).mono hb.size))
 obtain ⟨tA, htA⟩ : ∃ t, tenB xsA ysA = t := ⟨_, rfl⟩
 obtain ⟨tB, htB⟩ : ∃ t, tenB xsB ysB = t := ⟨_, rfl⟩
 rw [htA] at hgA ⊢
 rw [htB] at hgB ⊢
 clear htA htB hA hA2 hB hB2
 obtain ⟨q, hq⟩ : ∃ q, W.heap.size = q := ⟨_, rfl⟩
 have F1 := Lib.hid ((Fr.start (w := W) (I := []) (by intro z hz; simp at hz)).box1 (b := q) hq [.slice a xsA.length c, .slice b ysA.length d, .slice a' xsB.length c', .slice b' ysB.length d'] ty)
 simp only [List.nil_append] at F1
 rw [hq]
 obtain ⟨V, hV⟩ : ∃ V, W.alloc (.cells #[.slice a xsA.length c, .slice b ysA.length d, .slice a' xsB.length c', .slice b' ysB.length d'] ty) = V := ⟨_, rfl⟩
 rw [hV] at F1 ⊢
 have HQ := Lib.hid hq
 clear hV hq
 have hx : Calls Tryz.prog 99 #[.slice (some ⟨q, 0, none⟩) 2 2, .func (.func 67) #[] #[]] V fun e w' => e = .returned (.int .i64 (allIx tA tB)) ∧ Below W.heap.size W w' := by
  go_enter Tryz.func99, Tryz.ntmps99
  go_wp2
  go_loopw [8] (fun i wr => ∃ k : Nat, k ≤ 2 ∧ i = .int .i64 k ∧ (0 < k → tA = true) ∧ (1 < k → tB = true) ∧ Hid (Fr W.heap.size W wr [(q, [.slice a xsA.length c, .slice b ysA.length d, .slice a' xsB.length c', .slice b' ysB.length d'])] [] [] [])) (fun i _ => 2 - (intOf i).toNat)
  case atStart => exact ⟨0, by omega, rfl, by omega, by omega, F1⟩
  case round =>
   obtain ⟨k, hk, rfl, hkA, hkB, F2⟩ := hrel
   obtain ⟨wo, rfl⟩ : ∃ wo : World, wo = wr := ⟨_, rfl⟩
   clear F1
   have c0 := F2.out.c 0 0 rfl rfl
   have c1 := F2.out.c 0 1 rfl rfl
   have c2 := F2.out.c 0 2 rfl rfl
   have c3 := F2.out.c 0 3 rfl rfl
   match k, hk with
   | 0, _ =>
    clear hkA hkB
    cases tA with
    | true =>
     go_wp2_with (first | (go_at_call 67; refine (hgA _ F2.out.bel).out.mono ?_; rintro e w1 ⟨rfl, hb⟩; have F3 := Lib.hid (F2.out.next (hb.mono (Nat.le_refl _))); clear hb F2 c0 c1 c2 c3))
     go_roundw
     case rel => exact ⟨1, by omega, rfl, fun _ => by first | rfl | trivial, by omega, F3⟩
     case measure => simp [intOf]
    | false =>
     go_wp2_with (first | (go_at_call 67; refine (hgA _ F2.out.bel).out.mono ?_; rintro e w1 ⟨rfl, hb⟩; have F3 := Lib.hid (F2.out.next (hb.mono (Nat.le_refl _))); clear hb F2 c0 c1 c2 c3))
     go_ret
     exact ⟨by first | rfl | (cases tB <;> rfl), F3.out.bel⟩
   | 1, _ =>
    obtain rfl := hkA (by omega)
    clear hkA hkB
    cases tB with
    | true =>
     go_wp2_with (first | (go_at_call 67; refine (hgB _ F2.out.bel).out.mono ?_; rintro e w1 ⟨rfl, hb⟩; have F3 := Lib.hid (F2.out.next (hb.mono (Nat.le_refl _))); clear hb F2 c0 c1 c2 c3))
     go_roundw
     case rel => exact ⟨2, by omega, rfl, fun _ => by first | rfl | trivial, fun _ => by first | rfl | trivial, F3⟩
     case measure => simp [intOf]
    | false =>
     go_wp2_with (first | (go_at_call 67; refine (hgB _ F2.out.bel).out.mono ?_; rintro e w1 ⟨rfl, hb⟩; have F3 := Lib.hid (F2.out.next (hb.mono (Nat.le_refl _))); clear hb F2 c0 c1 c2 c3))
     go_ret
     exact ⟨rfl, F3.out.bel⟩
   | 2, _ =>
    obtain rfl := hkA (by omega)
    obtain rfl := hkB (by omega)
    clear hkA hkB
    go_wp2
    go_ret
    exact ⟨rfl, F2.out.bel⟩
 have HX := Lib.hid hx
 clear hx F1
 have hc : Calls Tryz.prog 66 #[.slice (some ⟨q, 0, none⟩) 2 2, .func (.func 67) #[] #[]] V fun e w' => e = .returned (.bool (!(tA && tB))) ∧ Below W.heap.size W w' := by
  cases tA <;> cases tB <;>
  ·go_enter Tryz.func66, Tryz.ntmps66
   go_wp2_with (first | (go_at_call 99; refine HX.out.mono ?_; rintro e w1 ⟨rfl, hb⟩; have HB := Lib.hid hb; clear hb; simp only [allIx]))
   go_ret
   exact ⟨by simp, HB.out⟩
 have HC := Lib.hid hc
 clear hc HX
 rw [HQ.out] at HC
 cases tA <;> cases tB <;>
 ·go_enter Tryz.func33, Tryz.ntmps33
  go_wp2_with (first | (go_at_call 66; refine HC.out.mono ?_; rintro e w1 ⟨rfl, hb⟩; have HB := Lib.hid hb; clear hb))
  go_ret
  exact ⟨by simp, by first | exact HB.out | exact HQ.out ▸ HB.out⟩
end Go.Proofs.YtadlnmckcnfacaaGreat
