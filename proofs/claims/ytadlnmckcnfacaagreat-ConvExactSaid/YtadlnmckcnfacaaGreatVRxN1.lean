import Derived.Test.YtadlnmckcnfacaaGreatRows
import Derived.Test.YtadlnmckcnfacaaGreatVRdU
import Derived.BigQuiet
import Derived.BigRegion
import Derived.Deep.Cut
import Derived.Deep.CutBlock
import Derived.Deep.CutRange
import Derived.Deep.LoopGhost
import Derived.Deep.RegionHeld3
import Derived.Deep.RegionWith
import Derived.WalkMore
set_option linter.unusedVariables false
set_option linter.unusedSimpArgs false
namespace Go.Proofs.YtadlnmckcnfacaaGreat
open Go.RowKit Go.Rt
theorem dig_top {B : Nat} (hB : 2 ≤ B) (m : Nat) : Top (dig B m) := by
 induction m using Nat.strongRecOn with
 | ind m ih =>
  by_cases h : m = 0
  ·subst h; exact .inl rfl
  ·rw [dig_pos hB h]
   refine .inr ?_
   by_cases h2 : m / B = 0
   ·rw [h2, dig_zero]
    have h3 : m < B := by
     rcases Nat.div_eq_zero_iff.1 h2 with h | h
     ·omega
     ·exact h
    simp [Nat.mod_eq_of_lt h3]
    omega
   ·have hr := dig_ne_nil hB h2
    have hl : 0 < (dig B (m / B)).length := List.length_pos_iff.2 hr
    have e : (((m % B : Nat) : Int) :: dig B (m / B)).length - 1 = ((dig B (m / B)).length - 1) + 1 := by simp; omega
    rw [e, List.getElem?_cons_succ]
    rcases ih _ (Nat.div_lt_self (by omega) hB) with h4 | h4
    ·exact absurd h4 hr
    ·exact h4
theorem nat_zero (w : World) (hi : Nat) : NAt w hi none 0 0 := ⟨Ints.nil _ _ _ _, Nat.le_refl _, by decide⟩
def blen (m : Nat) : Nat := if m = 0 then 0 else Nat.log2 m + 1
theorem blen_lt (m : Nat) : m < 2 ^ blen m := by
 unfold blen
 by_cases h : m = 0
 ·subst h; decide
 ·rw [if_neg h]
  exact Nat.lt_log2_self
theorem blen_ge {m : Nat} (h : m ≠ 0) : 2 ^ (blen m - 1) ≤ m := by
 unfold blen
 rw [if_neg h]
 exact Nat.log2_self_le h
theorem blen_unique {m e : Nat} (h1 : m < 2 ^ e) (h2 : e = 0 ∨ 2 ^ (e - 1) ≤ m) : blen m = e := by
 by_cases h : m = 0
 ·subst h
  rcases h2 with h2 | h2
  ·rw [h2]; rfl
  ·have := Nat.pow_pos (n := e - 1) (show 0 < 2 by decide)
   omega
 ·have a1 := blen_lt m
  have a2 := blen_ge h
  rcases Nat.lt_trichotomy (blen m) e with hlt | he | hgt
  ·rcases h2 with h2 | h2
   ·omega
   ·have := Nat.pow_le_pow_right (show 0 < 2 by decide) (show blen m ≤ e - 1 by omega)
    omega
  ·exact he
  ·have := Nat.pow_le_pow_right (show 0 < 2 by decide) (show e ≤ blen m - 1 by omega)
   omega
theorem blen_zero : blen 0 = 0 := rfl
theorem blen_top {k t low : Nat} (ht : t ≠ 0) (hl : low < 18446744073709551616 ^ k) : blen (low + 18446744073709551616 ^ k * t) = 64 * k + blen t := by
 have e : (18446744073709551616 : Nat) ^ k = 2 ^ (64 * k) := by rw [Nat.pow_mul]
 rw [e] at hl ⊢
 have a1 := blen_lt t
 have a2 := blen_ge ht
 have hb : 1 ≤ blen t := by unfold blen; rw [if_neg ht]; omega
 apply blen_unique
 ·rw [Nat.pow_add]
  have : 2 ^ (64 * k) * (t + 1) ≤ 2 ^ (64 * k) * 2 ^ blen t := Nat.mul_le_mul (Nat.le_refl _) a1
  rw [Nat.mul_add, Nat.mul_one] at this
  omega
 ·refine .inr ?_
  rw [show 64 * k + blen t - 1 = 64 * k + (blen t - 1) by omega, Nat.pow_add]
  have : 2 ^ (64 * k) * 2 ^ (blen t - 1) ≤ 2 ^ (64 * k) * t := Nat.mul_le_mul (Nat.le_refl _) a2
  omega
theorem half_pow (t j : Nat) : t / 2 ^ j / 2 = t / 2 ^ (j + 1) := by rw [Nat.div_div_eq_div_mul, Nat.pow_succ]
theorem blen_of_div {t j : Nat} (h1 : t / 2 ^ j = 0) (h2 : j = 0 ∨ t / 2 ^ (j - 1) ≠ 0) : blen t = j := by
 apply blen_unique
 ·by_cases hc : t < 2 ^ j
  ·exact hc
  ·have := Nat.div_pos (show 2 ^ j ≤ t by omega) (Nat.pow_pos (n := j) (show 0 < 2 by decide))
   omega
 ·rcases h2 with h2 | h2
  ·exact .inl h2
  ·refine .inr ?_
   by_cases hc : 2 ^ (j - 1) ≤ t
   ·exact hc
   ·exact absurd (Nat.div_eq_of_lt (by omega)) h2
set_option maxHeartbeats 4000000 in
set_option maxRecDepth 100000 in
theorem nlen_any (a : Option Addr) (c m hi : Nat) (w : World) (h : NAt w hi a c m) (hm : (dig 18446744073709551616 m).length ≤ 1000000) :
  Calls Tryz.prog 97 #[.slice a (dig 18446744073709551616 m).length c] w fun e w' => e = .returned (.int .i64 (blen m)) ∧ w = w' := by
 obtain ⟨X, hXe⟩ : ∃ X, dig 18446744073709551616 m = X := ⟨_, rfl⟩
 have rX : Rng 18446744073709551616 X := by rw [← hXe]; exact dig_rng (by decide) _
 have vX : valB 18446744073709551616 X = m := by rw [← hXe]; exact val_dig (by decide) _
 have tX : Top X := by rw [← hXe]; exact dig_top (by decide) _
 have hcx := h.li
 have hmX := hcx.len
 rw [hXe] at hcx hmX ⊢
 rw [hXe] at hm
 clear hXe h
 by_cases hl : X.length = 0
 ·have hm0 : blen m = 0 := by rw [← vX, List.length_eq_zero_iff.1 hl]; rfl
  have e1 : ((X.length : Int) == 0) = true := by simp [hl]
  have HZ := Lib.hid hm0
  clear hm0 hl vX
  go_enter Tryz.func97, Tryz.ntmps97
  go_wp2
  go_ret
  exact ⟨by rw [HZ.out]; rfl, rfl⟩
 ·have e1 : ((X.length : Int) == 0) = false := by simp; exact fun h => hl (by rw [h]; rfl)
  obtain ⟨l, hll⟩ : ∃ l, X.length = l + 1 := ⟨X.length - 1, by omega⟩
  obtain ⟨b, off, rfl, hlb, cX⟩ := hcx.cell l (by omega)
  have dX := rX.getD (by decide) l
  obtain ⟨t, et⟩ : ∃ t : Nat, X[l]?.getD 0 = (t : Int) := ⟨(X[l]?.getD 0).toNat, by omega⟩
  rw [et] at cX dX
  have ht0 : t ≠ 0 := by
   rcases tX with h | h
   ·rw [h] at hll; simp at hll
   ·rw [hll, Nat.add_sub_cancel, et] at h; omega
  have hval : blen m = 64 * l + blen t := by
   have hs := valB_take_succ 18446744073709551616 X l (by omega)
   rw [List.take_of_length_le (by omega), et, Int.toNat_natCast, vX] at hs
   have hlow := valB_lt (by decide) (rX.take l)
   rw [show (X.take l).length = l by simp; omega] at hlow
   rw [hs]
   exact blen_top ht0 hlow
  have HV := Lib.hid hval
  have HLL := Lib.hid hll
  clear hval vX tX et rX hcx
  have e2 : ∀ [Inhabited Unit], RowKit.wrap64 ((X.length : Int) - 1) = (l : Int) := by intro _; rw [show (X.length : Int) - 1 = (l : Int) by omega]; exact IntWalk.wrap64_in _ ⟨by omega, by omega⟩
  have e2b : ∀ [Inhabited Unit], (X.length : Int) - 1 = (l : Int) := by intro _; omega
  have hi0 : (0 : Int) ≤ (l : Int) := by omega
  have hi1 : (l : Int) < (X.length : Int) := by omega
  have hi2 : l < X.length := by omega
  have hlk : l ≤ 1000000 := by omega
  clear hll hl hm
  go_enter Tryz.func97, Tryz.ntmps97
  go_wp2
  go_loopw [3, 4] (fun v x wr => ∃ j s : Nat, j ≤ 64 ∧ v = .int .i64 (64 * (l : Int) + j) ∧ x = .int .u64 s ∧ Hid (s = t / 2 ^ j) ∧ Hid (j = 0 ∨ t / 2 ^ (j - 1) ≠ 0) ∧ wr = w) (fun _ x _ => (intOf x).toNat)
  case atStart => exact ⟨0, t, by omega, by simp, rfl, Lib.hid (by simp), Lib.hid (.inl rfl), rfl⟩
  case round =>
   obtain ⟨j, s, hj, rfl, rfl, HS, HJ, rfl⟩ := hrel
   have hsb : s < 18446744073709551616 := by rw [HS.out]; exact Nat.lt_of_le_of_lt (Nat.div_le_self _ _) (by omega)
   by_cases hs : s = 0
   ·have hb : blen t = j := blen_of_div (by rw [← HS.out]; exact hs) HJ.out
    subst hs
    have HZ : Hid ((blen m : Int) = 64 * (l : Int) + j) := Lib.hid (by rw [HV.out, hb]; omega)
    clear hb
    go_wp2
    go_ret
    exact ⟨by rw [HZ.out]; rfl, rfl⟩
   ·have e4 : ((s : Int) != 0) = true := by simp; omega
    have hj2 : j < 64 := by
     by_cases hc : j = 64
     ·exfalso
      apply hs
      rw [HS.out, hc]
      exact Nat.div_eq_of_lt (by omega)
     ·omega
    obtain ⟨s2, hs2⟩ : ∃ s2 : Nat, s2 = s / 2 := ⟨_, rfl⟩
    have e5 : ∀ [Inhabited Unit], (s : Int) / 2 = (s2 : Int) := by intro _; omega
    have HS2 : Hid (s2 = t / 2 ^ (j + 1)) := Lib.hid (by rw [hs2, HS.out, half_pow])
    have HJ2 : Hid (j + 1 = 0 ∨ t / 2 ^ (j + 1 - 1) ≠ 0) := Lib.hid (.inr (by rw [Nat.add_sub_cancel, ← HS.out]; exact hs))
    have h0s : 0 < s := by omega
    have HLT : Hid (s2 < s) := Lib.hid (by omega)
    clear hs hs2
    go_wp2
    go_roundw
    case rel => exact ⟨j + 1, s2, by omega, by go_num, rfl, HS2, HJ2, trivial⟩
    case measure => have := HLT.out; simp [intOf]; omega
theorem make_nat (n : Nat) (hn : n ≤ 17592186044416) (w : World) : (Instr.makeSlice 58 (.int .i64 (n : Int)) (.int .i64 (n : Int))).run Tryz.prog w = .ok (.slice (some ⟨w.heap.size, 0, none⟩) n n) (w.alloc (.cells (madeCells #[Value.int .u64 0] n) 72)) := by
 obtain ⟨i, hi, hz0, hz1, hz2⟩ := info_parts infoU64n
 have hr := run_make (P := Tryz.prog) w 58 72 i (.int .u64 0) Tryz.underlying58 hi hz0 .i64 .i64 n n (by omega) (Int.le_refl _) (by rw [hz2]; omega) (by omega)
 simp only [Int.toNat_natCast, hz1, Nat.mul_one, Value.cells] at hr
 exact hr
theorem up_facts (x s : Nat) (hs : s < 64) (hx : x < 18446744073709551616) : ∃ lo hi : Nat, x * 2 ^ s = lo + 18446744073709551616 * hi ∧ lo % 2 ^ s = 0 ∧ lo + 2 ^ s ≤ 18446744073709551616 ∧ hi < 2 ^ s ∧ lo = x * 2 ^ s % 18446744073709551616 ∧ (0 < s → hi = x / 2 ^ (64 - s)) ∧ (s = 0 → hi = 0) := by
 have hp : 1 ≤ 2 ^ s := Nat.pow_pos (by decide)
 have hd : 2 ^ (64 - s) * 2 ^ s = 18446744073709551616 := by rw [← Nat.pow_add, show 64 - s + s = 64 by omega]
 have hdv : 2 ^ s ∣ 18446744073709551616 := ⟨2 ^ (64 - s), by rw [Nat.mul_comm]; exact hd.symm⟩
 have h0 : x * 2 ^ s % 18446744073709551616 % 2 ^ s = 0 := by rw [Nat.mod_mod_of_dvd _ hdv]; exact Nat.mul_mod_left _ _
 have hlt : x * 2 ^ s % 18446744073709551616 < 18446744073709551616 := Nat.mod_lt _ (by decide)
 refine ⟨x * 2 ^ s % 18446744073709551616, x * 2 ^ s / 18446744073709551616, (Nat.mod_add_div _ _).symm, h0, ?_, ?_, rfl, ?_, ?_⟩
 ·obtain ⟨e, he⟩ := Nat.dvd_of_mod_eq_zero h0
  generalize x * 2 ^ s % 18446744073709551616 = lo at *
  have h1 : e < 2 ^ (64 - s) := by
   by_cases hc : e < 2 ^ (64 - s)
   ·exact hc
   ·have := Nat.mul_le_mul (Nat.le_refl (2 ^ s)) (show 2 ^ (64 - s) ≤ e by omega)
    rw [Nat.mul_comm, hd] at this
    omega
  have h2 : 2 ^ s * (e + 1) ≤ 2 ^ s * 2 ^ (64 - s) := Nat.mul_le_mul (Nat.le_refl _) h1
  rw [Nat.mul_comm (2 ^ s) (2 ^ (64 - s)), hd, Nat.mul_add, Nat.mul_one] at h2
  omega
 ·refine Nat.div_lt_of_lt_mul ?_
  exact (Nat.mul_lt_mul_right hp).2 hx
 ·intro h
  rw [← hd, Nat.mul_div_mul_right _ _ hp]
 ·rintro rfl
  simp
  first
   | exact hx
   | exact Nat.div_eq_of_lt hx
theorem up_step {B e U x p C lo hi : Nat} {L : List Int} {k : Nat} {V : Nat} (h : valB B L + B ^ (e + k) * C = B ^ e * p * V) (hl : L.length = e + k) (hx : x * p = lo + B * hi) :
  valB B (L ++ [((lo + C : Nat) : Int)]) + B ^ (e + (k + 1)) * hi = B ^ e * p * (V + B ^ k * x) := by
 rw [valB_snoc B L _ (e + k) hl, Int.toNat_natCast, show e + (k + 1) = e + k + 1 by omega, Nat.pow_succ, Nat.mul_add (B ^ e * p), ← h]
 have e1 : B ^ e * p * (B ^ k * x) = B ^ (e + k) * (x * p) := by
  rw [Nat.pow_add, Nat.mul_assoc, Nat.mul_assoc, Nat.mul_left_comm p (B ^ k) x, Nat.mul_comm p x]
 rw [e1, hx, Nat.mul_add, Nat.mul_add, Nat.mul_assoc]
 omega
theorem valB_zeros (B n : Nat) : valB B (List.replicate n 0) = 0 := by
 induction n with
 | zero => rfl
 | succ n ih => rw [List.replicate_succ, valB, ih]; rfl
set_option maxHeartbeats 4000000 in
set_option maxRecDepth 100000 in
theorem up2F_any (a : Option Addr) (c m n : Nat) (w : World) (h : NAt w w.heap.size a c m) (hm : (dig 18446744073709551616 m).length ≤ 1000000) (hn : n ≤ 60000000) :
  Calls Tryz.prog 29 #[.slice a (dig 18446744073709551616 m).length c, .int .i64 n] w (RetNF w (m * 2 ^ n)) := by
 obtain ⟨X, hXe⟩ : ∃ X, dig 18446744073709551616 m = X := ⟨_, rfl⟩
 have rX : Rng 18446744073709551616 X := by rw [← hXe]; exact dig_rng (by decide) _
 have vX : valB 18446744073709551616 X = m := by rw [← hXe]; exact val_dig (by decide) _
 have hcx := h.li
 have hmX := hcx.len
 rw [hXe] at hcx hmX ⊢
 rw [hXe] at hm
 clear hXe h
 by_cases hl : X.length = 0
 ·have hm0 : m * 2 ^ n = 0 := by rw [← vX, List.length_eq_zero_iff.1 hl]; simp [valB]
  have e1 : ((X.length : Int) == 0) = true := by simp [hl]
  rw [hm0]
  clear hm0 hl vX
  go_enter Tryz.func29, Tryz.ntmps29
  go_wp2
  go_ret
  exact ⟨none, 0, rfl, nat_zero _ _, Below.refl _ _, fresh_none _⟩
 ·have e1 : ((X.length : Int) == 0) = false := by simp; exact fun h => hl (by rw [h]; rfl)
  obtain ⟨q, s, hqs, hs, hq⟩ : ∃ q s : Nat, n = 64 * q + s ∧ s < 64 ∧ q ≤ 1000000 := ⟨n / 64, n % 64, by omega, by omega, by omega⟩
  have a1 : ∀ [Inhabited Unit], Int.tdiv (n : Int) 64 = (q : Int) := by intro _; rw [Int.tdiv_eq_ediv_of_nonneg (by omega)]; omega
  have a2 : ∀ [Inhabited Unit], (n : Int) / 64 = (q : Int) := by intro _; omega
  have a3 : ∀ [Inhabited Unit], Int.tmod (n : Int) 64 = (s : Int) := by intro _; rw [Int.tmod_eq_emod_of_nonneg (by omega)]; omega
  have a4 : ∀ [Inhabited Unit], (n : Int) % 64 = (s : Int) := by intro _; omega
  have a5 : ∀ [Inhabited Unit], IntKind.u64.wrap (s : Int) = (s : Int) := by intro _; exact u64_same _ (by omega) (by omega)
  have HQS := Lib.hid hqs
  clear hqs
  have hmk := make_nat q (by omega)
  go_enter Tryz.func29, Tryz.ntmps29
  go_upto_region 7 with fail
  have row := World.ownsRow_lit (base := w.heap.size) (e := 72) (size := 1) w (madeCells #[Value.int .u64 0] q) q (Nat.le_refl _) (by unfold maxLen; omega) (by rw [size_madeCells, Nat.mul_one])
  rw [made_zeros] at row
  have bel0 : Below w.heap.size w (w.alloc (.cells (madeCells #[Value.int .u64 0] q) 72)) := (Below.refl _ _).alloc (Nat.le_refl _) _
  have HcX := Lib.hid hcx
  have RX := Lib.hid rX
  have VX := Lib.hid vX
  clear hcx rX vX hmk a1 a2 a3 a4 a5 hl
  have hp1 : 1 ≤ 2 ^ s := Nat.pow_pos (by decide)
  have HP1 := Lib.hid hp1
  clear hp1
  go_loopw [5, 7, 8] (fun v c i wr => ∃ (k C : Nat) (L : List Int), k ≤ X.length ∧ c = .int .u64 C ∧ i = .int .i64 k ∧ Hid (C < 2 ^ s) ∧ Hid (Rng 18446744073709551616 L) ∧ Hid (valB 18446744073709551616 L + 18446744073709551616 ^ (q + k) * C = 18446744073709551616 ^ q * 2 ^ s * valB 18446744073709551616 (X.take k)) ∧ wr.ownsRow w.heap.size 72 1 v (q + k) (L.map (Value.int .u64)) ∧ Below w.heap.size w wr) (fun _ _ i _ => X.length - (intOf i).toNat)
  case atStart => exact ⟨0, 0, List.replicate q 0, Nat.zero_le _, rfl, rfl, HP1, Lib.hid (fun x hx => by rw [(List.mem_replicate.1 hx).2]; omega), Lib.hid (by simp [valB_zeros, valB]), row, bel0⟩
  case round =>
   clear row bel0
   obtain ⟨k, C, L, hk, rfl, rfl, HC, HR, HV, hown, hbel⟩ := hrel
   obtain ⟨wi, rfl⟩ : ∃ wi : World, wi = wr := ⟨_, rfl⟩
   have HO := Lib.hid hown
   have HB := Lib.hid hbel
   have hsz := hbel.size
   have HLL := Lib.hid (own_len_k hown)
   clear hown hbel
   by_cases hx : k < X.length
   ·skip
    have dX := RX.out.getD (by decide) k
    obtain ⟨x, ex⟩ : ∃ d : Nat, X[k]?.getD 0 = (d : Int) := ⟨(X[k]?.getD 0).toNat, by omega⟩
    obtain ⟨b, off, e2, hlb, cX⟩ := HcX.out.cell k hx
    rw [ex] at cX dX
    have hc0 := cX
    replace cX := (HB.out.cell (p := ⟨b, off + k, none⟩) hlb).trans cX
    subst e2
    obtain ⟨lo, hi, f1, f2, f3, f4, f5, f6, f7⟩ := up_facts x s hs (by omega)
    have hst := up_step (U := 0) HV.out HLL.out f1
    have t1 := valB_take_succ' 18446744073709551616 X k
    rw [ex, Int.toNat_natCast] at t1
    rw [← t1] at hst
    have hC := HC.out
    have hlo : lo + C < 18446744073709551616 := by omega
    obtain ⟨d, hd⟩ : ∃ d : Nat, d = lo + C := ⟨_, rfl⟩
    rw [← hd] at hst
    have hR2 : Rng 18446744073709551616 (L ++ [(d : Int)]) := HR.out.append (by intro y hy; simp only [List.mem_singleton] at hy; subst hy; omega)
    have HV2 := Lib.hid hst
    have HR2 := Lib.hid hR2
    have HH := Lib.hid f4
    have ix : (k : Int) < (X.length : Int) := by omega
    have i0 : (0 : Int) ≤ (k : Int) := by omega
    have hpc : ((2 : Int) ^ s) = ((2 ^ s : Nat) : Int) := by simp
    have r1 : ∀ [Inhabited Unit], IntKind.u64.wrap ((x : Int) * 2 ^ s) = (lo : Int) := by intro _; rw [hpc, ← Int.natCast_mul]; simp only [IntKind.wrap, IntKind.bits, IntKind.signed]; simp only [Bool.false_and, if_false]; rw [f5]; rfl
    have hlo2 : (lo : Int) % 2 ^ s = 0 := by rw [hpc, ← Int.natCast_emod, f2]; rfl
    have hCs : (C : Int) < 2 ^ s := by rw [hpc]; omega
    have r2 : ∀ [Inhabited Unit], bits BinOp.or IntKind.u64 (lo : Int) (C : Int) = (d : Int) := by intro _; rw [bits_join IntKind.u64 64 (by decide) u64_same s (lo : Int) (C : Int) (by omega) hlo2 (by omega) (by omega) hCs (by omega)]; omega
    clear hst hR2 t1 hC hlo hlo2 hCs hd f1 f2 f3 f4 f5 ex
    by_cases hs0 : s = 0
    ·skip
     have g1 : (decide ((0 : Int) < (s : Int))) = false := by simp; omega
     have g2 : ¬ (0 : Int) < (s : Int) := by omega
     have hh := f7 hs0
     subst hh
     clear f6 f7 hpc
     clear hs0
     go_upto_region 10 with (at_builtin; (refine wpl_append1b 58 72 .u64 8 (by decide) infoU64n Tryz.underlying58 w.heap.size _ (q + k) L (d : Int) _ _ _ rfl rfl rfl HO.out rfl (by omega) hsz ?_); intro v' w3 hown1 hbel1 _; have HO1 := Lib.hid hown1; have HB1 := Lib.hid (hbel1 _ _ (Nat.le_refl _) HB.out); have cX2 := (HB1.out.cell (p := ⟨b, off + k, none⟩) hlb).trans hc0; clear hown1 hbel1)
     go_wp2
     go_roundw
     case rel => exact ⟨k + 1, 0, _, by omega, rfl, by go_num, HH, HR2, HV2, HO1.out, HB1.out⟩
     case measure => simp [intOf]; omega
    ·skip
     have g1 : (0 : Int) < (s : Int) := by omega
     have hh := f6 (by omega)
     have r3 : ∀ [Inhabited Unit], (x : Int) / 2 ^ (64 - s) = (hi : Int) := by intro _; rw [hh]; simp
     clear f6 f7 hpc hh
     have r4 : ∀ [Inhabited Unit], IntKind.u64.wrap (64 - (s : Int)) = ((64 - s : Nat) : Int) := by intro _; rw [u64_same _ (by omega) (by omega)]; omega
     have r5 : ∀ [Inhabited Unit], (64 : Int) - (s : Int) = ((64 - s : Nat) : Int) := by intro _; omega
     clear hs0
     go_upto_region 10 with (at_builtin; (refine wpl_append1b 58 72 .u64 8 (by decide) infoU64n Tryz.underlying58 w.heap.size _ (q + k) L (d : Int) _ _ _ rfl rfl rfl HO.out rfl (by omega) hsz ?_); intro v' w3 hown1 hbel1 _; have HO1 := Lib.hid hown1; have HB1 := Lib.hid (hbel1 _ _ (Nat.le_refl _) HB.out); have cX2 := (HB1.out.cell (p := ⟨b, off + k, none⟩) hlb).trans hc0; clear hown1 hbel1)
     go_wp2
     go_roundw
     case rel => exact ⟨k + 1, hi, _, by omega, rfl, by go_num, HH, HR2, HV2, HO1.out, HB1.out⟩
     case measure => simp [intOf]; omega
   ·have ix : ¬ (k : Int) < (X.length : Int) := by omega
    have hke : k = X.length := by omega
    have hv := HV.out
    rw [hke, List.take_length, VX.out, ← hke] at hv
    have hC := HC.out
    have hps : 2 ^ s ≤ 2 ^ 64 := Nat.pow_le_pow_right (by decide) (by omega)
    have hC64 : C < 18446744073709551616 := by omega
    have hv2 : valB 18446744073709551616 (L ++ [(C : Int)]) = m * 2 ^ n := by
     rw [valB_snoc _ _ _ (q + k) HLL.out, Int.toNat_natCast, hv, HQS.out, Nat.pow_add, Nat.pow_mul]
     rw [show (2 : Nat) ^ 64 = 18446744073709551616 from rfl, Nat.mul_comm]
    have HV3 := Lib.hid hv2
    have HR3 := Lib.hid (show Rng 18446744073709551616 (L ++ [(C : Int)]) from HR.out.append (by intro x hx; simp only [List.mem_singleton] at hx; subst hx; omega))
    have hll : (L ++ [(C : Int)]).length = q + k + 1 := by rw [List.length_append, HLL.out]; rfl
    have HLN := Lib.hid hll
    clear hv hv2 hll hC hps hke hx
    go_wp2_with (first | (at_builtin; (refine wpl_append1b 58 72 .u64 8 (by decide) infoU64n Tryz.underlying58 w.heap.size _ (q + k) L (C : Int) _ _ _ rfl rfl rfl HO.out rfl (by omega) hsz ?_); intro v' w3 hown1 hbel1 _; have HB1 := Lib.hid (hbel1 _ _ (Nat.le_refl _) HB.out); obtain ⟨a3, c3, rfl, _⟩ := own_shape hown1; obtain ⟨a4, c4, he, hI⟩ := own_ints hown1 (fun x hx => by have := HR3.out x hx; exact wf_u64_iff.2 ⟨by omega, by omega⟩); injection he with e1 e2 e3; clear e2; subst e1; subst e3; have HCP := Lib.hid (own_cap1 hown1); have HFR := Lib.hid (own_fresh hown1); have HCQ : Hid ((L ++ [(C : Int)]).length ≤ c3 ∧ c3 ≤ 9223372036854775807) := Lib.hid (by rw [HLN.out]; exact HCP.out); have HI := Lib.hid hI; have HCC := Lib.hid (ntrim_any a3 c3 w3.heap.size _ w3 hI HCQ.out.1 HCQ.out.2); rw [HV3.out, HLN.out] at HCC; have HD := Lib.hid (nat_of_ints HI.out HCQ.out); rw [HV3.out] at HD; clear hown1 hbel1 hI HI) | (go_at_call 65; refine HCC.out.mono ?_; rintro e w4 ⟨rfl, rfl⟩))
    go_ret
    exact ⟨a3, c3, rfl, HD.out, HB1.out, HFR.out⟩
theorem up2_any (a : Option Addr) (c m n : Nat) (w : World) (h : NAt w w.heap.size a c m) (hm : (dig 18446744073709551616 m).length ≤ 1000000) (hn : n ≤ 60000000) :
  Calls Tryz.prog 29 #[.slice a (dig 18446744073709551616 m).length c, .int .i64 n] w (RetN w (m * 2 ^ n)) := (up2F_any a c m n w h hm hn).mono fun _ _ => RetNF.ret
theorem make_u32 (n : Nat) (hn : n ≤ 17592186044416) (w : World) : (Instr.makeSlice 136 (.int .i64 (n : Int)) (.int .i64 (n : Int))).run Tryz.prog w = .ok (.slice (some ⟨w.heap.size, 0, none⟩) n n) (w.alloc (.cells (madeCells #[Value.int .u32 0] n) 138)) := by
 obtain ⟨i, hi, hz0, hz1, hz2⟩ := info_parts infoU32n
 have hr := run_make (P := Tryz.prog) w 136 138 i (.int .u32 0) Tryz.underlying136 hi hz0 .i64 .i64 n n (by omega) (Int.le_refl _) (by rw [hz2]; omega) (by omega)
 simp only [Int.toNat_natCast, hz1, Nat.mul_one, Value.cells] at hr
 exact hr
theorem valB_set {B : Nat} : ∀ (L : List Int) (j old d : Nat), j < L.length → L[j]?.getD 0 = (old : Int) → valB B (L.set j (d : Int)) + B ^ j * old = valB B L + B ^ j * d
 | x :: r, 0, old, d, _, h => by
  have : x = old := by simpa using h
  subst this
  simp [valB]
  omega
 | x :: r, j + 1, old, d, hj, h => by
  have ih := valB_set (B := B) r j old d (by simpa using hj) (by simpa using h)
  rw [List.set_cons_succ, valB, valB, Nat.pow_succ, Nat.mul_comm (B ^ j) B, Nat.mul_assoc, Nat.mul_assoc, Nat.add_assoc, ← Nat.mul_add, ih, Nat.mul_add]
  omega
theorem stored_u32 {w : World} {base g n cap : Nat} {L : List Int} (h : w.ownsRow base 138 1 (.slice (some ⟨g, 0, none⟩) n cap) n (L.map (Value.int .u32))) (j : Nat) (x : Int) : (w.setCell ⟨g, j, none⟩ (.int .u32 x)).ownsRow base 138 1 (.slice (some ⟨g, 0, none⟩) n cap) n ((L.set j x).map (Value.int .u32)) := by
 have := (h.stored j (.int .u32 x)).1
 rwa [map_set] at this
theorem below_drewN0 (w : World) (q : Nat) : Below w.heap.size w (w.drewN q) :=
 ⟨rfl, rfl, rfl, Nat.le_refl _, fun _ _ => rfl⟩
theorem down_step {h x h1 s e : Nat} (he : h = x + 18446744073709551616 * h1) (hs : s + e = 64) : h / 2 ^ s = (x / 2 ^ s + h1 % 2 ^ s * 2 ^ e) + 18446744073709551616 * (h1 / 2 ^ s) := by
 have hp : 0 < 2 ^ s := Nat.pow_pos (by decide)
 have hd : 2 ^ s * 2 ^ e = 18446744073709551616 := by rw [← Nat.pow_add, hs]
 have e1 : h = x + 2 ^ s * (h1 % 2 ^ s * 2 ^ e + 18446744073709551616 * (h1 / 2 ^ s)) := by
  rw [he, Nat.mul_add]
  have a1 : 2 ^ s * (h1 % 2 ^ s * 2 ^ e) = 18446744073709551616 * (h1 % 2 ^ s) := by rw [Nat.mul_left_comm, hd, Nat.mul_comm]
  have a2 : 2 ^ s * (18446744073709551616 * (h1 / 2 ^ s)) = 18446744073709551616 * (2 ^ s * (h1 / 2 ^ s)) := Nat.mul_left_comm _ _ _
  rw [a1, a2, ← Nat.mul_add, Nat.mod_add_div]
 rw [e1, Nat.add_mul_div_left _ _ hp, Nat.add_assoc]
theorem down_digit {x h1 s e : Nat} (hx : x < 18446744073709551616) (hs : s + e = 64) : x / 2 ^ s < 2 ^ e ∧ x / 2 ^ s + h1 % 2 ^ s * 2 ^ e < 18446744073709551616 := by
 have hp : 0 < 2 ^ s := Nat.pow_pos (by decide)
 have hd : 2 ^ s * 2 ^ e = 18446744073709551616 := by rw [← Nat.pow_add, hs]
 have h1' : x / 2 ^ s < 2 ^ e := Nat.div_lt_of_lt_mul (by rw [hd]; exact hx)
 refine ⟨h1', ?_⟩
 have h2 : h1 % 2 ^ s < 2 ^ s := Nat.mod_lt _ hp
 have h3 : (h1 % 2 ^ s + 1) * 2 ^ e ≤ 2 ^ s * 2 ^ e := Nat.mul_le_mul h2 (Nat.le_refl _)
 rw [hd, Nat.add_mul, Nat.one_mul] at h3
 omega
theorem down_high {y r h2 s e : Nat} (hs : s + e = 64) (hy : h2 = y + 18446744073709551616 * r) : y * 2 ^ e % 18446744073709551616 = h2 % 2 ^ s * 2 ^ e := by
 have hd : 2 ^ s * 2 ^ e = 18446744073709551616 := by rw [← Nat.pow_add, hs]
 have h3 : h2 % 2 ^ s = y % 2 ^ s := by
  rw [hy, ← hd, Nat.mul_assoc, Nat.add_mul_mod_self_left]
 rw [h3, ← hd, Nat.mul_mod_mul_right]
theorem drop_val {B : Nat} (X : List Int) (k x : Nat) (h : k < X.length) (hx : X[k]?.getD 0 = (x : Int)) : valB B (X.drop k) = x + B * valB B (X.drop (k + 1)) := by
 rw [List.getElem?_eq_getElem h] at hx
 rw [List.drop_eq_getElem_cons h, valB]
 congr 1
 have : X[k] = (x : Int) := by simpa using hx
 rw [this]
 rfl
theorem val_drop_div {B : Nat} (hB : 2 ≤ B) (X : List Int) (hr : Rng B X) (k : Nat) (hk : k ≤ X.length) : valB B (X.drop k) = valB B X / B ^ k := by
 have h1 := valB_lt hB (hr.take k)
 have hl : (X.take k).length = k := by simp; omega
 rw [hl] at h1
 have h2 : valB B X = valB B (X.take k) + B ^ k * valB B (X.drop k) := by
  conv => lhs; rw [← List.take_append_drop k X, valB_append, hl]
 rw [h2, Nat.add_mul_div_left _ _ (Nat.pow_pos (by omega)), Nat.div_eq_of_lt h1, Nat.zero_add]
set_option maxHeartbeats 4000000 in
set_option maxRecDepth 100000 in
theorem down2F_any (a : Option Addr) (c m n : Nat) (w : World) (h : NAt w w.heap.size a c m) (hm : (dig 18446744073709551616 m).length ≤ 1000000) (hn : n ≤ 60000000) :
  Calls Tryz.prog 98 #[.slice a (dig 18446744073709551616 m).length c, .int .i64 n] w (RetNF w (m / 2 ^ n)) := by
 have HLN := Lib.hid (nlen_any a c m w.heap.size w h hm)
 by_cases hge : blen m ≤ n
 ·have hm0 : m / 2 ^ n = 0 := Nat.div_eq_of_lt (Nat.lt_of_lt_of_le (blen_lt m) (Nat.pow_le_pow_right (by decide) hge))
  rw [hm0]
  have e1 : (blen m : Int) ≤ (n : Int) := by omega
  have HN0 := Lib.hid h
  clear hm0 h hge
  generalize blen m = bl at *
  go_enter Tryz.func98, Tryz.ntmps98
  go_wp2_with (go_at_call 97; refine HLN.out.mono ?_; rintro e w1 ⟨rfl, rfl⟩)
  go_ret
  exact ⟨none, 0, rfl, nat_zero _ _, Below.refl _ _, fresh_none _⟩
 ·have e1 : ¬ (blen m : Int) ≤ (n : Int) := by omega
  have hm1 : m ≠ 0 := by rintro rfl; exact hge (by rw [blen_zero]; omega)
  obtain ⟨X, hXe⟩ : ∃ X, dig 18446744073709551616 m = X := ⟨_, rfl⟩
  have rX : Rng 18446744073709551616 X := by rw [← hXe]; exact dig_rng (by decide) _
  have vX : valB 18446744073709551616 X = m := by rw [← hXe]; exact val_dig (by decide) _
  have hcx := h.li
  have hmX := hcx.len
  rw [hXe] at hcx hmX HLN ⊢
  rw [hXe] at hm
  obtain ⟨q, s, e, hqs, hs, hq⟩ : ∃ q s e : Nat, n = 64 * q + s ∧ s + e = 64 ∧ s < 64 := ⟨n / 64, n % 64, 64 - n % 64, by omega, by omega, by omega⟩
  have hqX : q ≤ X.length := by
   by_cases hc : q ≤ X.length
   ·exact hc
   ·exfalso
    have h2 := lt_dig_len (B := 18446744073709551616) (by decide) m
    rw [hXe] at h2
    have h3 := blen_ge hm1
    have h4 : (18446744073709551616 : Nat) ^ X.length = 2 ^ (64 * X.length) := by rw [Nat.pow_mul]
    rw [h4] at h2
    have h5 := Nat.pow_le_pow_right (show 0 < 2 by decide) (show 64 * X.length ≤ blen m - 1 by omega)
    omega
  have a1 : ∀ [Inhabited Unit], Int.tdiv (n : Int) 64 = (q : Int) := by intro _; rw [Int.tdiv_eq_ediv_of_nonneg (by omega)]; omega
  have a2 : ∀ [Inhabited Unit], (n : Int) / 64 = (q : Int) := by intro _; omega
  have a3 : ∀ [Inhabited Unit], Int.tmod (n : Int) 64 = (s : Int) := by intro _; rw [Int.tmod_eq_emod_of_nonneg (by omega)]; omega
  have a4 : ∀ [Inhabited Unit], (n : Int) % 64 = (s : Int) := by intro _; omega
  have a5 : ∀ [Inhabited Unit], IntKind.u64.wrap (s : Int) = (s : Int) := by intro _; exact u64_same _ (by omega) (by omega)
  have hfin : valB 18446744073709551616 (X.drop q) / 2 ^ s = m / 2 ^ n := by
   rw [val_drop_div (by decide) X rX q hqX, vX, Nat.div_div_eq_div_mul, hqs, Nat.pow_add, Nat.pow_mul]
  have HFIN := Lib.hid hfin
  have HcX := Lib.hid hcx
  have RX := Lib.hid rX
  have HSE := Lib.hid hs
  clear hXe h hqs hfin hcx rX vX hge hm1 hs
  generalize blen m = bl at *
  go_enter Tryz.func98, Tryz.ntmps98
  go_upto_region 6 with (go_at_call 97; refine HLN.out.mono ?_; rintro e w1 ⟨rfl, rfl⟩)
  have hbn : ¬ bl ≤ n := by omega
  simp only [hbn, decide_false]
  clear a1 a2 a3 a4 a5 HLN e1 hbn
  go_loopw [6, 7] (fun v i wr => ∃ (k j : Nat) (L : List Int), Hid (k = q + j) ∧ k ≤ X.length ∧ i = .int .i64 k ∧ Hid (Rng 18446744073709551616 L) ∧ Hid (valB 18446744073709551616 L + 18446744073709551616 ^ j * (valB 18446744073709551616 (X.drop k) / 2 ^ s) = m / 2 ^ n) ∧ wr.ownsRow w.heap.size 72 1 v j (L.map (Value.int .u64)) ∧ Below w.heap.size w wr) (fun _ i _ => X.length - (intOf i).toNat)
  case atStart => exact ⟨q, 0, [], Lib.hid rfl, hqX, rfl, Lib.hid (fun x hx => by cases hx), Lib.hid (by simp [valB]; exact HFIN.out), World.ownsRow_nil _ _ _ _, Below.refl _ _⟩
  case round =>
   obtain ⟨k, j, L, HKJ, hk, rfl, HR, HV, hown, hbel⟩ := hrel
   obtain ⟨wi, rfl⟩ : ∃ wi : World, wi = wr := ⟨_, rfl⟩
   have HO := Lib.hid hown
   have HB := Lib.hid hbel
   have hsz := hbel.size
   have HLL := Lib.hid (own_len_k hown)
   have hjb : j ≤ 1000000 := by have := HKJ.out; omega
   clear hown hbel
   by_cases hx : k < X.length
   ·have dX := RX.out.getD (by decide) k
    obtain ⟨x, ex⟩ : ∃ d : Nat, X[k]?.getD 0 = (d : Int) := ⟨(X[k]?.getD 0).toNat, by omega⟩
    obtain ⟨b, off, e2, hlb, cX⟩ := HcX.out.cell k hx
    rw [ex] at cX dX
    replace cX := (HB.out.cell (p := ⟨b, off + k, none⟩) hlb).trans cX
    subst e2
    have hdv := drop_val (B := 18446744073709551616) X k x hx ex
    obtain ⟨h1, hh1⟩ : ∃ h1, valB 18446744073709551616 (X.drop (k + 1)) = h1 := ⟨_, rfl⟩
    rw [hh1] at hdv
    have hst := down_step hdv HSE.out
    obtain ⟨f1, f2⟩ := down_digit (h1 := h1) (show x < 18446744073709551616 by omega) HSE.out
    obtain ⟨lo, hlo⟩ : ∃ lo : Nat, x / 2 ^ s = lo := ⟨_, rfl⟩
    obtain ⟨hi, hhi⟩ : ∃ hi : Nat, h1 % 2 ^ s * 2 ^ e = hi := ⟨_, rfl⟩
    rw [hlo, hhi] at hst f2
    rw [hlo] at f1
    obtain ⟨d, hd⟩ : ∃ d : Nat, d = lo + hi := ⟨_, rfl⟩
    rw [← hd] at hst f2
    have hv2 : valB 18446744073709551616 (L ++ [(d : Int)]) + 18446744073709551616 ^ (j + 1) * (valB 18446744073709551616 (X.drop (k + 1)) / 2 ^ s) = m / 2 ^ n := by
     rw [valB_snoc _ _ _ j HLL.out, Int.toNat_natCast, ← HV.out, hst, hh1, Nat.pow_succ, Nat.mul_add, Nat.mul_assoc, Nat.add_assoc]
    have HV2 := Lib.hid hv2
    have HR2 := Lib.hid (show Rng 18446744073709551616 (L ++ [(d : Int)]) from HR.out.append (by intro y hy; simp only [List.mem_singleton] at hy; subst hy; omega))
    have ix : (k : Int) < (X.length : Int) := by omega
    have i0 : (0 : Int) ≤ (k : Int) := by omega
    have hpc : ((2 : Int) ^ s) = ((2 ^ s : Nat) : Int) := by simp
    have hpe : ((2 : Int) ^ e) = ((2 ^ e : Nat) : Int) := by simp
    have r1 : ∀ [Inhabited Unit], (x : Int) / 2 ^ s = (lo : Int) := by intro _; rw [hpc, ← hlo]; rfl
    have r5 : ∀ [Inhabited Unit], (64 : Int) - (s : Int) = (e : Int) := by intro _; have := HSE.out; omega
    have r6 : ∀ [Inhabited Unit], IntKind.u64.wrap (e : Int) = (e : Int) := by intro _; have := HSE.out; exact u64_same _ (by omega) (by omega)
    have rk : ∀ [Inhabited Unit], RowKit.wrap64 ((k : Int) + 1) = (k : Int) + 1 := by intro _; exact IntWalk.wrap64_in _ ⟨by omega, by omega⟩
    have ge : (e : Int) ≤ 64 := by have := HSE.out; omega
    have ge0 : (0 : Int) ≤ (e : Int) := by omega
    clear hv2 hst
    by_cases hs0 : s = 0
    ·have g2 : ¬ (0 : Int) < (s : Int) := by omega
     have g1 : decide ((0 : Int) < (s : Int)) = false := by simp; omega
     have hd0 : d = lo := by rw [hd, ← hhi, hs0]; simp [Nat.mod_one]
     subst hd0
     clear hd hhi hlo f1 f2 hpc hpe hs0 hdv hh1 ex dX r5 r6
     as_aux_lemma =>
      go_upto_region 11 with fail
      go_wp2_with (at_builtin; (refine wpl_append1b 58 72 .u64 8 (by decide) infoU64n Tryz.underlying58 w.heap.size _ j L (d : Int) _ _ _ rfl rfl rfl HO.out rfl (by omega) hsz ?_); intro v' w3 hown1 hbel1 _; have HO1 := Lib.hid hown1; have HB1 := Lib.hid (hbel1 _ _ (Nat.le_refl _) HB.out); clear hown1 hbel1)
      go_wp2
      go_roundw
      case rel =>
       have hA : Hid (k + 1 = q + (j + 1)) := Lib.hid (by have := HKJ.out; omega)
       first
        | exact ⟨k + 1, j + 1, _, hA, by omega, by go_num, HR2, HV2, HO1.out, HB1.out⟩
        | exact ⟨k + 1, j + 1, hA, by omega, by go_num, _, HR2, HV2, HO1.out, HB1.out⟩
      case measure => simp [intOf]; omega
    ·have g2 : (0 : Int) < (s : Int) := by omega
     by_cases hx1 : k + 1 < X.length
     ·obtain ⟨b2, o2, ee, hlb2, cY⟩ := HcX.out.cell (k + 1) hx1
      cases ee
      have dY := RX.out.getD (by decide) (k + 1)
      obtain ⟨y, ey⟩ : ∃ d : Nat, X[k + 1]?.getD 0 = (d : Int) := ⟨(X[k + 1]?.getD 0).toNat, by omega⟩
      rw [ey] at cY dY
      replace cY := (HB.out.cell (p := ⟨b, off + (k + 1), none⟩) hlb2).trans cY
      have hdv2 := drop_val (B := 18446744073709551616) X (k + 1) y hx1 ey
      rw [hh1] at hdv2
      have hhg := down_high HSE.out hdv2
      rw [hhi] at hhg
      have r2 : ∀ [Inhabited Unit], IntKind.u64.wrap ((y : Int) * 2 ^ e) = (hi : Int) := by intro _; rw [hpe, ← Int.natCast_mul]; simp only [IntKind.wrap, IntKind.bits, IntKind.signed]; simp only [Bool.false_and, if_false]; rw [← hhg]; rfl
      have hhm : (hi : Int) % 2 ^ e = 0 := by rw [hpe, ← Int.natCast_emod, ← hhi, Nat.mul_mod_left]; rfl
      have hle : (lo : Int) < 2 ^ e := by rw [hpe]; omega
      have r3 : ∀ [Inhabited Unit], bits BinOp.or IntKind.u64 (lo : Int) (hi : Int) = (d : Int) := by intro _; rw [or_turn _ _ (by omega) (by omega), bits_join IntKind.u64 64 (by decide) u64_same e (hi : Int) (lo : Int) (by omega) hhm (by omega) (by omega) hle (by omega)]; omega
      have ix1 : (k : Int) + 1 < (X.length : Int) := by omega
      have g1 : decide ((0 : Int) < (s : Int)) = true := by simp; omega
      clear hd hhi hlo f1 f2 hpc hpe hs0 hdv hdv2 hh1 ex ey hhm hle hhg
      as_aux_lemma =>
       go_upto_region 11 with fail
       go_wp2_with (at_builtin; (refine wpl_append1b 58 72 .u64 8 (by decide) infoU64n Tryz.underlying58 w.heap.size _ j L (d : Int) _ _ _ rfl rfl rfl HO.out rfl (by omega) hsz ?_); intro v' w3 hown1 hbel1 _; have HO1 := Lib.hid hown1; have HB1 := Lib.hid (hbel1 _ _ (Nat.le_refl _) HB.out); clear hown1 hbel1)
       go_wp2
       go_roundw
       case rel =>
        have hA : Hid (k + 1 = q + (j + 1)) := Lib.hid (by have := HKJ.out; omega)
        first
         | exact ⟨k + 1, j + 1, _, hA, by omega, by go_num, HR2, HV2, HO1.out, HB1.out⟩
         | exact ⟨k + 1, j + 1, hA, by omega, by go_num, _, HR2, HV2, HO1.out, HB1.out⟩
       case measure => simp [intOf]; omega
     ·have hd0 : d = lo := by
       have hz : h1 = 0 := by rw [← hh1, List.drop_eq_nil_of_le (by omega)]; rfl
       rw [hd, ← hhi, hz]
       simp
      subst hd0
      have ix1 : ¬ (k : Int) + 1 < (X.length : Int) := by omega
      have g1 : decide ((0 : Int) < (s : Int)) = true := by simp; omega
      clear hd hhi hlo f1 f2 hpc hpe hs0 hdv hh1 ex dX r5 r6
      as_aux_lemma =>
       go_upto_region 11 with fail
       go_wp2_with (at_builtin; (refine wpl_append1b 58 72 .u64 8 (by decide) infoU64n Tryz.underlying58 w.heap.size _ j L (d : Int) _ _ _ rfl rfl rfl HO.out rfl (by omega) hsz ?_); intro v' w3 hown1 hbel1 _; have HO1 := Lib.hid hown1; have HB1 := Lib.hid (hbel1 _ _ (Nat.le_refl _) HB.out); clear hown1 hbel1)
       go_wp2
       go_roundw
       case rel =>
        have hA : Hid (k + 1 = q + (j + 1)) := Lib.hid (by have := HKJ.out; omega)
        first
         | exact ⟨k + 1, j + 1, _, hA, by omega, by go_num, HR2, HV2, HO1.out, HB1.out⟩
         | exact ⟨k + 1, j + 1, hA, by omega, by go_num, _, HR2, HV2, HO1.out, HB1.out⟩
       case measure => simp [intOf]; omega
   ·have ix : ¬ (k : Int) < (X.length : Int) := by omega
    have hv := HV.out
    rw [List.drop_eq_nil_of_le (by omega)] at hv
    have hv2 : valB 18446744073709551616 L = m / 2 ^ n := by rw [← hv]; simp [valB]
    have HV3 := Lib.hid hv2
    clear hv hv2 hx
    (have hown1 := HO.out; obtain ⟨a3, c3, rfl, _⟩ := own_shape hown1; obtain ⟨a4, c4, he, hI⟩ := own_ints hown1 (fun x hx => by have := HR.out x hx; exact wf_u64_iff.2 ⟨by omega, by omega⟩); injection he with e1 e2 e3; clear e2; subst e1; subst e3; have HCP := Lib.hid (own_cap1 hown1); have HFR := Lib.hid (own_fresh hown1); have HCQ : Hid (L.length ≤ c3 ∧ c3 ≤ 9223372036854775807) := Lib.hid (by rw [HLL.out]; exact HCP.out); have HI := Lib.hid hI; have HCC := Lib.hid (ntrim_any a3 c3 wi.heap.size _ wi hI HCQ.out.1 HCQ.out.2); rw [HV3.out, HLL.out] at HCC; have HD := Lib.hid (nat_of_ints HI.out HCQ.out); rw [HV3.out] at HD; clear hown1 hI HI)
    go_wp2_with (first | (go_at_call 65; refine HCC.out.mono ?_; rintro e w4 ⟨rfl, rfl⟩))
    go_ret
    exact ⟨a3, c3, rfl, HD.out, HB.out, HFR.out⟩
theorem down2_any (a : Option Addr) (c m n : Nat) (w : World) (h : NAt w w.heap.size a c m) (hm : (dig 18446744073709551616 m).length ≤ 1000000) (hn : n ≤ 60000000) :
  Calls Tryz.prog 98 #[.slice a (dig 18446744073709551616 m).length c, .int .i64 n] w (RetN w (m / 2 ^ n)) := (down2F_any a c m n w h hm hn).mono fun _ _ => RetNF.ret
theorem drop_set_next (Q : List Int) (j : Nat) (v : Int) : (Q.set j v).drop (j + 1) = Q.drop (j + 1) := by
 apply List.ext_getElem?
 intro i
 rw [List.getElem?_drop, List.getElem?_drop, List.getElem?_set_ne (by omega)]
theorem short_step {B d r x Vx Vq : Nat} (h : Vx = d * Vq + r) : x + B * Vx = d * ((r * B + x) / d + B * Vq) + (r * B + x) % d := by
 have h1 := Nat.div_add_mod (r * B + x) d
 rw [Nat.mul_add, h, Nat.mul_add, Nat.mul_left_comm B d Vq, Nat.mul_comm B r]
 omega
theorem short_digit {B d r x : Nat} (hr : r < d) (hx : x < B) : (r * B + x) / d < B := by
 refine Nat.div_lt_of_lt_mul ?_
 have : (r + 1) * B ≤ d * B := Nat.mul_le_mul hr (Nat.le_refl _)
 rw [Nat.add_mul, Nat.one_mul] at this
 omega
set_option maxHeartbeats 4000000 in
set_option maxRecDepth 100000 in
theorem short_any (a : Option Addr) (c m d : Nat) (w : World) (h : HAt w w.heap.size a c m) (hm : (dig 4294967296 m).length ≤ 2000000) (hd0 : 0 < d) (hd1 : d < 4294967296) :
  Calls Tryz.prog 96 #[.slice a (dig 4294967296 m).length c, .int .u32 d] w fun e w' => ∃ a' c', e = .returned (.tuple #[.slice a' (dig 4294967296 (m / d)).length c', .int .u32 ((m % d : Nat) : Int)]) ∧ HAt w' w'.heap.size a' c' (m / d) ∧ Below w.heap.size w w' := by
 obtain ⟨X, hXe⟩ : ∃ X, dig 4294967296 m = X := ⟨_, rfl⟩
 have rX : Rng 4294967296 X := by rw [← hXe]; exact dig_rng (by decide) _
 have vX : valB 4294967296 X = m := by rw [← hXe]; exact val_dig (by decide) _
 have hcx := h.li
 rw [hXe] at hcx ⊢
 rw [hXe] at hm
 clear hXe h
 obtain ⟨N, hN⟩ : ∃ N, X.length = N := ⟨_, rfl⟩
 have hmk := make_u32 N (by omega)
 have eW : ∀ [Inhabited Unit], RowKit.wrap64 ((N : Int) - 1) = (N : Int) - 1 := by intro _; exact IntWalk.wrap64_in _ ⟨by omega, by omega⟩
 have HcX := Lib.hid hcx
 have RX := Lib.hid rX
 have VX := Lib.hid vX
 have HN := Lib.hid hN
 rw [hN]
 clear hcx rX vX
 go_enter Tryz.func96, Tryz.ntmps96
 go_wp2
 clear hmk eW
 have row := World.ownsRow_lit (base := w.heap.size) (e := 138) (size := 1) w (madeCells #[Value.int .u32 0] N) N (Nat.le_refl _) (by unfold maxLen; omega) (by rw [size_madeCells, Nat.mul_one])
 rw [made_zeros] at row
 have bel0 : Below w.heap.size w (w.alloc (.cells (madeCells #[Value.int .u32 0] N) 138)) := (Below.refl _ _).alloc (Nat.le_refl _) _
 go_loopw [7, 8] (fun rv iv wr => ∃ (k r : Nat) (I : Int) (Q : List Int), k ≤ N ∧ iv = .int .i64 I ∧ I = (k : Int) - 1 ∧ rv = .int .u64 r ∧ r < d ∧ Hid (Rng 4294967296 Q) ∧ Hid (valB 4294967296 (X.drop k) = d * valB 4294967296 (Q.drop k) + r) ∧ Hid (wr.ownsRow w.heap.size 138 1 (.slice (some ⟨w.heap.size, 0, none⟩) N N) N (Q.map (Value.int .u32))) ∧ Hid (Below w.heap.size w wr)) (fun _ iv _ => (intOf iv + 1).toNat)
 case atStart => exact ⟨N, 0, _, List.replicate N 0, Nat.le_refl _, rfl, rfl, rfl, hd0, Lib.hid (fun x hx => by rw [(List.mem_replicate.1 hx).2]; omega), Lib.hid (by rw [List.drop_eq_nil_of_le (by omega), List.drop_eq_nil_of_le (by simp)]; simp [valB]), Lib.hid row, Lib.hid bel0⟩
 case round =>
  clear row bel0
  obtain ⟨k, r, I, Q, hk, rfl, hI, rfl, hr, HR, HV, HO, HB⟩ := hrel
  obtain ⟨wi, rfl⟩ : ∃ wi : World, wi = wr := ⟨_, rfl⟩
  have HQL := Lib.hid (own_len_k HO.out)
  by_cases hk0 : k = 0
  ·obtain rfl : I = -1 := by omega
   have hv := HV.out
   rw [hk0, List.drop_zero, List.drop_zero, VX.out] at hv
   have hq : valB 4294967296 Q = m / d := by rw [hv, Nat.mul_add_div hd0, Nat.div_eq_of_lt hr, Nat.add_zero]
   have hrr : r = m % d := by rw [hv, Nat.mul_add_mod, Nat.mod_eq_of_lt hr]
   have eR : ∀ [Inhabited Unit], IntKind.u32.wrap (r : Int) = (r : Int) := by intro _; rw [IntKind.wrap_u32]; omega
   have HQ := Lib.hid hq
   have HRR := Lib.hid hrr
   clear hv hq hrr hI hk0
   (have hown1 := HO.out; obtain ⟨a4, c4, he, hI⟩ := own_ints hown1 (fun x hx => by have := HR.out x hx; exact wf_u32_iff.2 ⟨by omega, by omega⟩); injection he with e1 e2 e3; clear e2; subst e1; subst e3; have HCP := Lib.hid (own_cap1 hown1); have HCQ : Hid (Q.length ≤ N ∧ N ≤ 9223372036854775807) := Lib.hid (by rw [HQL.out]; exact HCP.out); have HI := Lib.hid hI; have HC := Lib.hid (cut_any (some ⟨w.heap.size, 0, none⟩) N wi.heap.size _ wi hI HCQ.out.1 HCQ.out.2); rw [HQ.out, HQL.out] at HC; have HD := Lib.hid (dig_of_ints HI.out HCQ.out); rw [HQ.out] at HD; clear hown1 hI HI)
   go_wp2_with (go_at_call 89; refine HC.out.mono ?_; rintro e w4 ⟨rfl, rfl⟩)
   refine bodyPost_ret (v := .tuple #[.slice (some ⟨w.heap.size, 0, none⟩) (dig 4294967296 (m / d)).length N, .int .u32 (r : Int)]) (by rw [results_tmp2 rfl]; go_simp) rfl ?_
   exact ⟨_, _, by rw [← HRR.out], HD.out, HB.out⟩
  ·obtain ⟨j, rfl⟩ : ∃ j, k = j + 1 := ⟨k - 1, by omega⟩
   obtain rfl : I = (j : Int) := by omega
   clear hI hk0
   have hj : j < X.length := by have := HN.out; omega
   have dX := RX.out.getD (by decide) j
   obtain ⟨x, ex⟩ : ∃ d : Nat, X[j]?.getD 0 = (d : Int) := ⟨(X[j]?.getD 0).toNat, by omega⟩
   obtain ⟨b, off, ea, hlb, cX⟩ := HcX.out.cell j hj
   rw [ex] at cX dX
   replace cX := (HB.out.cell (p := ⟨b, off + j, none⟩) hlb).trans cX
   subst ea
   have hst := short_step (B := 4294967296) (x := x) HV.out
   rw [← drop_val X j x hj ex] at hst
   have hdg := short_digit (B := 4294967296) (x := x) hr (by omega)
   obtain ⟨t, ht⟩ : ∃ t, t = r * 4294967296 + x := ⟨_, rfl⟩
   rw [← ht] at hst hdg
   have htb : t < 18446744073709551616 := by omega
   obtain ⟨qd, hqd⟩ : ∃ q, q = t / d := ⟨_, rfl⟩
   obtain ⟨r2, hr2⟩ : ∃ r2, r2 = t % d := ⟨_, rfl⟩
   rw [← hqd] at hst hdg
   rw [← hr2] at hst
   have hr2d : r2 < d := by rw [hr2]; exact Nat.mod_lt _ hd0
   have jN : j < N := by omega
   have hQj : j < Q.length := by rw [HQL.out]; exact jN
   have hv2 : valB 4294967296 (X.drop j) = d * valB 4294967296 ((Q.set j (qd : Int)).drop j) + r2 := by
    rw [drop_val (Q.set j (qd : Int)) j qd (by simpa using hQj) (by simp [hQj]), drop_set_next]
    exact hst
   have HV2 := Lib.hid hv2
   have HR2 := Lib.hid (HR.out.set j qd hdg)
   have HO2 := Lib.hid (stored_u32 HO.out j (qd : Int))
   have HB2 : Hid (Below w.heap.size w (wi.setCell ⟨w.heap.size, j, none⟩ (.int .u32 (qd : Int)))) := Lib.hid (Below.setCell HB.out (Nat.le_refl _) _)
   have cM := own_cell HO.out jN
   have fM := HO.out.frozenAt j
   generalize Q[j]?.getD 0 = oldq at cM
   obtain ⟨rs, hrs⟩ : ∃ rs : Nat, rs = r * 4294967296 := ⟨_, rfl⟩
   have s1 : ∀ [Inhabited Unit], (r : Int) * 4294967296 = (rs : Int) := by intro _; omega
   have s2 : ∀ [Inhabited Unit], IntKind.u64.wrap (rs : Int) = (rs : Int) := by intro _; exact u64_same _ (by omega) (by omega)
   have s3 : ∀ [Inhabited Unit], bits BinOp.or IntKind.u64 (rs : Int) (x : Int) = (t : Int) := by intro _; rw [bits_join IntKind.u64 64 (by decide) u64_same 32 (rs : Int) (x : Int) (by omega) (by omega) (by omega) (by omega) (by omega) (by omega)]; omega
   have s4 : ∀ [Inhabited Unit], Int.tdiv (t : Int) (d : Int) = (qd : Int) := by intro _; rw [Int.tdiv_eq_ediv_of_nonneg (by omega), hqd]; rfl
   have s5 : ∀ [Inhabited Unit], (t : Int) / (d : Int) = (qd : Int) := by intro _; rw [hqd]; rfl
   have s6 : ∀ [Inhabited Unit], Int.tmod (t : Int) (d : Int) = (r2 : Int) := by intro _; rw [Int.tmod_eq_emod_of_nonneg (by omega), hr2]; rfl
   have s7 : ∀ [Inhabited Unit], (t : Int) % (d : Int) = (r2 : Int) := by intro _; rw [hr2]; rfl
   have s8 : ∀ [Inhabited Unit], IntKind.u32.wrap (qd : Int) = (qd : Int) := by intro _; rw [IntKind.wrap_u32]; omega
   have s9 : ∀ [Inhabited Unit], IntKind.u64.wrap (qd : Int) = (qd : Int) := by intro _; exact u64_same _ (by omega) (by omega)
   have s10 : ∀ [Inhabited Unit], IntKind.u64.wrap (r2 : Int) = (r2 : Int) := by intro _; exact u64_same _ (by omega) (by omega)
   have ej : ∀ [Inhabited Unit], RowKit.wrap64 ((j : Int) - 1) = (j : Int) - 1 := by intro _; exact IntWalk.wrap64_in _ ⟨by omega, by omega⟩
   have ix : (j : Int) < (X.length : Int) := by omega
   have iN : (j : Int) < (N : Int) := by omega
   have i0 : (0 : Int) ≤ (j : Int) := by omega
   have dn : ¬ (d : Int) = 0 := by omega
   have d0 : (0 : Int) < (d : Int) := by omega
   have hNX := HN.out
   clear hst ht hqd hr2 hrs hdg hv2 ex HV
   skip
   go_wp2
   go_roundw
   case rel => exact ⟨j, r2, _, _, by omega, rfl, rfl, rfl, hr2d, HR2, HV2, HO2, HB2⟩
   case measure => simp [intOf]
theorem blen_le (m : Nat) : blen m ≤ 64 * (dig 18446744073709551616 m).length := by
 by_cases h : m = 0
 ·subst h; rw [blen_zero]; exact Nat.zero_le _
 ·refine Classical.byContradiction fun hn => ?_
  have h1 := blen_ge h
  have h2 := lt_dig_len (B := 18446744073709551616) (by decide) m
  rw [show (18446744073709551616 : Nat) = 2 ^ 64 by decide, ← Nat.pow_mul] at h2
  have h3 : 2 ^ (64 * (dig (2 ^ 64) m).length) ≤ 2 ^ (blen m - 1) := Nat.pow_le_pow_right (by decide) (by rw [show (2 : Nat) ^ 64 = 18446744073709551616 by decide]; omega)
  omega
theorem dig_len_shift (m e : Nat) (h : m < 2 ^ e) : (dig 18446744073709551616 m).length ≤ e / 64 + 1 := by
 refine dig_len_le (by decide) _ _ (Nat.lt_of_lt_of_le h ?_)
 rw [show (18446744073709551616 : Nat) = 2 ^ 64 by decide, ← Nat.pow_mul]
 exact Nat.pow_le_pow_right (by decide) (by omega)
theorem div_start {m n N : Nat} (hn : 0 < n) (h : blen m = N + blen n) : m < n * 2 ^ (N + 1) := by
 have h1 := blen_lt m
 have h2 := blen_ge (m := n) (by omega)
 have h3 : 1 ≤ blen n := by
  refine Classical.byContradiction fun hc => ?_
  have := blen_lt n
  rw [show blen n = 0 by omega] at this
  omega
 rw [h] at h1
 have h4 : 2 ^ (N + blen n) = 2 ^ (blen n - 1) * 2 ^ (N + 1) := by rw [← Nat.pow_add]; congr 1; omega
 have h5 := Nat.mul_le_mul_right (2 ^ (N + 1)) h2
 omega
theorem div_small {m n : Nat} (hn : 0 < n) (h : blen m < blen n) : m < n := by
 have h1 := blen_lt m
 have h2 := blen_ge (m := n) (by omega)
 have h3 : 2 ^ blen m ≤ 2 ^ (blen n - 1) := Nat.pow_le_pow_right (by decide) (by omega)
 omega
theorem div_len {m n N k : Nat} (hn : 0 < n) (h : blen m = N + blen n) (hk : k ≤ N + 1) (hm : (dig 18446744073709551616 m).length ≤ 400000) : (dig 18446744073709551616 (n * 2 ^ k / 2)).length ≤ 1000000 := by
 have h1 := blen_lt n
 have h2 : n * 2 ^ k / 2 < 2 ^ (blen n + k) := Nat.lt_of_le_of_lt (Nat.div_le_self _ _) (by rw [Nat.pow_add]; exact Nat.mul_lt_mul_of_pos_right h1 (Nat.pow_pos (by decide)))
 have h3 := dig_len_shift _ _ h2
 have h4 := blen_le m
 omega
theorem limb_bits {L : List Int} {q s x : Nat} (hr : Rng 18446744073709551616 L) (hq : q < L.length) (hs : s < 64) (hx : L[q]?.getD 0 = (x : Int)) (hv : valB 18446744073709551616 L % 2 ^ (64 * q + s + 1) = 0) : x % 2 ^ (s + 1) = 0 := by
 have h1 := drop_val (B := 18446744073709551616) L q x hq hx
 have h2 := val_drop_div (B := 18446744073709551616) (by decide) L hr q (by omega)
 rw [h2] at h1
 obtain ⟨V, hV⟩ : ∃ V, valB 18446744073709551616 L = V := ⟨_, rfl⟩
 rw [hV] at h1 hv
 obtain ⟨c, hc⟩ := Nat.dvd_of_mod_eq_zero hv
 have e1 : 2 ^ (64 * q + s + 1) = 18446744073709551616 ^ q * 2 ^ (s + 1) := by rw [show (18446744073709551616 : Nat) = 2 ^ 64 by decide, ← Nat.pow_mul, ← Nat.pow_add]; congr 1
 rw [e1, Nat.mul_assoc] at hc
 have e2 : V / 18446744073709551616 ^ q = 2 ^ (s + 1) * c := by rw [hc, Nat.mul_div_cancel_left _ (Nat.pow_pos (by decide))]
 rw [e2] at h1
 have e3 : 2 ^ (s + 1) ∣ 18446744073709551616 := by
  rw [show (18446744073709551616 : Nat) = 2 ^ 64 by decide]
  exact Nat.pow_dvd_pow 2 (by omega)
 obtain ⟨t, ht⟩ := e3
 have e4 : 2 ^ (s + 1) * c = x + 2 ^ (s + 1) * (t * valB 18446744073709551616 (L.drop (q + 1))) := by rw [h1, ← Nat.mul_assoc, ← ht]
 have e5 : 2 ^ (s + 1) ∣ x := (Nat.dvd_add_left (Nat.dvd_mul_right _ _)).1 (e4 ▸ Nat.dvd_mul_right _ _)
 exact Nat.mod_eq_zero_of_dvd e5
theorem mod_half {V j : Nat} (h : V % 2 ^ (j + 1) = 0) : V % 2 ^ j = 0 := by
 obtain ⟨c, hc⟩ := Nat.dvd_of_mod_eq_zero h
 rw [hc, Nat.pow_succ, Nat.mul_assoc]
 exact Nat.mul_mod_right _ _
theorem set_bit {L : List Int} {q s x d j : Nat} (hq : q < L.length) (hx : L[q]?.getD 0 = (x : Int)) (hd : d = x + 2 ^ s) (hj : j = 64 * q + s) : valB 18446744073709551616 (L.set q (d : Int)) = valB 18446744073709551616 L + 2 ^ j := by
 subst hd
 have h1 := valB_set (B := 18446744073709551616) L q x (x + 2 ^ s) hq hx
 have e1 : 2 ^ j = 18446744073709551616 ^ q * 2 ^ s := by rw [show (18446744073709551616 : Nat) = 2 ^ 64 by decide, ← Nat.pow_mul, ← Nat.pow_add, hj]
 rw [Nat.mul_add, ← e1] at h1
 omega
theorem div_bit {m n R Q j : Nat} (hm : m = n * Q + R) (hge : n * 2 ^ (j + 1) / 2 ≤ R) (hlt : R < n * 2 ^ (j + 1)) (hQ : Q % 2 ^ (j + 1) = 0) :
  m = n * (Q + 2 ^ j) + (R - n * 2 ^ (j + 1) / 2) ∧ R - n * 2 ^ (j + 1) / 2 < n * 2 ^ j ∧ (Q + 2 ^ j) % 2 ^ j = 0 := by
 have e1 : n * 2 ^ (j + 1) = n * 2 ^ j * 2 := by rw [Nat.pow_succ, Nat.mul_assoc]
 have e2 : n * 2 ^ (j + 1) / 2 = n * 2 ^ j := by rw [e1, Nat.mul_div_cancel _ (by decide)]
 rw [e2] at hge ⊢
 refine ⟨by rw [Nat.mul_add]; omega, by omega, ?_⟩
 rw [Nat.add_mod_right]
 exact mod_half hQ
theorem div_none {n R Q j : Nat} (hge : R < n * 2 ^ (j + 1) / 2) (hQ : Q % 2 ^ (j + 1) = 0) : R < n * 2 ^ j ∧ Q % 2 ^ j = 0 := by
 have e2 : n * 2 ^ (j + 1) / 2 = n * 2 ^ j := by rw [Nat.pow_succ, ← Nat.mul_assoc, Nat.mul_div_cancel _ (by decide)]
 rw [e2] at hge
 exact ⟨hge, mod_half hQ⟩
theorem down_half (n j : Nat) : n * 2 ^ (j + 1) / 2 / 2 ^ 1 = n * 2 ^ j / 2 := by rw [Nat.pow_succ, ← Nat.mul_assoc, Nat.mul_div_cancel _ (by decide), Nat.pow_one]
theorem up_half (n N : Nat) : n * 2 ^ N = n * 2 ^ (N + 1) / 2 := by rw [Nat.pow_succ, ← Nat.mul_assoc, Nat.mul_div_cancel _ (by decide)]
theorem div_end {m n Q R : Nat} (hm : m = n * Q + R) (hR : R < n * 2 ^ 0) : Q = m / n ∧ R = m % n := by
 rw [Nat.pow_zero, Nat.mul_one] at hR
 rw [hm]
 exact ⟨by rw [Nat.mul_add_div (by omega), Nat.div_eq_of_lt hR, Nat.add_zero], by rw [Nat.mul_add_mod, Nat.mod_eq_of_lt hR]⟩
def Away (g : Nat) (a : Option Addr) : Prop := ∀ x, a = some x → x.block ≠ g
theorem Fresh.away {B g : Nat} {a : Option Addr} (h : Fresh B a) (hg : g < B) : Away g a := fun x hx => by have := h x hx; omega
theorem nat_old {w : World} {g : Nat} {a : Option Addr} {c m : Nat} (h : NAt w g a c m) : m = 0 ∨ Away g a := by
 by_cases hm : m = 0
 ·exact .inl hm
 ·refine .inr fun x hx => ?_
  have hl : 0 < (dig 18446744073709551616 m).length := by
   have := (dig_len_zero (B := 18446744073709551616) (m := m) (by decide))
   omega
  obtain ⟨b, off, ha, hlt, _⟩ := h.li.cell 0 hl
  rw [ha] at hx
  injection hx with hx
  subst hx
  show b ≠ g
  omega
theorem ints_setAway {k : IntKind} {w : World} {hi : Nat} {a : Option Addr} {xs : List Int} {g o : Nat} {v : Value} (h : Ints k w hi a xs) (ha : Away g a) : Ints k (w.setCell ⟨g, o, none⟩ v) hi a xs :=
 ⟨h.len, h.wf, fun i hi' => by
  obtain ⟨b, off, e, hlt, hb⟩ := h.cell i hi'
  refine ⟨b, off, e, hlt, ?_⟩
  have hne : b ≠ g := ha _ e
  rw [← hb, World.cell?_setCell_far _ _ _ _ (Ne.symm hne)]⟩
theorem nat_setAway {w : World} {a : Option Addr} {c m g o : Nat} {v : Value} (h : NAt w w.heap.size a c m) (ha : m = 0 ∨ Away g a) : NAt (w.setCell ⟨g, o, none⟩ v) (w.setCell ⟨g, o, none⟩ v).heap.size a c m := by
 have hs : (w.setCell ⟨g, o, none⟩ v).heap.size = w.heap.size := by simp
 rw [hs]
 rcases ha with rfl | ha
 ·exact ⟨⟨by decide, (by intro x hx; cases hx), (by intro i hi; cases hi)⟩, h.c1, h.c2⟩
 ·exact ⟨ints_setAway h.li ha, h.c1, h.c2⟩
theorem dig32_one {n : Nat} (h : (dig 4294967296 n).length = 1) : dig 4294967296 n = [(n : Int)] ∧ 0 < n ∧ n < 4294967296 := by
 have h1 := lt_dig_len (B := 4294967296) (by decide) n
 rw [h, Nat.pow_one] at h1
 have h0 : n ≠ 0 := by
  intro e
  subst e
  cases h
 refine ⟨?_, by omega, h1⟩
 rw [dig_pos (by decide) h0, Nat.mod_eq_of_lt h1, Nat.div_eq_of_lt h1, dig_zero]
def IsH (m : Nat) (u : Value) (w : World) : Prop := ∃ a c, u = .slice a (dig 4294967296 m).length c ∧ HAt w w.heap.size a c m
theorem isH_carries (m : Nat) : Carries (IsH m) := fun _ _ _ ⟨a, c, h, hN⟩ hb => ⟨a, c, h, hN.next hb⟩
def IsQR (m r : Nat) (u : Value) (w : World) : Prop := ∃ a c, u = .tuple #[.slice a (dig 4294967296 m).length c, .int .u32 (r : Int)] ∧ HAt w w.heap.size a c m
theorem isQR_carries (m r : Nat) : Carries (IsQR m r) := fun _ _ _ ⟨a, c, h, hN⟩ hb => ⟨a, c, h, hN.next hb⟩
def RetNN (w : World) (m n : Nat) (e : Ending) (w' : World) : Prop := ∃ a c b d, e = .returned (.tuple #[.slice a (dig 18446744073709551616 m).length c, .slice b (dig 18446744073709551616 n).length d]) ∧ NAt w' w'.heap.size a c m ∧ NAt w' w'.heap.size b d n ∧ Below w.heap.size w w'
theorem stored_u64 {w : World} {base g n cap : Nat} {L : List Int} (h : w.ownsRow base 72 1 (.slice (some ⟨g, 0, none⟩) n cap) n (L.map (Value.int .u64))) (j : Nat) (x : Int) : (w.setCell ⟨g, j, none⟩ (.int .u64 x)).ownsRow base 72 1 (.slice (some ⟨g, 0, none⟩) n cap) n ((L.set j x).map (Value.int .u64)) := by
 have := (h.stored j (.int .u64 x)).1
 rwa [map_set] at this
set_option maxHeartbeats 8000000 in
set_option maxRecDepth 100000 in
theorem ndivide_any (a b : Option Addr) (c d m n : Nat) (w : World) (h : NAt w w.heap.size a c m) (h' : NAt w w.heap.size b d n) (hm : (dig 18446744073709551616 m).length ≤ 400000) (hn : (dig 18446744073709551616 n).length ≤ 400000) (hn0 : 0 < n) :
  Calls Tryz.prog 64 #[.slice a (dig 18446744073709551616 m).length c, .slice b (dig 18446744073709551616 n).length d] w (RetNN w (m / n) (m % n)) := by
 have hl1 := dig32_len n
 have hH := fun w' (hb : Below w.heap.size w w') => Lib.hid (halves_any b d n w' (h'.next hb) (by omega))
 have hH2 := fun w' (hb : Below w.heap.size w w') => Lib.hid (halves_any a c m w' (h.next hb) (by omega))
 by_cases hy1 : (dig 4294967296 n).length = 1
 ·as_aux_lemma =>
   obtain ⟨hY1, hY2, hY3⟩ := dig32_one hy1
   have hSH := fun a c w2 h2 => Lib.hid (short_any a c m n w2 h2 (by have := dig32_len m; omega) hn0 hY3)
   have hsm : (dig 4294967296 (m / n)).length ≤ 1000000000 := Nat.le_trans (dig_len_mono (by decide) (Nat.div_le_self m n)) (by have := dig32_len m; omega)
   have hWH := fun a c w2 h2 => Lib.hid (nwhole_any a c (m / n) w2 h2 hsm)
   have hmod : m % n < 4294967296 := Nat.lt_trans (Nat.mod_lt _ hn0) hY3
   have hNO := fun w2 => Lib.hid (nof_any ((m % n : Nat) : Int) ⟨by omega, by omega⟩ w2)
   rw [Int.toNat_natCast] at hNO
   have ew : ∀ [Inhabited Unit], IntKind.u64.wrap ((m % n : Nat) : Int) = ((m % n : Nat) : Int) := by intro _; exact u64_same _ (by omega) (by omega)
   generalize hqq : m / n = q at *
   generalize hrr : m % n = r at *
   clear hqq hrr hmod hsm hm hn hl1
   go_enter Tryz.func64, Tryz.ntmps64
   go_upto_region 3 with (go_at_call 87; refine (hH w (Below.refl _ _)).out.mono ?_; rintro e w1 ⟨ay, cy, rfl, hY, hb1⟩; rw [hy1]; have hYl := hY.li; rw [hY1] at hYl; have hYc := hYl.cell 0 (by simp); obtain ⟨by', oy, ey, hyl, hyc⟩ := hYc; subst ey; have HYC : Hid (w1.cell? ⟨by', oy + 0, none⟩ = some (.int .u32 (n : Int))) := Lib.hid hyc; rw [Nat.add_zero] at HYC; clear hyc hYl hY)
   obtain ⟨W3, rfl⟩ : ∃ W3 : World, W3 = w1 := ⟨_, rfl⟩
   have HBW := Lib.hid hb1
   clear hb1
   refine wp_region_parts2 (w := W3) 11 0 none [] [(fun u _ => u = .slice a (dig 18446744073709551616 m).length c), ((IsH m)), (fun u _ => u = .slice (some ⟨by', oy, none⟩) 1 cy), (fun u _ => u = .pointer (some ⟨by', oy, none⟩)), (fun u _ => u = .int .u32 (n : Int)), ((IsQR q r)), ((IsQR q r)), ((IsH q)), (fun u _ => u = .int .u32 (r : Int)), ((IsH q)), (fun u _ => u = .int .u32 (r : Int))] [some 20, some 21, some 22, some 23, some 24, some 25, some 19, some 26, some 27, some 7, some 8] #[true, true, true, true, true, true, true, true, true, true, true] #[true, true, true, true, true, true, true, true, true, true, true] (by kernel_rfl) rfl (by kernel_rfl) (by kernel_rfl) rfl (by kernel_rfl) (by kernel_rfl) (.cons (carries_eq _) (.cons (isH_carries _) (.cons (carries_eq _) (.cons (carries_eq _) (.cons (carries_eq _) (.cons (isQR_carries _ _) (.cons (isQR_carries _ _) (.cons (isH_carries _) (.cons (carries_eq _) (.cons (isH_carries _) (.cons (carries_eq _) .nil))))))))))) (fun vs b hvl hvb => ?_)
   obtain ⟨x0, x1, x2, x3, x4, x5, x6, x7, x8, x9, x10, rfl⟩ : ∃ x0 x1 x2 x3 x4 x5 x6 x7 x8 x9 x10, vs = [x0, x1, x2, x3, x4, x5, x6, x7, x8, x9, x10] := lst11 hvl
   clear hvl
   simp only [putAll, Act.put, List.setIfInBounds_toArray, List.set_cons_zero, List.set_cons_succ] at hvb
   subst hvb
   refine ⟨(.snoc (.snoc (.snoc (.snoc (.snoc (.snoc (.snoc (.snoc (.snoc (.snoc (.snoc .zero (PartOb.intro (d := (some 20)) (r := fun u _ => u = .slice a (dig 18446744073709551616 m).length c) rfl rfl rfl rfl ?po3x0)) (PartOb.intro (d := (some 21)) (r := (IsH m)) rfl rfl rfl rfl ?po3x1)) (PartOb.intro (d := (some 22)) (r := fun u _ => u = .slice (some ⟨by', oy, none⟩) 1 cy) rfl rfl rfl rfl ?po3x2)) (PartOb.intro (d := (some 23)) (r := fun u _ => u = .pointer (some ⟨by', oy, none⟩)) rfl rfl rfl rfl ?po3x3)) (PartOb.intro (d := (some 24)) (r := fun u _ => u = .int .u32 (n : Int)) rfl rfl rfl rfl ?po3x4)) (PartOb.intro (d := (some 25)) (r := (IsQR q r)) rfl rfl rfl rfl ?po3x5)) (PartOb.intro (d := (some 19)) (r := (IsQR q r)) rfl rfl rfl rfl ?po3x6)) (PartOb.intro (d := (some 26)) (r := (IsH q)) rfl rfl rfl rfl ?po3x7)) (PartOb.intro (d := (some 27)) (r := fun u _ => u = .int .u32 (r : Int)) rfl rfl rfl rfl ?po3x8)) (PartOb.intro (d := (some 7)) (r := (IsH q)) rfl rfl rfl rfl ?po3x9)) (PartOb.intro (d := (some 8)) (r := fun u _ => u = .int .u32 (r : Int)) rfl rfl rfl rfl ?po3x10)), ?pend3, ?pfl3⟩
   case po3x0 | po3x2 =>
    intro w1 hb1 hd KK hK
    go_simp
    exact hK.out _ _ (Below.refl _ _) rfl
   case po3x1 =>
    intro w1 hb1 hd KK hK
    obtain rfl := hd 0 (by kernel_rfl)
    go_simp
    go_at_call 87
    refine (hH2 w1 (HBW.out.trans (hb1.mono HBW.out.size))).out.mono ?_
    rintro e w2 ⟨a2, c2, rfl, hN2, hb2⟩
    (try go_wp2_with fail)
    exact hK.out _ _ hb2 ⟨a2, c2, rfl, hN2⟩
   case po3x3 =>
    intro w1 hb1 hd KK hK
    obtain rfl := hd 2 (by kernel_rfl)
    go_simp
    exact hK.out _ _ (Below.refl _ _) rfl
   case po3x4 =>
    intro w1 hb1 hd KK hK
    obtain rfl := hd 3 (by kernel_rfl)
    have hc := (hb1.cell (p := ⟨by', oy, none⟩) hyl).trans HYC.out
    go_simp
    exact hK.out _ _ (Below.refl _ _) rfl
   case po3x5 =>
    intro w1 hb1 hd KK hK
    obtain ⟨a1, e1, rfl, hN1⟩ := hd 1 (by kernel_rfl)
    obtain rfl := hd 4 (by kernel_rfl)
    go_simp
    go_at_call 96
    refine (hSH a1 e1 w1 hN1).out.mono ?_
    rintro e w2 ⟨a2, c2, rfl, hN2, hb2⟩
    (try go_wp2_with fail)
    exact hK.out _ _ hb2 ⟨a2, c2, rfl, hN2⟩
   case po3x6 =>
    intro w1 hb1 hd KK hK
    obtain ⟨a5, e5, rfl, hN5⟩ := hd 5 (by kernel_rfl)
    go_simp
    exact hK.out _ _ (Below.refl _ _) ⟨_, _, rfl, hN5⟩
   case po3x7 =>
    intro w1 hb1 hd KK hK
    obtain ⟨a6, e6, rfl, hN6⟩ := hd 6 (by kernel_rfl)
    go_simp
    exact hK.out _ _ (Below.refl _ _) ⟨_, _, rfl, hN6⟩
   case po3x8 =>
    intro w1 hb1 hd KK hK
    obtain ⟨a6, e6, rfl, hN6⟩ := hd 6 (by kernel_rfl)
    go_simp
    exact hK.out _ _ (Below.refl _ _) rfl
   case po3x9 =>
    intro w1 hb1 hd KK hK
    obtain rfl := hd 0 (by kernel_rfl)
    obtain ⟨a1, e1, rfl, hN1⟩ := hd 1 (by kernel_rfl)
    obtain rfl := hd 2 (by kernel_rfl)
    obtain rfl := hd 3 (by kernel_rfl)
    obtain rfl := hd 4 (by kernel_rfl)
    obtain ⟨a5, e5, rfl, hN5⟩ := hd 5 (by kernel_rfl)
    obtain ⟨a6, e6, rfl, hN6⟩ := hd 6 (by kernel_rfl)
    obtain ⟨a7, e7, rfl, hN7⟩ := hd 7 (by kernel_rfl)
    go_simp
    exact hK.out _ _ (Below.refl _ _) ⟨_, _, rfl, hN7⟩
   case po3x10 =>
    intro w1 hb1 hd KK hK
    obtain rfl := hd 0 (by kernel_rfl)
    obtain ⟨a1, e1, rfl, hN1⟩ := hd 1 (by kernel_rfl)
    obtain rfl := hd 2 (by kernel_rfl)
    obtain rfl := hd 3 (by kernel_rfl)
    obtain rfl := hd 4 (by kernel_rfl)
    obtain ⟨a5, e5, rfl, hN5⟩ := hd 5 (by kernel_rfl)
    obtain ⟨a6, e6, rfl, hN6⟩ := hd 6 (by kernel_rfl)
    obtain ⟨a7, e7, rfl, hN7⟩ := hd 7 (by kernel_rfl)
    obtain rfl := hd 8 (by kernel_rfl)
    obtain ⟨a9, e9, rfl, hN9⟩ := hd 9 (by kernel_rfl)
    go_simp
    exact hK.out _ _ (Below.refl _ _) rfl
   case pfl3 => (intro f hf; cases hf)
   case pend3 =>
   intro w1 hb1 hR hD
   obtain rfl := hR 0 (by decide)
   obtain ⟨a1, e1, rfl, hN1⟩ := hR 1 (by decide)
   obtain rfl := hR 2 (by decide)
   obtain rfl := hR 3 (by decide)
   obtain rfl := hR 4 (by decide)
   obtain ⟨a5, e5, rfl, hN5⟩ := hR 5 (by decide)
   obtain ⟨a6, e6, rfl, hN6⟩ := hR 6 (by decide)
   obtain ⟨a7, e7, rfl, hN7⟩ := hR 7 (by decide)
   obtain rfl := hR 8 (by decide)
   obtain ⟨a9, e9, rfl, hN9⟩ := hR 9 (by decide)
   obtain rfl := hR 10 (by decide)
   clear hR hD
   refine wpAny_done (by kernel_rfl) ?_ _
   go_wp2_with (first | (go_at_call 88; refine (hWH _ _ _ hN9).out.mono ?_; rintro e w4 ⟨a4, c4, rfl, hN4, hb4⟩) | (go_at_call 30; refine (hNO _).out.mono ?_; rintro e w5 ⟨a5, c5, rfl, hN5, hb5⟩))
   refine bodyPost_ret (v := .tuple #[.slice a4 (dig 18446744073709551616 q).length c4, .slice a5 (dig 18446744073709551616 r).length c5]) (by rw [results_tmp2 rfl]; go_simp) rfl ?_
   exact ⟨a4, c4, a5, c5, rfl, hN4.next hb5, hN5, (HBW.out.trans (hb1.mono HBW.out.size)).trans ((hb4.mono (Nat.le_trans HBW.out.size hb1.size)).trans (hb5.mono (Nat.le_trans HBW.out.size (Nat.le_trans hb1.size hb4.size))))⟩
 ·have hyb : (((dig 4294967296 n).length : Int) == 1) = false := by simp; exact fun e => hy1 (by omega)
  have hLA := fun w' (hb : Below w.heap.size w w') => Lib.hid (nlen_any a c m w'.heap.size w' (h.next hb) (by omega))
  have hLB := fun w' (hb : Below w.heap.size w w') => Lib.hid (nlen_any b d n w'.heap.size w' (h'.next hb) (by omega))
  have hbm := blen_le m
  have hbn := blen_le n
  by_cases hlt : blen m < blen n
  ·as_aux_lemma =>
    have hmn := div_small hn0 hlt
    have eq0 : m / n = 0 := Nat.div_eq_of_lt hmn
    have er0 : m % n = m := Nat.mod_eq_of_lt hmn
    rw [eq0, er0]
    have HN := Lib.hid h
    obtain ⟨Z, hZ⟩ : ∃ Z : Int, (blen m : Int) - (blen n : Int) = Z := ⟨_, rfl⟩
    have hz1 : Z < 0 := by omega
    have hz2 : -9223372036854775808 ≤ Z := by omega
    have e1 : ∀ [Inhabited Unit], RowKit.wrap64 Z = Z := by intro _; exact IntWalk.wrap64_in _ ⟨by omega, by omega⟩
    clear eq0 er0 hmn hbm hbn hm hn hl1 hH2
    generalize blen m = bm at *
    generalize blen n = bn at *
    go_enter Tryz.func64, Tryz.ntmps64
    go_wp2_with (first | (go_at_call 87; refine (hH w (Below.refl _ _)).out.mono ?_; rintro e w1 ⟨ay, cy, rfl, hY, hb1⟩; have HY1 := Lib.hid hY; have HB1 := Lib.hid hb1; clear hY) | (go_at_call_of 97 a; refine (hLA _ HB1.out).out.mono ?_; rintro e w2 ⟨rfl, rfl⟩) | (go_at_call_of 97 b; refine (hLB _ HB1.out).out.mono ?_; rintro e w2 ⟨rfl, rfl⟩))
    refine bodyPost_ret (v := .tuple #[.slice none 0 0, .slice a (dig 18446744073709551616 m).length c]) (by rw [results_tmp2 rfl]; go_simp) rfl ?_
    exact ⟨none, 0, a, c, rfl, nat_zero _ _, HN.out.next HB1.out, HB1.out⟩
  ·as_aux_lemma =>
    obtain ⟨N, hN⟩ : ∃ N, blen m = N + blen n := ⟨blen m - blen n, by omega⟩
    have hst := div_start hn0 hN
    have hDL := fun k hk => div_len hn0 hN (k := k) hk hm
    have hNb : N ≤ 25600000 := by omega
    have zN : ∀ [Inhabited Unit], (blen m : Int) - (blen n : Int) = (N : Int) := by intro _; omega
    have hUP := fun w' (hb : Below w.heap.size w w') => Lib.hid (up2F_any b d n N w' (h'.next hb) (by omega) (by omega))
    rw [up_half] at hUP
    have HA := fun w' (hb : Below w.heap.size w w') => h.next hb
    obtain ⟨M, hM⟩ : ∃ M, M = N / 64 + 1 := ⟨_, rfl⟩
    have hMb : M ≤ 1000000 := by omega
    have hmk := make_nat M (by omega)
    have t1 : ∀ [Inhabited Unit], Int.tdiv (N : Int) 64 = ((N / 64 : Nat) : Int) := by intro _; rw [Int.tdiv_eq_ediv_of_nonneg (by omega)]; rfl
    have t2 : ∀ [Inhabited Unit], (N : Int) / 64 = ((N / 64 : Nat) : Int) := by intro _; rfl
    obtain ⟨Mq, hMq⟩ : ∃ Mq, N / 64 = Mq := ⟨_, rfl⟩
    rw [hMq] at t1 t2
    have t3 : ∀ [Inhabited Unit], (Mq : Int) + 1 = (M : Int) := by intro _; omega
    have t4 : ∀ [Inhabited Unit], RowKit.wrap64 (M : Int) = (M : Int) := by intro _; exact IntWalk.wrap64_in _ ⟨by omega, by omega⟩
    have t5 : ∀ [Inhabited Unit], RowKit.wrap64 (N : Int) = (N : Int) := by intro _; exact IntWalk.wrap64_in _ ⟨by omega, by omega⟩
    have t6 : ¬ (N : Int) < 0 := by omega
    have t7 : ∀ [Inhabited Unit], RowKit.wrap64 (Mq : Int) = (Mq : Int) := by intro _; exact IntWalk.wrap64_in _ ⟨by omega, by omega⟩
    have hMN : ∀ j, j ≤ N → j / 64 < M := by intro j hj; omega
    have HMN := Lib.hid hMN
    have HST := Lib.hid hst
    have HDL := Lib.hid hDL
    have HNA := Lib.hid h
    have hRl : ∀ R, R ≤ m → (dig 18446744073709551616 R).length ≤ 1000000 := fun R hR => Nat.le_trans (dig_len_mono (by decide) hR) (by omega)
    have HRL := Lib.hid hRl
    have HAO := Lib.hid (nat_old h)
    clear hN hst hDL hlt hM hMN hbm hbn hm hn hl1 hH2 hy1 hRl hMq
    generalize blen m = bm at *
    generalize blen n = bn at *
    go_enter Tryz.func64, Tryz.ntmps64
    go_wp2_with (first | (go_at_call 87; refine (hH w (Below.refl _ _)).out.mono ?_; rintro e w1 ⟨ay, cy, rfl, hY, hb1⟩; have HY1 := Lib.hid hY; have HB1 := Lib.hid hb1; clear hY) | (go_at_call_of 97 a; refine (hLA _ HB1.out).out.mono ?_; rintro e w2 ⟨rfl, rfl⟩) | (go_at_call_of 97 b; refine (hLB _ HB1.out).out.mono ?_; rintro e w2 ⟨rfl, rfl⟩) | (go_at_call 29; refine (hUP _ (HB1.out.trans (((Below.refl _ _).alloc (Nat.le_refl _) _).mono HB1.out.size))).out.mono ?_; rintro e w2 ⟨ad0, cd0, rfl, hD2, hb2, hf2⟩; have HD2 := Lib.hid hD2; have HB2 := Lib.hid hb2; have HF2 := Lib.hid hf2; clear hD2 hb2 hf2))
    have row := World.ownsRow_lit (base := w1.heap.size) (e := 72) (size := 1) w1 (madeCells #[Value.int .u64 0] M) M (Nat.le_refl _) (by unfold maxLen; omega) (by rw [size_madeCells, Nat.mul_one])
    rw [made_zeros] at row
    have bel0 : Below w1.heap.size w1 (w1.alloc (.cells (madeCells #[Value.int .u64 0] M) 72)) := (Below.refl _ _).alloc (Nat.le_refl _) _
    have sz1 : (w1.alloc (.cells (madeCells #[Value.int .u64 0] M) 72)).heap.size = w1.heap.size + 1 := by simp
    have row2 := own_below row HB2.out (Nat.le_refl _)
    have bel2 : Below w1.heap.size w1 w2 := bel0.trans (HB2.out.mono (by rw [sz1]; omega))
    have hAD : Away w1.heap.size ad0 := HF2.out.away (by rw [sz1]; omega)
    have HA2 : Hid (NAt w2 w2.heap.size a c m) := Lib.hid (HA w2 (HB1.out.trans (bel2.mono HB1.out.size)))
    have hAA : m = 0 ∨ Away w1.heap.size a := by
     rcases HAO.out with h0 | h0
     ·exact .inl h0
     ·exact nat_old (((HNA.out.below HB1.out (Nat.le_refl _)).mono HB1.out.size))
    have ROW0 := Lib.hid row2
    have BEL0 := Lib.hid bel2
    have HAD := Lib.hid hAD
    have HAA := Lib.hid hAA
    clear row row2 bel0 bel2 sz1 hAD hAA HA hH hLA hLB hUP hmk t1 t2 t3 t4 t5 t6 t7 HB2 HF2 HNA HAO
    have hvz : valB 18446744073709551616 (List.replicate M 0) = 0 := valB_zeros _ _
    go_loopw [11, 12, 13] (fun rv dv iv wr => ∃ (k R D : Nat) (I : Int) (L : List Int) (ar : Option Addr) (cr : Nat) (ad : Option Addr) (cd : Nat), k ≤ N + 1 ∧ iv = .int .i64 I ∧ I = (k : Int) - 1 ∧ rv = .slice ar (dig 18446744073709551616 R).length cr ∧ dv = .slice ad (dig 18446744073709551616 D).length cd ∧ Hid (D = n * 2 ^ k / 2) ∧ Hid (NAt wr wr.heap.size ar cr R) ∧ Hid (NAt wr wr.heap.size ad cd D) ∧ Hid (R = 0 ∨ Away w1.heap.size ar) ∧ Hid (Away w1.heap.size ad) ∧ Hid (Rng 18446744073709551616 L) ∧ Hid (m = n * valB 18446744073709551616 L + R) ∧ Hid (R < n * 2 ^ k) ∧ Hid (valB 18446744073709551616 L % 2 ^ k = 0) ∧ Hid (wr.ownsRow w1.heap.size 72 1 (.slice (some ⟨w1.heap.size, 0, none⟩) M M) M (L.map (Value.int .u64))) ∧ Hid (Below w1.heap.size w1 wr)) (fun _ _ iv _ => (intOf iv + 1).toNat)
    case atStart => exact ⟨N + 1, m, _, N, List.replicate M 0, a, c, ad0, cd0, Nat.le_refl _, rfl, by omega, rfl, rfl, Lib.hid rfl, HA2, HD2, HAA, HAD, Lib.hid (fun x hx => by rw [(List.mem_replicate.1 hx).2]; omega), Lib.hid (by rw [hvz]; omega), HST, Lib.hid (by rw [hvz]; exact Nat.zero_mod _), ROW0, BEL0⟩
    case round =>
     clear HA2 HD2 HAA HAD HST ROW0 BEL0 hvz
     obtain ⟨k, R, D, I, L, ar, cr, ad, cd, hk, rfl, hI, rfl, rfl, HDE, HR, HD, HAR, HAD, HL, HM, HLT, HMOD, HO, HB⟩ := hrel
     obtain ⟨wi, rfl⟩ : ∃ wi : World, wi = wr := ⟨_, rfl⟩
     have HLL := Lib.hid (own_len_k HO.out)
     by_cases hk0 : k = 0
     ·as_aux_lemma =>
       obtain rfl : I = -1 := by omega
       have hlt2 := HLT.out
       rw [hk0] at hlt2
       obtain ⟨hq, hr⟩ := div_end HM.out hlt2
       have HQ := Lib.hid hq
       have HRR := Lib.hid hr
       clear hlt2 hq hr hI hk hk0 HLT HM HMOD HDE HD HAD
       (have hown1 := HO.out; obtain ⟨a4, c4, he, hI⟩ := own_ints hown1 (fun x hx => by have := HL.out x hx; exact wf_u64_iff.2 ⟨by omega, by omega⟩); injection he with e1 e2 e3; clear e2; subst e1; subst e3; have HCP := Lib.hid (own_cap1 hown1); have HCQ : Hid (L.length ≤ M ∧ M ≤ 9223372036854775807) := Lib.hid (by rw [HLL.out]; exact HCP.out); have HI := Lib.hid hI; have HCC := Lib.hid (ntrim_any (some ⟨w1.heap.size, 0, none⟩) M wi.heap.size _ wi hI HCQ.out.1 HCQ.out.2); rw [HQ.out, HLL.out] at HCC; have HDD := Lib.hid (nat_of_ints HI.out HCQ.out); rw [HQ.out] at HDD; clear hown1 hI HI)
       go_wp2_with (first | (go_at_call 65; refine HCC.out.mono ?_; rintro e w4 ⟨rfl, rfl⟩))
       refine bodyPost_ret (v := .tuple #[.slice (some ⟨w1.heap.size, 0, none⟩) (dig 18446744073709551616 (m / n)).length M, .slice ar (dig 18446744073709551616 R).length cr]) (by rw [results_tmp2 rfl]; go_simp) rfl ?_
       refine ⟨_, _, ar, cr, by rw [← HRR.out], HDD.out, ?_, HB1.out.trans (HB.out.mono HB1.out.size)⟩
       rw [← HRR.out]
       exact HR.out
     ·obtain ⟨j, rfl⟩ : ∃ j, k = j + 1 := ⟨k - 1, by omega⟩
      obtain rfl : I = (j : Int) := by omega
      clear hI hk0
      have hCM := Lib.hid (ncmp_any ar ad cr cd R D wi.heap.size wi HR.out HD.out)
      have ej : ∀ [Inhabited Unit], RowKit.wrap64 ((j : Int) - 1) = (j : Int) - 1 := by intro _; exact IntWalk.wrap64_in _ ⟨by omega, by omega⟩
      have j0 : (0 : Int) ≤ (j : Int) := by omega
      have HRm : Hid (R ≤ m) := Lib.hid (by have := HM.out; omega)
      have hDL := HDL.out (j + 1) hk
      rw [← HDE.out] at hDL
      have HDh : Hid (D / 2 ^ 1 = n * 2 ^ j / 2) := Lib.hid (by rw [HDE.out]; exact down_half n j)
      by_cases hge : D ≤ R
      ·as_aux_lemma =>
        have eC : (0 : Int) ≤ cmpN R D := by
         unfold cmpN
         rw [if_neg (by omega)]
         split <;> decide
        skip
        have hLS := fun nq => Lib.hid (nlessF_any ar ad cr cd R D (wi.drewN nq) (HR.out.next (below_drewN0 _ _)) (HD.out.next (below_drewN0 _ _)) (HRL.out R HRm.out) hDL hge)
        have hdb := div_bit HM.out (by rw [← HDE.out]; exact hge) HLT.out HMOD.out
        rw [← HDE.out] at hdb
        obtain ⟨g1, g2, g3⟩ := hdb
        obtain ⟨q, hq⟩ : ∃ q, j / 64 = q := ⟨_, rfl⟩
        obtain ⟨s, hs⟩ : ∃ s, j % 64 = s := ⟨_, rfl⟩
        have hjq : j = 64 * q + s := by omega
        have hsb : s < 64 := by omega
        have hqM : q < M := by rw [← hq]; exact HMN.out j (by omega)
        have a1 : ∀ [Inhabited Unit], Int.tdiv (j : Int) 64 = (q : Int) := by intro _; rw [Int.tdiv_eq_ediv_of_nonneg (by omega)]; omega
        have a2 : ∀ [Inhabited Unit], (j : Int) / 64 = (q : Int) := by intro _; omega
        have a3 : ∀ [Inhabited Unit], Int.tmod (j : Int) 64 = (s : Int) := by intro _; rw [Int.tmod_eq_emod_of_nonneg (by omega)]; omega
        have a4 : ∀ [Inhabited Unit], (j : Int) % 64 = (s : Int) := by intro _; omega
        have a5 : ∀ [Inhabited Unit], IntKind.u64.wrap (s : Int) = (s : Int) := by intro _; exact u64_same _ (by omega) (by omega)
        have hqL : q < L.length := by rw [HLL.out]; exact hqM
        have dL := HL.out.getD (by decide) q
        obtain ⟨x, ex⟩ : ∃ x : Nat, L[q]?.getD 0 = (x : Int) := ⟨(L[q]?.getD 0).toNat, by omega⟩
        rw [ex] at dL
        have hxb := limb_bits HL.out hqL hsb ex (by rw [← hjq]; exact HMOD.out)
        have hp64 : 2 ^ (s + 1) ≤ 2 ^ 64 := Nat.pow_le_pow_right (by decide) (by omega)
        have hps : 2 ^ (s + 1) = 2 * 2 ^ s := by rw [Nat.pow_succ, Nat.mul_comm]
        obtain ⟨t, ht⟩ := Nat.dvd_of_mod_eq_zero hxb
        have h64 : 2 ^ 64 = 2 ^ (s + 1) * 2 ^ (63 - s) := by rw [← Nat.pow_add]; congr 1; omega
        have htl : t < 2 ^ (63 - s) := by
         refine Classical.byContradiction fun hc => ?_
         have := Nat.mul_le_mul_left (2 ^ (s + 1)) (show 2 ^ (63 - s) ≤ t by omega)
         omega
        have hle : x + 2 ^ (s + 1) ≤ 2 ^ 64 := by
         have := Nat.mul_le_mul_left (2 ^ (s + 1)) (show t + 1 ≤ 2 ^ (63 - s) by omega)
         rw [Nat.mul_add, Nat.mul_one] at this
         omega
        obtain ⟨p, hp⟩ : ∃ p : Nat, 2 ^ s = p := ⟨_, rfl⟩
        have hset := set_bit hqL ex rfl hjq (d := x + 2 ^ s)
        rw [hp] at hset hps
        rw [← hset] at g1 g3
        obtain ⟨y, hy⟩ : ∃ y : Nat, y = x + p := ⟨_, rfl⟩
        rw [← hy] at hset g1 g3
        have hp0 : 1 ≤ p := by rw [← hp]; exact Nat.pow_pos (by decide)
        have hyb2 : y < 18446744073709551616 := by omega
        have hpb : p < 18446744073709551616 := by omega
        have hpc : ((2 : Int) ^ s) = (p : Int) := by rw [← hp]; simp
        have hpc1 : ((2 : Int) ^ (s + 1)) = ((2 ^ (s + 1) : Nat) : Int) := by simp
        have r1 : ∀ [Inhabited Unit], IntKind.u64.wrap ((2 : Int) ^ s) = (p : Int) := by intro _; rw [hpc]; exact u64_same _ (by omega) (by omega)
        have hx0 : (x : Int) % 2 ^ (s + 1) = 0 := by rw [hpc1, ← Int.natCast_emod, hxb]; rfl
        have hpl : (p : Int) < 2 ^ (s + 1) := by rw [hpc1]; omega
        have r2 : ∀ [Inhabited Unit], bits BinOp.or IntKind.u64 (x : Int) (p : Int) = (y : Int) := by intro _; rw [bits_join IntKind.u64 64 (by decide) u64_same (s + 1) (x : Int) (p : Int) (by omega) hx0 (by omega) (by omega) hpl (by omega)]; omega
        have HR2 := Lib.hid (HL.out.set q y hyb2)
        have HG1 := Lib.hid g1
        have HG2 := Lib.hid g2
        have HG3 := Lib.hid g3
        have iq : (q : Int) < (M : Int) := by omega
        have iq0 : (0 : Int) ≤ (q : Int) := by omega
        have is1 : (s : Int) < 64 := by omega
        have is0 : (0 : Int) ≤ (s : Int) := by omega
        have HEX := Lib.hid ex
        clear g1 g2 g3 hset hq hs hjq hxb hp64 hps ht h64 htl hle hp hy hpc hpc1 hx0 hpl hqL ex hge HMOD HLT HM
        generalize cmpN R D = CC at *
        have hsz1 : w1.heap.size < wi.heap.size := by
         rcases HO.out.2 with ⟨e1, _⟩ | ⟨g, cap, cur, e1, _, hg, _⟩
         ·cases e1
         ·cases e1
          exact (Array.getElem?_eq_some_iff.1 hg).1
        go_upto_region 16 with (first | (go_at_call 57; refine hCM.out.mono ?_; rintro e w3 ⟨rfl, nq, rfl⟩) | (go_at_call 58; refine (hLS _).out.mono ?_; rintro e w4 ⟨a4, c4, rfl, hN4, hb4, hf4⟩))
        have HO4 : Hid (w4.ownsRow w1.heap.size 72 1 (.slice (some ⟨w1.heap.size, 0, none⟩) M M) M (L.map (Value.int .u64))) := Lib.hid (own_below (w := wi.drewN nq) HO.out hb4 (Nat.le_refl _))
        have cM := own_cell HO4.out hqM
        rw [HEX.out] at cM
        have fM := HO4.out.frozenAt q
        have hb14 : Below w1.heap.size w1 w4 := HB.out.trans (((below_drewN0 wi nq).trans hb4).mono HB.out.size)
        have hA4 : Away w1.heap.size a4 := hf4.away hsz1
        have HN5 := Lib.hid (nat_setAway (g := w1.heap.size) (o := q) (v := .int .u64 (y : Int)) hN4 (.inr hA4))
        have HD5 := Lib.hid (nat_setAway (g := w1.heap.size) (o := q) (v := .int .u64 (y : Int)) ((HD.out.next (below_drewN0 wi nq)).next hb4) (.inr HAD.out))
        have HO5 := Lib.hid (stored_u64 HO4.out q (y : Int))
        have HB5 : Hid (Below w1.heap.size w1 (w4.setCell ⟨w1.heap.size, q, none⟩ (.int .u64 (y : Int)))) := Lib.hid (Below.setCell hb14 (Nat.le_refl _) _)
        have HA4 := Lib.hid hA4
        have hS4 : w1.heap.size < w4.heap.size := Nat.lt_of_lt_of_le (show w1.heap.size < (wi.drewN nq).heap.size from hsz1) hb4.size
        clear hb4 hf4 hN4 hb14 hA4 HO4 HEX
        have hDN := Lib.hid (down2F_any ad cd D 1 _ HD5.out hDL (by decide))
        generalize hw5 : w4.setCell ⟨w1.heap.size, q, none⟩ (.int .u64 (y : Int)) = w5 at HN5 HD5 HO5 HB5 hDN
        have hS5 : w1.heap.size < w5.heap.size := by rw [← hw5]; simpa using hS4
        go_upto_region 17 with fail
        (try rw [hw5])
        clear cM fM hw5 hS4
        go_wp2_with (go_at_call 98; refine hDN.out.mono ?_; rintro e w6 ⟨a6, c6, rfl, hN6, hb6, hf6⟩)
        go_roundw
        case rel => exact ⟨j, R - D, D / 2 ^ 1, _, _, a4, c4, a6, c6, by omega, by go_num, rfl, rfl, rfl, HDh, Lib.hid (HN5.out.next hb6), Lib.hid hN6, Lib.hid (.inr HA4.out), Lib.hid (hf6.away hS5), HR2, HG1, HG2, HG3, Lib.hid (own_below HO5.out hb6 (Nat.le_refl _)), Lib.hid (HB5.out.trans (hb6.mono HB5.out.size))⟩
        case measure => simp [intOf]
      ·as_aux_lemma =>
        have eC : ¬ (0 : Int) ≤ cmpN R D := by
         rw [cmpN_lt (by omega)]
         decide
        have hdn := div_none (n := n) (R := R) (Q := valB 18446744073709551616 L) (j := j) (by rw [← HDE.out]; omega) HMOD.out
        have HG2 := Lib.hid hdn.1
        have HG3 := Lib.hid hdn.2
        have hDN := fun nq => Lib.hid (down2F_any ad cd D 1 (wi.drewN nq) (HD.out.next (below_drewN0 _ _)) hDL (by decide))
        have hsz1 : w1.heap.size < wi.heap.size := by
         rcases HO.out.2 with ⟨e1, _⟩ | ⟨g, cap, cur, e1, _, hg, _⟩
         ·cases e1
         ·cases e1
          exact (Array.getElem?_eq_some_iff.1 hg).1
        clear hdn hge HMOD HLT
        generalize cmpN R D = CC at *
        go_wp2_with (first | (go_at_call 57; refine hCM.out.mono ?_; rintro e w3 ⟨rfl, nq, rfl⟩) | (go_at_call 98; refine (hDN _).out.mono ?_; rintro e w6 ⟨a6, c6, rfl, hN6, hb6, hf6⟩))
        go_roundw
        case rel => exact ⟨j, R, D / 2 ^ 1, _, _, ar, cr, a6, c6, by omega, by go_num, rfl, rfl, rfl, HDh, Lib.hid ((HR.out.next (below_drewN0 _ _)).next hb6), Lib.hid hN6, HAR, Lib.hid (hf6.away hsz1), HL, HM, HG2, HG3, Lib.hid (own_below (w := wi.drewN nq) HO.out hb6 (Nat.le_refl _)), Lib.hid (HB.out.trans (((below_drewN0 _ _).trans hb6).mono HB.out.size))⟩
        case measure => simp [intOf]
set_option maxHeartbeats 4000000 in
set_option maxRecDepth 100000 in
theorem ngcd_any (a b : Option Addr) (c d m n : Nat) (w : World) (h : NAt w w.heap.size a c m) (h' : NAt w w.heap.size b d n) (hm : (dig 18446744073709551616 m).length ≤ 400000) (hn : (dig 18446744073709551616 n).length ≤ 400000) :
  Calls Tryz.prog 63 #[.slice a (dig 18446744073709551616 m).length c, .slice b (dig 18446744073709551616 n).length d] w (RetN w (Nat.gcd m n)) := by
 have hHa := Lib.hid h
 have hHb := Lib.hid h'
 have hHm := Lib.hid hm
 have hHn := Lib.hid hn
 clear h h' hm hn
 go_enter Tryz.func63, Tryz.ntmps63
 go_wp2
 go_loopg [0, 1] n (fun gk av bv wr => ∃ (A : Nat) (aa : Option Addr) (ca : Nat) (bb : Option Addr) (cb : Nat), av = .slice aa (dig 18446744073709551616 A).length ca ∧ bv = .slice bb (dig 18446744073709551616 gk).length cb ∧ Hid (NAt wr wr.heap.size aa ca A) ∧ Hid (NAt wr wr.heap.size bb cb gk) ∧ Hid (Nat.gcd A gk = Nat.gcd m n) ∧ Hid ((dig 18446744073709551616 A).length ≤ 400000) ∧ Hid ((dig 18446744073709551616 gk).length ≤ 400000) ∧ Hid (Below w.heap.size w wr))
 case atStart => exact ⟨m, a, c, b, d, rfl, rfl, hHa, hHb, Lib.hid rfl, hHm, hHn, Lib.hid (Below.refl _ _)⟩
 case round =>
  obtain ⟨A, aa, ca, bb, cb, rfl, rfl, HA, HB, HG, HLA, HLB, HW⟩ := hrel
  obtain ⟨wi, rfl⟩ : ∃ wi : World, wi = wr := ⟨_, rfl⟩
  clear hHa hHb hHm hHn
  by_cases h0 : gk = 0
  ·subst h0
   have hg := HG.out
   rw [Nat.gcd_zero_right] at hg
   have HGG := Lib.hid hg
   have hl0 : ¬ (0 : Int) < ((dig 18446744073709551616 0).length : Int) := by rw [dig_zero]; decide
   clear hg
   go_wp2
   go_ret
   exact ⟨aa, ca, by rw [← HGG.out]; rfl, by rw [← HGG.out]; exact HA.out, HW.out⟩
  ·have hl : (0 : Int) < ((dig 18446744073709551616 gk).length : Int) := by have := (dig_len_zero (B := 18446744073709551616) (m := gk) (by decide)); omega
   have HD := Lib.hid (ndivide_any aa bb ca cb A gk wi HA.out HB.out HLA.out HLB.out (by omega))
   have HLT := Lib.hid (Nat.mod_lt A (show 0 < gk by omega))
   clear h0
   go_wp2_with (go_at_call 64; refine HD.out.mono ?_; rintro e w4 ⟨a4, c4, a5, c5, rfl, hN4, hN5, hb4⟩; have HN5 := Lib.hid hN5; have HB4 := Lib.hid hb4; clear hN4 hN5 hb4)
   go_roundg (A % gk)
   case measure => exact HLT.out
   case rel => exact ⟨gk, bb, cb, a5, c5, rfl, rfl, Lib.hid (HB.out.next HB4.out), HN5, Lib.hid (by rw [← HG.out, Nat.gcd_comm A gk, Nat.gcd_rec gk A, Nat.gcd_comm]), HLB, Lib.hid (Nat.le_trans (dig_len_mono (by decide) (Nat.mod_le A gk)) HLA.out), Lib.hid (HW.out.trans (HB4.out.mono HW.out.size))⟩
theorem right_pos {x : Int} {p : Nat} (hp : 0 < p) (h : ¬ x < 0) : sgnZ (decide (x < 0)) (x.natAbs / p) = x / (p : Int) := by
 obtain ⟨m, rfl⟩ := Int.eq_ofNat_of_zero_le (show 0 ≤ x by omega)
 rw [decide_eq_false h]
 unfold sgnZ
 rw [if_neg (by decide)]
 simp
theorem right_negE {x : Int} {p : Nat} (hp : 0 < p) (h : x < 0) (he : x.natAbs / p * p = x.natAbs) : sgnZ (decide (x < 0)) (x.natAbs / p) = x / (p : Int) := by
 obtain ⟨m, hm⟩ : ∃ m : Nat, x.natAbs = m := ⟨_, rfl⟩
 have ex : x = -(m : Int) := by omega
 rw [hm] at he ⊢
 rw [decide_eq_true h]
 unfold sgnZ
 rw [if_pos rfl]
 obtain ⟨q, hq⟩ : ∃ q, m / p = q := ⟨_, rfl⟩
 rw [hq] at he ⊢
 have e2 : x = (p : Int) * (-(q : Int)) := by rw [ex, ← he, Int.natCast_mul, Int.mul_neg, Int.mul_comm]
 rw [e2, Int.mul_ediv_cancel_left _ (by omega)]
theorem right_neg {x : Int} {p : Nat} (hp : 0 < p) (h : x < 0) (he : x.natAbs / p * p ≠ x.natAbs) : sgnZ (decide (x < 0)) (x.natAbs / p + 1) = x / (p : Int) := by
 obtain ⟨m, hm⟩ : ∃ m : Nat, x.natAbs = m := ⟨_, rfl⟩
 have ex : x = -(m : Int) := by omega
 rw [hm] at he ⊢
 rw [decide_eq_true h]
 unfold sgnZ
 rw [if_pos rfl]
 have h1 := Nat.div_add_mod m p
 have h2 := Nat.mod_lt m hp
 obtain ⟨q, hq⟩ : ∃ q, m / p = q := ⟨_, rfl⟩
 obtain ⟨r, hr⟩ : ∃ r, m % p = r := ⟨_, rfl⟩
 rw [hq] at he h1 ⊢
 rw [hr] at h1 h2
 have hr0 : 0 < r := by
  refine Classical.byContradiction fun hc => he ?_
  rw [Nat.mul_comm]
  omega
 have e2 : x = (p : Int) * (-((q : Int) + 1)) + ((p : Int) - (r : Int)) := by
  have e3 : (m : Int) = (p : Int) * (q : Int) + (r : Int) := by rw [← h1, Int.natCast_add, Int.natCast_mul]
  rw [ex, e3, Int.mul_neg, Int.mul_add, Int.mul_one]
  omega
 rw [e2, Int.add_comm, Int.add_mul_ediv_left _ _ (by omega : (p : Int) ≠ 0), Int.ediv_eq_zero_of_lt (by omega) (by omega)]
 omega
def IsN (m : Nat) (u : Value) (w : World) : Prop := ∃ a c, u = .slice a (dig 18446744073709551616 m).length c ∧ NAt w w.heap.size a c m
theorem isN_carries (m : Nat) : Carries (IsN m) := fun _ _ _ ⟨a, c, h, hN⟩ hb => ⟨a, c, h, hN.next hb⟩
theorem cellB {W w1 : World} {b o : Nat} {v : Value} (hb : Below W.heap.size W w1) (hc : W.cell? ⟨b, o, none⟩ = some v) (hlt : b < W.heap.size) : w1.cell? ⟨b, o, none⟩ = some v := (hb.cell (p := ⟨b, o, none⟩) hlt).trans hc
set_option maxHeartbeats 8000000 in
set_option maxRecDepth 100000 in
theorem zright_any (a : Option Addr) (c n : Nat) (x z : Int) (w : World) (h : NAt w w.heap.size a c x.natAbs) (hx : (dig 18446744073709551616 x.natAbs).length ≤ 1000000) (hn : n ≤ 60000000) (hz : x / ((2 ^ n : Nat) : Int) = z) :
  Calls Tryz.prog 93 #[.agg #[.bool (decide (x < 0)), .slice a (dig 18446744073709551616 x.natAbs).length c], .int .i64 n] w (RetZ w z) := by
 have hDN := fun w' (hb : Below w.heap.size w w') => Lib.hid (down2_any a c x.natAbs n w' (h.next hb) hx hn)
 have HH := Lib.hid h
 obtain ⟨X, hX⟩ : ∃ X, dig 18446744073709551616 x.natAbs = X := ⟨_, rfl⟩
 have HXE := Lib.hid hX
 obtain ⟨m, hm⟩ : ∃ m, x.natAbs / 2 ^ n = m := ⟨_, rfl⟩
 have hp : 0 < 2 ^ n := Nat.pow_pos (by decide)
 have HMW := Lib.hid (Nat.le_trans (dig_len_mono (by decide) (by rw [← hm]; exact Nat.div_le_self x.natAbs (2 ^ n))) hx : (dig 18446744073709551616 m).length ≤ 1000000)
 rw [hX] at hDN ⊢
 rw [hm] at hDN
 by_cases hs : x < 0
 ·have ez := fun he => right_negE hp hs he
  have en := fun he => right_neg hp hs he
  rw [hm, hz] at ez
  rw [hm, hz] at en
  have hUP := fun a5 c5 w5 (h5 : NAt w5 w5.heap.size a5 c5 m) => Lib.hid (up2_any a5 c5 m n w5 h5 HMW.out hn)
  have hCM := fun a6 c6 (w6 : World) (h6 : NAt w6 w6.heap.size a6 c6 (m * 2 ^ n)) (hb : Below w.heap.size w w6) => Lib.hid (ncmp_any a6 a c6 c (m * 2 ^ n) x.natAbs w6.heap.size w6 h6 (HH.out.next hb))
  rw [hX] at hCM
  obtain ⟨C, hC⟩ : ∃ C, cmpN (m * 2 ^ n) x.natAbs = C := ⟨_, rfl⟩
  rw [hC] at hCM
  rw [decide_eq_true hs]
  rw [decide_eq_true hs] at ez en
  have HC := Lib.hid hC
  have HHX := HH
  clear h hm hC hX hs
  as_aux_lemma =>
   go_enter Tryz.func93, Tryz.ntmps93
   go_upto_region 2 with (go_at_call 98; refine (hDN _ (((Below.refl _ _).alloc (Nat.le_refl _) _).alloc (by simp) _)).out.mono ?_; rintro e w5 ⟨a5, c5, rfl, hN5, hb5⟩; have X5 := NBox2.below (b := w.heap.size + 1) (v0 := .bool false) (v1 := .slice none 0 0) (by constructor <;> go_simp) hb5 (by first | omega | (simp <;> omega)); have Y5 := NBox2.below (b := w.heap.size) (v0 := .bool (true)) (v1 := .slice a X.length c) (by constructor <;> go_simp) hb5 (by first | omega | (simp <;> omega)); have hs5 := hb5.size; (try simp at hs5); have HB5 : Hid (Below w.heap.size w w5) := Lib.hid (Below.trans (by (repeat' (first | exact Below.refl _ _ | refine Below.drew ?_ | refine Below.setCell ?_ (by first | omega | (simp <;> omega)) _ | refine Below.alloc ?_ (by first | omega | (simp <;> omega)) _))) (hb5.mono (by first | omega | (simp <;> omega)))); have HN5 := Lib.hid hN5; have HX5 := Lib.hid X5; have HY5 := Lib.hid Y5; obtain ⟨x0, x1, x2, x3⟩ := X5; obtain ⟨y0, y1, y2, y3⟩ := Y5; clear hN5 hb5)
   obtain ⟨W2, rfl⟩ : ∃ W2 : World, W2 = w5 := ⟨_, rfl⟩
   clear x0 x1 x2 x3 y0 y1 y2 y3
   have hpt : w.heap.size + 1 < W2.heap.size := by omega
   refine wp_region_parts2 (w := W2) 11 0 none [] [(fun u _ => u = .pointer (some ⟨w.heap.size, 0, none⟩)), (fun u _ => u = .bool true), (fun u _ => u = .bool true), (fun u _ => u = .slice a5 (dig 18446744073709551616 m).length c5), (fun u _ => u = .int .i64 n), ((IsN (m * 2 ^ n))), (fun u _ => u = .pointer (some ⟨w.heap.size, 1, none⟩)), (fun u _ => u = .slice a X.length c), (fun u _ => u = .int .i64 C), (fun u _ => u = .bool (C != 0)), (fun u _ => u = .bool (C != 0))] [some 10, some 11, some 12, some 13, some 14, some 15, some 16, some 17, some 18, some 19, some 20] #[true, true, true, true, true, true, true, true, true, true, true] #[true, true, true, true, true, true, true, true, true, true, true] (by kernel_rfl) rfl (by kernel_rfl) (by kernel_rfl) rfl (by kernel_rfl) (by kernel_rfl) (.cons (carries_eq _) (.cons (carries_eq _) (.cons (carries_eq _) (.cons (carries_eq _) (.cons (carries_eq _) (.cons (isN_carries _) (.cons (carries_eq _) (.cons (carries_eq _) (.cons (carries_eq _) (.cons (carries_eq _) (.cons (carries_eq _) .nil))))))))))) (fun vs b hvl hvb => ?_)
   obtain ⟨x0, x1, x2, x3, x4, x5, x6, x7, x8, x9, x10, rfl⟩ : ∃ x0 x1 x2 x3 x4 x5 x6 x7 x8 x9 x10, vs = [x0, x1, x2, x3, x4, x5, x6, x7, x8, x9, x10] := lst11 hvl
   clear hvl
   simp only [putAll, Act.put, List.setIfInBounds_toArray, List.set_cons_zero, List.set_cons_succ] at hvb
   subst hvb
   refine ⟨(.snoc (.snoc (.snoc (.snoc (.snoc (.snoc (.snoc (.snoc (.snoc (.snoc (.snoc .zero (PartOb.intro (d := (some 10)) (r := fun u _ => u = .pointer (some ⟨w.heap.size, 0, none⟩)) rfl rfl rfl rfl ?po2x0)) (PartOb.intro (d := (some 11)) (r := fun u _ => u = .bool true) rfl rfl rfl rfl ?po2x1)) (PartOb.intro (d := (some 12)) (r := fun u _ => u = .bool true) rfl rfl rfl rfl ?po2x2)) (PartOb.intro (d := (some 13)) (r := fun u _ => u = .slice a5 (dig 18446744073709551616 m).length c5) rfl rfl rfl rfl ?po2x3)) (PartOb.intro (d := (some 14)) (r := fun u _ => u = .int .i64 n) rfl rfl rfl rfl ?po2x4)) (PartOb.intro (d := (some 15)) (r := (IsN (m * 2 ^ n))) rfl rfl rfl rfl ?po2x5)) (PartOb.intro (d := (some 16)) (r := fun u _ => u = .pointer (some ⟨w.heap.size, 1, none⟩)) rfl rfl rfl rfl ?po2x6)) (PartOb.intro (d := (some 17)) (r := fun u _ => u = .slice a X.length c) rfl rfl rfl rfl ?po2x7)) (PartOb.intro (d := (some 18)) (r := fun u _ => u = .int .i64 C) rfl rfl rfl rfl ?po2x8)) (PartOb.intro (d := (some 19)) (r := fun u _ => u = .bool (C != 0)) rfl rfl rfl rfl ?po2x9)) (PartOb.intro (d := (some 20)) (r := fun u _ => u = .bool (C != 0)) rfl rfl rfl rfl ?po2x10)), ?pend2, ?pfl2⟩
   case po2x0 =>
    intro w1 hb1 hd KK hK
    go_simp
    exact hK.out _ _ (Below.refl _ _) rfl
   case po2x1 =>
    intro w1 hb1 hd KK hK
    obtain rfl := hd 0 (by kernel_rfl)
    have hc := cellB hb1 HY5.out.c0 (by omega)
    go_simp
    exact hK.out _ _ (Below.refl _ _) rfl
   case po2x2 =>
    intro w1 hb1 hd KK hK
    obtain rfl := hd 1 (by kernel_rfl)
    go_simp
    exact hK.out _ _ (Below.refl _ _) rfl
   case po2x3 | po2x4 | po2x6 =>
    intro w1 hb1 hd KK hK
    obtain rfl := hd 2 (by kernel_rfl)
    go_simp
    exact hK.out _ _ (Below.refl _ _) rfl
   case po2x5 =>
    intro w1 hb1 hd KK hK
    obtain rfl := hd 2 (by kernel_rfl)
    obtain rfl := hd 3 (by kernel_rfl)
    obtain rfl := hd 4 (by kernel_rfl)
    go_simp
    go_at_call 29
    refine (hUP a5 c5 w1 (HN5.out.next hb1)).out.mono ?_
    rintro e w2 ⟨a2, c2, rfl, hN2, hb2⟩
    (try go_wp2_with fail)
    exact hK.out _ _ hb2 ⟨a2, c2, rfl, hN2⟩
   case po2x7 =>
    intro w1 hb1 hd KK hK
    obtain rfl := hd 2 (by kernel_rfl)
    obtain rfl := hd 6 (by kernel_rfl)
    have hc := cellB hb1 HY5.out.c1 (by omega)
    go_simp
    exact hK.out _ _ (Below.refl _ _) rfl
   case po2x8 =>
    intro w1 hb1 hd KK hK
    obtain rfl := hd 2 (by kernel_rfl)
    obtain ⟨a7, e7, rfl, hN5⟩ := hd 5 (by kernel_rfl)
    obtain rfl := hd 7 (by kernel_rfl)
    go_simp
    go_at_call 57
    refine (hCM _ _ w1 hN5 (HB5.out.trans (hb1.mono HB5.out.size))).out.mono ?_
    rintro e w2 ⟨rfl, q, rfl⟩
    (try go_wp2_with fail)
    exact hK.out _ _ (below_drewN0 _ _) rfl
   case po2x9 =>
    intro w1 hb1 hd KK hK
    obtain rfl := hd 2 (by kernel_rfl)
    obtain rfl := hd 8 (by kernel_rfl)
    go_simp
    exact hK.out _ _ (Below.refl _ _) rfl
   case po2x10 =>
    intro w1 hb1 hd KK hK
    obtain rfl := hd 2 (by kernel_rfl)
    obtain rfl := hd 9 (by kernel_rfl)
    go_simp
    exact hK.out _ _ (Below.refl _ _) rfl
   case pfl2 => (intro f hf; cases hf)
   case pend2 =>
   intro w1 hb1 hR hD
   obtain rfl := hR 0 (by decide)
   obtain rfl := hR 1 (by decide)
   obtain rfl := hR 2 (by decide)
   obtain rfl := hR 3 (by decide)
   obtain rfl := hR 4 (by decide)
   obtain ⟨a7, e7, rfl, hN5⟩ := hR 5 (by decide)
   obtain rfl := hR 6 (by decide)
   obtain rfl := hR 7 (by decide)
   obtain rfl := hR 8 (by decide)
   obtain rfl := hR 9 (by decide)
   obtain rfl := hR 10 (by decide)
   clear hR hD
   refine wpAny_done (by kernel_rfl) ?_ _
   have X6 := HX5.out.below hb1 (by omega)
   have Y6 := HY5.out.below hb1 (by omega)
   have HB6 : Hid (Below w.heap.size w w1) := Lib.hid (HB5.out.trans (hb1.mono HB5.out.size))
   have HN6 := Lib.hid (HN5.out.next hb1)
   have hs6 := hb1.size
   clear HN5 HX5 HY5 hb1 hN5 HB5
   have HXX := Lib.hid X6
   have HYY := Lib.hid Y6
   obtain ⟨x0, x1, x2, x3⟩ := X6
   obtain ⟨y0, y1, y2, y3⟩ := Y6
   by_cases hC0 : C = 0
   ·as_aux_lemma =>
     have he : m * 2 ^ n = x.natAbs := by
      have hc := HC.out
      rw [hC0] at hc
      unfold cmpN at hc
      split at hc
      ·cases hc
      ·split at hc
       ·cases hc
       ·omega
     have HEZ := Lib.hid (ez he)
     have HBW := HB6
     clear HB6 ez en he
     have HN7 := HN6
     clear HN6
     subst hC0
     go_wp2_with (go_at_call 55; have HM := Lib.hid (made_any true _ _ _ _ HN7.out); rw [HEZ.out] at HM; refine HM.out.mono ?_; rintro e w8 ⟨a6, c6, rfl, hN8, hb8⟩; have HN6 := Lib.hid hN8; have X8 := NBox2.below (b := w.heap.size + 1) (v0 := .bool false) (v1 := .slice none 0 0) ⟨x0, x1, x2, x3⟩ hb8 (by first | omega | (simp <;> omega)); have HX6 := Lib.hid X8; have HB6 := Lib.hid (HBW.out.trans (hb8.mono HBW.out.size)); clear x0 x1 x2 x3; obtain ⟨x0, x1, x2, x3⟩ := X8; have hs8 := hb8.size; clear hN8 hb8)
     refine bodyPost_ret (v := .agg #[.bool (decide ((z) < 0)), .slice a6 (dig 18446744073709551616 (z).natAbs).length c6]) (by rw [nres_c1 rfl]; go_simp) rfl ?_
     exact retZ_box (by omega) HN6.out HX6.out (by intro z h; cases h) (by intro z h; cases h) HB6.out _ _
   ·as_aux_lemma =>
     have he : m * 2 ^ n ≠ x.natAbs := fun e => hC0 (by rw [← HC.out, e]; exact cmpN_eq _)
     have HEZ := Lib.hid (en he)
     have hCb : (C != 0) = true := by simp; exact hC0
     have HOF := fun w => Lib.hid (nof_any 1 (by decide) w)
     have HNP := fun a c w h1 h2 => Lib.hid (nplus_any a5 a c5 c m 1 w h1 h2 HMW.out (by decide))
     clear ez en he HC
     go_wp2_with (first | (go_at_call 30; refine (HOF _).out.mono ?_; rintro e w6 ⟨a7, c7, rfl, hN7, hb6⟩; have HN7 := Lib.hid hN7; have X6 := NBox2.below (b := w.heap.size + 1) (v0 := .bool false) (v1 := .slice none 0 0) ⟨x0, x1, x2, x3⟩ hb6 (by first | omega | (simp <;> omega)); have Y6 := NBox2.below (b := w.heap.size) (v0 := .bool (true)) (v1 := .slice a X.length c) ⟨y0, y1, y2, y3⟩ hb6 (by first | omega | (simp <;> omega)); clear x0 x1 x2 x3 y0 y1 y2 y3; obtain ⟨x0, x1, x2, x3⟩ := X6; obtain ⟨y0, y1, y2, y3⟩ := Y6; have hs7 := hb6.size; have HB7 : Hid (Below w.heap.size w w6) := Lib.hid (HB6.out.trans (hb6.mono HB6.out.size)); have HNm := Lib.hid (HN6.out.next hb6); clear hN7 hb6) | (go_at_call 56; refine (HNP _ _ _ HNm.out HN7.out).out.mono ?_; rintro e w7 ⟨a8, c8, rfl, hN8, hb7⟩; have HN8 := Lib.hid hN8; have X7 := NBox2.below (b := w.heap.size + 1) (v0 := .bool false) (v1 := .slice none 0 0) ⟨x0, x1, x2, x3⟩ hb7 (by first | omega | (simp <;> omega)); have Y7 := NBox2.below (b := w.heap.size) (v0 := .bool (true)) (v1 := .slice a X.length c) ⟨y0, y1, y2, y3⟩ hb7 (by first | omega | (simp <;> omega)); clear x0 x1 x2 x3 y0 y1 y2 y3; obtain ⟨x0, x1, x2, x3⟩ := X7; obtain ⟨y0, y1, y2, y3⟩ := Y7; have hs9 := hb7.size; have HBW : Hid (Below w.heap.size w w7) := Lib.hid (HB7.out.trans (hb7.mono HB7.out.size)); clear hN8 hb7) | (go_at_call 55; have HM := Lib.hid (made_any true _ _ _ _ HN8.out); rw [HEZ.out] at HM; refine HM.out.mono ?_; rintro e w8 ⟨a6, c6, rfl, hN8, hb8⟩; have HN6 := Lib.hid hN8; have X8 := NBox2.below (b := w.heap.size + 1) (v0 := .bool false) (v1 := .slice none 0 0) ⟨x0, x1, x2, x3⟩ hb8 (by first | omega | (simp <;> omega)); have HX6 := Lib.hid X8; have HB6 := Lib.hid (HBW.out.trans (hb8.mono HBW.out.size)); clear x0 x1 x2 x3; obtain ⟨x0, x1, x2, x3⟩ := X8; have hs8 := hb8.size; clear hN8 hb8))
     refine bodyPost_ret (v := .agg #[.bool (decide ((z) < 0)), .slice a6 (dig 18446744073709551616 (z).natAbs).length c6]) (by rw [nres_c1 rfl]; go_simp) rfl ?_
     exact retZ_box (by omega) HN6.out HX6.out (by intro z h; cases h) (by intro z h; cases h) HB6.out _ _
 ·have ez := right_pos hp hs
  rw [hm, hz] at ez
  rw [decide_eq_false hs]
  rw [decide_eq_false hs] at ez
  have HEZ := Lib.hid ez
  clear h hm hX hs ez
  as_aux_lemma =>
   go_enter Tryz.func93, Tryz.ntmps93
   go_upto_region 2 with (go_at_call 98; refine (hDN _ (((Below.refl _ _).alloc (Nat.le_refl _) _).alloc (by simp) _)).out.mono ?_; rintro e w5 ⟨a5, c5, rfl, hN5, hb5⟩; have X5 := NBox2.below (b := w.heap.size + 1) (v0 := .bool false) (v1 := .slice none 0 0) (by constructor <;> go_simp) hb5 (by first | omega | (simp <;> omega)); have Y5 := NBox2.below (b := w.heap.size) (v0 := .bool (false)) (v1 := .slice a X.length c) (by constructor <;> go_simp) hb5 (by first | omega | (simp <;> omega)); have hs5 := hb5.size; (try simp at hs5); have HB5 : Hid (Below w.heap.size w w5) := Lib.hid (Below.trans (by (repeat' (first | exact Below.refl _ _ | refine Below.drew ?_ | refine Below.setCell ?_ (by first | omega | (simp <;> omega)) _ | refine Below.alloc ?_ (by first | omega | (simp <;> omega)) _))) (hb5.mono (by first | omega | (simp <;> omega)))); have HN5 := Lib.hid hN5; have HX5 := Lib.hid X5; have HY5 := Lib.hid Y5; obtain ⟨x0, x1, x2, x3⟩ := X5; obtain ⟨y0, y1, y2, y3⟩ := Y5; clear hN5 hb5)
   obtain ⟨W2, rfl⟩ : ∃ W2 : World, W2 = w5 := ⟨_, rfl⟩
   clear x0 x1 x2 x3 y0 y1 y2 y3
   have hpt : w.heap.size + 1 < W2.heap.size := by omega
   refine wp_region_parts2 (w := W2) 11 0 none [] [(fun u _ => u = .pointer (some ⟨w.heap.size, 0, none⟩)), (fun u _ => u = .bool false), (fun u _ => u = .bool false), (fun u _ => u = undef), (fun u _ => u = undef), (fun u _ => u = undef), (fun u _ => u = undef), (fun u _ => u = undef), (fun u _ => u = undef), (fun u _ => u = undef), (fun u _ => u = .bool false)] [some 10, some 11, some 12, some 13, some 14, some 15, some 16, some 17, some 18, some 19, some 20] #[true, true, true, true, true, true, true, true, true, true, true] #[true, true, true, true, true, true, true, true, true, true, true] (by kernel_rfl) rfl (by kernel_rfl) (by kernel_rfl) rfl (by kernel_rfl) (by kernel_rfl) (.cons (carries_eq _) (.cons (carries_eq _) (.cons (carries_eq _) (.cons (carries_eq _) (.cons (carries_eq _) (.cons (carries_eq _) (.cons (carries_eq _) (.cons (carries_eq _) (.cons (carries_eq _) (.cons (carries_eq _) (.cons (carries_eq _) .nil))))))))))) (fun vs b hvl hvb => ?_)
   obtain ⟨x0, x1, x2, x3, x4, x5, x6, x7, x8, x9, x10, rfl⟩ : ∃ x0 x1 x2 x3 x4 x5 x6 x7 x8 x9 x10, vs = [x0, x1, x2, x3, x4, x5, x6, x7, x8, x9, x10] := lst11 hvl
   clear hvl
   simp only [putAll, Act.put, List.setIfInBounds_toArray, List.set_cons_zero, List.set_cons_succ] at hvb
   subst hvb
   refine ⟨(.snoc (.snoc (.snoc (.snoc (.snoc (.snoc (.snoc (.snoc (.snoc (.snoc (.snoc .zero (PartOb.intro (d := (some 10)) (r := fun u _ => u = .pointer (some ⟨w.heap.size, 0, none⟩)) rfl rfl rfl rfl ?po2x0)) (PartOb.intro (d := (some 11)) (r := fun u _ => u = .bool false) rfl rfl rfl rfl ?po2x1)) (PartOb.intro (d := (some 12)) (r := fun u _ => u = .bool false) rfl rfl rfl rfl ?po2x2)) (PartOb.intro (d := (some 13)) (r := fun u _ => u = undef) rfl rfl rfl rfl ?po2x3)) (PartOb.intro (d := (some 14)) (r := fun u _ => u = undef) rfl rfl rfl rfl ?po2x4)) (PartOb.intro (d := (some 15)) (r := fun u _ => u = undef) rfl rfl rfl rfl ?po2x5)) (PartOb.intro (d := (some 16)) (r := fun u _ => u = undef) rfl rfl rfl rfl ?po2x6)) (PartOb.intro (d := (some 17)) (r := fun u _ => u = undef) rfl rfl rfl rfl ?po2x7)) (PartOb.intro (d := (some 18)) (r := fun u _ => u = undef) rfl rfl rfl rfl ?po2x8)) (PartOb.intro (d := (some 19)) (r := fun u _ => u = undef) rfl rfl rfl rfl ?po2x9)) (PartOb.intro (d := (some 20)) (r := fun u _ => u = .bool false) rfl rfl rfl rfl ?po2x10)), ?pend2, ?pfl2⟩
   case po2x0 =>
    intro w1 hb1 hd KK hK
    go_simp
    exact hK.out _ _ (Below.refl _ _) rfl
   case po2x1 =>
    intro w1 hb1 hd KK hK
    obtain rfl := hd 0 (by kernel_rfl)
    have hc := cellB hb1 HY5.out.c0 (by omega)
    go_simp
    exact hK.out _ _ (Below.refl _ _) rfl
   case po2x2 =>
    intro w1 hb1 hd KK hK
    obtain rfl := hd 1 (by kernel_rfl)
    go_simp
    exact hK.out _ _ (Below.refl _ _) rfl
   case po2x3 | po2x4 | po2x6 =>
    intro w1 hb1 hd KK hK
    obtain rfl := hd 2 (by kernel_rfl)
    go_simp
    exact hK.out _ _ (Below.refl _ _) rfl
   case po2x5 =>
    intro w1 hb1 hd KK hK
    obtain rfl := hd 2 (by kernel_rfl)
    obtain rfl := hd 3 (by kernel_rfl)
    obtain rfl := hd 4 (by kernel_rfl)
    go_simp
    exact hK.out _ _ (Below.refl _ _) rfl
   case po2x7 =>
    intro w1 hb1 hd KK hK
    obtain rfl := hd 2 (by kernel_rfl)
    obtain rfl := hd 6 (by kernel_rfl)
    go_simp
    exact hK.out _ _ (Below.refl _ _) rfl
   case po2x8 =>
    intro w1 hb1 hd KK hK
    obtain rfl := hd 2 (by kernel_rfl)
    obtain rfl := hd 5 (by kernel_rfl)
    obtain rfl := hd 7 (by kernel_rfl)
    go_simp
    exact hK.out _ _ (Below.refl _ _) rfl
   case po2x9 =>
    intro w1 hb1 hd KK hK
    obtain rfl := hd 2 (by kernel_rfl)
    obtain rfl := hd 8 (by kernel_rfl)
    go_simp
    exact hK.out _ _ (Below.refl _ _) rfl
   case po2x10 =>
    intro w1 hb1 hd KK hK
    obtain rfl := hd 2 (by kernel_rfl)
    obtain rfl := hd 9 (by kernel_rfl)
    go_simp
    exact hK.out _ _ (Below.refl _ _) rfl
   case pfl2 => (intro f hf; cases hf)
   case pend2 =>
   intro w1 hb1 hR hD
   obtain rfl := hR 0 (by decide)
   obtain rfl := hR 1 (by decide)
   obtain rfl := hR 2 (by decide)
   obtain rfl := hR 3 (by decide)
   obtain rfl := hR 4 (by decide)
   obtain rfl := hR 5 (by decide)
   obtain rfl := hR 6 (by decide)
   obtain rfl := hR 7 (by decide)
   obtain rfl := hR 8 (by decide)
   obtain rfl := hR 9 (by decide)
   obtain rfl := hR 10 (by decide)
   clear hR hD
   refine wpAny_done (by kernel_rfl) ?_ _
   have X6 := HX5.out.below hb1 (by omega)
   have Y6 := HY5.out.below hb1 (by omega)
   have HBW : Hid (Below w.heap.size w w1) := Lib.hid (HB5.out.trans (hb1.mono HB5.out.size))
   have HN7 := Lib.hid (HN5.out.next hb1)
   have hs6 := hb1.size
   clear HN5 HX5 HY5 hb1 HB5
   obtain ⟨x0, x1, x2, x3⟩ := X6
   obtain ⟨y0, y1, y2, y3⟩ := Y6
   go_wp2_with (go_at_call 55; have HM := Lib.hid (made_any false _ _ _ _ HN7.out); rw [HEZ.out] at HM; refine HM.out.mono ?_; rintro e w8 ⟨a6, c6, rfl, hN8, hb8⟩; have HN6 := Lib.hid hN8; have X8 := NBox2.below (b := w.heap.size + 1) (v0 := .bool false) (v1 := .slice none 0 0) ⟨x0, x1, x2, x3⟩ hb8 (by first | omega | (simp <;> omega)); have HX6 := Lib.hid X8; have HB6 := Lib.hid (HBW.out.trans (hb8.mono HBW.out.size)); clear x0 x1 x2 x3; obtain ⟨x0, x1, x2, x3⟩ := X8; have hs8 := hb8.size; clear hN8 hb8)
   refine bodyPost_ret (v := .agg #[.bool (decide ((z) < 0)), .slice a6 (dig 18446744073709551616 (z).natAbs).length c6]) (by rw [nres_c1 rfl]; go_simp) rfl ?_
   exact retZ_box (by omega) HN6.out HX6.out (by intro z h; cases h) (by intro z h; cases h) HB6.out _ _
end Go.Proofs.YtadlnmckcnfacaaGreat
