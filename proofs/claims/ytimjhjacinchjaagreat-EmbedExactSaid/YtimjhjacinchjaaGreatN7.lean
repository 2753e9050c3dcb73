/- Walks of the references' whole numbers: how many bits. -/
import Derived.Test.YtimjhjacinchjaaGreatN6
import Derived.BigQuiet
import Derived.WalkMore
import Derived.Deep.RegionHeld3
import Derived.Deep.RegionWith
import Derived.BigRegion
import Derived.Deep.Cut
import Derived.Deep.CutBlock
import Derived.Deep.CutRange
set_option linter.unusedVariables false
set_option linter.unusedSimpArgs false
namespace Go.Proofs.YtimjhjacinchjaaGreat
open Go.RowKit Go.Rt

/-- How many bits. -/
def blen (m : Nat) : Nat := if m = 0 then 0 else Nat.log2 m + 1
theorem blen_lt (m : Nat) : m < 2 ^ blen m := by
  unfold blen
  by_cases h : m = 0
  · subst h; decide
  · rw [if_neg h]
    exact Nat.lt_log2_self
theorem blen_ge {m : Nat} (h : m ≠ 0) : 2 ^ (blen m - 1) ≤ m := by
  unfold blen
  rw [if_neg h]
  exact Nat.log2_self_le h
theorem blen_unique {m e : Nat} (h1 : m < 2 ^ e) (h2 : e = 0 ∨ 2 ^ (e - 1) ≤ m) : blen m = e := by
  by_cases h : m = 0
  · subst h
    rcases h2 with h2 | h2
    · rw [h2]; rfl
    · have := Nat.pow_pos (n := e - 1) (show 0 < 2 by decide)
      omega
  · have a1 := blen_lt m
    have a2 := blen_ge h
    rcases Nat.lt_trichotomy (blen m) e with hlt | he | hgt
    · rcases h2 with h2 | h2
      · omega
      · have := Nat.pow_le_pow_right (show 0 < 2 by decide) (show blen m ≤ e - 1 by omega)
        omega
    · exact he
    · have := Nat.pow_le_pow_right (show 0 < 2 by decide) (show e ≤ blen m - 1 by omega)
      omega
theorem blen_zero : blen 0 = 0 := rfl
theorem blen_mono {m n : Nat} (h : m ≤ n) : blen m ≤ blen n := by
  by_cases h0 : m = 0
  · subst h0; rw [blen_zero]; omega
  · have a1 := blen_ge h0
    have a2 := blen_lt n
    by_cases hc : blen m ≤ blen n
    · exact hc
    · have := Nat.pow_le_pow_right (show 0 < 2 by decide) (show blen n ≤ blen m - 1 by omega)
      omega
/-- By the topmost limb. -/
theorem blen_top {k t low : Nat} (ht : t ≠ 0) (hl : low < 18446744073709551616 ^ k) : blen (low + 18446744073709551616 ^ k * t) = 64 * k + blen t := by
  have e : (18446744073709551616 : Nat) ^ k = 2 ^ (64 * k) := by rw [Nat.pow_mul]
  rw [e] at hl ⊢
  have a1 := blen_lt t
  have a2 := blen_ge ht
  have hb : 1 ≤ blen t := by unfold blen; rw [if_neg ht]; omega
  apply blen_unique
  · rw [Nat.pow_add]
    have : 2 ^ (64 * k) * (t + 1) ≤ 2 ^ (64 * k) * 2 ^ blen t := Nat.mul_le_mul (Nat.le_refl _) a1
    rw [Nat.mul_add, Nat.mul_one] at this
    omega
  · refine .inr ?_
    rw [show 64 * k + blen t - 1 = 64 * k + (blen t - 1) by omega, Nat.pow_add]
    have : 2 ^ (64 * k) * 2 ^ (blen t - 1) ≤ 2 ^ (64 * k) * t := Nat.mul_le_mul (Nat.le_refl _) a2
    omega
theorem half_pow (t j : Nat) : t / 2 ^ j / 2 = t / 2 ^ (j + 1) := by rw [Nat.div_div_eq_div_mul, Nat.pow_succ]
theorem blen_of_div {t j : Nat} (h1 : t / 2 ^ j = 0) (h2 : j = 0 ∨ t / 2 ^ (j - 1) ≠ 0) : blen t = j := by
  apply blen_unique
  · by_cases hc : t < 2 ^ j
    · exact hc
    · have := Nat.div_pos (show 2 ^ j ≤ t by omega) (Nat.pow_pos (n := j) (show 0 < 2 by decide))
      omega
  · rcases h2 with h2 | h2
    · exact .inl h2
    · refine .inr ?_
      by_cases hc : 2 ^ (j - 1) ≤ t
      · exact hc
      · exact absurd (Nat.div_eq_of_lt (by omega)) h2

set_option maxHeartbeats 4000000 in
set_option maxRecDepth 100000 in
theorem nlen_any (a : Option Addr) (c m hi : Nat) (w : World) (h : NAt w hi a c m) (hm : (dig 18446744073709551616 m).length ≤ 1000000) :
    Calls Tryz.prog 74 #[.slice a (dig 18446744073709551616 m).length c] w fun e w' => e = .returned (.int .i64 (blen m)) ∧ w = w' := by
  obtain ⟨X, hXe⟩ : ∃ X, dig 18446744073709551616 m = X := ⟨_, rfl⟩
  have rX : Rng 18446744073709551616 X := by rw [← hXe]; exact dig_rng (by decide) _
  have vX : valB 18446744073709551616 X = m := by rw [← hXe]; exact val_dig (by decide) _
  have tX : Top X := by rw [← hXe]; exact dig_top (by decide) _
  have hcx := h.li
  have hmX := hcx.len
  rw [hXe] at hcx hmX ⊢
  rw [hXe] at hm
  clear hXe h
  by_cases hl : X.length = 0
  · have hm0 : blen m = 0 := by rw [← vX, List.length_eq_zero_iff.1 hl]; rfl
    have e1 : ((X.length : Int) == 0) = true := by simp [hl]
    have HZ := Lib.hid hm0
    clear hm0 hl vX
    go_enter Tryz.func74, Tryz.ntmps74
    go_wp2
    go_ret
    exact ⟨by rw [HZ.out]; rfl, rfl⟩
  · have e1 : ((X.length : Int) == 0) = false := by simp; exact fun h => hl (by rw [h]; rfl)
    obtain ⟨l, hll⟩ : ∃ l, X.length = l + 1 := ⟨X.length - 1, by omega⟩
    obtain ⟨b, off, rfl, hlb, cX⟩ := hcx.cell l (by omega)
    have dX := rX.getD (by decide) l
    obtain ⟨t, et⟩ : ∃ t : Nat, X[l]?.getD 0 = (t : Int) := ⟨(X[l]?.getD 0).toNat, by omega⟩
    rw [et] at cX dX
    have ht0 : t ≠ 0 := by
      rcases tX with h | h
      · rw [h] at hll; simp at hll
      · rw [hll, Nat.add_sub_cancel, et] at h; omega
    have hval : blen m = 64 * l + blen t := by
      have hs := valB_take_succ 18446744073709551616 X l (by omega)
      rw [List.take_of_length_le (by omega), et, Int.toNat_natCast, vX] at hs
      have hlow := valB_lt (by decide) (rX.take l)
      rw [show (X.take l).length = l by simp; omega] at hlow
      rw [hs]
      exact blen_top ht0 hlow
    have HV := Lib.hid hval
    have HLL := Lib.hid hll
    clear hval vX tX et rX hcx
    have e2 : ∀ [Inhabited Unit], RowKit.wrap64 ((X.length : Int) - 1) = (l : Int) := by intro _; rw [show (X.length : Int) - 1 = (l : Int) by omega]; exact IntWalk.wrap64_in _ ⟨by omega, by omega⟩
    have e2b : ∀ [Inhabited Unit], (X.length : Int) - 1 = (l : Int) := by intro _; omega
    have hi0 : (0 : Int) ≤ (l : Int) := by omega
    have hi1 : (l : Int) < (X.length : Int) := by omega
    have hi2 : l < X.length := by omega
    have hlk : l ≤ 1000000 := by omega
    clear hll hl hm
    go_enter Tryz.func74, Tryz.ntmps74
    go_wp2
    go_loopw [3, 4] (fun v x wr => ∃ j s : Nat, j ≤ 64 ∧ v = .int .i64 (64 * (l : Int) + j) ∧ x = .int .u64 s ∧ Hid (s = t / 2 ^ j) ∧ Hid (j = 0 ∨ t / 2 ^ (j - 1) ≠ 0) ∧ wr = w) (fun _ x _ => (intOf x).toNat)
    case atStart => exact ⟨0, t, by omega, by simp, rfl, Lib.hid (by simp), Lib.hid (.inl rfl), rfl⟩
    case round =>
      obtain ⟨j, s, hj, rfl, rfl, HS, HJ, rfl⟩ := hrel
      have hsb : s < 18446744073709551616 := by rw [HS.out]; exact Nat.lt_of_le_of_lt (Nat.div_le_self _ _) (by omega)
      by_cases hs : s = 0
      · have hb : blen t = j := blen_of_div (by rw [← HS.out]; exact hs) HJ.out
        subst hs
        have HZ : Hid ((blen m : Int) = 64 * (l : Int) + j) := Lib.hid (by rw [HV.out, hb]; omega)
        clear hb
        go_wp2
        go_ret
        exact ⟨by rw [HZ.out]; rfl, rfl⟩
      · have e4 : ((s : Int) != 0) = true := by simp; omega
        have hj2 : j < 64 := by
          by_cases hc : j = 64
          · exfalso
            apply hs
            rw [HS.out, hc]
            exact Nat.div_eq_of_lt (by omega)
          · omega
        obtain ⟨s2, hs2⟩ : ∃ s2 : Nat, s2 = s / 2 := ⟨_, rfl⟩
        have e5 : ∀ [Inhabited Unit], (s : Int) / 2 = (s2 : Int) := by intro _; omega
        have HS2 : Hid (s2 = t / 2 ^ (j + 1)) := Lib.hid (by rw [hs2, HS.out, half_pow])
        have HJ2 : Hid (j + 1 = 0 ∨ t / 2 ^ (j + 1 - 1) ≠ 0) := Lib.hid (.inr (by rw [Nat.add_sub_cancel, ← HS.out]; exact hs))
        have h0s : 0 < s := by omega
        have HLT : Hid (s2 < s) := Lib.hid (by omega)
        clear hs hs2
        go_wp2
        go_roundw
        case rel => exact ⟨j + 1, s2, by omega, by go_num, rfl, HS2, HJ2, trivial⟩
        case measure => have := HLT.out; simp [intOf]; omega
end Go.Proofs.YtimjhjacinchjaaGreat
