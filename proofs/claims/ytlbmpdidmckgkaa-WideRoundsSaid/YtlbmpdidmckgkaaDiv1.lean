/- How many bits a word has: math/bits.Len64, LeadingZeros64, walked; and what powers of 2 say of it. -/
import Derived.Test.YtlbmpdidmckgkaaWide9
import Derived.Lib.BitFns
import Derived.Lib.Strings
import Derived.Lib.Slices
import Derived.Lib.Small
import Derived.Lib.Walk
set_option linter.unusedVariables false
set_option linter.unusedSimpArgs false
namespace Go.Proofs.Ytlbmpdidmckgkaa
open Go.RowKit Go.Rt

theorem bitLenAux_bounds : ∀ (f x : Nat), x < 2 ^ f → x < 2 ^ Lib.bitLenAux f x ∧ (x ≠ 0 → 1 ≤ Lib.bitLenAux f x ∧ 2 ^ (Lib.bitLenAux f x - 1) ≤ x)
  | 0, x, h => by
    have : x = 0 := by simpa using h
    subst this
    exact ⟨by simp [Lib.bitLenAux], fun h => absurd rfl h⟩
  | f + 1, x, h => by
    simp only [Lib.bitLenAux]
    split
    · rename_i h0
      subst h0
      exact ⟨by simp, fun h => absurd rfl h⟩
    · rename_i h0
      obtain ⟨i1, i2⟩ := bitLenAux_bounds f (x / 2) (by rw [Nat.pow_succ] at h; omega)
      refine ⟨by rw [Nat.add_comm, Nat.pow_succ]; omega, fun _ => ⟨by omega, ?_⟩⟩
      by_cases h1 : x / 2 = 0
      · have : x = 1 := by omega
        subst this
        have : Lib.bitLenAux f (1 / 2) = 0 := by cases f <;> simp [Lib.bitLenAux]
        rw [this]
        decide
      · obtain ⟨j1, j2⟩ := i2 h1
        have e : 1 + Lib.bitLenAux f (x / 2) - 1 = (Lib.bitLenAux f (x / 2) - 1) + 1 := by omega
        rw [e, Nat.pow_succ]
        omega

theorem bitLen_bounds (x : Nat) (h : x < 18446744073709551616) : x < 2 ^ Lib.bitLen x ∧ (x ≠ 0 → 1 ≤ Lib.bitLen x ∧ 2 ^ (Lib.bitLen x - 1) ≤ x) := bitLenAux_bounds 64 x h
theorem bitLen_64 (x : Int) (h0 : 0 ≤ x) (h1 : x ≤ 18446744073709551615) : Lib.bitLen x.toNat ≤ 64 := Lib.bitLen_le x.toNat 64 (by omega) (by omega)

theorem tab_at (i : Int) (h0 : 0 ≤ i) (h1 : i ≤ 255) (h : i.toNat < Lib.len8tab.size) : ((Lib.len8tab[i.toNat]'h).toNat : Int) = (Lib.bitLen i.toNat : Int) := by
  rw [← Lib.len8_of i h0 h1]
  simp only [Lib.len8, ByteArray.getElem?_lt' _ _ h, Option.getD_some]

set_option maxHeartbeats 4000000 in
set_option maxRecDepth 100000 in
theorem len64_any (x : Int) (w : World) (h0 : 0 ≤ x) (h1 : x ≤ 18446744073709551615) :
    Calls Try.prog 59 #[.int .u64 x] w fun e w' => e = .returned (.int .i64 (Lib.bitLen x.toNat)) ∧ w' = w := by
  go_enter Try.func59, Try.ntmps59
  go_wp2
  all_goals first
    | (exfalso; rename_i hbad; rw [Lib.len8tab_size] at hbad; omega)
    | (go_ret; refine ⟨congrArg Ending.returned (congrArg (Value.int IntKind.i64) ?_), rfl⟩)
  · rw [tab_at (x / 4294967296 / 65536 / 256) (by omega) (by omega)]
    have e : (x / 4294967296 / 65536 / 256).toNat = x.toNat / 72057594037927936 := by omega
    have l := Lib.bitLen_le8' (x / 4294967296 / 65536 / 256) (by omega) (by omega)
    have s := Lib.bitLen_shift56 x.toNat (by omega) (by omega)
    rw [e] at l ⊢
    rw [s]
    generalize Lib.bitLen (x.toNat / 72057594037927936) = B at l ⊢
    clear e s
    unfold RowKit.wrap64
    omega
  · rw [tab_at (x / 4294967296 / 65536) (by omega) (by omega)]
    have e : (x / 4294967296 / 65536).toNat = x.toNat / 281474976710656 := by omega
    have l := Lib.bitLen_le8' (x / 4294967296 / 65536) (by omega) (by omega)
    have s := Lib.bitLen_shift48 x.toNat (by omega) (by omega)
    rw [e] at l ⊢
    rw [s]
    generalize Lib.bitLen (x.toNat / 281474976710656) = B at l ⊢
    clear e s
    unfold RowKit.wrap64
    omega
  · rw [tab_at (x / 4294967296 / 256) (by omega) (by omega)]
    have e : (x / 4294967296 / 256).toNat = x.toNat / 1099511627776 := by omega
    have l := Lib.bitLen_le8' (x / 4294967296 / 256) (by omega) (by omega)
    have s := Lib.bitLen_shift40 x.toNat (by omega) (by omega)
    rw [e] at l ⊢
    rw [s]
    generalize Lib.bitLen (x.toNat / 1099511627776) = B at l ⊢
    clear e s
    unfold RowKit.wrap64
    omega
  · rw [tab_at (x / 4294967296) (by omega) (by omega)]
    have e : (x / 4294967296).toNat = x.toNat / 4294967296 := by omega
    have l := Lib.bitLen_le8' (x / 4294967296) (by omega) (by omega)
    have s := Lib.bitLen_shift32 x.toNat (by omega) (by omega)
    rw [e] at l ⊢
    rw [s]
    generalize Lib.bitLen (x.toNat / 4294967296) = B at l ⊢
    clear e s
    unfold RowKit.wrap64
    omega
  · rw [tab_at (x / 65536 / 256) (by omega) (by omega)]
    have e : (x / 65536 / 256).toNat = x.toNat / 16777216 := by omega
    have l := Lib.bitLen_le8' (x / 65536 / 256) (by omega) (by omega)
    have s := Lib.bitLen_shift24 x.toNat (by omega) (by omega)
    rw [e] at l ⊢
    rw [s]
    generalize Lib.bitLen (x.toNat / 16777216) = B at l ⊢
    clear e s
    unfold RowKit.wrap64
    omega
  · rw [tab_at (x / 65536) (by omega) (by omega)]
    have e : (x / 65536).toNat = x.toNat / 65536 := by omega
    have l := Lib.bitLen_le8' (x / 65536) (by omega) (by omega)
    have s := Lib.bitLen_shift16 x.toNat (by omega) (by omega)
    rw [e] at l ⊢
    rw [s]
    generalize Lib.bitLen (x.toNat / 65536) = B at l ⊢
    clear e s
    unfold RowKit.wrap64
    omega
  · rw [tab_at (x / 256) (by omega) (by omega)]
    have e : (x / 256).toNat = x.toNat / 256 := by omega
    have l := Lib.bitLen_le8' (x / 256) (by omega) (by omega)
    have s := Lib.bitLen_shift8 x.toNat (by omega) (by omega)
    rw [e] at l ⊢
    rw [s]
    generalize Lib.bitLen (x.toNat / 256) = B at l ⊢
    clear e s
    unfold RowKit.wrap64
    omega
  · rw [tab_at (x) (by omega) (by omega)]
    have e : (x).toNat = x.toNat := by omega
    have l := Lib.bitLen_le8' (x) (by omega) (by omega)
    rw [e] at l ⊢
    generalize Lib.bitLen x.toNat = B at l ⊢
    clear e
    unfold RowKit.wrap64
    omega

theorem lz64_any (x : Int) (w : World) (h0 : 0 ≤ x) (h1 : x ≤ 18446744073709551615) :
    Calls Try.prog 83 #[.int .u64 x] w fun e w' => e = .returned (.int .i64 (64 - (Lib.bitLen x.toNat : Int))) ∧ w' = w := by
  have l := bitLen_64 x h0 h1
  have e8 : RowKit.wrap64 (64 - (Lib.bitLen x.toNat : Int)) = 64 - (Lib.bitLen x.toNat : Int) := by unfold RowKit.wrap64; omega
  go_enter Try.func83, Try.ntmps83
  go_wp2_with (go_at_call 59; refine (len64_any x _ h0 h1).mono ?_; rintro e w' ⟨rfl, rfl⟩)
  go_ret
  refine ⟨?_, rfl⟩
  rw [← e8]
  rfl
end Go.Proofs.Ytlbmpdidmckgkaa
