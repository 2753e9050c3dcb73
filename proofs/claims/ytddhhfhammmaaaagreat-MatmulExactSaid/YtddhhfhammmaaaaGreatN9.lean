/- Walks of the references' whole numbers: order, length. -/
import Derived.Test.YtddhhfhammmaaaaGreatN5
import Derived.BigQuiet
import Derived.WalkMore
import Derived.Deep.RegionHeld3
import Derived.Deep.RegionWith
import Derived.BigRegion
import Derived.Deep.Cut
import Derived.Deep.CutBlock
import Derived.Deep.CutRange
set_option linter.unusedVariables false
set_option linter.unusedSimpArgs false
namespace Go.Proofs.YtddhhfhammmaaaaGreat
open Go.RowKit Go.Rt

theorem valB_split (B : Nat) (xs : List Int) (k : Nat) (h : k ≤ xs.length) : valB B xs = valB B (xs.take k) + B ^ k * valB B (xs.drop k) := by
  have hl : (xs.take k).length = k := by simp; omega
  conv => lhs; rw [← List.take_append_drop k xs, valB_append, hl]
/-- The highest digit that differs says which number is less. -/
theorem cmp_lt {B : Nat} (hB : 2 ≤ B) {xs ys : List Int} {k dx dy : Nat} (hr : Rng B xs) (hl : xs.length = ys.length) (hk : k < xs.length) (he : ∀ j, k < j → xs[j]?.getD 0 = ys[j]?.getD 0) (hx : xs[k]?.getD 0 = (dx : Int)) (hy : ys[k]?.getD 0 = (dy : Int)) (h : dx < dy) : valB B xs < valB B ys := by
  have hd : xs.drop (k + 1) = ys.drop (k + 1) := by
    apply List.ext_getElem
    · simp [hl]
    · intro i h1 h2
      have h3 : k + 1 + i < xs.length := by simp at h1; omega
      have h4 : k + 1 + i < ys.length := by omega
      have := he (k + 1 + i) (by omega)
      rw [List.getElem?_eq_getElem h3, List.getElem?_eq_getElem h4] at this
      simpa using this
  have e1 : xs.drop k = (dx : Int) :: xs.drop (k + 1) := by
    rw [List.drop_eq_getElem_cons hk]
    rw [List.getElem?_eq_getElem hk] at hx
    congr 1
  have hk2 : k < ys.length := by omega
  have e2 : ys.drop k = (dy : Int) :: ys.drop (k + 1) := by
    rw [List.drop_eq_getElem_cons hk2]
    rw [List.getElem?_eq_getElem hk2] at hy
    congr 1
  rw [valB_split B xs k (by omega), valB_split B ys k (by omega), e1, e2, hd, valB, valB, Int.toNat_natCast, Int.toNat_natCast]
  have h1 := valB_lt hB (hr.take k)
  have hlk : (xs.take k).length = k := by simp; omega
  rw [hlk] at h1
  have h2 : B ^ k * (dx + 1 + B * valB B (ys.drop (k + 1))) ≤ B ^ k * (dy + B * valB B (ys.drop (k + 1))) := Nat.mul_le_mul (Nat.le_refl _) (by omega)
  rw [show dx + 1 + B * valB B (ys.drop (k + 1)) = dx + B * valB B (ys.drop (k + 1)) + 1 by omega, Nat.mul_add, Nat.mul_one] at h2
  omega
theorem cmp_eq {xs ys : List Int} (hl : xs.length = ys.length) (he : ∀ j : Nat, xs[j]?.getD 0 = ys[j]?.getD 0) : xs = ys := by
  apply List.ext_getElem hl
  intro i h1 h2
  have := he i
  rw [List.getElem?_eq_getElem h1, List.getElem?_eq_getElem h2] at this
  simpa using this
def cmpN (m n : Nat) : Int := if m < n then -1 else if n < m then 1 else 0
theorem cmpN_lt {m n : Nat} (h : m < n) : cmpN m n = -1 := by unfold cmpN; rw [if_pos h]
theorem cmpN_gt {m n : Nat} (h : n < m) : cmpN m n = 1 := by unfold cmpN; rw [if_neg (by omega), if_pos h]
theorem cmpN_eq (m : Nat) : cmpN m m = 0 := by unfold cmpN; rw [if_neg (by omega), if_neg (by omega)]

set_option maxHeartbeats 4000000 in
set_option maxRecDepth 100000 in
theorem ncmp_any (a b : Option Addr) (c d m n hi : Nat) (w : World) (h : NAt w hi a c m) (h' : NAt w hi b d n) :
    Calls Tryz.prog 53 #[.slice a (dig 18446744073709551616 m).length c, .slice b (dig 18446744073709551616 n).length d] w fun e w' => e = .returned (.int .i64 (cmpN m n)) ∧ ∃ q, w' = w.drewN q := by
  obtain ⟨X, hXe⟩ : ∃ X, dig 18446744073709551616 m = X := ⟨_, rfl⟩
  obtain ⟨Y, hYe⟩ : ∃ Y, dig 18446744073709551616 n = Y := ⟨_, rfl⟩
  have rX : Rng 18446744073709551616 X := by rw [← hXe]; exact dig_rng (by decide) _
  have rY : Rng 18446744073709551616 Y := by rw [← hYe]; exact dig_rng (by decide) _
  have vX : valB 18446744073709551616 X = m := by rw [← hXe]; exact val_dig (by decide) _
  have vY : valB 18446744073709551616 Y = n := by rw [← hYe]; exact val_dig (by decide) _
  have hcx := h.li
  have hcy := h'.li
  have hmX := hcx.len
  have hmY := hcy.len
  rw [hXe] at hcx hmX ⊢
  rw [hYe] at hcy hmY ⊢
  have HcX := Lib.hid hcx
  have HcY := Lib.hid hcy
  have RX := Lib.hid rX
  have RY := Lib.hid rY
  have VX := Lib.hid vX
  have VY := Lib.hid vY
  have hLL : X.length < Y.length → m < n := fun hh => by
    by_cases hc : n ≤ m
    · have := dig_len_mono (B := 18446744073709551616) (by decide) hc; rw [hXe, hYe] at this; omega
    · omega
  have hGG : Y.length < X.length → n < m := fun hh => by
    by_cases hc : m ≤ n
    · have := dig_len_mono (B := 18446744073709551616) (by decide) hc; rw [hXe, hYe] at this; omega
    · omega
  clear hXe hYe rX rY vX vY hcx hcy h h'
  by_cases hl : X.length = Y.length
  · have e1 : ((X.length : Int) != (Y.length : Int)) = false := by simp; omega
    have HL := Lib.hid hl
    clear hLL hGG hl
    have ew : ∀ [Inhabited Unit], RowKit.wrap64 ((X.length : Int) - 1) = (X.length : Int) - 1 := by intro _; exact IntWalk.wrap64_in _ ⟨by omega, by omega⟩
    go_enter Tryz.func53, Tryz.ntmps53
    go_wp2
    go_loopw [5] (fun i wr => ∃ (k : Nat) (I : Int) (q : Nat), k ≤ X.length ∧ i = .int .i64 I ∧ I = (k : Int) - 1 ∧ Hid (∀ j, k ≤ j → X[j]?.getD 0 = Y[j]?.getD 0) ∧ wr = w.drewN q) (fun i _ => (intOf i + 1).toNat)
    case atStart => exact ⟨X.length, _, 0, Nat.le_refl _, rfl, rfl, Lib.hid (fun j hj => by rw [List.getElem?_eq_none hj, List.getElem?_eq_none (by rw [← HL.out]; exact hj)]), rfl⟩
    case round =>
      obtain ⟨k, I, q, hk, rfl, hI, HE, rfl⟩ := hrel
      by_cases hk0 : k = 0
      · have hmn : m = n := by
          rw [← VX.out, ← VY.out, cmp_eq HL.out (fun j => HE.out j (by omega))]
        subst hmn
        have HZ := Lib.hid (cmpN_eq m)
        obtain rfl : I = -1 := by omega
        clear hI hk0
        go_wp2
        go_ret
        exact ⟨by rw [HZ.out]; rfl, _, rfl⟩
      · obtain ⟨kk, rfl⟩ : ∃ kk, k = kk + 1 := ⟨k - 1, by omega⟩
        obtain rfl : I = (kk : Int) := by omega
        clear hI hk0
        have hx : kk < X.length := by omega
        have hy : kk < Y.length := by rw [← HL.out]; exact hx
        have dX := RX.out.getD (by decide) kk
        have dY := RY.out.getD (by decide) kk
        obtain ⟨dx, edx⟩ : ∃ d : Nat, X[kk]?.getD 0 = (d : Int) := ⟨(X[kk]?.getD 0).toNat, by omega⟩
        obtain ⟨dy, edy⟩ : ∃ d : Nat, Y[kk]?.getD 0 = (d : Int) := ⟨(Y[kk]?.getD 0).toNat, by omega⟩
        obtain ⟨bX, oX, ex, hlb, cX⟩ := HcX.out.cell kk hx
        obtain ⟨bY, oY, ey, hlb2, cY⟩ := HcY.out.cell kk hy
        rw [edx] at cX
        rw [edy] at cY
        subst ex
        subst ey
        have i0 : (0 : Int) ≤ (kk : Int) := by omega
        have ix : (kk : Int) < (X.length : Int) := by omega
        have iy : (kk : Int) < (Y.length : Int) := by omega
        have ek : ∀ [Inhabited Unit], RowKit.wrap64 ((kk : Int) - 1) = (kk : Int) - 1 := by intro _; exact IntWalk.wrap64_in _ ⟨by omega, by omega⟩
        have HX := Lib.hid edx
        have HY := Lib.hid edy
        clear edx edy dX dY
        rcases Nat.lt_trichotomy dx dy with hlt | heq | hgt
        · have hmn : m < n := by
            rw [← VX.out, ← VY.out]
            exact cmp_lt (by decide) RX.out HL.out hx (fun j hj => HE.out j (by omega)) HX.out HY.out hlt
          have HZ := Lib.hid (cmpN_lt hmn)
          clear hmn
          have hc : (dx : Int) < (dy : Int) := by omega
          go_upto_region 8 with fail
          go_quiet (fail)
          go_wp2
          go_ret
          exact ⟨by rw [HZ.out]; rfl, _, by first | rfl | exact World.drewN_drewN _ _ _⟩
        · subst heq
          have HE2 : Hid (∀ j, kk ≤ j → X[j]?.getD 0 = Y[j]?.getD 0) := Lib.hid (fun j hj => by
            by_cases he : j = kk
            · rw [he, HX.out, HY.out]
            · exact HE.out j (by omega))
          have hc : ¬ (dx : Int) < (dx : Int) := by omega
          go_upto_region 8 with fail
          go_quiet (fail)
          go_upto_region 10 with fail
          obtain ⟨W1, hW1⟩ : ∃ W1 : World, (w.drewN q).drewN nq = W1 := ⟨_, rfl⟩
          have cX1 : W1.cell? ⟨bX, oX + kk, none⟩ = some (.int .u64 dx) := by rw [← hW1]; exact cX
          have cY1 : W1.cell? ⟨bY, oY + kk, none⟩ = some (.int .u64 dx) := by rw [← hW1]; exact cY
          rw [hW1]
          go_quiet (fail)
          go_wp2
          go_roundw
          case rel => exact ⟨kk, _, _, by omega, rfl, rfl, HE2, by rw [← hW1, World.drewN_drewN, World.drewN_drewN]⟩
          case measure => simp [intOf]
        · have hmn : n < m := by
            rw [← VX.out, ← VY.out]
            exact cmp_lt (by decide) RY.out HL.out.symm hy (fun j hj => (HE.out j (by omega)).symm) HY.out HX.out hgt
          have HZ := Lib.hid (cmpN_gt hmn)
          clear hmn
          have hc : ¬ (dx : Int) < (dy : Int) := by omega
          have hc2 : (dy : Int) < (dx : Int) := by omega
          go_upto_region 8 with fail
          go_quiet (fail)
          go_upto_region 10 with fail
          obtain ⟨W1, hW1⟩ : ∃ W1 : World, (w.drewN q).drewN nq = W1 := ⟨_, rfl⟩
          have cX1 : W1.cell? ⟨bX, oX + kk, none⟩ = some (.int .u64 dx) := by rw [← hW1]; exact cX
          have cY1 : W1.cell? ⟨bY, oY + kk, none⟩ = some (.int .u64 dy) := by rw [← hW1]; exact cY
          rw [hW1]
          go_quiet (fail)
          go_wp2
          go_ret
          exact ⟨by rw [HZ.out]; rfl, _, by rw [← hW1, World.drewN_drewN, World.drewN_drewN]⟩
  · have e1 : ((X.length : Int) != (Y.length : Int)) = true := by simp; omega
    by_cases hlt : X.length < Y.length
    · have HZ := Lib.hid (cmpN_lt (hLL hlt))
      have hc : (X.length : Int) < (Y.length : Int) := by omega
      clear hLL hGG hl hlt
      go_enter Tryz.func53, Tryz.ntmps53
      go_wp2
      go_ret
      exact ⟨by rw [HZ.out]; rfl, 0, rfl⟩
    · have HZ := Lib.hid (cmpN_gt (hGG (by omega)))
      have hc : ¬ (X.length : Int) < (Y.length : Int) := by omega
      clear hLL hGG hl hlt
      go_enter Tryz.func53, Tryz.ntmps53
      go_wp2
      go_ret
      exact ⟨by rw [HZ.out]; rfl, 0, rfl⟩
end Go.Proofs.YtddhhfhammmaaaaGreat
/- Walks of the references' whole numbers: how many bits. -/
set_option linter.unusedVariables false
set_option linter.unusedSimpArgs false
namespace Go.Proofs.YtddhhfhammmaaaaGreat
open Go.RowKit Go.Rt

/-- How many bits. -/
def blen (m : Nat) : Nat := if m = 0 then 0 else Nat.log2 m + 1
theorem blen_lt (m : Nat) : m < 2 ^ blen m := by
  unfold blen
  by_cases h : m = 0
  · subst h; decide
  · rw [if_neg h]
    exact Nat.lt_log2_self
theorem blen_ge {m : Nat} (h : m ≠ 0) : 2 ^ (blen m - 1) ≤ m := by
  unfold blen
  rw [if_neg h]
  exact Nat.log2_self_le h
theorem blen_unique {m e : Nat} (h1 : m < 2 ^ e) (h2 : e = 0 ∨ 2 ^ (e - 1) ≤ m) : blen m = e := by
  by_cases h : m = 0
  · subst h
    rcases h2 with h2 | h2
    · rw [h2]; rfl
    · have := Nat.pow_pos (n := e - 1) (show 0 < 2 by decide)
      omega
  · have a1 := blen_lt m
    have a2 := blen_ge h
    rcases Nat.lt_trichotomy (blen m) e with hlt | he | hgt
    · rcases h2 with h2 | h2
      · omega
      · have := Nat.pow_le_pow_right (show 0 < 2 by decide) (show blen m ≤ e - 1 by omega)
        omega
    · exact he
    · have := Nat.pow_le_pow_right (show 0 < 2 by decide) (show e ≤ blen m - 1 by omega)
      omega
theorem blen_zero : blen 0 = 0 := rfl
theorem blen_mono {m n : Nat} (h : m ≤ n) : blen m ≤ blen n := by
  by_cases h0 : m = 0
  · subst h0; rw [blen_zero]; omega
  · have a1 := blen_ge h0
    have a2 := blen_lt n
    by_cases hc : blen m ≤ blen n
    · exact hc
    · have := Nat.pow_le_pow_right (show 0 < 2 by decide) (show blen n ≤ blen m - 1 by omega)
      omega
/-- By the topmost limb. -/
theorem blen_top {k t low : Nat} (ht : t ≠ 0) (hl : low < 18446744073709551616 ^ k) : blen (low + 18446744073709551616 ^ k * t) = 64 * k + blen t := by
  have e : (18446744073709551616 : Nat) ^ k = 2 ^ (64 * k) := by rw [Nat.pow_mul]
  rw [e] at hl ⊢
  have a1 := blen_lt t
  have a2 := blen_ge ht
  have hb : 1 ≤ blen t := by unfold blen; rw [if_neg ht]; omega
  apply blen_unique
  · rw [Nat.pow_add]
    have : 2 ^ (64 * k) * (t + 1) ≤ 2 ^ (64 * k) * 2 ^ blen t := Nat.mul_le_mul (Nat.le_refl _) a1
    rw [Nat.mul_add, Nat.mul_one] at this
    omega
  · refine .inr ?_
    rw [show 64 * k + blen t - 1 = 64 * k + (blen t - 1) by omega, Nat.pow_add]
    have : 2 ^ (64 * k) * 2 ^ (blen t - 1) ≤ 2 ^ (64 * k) * t := Nat.mul_le_mul (Nat.le_refl _) a2
    omega
theorem half_pow (t j : Nat) : t / 2 ^ j / 2 = t / 2 ^ (j + 1) := by rw [Nat.div_div_eq_div_mul, Nat.pow_succ]
theorem blen_of_div {t j : Nat} (h1 : t / 2 ^ j = 0) (h2 : j = 0 ∨ t / 2 ^ (j - 1) ≠ 0) : blen t = j := by
  apply blen_unique
  · by_cases hc : t < 2 ^ j
    · exact hc
    · have := Nat.div_pos (show 2 ^ j ≤ t by omega) (Nat.pow_pos (n := j) (show 0 < 2 by decide))
      omega
  · rcases h2 with h2 | h2
    · exact .inl h2
    · refine .inr ?_
      by_cases hc : 2 ^ (j - 1) ≤ t
      · exact hc
      · exact absurd (Nat.div_eq_of_lt (by omega)) h2

set_option maxHeartbeats 4000000 in
set_option maxRecDepth 100000 in
theorem nlen_any (a : Option Addr) (c m hi : Nat) (w : World) (h : NAt w hi a c m) (hm : (dig 18446744073709551616 m).length ≤ 1000000) :
    Calls Tryz.prog 86 #[.slice a (dig 18446744073709551616 m).length c] w fun e w' => e = .returned (.int .i64 (blen m)) ∧ w = w' := by
  obtain ⟨X, hXe⟩ : ∃ X, dig 18446744073709551616 m = X := ⟨_, rfl⟩
  have rX : Rng 18446744073709551616 X := by rw [← hXe]; exact dig_rng (by decide) _
  have vX : valB 18446744073709551616 X = m := by rw [← hXe]; exact val_dig (by decide) _
  have tX : Top X := by rw [← hXe]; exact dig_top (by decide) _
  have hcx := h.li
  have hmX := hcx.len
  rw [hXe] at hcx hmX ⊢
  rw [hXe] at hm
  clear hXe h
  by_cases hl : X.length = 0
  · have hm0 : blen m = 0 := by rw [← vX, List.length_eq_zero_iff.1 hl]; rfl
    have e1 : ((X.length : Int) == 0) = true := by simp [hl]
    have HZ := Lib.hid hm0
    clear hm0 hl vX
    go_enter Tryz.func86, Tryz.ntmps86
    go_wp2
    go_ret
    exact ⟨by rw [HZ.out]; rfl, rfl⟩
  · have e1 : ((X.length : Int) == 0) = false := by simp; exact fun h => hl (by rw [h]; rfl)
    obtain ⟨l, hll⟩ : ∃ l, X.length = l + 1 := ⟨X.length - 1, by omega⟩
    obtain ⟨b, off, rfl, hlb, cX⟩ := hcx.cell l (by omega)
    have dX := rX.getD (by decide) l
    obtain ⟨t, et⟩ : ∃ t : Nat, X[l]?.getD 0 = (t : Int) := ⟨(X[l]?.getD 0).toNat, by omega⟩
    rw [et] at cX dX
    have ht0 : t ≠ 0 := by
      rcases tX with h | h
      · rw [h] at hll; simp at hll
      · rw [hll, Nat.add_sub_cancel, et] at h; omega
    have hval : blen m = 64 * l + blen t := by
      have hs := valB_take_succ 18446744073709551616 X l (by omega)
      rw [List.take_of_length_le (by omega), et, Int.toNat_natCast, vX] at hs
      have hlow := valB_lt (by decide) (rX.take l)
      rw [show (X.take l).length = l by simp; omega] at hlow
      rw [hs]
      exact blen_top ht0 hlow
    have HV := Lib.hid hval
    have HLL := Lib.hid hll
    clear hval vX tX et rX hcx
    have e2 : ∀ [Inhabited Unit], RowKit.wrap64 ((X.length : Int) - 1) = (l : Int) := by intro _; rw [show (X.length : Int) - 1 = (l : Int) by omega]; exact IntWalk.wrap64_in _ ⟨by omega, by omega⟩
    have e2b : ∀ [Inhabited Unit], (X.length : Int) - 1 = (l : Int) := by intro _; omega
    have hi0 : (0 : Int) ≤ (l : Int) := by omega
    have hi1 : (l : Int) < (X.length : Int) := by omega
    have hi2 : l < X.length := by omega
    have hlk : l ≤ 1000000 := by omega
    clear hll hl hm
    go_enter Tryz.func86, Tryz.ntmps86
    go_wp2
    go_loopw [3, 4] (fun v x wr => ∃ j s : Nat, j ≤ 64 ∧ v = .int .i64 (64 * (l : Int) + j) ∧ x = .int .u64 s ∧ Hid (s = t / 2 ^ j) ∧ Hid (j = 0 ∨ t / 2 ^ (j - 1) ≠ 0) ∧ wr = w) (fun _ x _ => (intOf x).toNat)
    case atStart => exact ⟨0, t, by omega, by simp, rfl, Lib.hid (by simp), Lib.hid (.inl rfl), rfl⟩
    case round =>
      obtain ⟨j, s, hj, rfl, rfl, HS, HJ, rfl⟩ := hrel
      have hsb : s < 18446744073709551616 := by rw [HS.out]; exact Nat.lt_of_le_of_lt (Nat.div_le_self _ _) (by omega)
      by_cases hs : s = 0
      · have hb : blen t = j := blen_of_div (by rw [← HS.out]; exact hs) HJ.out
        subst hs
        have HZ : Hid ((blen m : Int) = 64 * (l : Int) + j) := Lib.hid (by rw [HV.out, hb]; omega)
        clear hb
        go_wp2
        go_ret
        exact ⟨by rw [HZ.out]; rfl, rfl⟩
      · have e4 : ((s : Int) != 0) = true := by simp; omega
        have hj2 : j < 64 := by
          by_cases hc : j = 64
          · exfalso
            apply hs
            rw [HS.out, hc]
            exact Nat.div_eq_of_lt (by omega)
          · omega
        obtain ⟨s2, hs2⟩ : ∃ s2 : Nat, s2 = s / 2 := ⟨_, rfl⟩
        have e5 : ∀ [Inhabited Unit], (s : Int) / 2 = (s2 : Int) := by intro _; omega
        have HS2 : Hid (s2 = t / 2 ^ (j + 1)) := Lib.hid (by rw [hs2, HS.out, half_pow])
        have HJ2 : Hid (j + 1 = 0 ∨ t / 2 ^ (j + 1 - 1) ≠ 0) := Lib.hid (.inr (by rw [Nat.add_sub_cancel, ← HS.out]; exact hs))
        have h0s : 0 < s := by omega
        have HLT : Hid (s2 < s) := Lib.hid (by omega)
        clear hs hs2
        go_wp2
        go_roundw
        case rel => exact ⟨j + 1, s2, by omega, by go_num, rfl, HS2, HJ2, trivial⟩
        case measure => have := HLT.out; simp [intOf]; omega
end Go.Proofs.YtddhhfhammmaaaaGreat
/- Walks of the references' whole numbers: times a power of 2. -/
set_option linter.unusedVariables false
set_option linter.unusedSimpArgs false
namespace Go.Proofs.YtddhhfhammmaaaaGreat
open Go.RowKit Go.Rt

theorem make_nat (n : Nat) (hn : n ≤ 17592186044416) (w : World) : (Instr.makeSlice 50 (.int .i64 (n : Int)) (.int .i64 (n : Int))).run Tryz.prog w = .ok (.slice (some ⟨w.heap.size, 0, none⟩) n n) (w.alloc (.cells (madeCells #[Value.int .u64 0] n) 65)) := by
  obtain ⟨i, hi, hz0, hz1, hz2⟩ := info_parts infoU64n
  have hr := run_make (P := Tryz.prog) w 50 65 i (.int .u64 0) Tryz.underlying50 hi hz0 .i64 .i64 n n (by omega) (Int.le_refl _) (by rw [hz2]; omega) (by omega)
  simp only [Int.toNat_natCast, hz1, Nat.mul_one, Value.cells] at hr
  exact hr
theorem up_facts (x s : Nat) (hs : s < 64) (hx : x < 18446744073709551616) : ∃ lo hi : Nat, x * 2 ^ s = lo + 18446744073709551616 * hi ∧ lo % 2 ^ s = 0 ∧ lo + 2 ^ s ≤ 18446744073709551616 ∧ hi < 2 ^ s ∧ lo = x * 2 ^ s % 18446744073709551616 ∧ (0 < s → hi = x / 2 ^ (64 - s)) ∧ (s = 0 → hi = 0) := by
  have hp : 1 ≤ 2 ^ s := Nat.pow_pos (by decide)
  have hd : 2 ^ (64 - s) * 2 ^ s = 18446744073709551616 := by rw [← Nat.pow_add, show 64 - s + s = 64 by omega]
  have hdv : 2 ^ s ∣ 18446744073709551616 := ⟨2 ^ (64 - s), by rw [Nat.mul_comm]; exact hd.symm⟩
  have h0 : x * 2 ^ s % 18446744073709551616 % 2 ^ s = 0 := by rw [Nat.mod_mod_of_dvd _ hdv]; exact Nat.mul_mod_left _ _
  have hlt : x * 2 ^ s % 18446744073709551616 < 18446744073709551616 := Nat.mod_lt _ (by decide)
  refine ⟨x * 2 ^ s % 18446744073709551616, x * 2 ^ s / 18446744073709551616, (Nat.mod_add_div _ _).symm, h0, ?_, ?_, rfl, ?_, ?_⟩
  · obtain ⟨e, he⟩ := Nat.dvd_of_mod_eq_zero h0
    generalize x * 2 ^ s % 18446744073709551616 = lo at *
    have h1 : e < 2 ^ (64 - s) := by
      by_cases hc : e < 2 ^ (64 - s)
      · exact hc
      · have := Nat.mul_le_mul (Nat.le_refl (2 ^ s)) (show 2 ^ (64 - s) ≤ e by omega)
        rw [Nat.mul_comm, hd] at this
        omega
    have h2 : 2 ^ s * (e + 1) ≤ 2 ^ s * 2 ^ (64 - s) := Nat.mul_le_mul (Nat.le_refl _) h1
    rw [Nat.mul_comm (2 ^ s) (2 ^ (64 - s)), hd, Nat.mul_add, Nat.mul_one] at h2
    omega
  · refine Nat.div_lt_of_lt_mul ?_
    exact (Nat.mul_lt_mul_right hp).2 hx
  · intro h
    rw [← hd, Nat.mul_div_mul_right _ _ hp]
  · rintro rfl
    simp
    first
      | exact hx
      | exact Nat.div_eq_of_lt hx
theorem up_step {B e U x p C lo hi : Nat} {L : List Int} {k : Nat} {V : Nat} (h : valB B L + B ^ (e + k) * C = B ^ e * p * V) (hl : L.length = e + k) (hx : x * p = lo + B * hi) :
    valB B (L ++ [((lo + C : Nat) : Int)]) + B ^ (e + (k + 1)) * hi = B ^ e * p * (V + B ^ k * x) := by
  rw [valB_snoc B L _ (e + k) hl, Int.toNat_natCast, show e + (k + 1) = e + k + 1 by omega, Nat.pow_succ, Nat.mul_add (B ^ e * p), ← h]
  have e1 : B ^ e * p * (B ^ k * x) = B ^ (e + k) * (x * p) := by
    rw [Nat.pow_add, Nat.mul_assoc, Nat.mul_assoc, Nat.mul_left_comm p (B ^ k) x, Nat.mul_comm p x]
  rw [e1, hx, Nat.mul_add, Nat.mul_add, Nat.mul_assoc]
  omega
theorem valB_zeros (B n : Nat) : valB B (List.replicate n 0) = 0 := by
  induction n with
  | zero => rfl
  | succ n ih => rw [List.replicate_succ, valB, ih]; rfl

set_option maxHeartbeats 4000000 in
set_option maxRecDepth 100000 in
theorem up2F_any (a : Option Addr) (c m n : Nat) (w : World) (h : NAt w w.heap.size a c m) (hm : (dig 18446744073709551616 m).length ≤ 1000000) (hn : n ≤ 60000000) :
    Calls Tryz.prog 27 #[.slice a (dig 18446744073709551616 m).length c, .int .i64 n] w (RetNF w (m * 2 ^ n)) := by
  obtain ⟨X, hXe⟩ : ∃ X, dig 18446744073709551616 m = X := ⟨_, rfl⟩
  have rX : Rng 18446744073709551616 X := by rw [← hXe]; exact dig_rng (by decide) _
  have vX : valB 18446744073709551616 X = m := by rw [← hXe]; exact val_dig (by decide) _
  have hcx := h.li
  have hmX := hcx.len
  rw [hXe] at hcx hmX ⊢
  rw [hXe] at hm
  clear hXe h
  by_cases hl : X.length = 0
  · have hm0 : m * 2 ^ n = 0 := by rw [← vX, List.length_eq_zero_iff.1 hl]; simp [valB]
    have e1 : ((X.length : Int) == 0) = true := by simp [hl]
    rw [hm0]
    clear hm0 hl vX
    go_enter Tryz.func27, Tryz.ntmps27
    go_wp2
    go_ret
    exact ⟨none, 0, rfl, nat_zero _ _, Below.refl _ _, fresh_none _⟩
  · have e1 : ((X.length : Int) == 0) = false := by simp; exact fun h => hl (by rw [h]; rfl)
    obtain ⟨q, s, hqs, hs, hq⟩ : ∃ q s : Nat, n = 64 * q + s ∧ s < 64 ∧ q ≤ 1000000 := ⟨n / 64, n % 64, by omega, by omega, by omega⟩
    have a1 : ∀ [Inhabited Unit], Int.tdiv (n : Int) 64 = (q : Int) := by intro _; rw [Int.tdiv_eq_ediv_of_nonneg (by omega)]; omega
    have a2 : ∀ [Inhabited Unit], (n : Int) / 64 = (q : Int) := by intro _; omega
    have a3 : ∀ [Inhabited Unit], Int.tmod (n : Int) 64 = (s : Int) := by intro _; rw [Int.tmod_eq_emod_of_nonneg (by omega)]; omega
    have a4 : ∀ [Inhabited Unit], (n : Int) % 64 = (s : Int) := by intro _; omega
    have a5 : ∀ [Inhabited Unit], IntKind.u64.wrap (s : Int) = (s : Int) := by intro _; exact u64_same _ (by omega) (by omega)
    have HQS := Lib.hid hqs
    clear hqs
    have hmk := make_nat q (by omega)
    go_enter Tryz.func27, Tryz.ntmps27
    go_upto_region 7 with fail
    have row := World.ownsRow_lit (base := w.heap.size) (e := 65) (size := 1) w (madeCells #[Value.int .u64 0] q) q (Nat.le_refl _) (by unfold maxLen; omega) (by rw [size_madeCells, Nat.mul_one])
    rw [made_zeros] at row
    have bel0 : Below w.heap.size w (w.alloc (.cells (madeCells #[Value.int .u64 0] q) 65)) := (Below.refl _ _).alloc (Nat.le_refl _) _
    have HcX := Lib.hid hcx
    have RX := Lib.hid rX
    have VX := Lib.hid vX
    clear hcx rX vX hmk a1 a2 a3 a4 a5 hl
    have hp1 : 1 ≤ 2 ^ s := Nat.pow_pos (by decide)
    have HP1 := Lib.hid hp1
    clear hp1
    go_loopw [5, 7, 8] (fun v c i wr => ∃ (k C : Nat) (L : List Int), k ≤ X.length ∧ c = .int .u64 C ∧ i = .int .i64 k ∧ Hid (C < 2 ^ s) ∧ Hid (Rng 18446744073709551616 L) ∧ Hid (valB 18446744073709551616 L + 18446744073709551616 ^ (q + k) * C = 18446744073709551616 ^ q * 2 ^ s * valB 18446744073709551616 (X.take k)) ∧ wr.ownsRow w.heap.size 65 1 v (q + k) (L.map (Value.int .u64)) ∧ Below w.heap.size w wr) (fun _ _ i _ => X.length - (intOf i).toNat)
    case atStart => exact ⟨0, 0, List.replicate q 0, Nat.zero_le _, rfl, rfl, HP1, Lib.hid (fun x hx => by rw [(List.mem_replicate.1 hx).2]; omega), Lib.hid (by simp [valB_zeros, valB]), row, bel0⟩
    case round =>
      clear row bel0
      obtain ⟨k, C, L, hk, rfl, rfl, HC, HR, HV, hown, hbel⟩ := hrel
      obtain ⟨wi, rfl⟩ : ∃ wi : World, wi = wr := ⟨_, rfl⟩
      have HO := Lib.hid hown
      have HB := Lib.hid hbel
      have hsz := hbel.size
      have HLL := Lib.hid (own_len_k hown)
      clear hown hbel
      by_cases hx : k < X.length
      · skip
        have dX := RX.out.getD (by decide) k
        obtain ⟨x, ex⟩ : ∃ d : Nat, X[k]?.getD 0 = (d : Int) := ⟨(X[k]?.getD 0).toNat, by omega⟩
        obtain ⟨b, off, e2, hlb, cX⟩ := HcX.out.cell k hx
        rw [ex] at cX dX
        have hc0 := cX
        replace cX := (HB.out.cell (p := ⟨b, off + k, none⟩) hlb).trans cX
        subst e2
        obtain ⟨lo, hi, f1, f2, f3, f4, f5, f6, f7⟩ := up_facts x s hs (by omega)
        have hst := up_step (U := 0) HV.out HLL.out f1
        have t1 := valB_take_succ' 18446744073709551616 X k
        rw [ex, Int.toNat_natCast] at t1
        rw [← t1] at hst
        have hC := HC.out
        have hlo : lo + C < 18446744073709551616 := by omega
        obtain ⟨d, hd⟩ : ∃ d : Nat, d = lo + C := ⟨_, rfl⟩
        rw [← hd] at hst
        have hR2 : Rng 18446744073709551616 (L ++ [(d : Int)]) := HR.out.append (by intro y hy; simp only [List.mem_singleton] at hy; subst hy; omega)
        have HV2 := Lib.hid hst
        have HR2 := Lib.hid hR2
        have HH := Lib.hid f4
        have ix : (k : Int) < (X.length : Int) := by omega
        have i0 : (0 : Int) ≤ (k : Int) := by omega
        have hpc : ((2 : Int) ^ s) = ((2 ^ s : Nat) : Int) := by simp
        have r1 : ∀ [Inhabited Unit], IntKind.u64.wrap ((x : Int) * 2 ^ s) = (lo : Int) := by intro _; rw [hpc, ← Int.natCast_mul]; simp only [IntKind.wrap, IntKind.bits, IntKind.signed]; simp only [Bool.false_and, if_false]; rw [f5]; rfl
        have hlo2 : (lo : Int) % 2 ^ s = 0 := by rw [hpc, ← Int.natCast_emod, f2]; rfl
        have hCs : (C : Int) < 2 ^ s := by rw [hpc]; omega
        have r2 : ∀ [Inhabited Unit], bits BinOp.or IntKind.u64 (lo : Int) (C : Int) = (d : Int) := by intro _; rw [bits_join IntKind.u64 64 (by decide) u64_same s (lo : Int) (C : Int) (by omega) hlo2 (by omega) (by omega) hCs (by omega)]; omega
        clear hst hR2 t1 hC hlo hlo2 hCs hd f1 f2 f3 f4 f5 ex
        by_cases hs0 : s = 0
        · skip
          have g1 : (decide ((0 : Int) < (s : Int))) = false := by simp; omega
          have g2 : ¬ (0 : Int) < (s : Int) := by omega
          have hh := f7 hs0
          subst hh
          clear f6 f7 hpc
          clear hs0
          go_upto_region 10 with (at_builtin; (refine wpl_append1b 50 65 .u64 8 (by decide) infoU64n Tryz.underlying50 w.heap.size _ (q + k) L (d : Int) _ _ _ rfl rfl rfl HO.out rfl (by omega) hsz ?_); intro v' w3 hown1 hbel1 _; have HO1 := Lib.hid hown1; have HB1 := Lib.hid (hbel1 _ _ (Nat.le_refl _) HB.out); have cX2 := (HB1.out.cell (p := ⟨b, off + k, none⟩) hlb).trans hc0; clear hown1 hbel1)
          go_wp2
          go_roundw
          case rel => exact ⟨k + 1, 0, _, by omega, rfl, by go_num, HH, HR2, HV2, HO1.out, HB1.out⟩
          case measure => simp [intOf]; omega
        · skip
          have g1 : (0 : Int) < (s : Int) := by omega
          have hh := f6 (by omega)
          have r3 : ∀ [Inhabited Unit], (x : Int) / 2 ^ (64 - s) = (hi : Int) := by intro _; rw [hh]; simp
          clear f6 f7 hpc hh
          have r4 : ∀ [Inhabited Unit], IntKind.u64.wrap (64 - (s : Int)) = ((64 - s : Nat) : Int) := by intro _; rw [u64_same _ (by omega) (by omega)]; omega
          have r5 : ∀ [Inhabited Unit], (64 : Int) - (s : Int) = ((64 - s : Nat) : Int) := by intro _; omega
          clear hs0
          go_upto_region 10 with (at_builtin; (refine wpl_append1b 50 65 .u64 8 (by decide) infoU64n Tryz.underlying50 w.heap.size _ (q + k) L (d : Int) _ _ _ rfl rfl rfl HO.out rfl (by omega) hsz ?_); intro v' w3 hown1 hbel1 _; have HO1 := Lib.hid hown1; have HB1 := Lib.hid (hbel1 _ _ (Nat.le_refl _) HB.out); have cX2 := (HB1.out.cell (p := ⟨b, off + k, none⟩) hlb).trans hc0; clear hown1 hbel1)
          go_wp2
          go_roundw
          case rel => exact ⟨k + 1, hi, _, by omega, rfl, by go_num, HH, HR2, HV2, HO1.out, HB1.out⟩
          case measure => simp [intOf]; omega
      · have ix : ¬ (k : Int) < (X.length : Int) := by omega
        have hke : k = X.length := by omega
        have hv := HV.out
        rw [hke, List.take_length, VX.out, ← hke] at hv
        have hC := HC.out
        have hps : 2 ^ s ≤ 2 ^ 64 := Nat.pow_le_pow_right (by decide) (by omega)
        have hC64 : C < 18446744073709551616 := by omega
        have hv2 : valB 18446744073709551616 (L ++ [(C : Int)]) = m * 2 ^ n := by
          rw [valB_snoc _ _ _ (q + k) HLL.out, Int.toNat_natCast, hv, HQS.out, Nat.pow_add, Nat.pow_mul]
          rw [show (2 : Nat) ^ 64 = 18446744073709551616 from rfl, Nat.mul_comm]
        have HV3 := Lib.hid hv2
        have HR3 := Lib.hid (show Rng 18446744073709551616 (L ++ [(C : Int)]) from HR.out.append (by intro x hx; simp only [List.mem_singleton] at hx; subst hx; omega))
        have hll : (L ++ [(C : Int)]).length = q + k + 1 := by rw [List.length_append, HLL.out]; rfl
        have HLN := Lib.hid hll
        clear hv hv2 hll hC hps hke hx
        go_wp2_with (first | (at_builtin; (refine wpl_append1b 50 65 .u64 8 (by decide) infoU64n Tryz.underlying50 w.heap.size _ (q + k) L (C : Int) _ _ _ rfl rfl rfl HO.out rfl (by omega) hsz ?_); intro v' w3 hown1 hbel1 _; have HB1 := Lib.hid (hbel1 _ _ (Nat.le_refl _) HB.out); obtain ⟨a3, c3, rfl, _⟩ := own_shape hown1; obtain ⟨a4, c4, he, hI⟩ := own_ints hown1 (fun x hx => by have := HR3.out x hx; exact wf_u64_iff.2 ⟨by omega, by omega⟩); injection he with e1 e2 e3; clear e2; subst e1; subst e3; have HCP := Lib.hid (own_cap1 hown1); have HFR := Lib.hid (own_fresh hown1); have HCQ : Hid ((L ++ [(C : Int)]).length ≤ c3 ∧ c3 ≤ 9223372036854775807) := Lib.hid (by rw [HLN.out]; exact HCP.out); have HI := Lib.hid hI; have HCC := Lib.hid (ntrim_any a3 c3 w3.heap.size _ w3 hI HCQ.out.1 HCQ.out.2); rw [HV3.out, HLN.out] at HCC; have HD := Lib.hid (nat_of_ints HI.out HCQ.out); rw [HV3.out] at HD; clear hown1 hbel1 hI HI) | (go_at_call 60; refine HCC.out.mono ?_; rintro e w4 ⟨rfl, rfl⟩))
        go_ret
        exact ⟨a3, c3, rfl, HD.out, HB1.out, HFR.out⟩
theorem up2_any (a : Option Addr) (c m n : Nat) (w : World) (h : NAt w w.heap.size a c m) (hm : (dig 18446744073709551616 m).length ≤ 1000000) (hn : n ≤ 60000000) :
    Calls Tryz.prog 27 #[.slice a (dig 18446744073709551616 m).length c, .int .i64 n] w (RetN w (m * 2 ^ n)) := (up2F_any a c m n w h hm hn).mono fun _ _ => RetNF.ret
end Go.Proofs.YtddhhfhammmaaaaGreat
/- Walks of the references' whole numbers: products. -/
set_option linter.unusedVariables false
set_option linter.unusedSimpArgs false
namespace Go.Proofs.YtddhhfhammmaaaaGreat
open Go.RowKit Go.Rt

theorem make_u32 (n : Nat) (hn : n ≤ 17592186044416) (w : World) : (Instr.makeSlice 109 (.int .i64 (n : Int)) (.int .i64 (n : Int))).run Tryz.prog w = .ok (.slice (some ⟨w.heap.size, 0, none⟩) n n) (w.alloc (.cells (madeCells #[Value.int .u32 0] n) 111)) := by
  obtain ⟨i, hi, hz0, hz1, hz2⟩ := info_parts infoU32n
  have hr := run_make (P := Tryz.prog) w 109 111 i (.int .u32 0) Tryz.underlying109 hi hz0 .i64 .i64 n n (by omega) (Int.le_refl _) (by rw [hz2]; omega) (by omega)
  simp only [Int.toNat_natCast, hz1, Nat.mul_one, Value.cells] at hr
  exact hr
theorem valB_set {B : Nat} : ∀ (L : List Int) (j old d : Nat), j < L.length → L[j]?.getD 0 = (old : Int) → valB B (L.set j (d : Int)) + B ^ j * old = valB B L + B ^ j * d
  | x :: r, 0, old, d, _, h => by
    have : x = old := by simpa using h
    subst this
    simp [valB]
    omega
  | x :: r, j + 1, old, d, hj, h => by
    have ih := valB_set (B := B) r j old d (by simpa using hj) (by simpa using h)
    rw [List.set_cons_succ, valB, valB, Nat.pow_succ, Nat.mul_comm (B ^ j) B, Nat.mul_assoc, Nat.mul_assoc, Nat.add_assoc, ← Nat.mul_add, ih, Nat.mul_add]
    omega
theorem set_getD (L : List Int) (j : Nat) (d : Int) (i : Nat) : (L.set j d)[i]?.getD 0 = if i = j ∧ j < L.length then d else L[i]?.getD 0 := by
  rw [List.getElem?_set]
  by_cases h : j = i
  · subst h
    by_cases h2 : j < L.length
    · simp [h2]
    · simp [h2]
  · rw [if_neg h, if_neg (fun h2 => h h2.1.symm)]
theorem Rng.set {B : Nat} {L : List Int} (h : Rng B L) (j d : Nat) (hd : d < B) : Rng B (L.set j (d : Int)) := fun x hx => by
  rcases List.mem_or_eq_of_mem_set hx with h1 | h1
  · exact h x h1
  · subst h1; omega
/-- One step of a row of a product. -/
theorem times_step {B i k x y c l r q V0 VY : Nat} {L : List Int} (hV : valB B L + B ^ (i + k) * c = V0 + B ^ i * (x * VY)) (hj : i + k < L.length) (hl : L[i + k]?.getD 0 = (l : Int)) (hs : c + l + x * y = r + B * q) :
    valB B (L.set (i + k) (r : Int)) + B ^ (i + (k + 1)) * q = V0 + B ^ i * (x * (VY + B ^ k * y)) := by
  have h1 := valB_set (B := B) L (i + k) l r hj hl
  have h2 : B ^ (i + k) * (c + l + x * y) = B ^ (i + k) * (r + B * q) := by rw [hs]
  rw [Nat.mul_add, Nat.mul_add, Nat.mul_add] at h2
  rw [show i + (k + 1) = i + k + 1 by omega, Nat.pow_succ, Nat.mul_add x, Nat.mul_add (B ^ i)]
  have h3 : B ^ i * (x * (B ^ k * y)) = B ^ (i + k) * (x * y) := by rw [Nat.pow_add, Nat.mul_assoc, Nat.mul_left_comm x]
  rw [h3, Nat.mul_assoc]
  omega
theorem stored_u32 {w : World} {base g n cap : Nat} {L : List Int} (h : w.ownsRow base 111 1 (.slice (some ⟨g, 0, none⟩) n cap) n (L.map (Value.int .u32))) (j : Nat) (x : Int) : (w.setCell ⟨g, j, none⟩ (.int .u32 x)).ownsRow base 111 1 (.slice (some ⟨g, 0, none⟩) n cap) n ((L.set j x).map (Value.int .u32)) := by
  have := (h.stored j (.int .u32 x)).1
  rwa [map_set] at this
theorem below_drewN0 (w : World) (q : Nat) : Below w.heap.size w (w.drewN q) :=
  ⟨rfl, rfl, rfl, Nat.le_refl _, fun _ _ => rfl⟩

set_option maxHeartbeats 8000000 in
set_option maxRecDepth 100000 in
theorem ntimes_any (a b : Option Addr) (c d m n : Nat) (w : World) (h : NAt w w.heap.size a c m) (h' : NAt w w.heap.size b d n) (hm : (dig 18446744073709551616 m).length ≤ 1000000) (hn : (dig 18446744073709551616 n).length ≤ 1000000)  :
    Calls Tryz.prog 55 #[.slice a (dig 18446744073709551616 m).length c, .slice b (dig 18446744073709551616 n).length d] w (RetN w (m * n)) := by
  have h1 := fun w' (hb : Below w.heap.size w w') => Lib.hid (halves_any a c m w' (h.next hb) (by omega))
  have h2 := fun w' (hb : Below w.heap.size w w') => Lib.hid (halves_any b d n w' (h'.next hb) (by omega))
  clear h h'
  have k1 := dig32_len m
  have k2 := dig32_len n
  go_enter Tryz.func55, Tryz.ntmps55
  go_upto_region 3 with (first | (go_at_call_of 76 a; refine (h1 w (Below.refl _ _)).out.mono ?_; rintro e w1 ⟨ax, cx, rfl, hX, hb1⟩; have HX1 := Lib.hid hX; have HB1 := Lib.hid hb1; clear hX hb1) | (go_at_call_of 76 b; refine (h2 _ HB1.out).out.mono ?_; rintro e w2 ⟨ay, cy, rfl, hY, hb2⟩; have HY2 := Lib.hid hY; have HB2 := Lib.hid hb2; clear hY hb2))
  have HX2 := Lib.hid (HX1.out.next HB2.out)
  have HBW := Lib.hid (HB1.out.trans (HB2.out.mono HB1.out.size))
  clear HX1 HB1 HB2
  obtain ⟨X, hXe⟩ : ∃ X, dig 4294967296 m = X := ⟨_, rfl⟩
  obtain ⟨Y, hYe⟩ : ∃ Y, dig 4294967296 n = Y := ⟨_, rfl⟩
  have rX : Rng 4294967296 X := by rw [← hXe]; exact dig_rng (by decide) _
  have rY : Rng 4294967296 Y := by rw [← hYe]; exact dig_rng (by decide) _
  have vX : valB 4294967296 X = m := by rw [← hXe]; exact val_dig (by decide) _
  have vY : valB 4294967296 Y = n := by rw [← hYe]; exact val_dig (by decide) _
  have HcX := Lib.hid HX2.out.li
  have HcY := Lib.hid HY2.out.li
  rw [hXe] at HcX
  rw [hYe] at HcY
  rw [hXe] at k1 ⊢
  rw [hYe] at k2 ⊢
  have RX := Lib.hid rX
  have RY := Lib.hid rY
  have VX := Lib.hid vX
  have VY := Lib.hid vY
  have HXE := Lib.hid hXe
  have HYE := Lib.hid hYe
  clear hXe hYe rX rY vX vY HX2 HY2 h1 h2
  have hlX : X.length ≤ 2000000 := by omega
  have hlY : Y.length ≤ 2000000 := by omega
  clear k1 k2
  have hmk := make_u32 (X.length + Y.length) (by omega)
  obtain ⟨N, hN⟩ : ∃ N : Nat, X.length + Y.length = N := ⟨_, rfl⟩
  have hNb : N ≤ 4000000 := by omega
  have eN : ∀ [Inhabited Unit], (X.length : Int) + (Y.length : Int) = (N : Int) := by intro _; omega
  have eN2 : ∀ [Inhabited Unit], RowKit.wrap64 (N : Int) = (N : Int) := by intro _; exact IntWalk.wrap64_in _ ⟨by omega, by omega⟩
  rw [hN] at hmk
  go_wp2_with fail
  clear hmk eN eN2
  have HNN := Lib.hid hN
  clear hN
  have row := World.ownsRow_lit (base := w2.heap.size) (e := 111) (size := 1) w2 (madeCells #[Value.int .u32 0] N) N (Nat.le_refl _) (by unfold maxLen; omega) (by rw [size_madeCells, Nat.mul_one])
  rw [made_zeros] at row
  have bel0 : Below w2.heap.size w2 (w2.alloc (.cells (madeCells #[Value.int .u32 0] N) 111)) := (Below.refl _ _).alloc (Nat.le_refl _) _
  go_loopw [8] (fun iv wr => ∃ (i : Nat) (L : List Int), i ≤ X.length ∧ iv = .int .i64 i ∧ Hid (Rng 4294967296 L) ∧ Hid (valB 4294967296 L = valB 4294967296 (X.take i) * n) ∧ Hid (∀ j : Nat, i + Y.length ≤ j → L[j]?.getD 0 = 0) ∧ Hid (wr.ownsRow w2.heap.size 111 1 (.slice (some ⟨w2.heap.size, 0, none⟩) N N) N (L.map (Value.int .u32))) ∧ Hid (Below w2.heap.size w2 wr)) (fun iv _ => X.length - (intOf iv).toNat)
  case atStart => exact ⟨0, List.replicate N 0, Nat.zero_le _, rfl, Lib.hid (fun x hx => by rw [(List.mem_replicate.1 hx).2]; omega), Lib.hid (by simp [valB_zeros, valB]), Lib.hid (fun j _ => by rw [List.getElem?_replicate]; split <;> rfl), Lib.hid row, Lib.hid bel0⟩
  case round =>
    clear row bel0
    obtain ⟨i, L, hi, rfl, HR, HV, HZ, HO, HB⟩ := hrel
    obtain ⟨wa, rfl⟩ : ∃ wa : World, wa = wr := ⟨_, rfl⟩
    have HLL := Lib.hid (own_len_k HO.out)
    by_cases hx : i < X.length
    · have dX := RX.out.getD (by decide) i
      obtain ⟨x, ex⟩ : ∃ d : Nat, X[i]?.getD 0 = (d : Int) := ⟨(X[i]?.getD 0).toNat, by omega⟩
      obtain ⟨bX, oX, ex2, hlb, cX0⟩ := HcX.out.cell i hx
      rw [ex] at cX0 dX
      subst ex2
      have ix : (i : Int) < (X.length : Int) := by omega
      have i0 : (0 : Int) ≤ (i : Int) := by omega
      have HEX := Lib.hid ex
      clear ex
      have HCX := Lib.hid cX0
      clear cX0
      go_wp2_with fail
      go_loopw [10, 9] (fun kv cv wr => ∃ (k c : Nat) (M : List Int), k ≤ Y.length ∧ kv = .int .i64 k ∧ cv = .int .u64 c ∧ c < 4294967296 ∧ Hid (Rng 4294967296 M) ∧ Hid (valB 4294967296 M + 4294967296 ^ (i + k) * c = valB 4294967296 L + 4294967296 ^ i * (x * valB 4294967296 (Y.take k))) ∧ Hid (∀ j : Nat, i + k ≤ j → M[j]?.getD 0 = L[j]?.getD 0) ∧ Hid (wr.ownsRow w2.heap.size 111 1 (.slice (some ⟨w2.heap.size, 0, none⟩) N N) N (M.map (Value.int .u32))) ∧ Hid (Below w2.heap.size w2 wr)) (fun kv _ _ => Y.length - (intOf kv).toNat)
      case atStart => exact ⟨0, 0, L, Nat.zero_le _, rfl, rfl, by omega, HR, Lib.hid (by simp [valB]), Lib.hid (fun _ _ => rfl), HO, HB⟩
      case round =>
        obtain ⟨k, c0, M, hk, rfl, rfl, hc, HR1, HV1, HZ1, HO1, HB1⟩ := hrel
        obtain ⟨wb, rfl⟩ : ∃ wb : World, wb = wr := ⟨_, rfl⟩
        have HLM := Lib.hid (own_len_k HO1.out)
        clear HO HB
        have cX := (HB1.out.cell (p := ⟨bX, oX + i, none⟩) hlb).trans HCX.out
        by_cases hy : k < Y.length
        · have dY := RY.out.getD (by decide) k
          obtain ⟨y, ey⟩ : ∃ d : Nat, Y[k]?.getD 0 = (d : Int) := ⟨(Y[k]?.getD 0).toNat, by omega⟩
          obtain ⟨bY, oY, ey2, hlb2, cY⟩ := HcY.out.cell k hy
          rw [ey] at cY dY
          replace cY := (HB1.out.cell (p := ⟨bY, oY + k, none⟩) hlb2).trans cY
          subst ey2
          have iy : (k : Int) < (Y.length : Int) := by omega
          have k0 : (0 : Int) ≤ (k : Int) := by omega
          obtain ⟨ik, hik⟩ : ∃ ik : Nat, ik = i + k := ⟨_, rfl⟩
          have hikN : ik < N := by have := HNN.out; omega
          have q1 : ∀ [Inhabited Unit], (i : Int) + (k : Int) = (ik : Int) := by intro _; omega
          have q2 : ∀ [Inhabited Unit], IntKind.i64.wrap (ik : Int) = (ik : Int) := by intro _; rw [IntWalk.i64_left]; exact IntWalk.wrap64_in _ ⟨by omega, by omega⟩
          have q3 : ∀ [Inhabited Unit], RowKit.wrap64 (ik : Int) = (ik : Int) := by intro _; exact IntWalk.wrap64_in _ ⟨by omega, by omega⟩
          have iN : (ik : Int) < (N : Int) := by omega
          have ik0 : (0 : Int) ≤ (ik : Int) := by omega
          have dM := HR1.out.getD (by decide) ik
          obtain ⟨l, el⟩ : ∃ d : Nat, M[ik]?.getD 0 = (d : Int) := ⟨(M[ik]?.getD 0).toNat, by omega⟩
          rw [el] at dM
          have cM := own_cell HO1.out hikN
          rw [el] at cM
          have fM := HO1.out.frozenAt ik
          obtain ⟨p, hp⟩ : ∃ p : Nat, p = x * y := ⟨_, rfl⟩
          have hp2 : p ≤ 18446744065119617025 := by rw [hp]; exact Nat.mul_le_mul (show x ≤ 4294967295 by omega) (show y ≤ 4294967295 by omega)
          obtain ⟨s1, hs1⟩ : ∃ s1 : Nat, s1 = c0 + l := ⟨_, rfl⟩
          obtain ⟨S, hS⟩ : ∃ S : Nat, S = s1 + p := ⟨_, rfl⟩
          have hSb : S < 18446744073709551616 := by omega
          have h1b : s1 < 18446744073709551616 := by omega
          have hpb : p < 18446744073709551616 := by omega
          have r1 : ∀ [Inhabited Unit], (c0 : Int) + (l : Int) = (s1 : Int) := by intro _; omega
          have r2 : ∀ [Inhabited Unit], (x : Int) * (y : Int) = (p : Int) := by intro _; rw [hp, Int.natCast_mul]
          have r3 : ∀ [Inhabited Unit], (s1 : Int) + (p : Int) = (S : Int) := by intro _; omega
          have r4 : ∀ [Inhabited Unit], IntKind.u64.wrap (s1 : Int) = (s1 : Int) := by intro _; exact u64_same _ (by omega) (by omega)
          have r5 : ∀ [Inhabited Unit], IntKind.u64.wrap (p : Int) = (p : Int) := by intro _; exact u64_same _ (by omega) (by omega)
          have r6 : ∀ [Inhabited Unit], IntKind.u64.wrap (S : Int) = (S : Int) := by intro _; exact u64_same _ (by omega) (by omega)
          obtain ⟨r, hr⟩ : ∃ r : Nat, r = S % 4294967296 := ⟨_, rfl⟩
          obtain ⟨q, hq⟩ : ∃ q : Nat, q = S / 4294967296 := ⟨_, rfl⟩
          have r7 : ∀ [Inhabited Unit], IntKind.u32.wrap (S : Int) = (r : Int) := by intro _; rw [IntKind.wrap_u32]; omega
          have r8 : ∀ [Inhabited Unit], (S : Int) / 4294967296 = (q : Int) := by intro _; omega
          have hq2 : q < 4294967296 := by omega
          have hr2 : r < 4294967296 := by omega
          have hst := times_step (y := y) (r := r) (q := q) HV1.out (by rw [HLM.out, ← hik]; exact hikN) (by rw [← hik]; exact el) (by omega)
          have t1 := valB_take_succ' 4294967296 Y k
          rw [ey, Int.toNat_natCast] at t1
          rw [← t1, ← hik] at hst
          have HV2 := Lib.hid hst
          have HR2 := Lib.hid (HR1.out.set ik r hr2)
          have HZ2 : Hid (∀ j : Nat, i + (k + 1) ≤ j → (M.set ik (r : Int))[j]?.getD 0 = L[j]?.getD 0) := Lib.hid (fun j hj => by rw [set_getD, if_neg (by omega)]; exact HZ1.out j (by omega))
          clear hst t1 hp hs1 hS hr hq ey el HLM hik
          go_upto_region 11 with fail
          go_quiet (fail)
          have HO2 := Lib.hid (stored_u32 (L := M) (show (wb.drewN nq).ownsRow w2.heap.size 111 1 (.slice (some ⟨w2.heap.size, 0, none⟩) N N) N (M.map (Value.int .u32)) from HO1.out) ik (r : Int))
          have HB2 : Hid (Below w2.heap.size w2 ((wb.drewN nq).setCell ⟨w2.heap.size, ik, none⟩ (.int .u32 (r : Int)))) := Lib.hid (Below.setCell (HB1.out.trans ((below_drewN0 wb nq).mono HB1.out.size)) (Nat.le_refl _) _)
          go_wp2
          go_roundw
          case rel => exact ⟨k + 1, q, _, by omega, by go_num, rfl, hq2, HR2, HV2, HZ2, HO2, HB2⟩
          case measure => simp [intOf]; omega
        · have iy : ¬ (k : Int) < (Y.length : Int) := by omega
          have hke : k = Y.length := by omega
          obtain ⟨ik, hik⟩ : ∃ ik : Nat, ik = i + Y.length := ⟨_, rfl⟩
          have hikN : ik < N := by have := HNN.out; omega
          have q1 : ∀ [Inhabited Unit], (i : Int) + (Y.length : Int) = (ik : Int) := by intro _; omega
          have q3 : ∀ [Inhabited Unit], RowKit.wrap64 (ik : Int) = (ik : Int) := by intro _; exact IntWalk.wrap64_in _ ⟨by omega, by omega⟩
          have iN : (ik : Int) < (N : Int) := by omega
          have ik0 : (0 : Int) ≤ (ik : Int) := by omega
          have fM := HO1.out.frozenAt ik
          have cM := own_cell HO1.out hikN
          have hz : M[ik]?.getD 0 = ((0 : Nat) : Int) := by rw [HZ1.out ik (by omega), HZ.out ik (by omega)]; rfl
          have hz2 : M[ik]?.getD 0 = 0 := by rw [hz]; rfl
          rw [hz2] at cM
          have hv := HV1.out
          rw [hke, List.take_length, VY.out, ← hik] at hv
          have hset := valB_set (B := 4294967296) M ik 0 c0 (by rw [HLM.out]; exact hikN) hz
          rw [Nat.mul_zero, Nat.add_zero] at hset
          have t1 := valB_take_succ' 4294967296 X i
          rw [HEX.out, Int.toNat_natCast] at t1
          have hv2 : valB 4294967296 (M.set ik (c0 : Int)) = valB 4294967296 (X.take (i + 1)) * n := by rw [hset, hv, HV.out, t1, Nat.add_mul, Nat.mul_assoc]
          have HV2 := Lib.hid hv2
          have HR2 := Lib.hid (HR1.out.set ik c0 hc)
          have HZ2 : Hid (∀ j : Nat, i + 1 + Y.length ≤ j → (M.set ik (c0 : Int))[j]?.getD 0 = 0) := Lib.hid (fun j hj => by rw [set_getD, if_neg (by omega), HZ1.out j (by omega)]; exact HZ.out j (by omega))
          have eC : ∀ [Inhabited Unit], IntKind.u32.wrap (c0 : Int) = (c0 : Int) := by intro _; rw [IntKind.wrap_u32]; omega
          have HO2 := Lib.hid (stored_u32 HO1.out ik (c0 : Int))
          have HB2 : Hid (Below w2.heap.size w2 (wb.setCell ⟨w2.heap.size, ik, none⟩ (.int .u32 (c0 : Int)))) := Lib.hid (Below.setCell HB1.out (Nat.le_refl _) _)
          clear hv hv2 hset t1 hz hz2 hke hy hik
          go_wp2
          go_roundw
          case rel => exact ⟨i + 1, _, by omega, by go_num, HR2, HV2, HZ2, HO2, HB2⟩
          case measure => simp [intOf]; omega
    · have ix : ¬ (i : Int) < (X.length : Int) := by omega
      have hv := HV.out
      rw [List.take_of_length_le (by omega), VX.out] at hv
      have HV3 := Lib.hid hv
      clear hv hx
      (have hown1 := HO.out; obtain ⟨a4, c4, he, hI⟩ := own_ints hown1 (fun x hx => by have := HR.out x hx; exact wf_u32_iff.2 ⟨by omega, by omega⟩); injection he with e1 e2 e3; clear e2; subst e1; subst e3; have HCP := Lib.hid (own_cap1 hown1); have HCQ : Hid (L.length ≤ N ∧ N ≤ 9223372036854775807) := Lib.hid (by rw [HLL.out]; exact HCP.out); have HI := Lib.hid hI; have HC := Lib.hid (cut_any (some ⟨w2.heap.size, 0, none⟩) N wa.heap.size _ wa hI HCQ.out.1 HCQ.out.2); rw [HV3.out, HLL.out] at HC; have HD := Lib.hid (dig_of_ints HI.out HCQ.out); rw [HV3.out] at HD; have HW := Lib.hid (nwhole_any (some ⟨w2.heap.size, 0, none⟩) N (m * n) wa HD.out (by have e := dig_is_take (B := 4294967296) (by decide) HR.out; rw [HV3.out] at e; have e2 := congrArg List.length e; rw [List.length_take, HLL.out] at e2; omega)); clear hown1 hI HD HI)
      go_wp2_with (first | (go_at_call 78; refine HC.out.mono ?_; rintro e w4 ⟨rfl, rfl⟩) | (go_at_call 77; refine HW.out.mono ?_; rintro e w5 ⟨a5, c5, rfl, hN, hb5⟩; have HN := Lib.hid hN; have HB5 := Lib.hid hb5; clear hN hb5))
      go_ret
      exact ⟨a5, c5, rfl, HN.out, (HBW.out.trans (HB.out.mono HBW.out.size)).trans (HB5.out.mono (Nat.le_trans HBW.out.size HB.out.size))⟩
end Go.Proofs.YtddhhfhammmaaaaGreat
