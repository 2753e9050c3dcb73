/- Walks of the references' whole numbers: order, length. -/
import Derived.Test.YtimjhjacinchjaaGreatN5
import Derived.BigQuiet
import Derived.WalkMore
import Derived.Deep.RegionHeld3
import Derived.Deep.RegionWith
import Derived.BigRegion
import Derived.Deep.Cut
import Derived.Deep.CutBlock
import Derived.Deep.CutRange
set_option linter.unusedVariables false
set_option linter.unusedSimpArgs false
namespace Go.Proofs.YtimjhjacinchjaaGreat
open Go.RowKit Go.Rt

theorem valB_split (B : Nat) (xs : List Int) (k : Nat) (h : k ≤ xs.length) : valB B xs = valB B (xs.take k) + B ^ k * valB B (xs.drop k) := by
  have hl : (xs.take k).length = k := by simp; omega
  conv => lhs; rw [← List.take_append_drop k xs, valB_append, hl]
/-- The highest digit that differs says which number is less. -/
theorem cmp_lt {B : Nat} (hB : 2 ≤ B) {xs ys : List Int} {k dx dy : Nat} (hr : Rng B xs) (hl : xs.length = ys.length) (hk : k < xs.length) (he : ∀ j, k < j → xs[j]?.getD 0 = ys[j]?.getD 0) (hx : xs[k]?.getD 0 = (dx : Int)) (hy : ys[k]?.getD 0 = (dy : Int)) (h : dx < dy) : valB B xs < valB B ys := by
  have hd : xs.drop (k + 1) = ys.drop (k + 1) := by
    apply List.ext_getElem
    · simp [hl]
    · intro i h1 h2
      have h3 : k + 1 + i < xs.length := by simp at h1; omega
      have h4 : k + 1 + i < ys.length := by omega
      have := he (k + 1 + i) (by omega)
      rw [List.getElem?_eq_getElem h3, List.getElem?_eq_getElem h4] at this
      simpa using this
  have e1 : xs.drop k = (dx : Int) :: xs.drop (k + 1) := by
    rw [List.drop_eq_getElem_cons hk]
    rw [List.getElem?_eq_getElem hk] at hx
    congr 1
  have hk2 : k < ys.length := by omega
  have e2 : ys.drop k = (dy : Int) :: ys.drop (k + 1) := by
    rw [List.drop_eq_getElem_cons hk2]
    rw [List.getElem?_eq_getElem hk2] at hy
    congr 1
  rw [valB_split B xs k (by omega), valB_split B ys k (by omega), e1, e2, hd, valB, valB, Int.toNat_natCast, Int.toNat_natCast]
  have h1 := valB_lt hB (hr.take k)
  have hlk : (xs.take k).length = k := by simp; omega
  rw [hlk] at h1
  have h2 : B ^ k * (dx + 1 + B * valB B (ys.drop (k + 1))) ≤ B ^ k * (dy + B * valB B (ys.drop (k + 1))) := Nat.mul_le_mul (Nat.le_refl _) (by omega)
  rw [show dx + 1 + B * valB B (ys.drop (k + 1)) = dx + B * valB B (ys.drop (k + 1)) + 1 by omega, Nat.mul_add, Nat.mul_one] at h2
  omega
theorem cmp_eq {xs ys : List Int} (hl : xs.length = ys.length) (he : ∀ j : Nat, xs[j]?.getD 0 = ys[j]?.getD 0) : xs = ys := by
  apply List.ext_getElem hl
  intro i h1 h2
  have := he i
  rw [List.getElem?_eq_getElem h1, List.getElem?_eq_getElem h2] at this
  simpa using this
def cmpN (m n : Nat) : Int := if m < n then -1 else if n < m then 1 else 0
theorem cmpN_lt {m n : Nat} (h : m < n) : cmpN m n = -1 := by unfold cmpN; rw [if_pos h]
theorem cmpN_gt {m n : Nat} (h : n < m) : cmpN m n = 1 := by unfold cmpN; rw [if_neg (by omega), if_pos h]
theorem cmpN_eq (m : Nat) : cmpN m m = 0 := by unfold cmpN; rw [if_neg (by omega), if_neg (by omega)]

set_option maxHeartbeats 4000000 in
set_option maxRecDepth 100000 in
theorem ncmp_any (a b : Option Addr) (c d m n hi : Nat) (w : World) (h : NAt w hi a c m) (h' : NAt w hi b d n) :
    Calls Tryz.prog 75 #[.slice a (dig 18446744073709551616 m).length c, .slice b (dig 18446744073709551616 n).length d] w fun e w' => e = .returned (.int .i64 (cmpN m n)) ∧ ∃ q, w' = w.drewN q := by
  obtain ⟨X, hXe⟩ : ∃ X, dig 18446744073709551616 m = X := ⟨_, rfl⟩
  obtain ⟨Y, hYe⟩ : ∃ Y, dig 18446744073709551616 n = Y := ⟨_, rfl⟩
  have rX : Rng 18446744073709551616 X := by rw [← hXe]; exact dig_rng (by decide) _
  have rY : Rng 18446744073709551616 Y := by rw [← hYe]; exact dig_rng (by decide) _
  have vX : valB 18446744073709551616 X = m := by rw [← hXe]; exact val_dig (by decide) _
  have vY : valB 18446744073709551616 Y = n := by rw [← hYe]; exact val_dig (by decide) _
  have hcx := h.li
  have hcy := h'.li
  have hmX := hcx.len
  have hmY := hcy.len
  rw [hXe] at hcx hmX ⊢
  rw [hYe] at hcy hmY ⊢
  have HcX := Lib.hid hcx
  have HcY := Lib.hid hcy
  have RX := Lib.hid rX
  have RY := Lib.hid rY
  have VX := Lib.hid vX
  have VY := Lib.hid vY
  have hLL : X.length < Y.length → m < n := fun hh => by
    by_cases hc : n ≤ m
    · have := dig_len_mono (B := 18446744073709551616) (by decide) hc; rw [hXe, hYe] at this; omega
    · omega
  have hGG : Y.length < X.length → n < m := fun hh => by
    by_cases hc : m ≤ n
    · have := dig_len_mono (B := 18446744073709551616) (by decide) hc; rw [hXe, hYe] at this; omega
    · omega
  clear hXe hYe rX rY vX vY hcx hcy h h'
  by_cases hl : X.length = Y.length
  · have e1 : ((X.length : Int) != (Y.length : Int)) = false := by simp; omega
    have HL := Lib.hid hl
    clear hLL hGG hl
    have ew : ∀ [Inhabited Unit], RowKit.wrap64 ((X.length : Int) - 1) = (X.length : Int) - 1 := by intro _; exact IntWalk.wrap64_in _ ⟨by omega, by omega⟩
    go_enter Tryz.func75, Tryz.ntmps75
    go_wp2
    go_loopw [5] (fun i wr => ∃ (k : Nat) (I : Int) (q : Nat), k ≤ X.length ∧ i = .int .i64 I ∧ I = (k : Int) - 1 ∧ Hid (∀ j, k ≤ j → X[j]?.getD 0 = Y[j]?.getD 0) ∧ wr = w.drewN q) (fun i _ => (intOf i + 1).toNat)
    case atStart => exact ⟨X.length, _, 0, Nat.le_refl _, rfl, rfl, Lib.hid (fun j hj => by rw [List.getElem?_eq_none hj, List.getElem?_eq_none (by rw [← HL.out]; exact hj)]), rfl⟩
    case round =>
      obtain ⟨k, I, q, hk, rfl, hI, HE, rfl⟩ := hrel
      by_cases hk0 : k = 0
      · have hmn : m = n := by
          rw [← VX.out, ← VY.out, cmp_eq HL.out (fun j => HE.out j (by omega))]
        subst hmn
        have HZ := Lib.hid (cmpN_eq m)
        obtain rfl : I = -1 := by omega
        clear hI hk0
        go_wp2
        go_ret
        exact ⟨by rw [HZ.out]; rfl, _, rfl⟩
      · obtain ⟨kk, rfl⟩ : ∃ kk, k = kk + 1 := ⟨k - 1, by omega⟩
        obtain rfl : I = (kk : Int) := by omega
        clear hI hk0
        have hx : kk < X.length := by omega
        have hy : kk < Y.length := by rw [← HL.out]; exact hx
        have dX := RX.out.getD (by decide) kk
        have dY := RY.out.getD (by decide) kk
        obtain ⟨dx, edx⟩ : ∃ d : Nat, X[kk]?.getD 0 = (d : Int) := ⟨(X[kk]?.getD 0).toNat, by omega⟩
        obtain ⟨dy, edy⟩ : ∃ d : Nat, Y[kk]?.getD 0 = (d : Int) := ⟨(Y[kk]?.getD 0).toNat, by omega⟩
        obtain ⟨bX, oX, ex, hlb, cX⟩ := HcX.out.cell kk hx
        obtain ⟨bY, oY, ey, hlb2, cY⟩ := HcY.out.cell kk hy
        rw [edx] at cX
        rw [edy] at cY
        subst ex
        subst ey
        have i0 : (0 : Int) ≤ (kk : Int) := by omega
        have ix : (kk : Int) < (X.length : Int) := by omega
        have iy : (kk : Int) < (Y.length : Int) := by omega
        have ek : ∀ [Inhabited Unit], RowKit.wrap64 ((kk : Int) - 1) = (kk : Int) - 1 := by intro _; exact IntWalk.wrap64_in _ ⟨by omega, by omega⟩
        have HX := Lib.hid edx
        have HY := Lib.hid edy
        clear edx edy dX dY
        rcases Nat.lt_trichotomy dx dy with hlt | heq | hgt
        · have hmn : m < n := by
            rw [← VX.out, ← VY.out]
            exact cmp_lt (by decide) RX.out HL.out hx (fun j hj => HE.out j (by omega)) HX.out HY.out hlt
          have HZ := Lib.hid (cmpN_lt hmn)
          clear hmn
          have hc : (dx : Int) < (dy : Int) := by omega
          go_upto_region 8 with fail
          go_quiet (fail)
          go_wp2
          go_ret
          exact ⟨by rw [HZ.out]; rfl, _, by first | rfl | exact World.drewN_drewN _ _ _⟩
        · subst heq
          have HE2 : Hid (∀ j, kk ≤ j → X[j]?.getD 0 = Y[j]?.getD 0) := Lib.hid (fun j hj => by
            by_cases he : j = kk
            · rw [he, HX.out, HY.out]
            · exact HE.out j (by omega))
          have hc : ¬ (dx : Int) < (dx : Int) := by omega
          go_upto_region 8 with fail
          go_quiet (fail)
          go_upto_region 10 with fail
          obtain ⟨W1, hW1⟩ : ∃ W1 : World, (w.drewN q).drewN nq = W1 := ⟨_, rfl⟩
          have cX1 : W1.cell? ⟨bX, oX + kk, none⟩ = some (.int .u64 dx) := by rw [← hW1]; exact cX
          have cY1 : W1.cell? ⟨bY, oY + kk, none⟩ = some (.int .u64 dx) := by rw [← hW1]; exact cY
          rw [hW1]
          go_quiet (fail)
          go_wp2
          go_roundw
          case rel => exact ⟨kk, _, _, by omega, rfl, rfl, HE2, by rw [← hW1, World.drewN_drewN, World.drewN_drewN]⟩
          case measure => simp [intOf]
        · have hmn : n < m := by
            rw [← VX.out, ← VY.out]
            exact cmp_lt (by decide) RY.out HL.out.symm hy (fun j hj => (HE.out j (by omega)).symm) HY.out HX.out hgt
          have HZ := Lib.hid (cmpN_gt hmn)
          clear hmn
          have hc : ¬ (dx : Int) < (dy : Int) := by omega
          have hc2 : (dy : Int) < (dx : Int) := by omega
          go_upto_region 8 with fail
          go_quiet (fail)
          go_upto_region 10 with fail
          obtain ⟨W1, hW1⟩ : ∃ W1 : World, (w.drewN q).drewN nq = W1 := ⟨_, rfl⟩
          have cX1 : W1.cell? ⟨bX, oX + kk, none⟩ = some (.int .u64 dx) := by rw [← hW1]; exact cX
          have cY1 : W1.cell? ⟨bY, oY + kk, none⟩ = some (.int .u64 dy) := by rw [← hW1]; exact cY
          rw [hW1]
          go_quiet (fail)
          go_wp2
          go_ret
          exact ⟨by rw [HZ.out]; rfl, _, by rw [← hW1, World.drewN_drewN, World.drewN_drewN]⟩
  · have e1 : ((X.length : Int) != (Y.length : Int)) = true := by simp; omega
    by_cases hlt : X.length < Y.length
    · have HZ := Lib.hid (cmpN_lt (hLL hlt))
      have hc : (X.length : Int) < (Y.length : Int) := by omega
      clear hLL hGG hl hlt
      go_enter Tryz.func75, Tryz.ntmps75
      go_wp2
      go_ret
      exact ⟨by rw [HZ.out]; rfl, 0, rfl⟩
    · have HZ := Lib.hid (cmpN_gt (hGG (by omega)))
      have hc : ¬ (X.length : Int) < (Y.length : Int) := by omega
      clear hLL hGG hl hlt
      go_enter Tryz.func75, Tryz.ntmps75
      go_wp2
      go_ret
      exact ⟨by rw [HZ.out]; rfl, 0, rfl⟩
end Go.Proofs.YtimjhjacinchjaaGreat
