/- Numbers times powers of 2: the plain laws. -/
import Derived.Test.YtlbmpdidmckgkaaDiv5
import Derived.WalkMore
import Derived.Deep.RegionHeld3
import Derived.Deep.Cut
set_option linter.unusedVariables false
set_option linter.unusedSimpArgs false
namespace Go.Proofs.Ytlbmpdidmckgkaa
open Go.RowKit Go.Rt

theorem pow_split (n : Nat) (h : n ≤ 64) : (2 : Int) ^ n * (2 : Int) ^ (64 - n) = 18446744073709551616 := by
  rw [← castPow, ← castPow, ← Int.natCast_mul, ← Nat.pow_add, Nat.add_sub_cancel' h]
  rfl
theorem pow_pos (n : Nat) : 1 ≤ (2 : Int) ^ n := by rw [← castPow]; have := Nat.two_pow_pos n; omega

/-- How many bits a size has. -/
def lenI (HI LO : Int) : Int := if HI = 0 then (Lib.bitLen LO.toNat : Int) else 64 + (Lib.bitLen HI.toNat : Int)

theorem len_pow (S L n : Nat) (h1 : S < 2 ^ L) (h2 : S ≠ 0 → 1 ≤ L ∧ 2 ^ (L - 1) ≤ S) (h3 : S = 0 → L = 0) (hn : n ≤ 128) : L + n ≤ 128 ↔ S * 2 ^ n < 340282366920938463463374607431768211456 := by
  have e128 : (340282366920938463463374607431768211456 : Nat) = 2 ^ 128 := rfl
  constructor
  · intro h
    have : S * 2 ^ n < 2 ^ L * 2 ^ n := Nat.mul_lt_mul_of_pos_right h1 (Nat.two_pow_pos n)
    rw [← Nat.pow_add] at this
    exact Nat.lt_of_lt_of_le this (by rw [e128]; exact Nat.pow_le_pow_right (by decide) h)
  · intro h
    by_cases h0 : S = 0
    · have := h3 h0; omega
    · obtain ⟨k1, k2⟩ := h2 h0
      rcases Nat.lt_or_ge 128 (L + n) with hc | hc
      · have : 2 ^ (L - 1) * 2 ^ n ≤ S * 2 ^ n := Nat.mul_le_mul_right _ k2
        rw [← Nat.pow_add] at this
        have h5 : 2 ^ 128 ≤ 2 ^ (L - 1 + n) := Nat.pow_le_pow_right (by decide) (by omega)
        rw [e128] at h
        omega
      · exact hc

theorem len_of (HI LO : Int) (n : Nat) (h0 : 0 ≤ HI) (h1 : HI ≤ 18446744073709551615) (l0 : 0 ≤ LO) (l1 : LO ≤ 18446744073709551615) (hn : n ≤ 128) :
    lenI HI LO + n ≤ 128 ↔ (HI * 18446744073709551616 + LO) * (2 : Int) ^ n < 340282366920938463463374607431768211456 := by
  obtain ⟨a, rfl⟩ := Int.eq_ofNat_of_zero_le h0
  obtain ⟨b, rfl⟩ := Int.eq_ofNat_of_zero_le l0
  obtain ⟨b1, b2⟩ := bitLen_bounds a (by omega)
  obtain ⟨c1, c2⟩ := bitLen_bounds b (by omega)
  have key : ∀ L : Nat, lenI a b = L → (a * 18446744073709551616 + b < 2 ^ L) → (a * 18446744073709551616 + b ≠ 0 → 1 ≤ L ∧ 2 ^ (L - 1) ≤ a * 18446744073709551616 + b) → (a * 18446744073709551616 + b = 0 → L = 0) →
      (lenI a b + n ≤ 128 ↔ ((a : Int) * 18446744073709551616 + b) * (2 : Int) ^ n < 340282366920938463463374607431768211456) := by
    intro L hL k1 k2 k3
    have := len_pow (a * 18446744073709551616 + b) L n k1 k2 k3 hn
    rw [hL, ← castPow]
    have e : ((a : Int) * 18446744073709551616 + b) * ((2 ^ n : Nat) : Int) = (((a * 18446744073709551616 + b) * 2 ^ n : Nat) : Int) := by
      rw [Int.natCast_mul (a * 18446744073709551616 + b) (2 ^ n)]
      rfl
    rw [e]
    generalize (a * 18446744073709551616 + b) * 2 ^ n = T at this
    omega
  by_cases ha : a = 0
  · subst ha
    have e : lenI ((0 : Nat) : Int) b = (Lib.bitLen b : Nat) := by simp [lenI]
    refine key _ e ?_ ?_ ?_
    · simpa using c1
    · intro h; simpa using c2 (by simpa using h)
    · intro h
      have : b = 0 := by simpa using h
      subst this
      decide
  · have e : lenI (a : Int) b = ((64 + Lib.bitLen a : Nat) : Int) := by
      unfold lenI
      rw [if_neg (by omega)]
      simp
    obtain ⟨d1, d2⟩ := b2 ha
    have p64 : (2 : Nat) ^ (64 + Lib.bitLen a) = 18446744073709551616 * 2 ^ Lib.bitLen a := by rw [Nat.pow_add]
    have q64 : (2 : Nat) ^ (64 + Lib.bitLen a - 1) = 18446744073709551616 * 2 ^ (Lib.bitLen a - 1) := by
      have : 64 + Lib.bitLen a - 1 = 64 + (Lib.bitLen a - 1) := by omega
      rw [this, Nat.pow_add]
    refine key _ e ?_ ?_ ?_
    · rw [p64]
      generalize 2 ^ Lib.bitLen a = X at b1
      omega
    · intro _
      rw [q64]
      generalize 2 ^ (Lib.bitLen a - 1) = X at d2
      exact ⟨by omega, by omega⟩
    · intro h; omega

/-- A size, shifted by less than a word. -/
theorem left_short (HI LO : Int) (n : Nat) (h0 : 0 ≤ HI) (l0 : 0 ≤ LO) (l1 : LO ≤ 18446744073709551615) (hn : n ≤ 63) (hlt : (HI * 18446744073709551616 + LO) * (2 : Int) ^ n < 340282366920938463463374607431768211456) :
    0 ≤ HI * 2 ^ n ∧ HI * 2 ^ n < 18446744073709551616 ∧ 0 ≤ LO / 2 ^ (64 - n) ∧ LO / 2 ^ (64 - n) < 2 ^ n ∧ HI * 2 ^ n + LO / 2 ^ (64 - n) < 18446744073709551616 ∧
      (HI * 18446744073709551616 + LO) * 2 ^ n / 18446744073709551616 = HI * 2 ^ n + LO / 2 ^ (64 - n) ∧ (HI * 18446744073709551616 + LO) * 2 ^ n % 18446744073709551616 = LO * 2 ^ n % 18446744073709551616 := by
  have pp := pow_split n (by omega)
  have hp := pow_pos n
  have hp' := pow_pos (64 - n)
  generalize (2 : Int) ^ n = p at *
  generalize (2 : Int) ^ (64 - n) = p' at *
  have hHp : 0 ≤ HI * p := Int.mul_nonneg h0 (by omega)
  have h3 : 0 ≤ LO / p' := Int.ediv_nonneg l0 (by omega)
  have h4 : LO / p' < p := Int.ediv_lt_of_lt_mul (by omega) (by rw [pp]; omega)
  have h5 := Int.mul_ediv_add_emod LO p'
  have h6 : 0 ≤ LO % p' := Int.emod_nonneg _ (by omega)
  have h7 : LO % p' < p' := Int.emod_lt_of_pos _ (by omega)
  have h8 : LO * p = LO / p' * 18446744073709551616 + LO % p' * p := by
    rw [← pp]
    conv => lhs; rw [← h5]
    rw [Int.add_mul, Int.mul_comm p' (LO / p'), Int.mul_assoc (LO / p') p' p, Int.mul_comm p' p]
  have h9 : 0 ≤ LO % p' * p := Int.mul_nonneg h6 (by omega)
  have ha : LO % p' * p < 18446744073709551616 := by
    rw [← pp, Int.mul_comm p p']
    exact Int.mul_lt_mul_of_pos_right h7 (by omega)
  have hX : (HI * 18446744073709551616 + LO) * p = (HI * p + LO / p') * 18446744073709551616 + LO % p' * p := by
    rw [Int.add_mul, h8, Int.mul_right_comm, Int.add_mul]
    omega
  rw [hX] at hlt ⊢
  have hlt2 : HI * p + LO / p' < 18446744073709551616 := by omega
  exact ⟨hHp, by omega, h3, h4, hlt2, by omega, by omega⟩

/-- A size of one word, shifted by more than a word. -/
theorem left_long (LO : Int) (n : Nat) (l0 : 0 ≤ LO) (hn : 64 ≤ n) (hlt : LO * (2 : Int) ^ n < 340282366920938463463374607431768211456) :
    0 ≤ LO * 2 ^ (n - 64) ∧ LO * 2 ^ (n - 64) < 18446744073709551616 ∧ LO * 2 ^ n / 18446744073709551616 = LO * 2 ^ (n - 64) ∧ LO * 2 ^ n % 18446744073709551616 = 0 := by
  have e : (2 : Int) ^ n = 2 ^ (n - 64) * 18446744073709551616 := by
    have : n = (n - 64) + 64 := by omega
    conv => lhs; rw [this, Int.pow_add]
    rfl
  have hp := pow_pos (n - 64)
  rw [e, ← Int.mul_assoc] at hlt ⊢
  have : 0 ≤ LO * 2 ^ (n - 64) := Int.mul_nonneg l0 (by omega)
  generalize LO * 2 ^ (n - 64) = T at *
  omega
/-- .. which is one of one word. -/
theorem left_one (HI LO : Int) (n : Nat) (h0 : 0 ≤ HI) (l0 : 0 ≤ LO) (hn : 64 ≤ n) (hlt : (HI * 18446744073709551616 + LO) * (2 : Int) ^ n < 340282366920938463463374607431768211456) : HI = 0 := by
  have e : (2 : Int) ^ n = 2 ^ (n - 64) * 18446744073709551616 := by
    have : n = (n - 64) + 64 := by omega
    conv => lhs; rw [this, Int.pow_add]
    rfl
  have hp := pow_pos (n - 64)
  rcases Int.lt_or_le 0 HI with h | h
  · have h1 := Int.mul_le_mul (show 18446744073709551616 ≤ HI * 18446744073709551616 + LO by omega) (show 18446744073709551616 ≤ (2 : Int) ^ n by rw [e]; omega) (by omega) (by omega)
    omega
  · omega
end Go.Proofs.Ytlbmpdidmckgkaa
/- Walks: numbers times powers of 2. -/
set_option linter.unusedVariables false
set_option linter.unusedSimpArgs false
namespace Go.Proofs.Ytlbmpdidmckgkaa
open Go.RowKit Go.Rt

theorem shortTrans {w w1 w' w'' : World} {HI LO : Int} (h : Below w.heap.size w w' ∧ w1.heap.size < w'.heap.size ∧ w'.cell? ⟨w1.heap.size, 0, none⟩ = some (.int .u64 HI) ∧ w'.cell? ⟨w1.heap.size, 1, none⟩ = some (.int .u64 LO) ∧ Hid (∃ v0 v1, Box2 w' (w.heap.size + 1) v0 v1)) (hl : w.heap.size + 1 < w1.heap.size) (hb : Below w'.heap.size w' w'') :
    Below w.heap.size w w'' ∧ w1.heap.size < w''.heap.size ∧ w''.cell? ⟨w1.heap.size, 0, none⟩ = some (.int .u64 HI) ∧ w''.cell? ⟨w1.heap.size, 1, none⟩ = some (.int .u64 LO) ∧ Hid (∃ v0 v1, Box2 w'' (w.heap.size + 1) v0 v1) := by
  obtain ⟨h1, h2, h3, h4, h5⟩ := h
  obtain ⟨v0, v1, hB⟩ := h5.out
  exact ⟨h1.trans (hb.mono h1.size), Nat.lt_of_lt_of_le h2 hb.size, (hb.cell (p := ⟨w1.heap.size, 0, none⟩) h2).trans h3, (hb.cell (p := ⟨w1.heap.size, 1, none⟩) h2).trans h4, Lib.hid ⟨v0, v1, hB.below hb (Nat.lt_trans hl h2)⟩⟩
theorem shortB {w w1 w' : World} {HI LO : Int} (h : Below w.heap.size w w' ∧ w1.heap.size < w'.heap.size ∧ w'.cell? ⟨w1.heap.size, 0, none⟩ = some (.int .u64 HI) ∧ w'.cell? ⟨w1.heap.size, 1, none⟩ = some (.int .u64 LO) ∧ Hid (∃ v0 v1, Box2 w' (w.heap.size + 1) v0 v1)) : Below w.heap.size w w' := h.1
theorem shortSet {w w1 w' : World} {HI LO : Int} {x y : Value} (h : Below w.heap.size w w' ∧ w1.heap.size < w'.heap.size ∧ w'.cell? ⟨w1.heap.size, 0, none⟩ = some (.int .u64 HI) ∧ w'.cell? ⟨w1.heap.size, 1, none⟩ = some (.int .u64 LO) ∧ Hid (∃ v0 v1, Box2 w' (w.heap.size + 1) v0 v1)) (hl : w.heap.size + 1 < w1.heap.size) :
    Below w.heap.size w ((w'.setCell ⟨w.heap.size + 1, 0, none⟩ x).setCell ⟨w.heap.size + 1, 1, none⟩ y) ∧ w1.heap.size < ((w'.setCell ⟨w.heap.size + 1, 0, none⟩ x).setCell ⟨w.heap.size + 1, 1, none⟩ y).heap.size ∧ ((w'.setCell ⟨w.heap.size + 1, 0, none⟩ x).setCell ⟨w.heap.size + 1, 1, none⟩ y).cell? ⟨w1.heap.size, 0, none⟩ = some (.int .u64 HI) ∧ ((w'.setCell ⟨w.heap.size + 1, 0, none⟩ x).setCell ⟨w.heap.size + 1, 1, none⟩ y).cell? ⟨w1.heap.size, 1, none⟩ = some (.int .u64 LO) ∧ Hid (∃ v0 v1, Box2 ((w'.setCell ⟨w.heap.size + 1, 0, none⟩ x).setCell ⟨w.heap.size + 1, 1, none⟩ y) (w.heap.size + 1) v0 v1) := by
  obtain ⟨h1, h2, h3, h4, h5⟩ := h
  obtain ⟨v0, v1, hB⟩ := h5.out
  obtain ⟨c0, c1, f0, f1⟩ := hB
  have hne : ¬ w1.heap.size = w.heap.size + 1 := by omega
  refine ⟨(h1.setCell (by simp) _).setCell (by simp) _, by simpa using h2, ?_, ?_, Lib.hid ⟨x, y, ?_⟩⟩
  · go_simp
  · go_simp
  · constructor <;> go_simp

set_option maxHeartbeats 2000000 in
set_option maxRecDepth 100000 in
theorem left_of (h l : Int) (n : Nat) (hn : n ≤ 126) (a : WR h l) (H L Z : Int) (w : World)
    (htold : A h l * 2 ^ n < 340282366920938463463374607431768211456 → ∀ w, Calls Try.prog 60 #[.bool (decide (h < 0)), .agg #[.int .u64 ((A h l * 2 ^ n) / 18446744073709551616), .int .u64 ((A h l * 2 ^ n) % 18446744073709551616)]] w (RetWE w H L Z))
    (hout : ¬ A h l * 2 ^ n < 340282366920938463463374607431768211456 → H = 0 ∧ L = 0 ∧ Z = 3) :
    Calls Try.prog 30 #[.agg #[.int .i64 h, .int .u64 l], .int .i64 n] w (RetWE w H L Z) := by
  have ho := fun w => Lib.hid (of_any h l w a)
  have hA := A_bounds h l a
  obtain ⟨HI, hHI⟩ : ∃ q, A h l / 18446744073709551616 = q := ⟨_, rfl⟩
  obtain ⟨LO, hLO⟩ : ∃ q, A h l % 18446744073709551616 = q := ⟨_, rfl⟩
  have eA : A h l = HI * 18446744073709551616 + LO := by omega
  rw [hHI, hLO] at ho
  rw [eA] at htold hout
  have b0 : 0 ≤ HI := by omega
  have b1 : HI ≤ 18446744073709551615 := by omega
  have b2 : 0 ≤ LO := by omega
  have b3 : LO ≤ 18446744073709551615 := by omega
  have hlen := len_of HI LO n b0 b1 b2 b3 (by omega)
  have hl1 := fun w => Lib.hid (len64_any HI w b0 b1)
  have hl2 := fun w => Lib.hid (len64_any LO w b2 b3)
  have g1 := bitLen_64 HI b0 b1
  have g2 := bitLen_64 LO b2 b3
  have hsh := left_short HI LO n b0 b2 b3
  have hlg := left_long LO n b2
  have hon := left_one HI LO n b0 b2
  unfold lenI at hlen
  obtain ⟨BH, hBH⟩ : ∃ q, Lib.bitLen HI.toNat = q := ⟨_, rfl⟩
  obtain ⟨BL, hBL⟩ : ∃ q, Lib.bitLen LO.toNat = q := ⟨_, rfl⟩
  rw [hBH] at hl1 g1 hlen
  rw [hBL] at hl2 g2 hlen
  obtain ⟨NG, hNG⟩ : ∃ q, decide (h < 0) = q := ⟨_, rfl⟩
  rw [hNG] at ho htold
  clear hBH hBL hHI hLO eA hA hNG a
  have ew1 : RowKit.wrap64 (64 + (BH : Int)) = 64 + BH := by unfold RowKit.wrap64; omega
  have ew2 : RowKit.wrap64 (64 + (BH : Int) + n) = 64 + BH + n := by unfold RowKit.wrap64; omega
  have ew3 : RowKit.wrap64 ((BL : Int) + n) = BL + n := by unfold RowKit.wrap64; omega
  have M1 := True.intro
  have M2 := True.intro
  by_cases hz : HI = 0
  · rw [if_pos hz] at hlen
    have hz2 : (HI == 0) = true := by simp; exact hz
    by_cases hfit : (BL : Int) + n ≤ 128
    · have hlt := hlen.1 hfit
      replace htold := htold hlt
      by_cases h64 : 64 ≤ n
      · clear hsh hon hout hlen
        have := hlg h64 (by rw [hz, Int.zero_mul, Int.zero_add] at hlt; exact hlt)
        obtain ⟨k0, k1, k2, k3⟩ := this
        rw [hz, Int.zero_mul, Int.zero_add, k2, k3] at htold
        clear k2 k3 hlg hlt hz
        have HT := fun w => Lib.hid (htold w)
        clear htold
        have eT : IntKind.u64.wrap (LO * 2 ^ (n - 64)) = LO * 2 ^ (n - 64) := by rw [wrapU]; omega
        obtain ⟨T, hT⟩ : ∃ q, LO * 2 ^ (n - 64) = q := ⟨_, rfl⟩
        rw [hT] at HT eT k0 k1
        go_enter Try.func30, Try.ntmps30
        go_wp2_with (first | (go_at_call 58; go_loud (refine (ho _).out.mono ?_; rintro e w1 ⟨rfl, hb⟩; have HB1 := Lib.hid hb; have hs1 := hb.size; (try simp at hs1); have X0 := Box2.below (b := w.heap.size) (v0 := .int .i64 h) (v1 := .int .u64 l) (by constructor <;> go_simp) hb (by first | omega | (simp <;> omega)); have X1 := Box2.below (b := w.heap.size + 1) (v0 := .int .i64 0) (v1 := .int .u64 0) (by constructor <;> go_simp) hb (by first | omega | (simp <;> omega)); obtain ⟨xc0, xc1, xf0, xf1⟩ := X0; have HX1 := Lib.hid X1; obtain ⟨yc0, yc1, yf0, yf1⟩ := X1; have hl9 : w.heap.size + 1 < w1.heap.size := (by omega); clear hb)) | (go_at_call 59; have hmk := M1; clear hmk M1; refine (hl1 _).out.mono ?_; rintro e w' ⟨rfl, rfl⟩) | (go_at_call 59; have hmk := M2; clear hmk M2; refine (hl2 _).out.mono ?_; rintro e w' ⟨rfl, rfl⟩) | (go_at_call 60; go_loud (refine (HT _).out.mono ?_; rintro e w2 ⟨rfl, hb⟩; have HB2 := Lib.hid hb; have hs2 := hb.size; (try simp at hs2); have Z1 := (HX1.out.below (n := w1.heap.size) (by (repeat' (first | exact Below.refl _ _ | refine Below.drew ?_ | refine Below.setCell ?_ (by first | omega | (simp <;> omega)) _ | refine Below.alloc ?_ (by first | omega | (simp <;> omega)) _))) (by first | omega | (simp <;> omega))).below hb (by first | omega | (simp <;> omega)); obtain ⟨zc0, zc1, zf0, zf1⟩ := Z1; clear hb)))
        (try simp only [Exit.noGoto, Exit.inBlock, Exit.then])
        refine bodyPost_ret (v := .tuple #[.agg #[.int .i64 H, .int .u64 L], .int .i64 Z]) (by rw [results_ct rfl]; go_simp) rfl ⟨rfl, ?_⟩
        iterate 2 refine Below.setCell ?_ (by first | omega | (simp <;> omega)) _
        exact Below.trans (by (repeat' (first | exact Below.refl _ _ | refine Below.drew ?_ | refine Below.setCell ?_ (by first | omega | (simp <;> omega)) _ | refine Below.alloc ?_ (by first | omega | (simp <;> omega)) _))) (Below.trans (HB1.out.mono (by first | omega | (simp <;> omega))) (Below.trans (by (repeat' (first | exact Below.refl _ _ | refine Below.drew ?_ | refine Below.setCell ?_ (by first | omega | (simp <;> omega)) _ | refine Below.alloc ?_ (by first | omega | (simp <;> omega)) _))) (HB2.out.mono (by first | omega | (simp <;> omega)))))
      · have := hsh (by omega) hlt
        obtain ⟨k0, k1, k2, k3, k4, k5, k6⟩ := this
        rw [k5, k6] at htold
        have hn63 : n ≤ 63 := by omega
        clear hlg hon hout hlen k5 k6 hsh hlt hz
        have ew4 : RowKit.wrap64 (64 - (n : Int)) = 64 - n := by unfold RowKit.wrap64; omega
        have ew5 : IntKind.i64.wrap (64 - (n : Int)) = 64 - n := by rw [wrapI]; omega
        have HT := fun w => Lib.hid (htold w)
        clear htold
        have eHw : IntKind.u64.wrap (HI * 2 ^ n) = HI * 2 ^ n := by rw [wrapU]; omega
        have eOr : bits BinOp.or IntKind.u64 (HI * 2 ^ n) (LO / 2 ^ (64 - n)) = HI * 2 ^ n + LO / 2 ^ (64 - n) := bits_join IntKind.u64 64 (by decide) (fun n h0 h1 => by rw [wrapU]; omega) n _ _ k0 (Int.mul_emod_left _ _) (by omega) k2 k3 (by omega)
        have eLw : IntKind.u64.wrap (LO * 2 ^ n) = LO * 2 ^ n % 18446744073709551616 := by rw [wrapU]
        obtain ⟨T1, hT1⟩ : ∃ q, HI * 2 ^ n + LO / 2 ^ (64 - n) = q := ⟨_, rfl⟩
        obtain ⟨T2, hT2⟩ : ∃ q, LO * 2 ^ n % 18446744073709551616 = q := ⟨_, rfl⟩
        rw [hT1, hT2] at HT
        rw [hT1] at eOr
        rw [hT2] at eLw
        go_enter Try.func30, Try.ntmps30
        go_upto_region 11 with (first | (go_at_call 58; go_loud (refine (ho _).out.mono ?_; rintro e w1 ⟨rfl, hb⟩; have HB1 := Lib.hid hb; have hs1 := hb.size; (try simp at hs1); have X0 := Box2.below (b := w.heap.size) (v0 := .int .i64 h) (v1 := .int .u64 l) (by constructor <;> go_simp) hb (by first | omega | (simp <;> omega)); have X1 := Box2.below (b := w.heap.size + 1) (v0 := .int .i64 0) (v1 := .int .u64 0) (by constructor <;> go_simp) hb (by first | omega | (simp <;> omega)); obtain ⟨xc0, xc1, xf0, xf1⟩ := X0; have HX1 := Lib.hid X1; obtain ⟨yc0, yc1, yf0, yf1⟩ := X1; have hl9 : w.heap.size + 1 < w1.heap.size := (by omega); clear hb)) | (go_at_call 59; have hmk := M1; clear hmk M1; refine (hl1 _).out.mono ?_; rintro e w' ⟨rfl, rfl⟩) | (go_at_call 59; have hmk := M2; clear hmk M2; refine (hl2 _).out.mono ?_; rintro e w' ⟨rfl, rfl⟩))
        obtain ⟨Wb, hWb⟩ : ∃ Wb : World, Wb = w1.alloc (.cells #[.int .u64 HI, .int .u64 LO] 71) := ⟨_, rfl⟩
        have HS0 : Hid (Below w.heap.size w Wb ∧ w1.heap.size < Wb.heap.size ∧ Wb.cell? ⟨w1.heap.size, 0, none⟩ = some (.int .u64 HI) ∧ Wb.cell? ⟨w1.heap.size, 1, none⟩ = some (.int .u64 LO) ∧ Hid (∃ v0 v1, Box2 Wb (w.heap.size + 1) v0 v1)) := by
          rw [hWb]
          refine Lib.hid ⟨Below.trans (by (repeat' (first | exact Below.refl _ _ | refine Below.drew ?_ | refine Below.setCell ?_ (by first | omega | (simp <;> omega)) _ | refine Below.alloc ?_ (by first | omega | (simp <;> omega)) _))) (Below.trans (HB1.out.mono (by first | omega | (simp <;> omega))) (by (repeat' (first | exact Below.refl _ _ | refine Below.drew ?_ | refine Below.setCell ?_ (by first | omega | (simp <;> omega)) _ | refine Below.alloc ?_ (by first | omega | (simp <;> omega)) _)))), by simp, by simp [go_sem], by simp [go_sem], Lib.hid ⟨_, _, HX1.out.below (n := w1.heap.size) (by (repeat' (first | exact Below.refl _ _ | refine Below.drew ?_ | refine Below.setCell ?_ (by first | omega | (simp <;> omega)) _ | refine Below.alloc ?_ (by first | omega | (simp <;> omega)) _))) (by first | omega | (simp <;> omega))⟩⟩
        rw [← hWb]
        clear hWb xc0 xc1 xf0 xf1 yc0 yc1 yf0 yf1 HX1 HB1
        go_region_held3 (fun w' => Below w.heap.size w w' ∧ w1.heap.size < w'.heap.size ∧ w'.cell? ⟨w1.heap.size, 0, none⟩ = some (.int .u64 HI) ∧ w'.cell? ⟨w1.heap.size, 1, none⟩ = some (.int .u64 LO) ∧ Hid (∃ v0 v1, Box2 w' (w.heap.size + 1) v0 v1)) (first | assumption | exact shortTrans HS0.out hl9 (Below.drew (Below.refl _ _)) | exact shortTrans (by assumption) hl9 (by assumption) | exact shortSet (by assumption) hl9)
          (first | (go_at_call 60; refine (HT _).out.mono ?_; rintro e w2 ⟨rfl, hb⟩; have hS2 := shortTrans (by assumption) hl9 hb; obtain ⟨v0, v1, Z1⟩ := hS2.2.2.2.2.out; obtain ⟨zc0, zc1, zf0, zf1⟩ := Z1; clear hS2))
        all_goals
          go_wp2_with fail
          (try simp only [Exit.noGoto, Exit.inBlock, Exit.then])
          refine bodyPost_ret (v := .tuple #[.agg #[.int .i64 H, .int .u64 L], .int .i64 Z]) (by rw [results_ct rfl]; go_simp) rfl ⟨rfl, shortB (by assumption)⟩
    · obtain ⟨rfl, rfl, rfl⟩ := hout (fun hlt => hfit (hlen.2 hlt))
      have hfit2 : 128 < (BL : Int) + n := by omega
      clear hsh hlg hon hlen htold hout hfit hz
      go_enter Try.func30, Try.ntmps30
      go_wp2_with (first | (go_at_call 58; go_loud (refine (ho _).out.mono ?_; rintro e w1 ⟨rfl, hb⟩; have HB1 := Lib.hid hb; have hs1 := hb.size; (try simp at hs1); have X0 := Box2.below (b := w.heap.size) (v0 := .int .i64 h) (v1 := .int .u64 l) (by constructor <;> go_simp) hb (by first | omega | (simp <;> omega)); have X1 := Box2.below (b := w.heap.size + 1) (v0 := .int .i64 0) (v1 := .int .u64 0) (by constructor <;> go_simp) hb (by first | omega | (simp <;> omega)); obtain ⟨xc0, xc1, xf0, xf1⟩ := X0; have HX1 := Lib.hid X1; obtain ⟨yc0, yc1, yf0, yf1⟩ := X1; have hl9 : w.heap.size + 1 < w1.heap.size := (by omega); clear hb)) | (go_at_call 59; have hmk := M1; clear hmk M1; refine (hl1 _).out.mono ?_; rintro e w' ⟨rfl, rfl⟩) | (go_at_call 59; have hmk := M2; clear hmk M2; refine (hl2 _).out.mono ?_; rintro e w' ⟨rfl, rfl⟩))
      (try simp only [Exit.noGoto, Exit.inBlock, Exit.then])
      refine bodyPost_ret (v := .tuple #[.agg #[.int .i64 0, .int .u64 0], .int .i64 3]) (by rw [results_ct rfl]; go_simp) rfl ⟨rfl, ?_⟩
      refine Below.alloc ?_ (by first | omega | (simp <;> omega)) _
      iterate 2 refine Below.setCell ?_ (by first | omega | (simp <;> omega)) _
      exact Below.trans (by (repeat' (first | exact Below.refl _ _ | refine Below.drew ?_ | refine Below.setCell ?_ (by first | omega | (simp <;> omega)) _ | refine Below.alloc ?_ (by first | omega | (simp <;> omega)) _))) (HB1.out.mono (by first | omega | (simp <;> omega)))
  · rw [if_neg hz] at hlen
    have hz2 : (HI == 0) = false := by simp; exact hz
    by_cases hfit : 64 + (BH : Int) + n ≤ 128
    · have hlt := hlen.1 hfit
      replace htold := htold hlt
      have hn63 : n ≤ 63 := by
        rcases Nat.lt_or_ge 63 n with h1 | h1
        · exact absurd (hon h1 hlt) hz
        · exact h1
      have := hsh hn63 hlt
      obtain ⟨k0, k1, k2, k3, k4, k5, k6⟩ := this
      rw [k5, k6] at htold
      clear hlg hon hout hlen k5 k6 hsh hlt
      have ew4 : RowKit.wrap64 (64 - (n : Int)) = 64 - n := by unfold RowKit.wrap64; omega
      have ew5 : IntKind.i64.wrap (64 - (n : Int)) = 64 - n := by rw [wrapI]; omega
      have HT := fun w => Lib.hid (htold w)
      clear htold
      have eHw : IntKind.u64.wrap (HI * 2 ^ n) = HI * 2 ^ n := by rw [wrapU]; omega
      have eOr : bits BinOp.or IntKind.u64 (HI * 2 ^ n) (LO / 2 ^ (64 - n)) = HI * 2 ^ n + LO / 2 ^ (64 - n) := bits_join IntKind.u64 64 (by decide) (fun n h0 h1 => by rw [wrapU]; omega) n _ _ k0 (Int.mul_emod_left _ _) (by omega) k2 k3 (by omega)
      have eLw : IntKind.u64.wrap (LO * 2 ^ n) = LO * 2 ^ n % 18446744073709551616 := by rw [wrapU]
      obtain ⟨T1, hT1⟩ : ∃ q, HI * 2 ^ n + LO / 2 ^ (64 - n) = q := ⟨_, rfl⟩
      obtain ⟨T2, hT2⟩ : ∃ q, LO * 2 ^ n % 18446744073709551616 = q := ⟨_, rfl⟩
      rw [hT1, hT2] at HT
      rw [hT1] at eOr
      rw [hT2] at eLw
      go_enter Try.func30, Try.ntmps30
      go_upto_region 11 with (first | (go_at_call 58; go_loud (refine (ho _).out.mono ?_; rintro e w1 ⟨rfl, hb⟩; have HB1 := Lib.hid hb; have hs1 := hb.size; (try simp at hs1); have X0 := Box2.below (b := w.heap.size) (v0 := .int .i64 h) (v1 := .int .u64 l) (by constructor <;> go_simp) hb (by first | omega | (simp <;> omega)); have X1 := Box2.below (b := w.heap.size + 1) (v0 := .int .i64 0) (v1 := .int .u64 0) (by constructor <;> go_simp) hb (by first | omega | (simp <;> omega)); obtain ⟨xc0, xc1, xf0, xf1⟩ := X0; have HX1 := Lib.hid X1; obtain ⟨yc0, yc1, yf0, yf1⟩ := X1; have hl9 : w.heap.size + 1 < w1.heap.size := (by omega); clear hb)) | (go_at_call 59; have hmk := M1; clear hmk M1; refine (hl1 _).out.mono ?_; rintro e w' ⟨rfl, rfl⟩) | (go_at_call 59; have hmk := M2; clear hmk M2; refine (hl2 _).out.mono ?_; rintro e w' ⟨rfl, rfl⟩))
      obtain ⟨Wb, hWb⟩ : ∃ Wb : World, Wb = w1.alloc (.cells #[.int .u64 HI, .int .u64 LO] 71) := ⟨_, rfl⟩
      have HS0 : Hid (Below w.heap.size w Wb ∧ w1.heap.size < Wb.heap.size ∧ Wb.cell? ⟨w1.heap.size, 0, none⟩ = some (.int .u64 HI) ∧ Wb.cell? ⟨w1.heap.size, 1, none⟩ = some (.int .u64 LO) ∧ Hid (∃ v0 v1, Box2 Wb (w.heap.size + 1) v0 v1)) := by
        rw [hWb]
        refine Lib.hid ⟨Below.trans (by (repeat' (first | exact Below.refl _ _ | refine Below.drew ?_ | refine Below.setCell ?_ (by first | omega | (simp <;> omega)) _ | refine Below.alloc ?_ (by first | omega | (simp <;> omega)) _))) (Below.trans (HB1.out.mono (by first | omega | (simp <;> omega))) (by (repeat' (first | exact Below.refl _ _ | refine Below.drew ?_ | refine Below.setCell ?_ (by first | omega | (simp <;> omega)) _ | refine Below.alloc ?_ (by first | omega | (simp <;> omega)) _)))), by simp, by simp [go_sem], by simp [go_sem], Lib.hid ⟨_, _, HX1.out.below (n := w1.heap.size) (by (repeat' (first | exact Below.refl _ _ | refine Below.drew ?_ | refine Below.setCell ?_ (by first | omega | (simp <;> omega)) _ | refine Below.alloc ?_ (by first | omega | (simp <;> omega)) _))) (by first | omega | (simp <;> omega))⟩⟩
      rw [← hWb]
      clear hWb xc0 xc1 xf0 xf1 yc0 yc1 yf0 yf1 HX1 HB1
      go_region_held3 (fun w' => Below w.heap.size w w' ∧ w1.heap.size < w'.heap.size ∧ w'.cell? ⟨w1.heap.size, 0, none⟩ = some (.int .u64 HI) ∧ w'.cell? ⟨w1.heap.size, 1, none⟩ = some (.int .u64 LO) ∧ Hid (∃ v0 v1, Box2 w' (w.heap.size + 1) v0 v1)) (first | assumption | exact shortTrans HS0.out hl9 (Below.drew (Below.refl _ _)) | exact shortTrans (by assumption) hl9 (by assumption) | exact shortSet (by assumption) hl9)
        (first | (go_at_call 60; refine (HT _).out.mono ?_; rintro e w2 ⟨rfl, hb⟩; have hS2 := shortTrans (by assumption) hl9 hb; obtain ⟨v0, v1, Z1⟩ := hS2.2.2.2.2.out; obtain ⟨zc0, zc1, zf0, zf1⟩ := Z1; clear hS2))
      all_goals
        go_wp2_with fail
        (try simp only [Exit.noGoto, Exit.inBlock, Exit.then])
        refine bodyPost_ret (v := .tuple #[.agg #[.int .i64 H, .int .u64 L], .int .i64 Z]) (by rw [results_ct rfl]; go_simp) rfl ⟨rfl, shortB (by assumption)⟩
    · obtain ⟨rfl, rfl, rfl⟩ := hout (fun hlt => hfit (hlen.2 hlt))
      have hfit2 : 128 < 64 + (BH : Int) + n := by omega
      clear hsh hlg hon hlen htold hout hfit hz
      go_enter Try.func30, Try.ntmps30
      go_wp2_with (first | (go_at_call 58; go_loud (refine (ho _).out.mono ?_; rintro e w1 ⟨rfl, hb⟩; have HB1 := Lib.hid hb; have hs1 := hb.size; (try simp at hs1); have X0 := Box2.below (b := w.heap.size) (v0 := .int .i64 h) (v1 := .int .u64 l) (by constructor <;> go_simp) hb (by first | omega | (simp <;> omega)); have X1 := Box2.below (b := w.heap.size + 1) (v0 := .int .i64 0) (v1 := .int .u64 0) (by constructor <;> go_simp) hb (by first | omega | (simp <;> omega)); obtain ⟨xc0, xc1, xf0, xf1⟩ := X0; have HX1 := Lib.hid X1; obtain ⟨yc0, yc1, yf0, yf1⟩ := X1; have hl9 : w.heap.size + 1 < w1.heap.size := (by omega); clear hb)) | (go_at_call 59; have hmk := M1; clear hmk M1; refine (hl1 _).out.mono ?_; rintro e w' ⟨rfl, rfl⟩) | (go_at_call 59; have hmk := M2; clear hmk M2; refine (hl2 _).out.mono ?_; rintro e w' ⟨rfl, rfl⟩))
      (try simp only [Exit.noGoto, Exit.inBlock, Exit.then])
      refine bodyPost_ret (v := .tuple #[.agg #[.int .i64 0, .int .u64 0], .int .i64 3]) (by rw [results_ct rfl]; go_simp) rfl ⟨rfl, ?_⟩
      refine Below.alloc ?_ (by first | omega | (simp <;> omega)) _
      iterate 2 refine Below.setCell ?_ (by first | omega | (simp <;> omega)) _
      exact Below.trans (by (repeat' (first | exact Below.refl _ _ | refine Below.drew ?_ | refine Below.setCell ?_ (by first | omega | (simp <;> omega)) _ | refine Below.alloc ?_ (by first | omega | (simp <;> omega)) _))) (HB1.out.mono (by first | omega | (simp <;> omega)))
end Go.Proofs.Ytlbmpdidmckgkaa
/- Numbers times powers of 2, and back: Within, Left, and the quotient by a power. -/
set_option linter.unusedVariables false
set_option linter.unusedSimpArgs false
namespace Go.Proofs.Ytlbmpdidmckgkaa
open Go.RowKit Go.Rt

theorem V_split3 (s : Int) : V (s / 18446744073709551616) (s % 18446744073709551616) = s := by unfold V; omega
theorem within60 (i : Int) (w : World) : Calls Try.prog 29 #[.int .i64 i, .int .i64 60] w fun e w' => e = .returned (.int .i64 (i % 18446744073709551616 % 60)) ∧ w = w' := by
  have e1 : IntKind.u64.wrap i = i % 18446744073709551616 := wrapU i
  have e2 : RowKit.wrap64 (i % 18446744073709551616 % 60) = i % 18446744073709551616 % 60 := by unfold RowKit.wrap64; omega
  have e3 : 0 ≤ i % 18446744073709551616 := by omega
  go_enter Try.func29, Try.ntmps29
  go_wp2
  go_ret
  exact ⟨ret_int (by first | rfl | omega), rfl⟩
theorem left_in (h l : Int) (n : Nat) (w : World) (hn : n ≤ 126) (a : WR h l) (hin : inR (V h l * 2 ^ n)) :
    Calls Try.prog 30 #[.agg #[.int .i64 h, .int .u64 l], .int .i64 n] w (RetWE w (V h l * 2 ^ n / 18446744073709551616) (V h l * 2 ^ n % 18446744073709551616) 0) := by
  have hA := A_bounds h l a
  have hs := V_neg h l a
  have hp := pow_pos n
  have h0 : 0 ≤ A h l * 2 ^ n := Int.mul_nonneg hA.1 (by omega)
  have e : V h l * 2 ^ n = if decide (h < 0) = true then -(A h l * 2 ^ n) else A h l * 2 ^ n := by
    rw [← hs]
    by_cases hv : V h l < 0
    · rw [decide_eq_true hv, if_pos rfl]
      unfold A
      rw [if_pos hv, Int.neg_mul, Int.neg_neg]
    · rw [decide_eq_false hv, if_neg (by decide)]
      unfold A
      rw [if_neg hv]
  refine left_of h l n hn a _ _ _ w (fun hlt w => ?_) (fun hlt => ?_)
  · rw [e]
    refine told_in _ _ w h0 ?_
    rw [e] at hin
    unfold inR at hin
    split at hin
    · rename_i hd; rw [if_pos hd]; omega
    · rename_i hd; rw [if_neg hd]; omega
  · exfalso
    rw [e] at hin
    unfold inR at hin
    split at hin <;> omega
theorem left_out (h l : Int) (n : Nat) (w : World) (hn : n ≤ 126) (a : WR h l) (hin : ¬ inR (V h l * 2 ^ n)) :
    Calls Try.prog 30 #[.agg #[.int .i64 h, .int .u64 l], .int .i64 n] w (RetWE w 0 0 3) := by
  have hA := A_bounds h l a
  have hs := V_neg h l a
  have hp := pow_pos n
  have h0 : 0 ≤ A h l * 2 ^ n := Int.mul_nonneg hA.1 (by omega)
  have e : V h l * 2 ^ n = if decide (h < 0) = true then -(A h l * 2 ^ n) else A h l * 2 ^ n := by
    rw [← hs]
    by_cases hv : V h l < 0
    · rw [decide_eq_true hv, if_pos rfl]
      unfold A
      rw [if_pos hv, Int.neg_mul, Int.neg_neg]
    · rw [decide_eq_false hv, if_neg (by decide)]
      unfold A
      rw [if_neg hv]
  refine left_of h l n hn a _ _ _ w (fun hlt w => ?_) (fun _ => ⟨rfl, rfl, rfl⟩)
  refine told_out _ _ w h0 hlt ?_
  rw [e] at hin
  unfold inR at hin
  split at hin
  · rename_i hd; rw [if_pos hd]; omega
  · rename_i hd; rw [if_neg hd]; omega
/-- What Left tells, in range or not. -/
theorem left_tells (s : Int) : ∃ H L Z : Int, ∀ (h l : Int) (n : Nat), n ≤ 126 → WR h l → V h l * 2 ^ n = s → ∀ w, Calls Try.prog 30 #[.agg #[.int .i64 h, .int .u64 l], .int .i64 n] w (RetWE w H L Z) := by
  by_cases hin : inR s
  · exact ⟨_, _, _, fun h l n hn a e w => by have := left_in h l n w hn a (by rw [e]; exact hin); rw [e] at this; exact this⟩
  · exact ⟨_, _, _, fun h l n hn a e w => left_out h l n w hn a (by rw [e]; exact hin)⟩
theorem shift_back (X p : Int) (hp : 1 ≤ p) : roundI (X * p) p = X ∧ downI (X * p) p = X := by
  have ep : absI p = p := by unfold absI; rw [if_neg (by omega)]
  have np : decide (p < 0) = false := by simp; omega
  have ea : absI (X * p) = absI X * p := by
    unfold absI
    by_cases hX : X < 0
    · have h1 : X * p < 0 := Int.mul_neg_of_neg_of_pos hX (by omega)
      rw [if_pos hX, if_pos h1, Int.neg_mul]
    · have : 0 ≤ X * p := Int.mul_nonneg (by omega) (by omega)
      rw [if_neg hX, if_neg (by omega)]
  have eq : absI (X * p) / p = absI X := by rw [ea, Int.mul_ediv_cancel _ (by omega)]
  have er : absI (X * p) % p = 0 := by rw [ea, Int.mul_emod_left]
  have es : decide (X * p < 0) = decide (X < 0) := by
    by_cases hX : X < 0
    · have h1 : X * p < 0 := Int.mul_neg_of_neg_of_pos hX (by omega)
      rw [decide_eq_true hX, decide_eq_true h1]
    · have : 0 ≤ X * p := Int.mul_nonneg (by omega) (by omega)
      rw [decide_eq_false hX, decide_eq_false (by omega)]
  have hu : upR (absI X) 0 p = false := by
    unfold upR
    rw [Int.sub_zero, decide_eq_false (by omega), decide_eq_false (by omega)]
    rfl
  unfold roundI downI
  rw [ep, np, eq, er, es, hu]
  have d0 : decide (¬ (0 : Int) = 0) = false := by decide
  rw [d0, Bool.and_false]
  simp only [Bool.false_eq_true, if_false, Bool.bne_false]
  constructor
  · unfold absI
    by_cases hX : X < 0
    · rw [decide_eq_true hX, if_pos rfl, if_pos hX, Int.neg_neg]
    · rw [decide_eq_false hX, if_neg (by decide), if_neg hX]
  · unfold absI
    by_cases hX : X < 0
    · rw [decide_eq_true hX, if_pos rfl, if_pos hX, Int.neg_neg]
    · rw [decide_eq_false hX, if_neg (by decide), if_neg hX]
theorem pow_le59 (n : Nat) (h : n ≤ 59) : (2 : Int) ^ n ≤ 576460752303423488 := by
  rw [← castPow]
  have := Nat.pow_le_pow_right (show 0 < 2 by decide) h
  have e : (2 : Nat) ^ 59 = 576460752303423488 := by decide
  rw [e] at this
  omega

end Go.Proofs.Ytlbmpdidmckgkaa
