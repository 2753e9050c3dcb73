/- The reference's nearest whole number is the program's: the plain law. -/
import Derived.Test.YtddhhfhammmaaaaGreatMWords
import Derived.Test.YtddhhfhammmaaaaGreatRat2
set_option linter.unusedVariables false
set_option linter.unusedSimpArgs false
namespace Go.Proofs.YtddhhfhammmaaaaGreat
open Go.RowKit Go.Rt

theorem absI_pos {d : Int} (hd : d ≠ 0) : 1 ≤ absI d := by unfold absI; split <;> omega
theorem absI_nn (x : Int) : 0 ≤ absI x := by unfold absI; split <;> omega
/-- By sizes: K times D is at most half of D away from N. -/
theorem half_size {N D q r K : Int} (hD : 1 ≤ D) (hN : N = q * D + r) (h0 : 0 ≤ r) (h1 : r < D) (hK : K = if upR q r D = true then q + 1 else q) : 2 * absI (N - K * D) ≤ D ∧ (2 * absI (N - K * D) = D → K % 2 = 0) := by
  by_cases hu : upR q r D = true
  · rw [if_pos hu] at hK
    have e : N - K * D = r - D := by rw [hN, hK, Int.add_mul]; omega
    rw [e]
    unfold upR at hu
    simp only [Bool.or_eq_true, Bool.and_eq_true, decide_eq_true_eq] at hu
    unfold absI
    split <;> omega
  · rw [if_neg hu] at hK
    have e : N - K * D = r := by rw [hN, hK]; omega
    rw [e]
    unfold upR at hu
    simp only [Bool.or_eq_true, Bool.and_eq_true, decide_eq_true_eq, not_or, not_and] at hu
    unfold absI
    split <;> omega
theorem round_half (x d : Int) (hd : d ≠ 0) : 2 * absI (x - roundI x d * d) ≤ absI d ∧ (2 * absI (x - roundI x d * d) = absI d → roundI x d % 2 = 0) := by
  have hD := absI_pos hd
  have hN := Int.mul_ediv_add_emod (absI x) (absI d)
  have h0 := Int.emod_nonneg (absI x) (show absI d ≠ 0 by omega)
  have h1 := Int.emod_lt_of_pos (absI x) (show 0 < absI d by omega)
  obtain ⟨K, hK⟩ : ∃ K, K = if upR (absI x / absI d) (absI x % absI d) (absI d) = true then absI x / absI d + 1 else absI x / absI d := ⟨_, rfl⟩
  have hs := half_size hD (q := absI x / absI d) (r := absI x % absI d) (N := absI x) (by rw [Int.mul_comm]; exact hN.symm) h0 h1 hK
  have hR : roundI x d = if (decide (x < 0) != decide (d < 0)) = true then -K else K := by unfold roundI; rw [← hK]
  obtain ⟨D, hDe⟩ : ∃ D, absI d = D := ⟨_, rfl⟩
  obtain ⟨N, hNe⟩ : ∃ N, absI x = N := ⟨_, rfl⟩
  rw [hDe, hNe] at hs
  rw [hDe]
  have key : absI (x - roundI x d * d) = absI (N - K * D) := by
    by_cases a : x < 0
    · have ex : x = -N := by rw [← hNe]; unfold absI; rw [if_pos a]; omega
      by_cases b : d < 0
      · have ed : d = -D := by rw [← hDe]; unfold absI; rw [if_pos b]; omega
        rw [hR, decide_eq_true a, decide_eq_true b, if_neg (by decide)]
        have e : x - K * d = -(N - K * D) := by rw [ex, ed, Int.mul_neg]; omega
        rw [e]
        unfold absI
        split <;> split <;> omega
      · have ed : d = D := by rw [← hDe]; unfold absI; rw [if_neg b]
        rw [hR, decide_eq_true a, decide_eq_false b, if_pos (by decide)]
        have e : x - -K * d = -(N - K * D) := by rw [ex, ed, Int.neg_mul]; omega
        rw [e]
        unfold absI
        split <;> split <;> omega
    · have ex : x = N := by rw [← hNe]; unfold absI; rw [if_neg a]
      by_cases b : d < 0
      · have ed : d = -D := by rw [← hDe]; unfold absI; rw [if_pos b]; omega
        rw [hR, decide_eq_false a, decide_eq_true b, if_pos (by decide)]
        have e : x - -K * d = N - K * D := by rw [ex, ed, Int.neg_mul_neg]
        rw [e]
      · have ed : d = D := by rw [← hDe]; unfold absI; rw [if_neg b]
        rw [hR, decide_eq_false a, decide_eq_false b, if_neg (by decide)]
        rw [← ex, ← ed]
  rw [key]
  refine ⟨hs.1, fun h => ?_⟩
  have := hs.2 h
  rw [hR]
  split <;> omega
theorem absI_neg' (s : Int) : absI (-s) = absI s := by unfold absI; split <;> split <;> omega
/-- The quotient, rounded down. -/
def downI (n d : Int) : Int :=
  if (decide (n < 0) != decide (d < 0)) = true then -(if ((decide (n < 0) != decide (d < 0)) && decide (¬ absI n % absI d = 0)) = true then absI n / absI d + 1 else absI n / absI d)
  else (if ((decide (n < 0) != decide (d < 0)) && decide (¬ absI n % absI d = 0)) = true then absI n / absI d + 1 else absI n / absI d)
theorem absI_natAbs (s : Int) : absI s = (s.natAbs : Int) := by unfold absI; split <;> omega
def ratX (x y : Int) : Int := if y < 0 then -x else x
def ratQ (x y : Int) : Int := sgnZ (decide (ratX x y < 0)) ((ratX x y).natAbs / Nat.gcd (ratX x y).natAbs y.natAbs)
def ratK (x y : Int) : Nat := y.natAbs / Nat.gcd (ratX x y).natAbs y.natAbs
theorem ratX_abs (x y : Int) : (ratX x y).natAbs = x.natAbs := by unfold ratX; split <;> omega
theorem ratK_pos {x y : Int} (hy : y ≠ 0) : 0 < ratK x y := Nat.div_pos (Nat.gcd_le_right _ (by omega)) (Nat.gcd_pos_of_pos_right _ (by omega))
theorem floor_down {x y : Int} : floorZ x y = downI x y := by
  have e1 : absI x = (x.natAbs : Int) := absI_natAbs x
  have e2 : absI y = (y.natAbs : Int) := absI_natAbs y
  unfold floorZ downI
  rw [e1, e2, ← Int.natCast_ediv, ← Int.natCast_emod]
  generalize x.natAbs / y.natAbs = m
  generalize x.natAbs % y.natAbs = r
  have er : decide (¬ (r : Int) = 0) = decide (0 < r) := decide_eq_decide.2 (by omega)
  rw [er]
  unfold sgnZ
  cases hs : (decide (x < 0) != decide (y < 0))
  · simp
  · cases hr : decide (0 < r)
    · simp
    · simp; omega
/-- A nearest one: at most half of the divisor away; at a half the even one. -/
def Nearest (x d K : Int) : Prop := 2 * absI (x - K * d) ≤ absI d ∧ (2 * absI (x - K * d) = absI d → K % 2 = 0)
theorem nearest_unique {x d K K' : Int} (hd : 0 < d) (h : Nearest x d K) (h' : Nearest x d K') : K = K' := by
  obtain ⟨a1, a2⟩ := h
  obtain ⟨b1, b2⟩ := h'
  have ed : absI d = d := by unfold absI; rw [if_neg (by omega)]
  rw [ed] at a1 a2 b1 b2
  have key : ∀ A B : Int, A < B → 2 * absI (x - A * d) ≤ d → (2 * absI (x - A * d) = d → A % 2 = 0) → 2 * absI (x - B * d) ≤ d → (2 * absI (x - B * d) = d → B % 2 = 0) → False := by
    intro A B hlt p1 p2 q1 q2
    obtain ⟨t, ht⟩ : ∃ t, B = A + 1 + t := ⟨B - A - 1, by omega⟩
    have ht0 : 0 ≤ t := by omega
    have e : B * d = A * d + d + t * d := by rw [ht, Int.add_mul, Int.add_mul, Int.one_mul]
    have htd : 0 ≤ t * d := Int.mul_nonneg ht0 (by omega)
    rw [e] at q1 q2
    generalize A * d = U at *
    have h1 : t * d = 0 := by
      unfold absI at p1 q1
      split at p1 <;> split at q1 <;> omega
    have ht1 : t = 0 := by
      rcases Int.mul_eq_zero.1 h1 with h | h
      · exact h
      · omega
    rw [h1] at q1 q2
    have h2 : 2 * absI (x - U) = d ∧ 2 * absI (x - (U + d + 0)) = d := by
      unfold absI at p1 q1 ⊢
      split at p1 <;> split at q1 <;> (repeat' split) <;> omega
    have := p2 h2.1
    have := q2 h2.2
    omega
  rcases Int.lt_trichotomy K K' with hlt | he | hgt
  · exact (key K K' hlt a1 a2 b1 b2).elim
  · exact he
  · exact (key K' K hgt b1 b2 a1 a2).elim
theorem nearest_round (x d : Int) (hd : d ≠ 0) : Nearest x d (roundI x d) := round_half x d hd
theorem nearest_scale {x d K g : Int} (hg : 0 < g) (h : Nearest x d K) : Nearest (g * x) (g * d) K := by
  obtain ⟨h1, h2⟩ := h
  have e : g * x - K * (g * d) = g * (x - K * d) := by rw [Int.mul_sub, Int.mul_left_comm]
  have ea : ∀ s : Int, absI (g * s) = g * absI s := fun s => by
    unfold absI
    by_cases hs : s < 0
    · rw [if_pos hs, if_pos (Int.mul_neg_of_pos_of_neg hg hs), Int.mul_neg]
    · rw [if_neg hs, if_neg (by have := Int.mul_nonneg (show 0 ≤ g by omega) (show 0 ≤ s by omega); omega)]
  unfold Nearest
  rw [e, ea, ea]
  have e2 : 2 * (g * absI (x - K * d)) = g * (2 * absI (x - K * d)) := Int.mul_left_comm _ _ _
  rw [e2]
  exact ⟨Int.mul_le_mul_of_nonneg_left h1 (by omega), fun he => h2 (Int.eq_of_mul_eq_mul_left (by omega) he)⟩
/-- What the reference reckons is a nearest one. -/
theorem nearZ_nearest (x m : Int) (hm : 0 < m) : Nearest x m (nearZ x m) := by
  have hfl : floorZ (x * 2) m = x * 2 / m := by
    have e := floor_down (x := x * 2) (y := m)
    rw [e]
    unfold downI
    have em : absI m = m := by unfold absI; rw [if_neg (by omega)]
    have nm : decide (m < 0) = false := by simp; omega
    rw [em, nm]
    have ea := Int.mul_ediv_add_emod (x * 2) m
    by_cases hx : x * 2 < 0
    · have ex : absI (x * 2) = -(x * 2) := by unfold absI; rw [if_pos hx]
      rw [ex, decide_eq_true hx]
      have eb := Int.mul_ediv_add_emod (-(x * 2)) m
      have r0 := Int.emod_nonneg (-(x * 2)) (show m ≠ 0 by omega)
      have r1 := Int.emod_lt_of_pos (-(x * 2)) hm
      generalize -(x * 2) / m = q at *
      generalize hr : -(x * 2) % m = r at *
      by_cases h0 : r = 0
      · have : x * 2 = m * (-q) := by rw [Int.mul_neg]; omega
        rw [this, Int.mul_ediv_cancel_left _ (by omega)]
        simp [h0]
      · have : x * 2 = (m - r) + m * (-(q + 1)) := by rw [Int.mul_neg, Int.mul_add, Int.mul_one]; omega
        rw [this, Int.add_mul_ediv_left _ _ (by omega), Int.ediv_eq_zero_of_lt (by omega) (by omega)]
        simp [h0]
    · have ex : absI (x * 2) = x * 2 := by unfold absI; rw [if_neg hx]
      rw [ex, decide_eq_false hx]
      simp
  unfold nearZ
  rw [hfl]
  have ea := Int.mul_ediv_add_emod (x * 2) m
  have r0 := Int.emod_nonneg (x * 2) (show m ≠ 0 by omega)
  have r1 := Int.emod_lt_of_pos (x * 2) hm
  have em : absI m = m := by unfold absI; rw [if_neg (by omega)]
  obtain ⟨q, hq⟩ : ∃ q, x * 2 / m = q := ⟨_, rfl⟩
  obtain ⟨r, hr⟩ : ∃ r, x * 2 % m = r := ⟨_, rfl⟩
  rw [hq] at ea ⊢
  rw [hr] at ea r0 r1
  rw [Int.mul_comm m q] at ea
  obtain ⟨h, s, hs, e⟩ : ∃ h s : Int, q / 2 = h ∧ q = 2 * h + s := ⟨q / 2, q % 2, rfl, by omega⟩
  have hsb : s = 0 ∨ s = 1 := by omega
  rw [hs]
  have eq : q * m = 2 * (h * m) + s * m := by rw [e, Int.add_mul, Int.mul_assoc]
  rw [eq] at ea
  unfold Nearest
  rw [em]
  rcases hsb with rfl | rfl
  · rw [if_pos (by omega)]
    rw [Int.zero_mul] at ea
    unfold absI
    split <;> omega
  · rw [if_neg (by omega)]
    rw [Int.one_mul] at ea
    split
    · rename_i hc
      obtain ⟨hc1, hc2⟩ := hc
      rw [eq, Int.one_mul] at hc1
      unfold absI
      split <;> omega
    · rename_i hc
      have e3 : (h + 1) * m = h * m + m := by rw [Int.add_mul, Int.one_mul]
      rw [e3]
      have hc2 : x * 2 - q * m = 0 → ¬ h / 2 * 2 = h := fun h1 h2 => hc ⟨h1, h2⟩
      rw [eq, Int.one_mul] at hc2
      generalize h * m = hm at *
      unfold absI
      split <;> omega
/-- The reference's nearest one is the program's. -/
theorem near_round (x y : Int) (hy : y ≠ 0) : nearZ (ratQ x y) (ratK x y) = roundI x y := by
  have hkp : 0 < ratK x y := ratK_pos hy
  obtain ⟨G, hG⟩ : ∃ G, Nat.gcd (ratX x y).natAbs y.natAbs = G := ⟨_, rfl⟩
  have hG0 : 0 < G := by rw [← hG]; exact Nat.gcd_pos_of_pos_right _ (by omega)
  have d1 : G ∣ (ratX x y).natAbs := by rw [← hG]; exact Nat.gcd_dvd_left _ _
  have d2 : G ∣ y.natAbs := by rw [← hG]; exact Nat.gcd_dvd_right _ _
  have e1 : (G : Int) * ratQ x y = ratX x y := by
    unfold ratQ
    rw [hG]
    obtain ⟨t, ht⟩ := d1
    have e : (ratX x y).natAbs / G = t := by rw [ht, Nat.mul_div_cancel_left _ hG0]
    rw [e]
    have hself := sgnZ_self (ratX x y)
    rw [ht] at hself
    rw [← hself]
    conv => lhs; rw [hself]
    unfold sgnZ
    split
    · rw [Int.natCast_mul, Int.mul_neg]
    · rw [Int.natCast_mul]
  have e2 : (G : Int) * (ratK x y : Int) = (y.natAbs : Int) := by
    unfold ratK
    rw [hG, ← Int.natCast_mul, Nat.mul_div_cancel' d2]
  have hn := nearest_scale (g := (G : Int)) (by omega) (nearZ_nearest (ratQ x y) (ratK x y) (by omega))
  rw [e1, e2] at hn
  have hy0 : (0 : Int) < (y.natAbs : Int) := by omega
  refine nearest_unique hy0 hn ?_
  have hr := nearest_round x y hy
  unfold Nearest at hr ⊢
  unfold ratX
  have ea : absI (y.natAbs : Int) = absI y := by unfold absI; (repeat' split) <;> omega
  rw [ea]
  by_cases hneg : y < 0
  · rw [if_pos hneg]
    have e : -x - roundI x y * (y.natAbs : Int) = -(x - roundI x y * y) := by
      have : (y.natAbs : Int) = -y := by omega
      rw [this, Int.mul_neg]
      omega
    rw [e, absI_neg']
    exact hr
  · rw [if_neg hneg]
    have : (y.natAbs : Int) = y := by omega
    rw [this]
    exact hr
theorem rat_pow (x : Int) (f : Nat) : sgnZ (decide (x < 0)) (x.natAbs / Nat.gcd x.natAbs (2 ^ f)) = ratQ x (2 ^ f) ∧ 2 ^ f / Nat.gcd x.natAbs (2 ^ f) = ratK x (2 ^ f) := by
  have hp : (0 : Int) < 2 ^ f := Int.pow_pos (by decide)
  have e1 : ratX x (2 ^ f) = x := by unfold ratX; rw [if_neg (by omega)]
  have e2 : ((2 : Int) ^ f).natAbs = 2 ^ f := by rw [Int.natAbs_pow]; rfl
  unfold ratQ ratK
  rw [e1, e2]
  exact ⟨rfl, rfl⟩
theorem near_shI (x : Int) (f : Nat) : nearZ (ratQ x (2 ^ f)) (ratK x (2 ^ f)) = shI x f := near_round x (2 ^ f) (by have : (0 : Int) < 2 ^ f := Int.pow_pos (by decide); omega)
end Go.Proofs.YtddhhfhammmaaaaGreat
