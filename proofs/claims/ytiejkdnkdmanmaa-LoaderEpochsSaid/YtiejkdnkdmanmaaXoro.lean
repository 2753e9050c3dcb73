/- The draws' state as one number of 256 bits: a step is linear over bits; its period is 2^256 - 1, so every state but 0 comes to every other one. Plain arithmetic, no program in sight. -/
import Derived.Test.YtiejkdnkdmanmaaPrime
set_option linter.unusedVariables false
set_option linter.unusedSimpArgs false
namespace Go.Rt

/-! ### the step, on one number: words 0 to 3 from below -/
def xstep (S : Nat) : Nat :=
  (((S % 2 ^ 64) ^^^ (((S >>> 192) % 2 ^ 64) ^^^ ((S >>> 64) % 2 ^ 64)))
    ^^^ ((((S >>> 64) % 2 ^ 64) ^^^ (((S >>> 128) % 2 ^ 64) ^^^ (S % 2 ^ 64))) <<< 64))
    ^^^ (((((S >>> 128) % 2 ^ 64) ^^^ (S % 2 ^ 64)) ^^^ ((((S >>> 64) % 2 ^ 64) <<< 17) % 2 ^ 64)) <<< 128)
    ^^^ (((((((S >>> 192) % 2 ^ 64) ^^^ ((S >>> 64) % 2 ^ 64)) <<< 45) % 2 ^ 64) ^^^ ((((S >>> 192) % 2 ^ 64) ^^^ ((S >>> 64) % 2 ^ 64)) >>> 19)) <<< 192)

def Lin (f : Nat → Nat) : Prop := ∀ x y, f (x ^^^ y) = f x ^^^ f y
theorem xor4 (a b c d : Nat) : (a ^^^ b) ^^^ (c ^^^ d) = (a ^^^ c) ^^^ (b ^^^ d) := by
  apply Nat.eq_of_testBit_eq
  intro i
  simp only [Nat.testBit_xor]
  cases a.testBit i <;> cases b.testBit i <;> cases c.testBit i <;> cases d.testBit i <;> rfl
theorem Lin.id : Lin fun x => x := fun _ _ => rfl
theorem Lin.xor {f g : Nat → Nat} (hf : Lin f) (hg : Lin g) : Lin fun x => f x ^^^ g x := fun x y => by
  show f (x ^^^ y) ^^^ g (x ^^^ y) = _
  rw [hf, hg, xor4]
theorem Lin.shl {f : Nat → Nat} (hf : Lin f) (n : Nat) : Lin fun x => f x <<< n := fun x y => by
  show f (x ^^^ y) <<< n = _
  rw [hf, Nat.shiftLeft_xor_distrib]
theorem Lin.shr {f : Nat → Nat} (hf : Lin f) (n : Nat) : Lin fun x => f x >>> n := fun x y => by
  show f (x ^^^ y) >>> n = _
  rw [hf, Nat.shiftRight_xor_distrib]
theorem Lin.mod {f : Nat → Nat} (hf : Lin f) (n : Nat) : Lin fun x => f x % 2 ^ n := fun x y => by
  show f (x ^^^ y) % 2 ^ n = _
  rw [hf, Nat.xor_mod_two_pow]

theorem xstep_lin : Lin xstep := by
  have a : Lin fun S => S % 2 ^ 64 := Lin.id.mod 64
  have b : Lin fun S => (S >>> 64) % 2 ^ 64 := (Lin.id.shr 64).mod 64
  have c : Lin fun S => (S >>> 128) % 2 ^ 64 := (Lin.id.shr 128).mod 64
  have d : Lin fun S => (S >>> 192) % 2 ^ 64 := (Lin.id.shr 192).mod 64
  exact (((a.xor (d.xor b)).xor ((b.xor (c.xor a)).shl 64)).xor (((c.xor a).xor ((b.shl 17).mod 64)).shl 128)).xor (((((d.xor b).shl 45).mod 64).xor ((d.xor b).shr 19)).shl 192)

theorem shl_lt {x n m : Nat} (h : x < 2 ^ n) : x <<< m < 2 ^ (n + m) := by
  rw [Nat.shiftLeft_eq, Nat.pow_add]
  exact Nat.mul_lt_mul_of_pos_right h (Nat.two_pow_pos m)
theorem lt_mono {x n m : Nat} (h : x < 2 ^ n) (hnm : n ≤ m) : x < 2 ^ m := Nat.lt_of_lt_of_le h (Nat.pow_le_pow_right (by decide) hnm)

theorem xstep_lt (S : Nat) : xstep S < 2 ^ 256 := by
  have m : ∀ x : Nat, x % 2 ^ 64 < 2 ^ 64 := fun x => Nat.mod_lt _ (Nat.two_pow_pos 64)
  have X : ∀ {x y : Nat}, x < 2 ^ 64 → y < 2 ^ 64 → x ^^^ y < 2 ^ 64 := fun h1 h2 => Nat.xor_lt_two_pow h1 h2
  have hd := X (m (S >>> 192)) (m (S >>> 64))
  unfold xstep
  refine Nat.xor_lt_two_pow (Nat.xor_lt_two_pow (Nat.xor_lt_two_pow ?_ ?_) ?_) ?_
  · exact lt_mono (X (m _) hd) (by decide)
  · exact lt_mono (shl_lt (m := 64) (X (m _) (X (m _) (m _)))) (by decide)
  · exact lt_mono (shl_lt (m := 128) (X (X (m _) (m _)) (m _))) (by decide)
  · refine lt_mono (shl_lt (n := 64) (m := 192) (X (m _) ?_)) (by decide)
    exact Nat.lt_of_le_of_lt (Nat.shiftRight_le _ _) hd

theorem xstep_zero : xstep 0 = 0 := by decide

def it : Nat → Nat → Nat
  | 0, s => s
  | k + 1, s => xstep (it k s)
theorem it_add : ∀ a b s, it (a + b) s = it a (it b s)
  | 0, b, s => by simp [it]
  | a + 1, b, s => by
    rw [Nat.succ_add]
    show xstep (it (a + b) s) = xstep (it a (it b s))
    rw [it_add a b s]
theorem it_lt (k : Nat) {s : Nat} (h : s < 2 ^ 256) : it k s < 2 ^ 256 := by
  cases k with
  | zero => exact h
  | succ k => exact xstep_lt _

/-! ### polynomials in the step -/
def ev : Nat → Nat → Nat → Nat
  | 0, _, _ => 0
  | n + 1, q, s => ((q % 2) * s) ^^^ xstep (ev n (q / 2) s)

theorem bit_mul_xor (p q s : Nat) : ((p ^^^ q) % 2) * s = ((p % 2) * s) ^^^ ((q % 2) * s) := by
  have h : (p ^^^ q) % 2 = (p % 2) ^^^ (q % 2) := by
    have := @Nat.xor_mod_two_pow p q 1
    simpa using this
  rw [h]
  rcases Nat.mod_two_eq_zero_or_one p with hp | hp <;> rcases Nat.mod_two_eq_zero_or_one q with hq | hq <;> rw [hp, hq] <;> simp
theorem half_xor (p q : Nat) : (p ^^^ q) / 2 = p / 2 ^^^ q / 2 := by
  have := @Nat.shiftRight_xor_distrib 1 p q
  simpa [Nat.shiftRight_succ] using this
theorem bit_mul_lin (q s t : Nat) : (q % 2) * (s ^^^ t) = ((q % 2) * s) ^^^ ((q % 2) * t) := by
  rcases Nat.mod_two_eq_zero_or_one q with hq | hq <;> rw [hq] <;> simp

theorem ev_zero : ∀ n s, ev n 0 s = 0
  | 0, _ => rfl
  | n + 1, s => by simp [ev, ev_zero n s, xstep_zero]
theorem ev_xor : ∀ n p q s, ev n (p ^^^ q) s = ev n p s ^^^ ev n q s
  | 0, _, _, _ => by simp [ev]
  | n + 1, p, q, s => by
    simp only [ev]
    rw [half_xor, ev_xor n, xstep_lin, bit_mul_xor, xor4]
theorem ev_lin : ∀ n q s t, ev n q (s ^^^ t) = ev n q s ^^^ ev n q t
  | 0, _, _, _ => by simp [ev]
  | n + 1, q, s, t => by
    simp only [ev]
    rw [ev_lin n, xstep_lin, bit_mul_lin, xor4]
theorem ev_step : ∀ n q s, ev n q (xstep s) = xstep (ev n q s)
  | 0, _, _ => xstep_zero.symm
  | n + 1, q, s => by
    simp only [ev]
    rw [ev_step n, xstep_lin]
    congr 1
    rcases Nat.mod_two_eq_zero_or_one q with hq | hq <;> rw [hq] <;> simp [xstep_zero]
theorem ev_it (n q s : Nat) : ∀ k, ev n q (it k s) = it k (ev n q s)
  | 0 => rfl
  | k + 1 => by
    show ev n q (xstep (it k s)) = xstep (it k (ev n q s))
    rw [ev_step, ev_it n q s k]
theorem ev_more : ∀ n q s, q < 2 ^ n → ev (n + 1) q s = ev n q s
  | 0, q, s, h => by
    have : q = 0 := by simpa using h
    subst this
    simp [ev, xstep_zero]
  | n + 1, q, s, h => by
    have ih := ev_more n (q / 2) s (by rw [Nat.pow_succ] at h; omega)
    show ((q % 2) * s) ^^^ xstep (ev (n + 1) (q / 2) s) = ((q % 2) * s) ^^^ xstep (ev n (q / 2) s)
    rw [ih]
theorem ev_double (n q s : Nat) : ev (n + 1) (2 * q) s = xstep (ev n q s) := by
  simp [ev]
theorem ev_bit (n c q s : Nat) : ev n ((c % 2) * q) s = (c % 2) * ev n q s := by
  rcases Nat.mod_two_eq_zero_or_one c with hc | hc <;> rw [hc] <;> simp [ev_zero]

/-- The polynomial that the step satisfies at state 1. -/
def xpoly : Nat := 0x10003c03c3f3ecb1904b4edcf26259f850280002bcefd1a5e9d116f2bb0f0f001
theorem xpoly_kills : ev 257 xpoly 1 = 0 := by decide +kernel

/-- Times x. -/
def mx (q : Nat) : Nat := (2 * q) ^^^ (xpoly * (q / 2 ^ 255))
theorem xor_top {x y n : Nat} (hx : x < 2 ^ (n + 1)) (hy : y < 2 ^ (n + 1)) (tx : x.testBit n = true) (ty : y.testBit n = true) : x ^^^ y < 2 ^ n := by
  have hz : x ^^^ y < 2 ^ (n + 1) := Nat.xor_lt_two_pow hx hy
  apply Nat.lt_pow_two_of_testBit
  intro i hi
  by_cases e : i = n
  · subst e
    rw [Nat.testBit_xor, tx, ty]
    rfl
  · exact Nat.testBit_lt_two_pow (Nat.lt_of_lt_of_le hz (Nat.pow_le_pow_right (by decide) (by omega)))
theorem double_lt {q n : Nat} (h : q < 2 ^ n) : 2 * q < 2 ^ (n + 1) := by
  rw [Nat.pow_succ]
  omega
theorem double_top {q n : Nat} (h1 : q / 2 ^ n = 1) : (2 * q).testBit (n + 1) = true := by
  rw [Nat.testBit_eq_decide_div_mod_eq]
  have : 2 * q / 2 ^ (n + 1) = 1 := by
    rw [Nat.pow_succ, Nat.mul_comm (2 ^ n) 2, Nat.mul_div_mul_left _ _ (by decide), h1]
  rw [this]
  rfl
theorem xpoly_lt : xpoly < 2 ^ (256 + 1) := by decide +kernel
theorem xpoly_top : xpoly.testBit 256 = true := by decide +kernel
theorem mx_lt {q : Nat} (h : q < 2 ^ 256) : mx q < 2 ^ 256 := by
  have hb : q / 2 ^ 255 < 2 := Nat.div_lt_of_lt_mul (by rw [← Nat.pow_succ]; exact h)
  unfold mx
  by_cases h0 : q / 2 ^ 255 = 0
  · rw [h0, Nat.mul_zero, Nat.xor_zero]
    have : q < 2 ^ 255 := (Nat.div_eq_zero_iff_lt (Nat.two_pow_pos 255)).1 h0
    rw [Nat.pow_succ]
    omega
  · have h1 : q / 2 ^ 255 = 1 := by omega
    rw [h1, Nat.mul_one]
    exact xor_top (n := 256) (double_lt (n := 256) h) xpoly_lt (double_top (n := 255) h1) xpoly_top
theorem ev_mx {q : Nat} (h : q < 2 ^ 256) : ev 256 (mx q) 1 = xstep (ev 256 q 1) := by
  have hb : q / 2 ^ 255 < 2 := Nat.div_lt_of_lt_mul (by rw [← Nat.pow_succ]; exact h)
  rw [← ev_more 256 (mx q) 1 (mx_lt h)]
  unfold mx
  rw [ev_xor, ev_double]
  have hz : ev 257 (xpoly * (q / 2 ^ 255)) 1 = 0 := by
    by_cases h0 : q / 2 ^ 255 = 0
    · rw [h0, Nat.mul_zero, ev_zero]
    · have h1 : q / 2 ^ 255 = 1 := by omega
      rw [h1, Nat.mul_one, xpoly_kills]
  rw [hz, Nat.xor_zero]

/-- Product modulo the polynomial, from the top bit of b down: n bits. -/
def mm (a b : Nat) : Nat → Nat
  | 0 => 0
  | n + 1 => ((b / 2 ^ (255 - n) % 2) * a) ^^^ mx (mm a b n)
theorem mm_lt {a b : Nat} (ha : a < 2 ^ 256) : ∀ n, mm a b n < 2 ^ 256
  | 0 => Nat.two_pow_pos 256
  | n + 1 => by
    refine Nat.xor_lt_two_pow ?_ (mx_lt (mm_lt ha n))
    rcases Nat.mod_two_eq_zero_or_one (b / 2 ^ (255 - n)) with hq | hq <;> rw [hq] <;> simp
    · exact ha
theorem mm_ev {a b : Nat} (ha : a < 2 ^ 256) : ∀ n, n ≤ 256 → ev 256 (mm a b n) 1 = ev n (b / 2 ^ (256 - n)) (ev 256 a 1)
  | 0, _ => ev_zero 256 1
  | n + 1, hn => by
    have ih := mm_ev (b := b) ha n (by omega)
    show ev 256 (((b / 2 ^ (255 - n) % 2) * a) ^^^ mx (mm a b n)) 1 = _
    rw [ev_xor, ev_bit, ev_mx (mm_lt ha n), ih]
    show _ = (b / 2 ^ (256 - (n + 1)) % 2 * ev 256 a 1) ^^^ xstep (ev n (b / 2 ^ (256 - (n + 1)) / 2) (ev 256 a 1))
    rw [show 256 - (n + 1) = 255 - n by omega, Nat.div_div_eq_div_mul, ← Nat.pow_succ, show (255 - n).succ = 256 - n by omega]

def Rep (q k : Nat) : Prop := q < 2 ^ 256 ∧ ev 256 q 1 = it k 1
theorem Rep.mul {a b j k : Nat} (ha : Rep a j) (hb : Rep b k) : Rep (mm a b 256) (j + k) := by
  refine ⟨mm_lt ha.1 256, ?_⟩
  rw [mm_ev ha.1 256 (Nat.le_refl _), Nat.sub_self, Nat.pow_zero, Nat.div_one, ha.2, ev_it, hb.2, it_add]
theorem rep_one : Rep 1 0 := ⟨by decide, by decide +kernel⟩
theorem rep_two : Rep 2 1 := ⟨by decide, by decide +kernel⟩

/-- Powers, by squaring; f: as many bits. -/
def pwX : Nat → Nat → Nat → Nat
  | 0, _, _ => 1
  | f + 1, q, k => if k % 2 = 1 then mm q (pwX f (mm q q 256) (k / 2)) 256 else pwX f (mm q q 256) (k / 2)
theorem Rep.pow : ∀ f {q j : Nat} (k : Nat), Rep q j → k < 2 ^ f → Rep (pwX f q k) (j * k)
  | 0, q, j, k, _, h => by
    have : k = 0 := by simpa using h
    subst this
    exact rep_one
  | f + 1, q, j, k, hq, h => by
    have ih := Rep.pow f (k / 2) (hq.mul hq) (by rw [Nat.pow_succ] at h; omega)
    have hk := Nat.div_add_mod k 2
    unfold pwX
    split
    · rename_i h1
      have := hq.mul ih
      have e : j + (j + j) * (k / 2) = j * k := by
        conv => rhs; rw [← hk, h1, Nat.mul_add, Nat.mul_one, ← Nat.mul_assoc, Nat.mul_comm j 2]
        rw [Nat.two_mul]; omega
      rw [← e]
      exact this
    · rename_i h1
      have e : (j + j) * (k / 2) = j * k := by
        have h0 : k % 2 = 0 := by omega
        conv => rhs; rw [← hk, h0, Nat.add_zero, ← Nat.mul_assoc, Nat.mul_comm j 2]
        rw [Nat.two_mul]
      rw [← e]
      exact ih
end Go.Rt
