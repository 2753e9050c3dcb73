/- Generators as plain numbers: four words, a draw, the next state, the same as one number of 256 bits. Plain arithmetic, no program in sight. -/
import Derived.Test.YtiejkdnkdmanmaaXoroPer
import Derived.Test.YtiejkdnkdmanmaaBase
set_option linter.unusedVariables false
set_option linter.unusedSimpArgs false
namespace Go.Rt

/-- x turned to the left by k bits, of 64. -/
def rotN (x k : Nat) : Nat := (x * 2 ^ k % 18446744073709551616) ||| (x / 2 ^ (64 - k))
theorem rotN_lt (x k : Nat) (hx : x < 18446744073709551616) : rotN x k < 18446744073709551616 := by
  refine Nat.or_lt_two_pow (n := 64) (Nat.mod_lt _ (by decide)) ?_
  exact Nat.lt_of_le_of_lt (Nat.div_le_self _ _) hx

structure St where
  a : Nat
  b : Nat
  c : Nat
  d : Nat
def St.ok (s : St) : Prop := s.a < 18446744073709551616 ∧ s.b < 18446744073709551616 ∧ s.c < 18446744073709551616 ∧ s.d < 18446744073709551616
def St.draw (s : St) : Nat := rotN (s.b * 5 % 18446744073709551616) 7 * 9 % 18446744073709551616
def St.next (s : St) : St where
  a := s.a ^^^ (s.d ^^^ s.b)
  b := s.b ^^^ (s.c ^^^ s.a)
  c := (s.c ^^^ s.a) ^^^ (s.b * 131072 % 18446744073709551616)
  d := rotN (s.d ^^^ s.b) 45
theorem xor_lt64 {x y : Nat} (hx : x < 18446744073709551616) (hy : y < 18446744073709551616) : x ^^^ y < 18446744073709551616 :=
  Nat.xor_lt_two_pow (n := 64) hx hy
theorem St.next_ok {s : St} (h : s.ok) : s.next.ok := by
  obtain ⟨ha, hb, hc, hd⟩ := h
  exact ⟨xor_lt64 ha (xor_lt64 hd hb), xor_lt64 hb (xor_lt64 hc ha), xor_lt64 (xor_lt64 hc ha) (Nat.mod_lt _ (by decide)), rotN_lt _ _ (xor_lt64 hd hb)⟩
theorem St.draw_lt (s : St) : s.draw < 18446744073709551616 := Nat.mod_lt _ (by decide)

/-- One number of 256 bits. -/
def St.num (s : St) : Nat := ((s.a ^^^ s.b <<< 64) ^^^ s.c <<< 128) ^^^ s.d <<< 192

theorem join_div {x y n : Nat} (hx : x < 2 ^ n) : (x ^^^ y <<< n) >>> n = y := by
  rw [Nat.shiftRight_xor_distrib, Nat.shiftLeft_shiftRight, Nat.shiftRight_eq_div_pow, Nat.div_eq_of_lt hx, Nat.zero_xor]
theorem join_mod {x y n : Nat} (hx : x < 2 ^ n) : (x ^^^ y <<< n) % 2 ^ n = x := by
  rw [Nat.xor_mod_two_pow, Nat.shiftLeft_eq, Nat.mul_mod_left, Nat.xor_zero, Nat.mod_eq_of_lt hx]
theorem St.num_eq (s : St) : s.num = s.a ^^^ (s.b ^^^ (s.c ^^^ s.d <<< 64) <<< 64) <<< 64 := by
  unfold St.num
  simp only [Nat.shiftLeft_xor_distrib, ← Nat.shiftLeft_add, Nat.xor_assoc]
theorem shr_join (x y n m : Nat) (hx : x < 2 ^ n) : (x ^^^ y <<< n) >>> (n + m) = y >>> m := by
  rw [Nat.shiftRight_add, join_div hx]
theorem St.word0 {s : St} (h : s.ok) : s.num % 2 ^ 64 = s.a := by
  rw [s.num_eq]; exact join_mod h.1
theorem St.word1 {s : St} (h : s.ok) : (s.num >>> 64) % 2 ^ 64 = s.b := by
  rw [s.num_eq, join_div h.1]; exact join_mod h.2.1
theorem St.word2 {s : St} (h : s.ok) : (s.num >>> 128) % 2 ^ 64 = s.c := by
  rw [s.num_eq, show 128 = 64 + 64 from rfl, shr_join _ _ _ _ h.1, join_div h.2.1]; exact join_mod h.2.2.1
theorem St.word3 {s : St} (h : s.ok) : (s.num >>> 192) % 2 ^ 64 = s.d := by
  rw [s.num_eq, show 192 = 64 + (64 + 64) from rfl, shr_join _ _ _ _ h.1, shr_join _ _ _ _ h.2.1, join_div h.2.2.1]
  exact Nat.mod_eq_of_lt h.2.2.2
theorem St.num_lt {s : St} (h : s.ok) : s.num < 2 ^ 256 := by
  unfold St.num
  refine Nat.xor_lt_two_pow (Nat.xor_lt_two_pow (Nat.xor_lt_two_pow ?_ ?_) ?_) ?_
  · exact lt_mono (n := 64) h.1 (by decide)
  · exact lt_mono (shl_lt (n := 64) (m := 64) h.2.1) (by decide)
  · exact lt_mono (shl_lt (n := 64) (m := 128) h.2.2.1) (by decide)
  · exact lt_mono (shl_lt (n := 64) (m := 192) h.2.2.2) (by decide)

theorem xor_disjoint_or {x y n : Nat} (hx : x < 2 ^ n) : x ||| y <<< n = x ^^^ y <<< n := by
  apply Nat.eq_of_testBit_eq
  intro i
  rw [Nat.testBit_or, Nat.testBit_xor]
  by_cases hi : i < n
  · rw [Nat.testBit_shiftLeft]
    simp [Nat.not_le.2 hi]
  · rw [Nat.testBit_lt_two_pow (Nat.lt_of_lt_of_le hx (Nat.pow_le_pow_right (by decide) (by omega)))]
    simp
theorem rot45 (x : Nat) (hx : x < 18446744073709551616) : rotN x 45 = ((x <<< 45) % 2 ^ 64) ^^^ (x >>> 19) := by
  have h1 : x >>> 19 < 2 ^ 45 := by
    rw [Nat.shiftRight_eq_div_pow]
    exact Nat.div_lt_of_lt_mul (by simpa using hx)
  have h2 : (x <<< 45) % 2 ^ 64 = (x % 2 ^ 19) <<< 45 := by
    rw [Nat.shiftLeft_eq, Nat.shiftLeft_eq, show (2 : Nat) ^ 64 = 2 ^ 19 * 2 ^ 45 by decide, Nat.mul_mod_mul_right]
  unfold rotN
  rw [← Nat.shiftLeft_eq, ← Nat.shiftRight_eq_div_pow, show (18446744073709551616 : Nat) = 2 ^ 64 by decide, show 64 - 45 = 19 from rfl, h2, Nat.or_comm, Nat.xor_comm]
  exact xor_disjoint_or h1

theorem St.num_next {s : St} (h : s.ok) : s.next.num = xstep s.num := by
  unfold xstep
  rw [St.word0 h, St.word1 h, St.word2 h, St.word3 h]
  simp only [St.next, St.num]
  rw [rot45 _ (xor_lt64 h.2.2.2 h.2.1), show s.b * 131072 = s.b <<< 17 by rw [Nat.shiftLeft_eq], show (18446744073709551616 : Nat) = 2 ^ 64 by decide]

def St.iter : Nat → St → St
  | 0, s => s
  | k + 1, s => (St.iter k s).next
theorem St.iter_ok {s : St} (h : s.ok) : ∀ k, (St.iter k s).ok
  | 0 => h
  | k + 1 => St.next_ok (St.iter_ok h k)
theorem St.iter_num {s : St} (h : s.ok) : ∀ k, (St.iter k s).num = it k s.num
  | 0 => rfl
  | k + 1 => by
    show (St.iter k s).next.num = xstep (it k s.num)
    rw [St.num_next (St.iter_ok h k), St.iter_num h k]
theorem St.num_inj {s t : St} (hs : s.ok) (ht : t.ok) (h : s.num = t.num) : s = t := by
  obtain ⟨a, b, c, d⟩ := s
  obtain ⟨a', b', c', d'⟩ := t
  have h0 := St.word0 hs
  have h1 := St.word1 hs
  have h2 := St.word2 hs
  have h3 := St.word3 hs
  rw [h] at h0 h1 h2 h3
  rw [St.word0 ht] at h0
  rw [St.word1 ht] at h1
  rw [St.word2 ht] at h2
  rw [St.word3 ht] at h3
  simp at h0 h1 h2 h3
  simp [h0, h1, h2, h3]
def St.zero (s : St) : Bool := decide (s.a = 0) && (decide (s.b = 0) && (decide (s.c = 0) && decide (s.d = 0)))
theorem St.num_pos {s : St} (hs : s.ok) (h : s.zero = false) : 0 < s.num := by
  rcases Nat.eq_zero_or_pos s.num with h0 | h0
  · exfalso
    have := St.num_inj (t := ⟨0, 0, 0, 0⟩) hs (by simp [St.ok]) (by rw [h0]; rfl)
    subst this
    simp [St.zero] at h
  · exact h0
/-- From every state but 0 a draw of 0 comes. -/
theorem St.draws0 {s : St} (hs : s.ok) (h : s.zero = false) : ∃ k, (St.iter k s).draw = 0 := by
  obtain ⟨k, hk⟩ := xoro_reach s.num (St.num_pos hs h) (St.num_lt hs)
  refine ⟨k, ?_⟩
  have : St.iter k s = ⟨1, 0, 0, 0⟩ := St.num_inj (St.iter_ok hs k) (by simp [St.ok]) (by rw [St.iter_num hs k, hk]; rfl)
  rw [this]
  rfl
theorem St.next_zero {s : St} (hs : s.ok) (h : s.zero = false) : s.next.zero = false := by
  cases hz : s.next.zero with
  | false => rfl
  | true =>
    exfalso
    obtain ⟨k, hk⟩ := xoro_reach s.num (St.num_pos hs h) (St.num_lt hs)
    have hn : s.next.num = 0 := by
      simp [St.zero] at hz
      simp [St.num, hz]
    have h1 : it (k + 1) s.num = 0 := by
      rw [it_add k 1]
      show it k (xstep s.num) = 0
      rw [← St.num_next hs, hn, it_zero]
    have h2 : it (k + 1) s.num = xstep 1 := by
      show xstep (it k s.num) = _
      rw [hk]
    rw [h1] at h2
    exact absurd h2 (by decide)
end Go.Rt
