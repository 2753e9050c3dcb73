/- Long division bit by bit, in plain numbers; numbers that stay where another block is written. -/
import Derived.Test.YtddhhfhammmaaaaGreatN15
import Derived.Test.YtddhhfhammmaaaaGreatNRes
set_option linter.unusedVariables false
set_option linter.unusedSimpArgs false
namespace Go.Proofs.YtddhhfhammmaaaaGreat
open Go.RowKit Go.Rt

theorem blen_le (m : Nat) : blen m ≤ 64 * (dig 18446744073709551616 m).length := by
  by_cases h : m = 0
  · subst h; rw [blen_zero]; exact Nat.zero_le _
  · refine Classical.byContradiction fun hn => ?_
    have h1 := blen_ge h
    have h2 := lt_dig_len (B := 18446744073709551616) (by decide) m
    rw [show (18446744073709551616 : Nat) = 2 ^ 64 by decide, ← Nat.pow_mul] at h2
    have h3 : 2 ^ (64 * (dig (2 ^ 64) m).length) ≤ 2 ^ (blen m - 1) := Nat.pow_le_pow_right (by decide) (by rw [show (2 : Nat) ^ 64 = 18446744073709551616 by decide]; omega)
    omega
theorem dig_len_shift (m e : Nat) (h : m < 2 ^ e) : (dig 18446744073709551616 m).length ≤ e / 64 + 1 := by
  refine dig_len_le (by decide) _ _ (Nat.lt_of_lt_of_le h ?_)
  rw [show (18446744073709551616 : Nat) = 2 ^ 64 by decide, ← Nat.pow_mul]
  exact Nat.pow_le_pow_right (by decide) (by omega)
/-- The start: the first divisor is great enough. -/
theorem div_start {m n N : Nat} (hn : 0 < n) (h : blen m = N + blen n) : m < n * 2 ^ (N + 1) := by
  have h1 := blen_lt m
  have h2 := blen_ge (m := n) (by omega)
  have h3 : 1 ≤ blen n := by
    refine Classical.byContradiction fun hc => ?_
    have := blen_lt n
    rw [show blen n = 0 by omega] at this
    omega
  rw [h] at h1
  have h4 : 2 ^ (N + blen n) = 2 ^ (blen n - 1) * 2 ^ (N + 1) := by rw [← Nat.pow_add]; congr 1; omega
  have h5 := Nat.mul_le_mul_right (2 ^ (N + 1)) h2
  omega
theorem div_small {m n : Nat} (hn : 0 < n) (h : blen m < blen n) : m < n := by
  have h1 := blen_lt m
  have h2 := blen_ge (m := n) (by omega)
  have h3 : 2 ^ blen m ≤ 2 ^ (blen n - 1) := Nat.pow_le_pow_right (by decide) (by omega)
  omega
theorem div_len {m n N k : Nat} (hn : 0 < n) (h : blen m = N + blen n) (hk : k ≤ N + 1) (hm : (dig 18446744073709551616 m).length ≤ 400000) : (dig 18446744073709551616 (n * 2 ^ k / 2)).length ≤ 1000000 := by
  have h1 := blen_lt n
  have h2 : n * 2 ^ k / 2 < 2 ^ (blen n + k) := Nat.lt_of_le_of_lt (Nat.div_le_self _ _) (by rw [Nat.pow_add]; exact Nat.mul_lt_mul_of_pos_right h1 (Nat.pow_pos (by decide)))
  have h3 := dig_len_shift _ _ h2
  have h4 := blen_le m
  omega
/-- A limb whose bits from 0 to s are 0. -/
theorem limb_bits {L : List Int} {q s x : Nat} (hr : Rng 18446744073709551616 L) (hq : q < L.length) (hs : s < 64) (hx : L[q]?.getD 0 = (x : Int)) (hv : valB 18446744073709551616 L % 2 ^ (64 * q + s + 1) = 0) : x % 2 ^ (s + 1) = 0 := by
  have h1 := drop_val (B := 18446744073709551616) L q x hq hx
  have h2 := val_drop_div (B := 18446744073709551616) (by decide) L hr q (by omega)
  rw [h2] at h1
  obtain ⟨V, hV⟩ : ∃ V, valB 18446744073709551616 L = V := ⟨_, rfl⟩
  rw [hV] at h1 hv
  obtain ⟨c, hc⟩ := Nat.dvd_of_mod_eq_zero hv
  have e1 : 2 ^ (64 * q + s + 1) = 18446744073709551616 ^ q * 2 ^ (s + 1) := by rw [show (18446744073709551616 : Nat) = 2 ^ 64 by decide, ← Nat.pow_mul, ← Nat.pow_add]; congr 1
  rw [e1, Nat.mul_assoc] at hc
  have e2 : V / 18446744073709551616 ^ q = 2 ^ (s + 1) * c := by rw [hc, Nat.mul_div_cancel_left _ (Nat.pow_pos (by decide))]
  rw [e2] at h1
  have e3 : 2 ^ (s + 1) ∣ 18446744073709551616 := by
    rw [show (18446744073709551616 : Nat) = 2 ^ 64 by decide]
    exact Nat.pow_dvd_pow 2 (by omega)
  obtain ⟨t, ht⟩ := e3
  have e4 : 2 ^ (s + 1) * c = x + 2 ^ (s + 1) * (t * valB 18446744073709551616 (L.drop (q + 1))) := by rw [h1, ← Nat.mul_assoc, ← ht]
  have e5 : 2 ^ (s + 1) ∣ x := (Nat.dvd_add_left (Nat.dvd_mul_right _ _)).1 (e4 ▸ Nat.dvd_mul_right _ _)
  exact Nat.mod_eq_zero_of_dvd e5
theorem mod_half {V j : Nat} (h : V % 2 ^ (j + 1) = 0) : V % 2 ^ j = 0 := by
  obtain ⟨c, hc⟩ := Nat.dvd_of_mod_eq_zero h
  rw [hc, Nat.pow_succ, Nat.mul_assoc]
  exact Nat.mul_mod_right _ _
/-- The bit j set. -/
theorem set_bit {L : List Int} {q s x d j : Nat} (hq : q < L.length) (hx : L[q]?.getD 0 = (x : Int)) (hd : d = x + 2 ^ s) (hj : j = 64 * q + s) : valB 18446744073709551616 (L.set q (d : Int)) = valB 18446744073709551616 L + 2 ^ j := by
  subst hd
  have h1 := valB_set (B := 18446744073709551616) L q x (x + 2 ^ s) hq hx
  have e1 : 2 ^ j = 18446744073709551616 ^ q * 2 ^ s := by rw [show (18446744073709551616 : Nat) = 2 ^ 64 by decide, ← Nat.pow_mul, ← Nat.pow_add, hj]
  rw [Nat.mul_add, ← e1] at h1
  omega
theorem div_bit {m n R Q j : Nat} (hm : m = n * Q + R) (hge : n * 2 ^ (j + 1) / 2 ≤ R) (hlt : R < n * 2 ^ (j + 1)) (hQ : Q % 2 ^ (j + 1) = 0) :
    m = n * (Q + 2 ^ j) + (R - n * 2 ^ (j + 1) / 2) ∧ R - n * 2 ^ (j + 1) / 2 < n * 2 ^ j ∧ (Q + 2 ^ j) % 2 ^ j = 0 := by
  have e1 : n * 2 ^ (j + 1) = n * 2 ^ j * 2 := by rw [Nat.pow_succ, Nat.mul_assoc]
  have e2 : n * 2 ^ (j + 1) / 2 = n * 2 ^ j := by rw [e1, Nat.mul_div_cancel _ (by decide)]
  rw [e2] at hge ⊢
  refine ⟨by rw [Nat.mul_add]; omega, by omega, ?_⟩
  rw [Nat.add_mod_right]
  exact mod_half hQ
theorem div_none {n R Q j : Nat} (hge : R < n * 2 ^ (j + 1) / 2) (hQ : Q % 2 ^ (j + 1) = 0) : R < n * 2 ^ j ∧ Q % 2 ^ j = 0 := by
  have e2 : n * 2 ^ (j + 1) / 2 = n * 2 ^ j := by rw [Nat.pow_succ, ← Nat.mul_assoc, Nat.mul_div_cancel _ (by decide)]
  rw [e2] at hge
  exact ⟨hge, mod_half hQ⟩
theorem down_half (n j : Nat) : n * 2 ^ (j + 1) / 2 / 2 ^ 1 = n * 2 ^ j / 2 := by rw [Nat.pow_succ, ← Nat.mul_assoc, Nat.mul_div_cancel _ (by decide), Nat.pow_one]
theorem up_half (n N : Nat) : n * 2 ^ N = n * 2 ^ (N + 1) / 2 := by rw [Nat.pow_succ, ← Nat.mul_assoc, Nat.mul_div_cancel _ (by decide)]
theorem div_end {m n Q R : Nat} (hm : m = n * Q + R) (hR : R < n * 2 ^ 0) : Q = m / n ∧ R = m % n := by
  rw [Nat.pow_zero, Nat.mul_one] at hR
  rw [hm]
  exact ⟨by rw [Nat.mul_add_div (by omega), Nat.div_eq_of_lt hR, Nat.add_zero], by rw [Nat.mul_add_mod, Nat.mod_eq_of_lt hR]⟩

/-- A slice that lies elsewhere. -/
def Away (g : Nat) (a : Option Addr) : Prop := ∀ x, a = some x → x.block ≠ g
theorem Fresh.away {B g : Nat} {a : Option Addr} (h : Fresh B a) (hg : g < B) : Away g a := fun x hx => by have := h x hx; omega
theorem nat_old {w : World} {g : Nat} {a : Option Addr} {c m : Nat} (h : NAt w g a c m) : m = 0 ∨ Away g a := by
  by_cases hm : m = 0
  · exact .inl hm
  · refine .inr fun x hx => ?_
    have hl : 0 < (dig 18446744073709551616 m).length := by
      have := (dig_len_zero (B := 18446744073709551616) (m := m) (by decide))
      omega
    obtain ⟨b, off, ha, hlt, _⟩ := h.li.cell 0 hl
    rw [ha] at hx
    injection hx with hx
    subst hx
    show b ≠ g
    omega
theorem ints_setAway {k : IntKind} {w : World} {hi : Nat} {a : Option Addr} {xs : List Int} {g o : Nat} {v : Value} (h : Ints k w hi a xs) (ha : Away g a) : Ints k (w.setCell ⟨g, o, none⟩ v) hi a xs :=
  ⟨h.len, h.wf, fun i hi' => by
    obtain ⟨b, off, e, hlt, hb⟩ := h.cell i hi'
    refine ⟨b, off, e, hlt, ?_⟩
    have hne : b ≠ g := ha _ e
    rw [← hb, World.cell?_setCell_far _ _ _ _ (Ne.symm hne)]⟩
theorem nat_setAway {w : World} {a : Option Addr} {c m g o : Nat} {v : Value} (h : NAt w w.heap.size a c m) (ha : m = 0 ∨ Away g a) : NAt (w.setCell ⟨g, o, none⟩ v) (w.setCell ⟨g, o, none⟩ v).heap.size a c m := by
  have hs : (w.setCell ⟨g, o, none⟩ v).heap.size = w.heap.size := by simp
  rw [hs]
  rcases ha with rfl | ha
  · exact ⟨⟨by decide, (by intro x hx; cases hx), (by intro i hi; cases hi)⟩, h.c1, h.c2⟩
  · exact ⟨ints_setAway h.li ha, h.c1, h.c2⟩
theorem dig32_one {n : Nat} (h : (dig 4294967296 n).length = 1) : dig 4294967296 n = [(n : Int)] ∧ 0 < n ∧ n < 4294967296 := by
  have h1 := lt_dig_len (B := 4294967296) (by decide) n
  rw [h, Nat.pow_one] at h1
  have h0 : n ≠ 0 := by
    intro e
    subst e
    cases h
  refine ⟨?_, by omega, h1⟩
  rw [dig_pos (by decide) h0, Nat.mod_eq_of_lt h1, Nat.div_eq_of_lt h1, dig_zero]
end Go.Proofs.YtddhhfhammmaaaaGreat
