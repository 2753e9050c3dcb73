/- Prime numbers by certificates: trial division, Fermat's little theorem, Pocklington. Plain arithmetic, no program in sight. -/
set_option linter.unusedVariables false
set_option linter.unusedSimpArgs false
namespace Go.Rt

/-- A prime number. -/
def Pr (p : Nat) : Prop := 2 ≤ p ∧ ∀ d, d ∣ p → d = 1 ∨ d = p

/-! ### periods: what is closed under sums and differences is the multiples of its least member -/
theorem least_exists (P : Nat → Prop) [DecidablePred P] (n : Nat) (h : P n) : ∃ m, P m ∧ ∀ k, k < m → ¬ P k := by
  induction n using Nat.strongRecOn with
  | _ n ih =>
    by_cases hx : ∃ k, k < n ∧ P k
    · obtain ⟨k, hk, hp⟩ := hx
      exact ih k hk hp
    · exact ⟨n, h, fun k hk hp => hx ⟨k, hk, hp⟩⟩

theorem period_dvd (P : Nat → Prop) (h0 : P 0) (hadd : ∀ a b, P a → (P (a + b) ↔ P b)) {n : Nat} (hn : 0 < n) (hP : P n) :
    ∃ m, 0 < m ∧ P m ∧ (∀ k, P k ↔ m ∣ k) := by
  have : DecidablePred fun k => 0 < k ∧ P k := fun k => Classical.propDecidable _
  obtain ⟨m, ⟨hm0, hPm⟩, hmin⟩ := least_exists (fun k => 0 < k ∧ P k) n ⟨hn, hP⟩
  refine ⟨m, hm0, hPm, fun k => ?_⟩
  have hmul : ∀ q, P (m * q) := by
    intro q
    induction q with
    | zero => exact h0
    | succ q ih => rw [Nat.mul_succ]; exact (hadd _ _ ih).2 hPm
  constructor
  · intro hk
    have e : m * (k / m) + k % m = k := Nat.div_add_mod k m
    have hr : P (k % m) := (hadd _ _ (hmul (k / m))).1 (by rw [e]; exact hk)
    have hlt := Nat.mod_lt k hm0
    by_cases hz : k % m = 0
    · exact Nat.dvd_of_mod_eq_zero hz
    · exact absurd ⟨by omega, hr⟩ (hmin _ hlt)
  · rintro ⟨q, rfl⟩
    exact hmul q

/-- A prime divisor of a number from 2 on. -/
theorem exists_prime : ∀ n : Nat, 2 ≤ n → ∃ p, Pr p ∧ p ∣ n := by
  intro n
  induction n using Nat.strongRecOn with
  | _ n ih =>
    intro hn
    by_cases hp : ∀ d, d ∣ n → d = 1 ∨ d = n
    · exact ⟨n, ⟨hn, hp⟩, Nat.dvd_refl n⟩
    · have : ∃ d, d ∣ n ∧ ¬ (d = 1 ∨ d = n) := by
        apply Classical.byContradiction
        intro hne
        exact hp (fun d hd => Classical.byContradiction fun hn => hne ⟨d, hd, hn⟩)
      obtain ⟨d, hd, hne⟩ := this
      have hle := Nat.le_of_dvd (by omega) hd
      have hd0 : d ≠ 0 := by rintro rfl; have := Nat.eq_zero_of_zero_dvd hd; omega
      obtain ⟨p, hpp, hpd⟩ := ih d (by omega) (by omega)
      exact ⟨p, hpp, Nat.dvd_trans hpd hd⟩

theorem Pr.pos {p : Nat} (h : Pr p) : 0 < p := by have := h.1; omega

/-- A prime that divides a product divides a factor. -/
theorem Pr.dvd_mul {p a b : Nat} (hp : Pr p) (h : p ∣ a * b) : p ∣ a ∨ p ∣ b := by
  rcases hp.2 (Nat.gcd p a) (Nat.gcd_dvd_left p a) with h1 | h1
  · exact .inr (Nat.Coprime.dvd_of_dvd_mul_left h1 h)
  · exact .inl (h1 ▸ Nat.gcd_dvd_right p a)

/-! ### Fermat's little theorem -/
def prodL : List Nat → Nat
  | [] => 1
  | a :: r => a * prodL r
theorem prodL_perm {l m : List Nat} (h : l.Perm m) : prodL l = prodL m := by
  induction h with
  | nil => rfl
  | cons x _ ih => simp [prodL, ih]
  | swap x y l => simp [prodL, Nat.mul_left_comm]
  | trans _ _ h1 h2 => exact h1.trans h2
theorem prodL_map_mul (a p : Nat) : ∀ l : List Nat, prodL (l.map fun i => a * i % p) % p = a ^ l.length * prodL l % p
  | [] => by simp [prodL]
  | x :: r => by
    have ih := prodL_map_mul a p r
    simp only [List.map_cons, prodL, List.length_cons]
    rw [Nat.mul_mod, ih, Nat.mod_mod, ← Nat.mul_mod, Nat.pow_succ]
    congr 1
    rw [Nat.mul_mul_mul_comm, Nat.mul_comm a (a ^ r.length)]

theorem sub_perm : ∀ (l m : List Nat), l.Nodup → (∀ x ∈ l, x ∈ m) → m.length ≤ l.length → l.Perm m
  | [], m, _, _, hl => by
    have : m = [] := List.eq_nil_of_length_eq_zero (by simpa using hl)
    subst this
    exact List.Perm.refl _
  | x :: r, m, hn, hs, hl => by
    have hx : x ∈ m := hs x (List.mem_cons_self ..)
    have hp := List.perm_cons_erase hx
    refine List.Perm.trans ?_ hp.symm
    refine List.Perm.cons x (sub_perm r (m.erase x) (List.nodup_cons.1 hn).2 ?_ ?_)
    · intro y hy
      have hne : y ≠ x := fun e => (List.nodup_cons.1 hn).1 (e ▸ hy)
      exact (List.mem_erase_of_ne hne).2 (hs y (List.mem_cons_of_mem _ hy))
    · have := hp.length_eq
      simp at this hl
      omega

theorem prodL_not_dvd {p : Nat} (hp : Pr p) : ∀ l : List Nat, (∀ x ∈ l, ¬ p ∣ x) → ¬ p ∣ prodL l
  | [], _, h => by have := Nat.le_of_dvd (by decide) h; have := hp.1; simp only [prodL] at *; omega
  | x :: r, hx, h => by
    rcases hp.dvd_mul h with h | h
    · exact hx x (List.mem_cons_self ..) h
    · exact prodL_not_dvd hp r (fun y hy => hx y (List.mem_cons_of_mem _ hy)) h

theorem cancel_mod {p a b c : Nat} (hp : Pr p) (hc : ¬ p ∣ c) (h : a * c % p = b * c % p) : a % p = b % p := by
  have key : ∀ x y : Nat, x ≤ y → x * c % p = y * c % p → x % p = y % p := by
    intro x y hxy he
    have hd : p ∣ (y - x) * c := by
      rw [Nat.sub_mul]
      exact (Nat.modEq_iff_dvd' (Nat.mul_le_mul_right c hxy)).1 he
    have hd2 : p ∣ y - x := (hp.dvd_mul hd).resolve_right hc
    exact (Nat.modEq_iff_dvd' hxy).2 hd2
  rcases Nat.le_total a b with hl | hl
  · exact key a b hl h
  · exact (key b a hl h.symm).symm
where
  Nat.modEq_iff_dvd' {n a b : Nat} (h : a ≤ b) : a % n = b % n ↔ n ∣ b - a := by
    constructor
    · intro e
      refine ⟨b / n - a / n, ?_⟩
      have ha := Nat.div_add_mod a n
      have hb := Nat.div_add_mod b n
      rw [Nat.mul_sub]
      omega
    · rintro ⟨q, hq⟩
      have : b = a + n * q := by omega
      rw [this, Nat.add_mul_mod_self_left]

theorem fermat {p a : Nat} (hp : Pr p) (ha : ¬ p ∣ a) : a ^ (p - 1) % p = 1 % p := by
  have hp2 := hp.1
  let l := (List.range (p - 1)).map (· + 1)
  have hmem : ∀ x, x ∈ l ↔ 1 ≤ x ∧ x < p := by
    intro x
    simp only [l, List.mem_map, List.mem_range]
    constructor
    · rintro ⟨y, hy, rfl⟩; omega
    · rintro ⟨h1, h2⟩; exact ⟨x - 1, by omega, by omega⟩
  have hlen : l.length = p - 1 := by simp [l]
  have hnd : l.Nodup := by
    have : (List.range (p - 1)).Nodup := List.nodup_range
    exact List.Pairwise.map _ (fun a b (h : a ≠ b) => by omega) this
  have hni : ∀ x ∈ l, ¬ p ∣ x := by
    intro x hx hd
    have := (hmem x).1 hx
    have := Nat.le_of_dvd (by omega) hd
    omega
  have hperm : (l.map fun i => a * i % p).Perm l := by
    refine sub_perm _ _ ?_ ?_ (by simp)
    · refine List.Pairwise.map _ (R := fun x y => x ≠ y ∧ x ∈ l ∧ y ∈ l) ?_ ?_
      · rintro x y ⟨hne, hx, hy⟩ he
        have hx' := (hmem x).1 hx
        have hy' := (hmem y).1 hy
        have := cancel_mod hp ha (a := x) (b := y) (by rw [Nat.mul_comm x, Nat.mul_comm y]; exact he)
        rw [Nat.mod_eq_of_lt hx'.2, Nat.mod_eq_of_lt hy'.2] at this
        exact hne this
      · refine List.Pairwise.imp_of_mem ?_ hnd
        intro x y hx hy hne
        exact ⟨hne, hx, hy⟩
    · intro y hy
      obtain ⟨x, hx, rfl⟩ := List.mem_map.1 hy
      have h0 : a * x % p ≠ 0 := by
        intro e
        rcases hp.dvd_mul (Nat.dvd_of_mod_eq_zero e) with h | h
        · exact ha h
        · exact hni x hx h
      exact (hmem _).2 ⟨by omega, Nat.mod_lt _ hp.pos⟩
  have h1 := prodL_map_mul a p l
  rw [prodL_perm hperm, hlen] at h1
  have hnd2 := prodL_not_dvd hp l hni
  have h2 := cancel_mod hp hnd2 (a := 1) (b := a ^ (p - 1)) (by rw [Nat.one_mul]; exact h1)
  exact h2.symm

/-! ### certificates -/
/-- Trial division by 2, 3, .., up to the root: k more divisors from d on. -/
def trial (n : Nat) : Nat → Nat → Bool
  | 0, _ => true
  | k + 1, d => (n % d != 0) && trial n k (d + 1)
theorem trial_spec (n : Nat) : ∀ k d, trial n k d = true → ∀ e, d ≤ e → e < d + k → ¬ e ∣ n
  | 0, d, _, e, h1, h2 => by omega
  | k + 1, d, h, e, h1, h2 => by
    simp only [trial, Bool.and_eq_true, bne_iff_ne] at h
    by_cases hed : e = d
    · subst hed
      intro hd
      exact h.1 (Nat.mod_eq_zero_of_dvd hd)
    · exact trial_spec n k (d + 1) h.2 e (by omega) (by omega)
/-- Prime by trial division: no divisor from 2 below k + 2, and (k + 2)^2 above n. -/
theorem prime_of_trial {n k : Nat} (h2 : 2 ≤ n) (ht : trial n k 2 = true) (hk : n < (k + 2) * (k + 2)) : Pr n := by
  refine ⟨h2, fun d hd => ?_⟩
  apply Classical.byContradiction
  intro hne
  have hd0 : d ≠ 0 := by rintro rfl; have := Nat.eq_zero_of_zero_dvd hd; omega
  obtain ⟨e, rfl⟩ := hd
  have he0 : e ≠ 0 := by rintro rfl; simp at h2
  have hd1 : d ≠ 1 := fun h => hne (.inl h)
  have he1 : e ≠ 1 := by rintro rfl; exact hne (.inr (by simp))
  have hs := trial_spec _ k 2 ht
  by_cases hdk : d < k + 2
  · exact hs d (by omega) (by omega) ⟨e, rfl⟩
  · by_cases hek : e < k + 2
    · exact hs e (by omega) (by omega) ⟨d, Nat.mul_comm _ _⟩
    · have := Nat.mul_le_mul (Nat.le_of_not_lt hdk) (Nat.le_of_not_lt hek)
      omega

/-- Powers modulo n, by squaring; f: as many bits. -/
def powM (n : Nat) : Nat → Nat → Nat → Nat
  | 0, _, _ => 1 % n
  | f + 1, a, k => if k % 2 = 1 then a * powM n f (a * a % n) (k / 2) % n else powM n f (a * a % n) (k / 2) % n
theorem powM_spec (n : Nat) : ∀ f a k, k < 2 ^ f → powM n f a k = a ^ k % n
  | 0, a, k, h => by
    have : k = 0 := by simpa using h
    subst this
    rfl
  | f + 1, a, k, h => by
    have ih := powM_spec n f (a * a % n) (k / 2) (by rw [Nat.pow_succ] at h; omega)
    have hsq : (a * a % n) ^ (k / 2) % n = a ^ (2 * (k / 2)) % n := by
      rw [← Nat.pow_mod, Nat.pow_mul, Nat.pow_two]
    unfold powM
    rw [ih, hsq]
    have hk := Nat.div_add_mod k 2
    split
    · rename_i h1
      rw [Nat.mul_mod, Nat.mod_mod, ← Nat.mul_mod]
      congr 1
      rw [← hk, h1, Nat.pow_succ, Nat.mul_comm]
      congr 2
      omega
    · rename_i h1
      rw [Nat.mod_mod]
      congr 2
      omega

theorem pow_period {p b : Nat} (hp : Pr p) (hb : ¬ p ∣ b) (x y : Nat) (hx : b ^ x % p = 1 % p) : b ^ (x + y) % p = 1 % p ↔ b ^ y % p = 1 % p := by
  have : b ^ (x + y) % p = b ^ y % p := by
    rw [Nat.pow_add, Nat.mul_mod, hx, ← Nat.mul_mod, Nat.one_mul]
  rw [this]

theorem dvd_pow_self' (a : Nat) {k : Nat} (h : k ≠ 0) : a ∣ a ^ k := by
  obtain ⟨j, rfl⟩ : ∃ j, k = j + 1 := ⟨k - 1, by omega⟩
  exact ⟨a ^ j, by rw [Nat.pow_succ, Nat.mul_comm]⟩
theorem dvd_of_pow {p a : Nat} (hp : Pr p) : ∀ {k : Nat}, p ∣ a ^ k → p ∣ a
  | 0, h => by
    rw [Nat.pow_zero] at h
    have := Nat.le_of_dvd (by decide) h
    have := hp.1
    omega
  | k + 1, h => by
    rw [Nat.pow_succ] at h
    rcases hp.dvd_mul h with h | h
    · exact dvd_of_pow hp h
    · exact h

/-- Every prime divisor of n is 1 modulo q, where n - 1 = q r and a's power tells so. -/
theorem pock_key {n q r a f : Nat} (hn : 2 ≤ n) (hq : Pr q) (hnr : n - 1 = q * r) (h1 : powM n f a (n - 1) = 1) (hf : n - 1 < 2 ^ f)
    (h2 : Nat.gcd (powM n f a r + (n - 1)) n = 1) : ∀ p, Pr p → p ∣ n → q ∣ p - 1 := by
  have hrlt : r ≤ n - 1 := by rw [hnr]; exact Nat.le_mul_of_pos_left r hq.pos
  have h1' : a ^ (n - 1) % n = 1 := by rw [← powM_spec n f a (n - 1) hf]; exact h1
  have h2' : powM n f a r = a ^ r % n := powM_spec n f a r (by omega)
  intro p hp hpn
  have hap : ¬ p ∣ a := by
    intro hd
    have hdp : p ∣ a ^ (n - 1) := Nat.dvd_trans hd (dvd_pow_self' a (by omega))
    have hm : p ∣ a ^ (n - 1) % n := (Nat.dvd_mod_iff hpn).2 hdp
    rw [h1'] at hm
    have := Nat.le_of_dvd (by decide) hm
    have := hp.1
    omega
  have hb : ¬ p ∣ a ^ r := fun hd => hap (dvd_of_pow hp hd)
  have e1 : (a ^ r) ^ q % p = 1 % p := by
    rw [← Nat.pow_mul, Nat.mul_comm r q, ← hnr]
    have : a ^ (n - 1) % n % p = 1 % p := by rw [h1']
    rwa [Nat.mod_mod_of_dvd _ hpn] at this
  have e2 : (a ^ r) ^ (p - 1) % p = 1 % p := fermat hp hb
  have e3 : ¬ (a ^ r) ^ 1 % p = 1 % p := by
    intro e
    rw [Nat.pow_one] at e
    have hd1 : p ∣ powM n f a r + (n - 1) := by
      rw [h2']
      have hz : (a ^ r % n + (n - 1)) % p = 0 := by
        rw [Nat.add_mod, Nat.mod_mod_of_dvd _ hpn, e, ← Nat.add_mod, show 1 + (n - 1) = n by omega]
        exact Nat.mod_eq_zero_of_dvd hpn
      exact Nat.dvd_of_mod_eq_zero hz
    have := Nat.dvd_gcd hd1 hpn
    rw [h2] at this
    have := Nat.le_of_dvd (by decide) this
    have := hp.1
    omega
  obtain ⟨m, hm0, hPm, hall⟩ := period_dvd (fun k => (a ^ r) ^ k % p = 1 % p) (by simp) (fun x y hx => pow_period hp hb x y hx) hq.pos e1
  have hmq : m ∣ q := (hall q).1 e1
  have hmp : m ∣ p - 1 := (hall (p - 1)).1 e2
  have hm1 : m ≠ 1 := by
    rintro rfl
    exact e3 hPm
  have hmq2 : m = q := (hq.2 m hmq).resolve_left hm1
  rw [← hmq2]
  exact hmp

/-- Where every prime divisor is at least b, and b * b is above n, n is prime. -/
theorem prime_of_big {n b : Nat} (hn : 2 ≤ n) (hb : n < b * b) (key : ∀ p, Pr p → p ∣ n → b ≤ p) : Pr n := by
  refine ⟨hn, fun d hd => ?_⟩
  apply Classical.byContradiction
  intro hne
  have hd0 : d ≠ 0 := by rintro rfl; have := Nat.eq_zero_of_zero_dvd hd; omega
  obtain ⟨e, he⟩ := hd
  have he0 : e ≠ 0 := by rintro rfl; omega
  have hd1 : d ≠ 1 := fun h => hne (.inl h)
  have he1 : e ≠ 1 := by rintro rfl; exact hne (.inr (by omega))
  obtain ⟨p1, hp1, hpd⟩ := exists_prime d (by omega)
  obtain ⟨p2, hp2, hpe⟩ := exists_prime e (by omega)
  have k1 := key p1 hp1 (Nat.dvd_trans hpd ⟨e, he⟩)
  have k2 := key p2 hp2 (Nat.dvd_trans hpe ⟨d, by rw [he, Nat.mul_comm]⟩)
  have l1 := Nat.le_of_dvd (by omega) hpd
  have l2 := Nat.le_of_dvd (by omega) hpe
  have := Nat.mul_le_mul (show b ≤ d by omega) (show b ≤ e by omega)
  omega

/-- Pocklington, with one prime q of n - 1 = q r; the K least candidates k q + 1 are looked at. -/
theorem pocklington {n q r a f : Nat} (K : Nat) (hn : 2 ≤ n) (hq : Pr q) (hnr : n - 1 = q * r) (hqq : n < ((K + 1) * q + 1) * ((K + 1) * q + 1)) (h1 : powM n f a (n - 1) = 1) (hf : n - 1 < 2 ^ f)
    (h2 : Nat.gcd (powM n f a r + (n - 1)) n = 1) (hK : (List.range K).all (fun k => n % ((k + 1) * q + 1) != 0) = true) : Pr n := by
  refine prime_of_big hn hqq (fun p hp hpn => ?_)
  obtain ⟨k, hk⟩ := pock_key hn hq hnr h1 hf h2 p hp hpn
  have hp2 := hp.1
  have hk0 : k ≠ 0 := by rintro rfl; omega
  have hpk : p = k * q + 1 := by rw [Nat.mul_comm] at hk; omega
  by_cases hlt : k < K + 1
  · exfalso
    rw [List.all_eq_true] at hK
    have := hK (k - 1) (List.mem_range.2 (by omega))
    rw [show k - 1 + 1 = k by omega, ← hpk, bne_iff_ne] at this
    exact this (Nat.mod_eq_zero_of_dvd hpn)
  · rw [hpk]
    have := Nat.mul_le_mul_right q (show K + 1 ≤ k by omega)
    omega
end Go.Rt
