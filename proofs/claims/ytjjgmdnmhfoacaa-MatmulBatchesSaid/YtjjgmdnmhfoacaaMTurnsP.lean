/- Products of matrices of two axes, in plain numbers: by 1 on the diagonal, turned, row by row. No walk. -/
import Derived.Test.YtjjgmdnmhfoacaaMLawP
set_option linter.unusedVariables false
set_option linter.unusedSimpArgs false
namespace Go.Proofs.Ytjjgmdnmhfoacaa
open Go.RowKit Go.Rt

theorem good2_iff {R C : Nat} : goodB [(R : Int), (C : Int)] = true ↔ (1 ≤ R ∧ R ≤ 4096) ∧ (1 ≤ C ∧ C ≤ 4096) ∧ R * C ≤ 65536 := by
  rw [goodB_iff]
  have e : prodI [(R : Int), (C : Int)] = ((R * C : Nat) : Int) := by simp [prodI]
  rw [e]
  constructor
  · rintro ⟨_, h, h2⟩
    have a := h R (by simp)
    have b := h C (by simp)
    omega
  · rintro ⟨h1, h2, h3⟩
    refine ⟨by simp, ?_, by omega⟩
    intro d hd
    simp at hd
    rcases hd with rfl | rfl <;> omega
theorem ten2_iff {R C : Nat} {ys : List Int} : tenB [(R : Int), (C : Int)] ys = true ↔ ((1 ≤ R ∧ R ≤ 4096) ∧ (1 ≤ C ∧ C ≤ 4096) ∧ R * C ≤ 65536) ∧ ys.length = R * C ∧ ∀ y ∈ ys, isW y = true := by
  rw [tenB_iff, good2_iff]
  have e : prodI [(R : Int), (C : Int)] = ((R * C : Nat) : Int) := by simp [prodI]
  rw [e]
  constructor
  · rintro ⟨a, b, c⟩; exact ⟨a, by omega, c⟩
  · rintro ⟨a, b, c⟩; exact ⟨a, by omega, c⟩
theorem list2 {xs : List Int} (h : xs.length = 2) (hg : goodB xs = true) : ∃ R C : Nat, xs = [(R : Int), (C : Int)] := by
  match xs, h with
  | [a, b], _ =>
    have d := goodB_dims hg
    have ha := d a (by simp)
    have hb := d b (by simp)
    exact ⟨a.toNat, b.toNat, by rw [Int.toNat_of_nonneg (by omega), Int.toNat_of_nonneg (by omega)]⟩

theorem mulW2 (R I J C : Nat) (ysA ysB : List Int) (f : Nat) : mulW [(R : Int), (I : Int)] ysA [(J : Int), (C : Int)] ysB f = mulG ysA ysB R I C true f := by
  unfold mulW
  simp
theorem outL2 (R I J C : Nat) : outL [(R : Int), (I : Int)] [(J : Int), (C : Int)] = [(R : Int), (C : Int)] := by simp [outL]
theorem mulN2 (R I J C : Nat) : mulN [(R : Int), (I : Int)] [(J : Int), (C : Int)] = R * C := by
  unfold mulN
  rw [outL2]
  have e : prodI [(R : Int), (C : Int)] = ((R * C : Nat) : Int) := by simp [prodI]
  rw [e]
  exact Int.toNat_natCast _
theorem outE2 (R I J C : Nat) : outE [(R : Int), (I : Int)] [(J : Int), (C : Int)] = 0 ↔ I = J ∧ goodB [(R : Int), (C : Int)] = true := by
  have hf : fitsB [(R : Int), (I : Int)] [(J : Int), (C : Int)] = decide (I = J) := by
    simp [fitsB]
    by_cases h : I = J <;> simp [h] <;> omega
  unfold outE
  rw [hf, outL2]
  by_cases h : I = J
  · simp [h]
  · simp [h]

theorem mulG2 (ysA ysB : List Int) (R I C f j : Nat) (hC : 1 ≤ C) (hj : j < R * C) : mulG ysA ysB R I C true f j = shI (sumAt ysA ysB (j / C * I) (j % C) C I) f := by
  unfold mulG
  rw [if_pos rfl, Nat.div_eq_of_lt hj, Nat.zero_mul, Nat.zero_add]

theorem mul2_iff (R I J C : Nat) (ysA ysB : List Int) (f : Nat) : mulE [(R : Int), (I : Int)] ysA [(J : Int), (C : Int)] ysB f = 0 ↔ I = J ∧ goodB [(R : Int), (C : Int)] = true ∧ ∀ j, j < R * C → isW (mulG ysA ysB R I C true f j) = true := by
  constructor
  · intro h
    obtain ⟨h1, h2⟩ := mulE_zero h
    rw [outE2] at h1
    rw [mulN2, mulW2] at h2
    exact ⟨h1.1, h1.2, h2⟩
  · rintro ⟨h1, h2, h3⟩
    unfold mulE
    rw [if_pos ((outE2 R I J C).2 ⟨h1, h2⟩), mulN2, mulW2, if_pos]
    exact List.all_eq_true.2 (fun j hj => h3 j (by simpa using hj))
theorem mulY2 {R I J C : Nat} {ysA ysB : List Int} {f : Nat} (h : mulE [(R : Int), (I : Int)] ysA [(J : Int), (C : Int)] ysB f = 0) :
    mulY [(R : Int), (I : Int)] ysA [(J : Int), (C : Int)] ysB f = (List.range (R * C)).map (mulG ysA ysB R I C true f) ∧ mulX [(R : Int), (I : Int)] ysA [(J : Int), (C : Int)] ysB f = [(R : Int), (C : Int)] := by
  unfold mulY mulX
  rw [if_pos h, if_pos h, mulN2, mulW2, outL2]
  exact ⟨rfl, rfl⟩

theorem sumAt_congr (xs ys xs' ys' : List Int) (o p st o' p' st' n : Nat) (h : ∀ j, j < n → xs[o + j]?.getD 0 * ys[p + j * st]?.getD 0 = xs'[o' + j]?.getD 0 * ys'[p' + j * st']?.getD 0) :
    ∀ k, k ≤ n → sumAt xs ys o p st k = sumAt xs' ys' o' p' st' k
  | 0, _ => rfl
  | k + 1, hk => by
    rw [sumAt, sumAt, sumAt_congr xs ys xs' ys' o p st o' p' st' n h k (by omega), h k (by omega)]

/-! By 1 on the diagonal -/
/-- The first k diagonal words are 1, of n rows. -/
def diagL (n f k : Nat) : List Int := (List.range (n * n)).map fun q => if q / n = q % n ∧ q / n < k then 2 ^ f else 0
theorem diagL_zero (n f : Nat) : diagL n f 0 = List.replicate (n * n) 0 := by
  apply List.ext_getElem
  · simp [diagL]
  · intro i h1 h2
    simp [diagL]
theorem diagL_len (n f k : Nat) : (diagL n f k).length = n * n := by simp [diagL]
theorem diagL_set (n f k : Nat) (hk : k < n) : (diagL n f k).set (k * n + k) (2 ^ f) = diagL n f (k + 1) := by
  have hd : ∀ q, q < n * n → (k * n + k = q ↔ (q / n = q % n ∧ q / n = k)) := by
    intro q hq
    constructor
    · rintro rfl
      have h1 : (k * n + k) / n = k := by rw [Nat.add_comm, Nat.mul_comm, Nat.add_mul_div_left _ _ (by omega), Nat.div_eq_of_lt hk]; omega
      have h2 : (k * n + k) % n = k := by rw [Nat.add_comm, Nat.mul_comm, Nat.add_mul_mod_self_left, Nat.mod_eq_of_lt hk]
      exact ⟨by rw [h1, h2], h1⟩
    · rintro ⟨h1, h2⟩
      have := Nat.div_add_mod q n
      rw [← h1, h2, Nat.mul_comm] at this
      exact this
  apply List.ext_getElem
  · simp [diagL]
  · intro i h1 h2
    have hi : i < n * n := by simpa [diagL] using h2
    rw [List.getElem_set]
    simp only [diagL, List.getElem_map, List.getElem_range]
    by_cases h : k * n + k = i
    · rw [if_pos h]
      have := (hd i hi).1 h
      rw [if_pos ⟨this.1, by omega⟩]
    · rw [if_neg h]
      have h3 : ¬ (i / n = i % n ∧ i / n = k) := fun h4 => h ((hd i hi).2 h4)
      by_cases h5 : i / n = i % n ∧ i / n < k
      · rw [if_pos h5, if_pos ⟨h5.1, by omega⟩]
      · rw [if_neg h5, if_neg]
        rintro ⟨h6, h7⟩
        by_cases h8 : i / n = k
        · exact h3 ⟨h6, h8⟩
        · exact h5 ⟨h6, by omega⟩
theorem diagL_get (n f c j : Nat) (hc : c < n) (hj : j < n) : (diagL n f n)[c + j * n]?.getD 0 = if j = c then 2 ^ f else 0 := by
  have hl : c + j * n < n * n := by
    have : (j + 1) * n ≤ n * n := Nat.mul_le_mul hj (Nat.le_refl _)
    rw [Nat.add_mul, Nat.one_mul] at this
    omega
  have h1 : (c + j * n) / n = j := by rw [Nat.mul_comm, Nat.add_mul_div_left _ _ (by omega), Nat.div_eq_of_lt hc]; omega
  have h2 : (c + j * n) % n = c := by rw [Nat.mul_comm, Nat.add_mul_mod_self_left, Nat.mod_eq_of_lt hc]
  rw [List.getElem?_eq_getElem (by rw [diagL_len]; exact hl)]
  simp only [diagL, List.getElem_map, List.getElem_range, Option.getD_some]
  rw [h1, h2]
  by_cases h : j = c
  · rw [if_pos h, if_pos ⟨h, hj⟩]
  · rw [if_neg h, if_neg (fun h2 => h h2.1)]
theorem sum_diag (xs : List Int) (n f o c : Nat) (hc : c < n) : ∀ k, k ≤ n → sumAt xs (diagL n f n) o c n k = if c < k then xs[o + c]?.getD 0 * 2 ^ f else 0
  | 0, _ => by simp [sumAt]
  | k + 1, hk => by
    rw [sumAt, sum_diag xs n f o c hc k (by omega), diagL_get n f c k hc (by omega)]
    by_cases h : k = c
    · subst h
      rw [if_neg (by omega), if_pos rfl, if_pos (by omega)]
      simp
    · rw [if_neg h]
      by_cases h2 : c < k
      · rw [if_pos h2, if_pos (by omega)]; simp
      · rw [if_neg h2, if_neg (by omega)]; simp
theorem roundI_mul (y p : Int) (hp : 1 ≤ p) : roundI (y * p) p = y := by
  have ep : absI p = p := by unfold absI; rw [if_neg (by omega)]
  have ea : absI (y * p) = absI y * p := by
    unfold absI
    by_cases h : y < 0
    · rw [if_pos h, if_pos (Int.mul_neg_of_neg_of_pos h (by omega)), Int.neg_mul]
    · rw [if_neg h, if_neg]
      have := Int.mul_nonneg (show 0 ≤ y by omega) (show 0 ≤ p by omega)
      omega
  have e1 : absI y * p / p = absI y := Int.mul_ediv_cancel _ (by omega)
  have e2 : absI y * p % p = 0 := Int.mul_emod_left _ _
  have eu : upR (absI y) 0 p = false := by
    unfold upR
    simp
    omega
  unfold roundI
  rw [ea, ep, e1, e2, eu]
  have hp0 : decide (p < 0) = false := by simp; omega
  rw [hp0]
  by_cases h : y < 0
  · have : y * p < 0 := Int.mul_neg_of_neg_of_pos h (by omega)
    rw [decide_eq_true this]
    simp [absI, h]
  · have : ¬ y * p < 0 := by
      have := Int.mul_nonneg (show 0 ≤ y by omega) (show 0 ≤ p by omega)
      omega
    rw [decide_eq_false this]
    simp [absI, h]
theorem diag_ten {n f : Nat} (h1 : 1 ≤ n) (hn : n ≤ 40) (hf : f ≤ 32) : tenB [(n : Int), (n : Int)] (diagL n f n) = true := by
  have hnn : n * n ≤ 40 * 40 := Nat.mul_le_mul hn hn
  refine ten2_iff.2 ⟨⟨⟨h1, by omega⟩, ⟨h1, by omega⟩, by omega⟩, diagL_len _ _ _, ?_⟩
  intro y hy
  obtain ⟨q, _, rfl⟩ := List.mem_map.1 hy
  have hp : (1 : Int) ≤ 2 ^ f := pow2_pos f
  have hp2 : (2 : Int) ^ f ≤ 4294967296 := by
    have := Nat.pow_le_pow_right (show 0 < 2 by decide) hf
    rw [← castPow]
    omega
  split
  · exact isW_iff.2 ⟨by omega, by omega⟩
  · decide
theorem mul_diag {R n f : Nat} {ysA : List Int} (ht : tenB [(R : Int), (n : Int)] ysA = true) :
    mulE [(R : Int), (n : Int)] ysA [(n : Int), (n : Int)] (diagL n f n) f = 0 ∧ mulX [(R : Int), (n : Int)] ysA [(n : Int), (n : Int)] (diagL n f n) f = [(R : Int), (n : Int)] ∧ mulY [(R : Int), (n : Int)] ysA [(n : Int), (n : Int)] (diagL n f n) f = ysA := by
  obtain ⟨hg, hl, hw⟩ := ten2_iff.1 ht
  have hn : 1 ≤ n := hg.2.1.1
  have hG : ∀ j, j < R * n → mulG ysA (diagL n f n) R n n true f j = ysA[j]?.getD 0 := by
    intro j hj
    have hm : j % n < n := Nat.mod_lt _ hn
    rw [mulG2 _ _ _ _ _ _ _ hn hj, sum_diag _ _ _ _ _ hm n (Nat.le_refl _), if_pos hm]
    have e : j / n * n + j % n = j := by rw [Nat.mul_comm]; exact Nat.div_add_mod j n
    rw [e]
    exact roundI_mul _ _ (pow2_pos f)
  have h0 : mulE [(R : Int), (n : Int)] ysA [(n : Int), (n : Int)] (diagL n f n) f = 0 := by
    refine (mul2_iff _ _ _ _ _ _ _).2 ⟨rfl, good2_iff.2 hg, ?_⟩
    intro j hj
    rw [hG j hj, List.getElem?_eq_getElem (by omega)]
    exact hw _ (List.getElem_mem _)
  obtain ⟨h1, h2⟩ := mulY2 h0
  refine ⟨h0, h2, ?_⟩
  rw [h1]
  apply List.ext_getElem
  · simp [hl]
  · intro i a b
    simp only [List.getElem_map, List.getElem_range]
    rw [hG i (by rw [← hl]; exact b), List.getElem?_eq_getElem b]
    rfl

/-! Turned -/
theorem turnL2 (R C : Nat) (ys : List Int) (hl : ys.length = R * C) (k : Nat) (hk : k < R * C) : (turnL [(R : Int), (C : Int)] ys)[k]?.getD 0 = ys[k % R * C + k / R]?.getD 0 := by
  unfold turnL
  rw [List.getElem?_map, List.getElem?_range (by omega)]
  simp only [Option.map_some, Option.getD_some]
  have e : turnI R C k = k % R * C + k / R := by
    unfold turnI
    rw [Nat.div_eq_of_lt hk, Nat.mod_eq_of_lt hk]
    omega
  simp [e]
theorem swap2 (R C : Nat) : swapL [(R : Int), (C : Int)] = [(C : Int), (R : Int)] := by simp [swapL]
theorem div_rc (r c C : Nat) (hc : c < C) : (r * C + c) / C = r ∧ (r * C + c) % C = c := by
  constructor
  · rw [Nat.add_comm, Nat.mul_comm, Nat.add_mul_div_left _ _ (by omega), Nat.div_eq_of_lt hc]; omega
  · rw [Nat.add_comm, Nat.mul_comm, Nat.add_mul_mod_self_left, Nat.mod_eq_of_lt hc]
theorem rc_lt (r c R C : Nat) (hr : r < R) (hc : c < C) : r * C + c < R * C := by
  have : (r + 1) * C ≤ R * C := Nat.mul_le_mul hr (Nat.le_refl _)
  rw [Nat.add_mul, Nat.one_mul] at this
  omega
theorem mulG_turn {R I C f : Nat} {ysA ysB : List Int} (tA : tenB [(R : Int), (I : Int)] ysA = true) (tB : tenB [(I : Int), (C : Int)] ysB = true) (r c : Nat) (hr : r < R) (hc : c < C) :
    mulG (turnL [(I : Int), (C : Int)] ysB) (turnL [(R : Int), (I : Int)] ysA) C I R true f (c * R + r) = mulG ysA ysB R I C true f (r * C + c) := by
  obtain ⟨gA, lA, _⟩ := ten2_iff.1 tA
  obtain ⟨gB, lB, _⟩ := ten2_iff.1 tB
  have e1 := div_rc c r R hr
  have e2 := div_rc r c C hc
  rw [mulG2 _ _ _ _ _ _ _ gA.1.1 (rc_lt c r C R hc hr), mulG2 _ _ _ _ _ _ _ gB.2.1.1 (rc_lt r c R C hr hc), e1.1, e1.2, e2.1, e2.2]
  congr 1
  refine sumAt_congr _ _ _ _ _ _ _ _ _ _ I ?_ I (Nat.le_refl _)
  intro j hj
  have h1 := div_rc c j I hj
  have h2 := div_rc j r R hr
  rw [turnL2 I C ysB lB (c * I + j) (by rw [Nat.mul_comm I C]; exact rc_lt c j C I hc hj), h1.1, h1.2]
  rw [Nat.add_comm r (j * R), turnL2 R I ysA lA (j * R + r) (by rw [Nat.mul_comm R I]; exact rc_lt j r I R hj hr), h2.1, h2.2]
  rw [Int.mul_comm, Nat.add_comm c (j * C)]
theorem mul_turned {R I C f : Nat} {ysA ysB : List Int} (tA : tenB [(R : Int), (I : Int)] ysA = true) (tB : tenB [(I : Int), (C : Int)] ysB = true) (h : mulE [(R : Int), (I : Int)] ysA [(I : Int), (C : Int)] ysB f = 0) :
    mulE [(C : Int), (I : Int)] (turnL [(I : Int), (C : Int)] ysB) [(I : Int), (R : Int)] (turnL [(R : Int), (I : Int)] ysA) f = 0 ∧
    mulX [(C : Int), (I : Int)] (turnL [(I : Int), (C : Int)] ysB) [(I : Int), (R : Int)] (turnL [(R : Int), (I : Int)] ysA) f = [(C : Int), (R : Int)] ∧
    mulY [(C : Int), (I : Int)] (turnL [(I : Int), (C : Int)] ysB) [(I : Int), (R : Int)] (turnL [(R : Int), (I : Int)] ysA) f = turnL [(R : Int), (C : Int)] (mulY [(R : Int), (I : Int)] ysA [(I : Int), (C : Int)] ysB f) := by
  obtain ⟨gA, lA, _⟩ := ten2_iff.1 tA
  obtain ⟨gB, lB, _⟩ := ten2_iff.1 tB
  obtain ⟨_, hg, hw⟩ := (mul2_iff _ _ _ _ _ _ _).1 h
  have hg2 := good2_iff.1 hg
  have hG : ∀ j, j < C * R → mulG (turnL [(I : Int), (C : Int)] ysB) (turnL [(R : Int), (I : Int)] ysA) C I R true f j = mulG ysA ysB R I C true f (j % R * C + j / R) ∧ j % R * C + j / R < R * C := by
    intro j hj
    have hr : j % R < R := Nat.mod_lt _ gA.1.1
    have hc : j / R < C := Nat.div_lt_of_lt_mul (by rw [Nat.mul_comm]; exact hj)
    have e : j / R * R + j % R = j := by rw [Nat.mul_comm]; exact Nat.div_add_mod j R
    have := mulG_turn (f := f) tA tB (j % R) (j / R) hr hc
    rw [e] at this
    exact ⟨this, rc_lt _ _ _ _ hr hc⟩
  have h0 : mulE [(C : Int), (I : Int)] (turnL [(I : Int), (C : Int)] ysB) [(I : Int), (R : Int)] (turnL [(R : Int), (I : Int)] ysA) f = 0 := by
    refine (mul2_iff _ _ _ _ _ _ _).2 ⟨rfl, good2_iff.2 ⟨hg2.2.1, hg2.1, by rw [Nat.mul_comm]; exact hg2.2.2⟩, ?_⟩
    intro j hj
    obtain ⟨h1, h2⟩ := hG j hj
    rw [h1]
    exact hw _ h2
  obtain ⟨h1, h2⟩ := mulY2 h0
  obtain ⟨h3, h4⟩ := mulY2 h
  refine ⟨h0, h2, ?_⟩
  have hl : (mulY [(R : Int), (I : Int)] ysA [(I : Int), (C : Int)] ysB f).length = R * C := by rw [h3]; simp
  have hl2 : (turnL [(R : Int), (C : Int)] (mulY [(R : Int), (I : Int)] ysA [(I : Int), (C : Int)] ysB f)).length = R * C := by simp [turnL, hl]
  apply List.ext_getElem
  · rw [h1, hl2]; simp [Nat.mul_comm]
  · intro i a b
    have hi : i < C * R := by rw [h1] at a; simpa using a
    have := turnL2 R C _ hl i (by rw [Nat.mul_comm]; exact hi)
    rw [List.getElem?_eq_getElem b] at this
    simp only [Option.getD_some] at this
    rw [this]
    obtain ⟨h5, h6⟩ := hG i hi
    have e : (mulY [(C : Int), (I : Int)] (turnL [(I : Int), (C : Int)] ysB) [(I : Int), (R : Int)] (turnL [(R : Int), (I : Int)] ysA) f)[i] = mulG (turnL [(I : Int), (C : Int)] ysB) (turnL [(R : Int), (I : Int)] ysA) C I R true f i := by
      simp only [h1, List.getElem_map, List.getElem_range]
    rw [e, h5, h3, List.getElem?_map, List.getElem?_range h6]
    rfl

/-! Row by row -/
theorem mul_row {R I C f r : Nat} {ysA ysB : List Int} (tA : tenB [(R : Int), (I : Int)] ysA = true) (tB : tenB [(I : Int), (C : Int)] ysB = true) (h : mulE [(R : Int), (I : Int)] ysA [(I : Int), (C : Int)] ysB f = 0) (hr : r < R) :
    tenB [((1 : Nat) : Int), (I : Int)] ((ysA.drop (r * I)).take I) = true ∧ mulE [((1 : Nat) : Int), (I : Int)] ((ysA.drop (r * I)).take I) [(I : Int), (C : Int)] ysB f = 0 ∧ mulY [((1 : Nat) : Int), (I : Int)] ((ysA.drop (r * I)).take I) [(I : Int), (C : Int)] ysB f = ((mulY [(R : Int), (I : Int)] ysA [(I : Int), (C : Int)] ysB f).drop (r * C)).take C := by
  obtain ⟨gA, lA, wA⟩ := ten2_iff.1 tA
  obtain ⟨gB, lB, _⟩ := ten2_iff.1 tB
  obtain ⟨_, hg, hw⟩ := (mul2_iff _ _ _ _ _ _ _).1 h
  have hg2 := good2_iff.1 hg
  have hle : r * I + I ≤ R * I := by
    have : (r + 1) * I ≤ R * I := Nat.mul_le_mul hr (Nat.le_refl _)
    rwa [Nat.add_mul, Nat.one_mul] at this
  have hlc : r * C + C ≤ R * C := by
    have : (r + 1) * C ≤ R * C := Nat.mul_le_mul hr (Nat.le_refl _)
    rwa [Nat.add_mul, Nat.one_mul] at this
  have hI1 := gA.2.1.1
  have hC1 := gB.2.1.1
  have hG : ∀ j, j < C → mulG ((ysA.drop (r * I)).take I) ysB 1 I C true f j = mulG ysA ysB R I C true f (r * C + j) := by
    intro j hj
    have e2 := div_rc r j C hj
    rw [mulG2 _ _ _ _ _ _ _ hC1 (by omega), mulG2 _ _ _ _ _ _ _ hC1 (by omega), e2.1, e2.2, Nat.div_eq_of_lt hj, Nat.mod_eq_of_lt hj, Nat.zero_mul]
    congr 1
    refine sumAt_congr _ _ _ _ _ _ _ _ _ _ I ?_ I (Nat.le_refl _)
    intro i hi
    rw [take_drop_get _ _ _ _ (by omega)]
    simp
  have h0 : mulE [((1 : Nat) : Int), (I : Int)] ((ysA.drop (r * I)).take I) [(I : Int), (C : Int)] ysB f = 0 := by
    refine (mul2_iff _ _ _ _ _ _ _).2 ⟨rfl, good2_iff.2 ⟨⟨by omega, by omega⟩, hg2.2.1, by omega⟩, ?_⟩
    intro j hj
    rw [hG j (by omega)]
    exact hw _ (by omega)
  obtain ⟨h1, _⟩ := mulY2 h0
  obtain ⟨h3, _⟩ := mulY2 h
  refine ⟨ten2_iff.2 ⟨⟨⟨by omega, by omega⟩, gA.2.1, by omega⟩, ?_, ?_⟩, h0, ?_⟩
  · simp; omega
  · intro y hy; exact wA y (List.mem_of_mem_drop (List.mem_of_mem_take hy))
  · rw [h1, h3]
    apply List.ext_getElem
    · simp; omega
    · intro i a b
      have hi : i < C := by simpa using a
      simp only [List.getElem_map, List.getElem_range, List.getElem_take, List.getElem_drop]
      exact hG i hi
end Go.Proofs.Ytjjgmdnmhfoacaa
