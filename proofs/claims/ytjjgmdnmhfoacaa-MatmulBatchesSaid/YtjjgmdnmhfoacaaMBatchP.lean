/- A batch of matrices is each of them alone, in plain numbers. No walk. -/
import Derived.Test.YtjjgmdnmhfoacaaMTurnsP
set_option linter.unusedVariables false
set_option linter.unusedSimpArgs false
namespace Go.Proofs.Ytjjgmdnmhfoacaa
open Go.RowKit Go.Rt

theorem list3 {xs : List Int} (h : xs.length = 3) (hg : goodB xs = true) : ∃ P R C : Nat, xs = [(P : Int), (R : Int), (C : Int)] := by
  match xs, h with
  | [a, b, c], _ =>
    have d := goodB_dims hg
    have ha := d a (by simp)
    have hb := d b (by simp)
    have hc := d c (by simp)
    exact ⟨a.toNat, b.toNat, c.toNat, by rw [Int.toNat_of_nonneg (by omega), Int.toNat_of_nonneg (by omega), Int.toNat_of_nonneg (by omega)]⟩
theorem prod3 (P R C : Nat) : prodI [(P : Int), (R : Int), (C : Int)] = ((P * (R * C) : Nat) : Int) := by simp [prodI]
theorem good3_iff {P R C : Nat} : goodB [(P : Int), (R : Int), (C : Int)] = true ↔ (1 ≤ P ∧ P ≤ 4096) ∧ (1 ≤ R ∧ R ≤ 4096) ∧ (1 ≤ C ∧ C ≤ 4096) ∧ P * (R * C) ≤ 65536 := by
  rw [goodB_iff, prod3]
  constructor
  · rintro ⟨_, h, h2⟩
    have a := h P (by simp)
    have b := h R (by simp)
    have c := h C (by simp)
    omega
  · rintro ⟨h1, h2, h3, h4⟩
    refine ⟨by simp, ?_, by omega⟩
    intro d hd
    simp at hd
    rcases hd with rfl | rfl | rfl <;> omega
theorem ten3_iff {P R C : Nat} {ys : List Int} : tenB [(P : Int), (R : Int), (C : Int)] ys = true ↔ ((1 ≤ P ∧ P ≤ 4096) ∧ (1 ≤ R ∧ R ≤ 4096) ∧ (1 ≤ C ∧ C ≤ 4096) ∧ P * (R * C) ≤ 65536) ∧ ys.length = P * (R * C) ∧ ∀ y ∈ ys, isW y = true := by
  rw [tenB_iff, good3_iff, prod3]
  constructor
  · rintro ⟨a, b, c⟩; exact ⟨a, by omega, c⟩
  · rintro ⟨a, b, c⟩; exact ⟨a, by omega, c⟩

/-- Block k of a row of blocks of n words. -/
def blk (ys : List Int) (k n : Nat) : List Int := (ys.drop (k * n)).take n
theorem blk_le {P n k : Nat} (hk : k < P) : k * n + n ≤ P * n := by
  have : (k + 1) * n ≤ P * n := Nat.mul_le_mul hk (Nat.le_refl _)
  rw [Nat.add_mul, Nat.one_mul] at this
  exact this
theorem blk_len {ys : List Int} {P n k : Nat} (hl : ys.length = P * n) (hk : k < P) : (blk ys k n).length = n := by
  have := blk_le (n := n) hk
  simp [blk]
  omega
theorem blk_get (ys : List Int) (k n j : Nat) (hj : j < n) : (blk ys k n)[j]?.getD 0 = ys[k * n + j]?.getD 0 := take_drop_get _ _ _ _ hj
theorem blk_mem {ys : List Int} {k n : Nat} {p : Int → Prop} (h : ∀ y ∈ ys, p y) : ∀ y ∈ blk ys k n, p y := fun y hy => h y (List.mem_of_mem_drop (List.mem_of_mem_take hy))
theorem blk_ten {P R C k : Nat} {ys : List Int} (t : tenB [(P : Int), (R : Int), (C : Int)] ys = true) (hk : k < P) : tenB [(R : Int), (C : Int)] (blk ys k (R * C)) = true := by
  obtain ⟨⟨_, hR, hC, hb⟩, hl, hw⟩ := ten3_iff.1 t
  refine ten2_iff.2 ⟨⟨hR, hC, ?_⟩, blk_len hl hk, blk_mem hw⟩
  have : R * C ≤ P * (R * C) := Nat.le_mul_of_pos_left _ (by omega)
  omega

theorem sum_blk (ysA ysB ysB' : List Int) (R I C k b i : Nat) (hC : 1 ≤ C) (hi : i < R * C) (hB : ∀ j, j < I → ysB'[i % C + j * C]?.getD 0 = ysB[b + i % C + j * C]?.getD 0) :
    sumAt (blk ysA k (R * I)) ysB' (i / C * I) (i % C) C I = sumAt ysA ysB ((k * R + i / C) * I) (b + i % C) C I := by
  refine sumAt_congr _ _ _ _ _ _ _ _ _ _ I ?_ I (Nat.le_refl _)
  intro j hj
  have hq : i / C < R := Nat.div_lt_of_lt_mul (by rw [Nat.mul_comm]; exact hi)
  have h1 := rc_lt (i / C) j R I hq hj
  rw [blk_get _ _ _ _ h1, hB j hj, Nat.add_mul, Nat.mul_assoc, ← Nat.add_assoc]

/-- One matrix for all. -/
theorem mulG_blk1 (ysA ysB : List Int) (R I C f k i : Nat) (hC : 1 ≤ C) (hi : i < R * C) (hR : 1 ≤ R) : mulG ysA ysB R I C false f (k * (R * C) + i) = mulG (blk ysA k (R * I)) ysB R I C true f i := by
  rw [mulG2 _ _ _ _ _ _ _ hC hi]
  obtain ⟨e1, e2, e3⟩ := place_div k R C i hC hi hR
  unfold mulG
  rw [e1, e3, if_neg (by decide), sum_blk ysA ysB ysB R I C k 0 i hC hi (fun j _ => by rw [Nat.zero_add]), Nat.zero_mul, Nat.zero_add]
/-- One matrix each. -/
theorem mulG_blk2 (ysA ysB : List Int) (R I C f k i : Nat) (hC : 1 ≤ C) (hi : i < R * C) (hR : 1 ≤ R) : mulG ysA ysB R I C true f (k * (R * C) + i) = mulG (blk ysA k (R * I)) (blk ysB k (I * C)) R I C true f i := by
  rw [mulG2 _ _ _ _ _ _ _ hC hi]
  obtain ⟨e1, e2, e3⟩ := place_div k R C i hC hi hR
  unfold mulG
  rw [e1, e2, e3, if_pos rfl, sum_blk ysA ysB (blk ysB k (I * C)) R I C k (k * (I * C)) i hC hi]
  intro j hj
  have hm : i % C < C := Nat.mod_lt _ hC
  have h1 := rc_lt j (i % C) I C hj hm
  rw [blk_get _ _ _ _ (by omega), Nat.add_assoc]

theorem outL_3 (P R I J C : Nat) (l : List Int) (hl : l = [(J : Int), (C : Int)] ∨ ∃ Q : Nat, l = [(Q : Int), (J : Int), (C : Int)]) : outL [(P : Int), (R : Int), (I : Int)] l = [(P : Int), (R : Int), (C : Int)] := by
  rcases hl with rfl | ⟨Q, rfl⟩ <;> simp [outL]

theorem map_blk (G G' : Nat → Int) (N k n : Nat) (hk : k * n + n ≤ N) (h : ∀ i, i < n → G (k * n + i) = G' i) : (((List.range N).map G).drop (k * n)).take n = (List.range n).map G' := by
  apply List.ext_getElem
  · simp; omega
  · intro i h1 h2
    have hi : i < n := by simpa using h2
    simp only [List.getElem_take, List.getElem_drop, List.getElem_map, List.getElem_range]
    exact h i hi

/-- What a batch of matrices is, block by block. -/
structure BatchF (xsA ysA xsB ysB YP : List Int) (f P R I C : Nat) : Prop where
  p1 : 1 ≤ P ∧ P ≤ 4096
  r1 : 1 ≤ R ∧ R ≤ 4096
  i1 : 1 ≤ I ∧ I ≤ 4096
  c1 : 1 ≤ C ∧ C ≤ 4096
  bT : P * (R * C) ≤ 65536
  lA : ysA.length = P * (R * I)
  oL : outL xsA xsB = [(P : Int), (R : Int), (C : Int)]
  oE : outE xsA xsB = 0
  eY : YP.length = P * (R * C)
  iY : ∀ y ∈ YP, isW y = true
  tA : ∀ k, k < P → tenB [(R : Int), (I : Int)] (blk ysA k (R * I)) = true
  two : xsB.length = 2 → ∀ k, k < P → mulE [(R : Int), (I : Int)] (blk ysA k (R * I)) xsB ysB f = 0 ∧ mulY [(R : Int), (I : Int)] (blk ysA k (R * I)) xsB ysB f = blk YP k (R * C)
  three : xsB.length = 3 → xsB = [(P : Int), (I : Int), (C : Int)] ∧ ysB.length = P * (I * C) ∧ ∀ k, k < P → tenB [(I : Int), (C : Int)] (blk ysB k (I * C)) = true ∧
    mulE [(R : Int), (I : Int)] (blk ysA k (R * I)) [(I : Int), (C : Int)] (blk ysB k (I * C)) f = 0 ∧ mulY [(R : Int), (I : Int)] (blk ysA k (R * I)) [(I : Int), (C : Int)] (blk ysB k (I * C)) f = blk YP k (R * C)
  len : xsB.length = 2 ∨ xsB.length = 3

theorem batch_facts {xsA ysA xsB ysB : List Int} {f P R I : Nat} (hxA : xsA = [(P : Int), (R : Int), (I : Int)]) (tA : tenB xsA ysA = true) (tB : tenB xsB ysB = true) (h : mulE xsA ysA xsB ysB f = 0) : ∃ C, BatchF xsA ysA xsB ysB (mulY xsA ysA xsB ysB f) f P R I C := by
  subst hxA
  obtain ⟨gA, lA, wA⟩ := ten3_iff.1 tA
  obtain ⟨hz, hw⟩ := mulE_zero h
  have hgo := outE_good hz
  have hfit : fitsB [(P : Int), (R : Int), (I : Int)] xsB = true := by
    cases hf : fitsB [(P : Int), (R : Int), (I : Int)] xsB with
    | true => rfl
    | false => unfold outE at hz; rw [hf] at hz; simp at hz
  have hlen : xsB.length = 2 ∨ xsB.length = 3 := by
    unfold fitsB at hfit
    simp only [Bool.and_eq_true, Bool.or_eq_true, decide_eq_true_eq] at hfit
    exact hfit.2.1
  have gB := (tenB_iff.1 tB).1
  have hmid : xsB[xsB.length - 2]?.getD 0 = (I : Int) := by
    unfold fitsB at hfit
    simp only [Bool.and_eq_true, Bool.or_eq_true, decide_eq_true_eq] at hfit
    exact hfit.2.2.1.symm
  rcases hlen with h2 | h3
  · obtain ⟨J, C, rfl⟩ := list2 h2 gB
    have hJ : J = I := by simp at hmid; omega
    subst hJ
    have oL := outL_3 P R J J C _ (.inl rfl)
    rw [oL] at hgo
    have g3 := good3_iff.1 hgo
    have eN : mulN [(P : Int), (R : Int), (J : Int)] [(J : Int), (C : Int)] = P * (R * C) := by unfold mulN; rw [oL, prod3]; exact Int.toNat_natCast _
    have eW : mulW [(P : Int), (R : Int), (J : Int)] ysA [(J : Int), (C : Int)] ysB f = mulG ysA ysB R J C false f := by unfold mulW; simp
    have eYY : mulY [(P : Int), (R : Int), (J : Int)] ysA [(J : Int), (C : Int)] ysB f = (List.range (P * (R * C))).map (mulG ysA ysB R J C false f) := by unfold mulY; rw [if_pos h, eN, eW]
    rw [eN, eW] at hw
    have hRC : R * C ≤ P * (R * C) := Nat.le_mul_of_pos_left _ (by omega)
    refine ⟨C, gA.1, gA.2.1, gA.2.2.1, g3.2.2.1, g3.2.2.2, lA, oL, hz, by rw [eYY]; simp, mulY_isW _ _ _ _ _, fun k hk => blk_ten tA hk, ?_, fun h3 => by simp at h3, .inl rfl⟩
    intro _ k hk
    have hkk := blk_le (n := R * C) hk
    have hG : ∀ i, i < R * C → mulG ysA ysB R J C false f (k * (R * C) + i) = mulG (blk ysA k (R * J)) ysB R J C true f i := fun i hi => mulG_blk1 ysA ysB R J C f k i g3.2.2.1.1 hi g3.2.1.1
    have hE : mulE [(R : Int), (J : Int)] (blk ysA k (R * J)) [(J : Int), (C : Int)] ysB f = 0 := by
      refine (mul2_iff _ _ _ _ _ _ _).2 ⟨rfl, good2_iff.2 ⟨g3.2.1, g3.2.2.1, by omega⟩, ?_⟩
      intro i hi
      rw [← hG i hi]
      exact hw _ (by omega)
    refine ⟨hE, ?_⟩
    rw [(mulY2 hE).1, eYY]
    exact (map_blk _ _ _ k (R * C) hkk hG).symm
  · obtain ⟨Q, J, C, rfl⟩ := list3 h3 gB
    have hJ : J = I := by simp at hmid; omega
    subst hJ
    have hQ : Q = P := by
      unfold fitsB at hfit
      simp at hfit
      omega
    subst hQ
    have oL := outL_3 Q R J J C _ (.inr ⟨Q, rfl⟩)
    rw [oL] at hgo
    have g3 := good3_iff.1 hgo
    obtain ⟨gB3, lB, wB⟩ := ten3_iff.1 tB
    have eN : mulN [(Q : Int), (R : Int), (J : Int)] [(Q : Int), (J : Int), (C : Int)] = Q * (R * C) := by unfold mulN; rw [oL, prod3]; exact Int.toNat_natCast _
    have eW : mulW [(Q : Int), (R : Int), (J : Int)] ysA [(Q : Int), (J : Int), (C : Int)] ysB f = mulG ysA ysB R J C true f := by unfold mulW; simp
    have eYY : mulY [(Q : Int), (R : Int), (J : Int)] ysA [(Q : Int), (J : Int), (C : Int)] ysB f = (List.range (Q * (R * C))).map (mulG ysA ysB R J C true f) := by unfold mulY; rw [if_pos h, eN, eW]
    rw [eN, eW] at hw
    have hRC : R * C ≤ Q * (R * C) := Nat.le_mul_of_pos_left _ (by omega)
    refine ⟨C, gA.1, gA.2.1, gA.2.2.1, g3.2.2.1, g3.2.2.2, lA, oL, hz, by rw [eYY]; simp, mulY_isW _ _ _ _ _, fun k hk => blk_ten tA hk, fun h2 => by simp at h2, ?_, .inr rfl⟩
    intro _
    refine ⟨rfl, lB, ?_⟩
    intro k hk
    have hkk := blk_le (n := R * C) hk
    have hG : ∀ i, i < R * C → mulG ysA ysB R J C true f (k * (R * C) + i) = mulG (blk ysA k (R * J)) (blk ysB k (J * C)) R J C true f i := fun i hi => mulG_blk2 ysA ysB R J C f k i g3.2.2.1.1 hi g3.2.1.1
    have hE : mulE [(R : Int), (J : Int)] (blk ysA k (R * J)) [(J : Int), (C : Int)] (blk ysB k (J * C)) f = 0 := by
      refine (mul2_iff _ _ _ _ _ _ _).2 ⟨rfl, good2_iff.2 ⟨g3.2.1, g3.2.2.1, by omega⟩, ?_⟩
      intro i hi
      rw [← hG i hi]
      exact hw _ (by omega)
    refine ⟨blk_ten tB hk, hE, ?_⟩
    rw [(mulY2 hE).1, eYY]
    exact (map_blk _ _ _ k (R * C) hkk hG).symm
end Go.Proofs.Ytjjgmdnmhfoacaa
