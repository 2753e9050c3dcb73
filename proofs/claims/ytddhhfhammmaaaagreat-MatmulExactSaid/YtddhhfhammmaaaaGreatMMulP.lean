/- The product of two tensors, in plain numbers: sizes, places, what each word is. No walk. -/
import Derived.Test.YtddhhfhammmaaaaGreatMOut
set_option linter.unusedVariables false
set_option linter.unusedSimpArgs false
namespace Go.Proofs.YtddhhfhammmaaaaGreat
open Go.RowKit Go.Rt

theorem wrap_nat' (q : Nat) (h : q ≤ 9223372036854775807) : RowKit.wrap64 (q : Int) = q := by unfold RowKit.wrap64; omega
/-- The sum of n products: from place o of xs on, one by one; from place p of ys on, st apart. -/
def sumAt (xs ys : List Int) (o p st : Nat) : Nat → Int
  | 0 => 0
  | j + 1 => sumAt xs ys o p st j + xs[o + j]?.getD 0 * ys[p + j * st]?.getD 0

theorem dotK_sumAt (xs ys X Y : List Int) (o p st n : Nat) (hX : ∀ j, j < n → X[j]?.getD 0 = xs[o + j]?.getD 0) (hY : ∀ j, j < n → Y[j * st]?.getD 0 = ys[p + j * st]?.getD 0) :
    ∀ k, k ≤ n → dotK X Y st k = sumAt xs ys o p st k
  | 0, _ => rfl
  | k + 1, h => by
    rw [dotK, sumAt, dotK_sumAt xs ys X Y o p st n hX hY k (by omega), hX k (by omega), hY k (by omega)]

/-- Word j of a product, before it is taken as a word. -/
def mulG (xs ys : List Int) (R I C : Nat) (bt : Bool) (f j : Nat) : Int :=
  shI (sumAt xs ys (j / C * I) ((if bt = true then j / (R * C) else 0) * (I * C) + j % C) C I) f

theorem take_drop_get (l : List Int) (s n i : Nat) (h : i < n) : ((l.drop s).take n)[i]?.getD 0 = l[s + i]?.getD 0 := by
  rw [List.getElem?_take, if_pos h, List.getElem?_drop]

/-- The shapes of a product, by numbers. -/
structure MulShape (xsA ysA xsB ysB : List Int) (P R I C : Nat) : Prop where
  p1 : 1 ≤ P
  r1 : 1 ≤ R
  i1 : 1 ≤ I
  c1 : 1 ≤ C
  lenA : ysA.length = P * (R * I)
  lenT : (prodI (outL xsA xsB)).toNat = P * (R * C)
  lenB : ysB.length = if decide (xsB.length = xsA.length) = true then P * (I * C) else I * C
  bA : P * (R * I) ≤ 65536
  bT : P * (R * C) ≤ 65536
  bB : ysB.length ≤ 65536

theorem last2 (xs : List Int) (h : 2 ≤ xs.length) : xs = xs.take (xs.length - 2) ++ [xs[xs.length - 2], xs[xs.length - 1]] := by
  have h1 := drop_cons xs (xs.length - 2) (by omega)
  have e : xs.length - 2 + 1 = xs.length - 1 := by omega
  rw [e, drop_cons xs (xs.length - 1) (by omega)] at h1
  rw [List.drop_eq_nil_of_le (show xs.length ≤ xs.length - 1 + 1 by omega)] at h1
  conv => lhs; rw [← List.take_append_drop (xs.length - 2) xs, h1]

theorem mulShape_of {xsA ysA xsB ysB : List Int} (tA : tenB xsA ysA = true) (tB : tenB xsB ysB = true) (hz : outE xsA xsB = 0) (h2 : 2 ≤ xsA.length) (h2' : 2 ≤ xsB.length) {R I C : Nat}
    (hR : xsA[xsA.length - 2] = (R : Int)) (hI : xsA[xsA.length - 1] = (I : Int)) (hC : xsB[xsB.length - 1] = (C : Int)) : ∃ P, MulShape xsA ysA xsB ysB P R I C := by
  obtain ⟨gA, lA, _⟩ := tenB_iff.1 tA
  obtain ⟨gB, lB, _⟩ := tenB_iff.1 tB
  have hfit : fitsB xsA xsB = true := by
    cases h : fitsB xsA xsB with
    | true => rfl
    | false => unfold outE at hz; rw [h] at hz; simp at hz
  have hgS : goodB (outL xsA xsB) = true := by
    unfold outE at hz
    rw [hfit, if_pos rfl] at hz
    cases h : goodB (outL xsA xsB) with
    | true => rfl
    | false => rw [h] at hz; simp at hz
  have dA := goodB_dims gA
  have dB := goodB_dims gB
  have pA := goodB_prod gA
  have pB := goodB_prod gB
  have pS := goodB_prod hgS
  have hdR := dA.at (show xsA.length - 2 < xsA.length by omega)
  have hdI := dA.at (show xsA.length - 1 < xsA.length by omega)
  have hdC := dB.at (show xsB.length - 1 < xsB.length by omega)
  have hP := (dA.take (xsA.length - 2)).pos
  have eI : xsB[xsB.length - 2] = (I : Int) := by
    unfold fitsB at hfit
    simp only [Bool.and_eq_true, decide_eq_true_eq] at hfit
    have h := hfit.2.2.1
    rw [List.getElem?_eq_getElem (show xsA.length - 1 < xsA.length by omega), List.getElem?_eq_getElem (show xsB.length - 2 < xsB.length by omega)] at h
    simp only [Option.getD_some] at h
    rw [← h, hI]
  have hl : xsB.length = 2 ∨ xsB.length = xsA.length := by
    unfold fitsB at hfit
    simp only [Bool.and_eq_true, Bool.or_eq_true, decide_eq_true_eq] at hfit
    exact hfit.2.1
  have ht : xsB.length ≠ xsA.length ∨ xsA.take (xsA.length - 2) = xsB.take (xsB.length - 2) := by
    unfold fitsB at hfit
    simp only [Bool.and_eq_true, Bool.or_eq_true, decide_eq_true_eq] at hfit
    exact hfit.2.2.2
  have e1 : prodI xsA = prodI (xsA.take (xsA.length - 2)) * ((R : Int) * I) := by
    conv => lhs; rw [last2 xsA h2, prodI_append, hR, hI]
    simp [prodI]
  have e2 : prodI xsB = prodI (xsB.take (xsB.length - 2)) * ((I : Int) * C) := by
    conv => lhs; rw [last2 xsB h2', prodI_append, eI, hC]
    simp [prodI]
  have e3 : prodI (outL xsA xsB) = prodI (xsA.take (xsA.length - 2)) * ((R : Int) * C) := by
    unfold outL
    have h3 : xsA.take (xsA.length - 1) = xsA.take (xsA.length - 2) ++ [xsA[xsA.length - 2]] := by
      have := take_snoc xsA (xsA.length - 2) (by omega)
      rwa [show xsA.length - 2 + 1 = xsA.length - 1 by omega] at this
    rw [h3, prodI_append, prodI_append, hR, List.getElem?_eq_getElem (show xsB.length - 1 < xsB.length by omega)]
    simp [prodI, hC, Int.mul_assoc]
  obtain ⟨P, hPP⟩ : ∃ P : Nat, prodI (xsA.take (xsA.length - 2)) = (P : Int) := ⟨(prodI (xsA.take (xsA.length - 2))).toNat, by omega⟩
  rw [hPP] at e1 e3 hP
  have c1 : (P : Int) * ((R : Int) * I) = ((P * (R * I) : Nat) : Int) := by simp
  have c3 : (P : Int) * ((R : Int) * C) = ((P * (R * C) : Nat) : Int) := by simp
  rw [c1] at e1
  rw [c3] at e3
  refine ⟨P, by omega, by omega, by omega, by omega, by omega, by omega, ?_, by omega, by omega, by omega⟩
  by_cases hq : xsB.length = xsA.length
  · rw [decide_eq_true hq, if_pos rfl]
    rcases ht with h | h
    · exact absurd hq h
    · rw [← h, hPP] at e2
      have c2 : (P : Int) * ((I : Int) * C) = ((P * (I * C) : Nat) : Int) := by simp
      rw [c2] at e2
      omega
  · rw [decide_eq_false hq, if_neg (by decide)]
    have h4 : xsB.length = 2 := by omega
    rw [h4] at e2
    have c2 : prodI (xsB.take (2 - 2)) * ((I : Int) * C) = ((I * C : Nat) : Int) := by simp [prodI]
    rw [c2] at e2
    omega

/-- The first a words of G, then noughts. -/
def partL (G : Nat → Int) (N a : Nat) : List Int := (List.range N).map fun j => if j < a then G j else 0
theorem partL_len (G : Nat → Int) (N a : Nat) : (partL G N a).length = N := by simp [partL]
theorem partL_zero (G : Nat → Int) (N : Nat) : partL G N 0 = List.replicate N 0 := by
  apply List.ext_getElem
  · simp [partL]
  · intro i h1 h2
    simp [partL]
theorem partL_full (G : Nat → Int) (N : Nat) : partL G N N = (List.range N).map G := by
  apply List.ext_getElem
  · simp [partL]
  · intro i h1 h2
    simp [partL] at h1 ⊢
    omega
theorem partL_set (G : Nat → Int) (N a : Nat) : (partL G N a).set a (G a) = partL G N (a + 1) := by
  apply List.ext_getElem
  · simp [partL]
  · intro i h1 h2
    rw [List.getElem_set]
    simp [partL] at h1 ⊢
    by_cases h : a = i
    · subst h
      simp
    · rw [if_neg h]
      by_cases h3 : i < a
      · rw [if_pos h3, if_pos (by omega)]
      · rw [if_neg h3, if_neg (by omega)]

/-- Places, in a block's row and column. -/
theorem place_div (k R C i : Nat) (hC : 1 ≤ C) (h : i < R * C) (hR : 1 ≤ R) :
    (k * (R * C) + i) / C = k * R + i / C ∧ (k * (R * C) + i) / (R * C) = k ∧ (k * (R * C) + i) % C = i % C := by
  have e : k * (R * C) + i = i + C * (k * R) := by rw [Nat.mul_comm C, Nat.mul_assoc]; omega
  refine ⟨?_, ?_, ?_⟩
  · rw [e, Nat.add_mul_div_left _ _ (by omega)]; omega
  · rw [Nat.add_comm, Nat.mul_comm k, Nat.add_mul_div_left _ _ (by omega), Nat.div_eq_of_lt h]; omega
  · rw [e, Nat.add_mul_mod_self_left]

/-- Numbers of block k of a product. -/
theorem mul_block {xsA ysA xsB ysB : List Int} {P R I C k : Nat} (h : MulShape xsA ysA xsB ysB P R I C) (hk : k < P) :
    ∃ kR kRI k1R k1RI RI : Nat, Hid (kRI = k * (R * I) ∧ RI = R * I) ∧ k1RI = kRI + RI ∧ 1 ≤ RI ∧ RI ≤ 65536 ∧ k1RI ≤ ysA.length ∧
      RowKit.wrap64 ((k : Int) * R) = (kR : Int) ∧ RowKit.wrap64 ((kR : Int) * I) = (kRI : Int) ∧ RowKit.wrap64 (((k : Int) + 1) * R) = (k1R : Int) ∧ RowKit.wrap64 ((k1R : Int) * I) = (k1RI : Int) := by
  obtain ⟨hP, hR, hI, hC, lA, _, _, bA, _, _⟩ := h
  have e1 : (k + 1) * (R * I) ≤ P * (R * I) := Nat.mul_le_mul (by omega) (Nat.le_refl _)
  have e2 : (k + 1) * (R * I) = k * (R * I) + R * I := by rw [Nat.add_mul, Nat.one_mul]
  have e3 : 1 ≤ R * I := Nat.mul_le_mul hR hI
  have e4 : (k + 1) * R ≤ (k + 1) * (R * I) := by rw [← Nat.mul_assoc]; exact Nat.le_mul_of_pos_right _ hI
  have e5 : k * R ≤ (k + 1) * R := Nat.mul_le_mul (by omega) (Nat.le_refl _)
  have a1 : (k : Int) * R = ((k * R : Nat) : Int) := by simp
  have a2 : ((k * R : Nat) : Int) * I = ((k * (R * I) : Nat) : Int) := by simp [Int.mul_assoc]
  have a3 : ((k : Int) + 1) * R = (((k + 1) * R : Nat) : Int) := by simp
  have a4 : (((k + 1) * R : Nat) : Int) * I = (((k + 1) * (R * I) : Nat) : Int) := by simp [Int.mul_assoc]
  refine ⟨k * R, k * (R * I), (k + 1) * R, (k + 1) * (R * I), R * I, Lib.hid ⟨rfl, rfl⟩, e2, e3, ?_, by omega, ?_, ?_, ?_, ?_⟩
  · generalize P * (R * I) = q1 at *; generalize k * (R * I) = q2 at *; generalize (k + 1) * (R * I) = q3 at *; omega
  · rw [a1]; refine wrap_nat' _ ?_; generalize P * (R * I) = q1 at *; generalize (k + 1) * (R * I) = q3 at *; generalize (k + 1) * R = q4 at *; generalize k * R = q5 at *; omega
  · rw [a2]; refine wrap_nat' _ ?_; generalize P * (R * I) = q1 at *; generalize k * (R * I) = q2 at *; generalize (k + 1) * (R * I) = q3 at *; omega
  · rw [a3]; refine wrap_nat' _ ?_; generalize P * (R * I) = q1 at *; generalize (k + 1) * (R * I) = q3 at *; generalize (k + 1) * R = q4 at *; omega
  · rw [a4]; refine wrap_nat' _ ?_; generalize P * (R * I) = q1 at *; generalize (k + 1) * (R * I) = q3 at *; omega

theorem mul_rc {xsA ysA xsB ysB : List Int} {P R I C : Nat} (h : MulShape xsA ysA xsB ysB P R I C) : ∃ RC : Nat, Hid (RC = R * C) ∧ 1 ≤ RC ∧ RC ≤ 65536 ∧ RowKit.wrap64 ((R : Int) * C) = (RC : Int) := by
  obtain ⟨hP, hR, hI, hC, _, _, _, _, bT, _⟩ := h
  have e1 : R * C ≤ P * (R * C) := Nat.le_mul_of_pos_left _ hP
  have a1 : (R : Int) * C = ((R * C : Nat) : Int) := by simp
  refine ⟨R * C, Lib.hid rfl, Nat.mul_le_mul hR hC, Nat.le_trans e1 bT, ?_⟩
  rw [a1]; refine wrap_nat' _ (Nat.le_trans (Nat.le_trans e1 bT) (by decide))

theorem mul_blockB {xsA ysA xsB ysB : List Int} {P R I C k : Nat} (h : MulShape xsA ysA xsB ysB P R I C) (hk : k < P) (hb : xsB.length = xsA.length) :
    ∃ kI kIC k1I k1IC IC : Nat, Hid (kIC = k * (I * C) ∧ IC = I * C) ∧ k1IC = kIC + IC ∧ 1 ≤ IC ∧ IC ≤ 65536 ∧ k1IC ≤ ysB.length ∧
      RowKit.wrap64 ((k : Int) * I) = (kI : Int) ∧ RowKit.wrap64 ((kI : Int) * C) = (kIC : Int) ∧ RowKit.wrap64 (((k : Int) + 1) * I) = (k1I : Int) ∧ RowKit.wrap64 ((k1I : Int) * C) = (k1IC : Int) := by
  obtain ⟨hP, hR, hI, hC, _, _, lB, _, _, bB⟩ := h
  rw [decide_eq_true hb, if_pos rfl] at lB
  have bB' : P * (I * C) ≤ 65536 := by omega
  have e1 : (k + 1) * (I * C) ≤ P * (I * C) := Nat.mul_le_mul (by omega) (Nat.le_refl _)
  have e2 : (k + 1) * (I * C) = k * (I * C) + I * C := by rw [Nat.add_mul, Nat.one_mul]
  have e3 : 1 ≤ I * C := Nat.mul_le_mul hI hC
  have e4 : (k + 1) * I ≤ (k + 1) * (I * C) := by rw [← Nat.mul_assoc]; exact Nat.le_mul_of_pos_right _ hC
  have e5 : k * I ≤ (k + 1) * I := Nat.mul_le_mul (by omega) (Nat.le_refl _)
  have a1 : (k : Int) * I = ((k * I : Nat) : Int) := by simp
  have a2 : ((k * I : Nat) : Int) * C = ((k * (I * C) : Nat) : Int) := by simp [Int.mul_assoc]
  have a3 : ((k : Int) + 1) * I = (((k + 1) * I : Nat) : Int) := by simp
  have a4 : (((k + 1) * I : Nat) : Int) * C = (((k + 1) * (I * C) : Nat) : Int) := by simp [Int.mul_assoc]
  refine ⟨k * I, k * (I * C), (k + 1) * I, (k + 1) * (I * C), I * C, Lib.hid ⟨rfl, rfl⟩, e2, e3, ?_, by omega, ?_, ?_, ?_, ?_⟩
  · generalize P * (I * C) = q1 at *; generalize k * (I * C) = q2 at *; generalize (k + 1) * (I * C) = q3 at *; omega
  · rw [a1]; refine wrap_nat' _ ?_; generalize P * (I * C) = q1 at *; generalize (k + 1) * (I * C) = q3 at *; generalize (k + 1) * I = q4 at *; generalize k * I = q5 at *; omega
  · rw [a2]; refine wrap_nat' _ ?_; generalize P * (I * C) = q1 at *; generalize k * (I * C) = q2 at *; generalize (k + 1) * (I * C) = q3 at *; omega
  · rw [a3]; refine wrap_nat' _ ?_; generalize P * (I * C) = q1 at *; generalize (k + 1) * (I * C) = q3 at *; generalize (k + 1) * I = q4 at *; omega
  · rw [a4]; refine wrap_nat' _ ?_; generalize P * (I * C) = q1 at *; generalize (k + 1) * (I * C) = q3 at *; omega

/-- Numbers of place i of a block. -/
theorem mul_cell {xsA ysA xsB ysB : List Int} {P R I C i : Nat} (h : MulShape xsA ysA xsB ysB P R I C) (hi : i < R * C) :
    ∃ q r qI IC : Nat, Hid (q = i / C ∧ r = i % C ∧ qI = i / C * I ∧ IC = I * C) ∧ qI + I ≤ R * I ∧ r < IC ∧ IC ≤ ysB.length ∧ (∀ j, j < I → j * C < IC - r) ∧ I ≤ 65536 ∧ 1 ≤ I ∧
      Int.tdiv (i : Int) (C : Int) = (q : Int) ∧ (i : Int) / (C : Int) = (q : Int) ∧ IntKind.i64.wrap (q : Int) = (q : Int) ∧ IntKind.i64.wrap ((q : Int) * I) = (qI : Int) ∧ Int.tmod (i : Int) (C : Int) = (r : Int) ∧ (i : Int) % (C : Int) = (r : Int) := by
  obtain ⟨hP, hR, hI, hC, lA, lT, lB, bA, bT, bB⟩ := h
  have hq : i / C < R := Nat.div_lt_of_lt_mul (by rw [Nat.mul_comm]; exact hi)
  have hr : i % C < C := Nat.mod_lt _ hC
  have e1 : (i / C + 1) * I ≤ R * I := Nat.mul_le_mul hq (Nat.le_refl _)
  rw [Nat.add_mul, Nat.one_mul] at e1
  have e2 : C ≤ I * C := Nat.le_mul_of_pos_left _ hI
  have e3 : R * I ≤ P * (R * I) := Nat.le_mul_of_pos_left _ hP
  have e4 : I ≤ R * I := Nat.le_mul_of_pos_left _ hR
  have e5 : R * C ≤ P * (R * C) := Nat.le_mul_of_pos_left _ hP
  have e6 : I * C ≤ ysB.length := by
    rw [lB]
    split
    · exact Nat.le_mul_of_pos_left _ hP
    · exact Nat.le_refl _
  have e7 : i / C ≤ i := Nat.div_le_self _ _
  refine ⟨i / C, i % C, i / C * I, I * C, Lib.hid ⟨rfl, rfl, rfl, rfl⟩, e1, by generalize i % C = q1 at *; generalize I * C = q2 at *; omega, e6, ?_, ?_, hI, rfl, rfl, ?_, ?_, rfl, rfl⟩
  · intro j hj
    have h1 : (j + 1) * C ≤ I * C := Nat.mul_le_mul hj (Nat.le_refl _)
    rw [Nat.add_mul, Nat.one_mul] at h1
    generalize i % C = q1 at *; generalize I * C = q2 at *; generalize j * C = q3 at *; omega
  · generalize P * (R * I) = q1 at *; generalize R * I = q2 at *; omega
  · rw [IntWalk.i64_left]; refine wrap_nat' _ ?_; generalize P * (R * C) = q1 at *; generalize R * C = q2 at *; generalize i / C = q3 at *; omega
  · have a1 : ((i / C : Nat) : Int) * I = ((i / C * I : Nat) : Int) := by simp
    rw [a1, IntWalk.i64_left]; refine wrap_nat' _ ?_; generalize P * (R * I) = q1 at *; generalize R * I = q2 at *; generalize i / C * I = q3 at *; omega

/-- Word i of block k. -/
theorem mulG_at {xsA ysA xsB ysB : List Int} {P R I C i k : Nat} (h : MulShape xsA ysA xsB ysB P R I C) (hi : i < R * C) (hk : k < P) (f : Nat) (X Y : List Int) (hX : X = (ysA.drop (k * (R * I) + i / C * I)).take I) (kB : Nat)
    (hkB : kB = if decide (xsB.length = xsA.length) = true then k * (I * C) else 0) (hY : ∀ j, j < I → Y[j * C]?.getD 0 = ysB[kB + i % C + j * C]?.getD 0) :
    shI (dotK X Y C I) f = mulG ysA ysB R I C (decide (xsB.length = xsA.length)) f (k * (R * C) + i) := by
  obtain ⟨hP, hR, hI, hC, lA, lT, lB, bA, bT, bB⟩ := h
  obtain ⟨e1, e2, e3⟩ := place_div k R C i hC hi hR
  unfold mulG
  rw [e1, e2, e3]
  rw [dotK_sumAt ysA ysB X Y ((k * R + i / C) * I) ((if decide (xsB.length = xsA.length) = true then k else 0) * (I * C) + i % C) C I ?_ ?_ I (Nat.le_refl _)]
  · intro j hj
    rw [hX, take_drop_get _ _ _ _ hj, Nat.add_mul, Nat.mul_assoc]
  · intro j hj
    rw [hY j hj, hkB]
    split
    · rfl
    · rw [Nat.zero_mul]

/-- What matmul.Mul hands back: the error, the shape, the words. -/
def mulN (xsA xsB : List Int) : Nat := (prodI (outL xsA xsB)).toNat
def mulW (xsA ysA xsB ysB : List Int) (f : Nat) : Nat → Int :=
  mulG ysA ysB (xsA[xsA.length - 2]?.getD 0).toNat (xsA[xsA.length - 1]?.getD 0).toNat (xsB[xsB.length - 1]?.getD 0).toNat (decide (xsB.length = xsA.length)) f
def mulE (xsA ysA xsB ysB : List Int) (f : Nat) : Int :=
  if outE xsA xsB = 0 then (if ((List.range (mulN xsA xsB)).all fun j => isW (mulW xsA ysA xsB ysB f j)) = true then 0 else 3) else outE xsA xsB
def mulX (xsA ysA xsB ysB : List Int) (f : Nat) : List Int := if mulE xsA ysA xsB ysB f = 0 then outL xsA xsB else []
def mulY (xsA ysA xsB ysB : List Int) (f : Nat) : List Int := if mulE xsA ysA xsB ysB f = 0 then (List.range (mulN xsA xsB)).map (mulW xsA ysA xsB ysB f) else []

/-- A tensor in memory, below block hi. -/
structure Ten (w : World) (hi : Nat) (a : Option Addr) (c : Nat) (b : Option Addr) (d : Nat) (xs ys : List Int) : Prop where
  sh : Ints .i64 w hi a xs
  da : Ints .i64 w hi b ys
  c1 : xs.length ≤ c
  c2 : c ≤ 9223372036854775807
  d1 : ys.length ≤ d
  d2 : d ≤ 9223372036854775807
theorem Ten.below {w w' : World} {hi B : Nat} {a b : Option Addr} {c d : Nat} {xs ys : List Int} (h : Ten w hi a c b d xs ys) (hb : Below B w w') (hB : hi ≤ B) : Ten w' hi a c b d xs ys :=
  ⟨h.sh.below hb hB, h.da.below hb hB, h.c1, h.c2, h.d1, h.d2⟩
theorem Ten.mono {w : World} {hi hi' : Nat} {a b : Option Addr} {c d : Nat} {xs ys : List Int} (h : Ten w hi a c b d xs ys) (hh : hi ≤ hi') : Ten w hi' a c b d xs ys :=
  ⟨h.sh.mono hh, h.da.mono hh, h.c1, h.c2, h.d1, h.d2⟩
theorem Ten.next {w w' : World} {a b : Option Addr} {c d : Nat} {xs ys : List Int} (h : Ten w w.heap.size a c b d xs ys) (hb : Below w.heap.size w w') : Ten w' w'.heap.size a c b d xs ys :=
  (h.below hb (Nat.le_refl _)).mono hb.size

/-- A tensor and an error handed back: the words are a row of the call's own, beyond mid. -/
def RetTen (w : World) (xs ys : List Int) (z : Int) (e : Ending) (w' : World) : Prop :=
  ∃ a c b d mid, e = .returned (.tuple #[.agg #[.slice a xs.length c, .slice b ys.length d], .int .i64 z]) ∧ w.heap.size ≤ mid ∧ mid ≤ w'.heap.size ∧ Ints .i64 w' mid a xs ∧ ((xs.length ≤ c ∧ c ≤ 9223372036854775807) ∧ OwnB w' w.heap.size mid 3 (.slice a xs.length c) xs.length (xs.map (Value.int .i64))) ∧
    w'.ownsRow mid 2 1 (.slice b ys.length d) ys.length (ys.map (Value.int .i64)) ∧ Below w.heap.size w w'

theorem intsSub {k : IntKind} {w : World} {hi b o : Nat} {xs : List Int} (h : Ints k w hi (some ⟨b, o, none⟩) xs) (s n : Nat) (hs : s + n ≤ xs.length) : Ints k w hi (some ⟨b, o + s, none⟩) ((xs.drop s).take n) ∧ ((xs.drop s).take n).length = n :=
  ⟨⟨by have := h.len; simp; omega, fun x hx => h.wf x (List.mem_of_mem_drop (List.mem_of_mem_take hx)), fun i hi' => by
    have hl : i < n := by simp at hi'; omega
    obtain ⟨b2, o2, ha, hlt, hc⟩ := h.cell (s + i) (by omega)
    cases ha
    refine ⟨_, _, rfl, hlt, ?_⟩
    rw [Nat.add_assoc, hc, take_drop_get _ _ _ _ hl]⟩, by simp; omega⟩

theorem box2_new (w : World) (v0 v1 : Value) (t : TypeId) : Box2 (w.alloc (.cells #[v0, v1] t)) w.heap.size v0 v1 := by constructor <;> go_simp

/-- A tensor of the call's own that is being filled: its header in block Q, its words in block g; below mid nothing has turned since W. -/
structure Fill (W wr : World) (mid Q g d N : Nat) (v0 v1 : Value) (xs : List Int) : Prop where
  sz : W.heap.size ≤ wr.heap.size
  bel : Below mid W wr
  row : wr.ownsRow mid 2 1 (.slice (some ⟨g, 0, none⟩) N d) N (xs.map (Value.int .i64))
  box : Box2 wr Q v0 v1
theorem Fill.lt {W wr : World} {mid Q g d N : Nat} {v0 v1 : Value} {xs : List Int} (h : Fill W wr mid Q g d N v0 v1 xs) : mid ≤ g ∧ g < wr.heap.size := h.row.lt g rfl
theorem Fill.ltQ {W wr : World} {mid Q g d N : Nat} {v0 v1 : Value} {xs : List Int} (h : Fill W wr mid Q g d N v0 v1 xs) : Q < wr.heap.size := World.block_lt_of_cell? wr _ h.box.c0
theorem Fill.next {W wr w' : World} {mid Q g d N : Nat} {v0 v1 : Value} {xs : List Int} (h : Fill W wr mid Q g d N v0 v1 xs) (hb : Below wr.heap.size wr w') : Fill W w' mid Q g d N v0 v1 xs :=
  ⟨Nat.le_trans h.sz hb.size, h.bel.trans (hb.mono (Nat.le_of_lt (Nat.lt_of_le_of_lt h.lt.1 h.lt.2))), own_below h.row hb (Nat.le_refl _), h.box.below hb h.ltQ⟩
theorem Fill.set {W wr : World} {mid Q g d N : Nat} {v0 v1 : Value} {xs : List Int} (h : Fill W wr mid Q g d N v0 v1 xs) (j : Nat) (x : Int) (hQ : Q ≠ g) : Fill W (wr.setCell ⟨g, j, none⟩ (.int .i64 x)) mid Q g d N v0 v1 (xs.set j x) := by
  refine ⟨by simpa using h.sz, h.bel.setCell h.lt.1 _, ?_, ?_⟩
  · have := (h.row.stored j (.int .i64 x)).1
    rwa [map_set] at this
  · obtain ⟨c0, c1, f0, f1⟩ := h.box
    constructor <;> go_simp
theorem Fill.cell {W wr : World} {mid Q g d N : Nat} {v0 v1 : Value} {xs : List Int} (h : Fill W wr mid Q g d N v0 v1 xs) (j : Nat) (hj : j < N) : wr.cell? ⟨g, j, none⟩ = some (.int .i64 (xs[j]?.getD 0)) ∧ wr.frozen? ⟨g, j, none⟩ = false :=
  ⟨own_cell h.row hj, h.row.frozenAt j⟩

theorem retTen_bad {w w' : World} {S : List Int} {G : Nat → Int} {N : Nat} {ZX ZY : List Int} {ZE : Int} (hZ : Hid (ZE = 3)) (hX : Hid (ZX = if ZE = 0 then S else [])) (hY : Hid (ZY = if ZE = 0 then (List.range N).map G else []))
    (hb : Below w.heap.size w w') : RetTen w ZX ZY ZE (.returned (.tuple #[.agg #[.slice none 0 0, .slice none 0 0], .int .i64 3])) w' := by
  have e1 := hZ.out
  have e2 := hX.out
  have e3 := hY.out
  rw [e1, if_neg (by decide)] at e2 e3
  subst e1 e2 e3
  exact ⟨none, 0, none, 0, w'.heap.size, rfl, hb.size, Nat.le_refl _, Ints.nil _ _ _ _, ⟨⟨by simp, by decide⟩, ownB_nil _ _ _ _⟩, World.ownsRow_nil _ _ _ _, hb⟩

theorem retTen_fill {w W wr : World} {q mid Q g d N c1 : Nat} {a1 : Option Addr} {S : List Int} {G : Nat → Int} {v0 v1 : Value} {B : Nat}
    (hcap : Hid (S.length ≤ c1 ∧ c1 ≤ 9223372036854775807)) (hsh : Hid (OwnB W B mid 3 (.slice a1 S.length c1) S.length (S.map (Value.int .i64))))
    (hF : Hid (Fill W wr mid Q g d N v0 v1 (partL G N N))) (hI : Hid (Ints .i64 W mid a1 S)) (hqB : q < B) (hwB : w.heap.size ≤ B) (hwm : B ≤ mid) (hwq : w.heap.size ≤ q)
    (hb : Hid (Below w.heap.size w wr)) (x y : Value) :
    RetTen w S ((List.range N).map G) 0 (.returned (.tuple #[.agg #[.slice a1 S.length c1, .slice (some ⟨g, 0, none⟩) N d], .int .i64 0])) ((wr.setCell ⟨q, 0, none⟩ x).setCell ⟨q, 1, none⟩ y) := by
  have hl := hF.out.lt
  have hlen : ((List.range N).map G).length = N := by simp
  have hrow := hF.out.row
  rw [partL_full] at hrow
  have hne : S.length = 0 ∨ ∃ g, a1 = some ⟨g, 0, none⟩ ∧ q < g := hsh.out.shape.imp id (fun ⟨g, hg, h⟩ => ⟨g, hg, by omega⟩)
  refine ⟨a1, c1, some ⟨g, 0, none⟩, d, mid, by rw [hlen], by omega, by simp; omega, ?_, ⟨hcap.out, (((hsh.out.below hF.out.bel (Nat.le_refl _)).set (.inl hqB)).set (.inl hqB)).mono hwB (Nat.le_refl _)⟩, ?_, ?_⟩
  · exact ints_setCell (ints_setCell (hI.out.below hF.out.bel (Nat.le_refl _)) hne) hne
  · rw [hlen]
    have hqm : q < mid := by omega
    exact ownsRow_setCell_below (ownsRow_setCell_below hrow hqm _) hqm _
  · exact (hb.out.setCell hwq _).setCell hwq _

theorem retTen_good {w W wr : World} {q mid Q g d N c1 : Nat} {a1 : Option Addr} {S : List Int} {G : Nat → Int} {ZX ZY : List Int} {ZE : Int} {v0 v1 : Value} {B : Nat}
    (hE : Hid (ZE = if ((List.range N).all fun j => isW (G j)) = true then 0 else 3)) (hX : Hid (ZX = if ZE = 0 then S else [])) (hY : Hid (ZY = if ZE = 0 then (List.range N).map G else []))
    (hG : Hid (∀ j, j < N → isW (G j) = true)) (hcap : Hid (S.length ≤ c1 ∧ c1 ≤ 9223372036854775807)) (hsh : Hid (OwnB W B mid 3 (.slice a1 S.length c1) S.length (S.map (Value.int .i64))))
    (hF : Hid (Fill W wr mid Q g d N v0 v1 (partL G N N))) (hI : Hid (Ints .i64 W mid a1 S)) (hqB : q < B) (hwB : w.heap.size ≤ B) (hwm : B ≤ mid) (hwq : w.heap.size ≤ q)
    (hb : Hid (Below w.heap.size w wr)) (x y : Value) :
    RetTen w ZX ZY ZE (.returned (.tuple #[.agg #[.slice a1 S.length c1, .slice (some ⟨g, 0, none⟩) N d], .int .i64 0])) ((wr.setCell ⟨q, 0, none⟩ x).setCell ⟨q, 1, none⟩ y) := by
  have e1 := hE.out
  have e2 := hX.out
  have e3 := hY.out
  rw [if_pos (List.all_eq_true.2 (fun j hj => hG.out j (by simpa using hj)))] at e1
  rw [e1, if_pos rfl] at e2 e3
  subst e1 e2 e3
  have hl := hF.out.lt
  have hlen : ((List.range N).map G).length = N := by simp
  have hrow := hF.out.row
  rw [partL_full] at hrow
  have hne : ZX.length = 0 ∨ ∃ g, a1 = some ⟨g, 0, none⟩ ∧ q < g := hsh.out.shape.imp id (fun ⟨g, hg, h⟩ => ⟨g, hg, by omega⟩)
  refine ⟨a1, c1, some ⟨g, 0, none⟩, d, mid, by rw [hlen], by omega, by simp; omega, ?_, ⟨hcap.out, (((hsh.out.below hF.out.bel (Nat.le_refl _)).set (.inl hqB)).set (.inl hqB)).mono hwB (Nat.le_refl _)⟩, ?_, ?_⟩
  · exact ints_setCell (ints_setCell (hI.out.below hF.out.bel (Nat.le_refl _)) hne) hne
  · rw [hlen]
    have hqm : q < mid := by omega
    exact ownsRow_setCell_below (ownsRow_setCell_below hrow hqm _) hqm _
  · exact (hb.out.setCell hwq _).setCell hwq _
end Go.Proofs.YtddhhfhammmaaaaGreat
