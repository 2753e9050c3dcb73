/- Plain laws of two axes changed. No walk. -/
import Derived.Test.YtiofodpfjlcebaaRdX
set_option linter.unusedVariables false
set_option linter.unusedSimpArgs false
namespace Go.Proofs.Ytiofodpfjlcebaa
open Go.RowKit Go.Rt
/-- The words with two axes changed. -/
def turn2L (R C : Nat) (ys : List Int) : List Int := wordsV [(C : Int), (R : Int)] [1, (C : Int)] 0 ys
theorem stands2 (A B n : Nat) (hA : 0 < A) (hB : 0 < B) (h : n < A * B) : standsI [(A : Int), (B : Int)] (n : Int) = [((n / B : Nat) : Int), ((n % B : Nat) : Int)] := by
  have h1 : n / B < A := Nat.div_lt_of_lt_mul (by rw [Nat.mul_comm]; exact h)
  simp only [standsI, prodI, Int.mul_one, Int.ediv_one]
  rw [← Int.natCast_ediv, ← Int.natCast_emod, ← Int.natCast_emod, Nat.mod_eq_of_lt h1]
theorem turn2_len (R C : Nat) (ys : List Int) : (turn2L R C ys).length = R * C := by
  unfold turn2L
  rw [wordsV_len]
  simp only [prodI, Int.mul_one]
  rw [← Int.natCast_mul, Int.toNat_natCast, Nat.mul_comm]
theorem turn2_at (R C : Nat) (ys : List Int) (hR : 0 < R) (hC : 0 < C) (m : Nat) (h : m < C * R) : (turn2L R C ys)[m]?.getD 0 = ys[m % R * C + m / R]?.getD 0 := by
  unfold turn2L
  rw [wordsV_get _ _ _ _ (by simp only [prodI, Int.mul_one]; rw [← Int.natCast_mul, Int.toNat_natCast]; exact h)]
  have e : atV [(C : Int), (R : Int)] [1, (C : Int)] 0 (m : Int) = ((m % R * C + m / R : Nat) : Int) := by
    unfold atV
    rw [stands2 C R m hC hR h]
    simp only [dotI]
    rw [Int.natCast_add, Int.natCast_mul]
    generalize ((m % R : Nat) : Int) * (C : Int) = q
    omega
  rw [e, Int.toNat_natCast]
  rfl
theorem rest2_0 (A B : Nat) : restL [(A : Int), (B : Int)] [0] = [(B : Int)] := by
  have := restL_one [(A : Int), (B : Int)] 0
  exact this
theorem rest2_1 (A B : Nat) : restL [(A : Int), (B : Int)] [1] = [(A : Int)] := by
  have := restL_one [(A : Int), (B : Int)] 1
  exact this
theorem into2_0 (A B n : Nat) (hA : 0 < A) (hB : 0 < B) (h : n < A * B) : (intoI [(A : Int), (B : Int)] [0] (n : Int)).toNat = n % B := by
  unfold intoI
  have e := restL_one [((n / B : Nat) : Int), ((n % B : Nat) : Int)] 0
  rw [stands2 A B n hA hB h, rest2_0, show restL [((n / B : Nat) : Int), ((n % B : Nat) : Int)] [0] = [((n % B : Nat) : Int)] from e]
  simp only [placeI, prodI, Int.mul_one, Int.add_zero, Int.toNat_natCast]
theorem into2_1 (A B n : Nat) (hA : 0 < A) (hB : 0 < B) (h : n < A * B) : (intoI [(A : Int), (B : Int)] [1] (n : Int)).toNat = n / B := by
  unfold intoI
  have e := restL_one [((n / B : Nat) : Int), ((n % B : Nat) : Int)] 1
  rw [stands2 A B n hA hB h, rest2_1, show restL [((n / B : Nat) : Int), ((n % B : Nat) : Int)] [1] = [((n / B : Nat) : Int)] from e]
  simp only [placeI, prodI, Int.mul_one, Int.add_zero, Int.toNat_natCast]
theorem here2_0 (A B n : Nat) (hA : 0 < A) (hB : 0 < B) (h : n < A * B) : hereI [(A : Int), (B : Int)] 0 n = ((n / B : Nat) : Int) := by
  unfold hereI
  rw [stands2 A B n hA hB h]
  rfl
theorem here2_1 (A B n : Nat) (hA : 0 < A) (hB : 0 < B) (h : n < A * B) : hereI [(A : Int), (B : Int)] 1 n = ((n % B : Nat) : Int) := by
  unfold hereI
  rw [stands2 A B n hA hB h]
  rfl
theorem sumK_congrG {g g' : Nat → Nat} {ys : List Int} {k : Nat} (n : Nat) (h : ∀ i, i < n → g i = g' i) : sumK g ys k n = sumK g' ys k n := by
  rw [sumK_F, sumK_F, sumF_congrG n h]
theorem mxK_congr {g g' : Nat → Nat} {hr hr' : Nat → Int} {ys : List Int} {k : Nat} : ∀ n, (∀ i, i < n → g i = g' i ∧ hr i = hr' i) → mxK g hr ys k n = mxK g' hr' ys k n
  | 0, _ => rfl
  | n + 1, h => by rw [mxK, mxK, mxK_congr n fun i hi => h i (by omega), (h n (by omega)).1, (h n (by omega)).2]
theorem turn2_idx (R C k r : Nat) (ys : List Int) (hk : k < C) (hr : r < R) : (turn2L R C ys)[k * R + r]?.getD 0 = ys[r * C + k]?.getD 0 := by
  have h : k * R + r < C * R := by
    have := Nat.mul_le_mul_right R (show k + 1 ≤ C by omega)
    rw [Nat.succ_mul] at this
    omega
  rw [turn2_at R C ys (by omega) (by omega) _ h, Nat.mul_comm k R, Nat.mul_add_mod, Nat.mod_eq_of_lt hr, Nat.mul_add_div (by omega), Nat.div_eq_of_lt hr, Nat.add_zero]
theorem turn2_sum (R C : Nat) (ys : List Int) (hR : 0 < R) (hC : 0 < C) (hl : ys.length = R * C) (k : Nat) (hk : k < C) : smS [(C : Int), (R : Int)] (turn2L R C ys) [1] k = smS [(R : Int), (C : Int)] ys [0] k := by
  unfold smS
  rw [turn2_len, hl]
  rw [sumK_congrG (g' := fun n => n / R) (R * C) fun i hi => into2_1 C R i hC hR (by rw [Nat.mul_comm]; exact hi), sumK_congrG (g' := fun n => n % C) (R * C) fun i hi => into2_0 R C i hR hC hi]
  rw [sumK_fib, sumK_fib, fib_col C k hk R, Nat.mul_comm R C, fib_row R k hR C, if_pos hk, List.map_map, List.map_map]
  congr 1
  refine List.map_congr_left fun r hr => ?_
  exact turn2_idx R C k r ys hk (List.mem_range.1 hr)
theorem turn2_max (R C : Nat) (ys : List Int) (hR : 0 < R) (hC : 0 < C) (hl : ys.length = R * C) (k : Nat) (hk : k < C) :
    mxK (mxG [(C : Int), (R : Int)] 1) (hereI [(C : Int), (R : Int)] 1) (turn2L R C ys) k (R * C) = mxK (mxG [(R : Int), (C : Int)] 0) (hereI [(R : Int), (C : Int)] 0) ys k (R * C) := by
  rw [mxK_congr (g := mxG [(C : Int), (R : Int)] 1) (g' := fun n => n / R) (hr' := fun n => ((n % R : Nat) : Int)) (R * C) fun i hi => ⟨into2_1 C R i hC hR (by rw [Nat.mul_comm]; exact hi), here2_1 C R i hC hR (by rw [Nat.mul_comm]; exact hi)⟩,
    mxK_congr (g := mxG [(R : Int), (C : Int)] 0) (g' := fun n => n % C) (hr' := fun n => ((n / C : Nat) : Int)) (R * C) fun i hi => ⟨into2_0 R C i hR hC hi, here2_0 R C i hR hC hi⟩]
  rw [mxK_fib, mxK_fib, fib_col C k hk R, Nat.mul_comm R C, fib_row R k hR C, if_pos hk, List.map_map, List.map_map]
  congr 1
  refine List.map_congr_left fun r hr => ?_
  have hr := List.mem_range.1 hr
  simp only [Function.comp]
  rw [turn2_idx R C k r ys hk hr, Nat.mul_comm k R, Nat.mul_add_mod, Nat.mod_eq_of_lt hr, Nat.mul_comm r C, Nat.mul_add_div hC, Nat.div_eq_of_lt hk, Nat.add_zero]
/-- All that the law asks of a tensor of two axes. -/
theorem turn2_facts {R C : Nat} {ys : List Int} (ht : tenB [(R : Int), (C : Int)] ys = true) :
    0 < R ∧ 0 < C ∧ ys.length = R * C ∧ tenB [(C : Int), (R : Int)] (turn2L R C ys) = true ∧ viewB [(C : Int), (R : Int)] [1, (C : Int)] 0 ys.length = true ∧
    (∀ m, smX m [(C : Int), (R : Int)] (turn2L R C ys) [1] = smX m [(R : Int), (C : Int)] ys [0] ∧ smY m [(C : Int), (R : Int)] (turn2L R C ys) [1] = smY m [(R : Int), (C : Int)] ys [0] ∧ smZ m [(C : Int), (R : Int)] (turn2L R C ys) [1] = smZ m [(R : Int), (C : Int)] ys [0]) ∧
    (mxX [(C : Int), (R : Int)] (turn2L R C ys) 1 = mxX [(R : Int), (C : Int)] ys 0 ∧ mxY [(C : Int), (R : Int)] (turn2L R C ys) 1 = mxY [(R : Int), (C : Int)] ys 0 ∧ mxP [(C : Int), (R : Int)] (turn2L R C ys) 1 = mxP [(R : Int), (C : Int)] ys 0 ∧ mxZ [(C : Int), (R : Int)] (turn2L R C ys) 1 = 0 ∧ mxZ [(R : Int), (C : Int)] ys 0 = 0) := by
  have lT := tenB_iff.1 ht
  have hd := goodB_dims lT.1
  have h1 := hd (R : Int) (by simp)
  have h2 := hd (C : Int) (by simp)
  have hR : 0 < R := by omega
  have hC : 0 < C := by omega
  have hpr : prodI [(R : Int), (C : Int)] = ((R * C : Nat) : Int) := by simp only [prodI, Int.mul_one]; rw [Int.natCast_mul]
  have hpr2 : prodI [(C : Int), (R : Int)] = ((R * C : Nat) : Int) := by simp only [prodI, Int.mul_one]; rw [Int.natCast_mul, Int.mul_comm]
  have hl : ys.length = R * C := by have := lT.2.1; rw [hpr] at this; omega
  have hP := goodB_prod lT.1
  have hg2 : goodB [(C : Int), (R : Int)] = true := goodB_iff.2 ⟨by simp, fun d hd => by simp only [List.mem_cons, List.not_mem_nil, or_false] at hd; rcases hd with rfl | rfl <;> omega, by rw [hpr2, ← hpr]; exact hP.2⟩
  have ht2 : tenB [(C : Int), (R : Int)] (turn2L R C ys) = true := by
    refine tenB_iff.2 ⟨hg2, by rw [turn2_len, hpr2], fun y hy => ?_⟩
    obtain ⟨m, hm, rfl⟩ := List.getElem_of_mem hy
    have hm2 : m < C * R := by rw [turn2_len, Nat.mul_comm] at hm; exact hm
    have e := turn2_at R C ys hR hC m hm2
    rw [List.getElem?_eq_getElem hm, Option.getD_some] at e
    rw [e]
    by_cases hi : m % R * C + m / R < ys.length
    · rw [List.getElem?_eq_getElem hi]; exact lT.2.2 _ (List.getElem_mem hi)
    · rw [List.getElem?_eq_none (by omega)]; decide
  have hN1 : smN [(R : Int), (C : Int)] [0] = C := by unfold smN; rw [rest2_0]; simp [prodI]
  have hN2 : smN [(C : Int), (R : Int)] [1] = C := by unfold smN; rw [rest2_1]; simp [prodI]
  have hck1 : ckZ [(R : Int), (C : Int)] ys [0] = 0 := by unfold ckZ; rw [if_pos ht, if_pos (by rfl)]
  have hck2 : ckZ [(C : Int), (R : Int)] (turn2L R C ys) [1] = 0 := by unfold ckZ; rw [if_pos ht2, if_pos (by rfl)]
  have hv : viewB [(C : Int), (R : Int)] [1, (C : Int)] 0 ys.length = true := by
    have hmul : (C : Int) * R = ((R * C : Nat) : Int) := by rw [Int.natCast_mul, Int.mul_comm]
    have hpos : 1 ≤ R * C := Nat.mul_pos hR hC
    refine viewB_iff.2 ⟨hg2, rfl, Int.le_refl _, by rw [hl, ← hpr]; exact hP.2, by rw [hl]; omega, fun x hx => by simp only [List.mem_cons, List.not_mem_nil, or_false] at hx; rcases hx with rfl | rfl <;> omega, ?_⟩
    rw [hl]
    simp only [topV]
    have : ((R : Int) - 1) * (C : Int) = ((R * C : Nat) : Int) - C := by rw [Int.sub_mul, Int.natCast_mul]; omega
    rw [Int.mul_comm (C : Int) ((R : Int) - 1), this]
    omega
  have hRk : ∀ m k, k < C → smR m [(C : Int), (R : Int)] (turn2L R C ys) [1] k = smR m [(R : Int), (C : Int)] ys [0] k := fun m k hk => by
    unfold smR smC
    rw [turn2_sum R C ys hR hC hl k hk, hN1, hN2, turn2_len, hl]
  have hZ : ∀ m, smZ m [(C : Int), (R : Int)] (turn2L R C ys) [1] = smZ m [(R : Int), (C : Int)] ys [0] := fun m => by
    unfold smZ rdZ
    rw [if_pos hck1, if_pos hck2, hN1, hN2]
    have : ((List.range C).all fun k => isW (smR m [(C : Int), (R : Int)] (turn2L R C ys) [1] k)) = ((List.range C).all fun k => isW (smR m [(R : Int), (C : Int)] ys [0] k)) := by
      rw [Bool.eq_iff_iff, List.all_eq_true, List.all_eq_true]
      constructor
      · intro h k hk; rw [← hRk m k (List.mem_range.1 hk)]; exact h k hk
      · intro h k hk; rw [hRk m k (List.mem_range.1 hk)]; exact h k hk
    rw [this]
  refine ⟨hR, hC, hl, ht2, hv, fun m => ⟨?_, ?_, hZ m⟩, ?_, ?_, ?_, hck2, hck1⟩
  · unfold smX; rw [hZ m, rest2_0, rest2_1]
  · unfold smY
    rw [hZ m, hN1, hN2, List.map_congr_left fun k hk => hRk m k (List.mem_range.1 hk)]
  · unfold mxX mxZ; rw [hck1, hck2, rest2_0, rest2_1]
  · unfold mxY mxZ
    rw [hck1, hck2, hN1, hN2, turn2_len, hl]
    congr 1
    refine List.map_congr_left fun k hk => ?_
    show (mxK _ _ _ _ _).1 = (mxK _ _ _ _ _).1
    exact congrArg Prod.fst (turn2_max R C ys hR hC hl k (List.mem_range.1 hk))
  · unfold mxP mxZ
    rw [hck1, hck2, hN1, hN2, turn2_len, hl]
    congr 1
    refine List.map_congr_left fun k hk => ?_
    show (mxK _ _ _ _ _).2 = (mxK _ _ _ _ _).2
    exact congrArg Prod.snd (turn2_max R C ys hR hC hl k (List.mem_range.1 hk))
end Go.Proofs.Ytiofodpfjlcebaa
