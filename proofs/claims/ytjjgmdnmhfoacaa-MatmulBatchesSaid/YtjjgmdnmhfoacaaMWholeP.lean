/- Products of whole numbers (words that are 256 times a small number), in plain numbers. No walk. -/
import Derived.Test.YtjjgmdnmhfoacaaMTurnsP
set_option linter.unusedVariables false
set_option linter.unusedSimpArgs false
namespace Go.Proofs.Ytjjgmdnmhfoacaa
open Go.RowKit Go.Rt

/-- 256 times each. -/
def up8 (xs : List Int) : List Int := xs.map fun x => x * 256
theorem up8_get (xs : List Int) (i : Nat) : (up8 xs)[i]?.getD 0 = xs[i]?.getD 0 * 256 := getD_map xs _ (by rfl) i
theorem sum_up8 (xs ys : List Int) (o p st : Nat) : ∀ k, sumAt (up8 xs) (up8 ys) o p st k = sumAt xs ys o p st k * 65536
  | 0 => by simp [sumAt]
  | k + 1 => by
    rw [sumAt, sumAt, sum_up8 xs ys o p st k, up8_get, up8_get, Int.add_mul]
    congr 1
    generalize xs[o + k]?.getD 0 = x
    generalize ys[p + k * st]?.getD 0 = y
    rw [show x * 256 * (y * 256) = x * y * 65536 by rw [Int.mul_assoc, Int.mul_left_comm 256 y 256, ← Int.mul_assoc]; rfl]
theorem shI_up8 (s : Int) : shI (s * 65536) 8 = s * 256 := by
  have h : s * 65536 = s * 256 * 2 ^ 8 := by rw [Int.mul_assoc]; rfl
  unfold shI
  rw [h]
  exact roundI_mul _ _ (by decide)
theorem mulG_up8 (xs ys : List Int) (R I C j : Nat) (bt : Bool) : mulG (up8 xs) (up8 ys) R I C bt 8 j = sumAt xs ys (j / C * I) ((if bt = true then j / (R * C) else 0) * (I * C) + j % C) C I * 256 := by
  unfold mulG
  rw [sum_up8, shI_up8]

/-! Sums -/
def sumTo (f : Nat → Int) : Nat → Int
  | 0 => 0
  | k + 1 => sumTo f k + f k
theorem sumAt_sumTo (xs ys : List Int) (o p st : Nat) : ∀ k, sumAt xs ys o p st k = sumTo (fun j => xs[o + j]?.getD 0 * ys[p + j * st]?.getD 0) k
  | 0 => rfl
  | k + 1 => by rw [sumAt, sumTo, sumAt_sumTo xs ys o p st k]
theorem sumTo_congr {f g : Nat → Int} : ∀ n, (∀ j, j < n → f j = g j) → sumTo f n = sumTo g n
  | 0, _ => rfl
  | n + 1, h => by rw [sumTo, sumTo, sumTo_congr n (fun j hj => h j (by omega)), h n (by omega)]
theorem sumTo_zero : ∀ n, sumTo (fun _ => 0) n = 0
  | 0 => rfl
  | n + 1 => by rw [sumTo, sumTo_zero n]; rfl
theorem sumTo_add (f g : Nat → Int) : ∀ n, sumTo (fun j => f j + g j) n = sumTo f n + sumTo g n
  | 0 => rfl
  | n + 1 => by rw [sumTo, sumTo, sumTo, sumTo_add f g n]; omega
theorem sumTo_mul (f : Nat → Int) (a : Int) : ∀ n, sumTo (fun j => a * f j) n = a * sumTo f n
  | 0 => by simp [sumTo]
  | n + 1 => by rw [sumTo, sumTo, sumTo_mul f a n, Int.mul_add]
theorem sumTo_mul_right (f : Nat → Int) (a : Int) : ∀ n, sumTo (fun j => f j * a) n = sumTo f n * a
  | 0 => by simp [sumTo]
  | n + 1 => by rw [sumTo, sumTo, sumTo_mul_right f a n, Int.add_mul]
theorem sumTo_swap (f : Nat → Nat → Int) (m : Nat) : ∀ n, sumTo (fun i => sumTo (fun j => f i j) m) n = sumTo (fun j => sumTo (fun i => f i j) n) m
  | 0 => by simp only [sumTo]; exact (sumTo_zero m).symm
  | n + 1 => by
    rw [sumTo, sumTo_swap f m n, ← sumTo_add]
    exact sumTo_congr m (fun j _ => rfl)

/-- The product of two matrices of whole numbers. -/
def pL (xs ys : List Int) (R I C : Nat) : List Int := (List.range (R * C)).map fun j => sumAt xs ys (j / C * I) (j % C) C I
theorem pL_get (xs ys : List Int) (R I C r c : Nat) (hr : r < R) (hc : c < C) : (pL xs ys R I C)[r * C + c]?.getD 0 = sumTo (fun i => xs[r * I + i]?.getD 0 * ys[c + i * C]?.getD 0) I := by
  have h := rc_lt r c R C hr hc
  obtain ⟨e1, e2⟩ := div_rc r c C hc
  unfold pL
  rw [List.getElem?_map, List.getElem?_range h]
  simp only [Option.map_some, Option.getD_some]
  rw [e1, e2, sumAt_sumTo]
theorem pL_assoc (xs ys zs : List Int) (R I C D : Nat) (hD : 1 ≤ D) : pL (pL xs ys R I C) zs R C D = pL xs (pL ys zs I C D) R I D := by
  unfold pL
  apply List.map_congr_left
  intro j hj
  have hj' : j < R * D := by simpa using hj
  have hr : j / D < R := Nat.div_lt_of_lt_mul (by rw [Nat.mul_comm]; exact hj')
  have hd : j % D < D := Nat.mod_lt _ hD
  show sumAt (pL xs ys R I C) zs (j / D * C) (j % D) D C = sumAt xs (pL ys zs I C D) (j / D * I) (j % D) D I
  rw [sumAt_sumTo, sumAt_sumTo]
  have h1 : ∀ c, c < C → (pL xs ys R I C)[j / D * C + c]?.getD 0 * zs[j % D + c * D]?.getD 0 = sumTo (fun i => xs[j / D * I + i]?.getD 0 * ys[c + i * C]?.getD 0 * zs[j % D + c * D]?.getD 0) I := by
    intro c hc
    rw [pL_get xs ys R I C _ c hr hc, sumTo_mul_right]
  have h2 : ∀ i, i < I → xs[j / D * I + i]?.getD 0 * (pL ys zs I C D)[j % D + i * D]?.getD 0 = sumTo (fun c => xs[j / D * I + i]?.getD 0 * ys[c + i * C]?.getD 0 * zs[j % D + c * D]?.getD 0) C := by
    intro i hi
    rw [Nat.add_comm (j % D) (i * D), pL_get ys zs I C D i _ hi hd, ← sumTo_mul]
    exact sumTo_congr C (fun c _ => by rw [Nat.add_comm (i * C) c, Int.mul_assoc])
  rw [sumTo_congr C h1, sumTo_congr I h2, sumTo_swap]
theorem pL_add (xs ys zs : List Int) (R I C : Nat) (j : Nat) (us : List Int) (hu : ∀ q : Nat, us[q]?.getD 0 = ys[q]?.getD 0 + zs[q]?.getD 0) : sumAt xs us (j / C * I) (j % C) C I = sumAt xs ys (j / C * I) (j % C) C I + sumAt xs zs (j / C * I) (j % C) C I := by
  rw [sumAt_sumTo, sumAt_sumTo, sumAt_sumTo, ← sumTo_add]
  exact sumTo_congr I (fun i _ => by rw [hu, Int.mul_add])

/-! Bounds -/
/-- Every word lies within m. -/
def Bd (m : Int) (xs : List Int) : Prop := ∀ x ∈ xs, -m ≤ x ∧ x ≤ m
theorem Bd.getD {m : Int} {xs : List Int} (h : Bd m xs) (hm : 0 ≤ m) (i : Nat) : -m ≤ xs[i]?.getD 0 ∧ xs[i]?.getD 0 ≤ m := by
  by_cases hi : i < xs.length
  · rw [List.getElem?_eq_getElem hi]
    exact h _ (List.getElem_mem hi)
  · rw [List.getElem?_eq_none (by omega)]
    simp only [Option.getD_none]
    omega
theorem mul_bd {x y a b : Int} (ha : 0 ≤ a) (hb : 0 ≤ b) (hx : -a ≤ x ∧ x ≤ a) (hy : -b ≤ y ∧ y ≤ b) : -(a * b) ≤ x * y ∧ x * y ≤ a * b := by
  have h1 : x.natAbs ≤ a.natAbs := by omega
  have h2 : y.natAbs ≤ b.natAbs := by omega
  have h3 : x.natAbs * y.natAbs ≤ a.natAbs * b.natAbs := Nat.mul_le_mul h1 h2
  rw [← Int.natAbs_mul, ← Int.natAbs_mul] at h3
  have h4 : 0 ≤ a * b := Int.mul_nonneg ha hb
  omega
theorem sumAt_bd {xs ys : List Int} {a b : Int} (ha : 0 ≤ a) (hb : 0 ≤ b) (hx : Bd a xs) (hy : Bd b ys) (o p st : Nat) : ∀ k : Nat, -((k : Int) * (a * b)) ≤ sumAt xs ys o p st k ∧ sumAt xs ys o p st k ≤ (k : Int) * (a * b)
  | 0 => by simp [sumAt]
  | k + 1 => by
    have h := sumAt_bd ha hb hx hy o p st k
    have h2 := mul_bd ha hb (hx.getD ha (o + k)) (hy.getD hb (p + k * st))
    rw [sumAt, show ((k + 1 : Nat) : Int) * (a * b) = (k : Int) * (a * b) + a * b by rw [Int.natCast_add, Int.add_mul]; simp]
    generalize (k : Int) * (a * b) = u at *
    generalize a * b = v at *
    omega
theorem pL_bd {xs ys : List Int} {a b : Int} (ha : 0 ≤ a) (hb : 0 ≤ b) (hx : Bd a xs) (hy : Bd b ys) (R I C : Nat) (hI : I ≤ 40) : Bd (40 * (a * b)) (pL xs ys R I C) := by
  intro z hz
  obtain ⟨j, _, rfl⟩ := List.mem_map.1 hz
  have h := sumAt_bd ha hb hx hy (j / C * I) (j % C) C I
  have h0 : 0 ≤ a * b := Int.mul_nonneg ha hb
  have h1 : (I : Int) * (a * b) ≤ 40 * (a * b) := Int.mul_le_mul_of_nonneg_right (by omega) h0
  generalize (I : Int) * (a * b) = u at *
  generalize a * b = v at *
  omega
theorem pL_len (xs ys : List Int) (R I C : Nat) : (pL xs ys R I C).length = R * C := by simp [pL]
theorem up8_len (xs : List Int) : (up8 xs).length = xs.length := List.length_map _
theorem up8_isW {xs : List Int} {m : Int} (h : Bd m xs) (hm : m ≤ 100000000) : ∀ y ∈ up8 xs, isW y = true := by
  intro y hy
  obtain ⟨x, hx, rfl⟩ := List.mem_map.1 hy
  have := h x hx
  exact isW_iff.2 ⟨by omega, by omega⟩
theorem up8_ten {R C : Nat} {xs : List Int} {m : Int} (hR : 1 ≤ R ∧ R ≤ 40) (hC : 1 ≤ C ∧ C ≤ 40) (hl : xs.length = R * C) (h : Bd m xs) (hm : m ≤ 100000000) : tenB [(R : Int), (C : Int)] (up8 xs) = true := by
  have h3 : R * C ≤ 40 * 40 := Nat.mul_le_mul hR.2 hC.2
  exact ten2_iff.2 ⟨⟨⟨hR.1, by omega⟩, ⟨hC.1, by omega⟩, by omega⟩, by rw [up8_len, hl], up8_isW h hm⟩
/-- The product of two tensors of whole numbers. -/
theorem mul_up8 {R I C : Nat} {xs ys : List Int} {a b : Int} (ha : 0 ≤ a) (hb : 0 ≤ b) (hx : Bd a xs) (hy : Bd b ys) (hab : 40 * (a * b) ≤ 100000000) (hR : 1 ≤ R ∧ R ≤ 40) (hI : 1 ≤ I ∧ I ≤ 40) (hC : 1 ≤ C ∧ C ≤ 40) :
    mulE [(R : Int), (I : Int)] (up8 xs) [(I : Int), (C : Int)] (up8 ys) 8 = 0 ∧ mulX [(R : Int), (I : Int)] (up8 xs) [(I : Int), (C : Int)] (up8 ys) 8 = [(R : Int), (C : Int)] ∧
      mulY [(R : Int), (I : Int)] (up8 xs) [(I : Int), (C : Int)] (up8 ys) 8 = up8 (pL xs ys R I C) := by
  have h3 : R * C ≤ 40 * 40 := Nat.mul_le_mul hR.2 hC.2
  have hG : ∀ j, j < R * C → mulG (up8 xs) (up8 ys) R I C true 8 j = sumAt xs ys (j / C * I) (j % C) C I * 256 := by
    intro j hj
    rw [mulG_up8, if_pos rfl, Nat.div_eq_of_lt hj, Nat.zero_mul, Nat.zero_add]
  have hE : mulE [(R : Int), (I : Int)] (up8 xs) [(I : Int), (C : Int)] (up8 ys) 8 = 0 := by
    refine (mul2_iff _ _ _ _ _ _ _).2 ⟨rfl, good2_iff.2 ⟨⟨hR.1, by omega⟩, ⟨hC.1, by omega⟩, by omega⟩, ?_⟩
    intro j hj
    rw [hG j hj]
    have h := pL_bd ha hb hx hy R I C hI.2 (sumAt xs ys (j / C * I) (j % C) C I) (List.mem_map.2 ⟨j, by simpa using hj, rfl⟩)
    generalize 40 * (a * b) = u at *
    exact isW_iff.2 ⟨by omega, by omega⟩
  obtain ⟨e1, e2⟩ := mulY2 hE
  refine ⟨hE, e2, ?_⟩
  rw [e1]
  unfold up8 pL
  rw [List.map_map]
  apply List.map_congr_left
  intro j hj
  exact hG j (by simpa using hj)

/-- Each word's rest by 3. -/
def rest3 (xs : List Int) : List Int := xs.map fun x => Int.tmod x 3
theorem rest3_len (xs : List Int) : (rest3 xs).length = xs.length := List.length_map _
theorem rest3_bd (xs : List Int) : Bd 2 (rest3 xs) := by
  intro y hy
  obtain ⟨x, _, rfl⟩ := List.mem_map.1 hy
  rcases Int.lt_or_le x 0 with h | h
  · have := Int.tmod_nonneg 3 (show 0 ≤ -x by omega)
    have h2 := Int.tmod_lt_of_pos (-x) (show (0 : Int) < 3 by decide)
    rw [Int.neg_tmod] at this h2
    omega
  · have := Int.tmod_nonneg 3 h
    have h2 := Int.tmod_lt_of_pos x (show (0 : Int) < 3 by decide)
    omega

/-- The words that the statement adds: from -2 to 2, by place and by the round i. -/
def dWords (i n : Nat) : List Int := (List.range n).map fun (k : Nat) => ((k : Int) * 7 + (i : Int)) % 5 - 2
theorem dWords_len (i n : Nat) : (dWords i n).length = n := by simp [dWords]
theorem dWords_bd (i n : Nat) : Bd 2 (dWords i n) := by
  intro y hy
  obtain ⟨k, _, rfl⟩ := List.mem_map.1 hy
  omega
/-- Sums, word by word. -/
def addL (xs ys : List Int) : List Int := (List.range xs.length).map fun k => xs[k]?.getD 0 + ys[k]?.getD 0
theorem addL_len (xs ys : List Int) : (addL xs ys).length = xs.length := by simp [addL]
theorem addL_get {xs ys : List Int} (h : xs.length = ys.length) (q : Nat) : (addL xs ys)[q]?.getD 0 = xs[q]?.getD 0 + ys[q]?.getD 0 := by
  unfold addL
  by_cases hq : q < xs.length
  · rw [List.getElem?_map, List.getElem?_range hq]
    rfl
  · rw [List.getElem?_eq_none (by simp; omega), List.getElem?_eq_none (show xs.length ≤ q by omega), List.getElem?_eq_none (show ys.length ≤ q by omega)]
    rfl
theorem addL_bd {xs ys : List Int} {a b : Int} (ha : 0 ≤ a) (hb : 0 ≤ b) (hx : Bd a xs) (hy : Bd b ys) : Bd (a + b) (addL xs ys) := by
  intro z hz
  obtain ⟨k, _, rfl⟩ := List.mem_map.1 hz
  have h1 := hx.getD ha k
  have h2 := hy.getD hb k
  show -(a + b) ≤ xs[k]?.getD 0 + ys[k]?.getD 0 ∧ xs[k]?.getD 0 + ys[k]?.getD 0 ≤ a + b
  omega
theorem pL_addL (xs ys zs : List Int) (R I C : Nat) (h : ys.length = zs.length) (j : Nat) (hj : j < R * C) : (up8 (pL xs (addL ys zs) R I C))[j]?.getD 0 = (up8 (pL xs zs R I C))[j]?.getD 0 + (up8 (pL xs ys R I C))[j]?.getD 0 := by
  rw [up8_get, up8_get, up8_get]
  unfold pL
  rw [List.getElem?_map, List.getElem?_map, List.getElem?_map, List.getElem?_range hj]
  simp only [Option.map_some, Option.getD_some]
  rw [pL_add xs ys zs R I C j (addL ys zs) (addL_get h), Int.add_mul]
  omega
end Go.Proofs.Ytjjgmdnmhfoacaa
