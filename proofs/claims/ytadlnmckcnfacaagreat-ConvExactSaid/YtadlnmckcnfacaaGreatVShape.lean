import Derived.Test.YtadlnmckcnfacaaGreatVBase
set_option linter.unusedVariables false
set_option linter.unusedSimpArgs false
namespace Go.Rt

def prodI : List Int → Int
 | [] => 1
 | d :: r => d * prodI r
def dimOk (d : Int) : Bool := decide (1 ≤ d) && decide (d ≤ 4096)
def goodB (xs : List Int) : Bool := decide (xs.length ≤ 4) && (xs.all dimOk && decide (prodI xs ≤ 65536))
def strI : List Int → List Int
 | [] => []
 | _ :: r => prodI r :: strI r
def withinB : List Int → List Int → Bool
 | [], [] => true
 | d :: r, i :: s => (decide (0 ≤ i) && decide (i < d)) && withinB r s
 | _, _ => false
def placeI : List Int → List Int → Int
 | d :: r, i :: s => i * prodI r + placeI r s
 | _, _ => 0
def standsI : List Int → Int → List Int
 | [], _ => []
 | d :: r, n => (n / prodI r) % d :: standsI r n

theorem prodI_append : ∀ xs ys, prodI (xs ++ ys) = prodI xs * prodI ys
 | [], ys => by simp [prodI]
 | d :: r, ys => by simp [prodI, prodI_append r ys, Int.mul_assoc]

theorem dimOk_iff {d : Int} : dimOk d = true ↔ 1 ≤ d ∧ d ≤ 4096 := by simp [dimOk]

theorem prodI_pos : ∀ xs : List Int, (∀ d ∈ xs, 1 ≤ d) → 1 ≤ prodI xs
 | [], _ => by simp [prodI]
 | d :: r, h => by
  have h1 := h d (List.mem_cons_self ..)
  have h2 := prodI_pos r (fun x hx => h x (List.mem_cons_of_mem _ hx))
  have := Int.mul_le_mul h1 h2 (by omega) (by omega)
  simpa [prodI] using this

def Dims (xs : List Int) : Prop := ∀ d ∈ xs, 1 ≤ d ∧ d ≤ 4096

theorem Dims.pos {xs : List Int} (h : Dims xs) : 1 ≤ prodI xs := prodI_pos xs (fun d hd => (h d hd).1)
theorem Dims.take {xs : List Int} (h : Dims xs) (k : Nat) : Dims (xs.take k) := fun d hd => h d (List.mem_of_mem_take hd)
theorem Dims.drop {xs : List Int} (h : Dims xs) (k : Nat) : Dims (xs.drop k) := fun d hd => h d (List.mem_of_mem_drop hd)
theorem Dims.tail {d : Int} {r : List Int} (h : Dims (d :: r)) : Dims r := fun x hx => h x (List.mem_cons_of_mem _ hx)
theorem Dims.head {d : Int} {r : List Int} (h : Dims (d :: r)) : 1 ≤ d ∧ d ≤ 4096 := h d (List.mem_cons_self ..)

theorem prodI_split (xs : List Int) (k : Nat) : prodI xs = prodI (xs.take k) * prodI (xs.drop k) := by
 rw [← prodI_append, List.take_append_drop]

theorem prodI_drop_le {xs : List Int} (h : Dims xs) (k : Nat) : prodI (xs.drop k) ≤ prodI xs := by
 have h1 := (h.take k).pos
 have h2 := (h.drop k).pos
 rw [prodI_split xs k]
 have := Int.mul_le_mul h1 (Int.le_refl (prodI (xs.drop k))) (by omega) (by omega)
 simpa using this

theorem prodI_take_le {xs : List Int} (h : Dims xs) (k : Nat) : prodI (xs.take k) ≤ prodI xs := by
 have h1 := (h.take k).pos
 have h2 := (h.drop k).pos
 rw [prodI_split xs k]
 have := Int.mul_le_mul (Int.le_refl (prodI (xs.take k))) h2 (by omega) (by omega)
 simpa using this

theorem prodI_le_pow : ∀ xs : List Int, Dims xs → prodI xs ≤ 4096 ^ xs.length
 | [], _ => by simp [prodI]
 | d :: r, h => by
  have h1 := h.head
  have h2 := prodI_le_pow r h.tail
  have h3 := h.tail.pos
  have := Int.mul_le_mul h1.2 h2 (by omega) (by omega)
  simp only [prodI, List.length_cons, Int.pow_succ]
  omega

theorem goodB_iff {xs : List Int} : goodB xs = true ↔ xs.length ≤ 4 ∧ Dims xs ∧ prodI xs ≤ 65536 := by
 simp [goodB, Dims, dimOk]

theorem goodB_dims {xs : List Int} (h : goodB xs = true) : Dims xs := (goodB_iff.1 h).2.1
theorem goodB_prod {xs : List Int} (h : goodB xs = true) : 1 ≤ prodI xs ∧ prodI xs ≤ 65536 := ⟨(goodB_dims h).pos, (goodB_iff.1 h).2.2⟩

theorem take_snoc {α : Type} (xs : List α) (k : Nat) (h : k < xs.length) : xs.take (k + 1) = xs.take k ++ [xs[k]] := by
 rw [List.take_succ_eq_append_getElem h]
theorem drop_cons {α : Type} (xs : List α) (k : Nat) (h : k < xs.length) : xs.drop k = xs[k] :: xs.drop (k + 1) := by
 rw [List.drop_eq_getElem_cons h]

theorem prodI_take_succ (xs : List Int) (k : Nat) (h : k < xs.length) : prodI (xs.take (k + 1)) = prodI (xs.take k) * xs[k] := by
 rw [take_snoc xs k h, prodI_append]
 simp [prodI]
theorem prodI_drop_succ (xs : List Int) (k : Nat) (h : k < xs.length) : prodI (xs.drop k) = xs[k] * prodI (xs.drop (k + 1)) := by
 rw [drop_cons xs k h, prodI]

theorem Dims.at {xs : List Int} (h : Dims xs) {k : Nat} (hk : k < xs.length) : 1 ≤ xs[k] ∧ xs[k] ≤ 4096 := h _ (List.getElem_mem hk)

theorem strI_length : ∀ xs, (strI xs).length = xs.length
 | [] => rfl
 | _ :: r => by simp [strI, strI_length r]
theorem strI_get : ∀ (xs : List Int) (k : Nat), k < xs.length → (strI xs)[k]? = some (prodI (xs.drop (k + 1)))
 | d :: r, 0, _ => by simp [strI]
 | d :: r, k + 1, h => by
  have := strI_get r k (by simpa using h)
  simpa [strI] using this
theorem withinB_length : ∀ {xs is : List Int}, withinB xs is = true → is.length = xs.length
 | [], [], _ => rfl
 | d :: r, i :: s, h => by
  simp [withinB] at h
  simp [withinB_length h.2]
 | [], _ :: _, h => by simp [withinB] at h
 | _ :: _, [], h => by simp [withinB] at h
theorem withinB_iff : ∀ {xs is : List Int}, withinB xs is = true ↔ is.length = xs.length ∧ ∀ k, k < xs.length → 0 ≤ is[k]?.getD 0 ∧ is[k]?.getD 0 < xs[k]?.getD 0
 | [], [] => by simp [withinB]
 | [], _ :: _ => by simp [withinB]
 | _ :: _, [] => by simp [withinB]
 | d :: r, i :: s => by
  simp only [withinB, Bool.and_eq_true, decide_eq_true_eq, withinB_iff (xs := r) (is := s), List.length_cons, Nat.add_right_cancel_iff]
  constructor
  ·rintro ⟨h1, h2, h3⟩
   refine ⟨h2, fun k hk => ?_⟩
   cases k with
   | zero => simpa using h1
   | succ k => simpa using h3 k (by omega)
  ·rintro ⟨h2, h3⟩
   refine ⟨by simpa using h3 0 (by omega), h2, fun k hk => ?_⟩
   simpa using h3 (k + 1) (by omega)

theorem placeI_snoc : ∀ (xs is : List Int) (d i : Int), is.length = xs.length → placeI (xs ++ [d]) (is ++ [i]) = placeI xs is * d + i
 | [], [], d, i, _ => by simp [placeI, prodI]
 | x :: xs, j :: is, d, i, h => by
  have := placeI_snoc xs is d i (by simpa using h)
  simp only [List.cons_append, placeI, this, prodI_append, prodI, Int.mul_one, Int.add_mul]
  rw [Int.mul_assoc, Int.add_assoc]
 | [], _ :: _, _, _, h => by simp at h
 | _ :: _, [], _, _, h => by simp at h

theorem placeI_bound : ∀ (xs is : List Int), Dims xs → withinB xs is = true → 0 ≤ placeI xs is ∧ placeI xs is < prodI xs
 | [], [], _, _ => by simp [placeI, prodI]
 | d :: r, i :: s, hd, h => by
  simp only [withinB, Bool.and_eq_true, decide_eq_true_eq] at h
  have ih := placeI_bound r s hd.tail h.2
  have hp := hd.tail.pos
  simp only [placeI, prodI]
  have h1 : 0 ≤ i * prodI r := Int.mul_nonneg h.1.1 (by omega)
  have h2 : (i + 1) * prodI r ≤ d * prodI r := Int.mul_le_mul_of_nonneg_right (by omega) (by omega)
  rw [Int.add_mul] at h2
  omega
 | [], _ :: _, _, h => by simp [withinB] at h
 | _ :: _, [], _, h => by simp [withinB] at h

theorem placeI_take_succ (xs is : List Int) (k : Nat) (hk : k < xs.length) (hl : is.length = xs.length) :
  placeI (xs.take (k + 1)) (is.take (k + 1)) = placeI (xs.take k) (is.take k) * xs[k] + is[k]'(by omega) := by
 rw [take_snoc xs k hk, take_snoc is k (by omega)]
 exact placeI_snoc _ _ _ _ (by simp; omega)

def dotI : List Int → List Int → Int
 | a :: r, b :: s => a * b + dotI r s
 | _, _ => 0
theorem dotI_snoc : ∀ (xs ys : List Int) (a b : Int), xs.length = ys.length → dotI (xs ++ [a]) (ys ++ [b]) = dotI xs ys + a * b
 | [], [], a, b, _ => by simp [dotI]
 | x :: xs, y :: ys, a, b, h => by
  have := dotI_snoc xs ys a b (by simpa using h)
  simp only [List.cons_append, dotI, this]
  omega
 | [], _ :: _, _, _, h => by simp at h
 | _ :: _, [], _, _, h => by simp at h
theorem dotI_str : ∀ (xs is : List Int), is.length = xs.length → dotI is (strI xs) = placeI xs is
 | [], [], _ => by simp [dotI, strI, placeI]
 | d :: r, i :: s, h => by
  have := dotI_str r s (by simpa using h)
  simp only [strI, dotI, placeI, this]
 | [], _ :: _, h => by simp at h
 | _ :: _, [], h => by simp at h
theorem dotI_take_succ (is ls : List Int) (k : Nat) (hk : k < is.length) (hl : ls.length = is.length) :
  dotI (is.take (k + 1)) (ls.take (k + 1)) = dotI (is.take k) (ls.take k) + is[k] * ls[k]'(by omega) := by
 rw [take_snoc is k hk, take_snoc ls k (by omega)]
 exact dotI_snoc _ _ _ _ (by simp; omega)

theorem standsI_length : ∀ (xs : List Int) (n : Int), (standsI xs n).length = xs.length
 | [], _ => rfl
 | _ :: r, n => by simp [standsI, standsI_length r n]
theorem standsI_get : ∀ (xs : List Int) (n : Int) (k : Nat) (hk : k < xs.length), (standsI xs n)[k]? = some ((n / prodI (xs.drop (k + 1))) % xs[k])
 | d :: r, n, 0, _ => by simp [standsI]
 | d :: r, n, k + 1, h => by
  have := standsI_get r n k (by simpa using h)
  simpa [standsI] using this
theorem standsI_within : ∀ (xs : List Int) (n : Int), Dims xs → withinB xs (standsI xs n) = true
 | [], _, _ => rfl
 | d :: r, n, h => by
  have h1 := h.head
  simp only [standsI, withinB, standsI_within r n h.tail, Bool.and_true, Bool.and_eq_true, decide_eq_true_eq]
  exact ⟨Int.emod_nonneg _ (by omega), Int.emod_lt_of_pos _ (by omega)⟩

theorem ediv_mul_emod (n b c : Int) (hb : 0 < b) (hc : 0 < c) : (n / c) % b * c + n % c = n % (b * c) := by
 have h1 := Int.emul_emod_aux n b c hb hc
 exact h1
where
 Int.emul_emod_aux (n b c : Int) (hb : 0 < b) (hc : 0 < c) : (n / c) % b * c + n % c = n % (b * c) := by
  have e1 : n = c * (n / c) + n % c := (Int.mul_ediv_add_emod n c).symm
  have e2 : n / c = b * (n / c / b) + (n / c) % b := (Int.mul_ediv_add_emod (n / c) b).symm
  have hr1 := Int.emod_nonneg n (show c ≠ 0 by omega)
  have hr2 := Int.emod_lt_of_pos n hc
  have hs1 := Int.emod_nonneg (n / c) (show b ≠ 0 by omega)
  have hs2 := Int.emod_lt_of_pos (n / c) hb
  generalize hq : n / c / b = q at *
  generalize hs : (n / c) % b = s at *
  generalize hr : n % c = r at *
  have e3 : n = s * c + r + b * c * q := by
   rw [e2] at e1
   have : c * (b * q + s) = s * c + b * c * q := by
    rw [Int.mul_add, Int.mul_comm c s, ← Int.mul_assoc, Int.mul_comm c b]; omega
   omega
  have hlt : s * c + r < b * c := by
   have : (s + 1) * c ≤ b * c := Int.mul_le_mul_of_nonneg_right (by omega) (by omega)
   rw [Int.add_mul] at this
   omega
  have h0 : 0 ≤ s * c + r := by
   have := Int.mul_nonneg hs1 (show 0 ≤ c by omega)
   omega
  rw [e3, Int.add_mul_emod_self_left]
  exact (Int.emod_eq_of_lt h0 hlt).symm

theorem placeI_stands : ∀ (xs : List Int) (n : Int), Dims xs → placeI xs (standsI xs n) = n % prodI xs
 | [], n, _ => by simp [placeI, prodI, Int.emod_one]
 | d :: r, n, h => by
  have hp := h.tail.pos
  have h1 := h.head
  simp only [standsI, placeI, prodI, placeI_stands r n h.tail]
  exact ediv_mul_emod n d (prodI r) (by omega) (by omega)

theorem standsI_congr : ∀ (xs : List Int) (n m : Int), Dims xs → n % prodI xs = m % prodI xs → standsI xs n = standsI xs m
 | [], _, _, _, _ => rfl
 | d :: r, n, m, h, e => by
  have hp := h.tail.pos
  have h1 := h.head
  have e1 := ediv_mul_emod n d (prodI r) (by omega) (by omega)
  have e2 := ediv_mul_emod m d (prodI r) (by omega) (by omega)
  simp only [prodI] at e
  rw [e, ← e2] at e1
  have a1 := Int.emod_nonneg n (show prodI r ≠ 0 by omega)
  have a2 := Int.emod_lt_of_pos n (show 0 < prodI r by omega)
  have b1 := Int.emod_nonneg m (show prodI r ≠ 0 by omega)
  have b2 := Int.emod_lt_of_pos m (show 0 < prodI r by omega)
  have q : (n / prodI r) % d = (m / prodI r) % d ∧ n % prodI r = m % prodI r := by
   generalize (n / prodI r) % d = x at *
   generalize (m / prodI r) % d = y at *
   generalize n % prodI r = u at *
   generalize m % prodI r = v at *
   generalize prodI r = c at *
   have hxy : x = y := by
    rcases Int.lt_trichotomy x y with hlt | heq | hgt
    ·have : (x + 1) * c ≤ y * c := Int.mul_le_mul_of_nonneg_right (by omega) (by omega)
     rw [Int.add_mul] at this
     omega
    ·exact heq
    ·have : (y + 1) * c ≤ x * c := Int.mul_le_mul_of_nonneg_right (by omega) (by omega)
     rw [Int.add_mul] at this
     omega
   subst hxy
   exact ⟨rfl, by omega⟩
  simp only [standsI, q.1, standsI_congr r n m h.tail q.2]

theorem stands_front (xs : List Int) (n : Int) (k : Nat) (hd : Dims xs) (hk : k < xs.length) :
  (n % prodI (xs.drop k)) / prodI (xs.drop (k + 1)) = (n / prodI (xs.drop (k + 1))) % xs[k] ∧
  (n % prodI (xs.drop k)) % prodI (xs.drop (k + 1)) = n % prodI (xs.drop (k + 1)) := by
 have hp := (hd.drop (k + 1)).pos
 have h1 := hd.at hk
 rw [prodI_drop_succ xs k hk]
 have e := ediv_mul_emod n xs[k] (prodI (xs.drop (k + 1))) (by omega) (by omega)
 have r1 := Int.emod_nonneg n (show prodI (xs.drop (k + 1)) ≠ 0 by omega)
 have r2 := Int.emod_lt_of_pos n (show 0 < prodI (xs.drop (k + 1)) by omega)
 rw [← e]
 constructor
 ·rw [Int.add_comm, Int.add_mul_ediv_right _ _ (by omega), Int.ediv_eq_zero_of_lt r1 r2]
  omega
 ·rw [Int.add_comm, Int.add_mul_emod_self_right, Int.emod_eq_of_lt r1 r2]

theorem ediv_ediv_drop (xs : List Int) (n : Int) (k : Nat) (hd : Dims xs) (hk : k < xs.length) :
  n / prodI (xs.drop (k + 1)) / xs[k] = n / prodI (xs.drop k) := by
 have hp := (hd.drop (k + 1)).pos
 rw [Int.ediv_ediv_of_nonneg (by omega), prodI_drop_succ xs k hk, Int.mul_comm]

def padI (n : Nat) (xs : List Int) : List Int := List.replicate (n - xs.length) 1 ++ xs
theorem padI_length (n : Nat) (xs : List Int) (h : xs.length ≤ n) : (padI n xs).length = n := by simp [padI]; omega
def dimI (xs : List Int) (k : Nat) : Int := if k < xs.length then xs[xs.length - 1 - k]?.getD 0 else 1
theorem padI_get (n : Nat) (xs : List Int) (k : Nat) (h : xs.length ≤ n) (hk : k < n) : (padI n xs)[k]? = some (dimI xs (n - 1 - k)) := by
 unfold padI dimI
 by_cases hc : n - 1 - k < xs.length
 ·rw [if_pos hc, List.getElem?_append_right (by simp; omega)]
  have e : xs.length - 1 - (n - 1 - k) = k - (n - xs.length) := by omega
  rw [e, List.length_replicate, List.getElem?_eq_getElem (by omega)]
  rfl
 ·rw [if_neg hc, List.getElem?_append_left (by rw [List.length_replicate]; omega), List.getElem?_replicate, if_pos (by omega)]

def meetB (x y : Int) : Bool := (x == y || x == 1) || y == 1
def spreadL (a b : List Int) : List Int := List.zipWith max (padI (max a.length b.length) a) (padI (max a.length b.length) b)
def meetsB (a b : List Int) : Bool := (List.zipWith meetB (padI (max a.length b.length) a) (padI (max a.length b.length) b)).all id
theorem spreadL_length (a b : List Int) : (spreadL a b).length = max a.length b.length := by
 simp only [spreadL, List.length_zipWith]
 rw [padI_length _ a (by omega), padI_length _ b (by omega)]
 omega
theorem spreadL_get (a b : List Int) (k : Nat) (hk : k < max a.length b.length) :
  (spreadL a b)[k]? = some (max (dimI a (max a.length b.length - 1 - k)) (dimI b (max a.length b.length - 1 - k))) := by
 rw [spreadL, List.getElem?_zipWith, padI_get _ a k (by omega) hk, padI_get _ b k (by omega) hk]
def spreadE (a b : List Int) : Int := if meetsB a b then (if goodB (spreadL a b) then 0 else 5) else 2
def spreadR (a b : List Int) : List Int := if spreadE a b = 0 then spreadL a b else []

end Go.Rt
