import Derived.Test.YtadlnmckcnfacaaUBase
set_option linter.unusedVariables false
set_option linter.unusedSimpArgs false
namespace Go.Rt

def prodI : List Int → Int
 | [] => 1
 | d :: r => d * prodI r
def dimOk (d : Int) : Bool := decide (1 ≤ d) && decide (d ≤ 4096)
def goodB (xs : List Int) : Bool := decide (xs.length ≤ 4) && (xs.all dimOk && decide (prodI xs ≤ 65536))
def withinB : List Int → List Int → Bool
 | [], [] => true
 | d :: r, i :: s => (decide (0 ≤ i) && decide (i < d)) && withinB r s
 | _, _ => false
def placeI : List Int → List Int → Int
 | d :: r, i :: s => i * prodI r + placeI r s
 | _, _ => 0
def standsI : List Int → Int → List Int
 | [], _ => []
 | d :: r, n => (n / prodI r) % d :: standsI r n

theorem prodI_append : ∀ xs ys, prodI (xs ++ ys) = prodI xs * prodI ys
 | [], ys => by simp [prodI]
 | d :: r, ys => by simp [prodI, prodI_append r ys, Int.mul_assoc]

theorem dimOk_iff {d : Int} : dimOk d = true ↔ 1 ≤ d ∧ d ≤ 4096 := by simp [dimOk]

theorem prodI_pos : ∀ xs : List Int, (∀ d ∈ xs, 1 ≤ d) → 1 ≤ prodI xs
 | [], _ => by simp [prodI]
 | d :: r, h => by
  have h1 := h d (List.mem_cons_self ..)
  have h2 := prodI_pos r (fun x hx => h x (List.mem_cons_of_mem _ hx))
  have := Int.mul_le_mul h1 h2 (by omega) (by omega)
  simpa [prodI] using this

def Dims (xs : List Int) : Prop := ∀ d ∈ xs, 1 ≤ d ∧ d ≤ 4096

theorem Dims.pos {xs : List Int} (h : Dims xs) : 1 ≤ prodI xs := prodI_pos xs (fun d hd => (h d hd).1)
theorem Dims.take {xs : List Int} (h : Dims xs) (k : Nat) : Dims (xs.take k) := fun d hd => h d (List.mem_of_mem_take hd)
theorem Dims.drop {xs : List Int} (h : Dims xs) (k : Nat) : Dims (xs.drop k) := fun d hd => h d (List.mem_of_mem_drop hd)
theorem Dims.tail {d : Int} {r : List Int} (h : Dims (d :: r)) : Dims r := fun x hx => h x (List.mem_cons_of_mem _ hx)
theorem Dims.head {d : Int} {r : List Int} (h : Dims (d :: r)) : 1 ≤ d ∧ d ≤ 4096 := h d (List.mem_cons_self ..)

theorem prodI_split (xs : List Int) (k : Nat) : prodI xs = prodI (xs.take k) * prodI (xs.drop k) := by
 rw [← prodI_append, List.take_append_drop]

theorem prodI_take_le {xs : List Int} (h : Dims xs) (k : Nat) : prodI (xs.take k) ≤ prodI xs := by
 have h1 := (h.take k).pos
 have h2 := (h.drop k).pos
 rw [prodI_split xs k]
 have := Int.mul_le_mul (Int.le_refl (prodI (xs.take k))) h2 (by omega) (by omega)
 simpa using this

theorem prodI_le_pow : ∀ xs : List Int, Dims xs → prodI xs ≤ 4096 ^ xs.length
 | [], _ => by simp [prodI]
 | d :: r, h => by
  have h1 := h.head
  have h2 := prodI_le_pow r h.tail
  have h3 := h.tail.pos
  have := Int.mul_le_mul h1.2 h2 (by omega) (by omega)
  simp only [prodI, List.length_cons, Int.pow_succ]
  omega

theorem goodB_iff {xs : List Int} : goodB xs = true ↔ xs.length ≤ 4 ∧ Dims xs ∧ prodI xs ≤ 65536 := by
 simp [goodB, Dims, dimOk]

theorem goodB_dims {xs : List Int} (h : goodB xs = true) : Dims xs := (goodB_iff.1 h).2.1
theorem goodB_prod {xs : List Int} (h : goodB xs = true) : 1 ≤ prodI xs ∧ prodI xs ≤ 65536 := ⟨(goodB_dims h).pos, (goodB_iff.1 h).2.2⟩

theorem take_snoc {α : Type} (xs : List α) (k : Nat) (h : k < xs.length) : xs.take (k + 1) = xs.take k ++ [xs[k]] := by
 rw [List.take_succ_eq_append_getElem h]
theorem drop_cons {α : Type} (xs : List α) (k : Nat) (h : k < xs.length) : xs.drop k = xs[k] :: xs.drop (k + 1) := by
 rw [List.drop_eq_getElem_cons h]

theorem prodI_take_succ (xs : List Int) (k : Nat) (h : k < xs.length) : prodI (xs.take (k + 1)) = prodI (xs.take k) * xs[k] := by
 rw [take_snoc xs k h, prodI_append]
 simp [prodI]
theorem prodI_drop_succ (xs : List Int) (k : Nat) (h : k < xs.length) : prodI (xs.drop k) = xs[k] * prodI (xs.drop (k + 1)) := by
 rw [drop_cons xs k h, prodI]

theorem Dims.at {xs : List Int} (h : Dims xs) {k : Nat} (hk : k < xs.length) : 1 ≤ xs[k] ∧ xs[k] ≤ 4096 := h _ (List.getElem_mem hk)

theorem withinB_iff : ∀ {xs is : List Int}, withinB xs is = true ↔ is.length = xs.length ∧ ∀ k, k < xs.length → 0 ≤ is[k]?.getD 0 ∧ is[k]?.getD 0 < xs[k]?.getD 0
 | [], [] => by simp [withinB]
 | [], _ :: _ => by simp [withinB]
 | _ :: _, [] => by simp [withinB]
 | d :: r, i :: s => by
  simp only [withinB, Bool.and_eq_true, decide_eq_true_eq, withinB_iff (xs := r) (is := s), List.length_cons, Nat.add_right_cancel_iff]
  constructor
  ·rintro ⟨h1, h2, h3⟩
   refine ⟨h2, fun k hk => ?_⟩
   cases k with
   | zero => simpa using h1
   | succ k => simpa using h3 k (by omega)
  ·rintro ⟨h2, h3⟩
   refine ⟨by simpa using h3 0 (by omega), h2, fun k hk => ?_⟩
   simpa using h3 (k + 1) (by omega)

theorem placeI_snoc : ∀ (xs is : List Int) (d i : Int), is.length = xs.length → placeI (xs ++ [d]) (is ++ [i]) = placeI xs is * d + i
 | [], [], d, i, _ => by simp [placeI, prodI]
 | x :: xs, j :: is, d, i, h => by
  have := placeI_snoc xs is d i (by simpa using h)
  simp only [List.cons_append, placeI, this, prodI_append, prodI, Int.mul_one, Int.add_mul]
  rw [Int.mul_assoc, Int.add_assoc]
 | [], _ :: _, _, _, h => by simp at h
 | _ :: _, [], _, _, h => by simp at h

theorem placeI_bound : ∀ (xs is : List Int), Dims xs → withinB xs is = true → 0 ≤ placeI xs is ∧ placeI xs is < prodI xs
 | [], [], _, _ => by simp [placeI, prodI]
 | d :: r, i :: s, hd, h => by
  simp only [withinB, Bool.and_eq_true, decide_eq_true_eq] at h
  have ih := placeI_bound r s hd.tail h.2
  have hp := hd.tail.pos
  simp only [placeI, prodI]
  have h1 : 0 ≤ i * prodI r := Int.mul_nonneg h.1.1 (by omega)
  have h2 : (i + 1) * prodI r ≤ d * prodI r := Int.mul_le_mul_of_nonneg_right (by omega) (by omega)
  rw [Int.add_mul] at h2
  omega
 | [], _ :: _, _, h => by simp [withinB] at h
 | _ :: _, [], _, h => by simp [withinB] at h

theorem placeI_take_succ (xs is : List Int) (k : Nat) (hk : k < xs.length) (hl : is.length = xs.length) :
  placeI (xs.take (k + 1)) (is.take (k + 1)) = placeI (xs.take k) (is.take k) * xs[k] + is[k]'(by omega) := by
 rw [take_snoc xs k hk, take_snoc is k (by omega)]
 exact placeI_snoc _ _ _ _ (by simp; omega)

theorem standsI_length : ∀ (xs : List Int) (n : Int), (standsI xs n).length = xs.length
 | [], _ => rfl
 | _ :: r, n => by simp [standsI, standsI_length r n]
theorem standsI_get : ∀ (xs : List Int) (n : Int) (k : Nat) (hk : k < xs.length), (standsI xs n)[k]? = some ((n / prodI (xs.drop (k + 1))) % xs[k])
 | d :: r, n, 0, _ => by simp [standsI]
 | d :: r, n, k + 1, h => by
  have := standsI_get r n k (by simpa using h)
  simpa [standsI] using this
theorem standsI_within : ∀ (xs : List Int) (n : Int), Dims xs → withinB xs (standsI xs n) = true
 | [], _, _ => rfl
 | d :: r, n, h => by
  have h1 := h.head
  simp only [standsI, withinB, standsI_within r n h.tail, Bool.and_true, Bool.and_eq_true, decide_eq_true_eq]
  exact ⟨Int.emod_nonneg _ (by omega), Int.emod_lt_of_pos _ (by omega)⟩

theorem ediv_ediv_drop (xs : List Int) (n : Int) (k : Nat) (hd : Dims xs) (hk : k < xs.length) :
  n / prodI (xs.drop (k + 1)) / xs[k] = n / prodI (xs.drop k) := by
 have hp := (hd.drop (k + 1)).pos
 rw [Int.ediv_ediv_of_nonneg (by omega), prodI_drop_succ xs k hk, Int.mul_comm]

end Go.Rt
