/- Plain: greatest words and where they stand first; sums over windows. No program in sight. -/
import Derived.Test.YtmjcpgfekpedkaaPoH
set_option linter.unusedVariables false
set_option linter.unusedSimpArgs false
namespace Go.Proofs.Ytmjcpgfekpedkaa
open Go.RowKit Go.Rt
def yAt (ys : List Int) (a : Int) : Int := ys[a.toNat]?.getD 0
/-- The better of two places: the greater word, or the one that stands first; below 0: none yet. -/
def bst (ys : List Int) (b a : Int) : Int := if 0 ≤ b ∧ (yAt ys a < yAt ys b ∨ (yAt ys a = yAt ys b ∧ b < a)) then b else a
def pickI (ys l : List Int) : Int := l.foldl (bst ys) (-1)
theorem pick_nil (ys : List Int) : pickI ys [] = -1 := rfl
theorem pick_snoc (ys l : List Int) (a : Int) : pickI ys (l ++ [a]) = bst ys (pickI ys l) a := by
  unfold pickI
  rw [List.foldl_append]
  rfl
theorem bst_or (ys : List Int) (b a : Int) : bst ys b a = b ∨ bst ys b a = a := by
  unfold bst
  split
  · exact .inl rfl
  · exact .inr rfl
theorem list_snoc_induction {P : List Int → Prop} (h0 : P []) (h1 : ∀ l a, P l → P (l ++ [a])) (l : List Int) : P l := by
  rw [← List.reverse_reverse l]
  induction l.reverse with
  | nil => exact h0
  | cons a l ih => rw [List.reverse_cons]; exact h1 _ _ ih
theorem pick_or (ys l : List Int) : (pickI ys l = -1 ∧ l = []) ∨ pickI ys l ∈ l := by
  refine list_snoc_induction (P := fun l => (pickI ys l = -1 ∧ l = []) ∨ pickI ys l ∈ l) (.inl ⟨rfl, rfl⟩) (fun l a ih => ?_) l
  refine .inr ?_
  rw [pick_snoc]
  rcases ih with ⟨h1, rfl⟩ | h
  · have : bst ys (pickI ys []) a = a := by unfold bst; rw [if_neg (by rw [pick_nil]; omega)]
    rw [this]; simp
  · rcases bst_or ys (pickI ys l) a with e | e <;> rw [e]
    · exact List.mem_append_left _ h
    · simp
/-- The places of one word's taps lie in the tensor. -/
theorem plcs_bound {wv : WinV} (hR : wv.R) {N M n R : Nat} (hM : prodI wv.L = (M : Int)) (hn : n < R * N) (t : Nat) : ∀ p ∈ wv.plcs N M n t, 0 ≤ p ∧ p < (R * M : Nat) := by
  intro p hp
  unfold WinV.plcs at hp
  obtain ⟨j, hj, he⟩ := List.mem_filterMap.1 hp
  split at he
  · next hb =>
    injection he with he
    have hw := WinV.wI_bound hR hb
    rw [hM] at hw
    have hq : n / N < R := Nat.div_lt_of_lt_mul (by rw [Nat.mul_comm]; exact hn)
    have h2 : (n / N + 1) * M ≤ R * M := Nat.mul_le_mul_right M hq
    rw [Nat.add_mul, Nat.one_mul] at h2
    generalize n / N * M = q at *
    generalize R * M = r at *
    omega
  · cases he
theorem plcs_some {wv : WinV} (hR : wv.R) (hok : wv.okB = true) (hD : Dims wv.O) (hf : wv.fullB = true) {T : Nat} (hT : prodI wv.K = (T : Int)) (N M n : Nat) : wv.plcs N M n T ≠ [] := by
  obtain ⟨t, ht, hb⟩ := WinV.full_some hR hok hD hf (n % N)
  intro h
  have : (((n / N * M : Nat) : Int) + wv.wI (n % N) t) ∈ wv.plcs N M n T := by
    unfold WinV.plcs
    exact List.mem_filterMap.2 ⟨t, List.mem_range.2 (by omega), by rw [if_pos hb]⟩
  rw [h] at this
  cases this
/-- Where the n-th word's greatest tap stands first. -/
def mpI (wv : WinV) (N M T : Nat) (ys : List Int) (n : Nat) : Int := pickI ys (wv.plcs N M n T)
theorem mpI_bound {wv : WinV} (hR : wv.R) (hok : wv.okB = true) (hD : Dims wv.O) (hf : wv.fullB = true) {T : Nat} (hT : prodI wv.K = (T : Int)) {N M n R : Nat} (hM : prodI wv.L = (M : Int)) (hn : n < R * N) (ys : List Int) : mpI wv N M T ys n ∈ wv.plcs N M n T ∧ 0 ≤ mpI wv N M T ys n ∧ mpI wv N M T ys n < (R * M : Nat) := by
  rcases pick_or ys (wv.plcs N M n T) with ⟨_, h⟩ | h
  · exact absurd h (plcs_some hR hok hD hf hT N M n)
  · exact ⟨h, plcs_bound hR hM hn T _ h⟩
def upto (f : Nat → Int) (n : Nat) : Nat → Int := fun k => if k < n then f k else 0
theorem upto_zero (f : Nat → Int) : upto f 0 = fun _ => 0 := by funext k; unfold upto; rw [if_neg (by omega)]
theorem upto_all (f : Nat → Int) (N : Nat) : (List.range N).map (upto f N) = (List.range N).map f := by
  refine List.map_congr_left fun k hk => ?_
  unfold upto
  rw [if_pos (List.mem_range.1 hk)]
theorem upto_set (f : Nat → Int) {n N : Nat} (hn : n < N) : (((List.range N).map (upto f n)).map (Value.int .i64)).set n (.int .i64 (f n)) = ((List.range N).map (upto f (n + 1))).map (Value.int .i64) := by
  refine List.ext_getElem (by simp) fun i h1 h2 => ?_
  rw [List.getElem_set]
  simp only [List.getElem_map, List.getElem_range]
  unfold upto
  split
  · next h => subst h; rw [if_pos (by omega)]
  · next h =>
    by_cases hi : i < n
    · rw [if_pos hi, if_pos (by omega)]
    · rw [if_neg hi, if_neg (by omega)]
theorem range_zeroP (N : Nat) : (List.range N).map (fun _ => (0 : Int)) = List.replicate N 0 := by
  refine List.ext_getElem (by simp) fun i h1 h2 => ?_
  simp
theorem upto_get (f : Nat → Int) {n k N : Nat} (hk : k < N) : (((List.range N).map (upto f n)).map (Value.int .i64))[k]? = some (.int .i64 (upto f n k)) := by
  rw [List.getElem?_map, List.getElem?_map, List.getElem?_range hk]
  rfl
end Go.Proofs.Ytmjcpgfekpedkaa
