/- Plain: windows of one tap. No program in sight. -/
import Derived.Test.YtmjcpgfekpedkaaPoU
set_option linter.unusedVariables false
set_option linter.unusedSimpArgs false
namespace Go.Proofs.Ytmjcpgfekpedkaa
open Go.RowKit Go.Rt
/-- A window of one tap. -/
def oneW (xs : List Int) : WinV := ⟨xs.drop 2, List.replicate (xs.length - 2) 1, List.replicate (xs.length - 2) 1, List.replicate (xs.length - 2) 0, List.replicate (xs.length - 2) 1⟩
theorem rep_get {r i : Nat} (x : Int) (h : i < r) : (List.replicate r x)[i]?.getD 0 = x := by
  rw [List.getElem?_replicate, if_pos h]; rfl
theorem prod_ones : ∀ r : Nat, prodI (List.replicate r 1) = 1
  | 0 => rfl
  | r + 1 => by rw [List.replicate_succ]; simp only [prodI]; rw [prod_ones r]; rfl
theorem one_room (xs : List Int) {i : Nat} (h : i < (oneW xs).L.length) : (oneW xs).room i = (oneW xs).L[i]?.getD 0 - 1 := by
  have hl : i < xs.length - 2 := by simpa [oneW] using h
  unfold WinV.room
  have e1 : (oneW xs).P[i]?.getD 0 = 0 := rep_get 0 hl
  have e2 : (oneW xs).D[i]?.getD 0 = 1 := rep_get 1 hl
  have e3 : (oneW xs).K[i]?.getD 0 = 1 := rep_get 1 hl
  rw [e1, e2, e3]
  omega
theorem one_out (xs : List Int) {i : Nat} (h : i < (oneW xs).L.length) : (oneW xs).out i = (oneW xs).L[i]?.getD 0 := by
  have hl : i < xs.length - 2 := by simpa [oneW] using h
  unfold WinV.out
  have e2 : (oneW xs).S[i]?.getD 0 = 1 := rep_get 1 hl
  rw [one_room xs h, e2, Int.ediv_one]
  omega
theorem one_O (xs : List Int) : (oneW xs).O = (oneW xs).L := by
  refine List.ext_getElem (by rw [WinV.O_len]) (fun i h1 h2 => ?_)
  have h3 := (oneW xs).O_get h2
  rw [List.getElem?_eq_getElem h1, one_out xs h2, List.getElem?_eq_getElem h2] at h3
  simpa using h3
theorem one_S {xs : List Int} (h2 : 2 ≤ xs.length) : poS xs (oneW xs) = xs := by
  unfold poS
  rw [one_O]
  match xs, h2 with
  | a :: b :: r, _ => rfl
theorem one_R {xs : List Int} (hg : goodB xs = true) (h2 : 3 ≤ xs.length) : (oneW xs).R := by
  have hd := goodB_dims hg
  have h4 := (goodB_iff.1 hg).1
  have hl : (oneW xs).L.length = xs.length - 2 := by simp [oneW]
  refine ⟨by omega, by rw [hl]; simp [oneW], by rw [hl]; simp [oneW], by rw [hl]; simp [oneW], by rw [hl]; simp [oneW], fun i hi => ?_, fun i hi => ?_, fun i hi => ?_, fun i hi => ?_, fun i hi => ?_⟩
  · have hm := List.getElem_mem hi
    have := hd _ (List.mem_of_mem_drop hm)
    rw [List.getElem?_eq_getElem hi]
    exact this
  all_goals rw [hl] at hi
  · rw [show (oneW xs).K[i]?.getD 0 = 1 from rep_get 1 hi]; omega
  · rw [show (oneW xs).S[i]?.getD 0 = 1 from rep_get 1 hi]; omega
  · rw [show (oneW xs).P[i]?.getD 0 = 0 from rep_get 0 hi]; omega
  · rw [show (oneW xs).D[i]?.getD 0 = 1 from rep_get 1 hi]; omega
theorem one_ok {xs : List Int} (hg : goodB xs = true) (h2 : 3 ≤ xs.length) : (oneW xs).okB = true := by
  have hR := one_R hg h2
  refine List.all_eq_true.2 fun i hi => decide_eq_true ?_
  have hi := List.mem_range.1 hi
  rw [one_room xs hi]
  have := hR.dl i hi
  omega
theorem one_full {xs : List Int} (hg : goodB xs = true) (h2 : 3 ≤ xs.length) : (oneW xs).fullB = true := by
  refine List.all_eq_true.2 fun i hi => List.all_eq_true.2 fun p hp => ?_
  have hi := List.mem_range.1 hi
  have hl : i < xs.length - 2 := by simpa [oneW] using hi
  have hp := List.mem_range.1 hp
  rw [one_out xs hi] at hp
  have e1 : (oneW xs).P[i]?.getD 0 = 0 := rep_get 0 hl
  have e2 : (oneW xs).D[i]?.getD 0 = 1 := rep_get 1 hl
  have e3 : (oneW xs).K[i]?.getD 0 = 1 := rep_get 1 hl
  have e4 : (oneW xs).S[i]?.getD 0 = 1 := rep_get 1 hl
  rw [e1, e2, e3, e4]
  refine List.any_eq_true.2 ⟨0, List.mem_range.2 (by decide), ?_⟩
  simp only [Bool.and_eq_true, decide_eq_true_eq]
  omega
theorem one_num {xs : List Int} (hg : goodB xs = true) (h2 : 3 ≤ xs.length) : numB true (oneW xs).K (oneW xs).S (oneW xs).P (oneW xs).D = true := by
  have h4 := (goodB_iff.1 hg).1
  refine num_iff.2 ⟨⟨by simp [oneW]; omega, by simp [oneW]; omega, by simp [oneW], by simp [oneW], fun _ => by simp [oneW], fun h => by cases h⟩, ?_, ?_, ?_, ?_⟩
  all_goals
    intro x hx
    simp only [oneW] at hx
    have := (List.mem_replicate.1 hx).2
    omega
theorem one_Z {xs ys : List Int} (ht : tenB xs ys = true) (h2 : 3 ≤ xs.length) : winZ xs ys (oneW xs) = 0 := by
  have hg := (tenB_iff.1 ht).1
  unfold winZ outZ
  rw [if_pos ht, if_pos (one_num hg h2), if_pos (by simp [oneW]; omega), one_ok hg h2, one_full hg h2, Bool.and_true, if_pos (by rfl), one_S (by omega), if_pos hg]
/-- The only tap of the p-th place. -/
theorem one_tap {xs : List Int} (hg : goodB xs = true) (h2 : 3 ≤ xs.length) (p : Nat) (hp : (p : Int) < prodI (oneW xs).L) : (oneW xs).wB p 0 = true ∧ (oneW xs).wI p 0 = p := by
  have hR := one_R hg h2
  have hw := standsI_within (oneW xs).L (p : Int) hR.dims
  have hx : ∀ i, i < (oneW xs).L.length → (oneW xs).x (standsI (oneW xs).O (p : Int)) (standsI (oneW xs).K ((0 : Nat) : Int)) i = (standsI (oneW xs).L (p : Int))[i]?.getD 0 := fun i hi => by
    have hl : i < xs.length - 2 := by simpa [oneW] using hi
    have e1 : (oneW xs).P[i]?.getD 0 = 0 := rep_get 0 hl
    have e2 : (oneW xs).D[i]?.getD 0 = 1 := rep_get 1 hl
    have e4 : (oneW xs).S[i]?.getD 0 = 1 := rep_get 1 hl
    have e5 : (standsI (oneW xs).K ((0 : Nat) : Int))[i]?.getD 0 = 0 := by
      rw [standsI_get _ _ i (by simpa [oneW] using hl)]
      simp
    unfold WinV.x
    rw [e1, e2, e4, e5, one_O]
    omega
  have hst : (oneW xs).stB (standsI (oneW xs).O (p : Int)) (standsI (oneW xs).K ((0 : Nat) : Int)) = true := by
    refine WinV.st_iff.2 fun i hi => ?_
    rw [hx i hi]
    exact getD_within hw hi
  refine ⟨hst, ?_⟩
  unfold WinV.wI WinV.stI
  have e : (oneW xs).xs (standsI (oneW xs).O (p : Int)) (standsI (oneW xs).K ((0 : Nat) : Int)) = standsI (oneW xs).L (p : Int) := by
    refine List.ext_getElem (by rw [WinV.xs_len, standsI_length]) (fun i h1 h2 => ?_)
    have h3 := (oneW xs).xs_get (standsI (oneW xs).O (p : Int)) (standsI (oneW xs).K ((0 : Nat) : Int)) (i := i) (by rw [WinV.xs_len] at h1; exact h1)
    rw [List.getElem?_eq_getElem h1, hx i (by rw [WinV.xs_len] at h1; exact h1), List.getElem?_eq_getElem h2] at h3
    simpa using h3
  rw [e, placeI_stands _ _ hR.dims]
  exact Int.emod_eq_of_lt (by omega) hp
/-- A window of one tap changes nothing. -/
theorem one_all {xs ys : List Int} (ht : tenB xs ys = true) (h2 : 3 ≤ xs.length) : winZ xs ys (oneW xs) = 0 ∧ poS xs (oneW xs) = xs ∧ (List.range (poN xs (oneW xs))).map (poV ys (oneW xs)) = ys ∧ (List.range (poN xs (oneW xs))).map (poA ys (oneW xs)) = ys ∧ goodB (oneW xs).K = true := by
  have hz := one_Z ht h2
  have hg := (tenB_iff.1 ht).1
  have hR := one_R hg h2
  have hS := one_S (xs := xs) (by omega)
  have hlen := (tenB_iff.1 ht).2.1
  have hN : poN xs (oneW xs) = ys.length := by unfold poN; rw [hS]; omega
  have hT : prodI (oneW xs).K = 1 := prod_ones _
  have hLp := hR.dims.pos
  have hpl : ∀ n, (oneW xs).plcs (prodI (oneW xs).O).toNat (prodI (oneW xs).L).toNat n (prodI (oneW xs).K).toNat = [(n : Int)] := fun n => by
    rw [hT, one_O]
    show (oneW xs).plcs _ _ n (0 + 1) = _
    obtain ⟨N, hNn⟩ : ∃ N : Nat, prodI (oneW xs).L = (N : Int) := ⟨(prodI (oneW xs).L).toNat, by omega⟩
    rw [hNn] at hLp ⊢
    simp only [Int.toNat_natCast]
    have hm := Nat.mod_lt n (show N > 0 by omega)
    obtain ⟨t1, t2⟩ := one_tap hg h2 (n % N) (by rw [hNn]; omega)
    rw [WinV.plcs_succ, WinV.plcs_zero, if_pos t1, t2]
    have := Nat.div_add_mod n N
    have e : n / N * N + n % N = n := by rw [Nat.mul_comm]; exact this
    rw [List.nil_append]
    congr 1
    omega
  have hv : ∀ n, poV ys (oneW xs) n = ys[n]?.getD 0 := fun n => by
    unfold poV poP mpI
    rw [hpl n]
    unfold pickI bst yAt
    simp
  have ha : ∀ n, poA ys (oneW xs) n = ys[n]?.getD 0 := fun n => by
    unfold poA avI
    rw [hpl n]
    have : sumP ys [(n : Int)] = ys[n]?.getD 0 := by unfold sumP yAt; simp
    rw [this]
    exact round_one _
  have hid : ∀ f : Nat → Int, (∀ n, f n = ys[n]?.getD 0) → (List.range ys.length).map f = ys := fun f hf => by
    refine List.ext_getElem (by simp) (fun i h1 h2 => ?_)
    rw [List.getElem_map, List.getElem_range, hf i, List.getElem?_eq_getElem h2]
    rfl
  refine ⟨hz, hS, ?_, ?_, goodB_iff.2 ⟨?_, hR.dimsK, by omega⟩⟩
  · rw [hN]; exact hid _ hv
  · rw [hN]; exact hid _ ha
  · have := (goodB_iff.1 hg).1
    simp [oneW]
    omega
end Go.Proofs.Ytmjcpgfekpedkaa
