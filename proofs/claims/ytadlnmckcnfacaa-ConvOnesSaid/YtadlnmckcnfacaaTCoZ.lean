/- Plain: a convolution by a kernel of one tap, 1 from a channel to itself. No program in sight. -/
import Derived.Test.YtadlnmckcnfacaaTCoB
import Derived.Test.YtadlnmckcnfacaaTCoQ
import Derived.Test.YtadlnmckcnfacaaTCoA
set_option linter.unusedVariables false
set_option linter.unusedSimpArgs false
namespace Go.Proofs.Ytadlnmckcnfacaa
open Go.RowKit Go.Rt
/-- A window of one tap. -/
def oneW (xs : List Int) : WinV := ⟨xs.drop 2, List.replicate (xs.length - 2) 1, List.replicate (xs.length - 2) 1, List.replicate (xs.length - 2) 0, List.replicate (xs.length - 2) 1⟩
theorem rep_get {r i : Nat} (x : Int) (h : i < r) : (List.replicate r x)[i]?.getD 0 = x := by
  rw [List.getElem?_replicate, if_pos h]; rfl
theorem prod_ones : ∀ r : Nat, prodI (List.replicate r 1) = 1
  | 0 => rfl
  | r + 1 => by rw [List.replicate_succ]; simp only [prodI]; rw [prod_ones r]; rfl
theorem one_room (xs : List Int) {i : Nat} (h : i < (oneW xs).L.length) : (oneW xs).room i = (oneW xs).L[i]?.getD 0 - 1 := by
  have hl : i < xs.length - 2 := by simpa [oneW] using h
  unfold WinV.room
  have e1 : (oneW xs).P[i]?.getD 0 = 0 := rep_get 0 hl
  have e2 : (oneW xs).D[i]?.getD 0 = 1 := rep_get 1 hl
  have e3 : (oneW xs).K[i]?.getD 0 = 1 := rep_get 1 hl
  rw [e1, e2, e3]
  omega
theorem one_out (xs : List Int) {i : Nat} (h : i < (oneW xs).L.length) : (oneW xs).out i = (oneW xs).L[i]?.getD 0 := by
  have hl : i < xs.length - 2 := by simpa [oneW] using h
  unfold WinV.out
  have e2 : (oneW xs).S[i]?.getD 0 = 1 := rep_get 1 hl
  rw [one_room xs h, e2, Int.ediv_one]
  omega
theorem one_O (xs : List Int) : (oneW xs).O = (oneW xs).L := by
  refine List.ext_getElem (by rw [WinV.O_len]) (fun i h1 h2 => ?_)
  have h3 := (oneW xs).O_get h2
  rw [List.getElem?_eq_getElem h1, one_out xs h2, List.getElem?_eq_getElem h2] at h3
  simpa using h3
theorem one_R {xs : List Int} (hg : goodB xs = true) (h2 : 3 ≤ xs.length) : (oneW xs).R := by
  have hd := goodB_dims hg
  have h4 := (goodB_iff.1 hg).1
  have hl : (oneW xs).L.length = xs.length - 2 := by simp [oneW]
  refine ⟨by omega, by rw [hl]; simp [oneW], by rw [hl]; simp [oneW], by rw [hl]; simp [oneW], by rw [hl]; simp [oneW], fun i hi => ?_, fun i hi => ?_, fun i hi => ?_, fun i hi => ?_, fun i hi => ?_⟩
  · have hm := List.getElem_mem hi
    have := hd _ (List.mem_of_mem_drop hm)
    rw [List.getElem?_eq_getElem hi]
    exact this
  all_goals rw [hl] at hi
  · rw [show (oneW xs).K[i]?.getD 0 = 1 from rep_get 1 hi]; omega
  · rw [show (oneW xs).S[i]?.getD 0 = 1 from rep_get 1 hi]; omega
  · rw [show (oneW xs).P[i]?.getD 0 = 0 from rep_get 0 hi]; omega
  · rw [show (oneW xs).D[i]?.getD 0 = 1 from rep_get 1 hi]; omega
theorem one_ok {xs : List Int} (hg : goodB xs = true) (h2 : 3 ≤ xs.length) : (oneW xs).okB = true := by
  have hR := one_R hg h2
  refine List.all_eq_true.2 fun i hi => decide_eq_true ?_
  have hi := List.mem_range.1 hi
  rw [one_room xs hi]
  have := hR.dl i hi
  omega
/-- The only tap of the p-th place. -/
theorem one_tap {xs : List Int} (hg : goodB xs = true) (h2 : 3 ≤ xs.length) (p : Nat) (hp : (p : Int) < prodI (oneW xs).L) : (oneW xs).wB p 0 = true ∧ (oneW xs).wI p 0 = p := by
  have hR := one_R hg h2
  have hw := standsI_within (oneW xs).L (p : Int) hR.dims
  have hx : ∀ i, i < (oneW xs).L.length → (oneW xs).x (standsI (oneW xs).O (p : Int)) (standsI (oneW xs).K ((0 : Nat) : Int)) i = (standsI (oneW xs).L (p : Int))[i]?.getD 0 := fun i hi => by
    have hl : i < xs.length - 2 := by simpa [oneW] using hi
    have e1 : (oneW xs).P[i]?.getD 0 = 0 := rep_get 0 hl
    have e2 : (oneW xs).D[i]?.getD 0 = 1 := rep_get 1 hl
    have e4 : (oneW xs).S[i]?.getD 0 = 1 := rep_get 1 hl
    have e5 : (standsI (oneW xs).K ((0 : Nat) : Int))[i]?.getD 0 = 0 := by
      rw [standsI_get _ _ i (by simpa [oneW] using hl)]
      simp
    unfold WinV.x
    rw [e1, e2, e4, e5, one_O]
    omega
  have hst : (oneW xs).stB (standsI (oneW xs).O (p : Int)) (standsI (oneW xs).K ((0 : Nat) : Int)) = true := by
    refine WinV.st_iff.2 fun i hi => ?_
    rw [hx i hi]
    exact getD_within hw hi
  refine ⟨hst, ?_⟩
  unfold WinV.wI WinV.stI
  have e : (oneW xs).xs (standsI (oneW xs).O (p : Int)) (standsI (oneW xs).K ((0 : Nat) : Int)) = standsI (oneW xs).L (p : Int) := by
    refine List.ext_getElem (by rw [WinV.xs_len, standsI_length]) (fun i h1 h2 => ?_)
    have h3 := (oneW xs).xs_get (standsI (oneW xs).O (p : Int)) (standsI (oneW xs).K ((0 : Nat) : Int)) (i := i) (by rw [WinV.xs_len] at h1; exact h1)
    rw [List.getElem?_eq_getElem h1, hx i (by rw [WinV.xs_len] at h1; exact h1), List.getElem?_eq_getElem h2] at h3
    simpa using h3
  rw [e, placeI_stands _ _ hR.dims]
  exact Int.emod_eq_of_lt (by omega) hp
theorem roundI_mul (y p : Int) (hp : 1 ≤ p) : roundI (y * p) p = y := by
  have ep : absI p = p := by unfold absI; rw [if_neg (by omega)]
  have ea : absI (y * p) = absI y * p := by
    unfold absI
    by_cases h : y < 0
    · rw [if_pos h, if_pos (Int.mul_neg_of_neg_of_pos h (by omega)), Int.neg_mul]
    · rw [if_neg h, if_neg]
      have := Int.mul_nonneg (show 0 ≤ y by omega) (show 0 ≤ p by omega)
      omega
  have e1 : absI y * p / p = absI y := Int.mul_ediv_cancel _ (by omega)
  have e2 : absI y * p % p = 0 := Int.mul_emod_left _ _
  have eu : upR (absI y) 0 p = false := by
    unfold upR
    simp
    omega
  unfold roundI
  rw [ea, ep, e1, e2, eu]
  have hp0 : decide (p < 0) = false := by simp; omega
  rw [hp0]
  by_cases h : y < 0
  · have : y * p < 0 := Int.mul_neg_of_neg_of_pos h (by omega)
    rw [decide_eq_true this]
    simp [absI, h]
  · have : ¬ y * p < 0 := by
      have := Int.mul_nonneg (show 0 ≤ y by omega) (show 0 ≤ p by omega)
      omega
    rw [decide_eq_false this]
    simp [absI, h]
theorem pow2_pos (n : Nat) : (1 : Int) ≤ 2 ^ n := by
  have := Nat.pow_pos (n := n) (show 0 < 2 by decide)
  rw [← castPow]
  omega
theorem shI_one (y : Int) (f : Nat) : shI (y * 2 ^ f) f = y := roundI_mul y _ (pow2_pos f)

/-- The kernel's shape and words. -/
def oneS (n r : Nat) : List Int := (n : Int) :: (n : Int) :: List.replicate r 1
def oneD (n f : Nat) : List Int := (List.range (n * n)).map fun i => if i / n = i % n then 2 ^ f else 0
theorem oneS_prod (n r : Nat) : prodI (oneS n r) = ((n * n : Nat) : Int) := by
  unfold oneS
  simp only [prodI]
  rw [prod_ones]
  simp
theorem pow_word (f : Nat) (h : f ≤ 32) : (1 : Int) ≤ 2 ^ f ∧ (2 : Int) ^ f ≤ 4294967296 := by
  refine ⟨pow2_pos f, ?_⟩
  have h1 := Nat.pow_le_pow_right (show 0 < 2 by decide) h
  have h2 : ((2 ^ f : Nat) : Int) = (2 : Int) ^ f := by simp
  rw [← h2]
  have h3 : (2 : Nat) ^ 32 = 4294967296 := by decide
  omega
theorem oneS_good {n r : Nat} (h1 : 1 ≤ n) (h2 : n ≤ 10) (hr : r ≤ 2) : goodB (oneS n r) = true := by
  refine goodB_iff.2 ⟨by simp [oneS]; omega, fun x hx => ?_, ?_⟩
  · unfold oneS at hx
    rcases List.mem_cons.1 hx with rfl | hx
    · omega
    · rcases List.mem_cons.1 hx with rfl | hx
      · omega
      · have := (List.mem_replicate.1 hx).2; omega
  · rw [oneS_prod]
    have := Nat.mul_le_mul h2 h2
    omega
theorem oneD_word {n f : Nat} (h : f ≤ 32) : ∀ y ∈ oneD n f, isW y = true := fun y hy => by
  obtain ⟨i, _, rfl⟩ := List.mem_map.1 hy
  have := pow_word f h
  split
  · exact isW_iff.2 ⟨by omega, by omega⟩
  · decide
theorem oneD_get {n f out k : Nat} (ho : out < n) (hk : k < n) : (oneD n f)[out * n + k]?.getD 0 = if k = out then (2 : Int) ^ f else 0 := by
  have hi : out * n + k < n * n := by
    have := Nat.mul_le_mul_right n (show out + 1 ≤ n by omega)
    rw [Nat.succ_mul] at this; omega
  unfold oneD
  rw [List.getElem?_map, List.getElem?_range hi, Option.map_some, Option.getD_some]
  have e1 : (out * n + k) / n = out := by rw [Nat.mul_comm, Nat.mul_add_div (by omega), Nat.div_eq_of_lt hk, Nat.add_zero]
  have e2 : (out * n + k) % n = k := by rw [Nat.mul_comm, Nat.mul_add_mod, Nat.mod_eq_of_lt hk]
  rw [e1, e2]
  by_cases h : k = out
  · rw [if_pos h, if_pos h.symm]
  · rw [if_neg h, if_neg (fun q => h q.symm)]
theorem ones_in (ys : List Int) {n f M one out p : Nat} (ho : out < n) : ∀ k, k ≤ n → cvIn ys (oneD n f) n M 1 one out p 0 k = if out < k then (ys[(one * n + out) * M + p]?.getD 0) * 2 ^ f else 0
  | 0, _ => by simp [cvIn]
  | k + 1, hk => by
    rw [cvIn, ones_in ys ho k (by omega), Nat.mul_one, Nat.add_zero, oneD_get ho (by omega)]
    by_cases h1 : out < k
    · rw [if_pos h1, if_neg (show ¬ k = out by omega), if_pos (show out < k + 1 by omega)]; simp
    · by_cases h2 : k = out
      · subst h2
        rw [if_neg (by omega), if_pos rfl, if_pos (by omega)]; simp
      · rw [if_neg h1, if_neg h2, if_neg (by omega)]; simp
theorem map_id_words (ys : List Int) (f : Nat → Int) (h : ∀ j, j < ys.length → f j = ys[j]?.getD 0) : (List.range ys.length).map f = ys := by
  refine List.ext_getElem (by simp) (fun i h1 h2 => ?_)
  rw [List.getElem_map, List.getElem_range, h i h2, List.getElem?_eq_getElem h2]
  rfl
theorem one_num0 {xs : List Int} (hg : goodB xs = true) (h2 : 3 ≤ xs.length) : numB false [] (oneW xs).S (oneW xs).P (oneW xs).D = true := by
  have h4 := (goodB_iff.1 hg).1
  refine num_iff.2 ⟨⟨by simp [oneW]; omega, by simp [oneW]; omega, by simp [oneW], by simp [oneW], fun h => (by cases h), fun _ => rfl⟩, ?_, ?_, ?_, ?_⟩
  · intro x hx
    simp only [oneW] at hx
    have := (List.mem_replicate.1 hx).2
    omega
  · intro x hx
    simp only [oneW] at hx
    have := (List.mem_replicate.1 hx).2
    omega
  · intro x hx
    simp only [oneW] at hx
    have := (List.mem_replicate.1 hx).2
    omega
  · intro x hx
    cases hx
/-- All that ConvOnes asks of a tensor. -/
theorem ones_all {xs ys : List Int} {n f : Nat} (ht : tenB xs ys = true) (h3 : 3 ≤ xs.length) (hn : xs[1]?.getD 0 = (n : Int)) (h10 : n ≤ 10) (f1 : 8 ≤ f) (f2 : f ≤ 32) (h60 : ys.length ≤ 60) :
    tenB (oneS n (xs.length - 2)) (oneD n f) = true ∧ (oneW xs).K = (oneS n (xs.length - 2)).drop 2 ∧ cvZ xs ys (oneS n (xs.length - 2)) (oneD n f) [] (oneW xs) (f : Int) = 0 ∧ coS xs (oneS n (xs.length - 2)) (oneW xs) = xs ∧
    (List.range (cvN xs (oneS n (xs.length - 2)) (oneW xs))).map (cvW xs ys (oneS n (xs.length - 2)) (oneD n f) (oneW xs) f) = ys ∧
    clZ xs ys [] (oneW xs) = 0 ∧ colZ xs (oneW xs).K (oneW xs) = 0 ∧ clWs xs ys (oneW xs) = ys ∧ bkWs xs ys (oneW xs) = ys := by
  have tx := tenB_iff.1 ht
  have hg := tx.1
  have hR := one_R hg h3
  have hok := one_ok hg h3
  have h4 := (goodB_iff.1 hg).1
  have hd := goodB_dims hg
  have hd0 := hd _ (getD_mem (l := xs) (i := 0) (by omega))
  have hd1 := hd _ (getD_mem (l := xs) (i := 1) (by omega))
  have hnum := one_num0 hg h3
  rw [hn] at hd1
  have hn1 : 1 ≤ n := by omega
  have hw : tenB (oneS n (xs.length - 2)) (oneD n f) = true := tenB_iff.2 ⟨oneS_good hn1 h10 (by omega), by rw [oneS_prod]; simp [oneD], oneD_word f2⟩
  have hcos : coS xs (oneS n (xs.length - 2)) (oneW xs) = xs := by
    unfold coS
    rw [one_O]
    have h := two_front (xs := xs) (by omega)
    rw [hn] at h
    exact h.symm
  have hSl : (oneW xs).S.length = xs.length - 2 := by simp [oneW]
  have hKl : (oneW xs).K.length = xs.length - 2 := by simp [oneW]
  have hcz : coutZ xs (oneS n (xs.length - 2)) (oneW xs) = 0 := by
    unfold coutZ
    rw [if_pos ⟨by rw [hSl]; omega, by simp [oneS]; omega, by rw [hn]; rfl⟩, hok, if_pos rfl, hcos, hg]
    rfl
  have hform : formZ xs ys (oneS n (xs.length - 2)) (oneD n f) [] (oneW xs) (f : Int) = true := by
    unfold formZ
    rw [ht, hw, hnum]
    simp
    omega
  have hT : prodI (oneW xs).K = 1 := prod_ones _
  have hLp := hR.dims.pos
  obtain ⟨M, hM⟩ : ∃ M : Nat, prodI (oneW xs).L = (M : Int) := ⟨(prodI (oneW xs).L).toNat, by omega⟩
  have hM1 : 1 ≤ M := by omega
  have hlen : prodI xs = (ys.length : Int) := tx.2.1.symm
  have hpx := prod_two (xs := xs) (by omega)
  have hpx2 : prodI xs = xs[0]?.getD 0 * ((n : Int) * (M : Int)) := by rw [hpx, hn, ← hM]; rfl
  obtain ⟨R, hRe⟩ : ∃ R : Nat, xs[0]?.getD 0 = (R : Int) := ⟨(xs[0]?.getD 0).toNat, by omega⟩
  have hyl : ys.length = R * (n * M) := by
    have : ((ys.length : Nat) : Int) = ((R * (n * M) : Nat) : Int) := by rw [← hlen, hpx2, hRe]; simp only [Int.natCast_mul]
    omega
  have htap := fun (p : Nat) (hp : p < M) => one_tap hg h3 p (by rw [hM]; omega)
  have hvj : ∀ j, cvW xs ys (oneS n (xs.length - 2)) (oneD n f) (oneW xs) f j = ys[j]?.getD 0 := fun j => by
    have hp := Nat.mod_lt j (show M > 0 by omega)
    have ho := Nat.mod_lt (j / M) (show n > 0 by omega)
    obtain ⟨t1, t2⟩ := htap (j % M) hp
    unfold cvW cvG
    rw [one_O, hM, hT, hn, show (oneS n (xs.length - 2))[0]?.getD 0 = (n : Int) from rfl]
    simp only [Int.toNat_natCast]
    show shI (cvSum (oneW xs) ys (oneD n f) n M 1 (j % M) (j / M / n) (j / M % n) (0 + 1)) f = _
    rw [cvSum, if_pos t1, t2, cvSum, Int.toNat_natCast, ones_in ys ho n (Nat.le_refl _), if_pos ho, Int.zero_add, shI_one]
    have e1 := Nat.div_add_mod j M
    have e2 := Nat.div_add_mod (j / M) n
    rw [show (j / M / n * n + j / M % n) * M + j % M = j by rw [Nat.mul_comm (j / M / n) n, e2, Nat.mul_comm (j / M) M, e1]]
  have hcN : cvN xs (oneS n (xs.length - 2)) (oneW xs) = ys.length := by unfold cvN; rw [hcos, hlen, Int.toNat_natCast]
  have hyw : ∀ j, isW (ys[j]?.getD 0) = true := fun j => isW_iff.2 (get_word tx.2.2 j)
  have hall : allW xs ys (oneS n (xs.length - 2)) (oneD n f) (oneW xs) f = true := List.all_eq_true.2 fun j _ => by rw [hvj]; exact hyw j
  have hcv : cvZ xs ys (oneS n (xs.length - 2)) (oneD n f) [] (oneW xs) (f : Int) = 0 := by
    unfold cvZ
    rw [if_pos hform, if_pos hcz, Int.toNat_natCast, if_pos hall]
  have hcS : colS xs (oneW xs) = [(R : Int), (n : Int), (M : Int)] := by unfold colS; rw [hRe, hn, hT, one_O, hM, Int.mul_one]
  have hnM : n * M ≤ R * (n * M) := Nat.le_mul_of_pos_left _ (by omega)
  have hMn : M ≤ n * M := Nat.le_mul_of_pos_left _ (by omega)
  have hgS : goodB (colS xs (oneW xs)) = true := by
    rw [hcS]
    refine goodB_iff.2 ⟨by simp, (fun z hz => by simp at hz; rcases hz with rfl | rfl | rfl <;> omega), ?_⟩
    have : prodI [(R : Int), (n : Int), (M : Int)] = ((R * (n * M) : Nat) : Int) := by simp [prodI]
    rw [this]; omega
  have hpS : prodI (colS xs (oneW xs)) = (ys.length : Int) := by
    rw [hcS, hyl]; simp [prodI]
  have hK1 : (oneW xs).K.all (okI 1) = true := List.all_eq_true.2 fun x hx => by
    have := (List.mem_replicate.1 hx).2
    exact okI_iff.2 (by omega)
  have hcolz : colZ xs (oneW xs).K (oneW xs) = 0 := by
    unfold colZ
    rw [if_pos ⟨by rw [hSl]; omega, by rw [hKl, hSl]⟩, hok, if_pos rfl, hgS]
    rfl
  have hclz : clZ xs ys [] (oneW xs) = 0 := by
    unfold clZ clForm
    rw [ht, hK1, hnum]
    exact hcolz
  have hcl : ∀ j, clW ys (oneW xs) M 1 M j = ys[j]?.getD 0 := fun j => by
    have hp := Nat.mod_lt j (show M > 0 by omega)
    obtain ⟨t1, t2⟩ := htap (j % M) hp
    unfold clW
    rw [Nat.mod_one, if_pos t1, t2, Nat.div_one, Int.toNat_natCast]
    have e1 := Nat.div_add_mod j M
    rw [show j / M * M + j % M = j by rw [Nat.mul_comm]; exact e1]
  have hbk : ∀ j, j < ys.length → bkA ys (oneW xs) M 1 M ys.length j = ys[j]?.getD 0 := fun j hj => by
    unfold bkA
    rw [sumB_one ys.length hj (g := fun _ => 0) (fun i hi hne => by
      have hp := Nat.mod_lt i (show M > 0 by omega)
      obtain ⟨t1, t2⟩ := htap (i % M) hp
      rw [if_neg]
      rintro ⟨_, h⟩
      unfold bkT at h
      rw [Nat.mod_one, t2, Nat.div_one, Int.toNat_natCast] at h
      have e1 := Nat.div_add_mod i M
      rw [Nat.mul_comm] at h
      omega), sumB_zero]
    have hp := Nat.mod_lt j (show M > 0 by omega)
    obtain ⟨t1, t2⟩ := htap (j % M) hp
    have e1 := Nat.div_add_mod j M
    rw [if_pos ⟨by unfold bkI; rw [Nat.mod_one]; exact t1, by unfold bkT; rw [Nat.mod_one, t2, Nat.div_one, Int.toNat_natCast, Nat.mul_comm]; exact e1⟩]
    omega
  refine ⟨hw, rfl, hcv, hcos, ?_, hclz, hcolz, ?_, ?_⟩
  · rw [hcN]; exact map_id_words ys _ (fun j _ => hvj j)
  · unfold clWs clN
    rw [hpS, one_O, hM, hT]
    simp only [Int.toNat_natCast]
    exact map_id_words ys _ (fun j _ => hcl j)
  · unfold bkWs
    rw [hpS, hlen, one_O, hM, hT]
    simp only [Int.toNat_natCast]
    exact map_id_words ys _ hbk
end Go.Proofs.Ytadlnmckcnfacaa
