/- Plain laws of sums by one axis, then by another one; of maxima. No walk. -/
import Derived.Test.YtiofodpfjlcebaaRdTn
set_option linter.unusedVariables false
set_option linter.unusedSimpArgs false
namespace Go.Proofs.Ytiofodpfjlcebaa
open Go.RowKit Go.Rt
/-- What the law asks of a greatest word. -/
theorem top_facts {xs ys : List Int} {a : Nat} (ht : tenB xs ys = true) (ha : a < xs.length) (k : Nat) (hk : k < ys.length) :
    (intoI xs [(a : Int)] k = (mxG xs a k : Int) ∧ mxG xs a k < smN xs [(a : Int)]) ∧ ys[k]?.getD 0 ≤ mxT xs ys a ys.length (mxG xs a k) ∧ (ys[k]?.getD 0 = mxT xs ys a ys.length (mxG xs a k) → mxQ xs ys a ys.length (mxG xs a k) ≤ hereI xs a k) ∧ (hereI xs a k = mxQ xs ys a ys.length (mxG xs a k) → ys[k]?.getD 0 = mxT xs ys a ys.length (mxG xs a k)) := by
  have lT := tenB_iff.1 ht
  have hlen := lT.2.1
  have hib := into_bound [(a : Int)] (k : Int) lT.1
  obtain ⟨b1, _⟩ := sm_bounds [(a : Int)] ht
  have hgk : ∀ n : Nat, (mxG xs a n : Int) = intoI xs [(a : Int)] n := fun n => by
    have := into_bound [(a : Int)] (n : Int) lT.1
    show (((intoI xs [(a : Int)] n).toNat : Nat) : Int) = _
    omega
  have h := (mx_inv (g := mxG xs a) (hr := hereI xs a) (ys := ys) (N := ys.length) (fun n hn h0 => by
      obtain ⟨m, hm, he⟩ := here_before lT.1 ha (by omega) h0
      exact ⟨m, hm, by have e1 := hgk m; have e2 := hgk n; omega⟩)
    (fun m n hmn hn he => here_lt lT.1 ha hmn (by omega) (by rw [← hgk m, ← hgk n, he]))
    (fun n hn => (here_bound lT.1 ha).1) (mxG xs a k) ys.length (Nat.le_refl _)).1 k hk rfl
  refine ⟨⟨(hgk k).symm, by have := hgk k; omega⟩, h⟩
theorem sumF_id (f : Nat → Int) (k : Nat) : ∀ n, sumF (fun i => i) f k n = if k < n then f k else 0
  | 0 => rfl
  | n + 1 => by
    rw [sumF, sumF_id f k n]
    by_cases h : n = k
    · subst h; rw [if_pos rfl, if_neg (by omega), if_pos (by omega)]; omega
    · rw [if_neg h]
      by_cases h2 : k < n
      · rw [if_pos h2, if_pos (by omega)]
      · rw [if_neg h2, if_neg (by omega)]
/-- By no axes a tensor is its own sum. -/
theorem sum_nil {xs ys : List Int} (ht : tenB xs ys = true) : smX false xs ys [] = xs ∧ smY false xs ys [] = ys ∧ smZ false xs ys [] = 0 := by
  have lT := tenB_iff.1 ht
  have hP := goodB_prod lT.1
  have hck : ckZ xs ys [] = 0 := by unfold ckZ; rw [if_pos ht, if_pos (by rfl)]
  have hN : smN xs [] = ys.length := by unfold smN; rw [restL_nil]; have := lT.2.1; omega
  have hS : ∀ k, k < ys.length → smR false xs ys [] k = ys[k]?.getD 0 := fun k hk => by
    unfold smR smC smS
    rw [if_neg (by decide)]
    show roundI _ 1 = _
    rw [round_one, sumK_congrG (g' := fun i => i) ys.length fun i hi => by have e := into_nil (n := (i : Int)) lT.1 (by omega) (by have := lT.2.1; omega); show (intoI xs [] i).toNat = i; omega]
    rw [sumK_F, sumF_id, if_pos hk]
  have hZ : smZ false xs ys [] = 0 := by
    unfold smZ rdZ
    rw [if_pos hck, hN, if_pos]
    rw [List.all_eq_true]
    intro k hk
    have hk := List.mem_range.1 hk
    rw [hS k hk, List.getElem?_eq_getElem hk]
    exact lT.2.2 _ (List.getElem_mem hk)
  refine ⟨by unfold smX; rw [hZ, zL_0, restL_nil], ?_, hZ⟩
  unfold smY
  rw [hZ, zL_0, hN, List.map_congr_left fun k hk => hS k (List.mem_range.1 hk)]
  exact range_self ys
/-- By one axis, then by another one before it: by both. -/
theorem sum_twice {xs ys : List Int} {lo hi : Nat} (ht : tenB xs ys = true) (hl : lo < hi) (hh : hi < xs.length) (h1 : smZ false xs ys [(hi : Int)] = 0) (h2 : smZ false xs ys [(lo : Int), (hi : Int)] = 0) :
    smX false (smX false xs ys [(hi : Int)]) (smY false xs ys [(hi : Int)]) [(lo : Int)] = smX false xs ys [(lo : Int), (hi : Int)] ∧
    smY false (smX false xs ys [(hi : Int)]) (smY false xs ys [(hi : Int)]) [(lo : Int)] = smY false xs ys [(lo : Int), (hi : Int)] ∧
    smZ false (smX false xs ys [(hi : Int)]) (smY false xs ys [(hi : Int)]) [(lo : Int)] = 0 := by
  have lT := tenB_iff.1 ht
  have hck2 : ckZ xs ys [(lo : Int), (hi : Int)] = 0 := by
    unfold ckZ
    rw [if_pos ht, if_pos]
    simp only [axB, Bool.and_true, Bool.and_eq_true, decide_eq_true_eq]
    omega
  have hck1 : ckZ xs ys [(hi : Int)] = 0 := by
    unfold ckZ
    rw [if_pos ht, if_pos]
    simp only [axB, Bool.and_true, Bool.and_eq_true, decide_eq_true_eq]
    omega
  have eX : smX false xs ys [(hi : Int)] = restL xs [(hi : Int)] := by unfold smX; rw [h1, zL_0]
  have eY : smY false xs ys [(hi : Int)] = (List.range (smN xs [(hi : Int)])).map (smR false xs ys [(hi : Int)]) := by unfold smY; rw [h1, zL_0]
  obtain ⟨b1, b2, b3, b4, _⟩ := sm_bounds [(hi : Int)] ht
  have hall : ∀ k, k < smN xs [(hi : Int)] → isW (smR false xs ys [(hi : Int)] k) = true := fun k hk => by
    unfold smZ at h1
    rw [if_pos hck1] at h1
    unfold rdZ at h1
    split at h1
    · next h => exact List.all_eq_true.1 h k (List.mem_range.2 hk)
    · exact absurd h1 (by decide)
  have hR : ∀ ax k, smR false xs ys ax k = smS xs ys ax k := fun ax k => by
    unfold smR smC
    rw [if_neg (by decide)]
    exact round_one _
  rw [eX, eY]
  obtain ⟨S, hS⟩ : ∃ S, restL xs [(hi : Int)] = S := ⟨_, rfl⟩
  obtain ⟨W, hW⟩ : ∃ W, (List.range (smN xs [(hi : Int)])).map (smR false xs ys [(hi : Int)]) = W := ⟨_, rfl⟩
  rw [hS, hW]
  have hWl : W.length = smN xs [(hi : Int)] := by rw [← hW]; simp
  have hWg : ∀ m, m < smN xs [(hi : Int)] → W[m]?.getD 0 = smS xs ys [(hi : Int)] m := fun m hm => by
    rw [← hW, List.getElem?_map, List.getElem?_range hm, ← hR]
    rfl
  have hgS : goodB S = true := by rw [← hS]; exact restL_good lT.1
  have hSl : lo < S.length := by
    rw [← hS, restL_one, List.length_eraseIdx]
    split <;> omega
  have htS : tenB S W = true := tenB_iff.2 ⟨hgS, by rw [hWl, ← hS, b1], fun y hy => by
    rw [← hW] at hy
    obtain ⟨k, hk, rfl⟩ := List.mem_map.1 hy
    exact hall k (List.mem_range.1 hk)⟩
  have hckS : ckZ S W [(lo : Int)] = 0 := by
    unfold ckZ
    rw [if_pos htS, if_pos]
    simp only [axB, Bool.and_true, Bool.and_eq_true, decide_eq_true_eq]
    omega
  have hrest : restL S [(lo : Int)] = restL xs [(lo : Int), (hi : Int)] := by rw [← hS]; exact restL_rest xs lo hi hl
  have hN : smN S [(lo : Int)] = smN xs [(lo : Int), (hi : Int)] := by unfold smN; rw [hrest]
  have hsum : ∀ k, smS S W [(lo : Int)] k = smS xs ys [(lo : Int), (hi : Int)] k := fun k => by
    unfold smS
    rw [hWl, sumK_F, sumK_F, sumF_congr (f' := fun m => sumF (fun n => (intoI xs [(hi : Int)] n).toNat) (fun i => ys[i]?.getD 0) m ys.length) _ fun m hm => by rw [hWg m hm]; unfold smS; rw [sumK_F]]
    rw [sum_sum ys.length fun n hn => by have := into_bound [(hi : Int)] (n : Int) lT.1; omega]
    refine sumF_congrG _ fun n hn => ?_
    have hb := into_bound [(hi : Int)] (n : Int) lT.1
    have e := into_into lo hi (n : Int) lT.1 hl
    rw [hS] at e
    have e2 : (((intoI xs [(hi : Int)] n).toNat : Nat) : Int) = intoI xs [(hi : Int)] n := by omega
    show (intoI S [(lo : Int)] (((intoI xs [(hi : Int)] n).toNat : Nat) : Int)).toNat = _
    rw [e2, e]
  have hRS : ∀ k, smR false S W [(lo : Int)] k = smR false xs ys [(lo : Int), (hi : Int)] k := fun k => by
    unfold smR smC
    rw [if_neg (by decide), if_neg (by decide), hsum k]
  have hZ : smZ false S W [(lo : Int)] = 0 := by
    rw [← h2]
    unfold smZ rdZ
    rw [if_pos hckS, if_pos hck2, hN, show smR false S W [(lo : Int)] = smR false xs ys [(lo : Int), (hi : Int)] from funext hRS]
  refine ⟨by unfold smX; rw [hZ, h2, zL_0, zL_0, hrest], ?_, hZ⟩
  unfold smY
  rw [hZ, h2, zL_0, zL_0, hN, show smR false S W [(lo : Int)] = smR false xs ys [(lo : Int), (hi : Int)] from funext hRS]
theorem sm_wf (m : Bool) (xs ys axes : List Int) : (∀ v ∈ smX m xs ys axes, (Lit.int .i64 v).wf = true) ∧ (∀ v ∈ smY m xs ys axes, (Lit.int .i64 v).wf = true) := by
  unfold smX smY
  by_cases hz : smZ m xs ys axes = 0
  · rw [hz, zL_0, zL_0]
    unfold smZ at hz
    by_cases hc : ckZ xs ys axes = 0
    · rw [if_pos hc] at hz
      have hg := goodB_dims (restL_good (axes := axes) (tenB_iff.1 (ckZ_ok hc).1).1)
      refine ⟨wf_dims (fun x hx => by have := hg x hx; omega), fun v hv => ?_⟩
      obtain ⟨k, hk, rfl⟩ := List.mem_map.1 hv
      unfold rdZ at hz
      split at hz
      · next hall =>
        have := isW_iff.1 (List.all_eq_true.1 hall k hk)
        exact wf_i64_iff.2 ⟨by omega, by omega⟩
      · exact absurd hz (by decide)
    · rw [if_neg hc] at hz
      exact absurd hz hc
  · rw [zL_ne _ hz, zL_ne _ hz]
    exact ⟨by simp, by simp⟩
theorem mxK_wf {g : Nat → Nat} {hr : Nat → Int} {ys : List Int} (hy : ∀ n : Nat, isW (ys[n]?.getD 0) = true) (hh : ∀ n, 0 ≤ hr n ∧ hr n < 4097) (k : Nat) : ∀ n, isW (mxK g hr ys k n).1 = true ∧ 0 ≤ (mxK g hr ys k n).2 ∧ (mxK g hr ys k n).2 < 4097
  | 0 => ⟨by show isW 0 = true; decide, Int.le_refl 0, by show (0 : Int) < 4097; decide⟩
  | n + 1 => by
    have ih := mxK_wf (g := g) hy hh k n
    rw [mxK]
    split
    · unfold mxS
      split
      · exact ⟨hy n, hh n⟩
      · exact ih
    · exact ih
theorem mx_wf (xs ys : List Int) (x : Int) : (∀ v ∈ mxX xs ys x, (Lit.int .i64 v).wf = true) ∧ (∀ v ∈ mxY xs ys x, (Lit.int .i64 v).wf = true) ∧ (∀ v ∈ mxP xs ys x, (Lit.int .i64 v).wf = true) := by
  unfold mxX mxY mxP mxZ
  by_cases hc : ckZ xs ys [x] = 0
  · rw [hc, zL_0, zL_0, zL_0]
    obtain ⟨ht, hax⟩ := ckZ_ok hc
    have lT := tenB_iff.1 ht
    have hg := goodB_dims (restL_good (axes := [x]) lT.1)
    have hb : 0 ≤ x ∧ x < xs.length := by
      simp only [axB, Bool.and_true, Bool.and_eq_true, decide_eq_true_eq] at hax
      omega
    have hal : x.toNat < xs.length := by omega
    have hy : ∀ n : Nat, isW (ys[n]?.getD 0) = true := fun n => by
      by_cases hn : n < ys.length
      · rw [List.getElem?_eq_getElem hn]; exact lT.2.2 _ (List.getElem_mem hn)
      · rw [List.getElem?_eq_none (by omega)]; decide
    have hh : ∀ n, 0 ≤ hereI xs x.toNat n ∧ hereI xs x.toNat n < 4097 := fun n => by
      have h1 := here_bound (n := n) lT.1 hal
      have h2 := (goodB_dims lT.1).at hal
      rw [List.getElem?_eq_getElem hal, Option.getD_some] at h1
      omega
    refine ⟨wf_dims (fun x hx => by have := hg x hx; omega), fun v hv => ?_, fun v hv => ?_⟩
    · obtain ⟨k, hk, rfl⟩ := List.mem_map.1 hv
      have := isW_iff.1 (mxK_wf (g := mxG xs x.toNat) hy hh k ys.length).1
      exact wf_i64_iff.2 ⟨by show _ ≤ (mxK _ _ _ _ _).1; omega, by show (mxK _ _ _ _ _).1 ≤ _; omega⟩
    · obtain ⟨k, hk, rfl⟩ := List.mem_map.1 hv
      have := (mxK_wf (g := mxG xs x.toNat) hy hh k ys.length).2
      exact wf_i64_iff.2 ⟨by show _ ≤ (mxK _ _ _ _ _).2; omega, by show (mxK _ _ _ _ _).2 ≤ _; omega⟩
  · rw [zL_ne _ hc, zL_ne _ hc, zL_ne _ hc]
    exact ⟨by simp, by simp, by simp⟩

/-- What is told of a greatest word, in letters. -/
theorem top_letters {xs ys : List Int} {al : Nat} (ht : tenB xs ys = true) (ha : al < xs.length) : ∃ S T Q : List Int, restL xs [(al : Int)] = S ∧ (List.range (smN xs [(al : Int)])).map (mxT xs ys al ys.length) = T ∧ (List.range (smN xs [(al : Int)])).map (mxQ xs ys al ys.length) = Q ∧
    (Q.length = T.length ∧ 1 ≤ T.length ∧ countE S = (T.length : Int)) ∧ ((∀ v ∈ S, (Lit.int .i64 v).wf = true) ∧ (∀ v ∈ T, (Lit.int .i64 v).wf = true) ∧ (∀ v ∈ Q, (Lit.int .i64 v).wf = true)) ∧ Dims S ∧
    ∀ k : Nat, k < ys.length → ∃ m : Nat, ∃ q h y t : Int, intoI xs [(al : Int)] k = (m : Int) ∧ m < T.length ∧ T[m]? = some t ∧ Q[m]? = some q ∧ (standsI xs k)[al]? = some h ∧ ys[k]?.getD 0 = y ∧ ¬ t < y ∧ (h < q → y ≠ t) ∧ (h = q → y = t) := by
  have lT := tenB_iff.1 ht
  have hck : ckZ xs ys [(al : Int)] = 0 := by
    unfold ckZ
    rw [if_pos ht, if_pos]
    simp only [axB, Bool.and_true, Bool.and_eq_true, decide_eq_true_eq]
    omega
  obtain ⟨b1, b2, _⟩ := sm_bounds [(al : Int)] ht
  obtain ⟨w1, w2, w3⟩ := mx_wf xs ys (al : Int)
  unfold mxX mxZ at w1
  unfold mxY mxZ at w2
  unfold mxP mxZ at w3
  rw [hck, zL_0] at w1 w2 w3
  have hg := restL_good (axes := [(al : Int)]) lT.1
  refine ⟨_, _, _, rfl, rfl, rfl, ⟨by simp, by simpa using b2, by rw [countE_good hg, b1]; simp⟩, ⟨w1, w2, w3⟩, goodB_dims hg, fun k hk => ?_⟩
  obtain ⟨⟨h1, h2⟩, h3, h4, h5⟩ := top_facts ht ha k hk
  have hal : al < (standsI xs (k : Int)).length := by rw [standsI_length]; exact ha
  have e : (standsI xs (k : Int))[al]?.getD 0 = hereI xs al k := rfl
  rw [List.getElem?_eq_getElem hal, Option.getD_some] at e
  refine ⟨mxG xs al k, mxQ xs ys al ys.length (mxG xs al k), hereI xs al k, ys[k]?.getD 0, mxT xs ys al ys.length (mxG xs al k), h1, by simpa using h2, ?_, ?_, ?_, rfl, by omega, fun h6 h7 => by have := h4 h7; omega, fun h6 => h5 h6⟩
  · rw [List.getElem?_map, List.getElem?_range h2]; rfl
  · rw [List.getElem?_map, List.getElem?_range h2]; rfl
  · rw [List.getElem?_eq_getElem hal, e]
end Go.Proofs.Ytiofodpfjlcebaa
