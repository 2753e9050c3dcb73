/- Plain: one window that is the whole of a row. No program in sight. -/
import Derived.Test.YtmjcpgfekpedkaaPoY
import Derived.Test.YtmjcpgfekpedkaaRdX
set_option linter.unusedVariables false
set_option linter.unusedSimpArgs false
namespace Go.Proofs.Ytmjcpgfekpedkaa
open Go.RowKit Go.Rt
/-- The window that is a row of n. -/
def wholeW (n s : Int) : WinV := ⟨[n], [n], [s], [0], [1]⟩
theorem list3 {α : Type} {l : List α} (h : l.length = 3) : ∃ a b c, l = [a, b, c] := by
  match l, h with
  | [a, b, c], _ => exact ⟨a, b, c, rfl⟩
theorem row_ind (ys : List Int) (b : Nat) : ∀ m, 1 ≤ m → ∃ p, p < m ∧ ((List.range m).map fun (r : Nat) => (ys[b + r]?.getD 0, (r : Int))).foldl (fun st p => mxS p.1 p.2 st) (0, 0) = (ys[b + p]?.getD 0, (p : Int)) ∧ ((List.range m).map fun (r : Nat) => ((b : Int) + (r : Int))).foldl (bst ys) (-1) = (b : Int) + (p : Int)
  | 0, h => by omega
  | 1, _ => ⟨0, by omega, by simp [mxS], by simp [bst]⟩
  | m + 2, _ => by
    obtain ⟨p, hp, h1, h2⟩ := row_ind ys b (m + 1) (by omega)
    rw [List.range_succ, List.map_append, List.map_append, List.foldl_append, List.foldl_append, h1, h2]
    simp only [List.map_cons, List.map_nil, List.foldl_cons, List.foldl_nil]
    have ya : ∀ r : Nat, yAt ys ((b : Int) + (r : Int)) = ys[b + r]?.getD 0 := fun r => by
      unfold yAt
      rw [show ((b : Int) + (r : Int)).toNat = b + r by omega]
    unfold mxS bst
    rw [ya p]
    have ya1 := ya (m + 1)
    rw [ya1]
    by_cases hc : ys[b + p]?.getD 0 < ys[b + (m + 1)]?.getD 0
    · refine ⟨m + 1, by omega, ?_, ?_⟩
      · rw [if_pos (.inr hc)]
      · rw [if_neg]
        rintro ⟨_, h | h⟩ <;> omega
    · refine ⟨p, by omega, ?_, ?_⟩
      · rw [if_neg]
        rintro (h | h)
        · omega
        · exact hc h
      · rw [if_pos]
        refine ⟨by omega, ?_⟩
        by_cases he : ys[b + (m + 1)]?.getD 0 < ys[b + p]?.getD 0
        · exact .inl he
        · exact .inr ⟨by omega, by omega⟩
theorem row_sum (ys : List Int) (b : Nat) : ∀ m, sumP ys ((List.range m).map fun (r : Nat) => ((b : Int) + (r : Int))) = lsum ((List.range m).map fun (r : Nat) => ys[b + r]?.getD 0)
  | 0 => rfl
  | m + 1 => by
    rw [List.range_succ, List.map_append, List.map_append, List.map_cons, List.map_nil, List.map_cons, List.map_nil, sum_snoc, lsum_snoc, row_sum ys b m]
    unfold yAt
    rw [show ((b : Int) + (m : Int)).toNat = b + m by omega]
section
variable {P Q n : Nat} {ys : List Int}
theorem w3_rest : restL [(P : Int), (Q : Int), (n : Int)] [2] = [(P : Int), (Q : Int)] := by
  have h := restL_one [(P : Int), (Q : Int), (n : Int)] 2
  simpa using h
theorem w3_here (i : Nat) : hereI [(P : Int), (Q : Int), (n : Int)] 2 i = ((i % n : Nat) : Int) := by
  unfold hereI
  rw [standsI_get _ _ 2 (by simp)]
  simp [prodI]
theorem w3_into (hg : Dims [(P : Int), (Q : Int), (n : Int)]) (i : Nat) (hi : i < P * Q * n) : (intoI [(P : Int), (Q : Int), (n : Int)] [2] (i : Int)).toNat = i / n := by
  have hp : prodI [(P : Int), (Q : Int), (n : Int)] = ((P * Q * n : Nat) : Int) := by
    simp only [prodI, Int.mul_one, Int.natCast_mul, Int.mul_assoc]
  have h1 := placeI_stands [(P : Int), (Q : Int), (n : Int)] (i : Int) hg
  rw [hp, ← Int.natCast_emod, Nat.mod_eq_of_lt hi] at h1
  have hs : standsI [(P : Int), (Q : Int), (n : Int)] (i : Int) = (standsI [(P : Int), (Q : Int), (n : Int)] (i : Int)).eraseIdx 2 ++ [((i % n : Nat) : Int)] := by
    simp [standsI, prodI]
  have h2 := restL_one (standsI [(P : Int), (Q : Int), (n : Int)] (i : Int)) 2
  unfold intoI
  rw [w3_rest, show ([(2 : Int)] : List Int) = [((2 : Nat) : Int)] from rfl, h2]
  have h3 := placeI_snoc [(P : Int), (Q : Int)] ((standsI [(P : Int), (Q : Int), (n : Int)] (i : Int)).eraseIdx 2) (n : Int) ((i % n : Nat) : Int) (by simp [standsI])
  rw [← hs] at h3
  simp only [List.cons_append, List.nil_append] at h3
  rw [h1] at h3
  generalize placeI [(P : Int), (Q : Int)] _ = z at h3 ⊢
  have hn : 0 < n := by
    have := hg (n : Int) (by simp); omega
  have h4 := Nat.div_add_mod i n
  have h5 : (i : Int) = ((i / n : Nat) : Int) * (n : Int) + ((i % n : Nat) : Int) := by
    rw [← Int.natCast_mul, ← Int.natCast_add, Nat.mul_comm]; congr 1; exact h4.symm
  have h6 : z * (n : Int) = ((i / n : Nat) : Int) * (n : Int) := by omega
  have h7 := Int.eq_of_mul_eq_mul_right (show (n : Int) ≠ 0 by omega) h6
  rw [h7]
  exact Int.toNat_natCast _
theorem w3_fib (hg : Dims [(P : Int), (Q : Int), (n : Int)]) (hn : 0 < n) (g : Nat → Nat) (hgd : ∀ i, i < P * Q * n → g i = i / n) (k : Nat) (hk : k < P * Q) : fibL g k (P * Q * n) = (List.range n).map fun (r : Nat) => k * n + r := by
  have h := fib_row n k hn (P * Q)
  rw [if_pos hk] at h
  rw [← h]
  unfold fibL
  refine List.filter_congr fun i hi => ?_
  rw [hgd i (List.mem_range.1 hi)]
/-- The places of the k-th window: the k-th row's. -/
theorem w3_plcs {s : Int} (k : Nat) : ∀ t, t ≤ n → (wholeW (n : Int) s).plcs 1 n k t = (List.range t).map fun (r : Nat) => (((k * n : Nat) : Int) + (r : Int))
  | 0, _ => rfl
  | t + 1, ht => by
    have ih := w3_plcs (s := s) k t (by omega)
    have hx : (wholeW (n : Int) s).x (standsI (wholeW (n : Int) s).O ((k % 1 : Nat) : Int)) (standsI (wholeW (n : Int) s).K (t : Int)) 0 = (t : Int) := by
      have e1 : (standsI (wholeW (n : Int) s).O ((k % 1 : Nat) : Int))[0]?.getD 0 = 0 := by
        rw [standsI_get _ _ 0 (by simp [wholeW, WinV.O])]
        simp [Nat.mod_one]
      have e2 : (standsI (wholeW (n : Int) s).K (t : Int))[0]?.getD 0 = (t : Int) := by
        rw [standsI_get _ _ 0 (by simp [wholeW])]
        simp only [wholeW, List.drop_succ_cons, List.drop_nil, prodI, Int.ediv_one, List.getElem_cons_zero, Option.getD_some]
        exact Int.emod_eq_of_lt (by omega) (by omega)
      unfold WinV.x
      rw [e1, e2]
      simp [wholeW]
    have hst : (wholeW (n : Int) s).wB (k % 1) t = true := by
      unfold WinV.wB
      refine WinV.st_iff.2 fun i hi => ?_
      have h0 : i = 0 := by simp [wholeW] at hi; exact hi
      subst h0
      rw [hx]
      simp only [wholeW, List.getElem?_cons_zero, Option.getD_some]
      omega
    have hwi : (wholeW (n : Int) s).wI (k % 1) t = (t : Int) := by
      unfold WinV.wI WinV.stI WinV.xs
      have : (List.range (wholeW (n : Int) s).L.length) = [0] := rfl
      rw [this, List.map_cons, List.map_nil, hx]
      simp [wholeW, placeI, prodI]
    rw [WinV.plcs_succ, if_pos hst, hwi, ih, List.range_succ, List.map_append, List.map_cons, List.map_nil, Nat.div_one]
theorem w3_O {s : Int} (hs : 1 ≤ s) : (wholeW (n : Int) s).O = [1] ∧ (wholeW (n : Int) s).room 0 = 0 := by
  have hr : (wholeW (n : Int) s).room 0 = 0 := by
    unfold WinV.room wholeW
    simp
    omega
  refine ⟨?_, hr⟩
  unfold WinV.O
  have : (List.range (wholeW (n : Int) s).L.length) = [0] := rfl
  rw [this, List.map_cons, List.map_nil]
  unfold WinV.out
  rw [hr]
  simp
/-- All that PoolWhole asks. -/
theorem whole_all {s : Int} (ht : tenB [(P : Int), (Q : Int), (n : Int)] ys = true) (hs : 1 ≤ s) (hs2 : s ≤ 4096) :
    (winZ [(P : Int), (Q : Int), (n : Int)] ys (wholeW n s) = 0 ∧ poN [(P : Int), (Q : Int), (n : Int)] (wholeW n s) = P * Q ∧ goodB (wholeW n s).K = true) ∧
    (mxZ [(P : Int), (Q : Int), (n : Int)] ys 2 = 0 ∧ smZ true [(P : Int), (Q : Int), (n : Int)] ys [2] = 0 ∧ smN [(P : Int), (Q : Int), (n : Int)] [2] = P * Q) ∧
    (1 ≤ n ∧ n ≤ 4096 ∧ P * Q * n ≤ 65536 ∧ ys.length = P * Q * n) ∧
    ∀ k, k < P * Q → (mxT [(P : Int), (Q : Int), (n : Int)] ys 2 ys.length k = poV ys (wholeW n s) k ∧ ∃ m : Nat, m < n ∧ mxQ [(P : Int), (Q : Int), (n : Int)] ys 2 ys.length k = m ∧ poP ys (wholeW n s) k = ((k * n + m : Nat) : Int)) ∧
      smR true [(P : Int), (Q : Int), (n : Int)] ys [2] k = poA ys (wholeW n s) k := by
  have lT := tenB_iff.1 ht
  have hd := goodB_dims lT.1
  have hP := hd (P : Int) (by simp)
  have hQ := hd (Q : Int) (by simp)
  have hn := hd (n : Int) (by simp)
  have hpr := goodB_prod lT.1
  have hpe : prodI [(P : Int), (Q : Int), (n : Int)] = ((P * Q * n : Nat) : Int) := by
    simp only [prodI, Int.mul_one, Int.natCast_mul, Int.mul_assoc]
  have hyl : ys.length = P * Q * n := by have := lT.2.1; rw [hpe] at this; omega
  rw [hpe] at hpr
  obtain ⟨hO, hroom⟩ := w3_O (n := n) hs
  have hS : poS [(P : Int), (Q : Int), (n : Int)] (wholeW n s) = [(P : Int), (Q : Int), 1] := by
    unfold poS; rw [hO]; rfl
  have hPQ : P * Q * 1 ≤ P * Q * n := Nat.mul_le_mul_left _ (by omega)
  have hgS : goodB [(P : Int), (Q : Int), 1] = true := by
    refine goodB_iff.2 ⟨by simp, fun x hx => ?_, ?_⟩
    · simp only [List.mem_cons, List.not_mem_nil, or_false] at hx
      rcases hx with rfl | rfl | rfl <;> omega
    · have : prodI [(P : Int), (Q : Int), 1] = ((P * Q : Nat) : Int) := by simp [prodI]
      rw [this]; omega
  have hNN : poN [(P : Int), (Q : Int), (n : Int)] (wholeW n s) = P * Q := by
    unfold poN; rw [hS]
    have : prodI [(P : Int), (Q : Int), 1] = ((P * Q : Nat) : Int) := by simp [prodI]
    rw [this]; omega
  have hok : (wholeW (n : Int) s).okB = true := by
    refine List.all_eq_true.2 fun i hi => decide_eq_true ?_
    have h0 : i = 0 := by simpa [wholeW] using List.mem_range.1 hi
    subst h0
    omega
  have hful : (wholeW (n : Int) s).fullB = true := by
    refine List.all_eq_true.2 fun i hi => List.all_eq_true.2 fun p hp => ?_
    have h0 : i = 0 := by simpa [wholeW] using List.mem_range.1 hi
    subst h0
    have hp := List.mem_range.1 hp
    unfold WinV.out at hp
    rw [hroom] at hp
    have hp0 : p = 0 := by simp at hp; omega
    subst hp0
    refine List.any_eq_true.2 ⟨0, List.mem_range.2 (by simp [wholeW]; omega), ?_⟩
    simp [wholeW]
    omega
  have hnum : numB true (wholeW (n : Int) s).K (wholeW (n : Int) s).S (wholeW (n : Int) s).P (wholeW (n : Int) s).D = true := by
    refine num_iff.2 ⟨⟨by simp [wholeW], by simp [wholeW], by simp [wholeW], by simp [wholeW], fun _ => by simp [wholeW], fun h => by cases h⟩, ?_, ?_, ?_, ?_⟩
    all_goals
      intro x hx
      simp [wholeW] at hx
      omega
  have hz : winZ [(P : Int), (Q : Int), (n : Int)] ys (wholeW n s) = 0 := by
    unfold winZ outZ
    rw [if_pos ht, if_pos hnum, if_pos (by simp [wholeW]), hok, hful, Bool.and_true, if_pos (by rfl), hS, if_pos hgS]
  have hck : ckZ [(P : Int), (Q : Int), (n : Int)] ys [2] = 0 := by
    unfold ckZ
    rw [if_pos ht, if_pos (by simp [axB])]
  have hN : smN [(P : Int), (Q : Int), (n : Int)] [2] = P * Q := by
    unfold smN; rw [w3_rest]
    have : prodI [(P : Int), (Q : Int)] = ((P * Q : Nat) : Int) := by simp [prodI]
    rw [this]; omega
  obtain ⟨R, K⟩ := pool_ok (wv := wholeW n s) rfl hz
  have hPO : (prodI (wholeW (n : Int) s).O).toNat = 1 := by rw [hO]; rfl
  have hPL : (prodI (wholeW (n : Int) s).L).toNat = n := by simp [wholeW, prodI]
  have hPK : (prodI (wholeW (n : Int) s).K).toNat = n := by simp [wholeW, prodI]
  have hpl : ∀ k, (wholeW (n : Int) s).plcs (prodI (wholeW (n : Int) s).O).toNat (prodI (wholeW (n : Int) s).L).toNat k (prodI (wholeW (n : Int) s).K).toNat = (List.range n).map fun (r : Nat) => (((k * n : Nat) : Int) + (r : Int)) := fun k => by
    rw [hPO, hPL, hPK]; exact w3_plcs k n (Nat.le_refl _)
  have hall : ∀ k, k < P * Q → (mxT [(P : Int), (Q : Int), (n : Int)] ys 2 ys.length k = poV ys (wholeW n s) k ∧ ∃ m : Nat, m < n ∧ mxQ [(P : Int), (Q : Int), (n : Int)] ys 2 ys.length k = m ∧ poP ys (wholeW n s) k = ((k * n + m : Nat) : Int)) ∧
      smR true [(P : Int), (Q : Int), (n : Int)] ys [2] k = poA ys (wholeW n s) k := fun k hk => by
    have hmk : mxK (mxG [(P : Int), (Q : Int), (n : Int)] 2) (hereI [(P : Int), (Q : Int), (n : Int)] 2) ys k ys.length = ((List.range n).map fun (r : Nat) => (ys[k * n + r]?.getD 0, (r : Int))).foldl (fun st p => mxS p.1 p.2 st) (0, 0) := by
      rw [mxK_fib, hyl, w3_fib hd (by omega) (mxG [(P : Int), (Q : Int), (n : Int)] 2) (fun i hi => w3_into hd i hi) k hk, List.map_map]
      congr 1
      refine List.map_congr_left fun r hr => ?_
      have hr := List.mem_range.1 hr
      simp only [Function.comp, w3_here]
      rw [Nat.mul_comm k n, Nat.mul_add_mod, Nat.mod_eq_of_lt hr]
    obtain ⟨p, hp, r1, r2⟩ := row_ind ys (k * n) n (by omega)
    have hpp : poP ys (wholeW n s) k = ((k * n : Nat) : Int) + (p : Int) := by
      unfold poP mpI pickI
      rw [hpl k]
      exact r2
    refine ⟨⟨?_, p, hp, ?_, ?_⟩, ?_⟩
    · unfold mxT poV
      rw [hmk, r1, hpp]
      unfold yAt
      rw [show (((k * n : Nat) : Int) + (p : Int)).toNat = k * n + p by omega]
    · unfold mxQ
      rw [hmk, r1]
    · rw [hpp]; omega
    · unfold smR poA avI
      rw [hpl k]
      have e1 : smS [(P : Int), (Q : Int), (n : Int)] ys [2] k = sumP ys ((List.range n).map fun (r : Nat) => (((k * n : Nat) : Int) + (r : Int))) := by
        unfold smS
        rw [row_sum, sumK_fib, hyl, w3_fib hd (by omega) _ (fun i hi => w3_into hd i hi) k hk, List.map_map]
        rfl
      have e2 : smC true [(P : Int), (Q : Int), (n : Int)] ys [2] = n := by
        unfold smC
        rw [if_pos rfl, hN, hyl, Nat.mul_div_cancel_left _ (by omega)]
      rw [e1, e2]
      simp
  refine ⟨⟨hz, hNN, goodB_iff.2 ⟨by simp [wholeW], fun x hx => ?_, ?_⟩⟩, ⟨hck, ?_, hN⟩, ⟨by omega, by omega, by omega, hyl⟩, hall⟩
  · simp [wholeW] at hx; omega
  · simp [wholeW, prodI]; omega
  · unfold smZ rdZ
    rw [if_pos hck, if_pos]
    refine List.all_eq_true.2 fun k hk => ?_
    rw [hN] at hk
    rw [(hall k (List.mem_range.1 hk)).2]
    exact av_word lT.2.2 (plcs_some K.hR K.hok (goodB_dims K.gO) K.hf K.hT _ _ k)
end
theorem rangeGet {f : Nat → Int} {N j : Nat} (h : j < N) : ((List.range N).map f)[j]? = some (f j) := by
  rw [List.getElem?_map, List.getElem?_range h]; rfl
/-- The same in letters. -/
theorem whole_letters {xs ys : List Int} (ht : tenB xs ys = true) (h3 : xs.length = 3) : ∃ n : Nat, xs[2]?.getD 0 = (n : Int) ∧ 1 ≤ n ∧ n ≤ 4096 ∧ ∀ s : Int, 1 ≤ s → s ≤ 4096 → ∃ SH YS PS AS SX MS SM : List Int,
    (winZ xs ys (wholeW n s) = 0 ∧ poS xs (wholeW n s) = SH ∧ (List.range (poN xs (wholeW n s))).map (poV ys (wholeW n s)) = YS ∧ (List.range (poN xs (wholeW n s))).map (poP ys (wholeW n s)) = PS ∧ (List.range (poN xs (wholeW n s))).map (poA ys (wholeW n s)) = AS ∧ goodB (wholeW n s).K = true ∧ (wholeW n s).L = xs.drop 2) ∧
    (mxZ xs ys 2 = 0 ∧ mxX xs ys 2 = SX ∧ mxY xs ys 2 = YS ∧ mxP xs ys 2 = MS) ∧ (smZ true xs ys [2] = 0 ∧ smX true xs ys [2] = SM ∧ smY true xs ys [2] = AS) ∧ (PS.length = MS.length ∧ PS.length ≤ 65536) ∧
    (∀ j, j < PS.length → ∃ m : Nat, MS[j]? = some (m : Int) ∧ PS[j]? = some ((j * n + m : Nat) : Int) ∧ j * n + m ≤ 65536) ∧ (∀ x ∈ YS, isW x = true) ∧ (∀ x ∈ AS, isW x = true) := by
  obtain ⟨x0, x1, x2, rfl⟩ := list3 h3
  have hd := goodB_dims (tenB_iff.1 ht).1
  have h0 := hd x0 (by simp)
  have h1 := hd x1 (by simp)
  have h2 := hd x2 (by simp)
  obtain ⟨P, rfl⟩ : ∃ P : Nat, x0 = (P : Int) := ⟨x0.toNat, by omega⟩
  obtain ⟨Q, rfl⟩ : ∃ P : Nat, x1 = (P : Int) := ⟨x1.toNat, by omega⟩
  obtain ⟨n, rfl⟩ : ∃ P : Nat, x2 = (P : Int) := ⟨x2.toNat, by omega⟩
  refine ⟨n, rfl, by omega, by omega, fun s hs hs2 => ?_⟩
  obtain ⟨⟨a1, a2, a3⟩, ⟨b1, b2, b3⟩, ⟨c1, c2, c3, c4⟩, hall⟩ := whole_all ht hs hs2
  have hPn : P * Q ≤ P * Q * n := by have := Nat.mul_le_mul_left (P * Q) c1; omega
  have hY : mxY [(P : Int), (Q : Int), (n : Int)] ys 2 = (List.range (poN [(P : Int), (Q : Int), (n : Int)] (wholeW n s))).map (poV ys (wholeW n s)) := by
    unfold mxY
    rw [b1, zL_0, b3, a2]
    exact List.map_congr_left fun k hk => (hall k (List.mem_range.1 hk)).1.1
  have hA : smY true [(P : Int), (Q : Int), (n : Int)] ys [2] = (List.range (poN [(P : Int), (Q : Int), (n : Int)] (wholeW n s))).map (poA ys (wholeW n s)) := by
    unfold smY
    rw [b2, zL_0, b3, a2]
    exact List.map_congr_left fun k hk => (hall k (List.mem_range.1 hk)).2
  obtain ⟨R, K⟩ := pool_ok (wv := wholeW n s) rfl a1
  refine ⟨_, _, _, _, _, _, _, ⟨a1, rfl, rfl, rfl, rfl, a3, rfl⟩, ⟨b1, rfl, hY, rfl⟩, ⟨b2, rfl, hA⟩, ⟨?_, ?_⟩, fun j hj => ?_, fun x hx => ?_, fun x hx => ?_⟩
  · unfold mxP; rw [b1, zL_0, b3, a2]; simp
  · rw [a2]; simp; omega
  · have hj : j < P * Q := by rw [a2] at hj; simpa using hj
    obtain ⟨⟨_, m, hm, e1, e2⟩, _⟩ := hall j hj
    have hjn : j * n + n ≤ P * Q * n := by
      have := Nat.mul_le_mul_right n (show j + 1 ≤ P * Q by omega)
      rw [Nat.succ_mul] at this; exact this
    refine ⟨m, ?_, ?_, by omega⟩
    · unfold mxP
      rw [b1, zL_0, b3, rangeGet hj]
      exact congrArg some e1
    · rw [a2, rangeGet hj, e2]
  · obtain ⟨k, _, rfl⟩ := List.mem_map.1 hx
    exact poV_word ht k
  · obtain ⟨k, _, rfl⟩ := List.mem_map.1 hx
    exact av_word (tenB_iff.1 ht).2.2 (plcs_some K.hR K.hok (goodB_dims K.gO) K.hf K.hT _ _ k)
end Go.Proofs.Ytmjcpgfekpedkaa
