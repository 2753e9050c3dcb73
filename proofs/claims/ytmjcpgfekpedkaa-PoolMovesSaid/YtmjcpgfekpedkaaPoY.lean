/- Plain: a word added to all words: maxima, picks and means of windows. No program in sight. -/
import Derived.Test.YtmjcpgfekpedkaaPoV
set_option linter.unusedVariables false
set_option linter.unusedSimpArgs false
namespace Go.Proofs.Ytmjcpgfekpedkaa
open Go.RowKit Go.Rt
/-- All words more by b. -/
def upL (b : Int) (ys : List Int) : List Int := ys.map (· + b)
theorem upL_len (b : Int) (ys : List Int) : (upL b ys).length = ys.length := by simp [upL]
theorem up_at {b : Int} {ys : List Int} {p : Int} (h : 0 ≤ p ∧ p < (ys.length : Int)) : yAt (upL b ys) p = yAt ys p + b := by
  unfold yAt upL
  rw [List.getElem?_map, List.getElem?_eq_getElem (by omega)]
  rfl
theorem up_pick {b : Int} {ys : List Int} (l : List Int) (h : ∀ p ∈ l, 0 ≤ p ∧ p < (ys.length : Int)) : pickI (upL b ys) l = pickI ys l := by
  refine list_snoc_induction (P := fun l => (∀ p ∈ l, 0 ≤ p ∧ p < (ys.length : Int)) → pickI (upL b ys) l = pickI ys l) (fun _ => rfl) (fun l a ih h => ?_) l h
  have h1 := ih (fun p hp => h p (List.mem_append_left _ hp))
  have h2 := h a (by simp)
  rw [pick_snoc, pick_snoc, h1]
  unfold bst
  by_cases hb : 0 ≤ pickI ys l
  · have hm : pickI ys l ∈ l := by
      rcases pick_or ys l with ⟨e, _⟩ | e
      · omega
      · exact e
    rw [up_at h2, up_at (h _ (List.mem_append_left _ hm))]
    have e1 : (yAt ys a + b < yAt ys (pickI ys l) + b) = (yAt ys a < yAt ys (pickI ys l)) := propext ⟨fun q => by omega, fun q => by omega⟩
    have e2 : (yAt ys a + b = yAt ys (pickI ys l) + b) = (yAt ys a = yAt ys (pickI ys l)) := propext ⟨fun q => by omega, fun q => by omega⟩
    simp only [e1, e2]
  · rw [if_neg (fun q => hb q.1), if_neg (fun q => hb q.1)]
theorem up_sum {b : Int} {ys : List Int} (l : List Int) (h : ∀ p ∈ l, 0 ≤ p ∧ p < (ys.length : Int)) : sumP (upL b ys) l = sumP ys l + b * (l.length : Int) := by
  refine list_snoc_induction (P := fun l => (∀ p ∈ l, 0 ≤ p ∧ p < (ys.length : Int)) → sumP (upL b ys) l = sumP ys l + b * (l.length : Int)) (fun _ => by simp [sumP]) (fun l a ih h => ?_) l h
  have h1 := ih (fun p hp => h p (List.mem_append_left _ hp))
  rw [sum_snoc, sum_snoc, h1, up_at (h a (by simp)), List.length_append, List.length_singleton, Int.natCast_add, Int.mul_add]
  omega
theorem near_one {m1 m2 b s c : Int} (hc : 1 ≤ c) (h1 : -c ≤ 2 * (m1 * c - s) ∧ 2 * (m1 * c - s) ≤ c) (h2 : -c ≤ 2 * (m2 * c - (s + b * c)) ∧ 2 * (m2 * c - (s + b * c)) ≤ c) : -1 ≤ m2 - m1 - b ∧ m2 - m1 - b ≤ 1 := by
  obtain ⟨q, hq⟩ : ∃ q, m2 - m1 - b = q := ⟨_, rfl⟩
  have e : m2 * c = (q * c + m1 * c) + b * c := by rw [← Int.add_mul, ← Int.add_mul]; congr 1; omega
  rw [e] at h2
  rw [hq]
  generalize m1 * c = x at h1 h2
  generalize b * c = y at h2
  have h3 : -c ≤ q * c ∧ q * c ≤ c := by omega
  refine ⟨Int.not_lt.1 fun hl => ?_, Int.not_lt.1 fun hl => ?_⟩
  · have := Int.mul_le_mul_of_nonneg_right (show q ≤ -2 by omega) (show (0 : Int) ≤ c by omega); omega
  · have := Int.mul_le_mul_of_nonneg_right (show 2 ≤ q by omega) (show (0 : Int) ≤ c by omega); omega
theorem up_ten {b : Int} {xs ys : List Int} (ht : tenB xs ys = true) (hw : ∀ y ∈ ys, isW (y + b) = true) : tenB xs (upL b ys) = true := by
  have lT := tenB_iff.1 ht
  refine tenB_iff.2 ⟨lT.1, by rw [upL_len]; exact lT.2.1, fun y hy => ?_⟩
  obtain ⟨z, hz, rfl⟩ := List.mem_map.1 hy
  exact hw z hz
/-- All that PoolMoves asks. -/
theorem up_all {b : Int} {xs ys : List Int} {wv : WinV} (hL : wv.L = xs.drop 2) (ht : tenB xs ys = true) (hw : ∀ y ∈ ys, isW (y + b) = true) :
    winZ xs (upL b ys) wv = winZ xs ys wv ∧ (winZ xs ys wv = 0 → ∀ n, n < poN xs wv → poP (upL b ys) wv n = poP ys wv n ∧ poV (upL b ys) wv n = poV ys wv n + b ∧ -1 ≤ poA (upL b ys) wv n - poA ys wv n - b ∧ poA (upL b ys) wv n - poA ys wv n - b ≤ 1) := by
  refine ⟨by unfold winZ; rw [up_ten ht hw, ht], fun hz n hn => ?_⟩
  obtain ⟨R, K⟩ := pool_ok hL hz
  have hb := plcs_bound K.hR K.hM (n := n) (R := R) (by rw [← K.nn]; exact hn)
  have hb2 : ∀ t, ∀ p ∈ wv.plcs (prodI wv.O).toNat (prodI wv.L).toNat n t, 0 ≤ p ∧ p < (ys.length : Int) := fun t p hp => by
    have := hb t p hp
    rw [K.yl]; exact this
  have hne := plcs_some K.hR K.hok (goodB_dims K.gO) K.hf K.hT (prodI wv.O).toNat (prodI wv.L).toNat n
  have hp : poP (upL b ys) wv n = poP ys wv n := up_pick _ (hb2 _)
  have hin := mpI_bound K.hR K.hok (goodB_dims K.gO) K.hf K.hT K.hM (n := n) (R := R) (by rw [← K.nn]; exact hn) ys
  refine ⟨hp, ?_, ?_⟩
  · unfold poV
    rw [hp]
    exact up_at (hb2 _ _ hin.1)
  · unfold poA avI
    rw [up_sum _ (hb2 _)]
    have hl : (1 : Int) ≤ ((wv.plcs (prodI wv.O).toNat (prodI wv.L).toNat n (prodI wv.K).toNat).length : Int) := by
      have := List.length_pos_iff.2 hne; omega
    exact near_one hl (mean_near _ _ hl) (mean_near _ _ hl)
theorem own_capP {w : World} {base : Nat} {e : TypeId} {a : Option Addr} {n c : Nat} {xs : List Value} (h : w.ownsRow base e 1 (.slice a n c) n xs) : n ≤ c ∧ c ≤ 9223372036854775807 := by
  rcases h.2 with ⟨h1, h2⟩ | ⟨g, cap, cur, h1, _, _, h4, h5, _⟩
  · cases h1
    omega
  · cases h1
    unfold maxLen at h5
    omega
/-- The first k words changed by f. -/
def mixU (f : Int → Int) (ys : List Int) (k : Nat) : List Int := (ys.take k).map f ++ ys.drop k
theorem mixU_len (f : Int → Int) (ys : List Int) (k : Nat) : (mixU f ys k).length = ys.length := by simp [mixU]; omega
theorem mixU_zero (f : Int → Int) (ys : List Int) : mixU f ys 0 = ys := by simp [mixU]
theorem mixU_all (f : Int → Int) (ys : List Int) : mixU f ys ys.length = ys.map f := by simp [mixU]
theorem mixU_get (f : Int → Int) (ys : List Int) {k : Nat} (hk : k < ys.length) : (mixU f ys k)[k]? = some (ys[k]?.getD 0) := by
  unfold mixU
  rw [List.getElem?_append_right (by simp; omega), List.getElem?_drop, List.length_map, List.length_take, Nat.min_eq_left (by omega), Nat.sub_self, Nat.add_zero, List.getElem?_eq_getElem hk]
  rfl
theorem mixU_set (f : Int → Int) (ys : List Int) {k : Nat} (hk : k < ys.length) : (mixU f ys k).set k (f (ys[k]?.getD 0)) = mixU f ys (k + 1) := by
  refine List.ext_getElem? fun i => ?_
  rw [List.getElem?_set, mixU_len]
  by_cases h : k = i
  · subst h
    rw [if_pos rfl, if_pos hk]
    unfold mixU
    rw [List.getElem?_append_left (by simp; omega), List.getElem?_map, List.getElem?_take, if_pos (by omega), List.getElem?_eq_getElem hk]
    rfl
  · rw [if_neg h]
    unfold mixU
    by_cases h2 : i < k
    · rw [List.getElem?_append_left (by simp; omega), List.getElem?_append_left (by simp; omega), List.getElem?_map, List.getElem?_map, List.getElem?_take, List.getElem?_take, if_pos h2, if_pos (by omega)]
    · rw [List.getElem?_append_right (by simp; omega), List.getElem?_append_right (by simp; omega), List.getElem?_drop, List.getElem?_drop, List.length_map, List.length_map, List.length_take, List.length_take, Nat.min_eq_left (by omega), Nat.min_eq_left (by omega)]
      congr 1
      omega
theorem zL_len (z : Int) (l m : List Int) (h : l.length = m.length) : (zL z l).length = (zL z m).length := by
  unfold zL; split
  · exact h
  · rfl
theorem poV_word {xs ys : List Int} {wv : WinV} (ht : tenB xs ys = true) (n : Nat) : isW (poV ys wv n) = true := isW_iff.2 (yAt_word (tenB_iff.1 ht).2.2 _)
/-- All that PoolMoves asks, in letters. -/
theorem up_letters {b : Int} {xs ys : List Int} {wv : WinV} (hL : wv.L = xs.drop 2) (ht : tenB xs ys = true) (hw : ∀ y ∈ ys, isW (y + b) = true) :
    ∃ (z : Int) (SH YS PS AS YT AT : List Int), (winZ xs ys wv = z ∧ winZ xs (upL b ys) wv = z) ∧
      (zL z (poS xs wv) = SH ∧ zL z ((List.range (poN xs wv)).map (poV ys wv)) = YS ∧ zL z ((List.range (poN xs wv)).map (poP ys wv)) = PS ∧ zL z ((List.range (poN xs wv)).map (poA ys wv)) = AS) ∧
      (zL z ((List.range (poN xs wv)).map (poV (upL b ys) wv)) = YT ∧ zL z ((List.range (poN xs wv)).map (poP (upL b ys) wv)) = PS ∧ zL z ((List.range (poN xs wv)).map (poA (upL b ys) wv)) = AT) ∧
      (YT.length = YS.length ∧ AT.length = AS.length ∧ YS.length ≤ 65536 ∧ AS.length ≤ 65536) ∧
      (∀ j, j < YS.length → ∃ u v : Int, YS[j]? = some u ∧ YT[j]? = some v ∧ isW u = true ∧ isW v = true ∧ v - u = b) ∧
      (∀ j, j < AS.length → ∃ u v : Int, AS[j]? = some u ∧ AT[j]? = some v ∧ isW u = true ∧ isW v = true ∧ -1 ≤ v - u - b ∧ v - u - b ≤ 1) ∧
      (∀ x ∈ PS, -65537 ≤ x ∧ x ≤ 65537) := by
  obtain ⟨h1, h2⟩ := up_all hL ht hw
  have ht2 := up_ten ht hw
  have hnil : ∀ n, (zL (winZ xs ys wv) n = [] ∨ winZ xs ys wv = 0) := fun n => by
    by_cases h : winZ xs ys wv = 0
    · exact .inr h
    · exact .inl (zL_ne _ h)
  by_cases hz : winZ xs ys wv = 0
  · have h3 := h2 hz
    obtain ⟨R, K⟩ := pool_ok hL hz
    have hz2 : winZ xs (upL b ys) wv = 0 := h1.trans hz
    obtain ⟨R2, K2⟩ := pool_ok hL hz2
    have hN : poN xs wv ≤ 65536 := by have := (goodB_prod K.gS).2; unfold poN; omega
    have hP : (List.range (poN xs wv)).map (poP (upL b ys) wv) = (List.range (poN xs wv)).map (poP ys wv) := List.map_congr_left fun n hn => (h3 n (List.mem_range.1 hn)).1
    refine ⟨0, _, _, _, _, _, _, ⟨hz, hz2⟩, ⟨rfl, rfl, rfl, rfl⟩, ⟨rfl, by rw [hP], rfl⟩, ⟨?_, ?_, ?_, ?_⟩, fun j hj => ?_, fun j hj => ?_, fun x hx => ?_⟩
    · exact zL_len 0 _ _ (by simp)
    · exact zL_len 0 _ _ (by simp)
    · rw [zL_0]; simpa using hN
    · rw [zL_0]; simpa using hN
    · rw [zL_0] at hj ⊢
      have hj2 : j < poN xs wv := by simpa using hj
      refine ⟨poV ys wv j, poV (upL b ys) wv j, ?_, ?_, poV_word ht _, poV_word ht2 _, ?_⟩
      · rw [List.getElem?_map, List.getElem?_range hj2]; rfl
      · rw [zL_0, List.getElem?_map, List.getElem?_range hj2]; rfl
      · have := (h3 j hj2).2.1; omega
    · rw [zL_0] at hj ⊢
      have hj2 : j < poN xs wv := by simpa using hj
      refine ⟨poA ys wv j, poA (upL b ys) wv j, ?_, ?_, ?_, ?_, (h3 j hj2).2.2⟩
      · rw [List.getElem?_map, List.getElem?_range hj2]; rfl
      · rw [zL_0, List.getElem?_map, List.getElem?_range hj2]; rfl
      · exact av_word (tenB_iff.1 ht).2.2 (plcs_some K.hR K.hok (goodB_dims K.gO) K.hf K.hT _ _ j)
      · exact av_word (tenB_iff.1 ht2).2.2 (plcs_some K.hR K.hok (goodB_dims K.gO) K.hf K.hT _ _ j)
    · rw [zL_0] at hx
      obtain ⟨n, hn, rfl⟩ := List.mem_map.1 hx
      have hb := mpI_bound K.hR K.hok (goodB_dims K.gO) K.hf K.hT K.hM (n := n) (R := R) (by rw [← K.nn]; exact List.mem_range.1 hn) ys
      have hl := (tenB_iff.1 K.ht).2.1
      have hp := (goodB_prod (tenB_iff.1 K.ht).1).2
      have h4 := K.yl
      have h5 : 0 ≤ poP ys wv n ∧ poP ys wv n < (ys.length : Int) := by rw [h4]; exact hb.2
      omega
  · have hz2 : ¬ winZ xs (upL b ys) wv = 0 := fun h => hz (h1.symm.trans h)
    refine ⟨winZ xs ys wv, [], [], [], [], [], [], ⟨rfl, h1⟩, ⟨zL_ne _ hz, zL_ne _ hz, zL_ne _ hz, zL_ne _ hz⟩, ⟨zL_ne _ hz, zL_ne _ hz, zL_ne _ hz⟩, ⟨rfl, rfl, by simp, by simp⟩, fun j hj => ?_, fun j hj => ?_, fun x hx => ?_⟩
    · simp at hj
    · simp at hj
    · simp at hx
end Go.Proofs.Ytmjcpgfekpedkaa
