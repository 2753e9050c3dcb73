/- Laws of products and of turning, in plain numbers. No walk. -/
import Derived.Test.YtddhhfhammmaaaaGreatMTurn
import Derived.Test.YtddhhfhammmaaaaGreatMEnv
set_option linter.unusedVariables false
set_option linter.unusedSimpArgs false
namespace Go.Proofs.YtddhhfhammmaaaaGreat
open Go.RowKit Go.Rt

theorem getD_map (xs : List Int) (f : Int → Int) (h0 : f 0 = 0) (i : Nat) : (xs.map f)[i]?.getD 0 = f (xs[i]?.getD 0) := by
  rw [List.getElem?_map]
  cases xs[i]? <;> simp [h0]

theorem sumAt_neg (xs ys : List Int) (o p st : Nat) : ∀ k, sumAt (xs.map fun x => -x) ys o p st k = -sumAt xs ys o p st k
  | 0 => rfl
  | k + 1 => by
    rw [sumAt, sumAt, sumAt_neg xs ys o p st k, getD_map xs _ (by rfl), Int.neg_add, Int.neg_mul]

theorem sumAt_none (n : Nat) (ys : List Int) (o p st : Nat) : ∀ k, sumAt (List.replicate n 0) ys o p st k = 0
  | 0 => rfl
  | k + 1 => by
    rw [sumAt, sumAt_none n ys o p st k]
    have : (List.replicate n (0 : Int))[o + k]?.getD 0 = 0 := by
      rw [List.getElem?_replicate]
      split <;> rfl
    rw [this]
    simp

theorem absI_neg (s : Int) : absI (-s) = absI s := by unfold absI; split <;> split <;> omega
theorem roundI_zero (p : Int) (hp : 1 ≤ p) : roundI 0 p = 0 := by
  have e : absI p = p := by unfold absI; rw [if_neg (by omega)]
  have h1 : (0 : Int) / p = 0 := Int.zero_ediv _
  have h2 : (0 : Int) % p = 0 := Int.zero_emod _
  unfold roundI upR
  rw [show absI 0 = 0 from rfl, e, h1, h2]
  simp
  omega
theorem roundI_neg (s p : Int) (hp : 1 ≤ p) : roundI (-s) p = -roundI s p := by
  by_cases h0 : s = 0
  · subst h0
    rw [Int.neg_zero, roundI_zero p hp]
    rfl
  · have ep : decide (p < 0) = false := by simp; omega
    unfold roundI
    rw [absI_neg, ep]
    generalize (if upR (absI s / absI p) (absI s % absI p) (absI p) = true then absI s / absI p + 1 else absI s / absI p) = X
    by_cases h : s < 0
    · rw [decide_eq_true h, decide_eq_false (show ¬ -s < 0 by omega)]
      simp
    · rw [decide_eq_false h, decide_eq_true (show -s < 0 by omega)]
      simp
theorem pow2_pos (n : Nat) : (1 : Int) ≤ 2 ^ n := by
  have := Nat.pow_pos (n := n) (show 0 < 2 by decide)
  rw [← castPow]
  omega
theorem shI_neg (s : Int) (n : Nat) : shI (-s) n = -shI s n := roundI_neg _ _ (pow2_pos n)
theorem shI_zero (n : Nat) : shI 0 n = 0 := roundI_zero _ (pow2_pos n)
theorem isW_neg (v : Int) : isW (-v) = isW v := by
  rw [Bool.eq_iff_iff, isW_iff, isW_iff]
  omega

theorem mulW_neg (xsA ysA xsB ysB : List Int) (f j : Nat) : mulW xsA (ysA.map fun x => -x) xsB ysB f j = -mulW xsA ysA xsB ysB f j := by
  unfold mulW mulG
  rw [sumAt_neg, shI_neg]
theorem mulE_neg (xsA ysA xsB ysB : List Int) (f : Nat) : mulE xsA (ysA.map fun x => -x) xsB ysB f = mulE xsA ysA xsB ysB f := by
  unfold mulE
  simp only [mulW_neg, isW_neg]
theorem mulX_neg (xsA ysA xsB ysB : List Int) (f : Nat) : mulX xsA (ysA.map fun x => -x) xsB ysB f = mulX xsA ysA xsB ysB f := by
  unfold mulX
  rw [mulE_neg]
theorem mulY_neg (xsA ysA xsB ysB : List Int) (f : Nat) : mulY xsA (ysA.map fun x => -x) xsB ysB f = (mulY xsA ysA xsB ysB f).map fun x => -x := by
  unfold mulY
  rw [mulE_neg]
  split
  · rw [List.map_map]
    apply List.map_congr_left
    intro j _
    exact mulW_neg _ _ _ _ _ _
  · rfl
theorem mulW_none (n : Nat) (xsA xsB ysB : List Int) (f j : Nat) : mulW xsA (List.replicate n 0) xsB ysB f j = 0 := by
  unfold mulW mulG
  rw [sumAt_none, shI_zero]
theorem mulE_none (n : Nat) (xsA ysA xsB ysB : List Int) (f : Nat) (h : mulE xsA ysA xsB ysB f = 0) : mulE xsA (List.replicate n 0) xsB ysB f = 0 := by
  have hz : outE xsA xsB = 0 := by
    unfold mulE at h
    split at h
    · assumption
    · exact h
  unfold mulE
  rw [if_pos hz, if_pos]
  rw [List.all_eq_true]
  intro j _
  rw [mulW_none]
  rfl
theorem mulY_none (n : Nat) (xsA xsB ysB : List Int) (f : Nat) : ∀ y ∈ mulY xsA (List.replicate n 0) xsB ysB f, y = 0 := by
  intro y hy
  unfold mulY at hy
  split at hy
  · obtain ⟨j, _, rfl⟩ := List.mem_map.1 hy
    exact mulW_none _ _ _ _ _ _
  · simp at hy

theorem mulE_zero {xsA ysA xsB ysB : List Int} {f : Nat} (h : mulE xsA ysA xsB ysB f = 0) : outE xsA xsB = 0 ∧ ∀ j, j < mulN xsA xsB → isW (mulW xsA ysA xsB ysB f j) = true := by
  unfold mulE at h
  by_cases hz : outE xsA xsB = 0
  · rw [if_pos hz] at h
    refine ⟨hz, ?_⟩
    by_cases ha : ((List.range (mulN xsA xsB)).all fun j => isW (mulW xsA ysA xsB ysB f j)) = true
    · intro j hj
      exact List.all_eq_true.1 ha j (by simpa using hj)
    · rw [if_neg ha] at h
      exact absurd h (by decide)
  · rw [if_neg hz] at h
    exact absurd h hz
theorem mulY_isW (xsA ysA xsB ysB : List Int) (f : Nat) : ∀ y ∈ mulY xsA ysA xsB ysB f, isW y = true := by
  intro y hy
  unfold mulY at hy
  split at hy
  · rename_i h
    obtain ⟨j, hj, rfl⟩ := List.mem_map.1 hy
    exact (mulE_zero h).2 j (by simpa using hj)
  · simp at hy
theorem outE_good {xs ys : List Int} (h : outE xs ys = 0) : goodB (outL xs ys) = true := by
  unfold outE at h
  split at h
  · split at h
    · assumption
    · exact absurd h (by decide)
  · exact absurd h (by decide)
theorem mul_ten {xsA ysA xsB ysB : List Int} {f : Nat} (h : mulE xsA ysA xsB ysB f = 0) : tenB (mulX xsA ysA xsB ysB f) (mulY xsA ysA xsB ysB f) = true := by
  have hg := outE_good (mulE_zero h).1
  have hp := goodB_prod hg
  refine tenB_iff.2 ⟨?_, ?_, mulY_isW _ _ _ _ _⟩
  · unfold mulX; rw [if_pos h]; exact hg
  · unfold mulX mulY mulN
    rw [if_pos h, if_pos h]
    simp
    omega

theorem swapL_swapL {xs : List Int} (h2 : 2 ≤ xs.length) : swapL (swapL xs) = xs := by
  have hs := swapL_get h2
  have e : swapL (swapL xs) = ((swapL xs).set (xs.length - 2) (xs[xs.length - 2]?.getD 0)).set (xs.length - 1) (xs[xs.length - 1]?.getD 0) := by
    have e : ∀ L : List Int, swapL L = (L.set (L.length - 2) (L[L.length - 1]?.getD 0)).set (L.length - 1) (L[L.length - 2]?.getD 0) := fun _ => rfl
    rw [e (swapL xs), swapL_len, hs.1, hs.2]
  rw [e]
  rw [List.getElem?_eq_getElem (show xs.length - 1 < xs.length by omega), List.getElem?_eq_getElem (show xs.length - 2 < xs.length by omega)]
  simp only [Option.getD_some]
  unfold swapL
  apply List.ext_getElem
  · simp
  · intro i h1 h3
    rw [List.getElem_set, List.getElem_set, List.getElem_set, List.getElem_set]
    by_cases c1 : xs.length - 1 = i
    · subst c1; simp
    · rw [if_neg c1]
      by_cases c2 : xs.length - 2 = i
      · subst c2; simp
      · rw [if_neg c2, if_neg c1, if_neg c2]

theorem turnI_turnI (R C k : Nat) (hR : 1 ≤ R) (hC : 1 ≤ C) : turnI R C (turnI C R k) = k := by
  have hRC : 1 ≤ R * C := Nat.mul_le_mul hR hC
  have e0 : turnI C R k = k / (R * C) * (R * C) + (k % (R * C) % C * R + k % (R * C) / C) := by
    unfold turnI
    rw [Nat.mul_comm C R, Nat.add_assoc]
  have hi : k % (R * C) < R * C := Nat.mod_lt _ hRC
  have hcr : C * R = R * C := Nat.mul_comm _ _
  have h1 : k % (R * C) / C < R := Nat.div_lt_of_lt_mul (by rw [hcr]; exact hi)
  have h2 : k % (R * C) % C < C := Nat.mod_lt _ hC
  have h3 : (k % (R * C) % C + 1) * R ≤ C * R := Nat.mul_le_mul h2 (Nat.le_refl _)
  rw [Nat.add_mul, Nat.one_mul] at h3
  have h4 : k % (R * C) % C * R + k % (R * C) / C < R * C := by
    generalize k % (R * C) % C * R = u at *
    omega
  have h5 := Nat.div_add_mod (k % (R * C)) C
  have h6 := Nat.div_add_mod k (R * C)
  rw [e0]
  generalize hi' : k % (R * C) % C * R + k % (R * C) / C = i' at *
  unfold turnI
  have a1 : (k / (R * C) * (R * C) + i') / (R * C) = k / (R * C) := by
    rw [Nat.add_comm, Nat.mul_comm (k / (R * C)), Nat.add_mul_div_left _ _ hRC, Nat.div_eq_of_lt h4, Nat.zero_add]
  have a2 : (k / (R * C) * (R * C) + i') % (R * C) = i' := by
    rw [Nat.add_comm, Nat.mul_comm (k / (R * C)), Nat.add_mul_mod_self_left, Nat.mod_eq_of_lt h4]
  have a3 : i' % R = k % (R * C) / C := by
    rw [← hi', Nat.add_comm, Nat.mul_comm _ R, Nat.add_mul_mod_self_left, Nat.mod_eq_of_lt h1]
  have a4 : i' / R = k % (R * C) % C := by
    rw [← hi', Nat.add_comm, Nat.mul_comm _ R, Nat.add_mul_div_left _ _ hR, Nat.div_eq_of_lt h1, Nat.zero_add]
  rw [a1, a2, a3, a4, Nat.add_assoc, Nat.mul_comm (k % (R * C) / C) C, h5, Nat.mul_comm (k / (R * C)), h6]

theorem turn_ten {xs ys : List Int} (ht : tenB xs ys = true) (h2 : 2 ≤ xs.length) : tenB (swapL xs) (turnL xs ys) = true := by
  obtain ⟨P, R, C, hTS⟩ := turnShape_of ht h2
  obtain ⟨g, l, hw⟩ := tenB_iff.1 ht
  obtain ⟨g2, e2⟩ := swapL_good g h2
  refine tenB_iff.2 ⟨g2, ?_, ?_⟩
  · rw [e2, ← l]
    simp [turnL]
  · rw [turnL_eq hTS]
    intro y hy
    obtain ⟨k, hk, rfl⟩ := List.mem_map.1 hy
    have := (turnI_lt hTS (by simpa using hk)).1
    rw [List.getElem?_eq_getElem this]
    exact hw _ (List.getElem_mem _)

theorem turnShape_swap {xs ys : List Int} {P R C : Nat} (h : TurnShape xs ys P R C) (h2 : 2 ≤ xs.length) : TurnShape (swapL xs) (turnL xs ys) P C R := by
  have hs := swapL_get h2
  refine ⟨h.p1, h.c1, h.r1, h.c2, h.r2, ?_, ?_, ?_, ?_⟩
  · simp only [turnL, List.length_map, List.length_range]
    rw [h.len, Nat.mul_comm C R]
  · rw [Nat.mul_comm C R]; exact h.bd
  · rw [swapL_len, hs.1]; exact h.eC
  · rw [swapL_len, hs.2]; exact h.eR

theorem turn_turn {xs ys : List Int} (ht : tenB xs ys = true) (h2 : 2 ≤ xs.length) : turnL (swapL xs) (turnL xs ys) = ys := by
  obtain ⟨P, R, C, hTS⟩ := turnShape_of ht h2
  have hT2 := turnShape_swap hTS h2
  rw [turnL_eq hT2]
  have hl : (turnL xs ys).length = ys.length := by simp [turnL]
  apply List.ext_getElem
  · simp [hl]
  · intro k h1 h3
    have hk : k < (turnL xs ys).length := by rw [hl]; exact h3
    have h4 := (turnI_lt hT2 hk).1
    simp only [List.getElem_map, List.getElem_range]
    rw [turnL_eq hTS, List.getElem?_map, List.getElem?_range (by rw [← hl]; exact h4)]
    simp only [Option.map_some, Option.getD_some]
    rw [turnI_turnI _ _ _ hTS.r1 hTS.c1, List.getElem?_eq_getElem h3]
    rfl
end Go.Proofs.YtddhhfhammmaaaaGreat
/- Layer 10's argument in memory, and out of the reading of a list. -/
set_option linter.unusedVariables false
set_option linter.unusedSimpArgs false
namespace Go.Proofs.YtddhhfhammmaaaaGreat
open Go.ChangeShapes Go.WideShapes Go.RowKit Go.Rt

/-- An element of layer 10's statements: two tensors, a number. -/
structure TwoAt (w : World) (hi b o : Nat) (p q : TenV) (f : Int) : Prop where
  lt : b < hi
  c0 : w.cell? ⟨b, o, none⟩ = some (.slice p.a p.xs.length p.c)
  c1 : w.cell? ⟨b, o + 1, none⟩ = some (.slice p.b p.ys.length p.d)
  c2 : w.cell? ⟨b, o + 2, none⟩ = some (.slice q.a q.xs.length q.c)
  c3 : w.cell? ⟨b, o + 3, none⟩ = some (.slice q.b q.ys.length q.d)
  c4 : w.cell? ⟨b, o + 4, none⟩ = some (.int .i64 f)
  tA : Ten w hi p.a p.c p.b p.d p.xs p.ys
  tB : Ten w hi q.a q.c q.b q.d q.xs q.ys
  f0 : -9223372036854775808 ≤ f
  f1 : f ≤ 9223372036854775807
theorem TwoAt.below {w w' : World} {hi b o : Nat} {p q : TenV} {f : Int} (h : TwoAt w hi b o p q f) (hb : Below hi w w') : TwoAt w' hi b o p q f :=
  ⟨h.lt, (hb.cell (p := ⟨b, o, none⟩) h.lt).trans h.c0, (hb.cell (p := ⟨b, o + 1, none⟩) h.lt).trans h.c1, (hb.cell (p := ⟨b, o + 2, none⟩) h.lt).trans h.c2, (hb.cell (p := ⟨b, o + 3, none⟩) h.lt).trans h.c3,
   (hb.cell (p := ⟨b, o + 4, none⟩) h.lt).trans h.c4, h.tA.below hb (Nat.le_refl _), h.tB.below hb (Nat.le_refl _), h.f0, h.f1⟩
/-- The argument of layer 10's statements. -/
structure TwosAt (w : World) (hi : Nat) (a : Option Addr) (n : Nat) : Prop where
  len : n ≤ 9223372036854775807
  at_ : ∀ i, i < n → ∃ b off p q f, a = some ⟨b, off, none⟩ ∧ TwoAt w hi b (off + i * 5) p q f

theorem own1 : ownKnob Tryz.prog.godebug = none := by kernel_rfl
theorem laidOut1 : laidOutB Tryz.prog = true := by kernel_rfl
theorem cellsI1 : Tryz.prog.cellsOf 2 = 1 := by kernel_rfl
theorem cellsN1 : Tryz.prog.cellsOf 3 = 1 := by kernel_rfl
theorem cellsSl1 : Tryz.prog.cellsOf 23 = 1 := by kernel_rfl
theorem cellsSl2 : Tryz.prog.cellsOf 24 = 1 := by kernel_rfl
theorem cellsT1 : Tryz.prog.cellsOf 26 = 2 := by kernel_rfl
theorem cellsTwo1 : Tryz.prog.cellsOf 28 = 5 := by kernel_rfl

theorem list5 {α : Type} {cs : List α} (h : cs.length = 5) : ∃ a b c d e, cs = [a, b, c, d, e] := by
  match cs, h with
  | [a, b, c, d, e], _ => exact ⟨a, b, c, d, e, rfl⟩

theorem ten_of_trod {H : Type} {enc : TypeId × Value → H} {W : World} {spare : Nat → Bool} {held : Bool} {fuel : Nat} {v0 v1 : Value} {x : DataW H × List MemPlace}
    (h : DataW.trod enc Tryz.prog W 0 spare held fuel 26 [v0, v1] = some x) : ∃ p : TenV, v0 = .slice p.a p.xs.length p.c ∧ v1 = .slice p.b p.ys.length p.d ∧ Ten W W.heap.size p.a p.c p.b p.d p.xs p.ys := by
  obtain ⟨n0, y0, u0, hu0, ht0⟩ := trod_field1 Tryz.underlying26 h 0 _ rfl cellsSl1 (by show 0 < 2; omega)
  obtain ⟨n1, y1, u1, hu1, ht1⟩ := trod_field1 Tryz.underlying26 h 1 _ rfl cellsSl2 (by show 1 < 2; omega)
  have e0 : v0 = u0 := by simpa using hu0
  have e1 : v1 = u1 := by simpa using hu1
  subst e0; subst e1
  obtain ⟨a, xs, c, rfl, hI, hc, hc2⟩ := trod_ints_cap Tryz.underlying23 Tryz.underlying3 cellsN1 ht0
  obtain ⟨b, ys, d, rfl, hI2, hd, hd2⟩ := trod_ints_cap Tryz.underlying24 Tryz.underlying2 cellsI1 ht1
  exact ⟨⟨a, c, b, d, xs, ys⟩, rfl, rfl, hI, hI2, hc, hc2, hd, hd2⟩

theorem twos_of_trod {H : Type} {enc : TypeId × Value → H} {W : World} {spare : Nat → Bool} {held : Bool} {a : Option Addr} {n c : Nat} {d : DataW H} {ps : List MemPlace}
    (h : DataW.Trod enc Tryz.prog W 0 spare held 22 (.slice a n c) d ps) : TwosAt W W.heap.size a n := by
  obtain ⟨fuel, hf⟩ := h
  simp only [Value.cells] at hf
  obtain ⟨a', len, cap, he, hlen, hat⟩ := trod_elems Tryz.underlying22 (by rw [cellsTwo1]; omega) hf
  injection he with e1 e2 e3
  subst e1; subst e2; subst e3
  refine ⟨hlen, fun i hi => ?_⟩
  obtain ⟨b, off, cs, m, y, rfl, hb, hcl, hcell, hy⟩ := hat i hi
  rw [cellsTwo1] at hcl hcell
  obtain ⟨v0, v1, v2, v3, v4, rfl⟩ := list5 hcl
  obtain ⟨n0, y0, ht0⟩ := trod_field Tryz.underlying28 hy 0 _ rfl
  have q0 : (([v0, v1, v2, v3, v4].drop 0).take (Tryz.prog.cellsOf 26)) = [v0, v1] := by rw [cellsT1]; rfl
  have ht0' : DataW.trod enc Tryz.prog W 0 spare held n0 26 [v0, v1] = some y0 := by rw [← q0]; exact ht0
  obtain ⟨n1, y1, ht1⟩ := trod_field Tryz.underlying28 hy 1 _ rfl
  have q1 : (([v0, v1, v2, v3, v4].drop 2).take (Tryz.prog.cellsOf 26)) = [v2, v3] := by rw [cellsT1]; rfl
  have ht1' : DataW.trod enc Tryz.prog W 0 spare held n1 26 [v2, v3] = some y1 := by rw [← q1]; exact ht1
  obtain ⟨n2, y2, u4, hu4, ht4⟩ := trod_field1 Tryz.underlying28 hy 2 _ rfl cellsN1 (by show 4 < 5; omega)
  have e4 : v4 = u4 := by simpa using hu4
  subst e4
  obtain ⟨p, rfl, rfl, hA⟩ := ten_of_trod ht0'
  obtain ⟨q, rfl, rfl, hB⟩ := ten_of_trod ht1'
  obtain ⟨k, hk, _, wk⟩ := DataW.trod_int Tryz.underlying3 ht4
  simp at hk
  subst hk
  obtain ⟨k0, k1⟩ := wf_i64_iff.1 wk
  exact ⟨b, off, p, q, k, rfl, hb, (hcell 0 (by omega)), (hcell 1 (by omega)), (hcell 2 (by omega)), (hcell 3 (by omega)), (hcell 4 (by omega)), hA, hB, k0, k1⟩

theorem TEnv.cellN {B : Nat} {w0 W : World} {T : List TenV} {C : List (Addr × Value)} (h : TEnv B w0 W T C) (k : Nat) {a : Addr} {v : Value} (hk : C[k]? = some (a, v)) : W.cell? a = some v := h.cell (List.mem_of_getElem? hk)
theorem TEnv.ltN {B : Nat} {w0 W : World} {T : List TenV} {C : List (Addr × Value)} (h : TEnv B w0 W T C) (k : Nat) {a : Addr} {v : Value} (hk : C[k]? = some (a, v)) : a.block < W.heap.size := h.lt (List.mem_of_getElem? hk)
theorem TEnv.tenN {B : Nat} {w0 W : World} {T : List TenV} {C : List (Addr × Value)} (h : TEnv B w0 W T C) (k : Nat) {a b : Option Addr} {c d : Nat} {xs ys : List Int} (hk : T[k]? = some ⟨a, c, b, d, xs, ys⟩) : Ten W W.heap.size a c b d xs ys := h.ten (List.mem_of_getElem? hk)

/-- A list that is being rewritten in place: the first k words are told by f. -/
def mixL (f : Nat → Int) (ys : List Int) (k : Nat) : List Int := (List.range ys.length).map fun j => if j < k then f j else ys[j]?.getD 0
theorem mixL_len (f : Nat → Int) (ys : List Int) (k : Nat) : (mixL f ys k).length = ys.length := by simp [mixL]
theorem mixL_zero (f : Nat → Int) (ys : List Int) : mixL f ys 0 = ys := by
  apply List.ext_getElem
  · simp [mixL]
  · intro i h1 h2
    simp [mixL, List.getElem?_eq_getElem h2]
theorem mixL_full (f : Nat → Int) (ys : List Int) : mixL f ys ys.length = (List.range ys.length).map f := by
  apply List.ext_getElem
  · simp [mixL]
  · intro i h1 h2
    simp [mixL] at h1 ⊢
    omega
theorem mixL_get (f : Nat → Int) (ys : List Int) (k : Nat) (hk : k < ys.length) : (mixL f ys k)[k]?.getD 0 = ys[k]?.getD 0 := by
  simp [mixL, hk]
theorem mixL_set (f : Nat → Int) (ys : List Int) (k : Nat) : (mixL f ys k).set k (f k) = mixL f ys (k + 1) := by
  apply List.ext_getElem
  · simp [mixL]
  · intro i h1 h2
    rw [List.getElem_set]
    simp [mixL] at h1 ⊢
    by_cases h : k = i
    · subst h
      simp
    · rw [if_neg h]
      by_cases h3 : i < k
      · rw [if_pos h3, if_pos (by omega)]
      · rw [if_neg h3, if_neg (by omega)]
theorem map_range_get (ys : List Int) (f : Int → Int) : ((List.range ys.length).map fun j => f (ys[j]?.getD 0)) = ys.map f := by
  apply List.ext_getElem
  · simp
  · intro i h1 h2
    have : i < ys.length := by simpa using h2
    simp [this]

/-- A tensor of the call's own, in a variable of its own: it may be rewritten in place. -/
theorem fill_start {w : World} {m c d : Nat} {a b : Option Addr} {xs ys : List Int} (hO : w.ownsRow m 2 1 (.slice b ys.length d) ys.length (ys.map (Value.int .i64))) (h1 : 1 ≤ ys.length) (t : TypeId) :
    ∃ g, b = some ⟨g, 0, none⟩ ∧ m ≤ g ∧ w.heap.size ≠ g ∧ Fill (w.alloc (.cells #[.slice a xs.length c, .slice b ys.length d] t)) (w.alloc (.cells #[.slice a xs.length c, .slice b ys.length d] t)) m w.heap.size g d ys.length (.slice a xs.length c) (.slice b ys.length d) ys := by
  obtain ⟨aa, cc, he, hh⟩ := own_shape hO
  rcases hh with hh | ⟨g, hg, h2, h3⟩
  · omega
  · cases he
    subst hg
    exact ⟨g, rfl, h2, by omega, Nat.le_refl _, Below.refl _ _, hO.alloc _, box2_new _ _ _ _⟩

theorem make_words (n : Nat) (hn : n ≤ 17592186044416) (w : World) : (Instr.makeSlice 24 (.int .i64 (n : Int)) (.int .i64 (n : Int))).run Tryz.prog w = .ok (.slice (some ⟨w.heap.size, 0, none⟩) n n) (w.alloc (.cells (madeCells #[Value.int .i64 0] n) 2)) := by
  obtain ⟨i, hi, hz0, hz1, hz2⟩ := info_parts infoI64
  have hr := run_make (P := Tryz.prog) w 24 2 i (.int .i64 0) Tryz.underlying24 hi hz0 .i64 .i64 n n (by omega) (Int.le_refl _) (by rw [hz2]; omega) (by omega)
  simp only [Int.toNat_natCast, hz1, Nat.mul_one, Value.cells] at hr
  exact hr

/-- A new tensor of noughts, in a variable of its own. -/
def NoneOK (B : Nat) (w0 : World) (T : List TenV) (C : List (Addr × Value)) (a : Option Addr) (c n : Nat) (xs : List Int) (s : Value) (W : World) : Prop :=
  ∃ q g : Nat, s = .pointer (some ⟨q, 0, none⟩) ∧ TEnv B w0 W (⟨a, c, some ⟨g, 0, none⟩, n, xs, List.replicate n 0⟩ :: T) ((⟨q, 0, none⟩, .slice a xs.length c) :: (⟨q, 1, none⟩, .slice (some ⟨g, 0, none⟩) n n) :: C)

theorem made_ten {V : World} {a : Option Addr} {c n : Nat} {xs : List Int} (hA : Ints .i64 V V.heap.size a xs) (hc : xs.length ≤ c ∧ c ≤ 9223372036854775807) (hn : n ≤ 17592186044416) :
    Ten (V.alloc (.cells (madeCells #[Value.int .i64 0] n) 2)) (V.alloc (.cells (madeCells #[Value.int .i64 0] n) 2)).heap.size a c (some ⟨V.heap.size, 0, none⟩) n xs (List.replicate n 0) := by
  have row := World.ownsRow_lit (base := V.heap.size) (e := 2) (size := 1) V (madeCells #[Value.int .i64 0] n) n (Nat.le_refl _) (by unfold maxLen; omega) (by rw [size_madeCells, Nat.mul_one])
  rw [made_zeros] at row
  have hl : (List.replicate n (0 : Int)).length = n := List.length_replicate
  obtain ⟨aa, cc, he, hI⟩ := own_ints row (by intro x hx; rw [(List.mem_replicate.1 hx).2]; decide)
  rw [hl] at he
  cases he
  have hb : Below V.heap.size V (V.alloc (.cells (madeCells #[Value.int .i64 0] n) 2)) := (Below.refl _ _).alloc (Nat.le_refl _) _
  exact ⟨(hA.below hb (Nat.le_refl _)).mono hb.size, hI, hc.1, hc.2, by rw [hl]; exact Nat.le_refl _, by omega⟩

theorem none_ok1 {B : Nat} {w0 V : World} {T : List TenV} {C : List (Addr × Value)} (E : TEnv B w0 V T C) {a : Option Addr} {c n : Nat} {xs : List Int} (hA : Ints .i64 V V.heap.size a xs) (hc : xs.length ≤ c ∧ c ≤ 9223372036854775807) (hn : n ≤ 17592186044416) :
    NoneOK B w0 T C a c n xs (.pointer (some ⟨V.heap.size + 1, 0, none⟩)) ((V.alloc (.cells (madeCells #[Value.int .i64 0] n) 2)).alloc (.cells #[.slice a xs.length c, .slice (some ⟨V.heap.size, 0, none⟩) n n] 26)).drew := by
  refine ⟨V.heap.size + 1, V.heap.size, rfl, ?_⟩
  have h := (((E.alloc (.cells (madeCells #[Value.int .i64 0] n) 2)).addT (made_ten hA hc hn)).box (.slice a xs.length c) (.slice (some ⟨V.heap.size, 0, none⟩) n n) 26).drewN 1
  have hs : (V.alloc (.cells (madeCells #[Value.int .i64 0] n) 2)).heap.size = V.heap.size + 1 := by simp
  rw [hs] at h
  exact h
theorem none_ok2 {B : Nat} {w0 V : World} {T : List TenV} {C : List (Addr × Value)} (E : TEnv B w0 V T C) {a : Option Addr} {c n : Nat} {xs : List Int} (hA : Ints .i64 V V.heap.size a xs) (hc : xs.length ≤ c ∧ c ≤ 9223372036854775807) (hn : n ≤ 17592186044416) :
    NoneOK B w0 T C a c n xs (.pointer (some ⟨V.heap.size, 0, none⟩)) ((V.alloc (.cells #[.slice a xs.length c, .slice (some ⟨V.heap.size + 1, 0, none⟩) n n] 26)).alloc (.cells (madeCells #[Value.int .i64 0] n) 2)).drew := by
  refine ⟨V.heap.size, V.heap.size + 1, rfl, ?_⟩
  have h0 := E.box (.slice a xs.length c) (.slice (some ⟨V.heap.size + 1, 0, none⟩) n n) 26
  have hb : Below V.heap.size V (V.alloc (.cells #[.slice a xs.length c, .slice (some ⟨V.heap.size + 1, 0, none⟩) n n] 26)) := (Below.refl _ _).alloc (Nat.le_refl _) _
  have hs : (V.alloc (.cells #[.slice a xs.length c, .slice (some ⟨V.heap.size + 1, 0, none⟩) n n] 26)).heap.size = V.heap.size + 1 := by simp
  have ht := made_ten ((hA.below hb (Nat.le_refl _)).mono hb.size) hc hn
  rw [hs] at ht
  exact ((h0.alloc (.cells (madeCells #[Value.int .i64 0] n) 2)).addT ht).drewN 1
end Go.Proofs.YtddhhfhammmaaaaGreat
