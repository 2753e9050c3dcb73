/- Rows of rows: the plain laws; a list of numbers that is appended to. -/
import Derived.Test.YtimjhjacinchjaaELaw
import Derived.OwnWalk
import Derived.Test.YtimjhjacinchjaaParts
set_option linter.unusedVariables false
set_option linter.unusedSimpArgs false
namespace Go.Proofs.Ytimjhjacinchjaa
open Go.RowKit Go.Rt

theorem ints_setOther {k : IntKind} {w : World} {hi : Nat} {a : Option Addr} {xs : List Int} {q o : Nat} {v v' : Value} (h : Ints k w hi a xs) (hc : w.cell? ⟨q, o, none⟩ = some v) (hv : ∀ x, v ≠ .int k x) : Ints k (w.setCell ⟨q, o, none⟩ v') hi a xs :=
  ⟨h.len, h.wf, fun i hi' => by
    obtain ⟨b, off, ha, hlt, hb⟩ := h.cell i hi'
    refine ⟨b, off, ha, hlt, ?_⟩
    rw [← hb]
    have hn : ¬ (b = q ∧ off + i = o) := by
      rintro ⟨h1, h2⟩
      subst h1 h2
      rw [hc] at hb
      cases hb
      exact hv _ rfl
    by_cases hq : b = q
    · have h2 : ¬ off + i = o := fun h => hn ⟨hq, h⟩
      go_simp
    · go_simp⟩
theorem ten_setOther {W : World} {hi : Nat} {a b : Option Addr} {c d : Nat} {xs ys : List Int} {q o : Nat} {v v' : Value} (h : Ten W hi a c b d xs ys) (hc : W.cell? ⟨q, o, none⟩ = some v) (hv : ∀ x, v ≠ .int .i64 x) : Ten (W.setCell ⟨q, o, none⟩ v') hi a c b d xs ys :=
  ⟨ints_setOther h.sh hc hv, ints_setOther h.da hc hv, h.c1, h.c2, h.d1, h.d2⟩
/-- A variable of two slices is written anew. -/
theorem TEnv.setBox {B : Nat} {w0 W : World} {T : List TenV} {C : List (Addr × Value)} {q n0 k0 n1 k1 : Nat} {s0 s1 : Option Addr} (h : TEnv B w0 W T ((⟨q, 0, none⟩, .slice s0 n0 k0) :: (⟨q, 1, none⟩, .slice s1 n1 k1) :: C)) (hq : B ≤ q) (hC : ∀ p ∈ C, p.1.block < q) (v0 v1 : Value) :
    TEnv B w0 ((W.setCell ⟨q, 0, none⟩ v0).setCell ⟨q, 1, none⟩ v1) T ((⟨q, 0, none⟩, v0) :: (⟨q, 1, none⟩, v1) :: C) := by
  have c0 := h.cells _ (List.mem_cons_self ..)
  have c1 := h.cells _ (List.mem_cons_of_mem _ (List.mem_cons_self ..))
  simp only at c0 c1
  have c1' : (W.setCell ⟨q, 0, none⟩ v0).cell? ⟨q, 1, none⟩ = some (.slice s1 n1 k1) := by
    have := c1.1
    go_simp
  have hs : ((W.setCell ⟨q, 0, none⟩ v0).setCell ⟨q, 1, none⟩ v1).heap.size = W.heap.size := by simp
  refine ⟨by rw [hs]; exact h.hB, (h.bel.setCell hq _).setCell hq _, ?_, ?_⟩
  · intro p hp
    rw [hs]
    exact ten_setOther (ten_setOther (h.tens p hp) c0.1 (by intro x e; cases e)) c1' (by intro x e; cases e)
  · intro p hp
    rw [hs]
    rcases List.mem_cons.1 hp with rfl | hp
    · exact ⟨by have := c0.1; have := c1.1; go_simp, c0.2⟩
    rcases List.mem_cons.1 hp with rfl | hp
    · exact ⟨by have := c0.1; have := c1'; go_simp, c0.2⟩
    · have hp2 := h.cells p (List.mem_cons_of_mem _ (List.mem_cons_of_mem _ hp))
      have hne : ¬ p.1.block = q := by have := hC p hp; omega
      exact ⟨by rw [World.cell?_setCell_far _ _ _ _ (fun e => hne e.symm), World.cell?_setCell_far _ _ _ _ (fun e => hne e.symm)]; exact hp2.1, hp2.2⟩
theorem appendI {w : World} {ops : Array Oper} {rest : List Oper} {o : Oper} {a : Act} {Q : Exit → Act → World → Prop}
    (base : Nat) (v : Value) (n : Nat) (xs : List Int) (y : Int) (cap : Nat) (s x : Operand) (hg : o.guard = none) (ho : o.op = .call { callee := .builtin .append, args := #[s, x], argTypes := #[23, 23] })
    (hs : a.eval s = v) (hown : w.ownsRow base 3 1 v n (xs.map (Value.int .i64))) (hx : a.eval x = .slice (some ⟨w.heap.size, 0, none⟩) 1 cap) (hn : n ≤ 1000000) (hb : base ≤ w.heap.size)
    (hK : ∀ v' w', w'.ownsRow base 3 1 v' (n + 1) ((xs ++ [y]).map (Value.int .i64)) → (∀ B W0, B ≤ base → Below B W0 w → Below B W0 w') → w.grownBy w' v.ownBlock → (v'.ownBlock = v.ownBlock ∨ v'.ownBlock = some (w.heap.size + 1)) →
      wpList Try.prog ops Q rest (a.put o.dst v') w') : wpList Try.prog ops Q (o :: rest) a (w.alloc (.cells #[.int .i64 y] 3)) := by
  obtain ⟨i, hi, hz0, hz1, hz2⟩ := info_parts infoInt
  refine wpList_append_own_at _ hg s x _ ho base 3 i (.int .i64 0) 1 8 Try.underlying23 hi hz0 hz1 hz2 rfl (by decide) v n _ hs (hown.alloc _) ⟨w.heap.size, 0, none⟩ 1 cap [.int .i64 y] hx rfl (cell_one_new _ _ _)
    (by simp [Value.oneCell']) (by unfold maxLen; omega) (by omega) (by simp; omega) ?_
  intro v' w' hown' hgrow _ hob
  refine hK v' w' (by simpa using hown') (fun B W0 hB hbel => ?_) (grown_trans (World.grownBy_alloc w _ _) hgrow) (by simpa using hob)
  have hlt := hown.lt
  refine (hbel.alloc (Nat.le_trans hB hb) _).grown hgrow (by simp; omega) (fun j hj => ?_)
  have := hlt j hj
  omega
theorem rowsY_mem {d : Nat} {ys ids : List Int} {y : Int} (h : y ∈ rowsY d ys ids) : y ∈ ys := by
  unfold rowsY at h
  obtain ⟨k, _, hy⟩ := List.mem_flatMap.1 h
  unfold rowOf at hy
  exact List.mem_of_mem_drop (List.mem_of_mem_take hy)
theorem embY_word {xs ys ids : List Int} (h : ∀ y ∈ ys, isW y = true) : ∀ y ∈ embY xs ys ids, isW y = true := by
  intro y hy
  unfold embY at hy
  split at hy
  · exact h y (rowsY_mem hy)
  · cases hy
theorem embE_0 {R D : Nat} {ids : List Int} (hn : ids.length ≠ 0) (hk : ∀ k ∈ ids, 0 ≤ k ∧ k < (R : Int)) : embE [(R : Int), (D : Int)] ids = if goodB [(ids.length : Int), (D : Int)] = true then 0 else 5 := by
  unfold embE
  have h1 : idsB (R : Int) ids = true := idsB_iff.2 hk
  simp only [List.length_cons, List.length_nil, List.getElem?_cons_zero, List.getElem?_cons_succ, Option.getD_some]
  rw [h1, decide_eq_true hn]
  rfl
theorem embE_2 {R D : Nat} : embE [(R : Int), (D : Int)] [] = 2 := by
  unfold embE
  simp
/-- All rows, in order. -/
def allL (R : Nat) : List Int := (List.range R).map Int.ofNat
theorem allL_len (R : Nat) : (allL R).length = R := by simp [allL]
theorem allL_succ (R : Nat) : allL (R + 1) = allL R ++ [(R : Int)] := by simp [allL, List.range_succ]
theorem allL_mem {R : Nat} {k : Int} (h : k ∈ allL R) : 0 ≤ k ∧ k < (R : Int) := by
  obtain ⟨j, hj, rfl⟩ := List.mem_map.1 h
  have := List.mem_range.1 hj
  show (0 : Int) ≤ (j : Int) ∧ (j : Int) < R
  omega
theorem emb_all {R D : Nat} {ys : List Int} (hR : 1 ≤ R) (hg : goodB [(R : Int), (D : Int)] = true) (hl : ys.length = R * D) : embE [(R : Int), (D : Int)] (allL R) = 0 ∧ embX [(R : Int), (D : Int)] (allL R) = [(R : Int), (D : Int)] ∧ embY [(R : Int), (D : Int)] ys (allL R) = ys := by
  have e0 : embE [(R : Int), (D : Int)] (allL R) = 0 := by
    rw [embE_0 (by rw [allL_len]; omega) (fun k hk => allL_mem hk), allL_len, if_pos hg]
  refine ⟨e0, ?_, ?_⟩
  · unfold embX
    rw [if_pos e0, allL_len]
    rfl
  · unfold embY
    rw [if_pos e0]
    show rowsY (D : Int).toNat ys (allL R) = ys
    rw [Int.toNat_natCast]
    exact all_rows hl
/-- Where a row is picked: number m within n. -/
def twL (ms : List Int) (n : Nat) : List Nat := ms.map fun m => (withinN m n).toNat
theorem twL_lt {ms : List Int} {n : Nat} (hn : 1 ≤ n) : ∀ j ∈ twL ms n, j < n := by
  intro j hj
  obtain ⟨m, _, rfl⟩ := List.mem_map.1 hj
  have := withinN_bound m n (by omega)
  omega
theorem emb_twice {R D : Nat} {ys ids ms : List Int} (hl : ys.length = R * D) (hk : ∀ k ∈ ids, 0 ≤ k ∧ k < (R : Int)) (hn : ids.length ≠ 0) :
    embE [(ids.length : Int), (D : Int)] ((twL ms ids.length).map Int.ofNat) = embE [(R : Int), (D : Int)] ((twL ms ids.length).map fun j => ids[j]?.getD 0) ∧
    embX [(ids.length : Int), (D : Int)] ((twL ms ids.length).map Int.ofNat) = embX [(R : Int), (D : Int)] ((twL ms ids.length).map fun j => ids[j]?.getD 0) ∧
    embY [(ids.length : Int), (D : Int)] (rowsY D ys ids) ((twL ms ids.length).map Int.ofNat) = embY [(R : Int), (D : Int)] ys ((twL ms ids.length).map fun j => ids[j]?.getD 0) := by
  have hlt := twL_lt (ms := ms) (n := ids.length) (by omega)
  have hkk : ∀ k ∈ (twL ms ids.length).map (fun j => ids[j]?.getD 0), 0 ≤ k ∧ k < (R : Int) := by
    intro k hkm
    obtain ⟨j, hj, rfl⟩ := List.mem_map.1 hkm
    have := hlt j hj
    rw [List.getElem?_eq_getElem this, Option.getD_some]
    exact hk _ (List.getElem_mem this)
  have hk2 : ∀ k ∈ (twL ms ids.length).map Int.ofNat, 0 ≤ k ∧ k < (ids.length : Int) := by
    intro k hkm
    obtain ⟨j, hj, rfl⟩ := List.mem_map.1 hkm
    have := hlt j hj
    show (0 : Int) ≤ (j : Int) ∧ (j : Int) < _
    omega
  have hrr := rows_rows hl hk (twL ms ids.length) hlt
  have e0 : embE [(ids.length : Int), (D : Int)] ((twL ms ids.length).map Int.ofNat) = embE [(R : Int), (D : Int)] ((twL ms ids.length).map fun j => ids[j]?.getD 0) := by
    cases ms with
    | nil => simp only [twL, List.map_nil]; rw [embE_2, embE_2]
    | cons m ms => rw [embE_0 (by simp [twL]) hk2, embE_0 (by simp [twL]) hkk]; simp only [List.length_map]
  refine ⟨e0, ?_, ?_⟩
  · unfold embX
    rw [e0]
    simp only [List.length_map]
    rfl
  · unfold embY
    rw [e0]
    show (if _ = 0 then rowsY (D : Int).toNat (rowsY D ys ids) _ else []) = (if _ = 0 then rowsY (D : Int).toNat ys _ else [])
    rw [Int.toNat_natCast, hrr]
theorem emb_ten {R D : Nat} {ys ids : List Int} (hl : ys.length = R * D) (hw : ∀ y ∈ ys, isW y = true) (hE : embE [(R : Int), (D : Int)] ids = 0) :
    embX [(R : Int), (D : Int)] ids = [(ids.length : Int), (D : Int)] ∧ embY [(R : Int), (D : Int)] ys ids = rowsY D ys ids ∧ tenB [(ids.length : Int), (D : Int)] (rowsY D ys ids) = true ∧ (∀ k ∈ ids, 0 ≤ k ∧ k < (R : Int)) ∧ ids.length ≠ 0 := by
  have hE0 := hE
  unfold embE at hE
  change (if (decide ((2 : Nat) = 2) && (decide (ids.length ≠ 0) && idsB (R : Int) ids)) = true then (if goodB [(ids.length : Int), (D : Int)] = true then (0 : Int) else 5) else 2) = 0 at hE
  have hc : (decide ((2 : Nat) = 2) && (decide (ids.length ≠ 0) && idsB (R : Int) ids)) = true := by
    cases h : (decide ((2 : Nat) = 2) && (decide (ids.length ≠ 0) && idsB (R : Int) ids)) with
    | true => rfl
    | false => rw [h, if_neg (by decide)] at hE; cases hE
  rw [hc, if_pos rfl] at hE
  have hg : goodB [(ids.length : Int), (D : Int)] = true := by
    cases h : goodB [(ids.length : Int), (D : Int)] with
    | true => rfl
    | false => rw [h, if_neg (by decide)] at hE; cases hE
  simp only [Bool.and_eq_true, decide_eq_true_eq] at hc
  obtain ⟨_, hn, hib⟩ := hc
  have hids := idsB_iff.1 hib
  refine ⟨by unfold embX; rw [if_pos hE0]; rfl, ?_, ?_, hids, hn⟩
  · unfold embY
    rw [if_pos hE0]
    show rowsY (D : Int).toNat ys ids = _
    rw [Int.toNat_natCast]
  · refine tenB_iff.2 ⟨hg, ?_, fun y hy => hw y (rowsY_mem hy)⟩
    rw [rowsY_len hl hids]
    simp [prodI]
/-- Masks that are never 0. -/
def onesV (k : Nat) : Int := -1 - (k : Int)
end Go.Proofs.Ytimjhjacinchjaa
