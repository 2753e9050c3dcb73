/- Walks: the iterator over rows that are named. -/
import Derived.Test.YtimjhjacinchjaaGreatEOut
import Derived.Test.YtimjhjacinchjaaGreatEmbP
import Derived.RangeFuncFrom
import Derived.RangeFuncNested
import Derived.RangeFuncBound
import Derived.RangeFuncCalls
import Derived.RangeFuncLeaves
import Derived.RangeFuncBox
import Derived.Shelf.Abstract
import Derived.Shelf.RegionOpen
import Derived.OwnWalkIn
import Derived.TacticsInMore
import Derived.LoopNIn
import Derived.LoopIn
import Derived.Lib.BufferWrite
set_option linter.unusedVariables false
set_option linter.unusedSimpArgs false
namespace Go.Proofs.YtimjhjacinchjaaGreat
open Go.RowKit Go.Rt

attribute [local go_sem] Oper.semAt_some

/-- All blocks below n but U lie as they lay. -/
structure Save (n U : Nat) (A B : World) : Prop where
  size : A.heap.size ≤ B.heap.size
  same : ∀ j, j < n → j ≠ U → B.heap[j]? = A.heap[j]?
theorem Save.refl (n U : Nat) (A : World) : Save n U A A := ⟨Nat.le_refl _, fun _ _ _ => rfl⟩
theorem Save.trans {n U : Nat} {A B C : World} (h : Save n U A B) (k : Save n U B C) : Save n U A C := ⟨Nat.le_trans h.size k.size, fun j h1 h2 => (k.same j h1 h2).trans (h.same j h1 h2)⟩
theorem Save.cell {n U : Nat} {A B : World} (h : Save n U A B) {p : Addr} {v : Value} (hp : p.block < n) (hU : p.block ≠ U) (hc : A.cell? p = some v) : B.cell? p = some v := (World.cell?_of_block (h.same p.block hp hU)).trans hc
theorem Save.put {n U : Nat} {w : World} (hn : n ≤ w.heap.size) (W : World) (l : Nat) (o o' : Obj) (hl : w.heap.size ≤ l) (h : W.heap[l]? = some o) (_ : o.isCells = false) (_ : o.isWalk = false) : Save n U W (W.putObj l o') := by
  have hg := grownBy_putObj' W l o'
  have hlt := (Array.getElem?_eq_some_iff.1 h).1
  exact ⟨hg.size, fun j hj _ => hg.block j (by omega) (fun e => by cases e; omega)⟩

set_option maxHeartbeats 1000000 in
/-- embed.rows: a closure over boxes of the ids, of the tensor, of the rows' length. -/
theorem rows_any (a b a2 : Option Addr) (c d c2 : Nat) (ys ids : List Int) (r dd : Int) (w : World) (hX : Ints .i64 w w.heap.size a [r, dd]) :
    Calls Tryz.prog 26 #[.agg #[.slice a 2 c, .slice b ys.length d], .slice a2 ids.length c2] w fun e w' => e = .returned (.func (.func 48) #[] #[.pointer (some ⟨w.heap.size + 1, 0, none⟩), .pointer (some ⟨w.heap.size, 0, none⟩), .pointer (some ⟨w.heap.size + 1 + 1, 0, none⟩)]) ∧ Below w.heap.size w w' ∧ w'.heap.size = w.heap.size + 3 ∧
      w'.cell? ⟨w.heap.size, 1, none⟩ = some (.slice b ys.length d) ∧ w'.cell? ⟨w.heap.size + 1, 0, none⟩ = some (.slice a2 ids.length c2) ∧ w'.cell? ⟨w.heap.size + 1 + 1, 0, none⟩ = some (.int .i64 dd) := by
  obtain ⟨bS, oS, eS, lS, cd⟩ := hX.cell 1 (by simp)
  subst eS
  simp only [List.getElem?_cons_zero, List.getElem?_cons_succ, Option.getD_some, List.length_cons, List.length_nil] at cd
  clear hX
  go_enter Tryz.func26, Tryz.ntmps26
  go_wp2
  go_ret
  exact ⟨rfl, (by (repeat' (first | exact Below.refl _ _ | refine below_drewN ?_ _ | refine Below.drew ?_ | refine Below.setCell ?_ (by first | omega | (simp <;> omega)) _ | refine Below.alloc ?_ (by first | omega | (simp <;> omega)) _))), by simp, by simp [go_sem], by simp [go_sem], by simp [go_sem]⟩

/-- The ids as rows. -/
def finOf (r : Nat) (hr : 0 < r) (ids : List Int) (j : Nat) : Fin r := if h : (ids[j]?.getD 0).toNat < r then ⟨_, h⟩ else ⟨0, hr⟩
def uptoF (r : Nat) (hr : 0 < r) (ids : List Int) (k : Nat) : List (Fin r) := (List.range k).map (finOf r hr ids)
theorem uptoF_succ (r : Nat) (hr : 0 < r) (ids : List Int) (k : Nat) : uptoF r hr ids (k + 1) = uptoF r hr ids k ++ [finOf r hr ids k] := by simp [uptoF, List.range_succ]
theorem uptoF_len (r : Nat) (hr : 0 < r) (ids : List Int) (k : Nat) : (uptoF r hr ids k).length = k := by simp [uptoF]
theorem finOf_val {r : Nat} (hr : 0 < r) {ids : List Int} (hk : ∀ k ∈ ids, 0 ≤ k ∧ k < r) {j : Nat} (hj : j < ids.length) : ((finOf r hr ids j).val : Int) = ids[j]?.getD 0 := by
  have h1 := hk ids[j] (List.getElem_mem hj)
  unfold finOf
  rw [List.getElem?_eq_getElem hj, Option.getD_some, dif_pos (by omega)]
  show ((ids[j].toNat : Nat) : Int) = _
  omega
theorem uptoF_all {r : Nat} (hr : 0 < r) {ids : List Int} (hk : ∀ k ∈ ids, 0 ≤ k ∧ k < r) : (uptoF r hr ids ids.length).map (fun k => (k.val : Int)) = ids := by
  apply List.ext_getElem
  · simp [uptoF]
  · intro i h1 h2
    simp only [uptoF, List.getElem_map, List.getElem_range]
    rw [finOf_val hr hk h2, List.getElem?_eq_getElem h2, Option.getD_some]

set_option maxRecDepth 100000 in
set_option maxHeartbeats 2000000 in
/-- The iterator, called at yield of loop l, for every body that keeps all below n₀ but block U. -/
theorem rows1_in (n : Nat) (hn : 1 ≤ n) (l n₀ U Bi Bt Bd bI oI cI bD oD cD dd L r : Nat) (ids : List Int) (hr : 0 < r) (hids : ∀ k ∈ ids, 0 ≤ k ∧ k < r) (hil : ids.length ≤ 9223372036854775807) (hd1 : 1 ≤ dd) (hL : L = r * dd) (hLc : L ≤ cD) (hcD : cD ≤ 9223372036854775807)
    (hBi : Bi < n₀ ∧ Bi ≠ U) (hBt : Bt < n₀ ∧ Bt ≠ U) (hBd : Bd < n₀ ∧ Bd ≠ U) (hbI : ids.length ≠ 0 → bI < n₀ ∧ bI ≠ U) (J Jx : List (Fin r) → World → Prop)
    (hY : ∀ pre (x : Fin r) W1, J pre W1 → pre.length < ids.length → YieldAt Fence.wide (n - 1) Tryz.prog l #[.slice (some ⟨bD, oD + x.val * dd, none⟩) dd dd] W1 fun e W' =>
      (e = .returned (.bool true) ∧ J (pre ++ [x]) W' ∧ Save n₀ U W1 W') ∨ (e = .returned (.bool false) ∧ Jx (pre ++ [x]) W'))
    (W : World) (c0 : W.cell? ⟨Bi, 0, none⟩ = some (.slice (some ⟨bI, oI, none⟩) ids.length cI)) (c1 : W.cell? ⟨Bt, 1, none⟩ = some (.slice (some ⟨bD, oD, none⟩) L cD)) (c2 : W.cell? ⟨Bd, 0, none⟩ = some (.int .i64 dd))
    (hc : ∀ j, j < ids.length → W.cell? ⟨bI, oI + j, none⟩ = some (.int .i64 (ids[j]?.getD 0))) (h0 : J [] W) :
    CallsIn Fence.wide n Tryz.prog 48 #[.func (.yield l) #[] #[], .pointer (some ⟨Bi, 0, none⟩), .pointer (some ⟨Bt, 0, none⟩), .pointer (some ⟨Bd, 0, none⟩)] W fun e W' => (∃ v, e = .returned v) ∧
      ((∃ xs, xs.map (fun k => (k.val : Int)) = ids ∧ J xs W') ∨ (∃ pre, True ∧ Jx pre W')) := by
  refine callsIn_of_wp Tryz.func48 rfl trivial ?_ rfl
  simp only [Tryz.ntmps48, List.size_toArray, List.length_cons, List.length_nil, Nat.reduceAdd, Nat.reduceSub, Array.replicate_succ, Array.replicate_zero, List.push_toArray, List.append_toArray, List.nil_append, List.cons_append]
  gi_wp2
  gi_loopw [9] (fun i wr => ∃ k : Nat, k ≤ ids.length ∧ i = .int .i64 k ∧ Hid (J (uptoF r hr ids k) wr) ∧ Save n₀ U W wr) (fun i _ => ids.length - (intOf i).toNat)
  case atStart => exact ⟨0, Nat.zero_le _, rfl, Lib.hid h0, Save.refl _ _ _⟩
  case round =>
    obtain ⟨k, hk, rfl, hJs, hnx⟩ := hrel
    by_cases hlt : k < ids.length
    · have hI := hbI (by omega)
      have ck := hnx.cell (p := ⟨bI, oI + k, none⟩) hI.1 hI.2 (hc k hlt)
      have k1 := hnx.cell (p := ⟨Bt, 1, none⟩) hBt.1 hBt.2 c1
      have k2 := hnx.cell (p := ⟨Bd, 0, none⟩) hBd.1 hBd.2 c2
      have hf := finOf_val hr hids hlt
      have hY1 := hY _ (finOf r hr ids k) wr hJs.out (by rw [uptoF_len]; exact hlt)
      obtain ⟨q, hq⟩ : ∃ q, (finOf r hr ids k).val = q := ⟨_, rfl⟩
      have hqr : q < r := by rw [← hq]; exact (finOf r hr ids k).isLt
      rw [hq] at hf hY1
      rw [← hf] at ck
      have hqd : (q + 1) * dd ≤ r * dd := Nat.mul_le_mul_right dd hqr
      rw [Nat.add_mul, Nat.one_mul] at hqd
      obtain ⟨qd, hqd2⟩ : ∃ x, q * dd = x := ⟨_, rfl⟩
      rw [hqd2] at hqd hY1
      have e1 : ∀ [Inhabited Unit], RowKit.wrap64 ((q : Int) * dd) = (qd : Int) := by intro _; rw [← Int.natCast_mul, hqd2]; exact wrap_nat' _ (by omega)
      have hqm : q ≤ q * dd := Nat.le_mul_of_pos_right q hd1
      have e2 : ∀ [Inhabited Unit], RowKit.wrap64 ((q : Int) + 1) = ((q + 1 : Nat) : Int) := by intro _; exact wrap_nat' (q + 1) (by omega)
      obtain ⟨qe, hqe⟩ : ∃ x, qd + dd = x := ⟨_, rfl⟩
      obtain ⟨q1, hq1⟩ : ∃ x, q + 1 = x := ⟨_, rfl⟩
      have e3 : ∀ [Inhabited Unit], RowKit.wrap64 ((q1 : Int) * dd) = (qe : Int) := by intro _; rw [← Int.natCast_mul, ← hq1, Nat.add_mul, Nat.one_mul, hqd2, hqe]; exact wrap_nat' _ (by omega)
      rw [hq1] at e2
      have g1 : (0 : Int) ≤ (qd : Int) := by omega
      have g2 : (qd : Int) ≤ (qe : Int) := by omega
      have g3 : (qe : Int) ≤ (cD : Int) := by omega
      have g4 : qe - qd = dd := by omega
      have g5 : ¬ qe = qd := by omega
      have g6 : (0 : Int) ≤ (qe : Int) := by omega
      have g7 : qd ≤ qe := by omega
      have g8 : qe ≤ cD := by omega
      obtain ⟨fn, tmps, assign, body, hy, hR⟩ := hY1
      have HR := Lib.hid hR
      have HQ := Lib.hid hq
      have HC := Lib.hid hc
      have hYH := Lib.hid hY
      have h1n : 1 ≤ n := hn
      clear hR hY hc hf hqd hqd2 hqm hqe hq1 hq hids hbI
      gi_wp2
      refine HR.out.mono ?_
      rintro e W3 (⟨rfl, hJ3, hk3⟩ | ⟨rfl, hJx3⟩)
      · have HJ3 := Lib.hid hJ3
        clear hJ3 hy
        gi_wp2
        go_roundw
        case rel => exact ⟨k + 1, by omega, by go_num, Lib.hid (by rw [uptoF_succ]; exact HJ3.out), hnx.trans hk3⟩
        case measure => simp [intOf]; omega
      · have HJX := Lib.hid hJx3
        clear hJx3 hy
        gi_wp2
        refine bodyPost_ret (results_none rfl _ _ _) rfl ?_
        exact ⟨⟨_, rfl⟩, .inr ⟨_, trivial, HJX.out⟩⟩
    · obtain rfl : k = ids.length := by omega
      have HJ2 := Lib.hid hJs.out
      gi_wp2
      go_end0
      exact ⟨⟨_, rfl⟩, .inl ⟨_, uptoF_all hr hids, HJ2.out⟩⟩
end Go.Proofs.YtimjhjacinchjaaGreat
