/- Rows of a list, words dropped: the plain laws. -/
import Derived.Test.YtimjhjacinchjaaGreatEWords
import Derived.Test.YtimjhjacinchjaaGreatShape
set_option linter.unusedVariables false
set_option linter.unusedSimpArgs false
namespace Go.Proofs.YtimjhjacinchjaaGreat
open Go.RowKit Go.Rt

def rowOf (d : Nat) (ys : List Int) (k : Int) : List Int := (ys.drop (k.toNat * d)).take d
def rowsY (d : Nat) (ys ids : List Int) : List Int := ids.flatMap (rowOf d ys)
theorem rowOf_len {d r : Nat} {ys : List Int} {k : Int} (h : ys.length = r * d) (h0 : 0 ≤ k) (h1 : k < r) : (rowOf d ys k).length = d := by
  unfold rowOf
  rw [List.length_take, List.length_drop, h]
  have : (k.toNat + 1) * d ≤ r * d := Nat.mul_le_mul_right d (by omega)
  rw [Nat.add_mul, Nat.one_mul] at this
  omega
theorem rowsY_snoc (d : Nat) (ys ids : List Int) (k : Int) : rowsY d ys (ids ++ [k]) = rowsY d ys ids ++ rowOf d ys k := by
  unfold rowsY
  simp
theorem rowsY_len {d r : Nat} {ys : List Int} (h : ys.length = r * d) : ∀ {ids : List Int}, (∀ k ∈ ids, 0 ≤ k ∧ k < r) → (rowsY d ys ids).length = ids.length * d
  | [], _ => by simp [rowsY]
  | k :: ids, hk => by
    have h1 := rowOf_len h (hk k (by simp)).1 (hk k (by simp)).2
    have h2 := rowsY_len h (ids := ids) (fun x hx => hk x (by simp [hx]))
    unfold rowsY at *
    rw [List.flatMap_cons, List.length_append, h1, h2, List.length_cons, Nat.add_mul, Nat.one_mul, Nat.add_comm]
theorem drop_rows {d r : Nat} {ys : List Int} (h : ys.length = r * d) : ∀ {ids : List Int} (n : Nat), (∀ k ∈ ids, 0 ≤ k ∧ k < r) → (rowsY d ys ids).drop (n * d) = rowsY d ys (ids.drop n)
  | ids, 0, _ => by simp
  | [], n + 1, _ => by simp [rowsY]
  | k :: ids, n + 1, hk => by
    have h1 := rowOf_len h (hk k (by simp)).1 (hk k (by simp)).2
    have h2 := drop_rows h (ids := ids) n (fun x hx => hk x (by simp [hx]))
    unfold rowsY at *
    rw [List.flatMap_cons, List.drop_succ_cons, ← h2, Nat.add_mul, Nat.one_mul, Nat.add_comm, ← List.drop_drop]
    have e : (rowOf d ys k ++ List.flatMap (rowOf d ys) ids).drop d = List.flatMap (rowOf d ys) ids := by
      rw [List.drop_append_of_le_length (by omega), List.drop_of_length_le (by omega), List.nil_append]
    rw [e]
theorem row_rows {d r : Nat} {ys ids : List Int} (h : ys.length = r * d) (hk : ∀ k ∈ ids, 0 ≤ k ∧ k < r) {n : Nat} (hn : n < ids.length) : rowOf d (rowsY d ys ids) (n : Int) = rowOf d ys (ids[n]?.getD 0) := by
  have hd := drop_rows h n hk
  have hk2 := hk ids[n] (List.getElem_mem hn)
  have h1 := rowOf_len h hk2.1 hk2.2
  unfold rowOf at *
  rw [Int.toNat_natCast, hd, List.drop_eq_getElem_cons hn]
  unfold rowsY
  rw [List.flatMap_cons, List.take_append_of_le_length (by unfold rowOf; omega), List.getElem?_eq_getElem hn]
  unfold rowOf
  rw [Option.getD_some, List.take_take, Nat.min_self]
/-- Rows of rows are rows by both. -/
theorem rows_rows {d r : Nat} {ys ids : List Int} (h : ys.length = r * d) (hk : ∀ k ∈ ids, 0 ≤ k ∧ k < r) : ∀ (ns : List Nat), (∀ n ∈ ns, n < ids.length) → rowsY d (rowsY d ys ids) (ns.map Int.ofNat) = rowsY d ys (ns.map fun n => ids[n]?.getD 0)
  | [], _ => rfl
  | n :: ns, hn => by
    have h1 := rows_rows h hk ns (fun x hx => hn x (by simp [hx]))
    have h2 := row_rows h hk (hn n (by simp))
    unfold rowsY at *
    rw [List.map_cons, List.flatMap_cons, List.map_cons, List.flatMap_cons, ← h1]
    congr 1
theorem take_rows {d r : Nat} {ys : List Int} (h : ys.length = r * d) : ∀ n, n ≤ r → rowsY d ys ((List.range n).map Int.ofNat) = ys.take (n * d)
  | 0, _ => by simp [rowsY]
  | n + 1, hn => by
    have h1 := take_rows h n (by omega)
    rw [List.range_succ, List.map_append, List.map_singleton, rowsY_snoc, h1]
    unfold rowOf
    rw [show (Int.ofNat n).toNat = n from rfl, Nat.add_mul, Nat.one_mul, List.take_add]
/-- All rows, in order, are the list. -/
theorem all_rows {d r : Nat} {ys : List Int} (h : ys.length = r * d) : rowsY d ys ((List.range r).map Int.ofNat) = ys := by
  rw [take_rows h r (Nat.le_refl _), List.take_of_length_le (by omega)]
/-- The ids name rows. -/
def idsB (r : Int) (ids : List Int) : Bool := ids.all fun k => decide (0 ≤ k) && decide (k < r)
theorem idsB_iff {r : Int} {ids : List Int} : idsB r ids = true ↔ ∀ k ∈ ids, 0 ≤ k ∧ k < r := by simp [idsB]
def embE (xs ids : List Int) : Int := if (decide (xs.length = 2) && (decide (ids.length ≠ 0) && idsB (xs[0]?.getD 0) ids)) = true then (if goodB [(ids.length : Int), xs[1]?.getD 0] = true then 0 else 5) else 2
def embX (xs ids : List Int) : List Int := if embE xs ids = 0 then [(ids.length : Int), xs[1]?.getD 0] else []
def embY (xs ys ids : List Int) : List Int := if embE xs ids = 0 then rowsY (xs[1]?.getD 0).toNat ys ids else []
/-- One word, dropped or times w. -/
def dropV (ms ys : List Int) (w : Int) (f i : Nat) : Int := if ms[i]?.getD 0 = 0 then 0 else shI (ys[i]?.getD 0 * w) f
def dropE (ys ms : List Int) (w : Int) (f : Nat) : Int := if ms.length = ys.length then (if (List.range ys.length).all (fun i => isW (dropV ms ys w f i)) = true then 0 else 3) else 2
def dropX (xs ys ms : List Int) (w : Int) (f : Nat) : List Int := if dropE ys ms w f = 0 then xs else []
def dropY (ys ms : List Int) (w : Int) (f : Nat) : List Int := if dropE ys ms w f = 0 then (List.range ys.length).map (dropV ms ys w f) else []
end Go.Proofs.YtimjhjacinchjaaGreat
