/- Walks: orders of axes, cursors. -/
import Derived.Test.YtiejkdnkdmanmaaSeed3
import Derived.Deep.CutBlock
set_option linter.unusedVariables false
set_option linter.unusedSimpArgs false
namespace Go.Rt
open Go.RowKit
theorem once_of {l : List Int} {n : Nat} (h1 : ∀ x ∈ l, 0 ≤ x ∧ x < (n : Int)) (h2 : l.Nodup) (h3 : l.length = n) : Once n l :=
  ⟨h3, h1, fun i j hi hj e => by
    have hp := List.pairwise_iff_getElem.1 h2
    rw [List.getElem?_eq_getElem (by omega), List.getElem?_eq_getElem (by omega)] at e
    injection e with e
    rcases Nat.lt_trichotomy i j with h | h | h
    · exact absurd e (hp i j (by omega) (by omega) h)
    · exact h
    · exact absurd e.symm (hp j i (by omega) (by omega) h)⟩
theorem not_axes_out {l : List Int} {n k : Nat} (hk : k < l.length) (h : ¬ (0 ≤ l[k] ∧ l[k] < (n : Int))) : axesB l n = false := by
  cases hb : axesB l n with
  | false => rfl
  | true => exact absurd ((axesB_once.1 hb).bnd _ (List.getElem_mem hk)) h
theorem not_axes_dup {l : List Int} {n k : Nat} (hk : k < l.length) (h : l[k] ∈ l.take k) : axesB l n = false := by
  cases hb : axesB l n with
  | false => rfl
  | true =>
    obtain ⟨j, hj, he⟩ := List.getElem_of_mem h
    have ho := axesB_once.1 hb
    have hj2 : j < k := by simp at hj; omega
    rw [List.getElem_take] at he
    have := ho.inj j k (by rw [← ho.len]; omega) (by rw [← ho.len]; omega) (by rw [List.getElem?_eq_getElem (by omega), List.getElem?_eq_getElem hk, he])
    omega
def hasB (l : List Int) (n : Int) : Bool := l.contains n
/-- Which numbers below n are among the first ones. -/
def seenV (n : Nat) (l : List Int) : List Value := (List.range n).map fun i : Nat => .bool (l.contains (i : Int))
theorem seenV_nil (n : Nat) : seenV n [] = List.replicate n (.bool false) := by
  unfold seenV
  apply List.ext_getElem
  · simp
  · intro i h1 h2; simp
theorem seenV_len (n : Nat) (l : List Int) : (seenV n l).length = n := by simp [seenV]
theorem seenV_get (n : Nat) (l : List Int) (i : Nat) (hi : i < n) : (seenV n l)[i]? = some (.bool (l.contains (i : Int))) := by simp [seenV, hi]
theorem seenV_snoc (n : Nat) (l : List Int) (x : Nat) (hx : x < n) : (seenV n l).set x (.bool true) = seenV n (l ++ [(x : Int)]) := by
  apply List.ext_getElem?
  intro i
  by_cases hi : i < n
  · rw [seenV_get n _ i hi]
    by_cases he : x = i
    · subst he
      rw [List.getElem?_set_self (by rw [seenV_len]; exact hx)]
      simp
    · rw [List.getElem?_set_ne he, seenV_get n _ i hi]
      simp [Ne.symm he]
      intro e
      omega
  · rw [List.getElem?_eq_none (by simp [seenV_len]; omega), List.getElem?_eq_none (by simp [seenV_len]; omega)]
section
variable {P : Program}
/-- 'make' of elements of one cell, whatever their nought. -/
theorem wpl_makeV {w : World} {ops : Array Oper} {rest : List Oper} {o : Oper} {a : Act} {Q : Exit → Act → World → Prop} (T E : TypeId) (v0 : Value) (by0 : Nat) (hby : by0 ≤ 16) (hv : v0.cells = #[v0])
    (hinf : (P.info? E).map (fun i => (i.zero, i.size, i.bytes)) = some (some v0, 1, by0)) (hu : P.underlying T = some (.slice E))
    (base : Nat) (n : Nat) (L C : Int) (l c : Operand) (hg : o.guard = none) (hop : o.op = Op.makeSlice T l c) (hl : a.eval l = .int .i64 L) (hc : a.eval c = .int .i64 C) (hL : L = (n : Int)) (hC : C = (n : Int))
    (hn : n ≤ 17592186044416) (hb : base ≤ w.heap.size)
    (hK : ∀ w', w'.ownsRow base E 1 (.slice (some ⟨w.heap.size, 0, none⟩) n n) n (List.replicate n v0) → (∀ B, B ≤ w.heap.size → Below B w w') → w'.heap.size = w.heap.size + 1 →
      wpList P ops Q rest (a.put o.dst (.slice (some ⟨w.heap.size, 0, none⟩) n n)) w') : wpList P ops Q (o :: rest) a w := by
  obtain ⟨i, hi, hz0, hz1, hz2⟩ := info_parts hinf
  refine wpList_plain hg fun K hK' => ?_
  subst hL; subst hC
  have hmul : by0 * n ≤ 16 * n := Nat.mul_le_mul_right n hby
  have hmul2 : (by0 : Int) * (n : Int) ≤ 281474976710656 := by
    have : ((by0 * n : Nat) : Int) ≤ 281474976710656 := by omega
    rwa [Int.natCast_mul] at this
  have hr := run_make (P := P) w T E i v0 hu hi hz0 .i64 .i64 n n (by omega) (Int.le_refl _) (by rw [hz2]; exact hmul2) (by omega)
  simp only [Int.toNat_natCast, hz1, Nat.mul_one, hv] at hr
  unfold Oper.wp
  simp [execOp, hop, hl, hc, hr, Result.andThen]
  refine hK' _ _ (hK _ ?_ (fun B hB => (Below.refl _ _).alloc hB _) (by simp))
  rw [← toList_madeCells_one]
  exact World.ownsRow_lit w _ n hb (by unfold maxLen; omega) (by rw [size_madeCells, Nat.mul_one])
end
end Go.Rt
namespace Go.Proofs.Ytiejkdnkdmanmaa
open Go.RowKit Go.Rt

theorem infoBool : (Try.prog.info? 4).map (fun i => (i.zero, i.size, i.bytes)) = some (some (.bool false), 1, 1) := by kernel_rfl

set_option maxRecDepth 100000 in
set_option maxHeartbeats 1000000 in
theorem order_any (a : Option Addr) (c hi : Nat) (xs : List Int) (n : Nat) (w : World) (h : Ints .i64 w hi a xs) (hh : hi ≤ w.heap.size) (hn : n ≤ 65536) :
    Calls Try.prog 87 #[.slice a xs.length c, .int .i64 (n : Int)] w fun e w' => e = .returned (.bool (axesB xs n)) ∧ Below w.heap.size w w' := by
  obtain ⟨hm, _, hc⟩ := h
  go_enter Try.func87, Try.ntmps87
  go_wp2_with (at_make; (refine wpl_makeV 85 4 (.bool false) 1 (by omega) rfl infoBool Try.underlying85 w.heap.size n _ _ _ _ rfl rfl rfl rfl rfl rfl (by omega) (Nat.le_refl _) ?_); intro w1 hown hgrow _)
  go_loopw [12] (fun i wr => ∃ k : Nat, k ≤ xs.length ∧ i = .int .i64 k ∧ Hid (wr.ownsRow w.heap.size 4 1 (.slice (some ⟨w.heap.size, 0, none⟩) n n) n (seenV n (xs.take k))) ∧ Hid (Below w.heap.size w wr) ∧ Hid ((∀ x ∈ xs.take k, 0 ≤ x ∧ x < (n : Int)) ∧ (xs.take k).Nodup)) (fun i _ => xs.length - (intOf i).toNat)
  case atStart => exact ⟨0, Nat.zero_le _, rfl, Lib.hid (by rw [List.take_zero, seenV_nil]; exact hown), Lib.hid (hgrow _ (Nat.le_refl _)), Lib.hid ⟨by simp, by simp⟩⟩
  case round =>
    obtain ⟨k, hk, rfl, HO, HB, HX⟩ := hrel
    clear hown hgrow
    by_cases hlt : k < xs.length
    · obtain ⟨b, off, rfl, hlb, hcell⟩ := hc k hlt
      clear hc
      rw [List.getElem?_eq_getElem hlt] at hcell
      simp only [Option.getD_some] at hcell
      have hcr : wr.cell? ⟨b, off + k, none⟩ = some (.int .i64 xs[k]) := (HB.out.cell (p := ⟨b, off + k, none⟩) (by show b < _; omega)).trans hcell
      have hkn := Lib.hid (take_snoc xs k hlt)
      have hout := Lib.hid (not_axes_out (l := xs) (n := n) hlt)
      have hdup := Lib.hid (not_axes_dup (l := xs) (n := n) hlt)
      clear hcell
      obtain ⟨X, hX⟩ : ∃ X, xs[k] = X := ⟨_, rfl⟩
      rw [hX] at hcr hkn hout hdup
      have hbW := HB.out.size
      clear hX
      by_cases h0 : 0 ≤ X
      · by_cases h1 : X < (n : Int)
        · obtain ⟨x, rfl⟩ : ∃ x : Nat, X = x := ⟨X.toNat, by omega⟩
          have hxn : x < n := by omega
          have hs := HO.out.cellAt x (by omega)
          rw [seenV_get _ _ _ hxn] at hs
          have hf := HO.out.frozenAt x
          cases hb : (xs.take k).contains (x : Int) with
          | true =>
            rw [hb] at hs
            have HD := Lib.hid (hdup.out (List.contains_iff_mem.1 hb))
            clear hb
            go_wp2
            go_ret
            exact ⟨ret_bool HD.out.symm, HB.out⟩
          | false =>
            rw [hb] at hs
            have HST := HO.out.stored x (.bool true)
            have HO2 : Hid ((wr.setCell ⟨w.heap.size, x, none⟩ (.bool true)).ownsRow w.heap.size 4 1 (.slice (some ⟨w.heap.size, 0, none⟩) n n) n (seenV n (xs.take (k + 1)))) := Lib.hid (by rw [hkn.out, ← seenV_snoc _ _ _ hxn]; exact HST.1)
            have HB2 := Lib.hid (HB.out.setCell (p := ⟨w.heap.size, x, none⟩) (Nat.le_refl _) (.bool true))
            have HX2 : Hid ((∀ y ∈ xs.take (k + 1), 0 ≤ y ∧ y < (n : Int)) ∧ (xs.take (k + 1)).Nodup) := Lib.hid (by
              rw [hkn.out]
              refine ⟨fun y hy => ?_, ?_⟩
              · rcases List.mem_append.1 hy with hy | hy
                · exact HX.out.1 y hy
                · obtain rfl := List.mem_singleton.1 hy; omega
              · refine List.nodup_append.2 ⟨HX.out.2, by simp, fun y hy z hz => ?_⟩
                obtain rfl := List.mem_singleton.1 hz
                intro e
                subst e
                have := List.contains_iff_mem.2 hy
                rw [hb] at this
                cases this)
            clear hb HST
            go_wp2
            go_roundw
            case rel => exact ⟨k + 1, by omega, by go_num, HO2, HB2, HX2⟩
            case measure => simp [intOf]; omega
        · have HD := Lib.hid (hout.out (by omega))
          have h2 : (n : Int) ≤ X := by omega
          go_wp2
          go_ret
          exact ⟨ret_bool HD.out.symm, HB.out⟩
      · have HD := Lib.hid (hout.out (by omega))
        have h2 : X < 0 := by omega
        go_wp2
        go_ret
        exact ⟨ret_bool HD.out.symm, HB.out⟩
    · obtain rfl : k = xs.length := by omega
      clear hc
      have HE : Hid (((xs.length : Int) == (n : Int)) = axesB xs n) := Lib.hid (by
        have hx := HX.out
        rw [List.take_length] at hx
        by_cases hl : xs.length = n
        · rw [axesB_once.2 (once_of hx.1 hx.2 hl)]; simp; omega
        · have : axesB xs n = false := by unfold axesB; simp; intro e; omega
          rw [this]; simp; omega)
      go_wp2
      go_ret
      exact ⟨ret_bool HE.out, HB.out⟩

set_option maxHeartbeats 400000 in
theorem in_any (a : Option Addr) (c hi : Nat) (xs : List Int) (n : Int) (w : World) (h : Ints .i64 w hi a xs) :
    Calls Try.prog 86 #[.slice a xs.length c, .int .i64 n] w fun e w' => e = .returned (.bool (hasB xs n)) ∧ w = w' := by
  obtain ⟨hm, _, hc⟩ := h
  go_enter Try.func86, Try.ntmps86
  go_wp2
  go_loop [5] (fun i => ∃ k : Nat, k ≤ xs.length ∧ i = .int .i64 k ∧ Hid (¬ n ∈ xs.take k)) (fun i => xs.length - (intOf i).toNat)
  case atStart => exact ⟨0, Nat.zero_le _, rfl, Lib.hid (by simp)⟩
  case round =>
    obtain ⟨k, hk, rfl, HX⟩ := hrel
    by_cases hlt : k < xs.length
    · obtain ⟨b, off, rfl, hlb, hcell⟩ := hc k hlt
      rw [List.getElem?_eq_getElem hlt] at hcell
      simp only [Option.getD_some] at hcell
      have hkn := Lib.hid (take_snoc xs k hlt)
      have hmem := Lib.hid (List.getElem_mem hlt)
      clear hc
      obtain ⟨X, hX⟩ : ∃ X, xs[k] = X := ⟨_, rfl⟩
      rw [hX] at hcell hkn hmem
      clear hX
      by_cases he : X = n
      · have HM : Hid (hasB xs n = true) := Lib.hid (by unfold hasB; rw [List.contains_iff_mem, ← he]; exact hmem.out)
        have he1 : (X == n) = true := by simp [he]
        clear he
        go_wp2
        go_ret
        exact ⟨ret_bool HM.out.symm, rfl⟩
      · have he1 : (X == n) = false := by simp [he]
        have HE := Lib.hid he
        clear he
        go_wp2
        go_round
        case rel => exact ⟨k + 1, by omega, by go_num, Lib.hid (by rw [hkn.out]; intro hq; rcases List.mem_append.1 hq with hq | hq; exact HX.out hq; exact HE.out (List.mem_singleton.1 hq).symm)⟩
        case measure => simp [intOf]; omega
    · obtain rfl : k = xs.length := by omega
      have HM : Hid (hasB xs n = false) := Lib.hid (by
        unfold hasB
        have hx := HX.out
        rw [List.take_length] at hx
        cases hb : xs.contains n with
        | false => rfl
        | true => exact absurd (List.contains_iff_mem.1 hb) hx)
      clear hc
      go_wp2
      go_ret
      exact ⟨ret_bool HM.out.symm, rfl⟩

set_option maxHeartbeats 400000 in
theorem axes_any (a : Option Addr) (c hi : Nat) (xs : List Int) (n : Nat) (w : World) (h : Ints .i64 w hi a xs) (hn : n ≤ 65536) :
    Calls Try.prog 76 #[.slice a xs.length c, .int .i64 (n : Int)] w fun e w' => e = .returned (.bool (axesB xs n)) ∧ w = w' := by
  have hi_ := fun (n : Int) w (h : Ints .i64 w hi a xs) => Lib.hid (in_any a c hi xs n w h)
  have H := Lib.hid h
  have hm := h.len
  clear h
  by_cases hl : xs.length = n
  · subst hl
    go_enter Try.func76, Try.ntmps76
    go_wp2
    go_loop [5] (fun i => ∃ k : Nat, k ≤ xs.length ∧ i = .int .i64 k ∧ Hid (∀ j, j < k → hasB xs ((j : Nat) : Int) = true)) (fun i => xs.length - (intOf i).toNat)
    case atStart => exact ⟨0, Nat.zero_le _, rfl, Lib.hid (fun j hj => absurd hj (Nat.not_lt_zero _))⟩
    case round =>
      obtain ⟨k, hk, rfl, HX⟩ := hrel
      by_cases hlt : k < xs.length
      · have hk1 := Lib.hid (hi_ (k : Int) w H.out)
        clear hi_
        cases hb : hasB xs ((k : Nat) : Int) with
        | true =>
          rw [hb] at hk1
          have HBB := Lib.hid hb
          clear hb
          go_wp2_with (go_at_call 86; refine hk1.out.out.mono ?_; rintro e w' ⟨rfl, rfl⟩)
          go_round
          case rel => exact ⟨k + 1, by omega, by go_num, Lib.hid (fun j hj => by
            by_cases h : j < k
            · exact HX.out j h
            · obtain rfl : j = k := by omega
              exact HBB.out)⟩
          case measure => simp [intOf]; omega
        | false =>
          rw [hb] at hk1
          have HE : Hid (axesB xs xs.length = false) := Lib.hid (by
            unfold axesB
            rw [Bool.and_eq_false_iff]
            right
            rw [Int.toNat_natCast, List.all_eq_false]
            exact ⟨k, List.mem_range.2 hlt, by unfold hasB at hb; rw [hb]; simp⟩)
          clear hb
          go_wp2_with (go_at_call 86; refine hk1.out.out.mono ?_; rintro e w' ⟨rfl, rfl⟩)
          go_ret
          exact ⟨ret_bool HE.out.symm, rfl⟩
      · obtain rfl : k = xs.length := by omega
        have HE : Hid (axesB xs xs.length = true) := Lib.hid (by
          unfold axesB
          rw [Bool.and_eq_true]
          refine ⟨by simp, ?_⟩
          rw [Int.toNat_natCast, List.all_eq_true]
          intro j hj
          exact HX.out j (List.mem_range.1 hj))
        clear hi_
        go_wp2
        go_ret
        exact ⟨ret_bool HE.out.symm, rfl⟩
  · have hl2 : ((xs.length : Int) != (n : Int)) = true := by simp; omega
    have HE : Hid (axesB xs n = false) := Lib.hid (by unfold axesB; simp; intro e; omega)
    clear hl hi_
    go_enter Try.func76, Try.ntmps76
    go_wp2
    go_ret
    exact ⟨ret_bool HE.out.symm, rfl⟩

/-- A cursor over n examples. -/
def mayC (xs : List Int) (at_ ep n : Int) : Bool := decide (1 ≤ n) && (decide (n ≤ 1024) && (axesB xs n && (decide (0 ≤ at_) && (decide (at_ ≤ n) && (decide (0 ≤ ep) && decide (ep ≤ 1048576))))))
theorem mayC_iff {xs : List Int} {at_ ep n : Int} : mayC xs at_ ep n = true ↔ 1 ≤ n ∧ n ≤ 1024 ∧ axesB xs n = true ∧ 0 ≤ at_ ∧ at_ ≤ n ∧ 0 ≤ ep ∧ ep ≤ 1048576 := by simp [mayC]

set_option maxHeartbeats 1000000 in
set_option maxRecDepth 100000 in
theorem good31_any (a : Option Addr) (c hi : Nat) (xs : List Int) (at_ ep n : Int) (w : World) (h : Ints .i64 w hi a xs) (hh : hi ≤ w.heap.size) :
    Calls Try.prog 77 #[.agg #[.slice a xs.length c, .int .i64 at_, .int .i64 ep], .int .i64 n] w fun e w' => e = .returned (.bool (mayC xs at_ ep n)) ∧ Below w.heap.size w w' := by
  have H := Lib.hid h
  have hm := h.len
  clear h
  by_cases q0 : 1 ≤ n
  · skip
    by_cases q1 : n ≤ 1024
    · skip
      obtain ⟨N, rfl⟩ : ∃ N : Nat, n = N := ⟨n.toNat, by omega⟩
      have hN : N ≤ 65536 := by omega
      have hax := fun w (h : Ints .i64 w hi a xs) (hh : hi ≤ w.heap.size) => Lib.hid (order_any a c hi xs N w h hh hN)
      cases hax0 : axesB xs N with
      | false =>
        rw [hax0] at hax
        have HAX := Lib.hid hax0
        clear hax0
        have HE : Hid (mayC xs at_ ep (N : Int) = false) := Lib.hid (by unfold mayC; rw [HAX.out]; simp <;> omega)
        go_enter Try.func77, Try.ntmps77
        go_wp2_with (go_at_call 87; refine (hax _ (H.out.below (B := w.heap.size) (by (repeat' (first | exact Below.refl _ _ | refine Below.alloc ?_ (by simp) _))) hh) (by simp; omega)).out.mono ?_; rintro e w' ⟨rfl, hb⟩; have HB := Lib.hid hb; have hc_ := bcell hb; obtain ⟨hcc, hff⟩ := hc_; have z0 := hcc w.heap.size 0 (by simp); have z1 := hcc w.heap.size 1 (by simp); have z2 := hcc w.heap.size 2 (by simp); clear hb hcc hff; simp [go_sem] at z0 z1 z2)
        go_ret
        exact ⟨ret_bool (by first | exact HE.out.symm | (rw [HE.out]; simp; omega)), ((Below.refl _ _).alloc (Nat.le_refl _) _).trans (HB.out.mono (by simp))⟩
      | true =>
        rw [hax0] at hax
        have HAX := Lib.hid hax0
        clear hax0
        by_cases q3 : 0 ≤ at_
        · skip
          by_cases q4 : at_ ≤ (N : Int)
          · skip
            by_cases q5 : 0 ≤ ep
            · skip
              by_cases q6 : ep ≤ 1048576
              · skip
                have HE : Hid (mayC xs at_ ep (N : Int) = true) := Lib.hid (by unfold mayC; rw [HAX.out]; simp <;> omega)
                go_enter Try.func77, Try.ntmps77
                go_wp2_with (go_at_call 87; refine (hax _ (H.out.below (B := w.heap.size) (by (repeat' (first | exact Below.refl _ _ | refine Below.alloc ?_ (by simp) _))) hh) (by simp; omega)).out.mono ?_; rintro e w' ⟨rfl, hb⟩; have HB := Lib.hid hb; have hc_ := bcell hb; obtain ⟨hcc, hff⟩ := hc_; have z0 := hcc w.heap.size 0 (by simp); have z1 := hcc w.heap.size 1 (by simp); have z2 := hcc w.heap.size 2 (by simp); clear hb hcc hff; simp [go_sem] at z0 z1 z2)
                go_ret
                exact ⟨ret_bool (by first | exact HE.out.symm | (rw [HE.out]; simp; omega)), ((Below.refl _ _).alloc (Nat.le_refl _) _).trans (HB.out.mono (by simp))⟩
              · have z6 : 1048576 < ep := by omega
                have HE : Hid (mayC xs at_ ep (N : Int) = false) := Lib.hid (by unfold mayC; rw [HAX.out]; simp <;> omega)
                go_enter Try.func77, Try.ntmps77
                go_wp2_with (go_at_call 87; refine (hax _ (H.out.below (B := w.heap.size) (by (repeat' (first | exact Below.refl _ _ | refine Below.alloc ?_ (by simp) _))) hh) (by simp; omega)).out.mono ?_; rintro e w' ⟨rfl, hb⟩; have HB := Lib.hid hb; have hc_ := bcell hb; obtain ⟨hcc, hff⟩ := hc_; have z0 := hcc w.heap.size 0 (by simp); have z1 := hcc w.heap.size 1 (by simp); have z2 := hcc w.heap.size 2 (by simp); clear hb hcc hff; simp [go_sem] at z0 z1 z2)
                go_ret
                exact ⟨ret_bool (by first | exact HE.out.symm | (rw [HE.out]; simp; omega)), ((Below.refl _ _).alloc (Nat.le_refl _) _).trans (HB.out.mono (by simp))⟩
            · have z5 : ep < 0 := by omega
              have HE : Hid (mayC xs at_ ep (N : Int) = false) := Lib.hid (by unfold mayC; rw [HAX.out]; simp <;> omega)
              go_enter Try.func77, Try.ntmps77
              go_wp2_with (go_at_call 87; refine (hax _ (H.out.below (B := w.heap.size) (by (repeat' (first | exact Below.refl _ _ | refine Below.alloc ?_ (by simp) _))) hh) (by simp; omega)).out.mono ?_; rintro e w' ⟨rfl, hb⟩; have HB := Lib.hid hb; have hc_ := bcell hb; obtain ⟨hcc, hff⟩ := hc_; have z0 := hcc w.heap.size 0 (by simp); have z1 := hcc w.heap.size 1 (by simp); have z2 := hcc w.heap.size 2 (by simp); clear hb hcc hff; simp [go_sem] at z0 z1 z2)
              go_ret
              exact ⟨ret_bool (by first | exact HE.out.symm | (rw [HE.out]; simp; omega)), ((Below.refl _ _).alloc (Nat.le_refl _) _).trans (HB.out.mono (by simp))⟩
          · have z4 : (N : Int) < at_ := by omega
            have HE : Hid (mayC xs at_ ep (N : Int) = false) := Lib.hid (by unfold mayC; rw [HAX.out]; simp <;> omega)
            go_enter Try.func77, Try.ntmps77
            go_wp2_with (go_at_call 87; refine (hax _ (H.out.below (B := w.heap.size) (by (repeat' (first | exact Below.refl _ _ | refine Below.alloc ?_ (by simp) _))) hh) (by simp; omega)).out.mono ?_; rintro e w' ⟨rfl, hb⟩; have HB := Lib.hid hb; have hc_ := bcell hb; obtain ⟨hcc, hff⟩ := hc_; have z0 := hcc w.heap.size 0 (by simp); have z1 := hcc w.heap.size 1 (by simp); have z2 := hcc w.heap.size 2 (by simp); clear hb hcc hff; simp [go_sem] at z0 z1 z2)
            go_ret
            exact ⟨ret_bool (by first | exact HE.out.symm | (rw [HE.out]; simp; omega)), ((Below.refl _ _).alloc (Nat.le_refl _) _).trans (HB.out.mono (by simp))⟩
        · have z3 : at_ < 0 := by omega
          have HE : Hid (mayC xs at_ ep (N : Int) = false) := Lib.hid (by unfold mayC; rw [HAX.out]; simp <;> omega)
          go_enter Try.func77, Try.ntmps77
          go_wp2_with (go_at_call 87; refine (hax _ (H.out.below (B := w.heap.size) (by (repeat' (first | exact Below.refl _ _ | refine Below.alloc ?_ (by simp) _))) hh) (by simp; omega)).out.mono ?_; rintro e w' ⟨rfl, hb⟩; have HB := Lib.hid hb; have hc_ := bcell hb; obtain ⟨hcc, hff⟩ := hc_; have z0 := hcc w.heap.size 0 (by simp); have z1 := hcc w.heap.size 1 (by simp); have z2 := hcc w.heap.size 2 (by simp); clear hb hcc hff; simp [go_sem] at z0 z1 z2)
          go_ret
          exact ⟨ret_bool (by first | exact HE.out.symm | (rw [HE.out]; simp; omega)), ((Below.refl _ _).alloc (Nat.le_refl _) _).trans (HB.out.mono (by simp))⟩
    · have z1 : 1024 < n := by omega
      have HE : Hid (mayC xs at_ ep n = false) := Lib.hid (by unfold mayC; simp <;> omega)
      go_enter Try.func77, Try.ntmps77
      go_wp2
      go_ret
      exact ⟨ret_bool (by first | exact HE.out.symm | (rw [HE.out]; simp; omega)), (Below.refl _ _).alloc (Nat.le_refl _) _⟩
  · have z0 : n ≤ 0 := by omega
    have HE : Hid (mayC xs at_ ep n = false) := Lib.hid (by unfold mayC; simp <;> omega)
    go_enter Try.func77, Try.ntmps77
    go_wp2
    go_ret
    exact ⟨ret_bool (by first | exact HE.out.symm | (rw [HE.out]; simp; omega)), (Below.refl _ _).alloc (Nat.le_refl _) _⟩

set_option maxHeartbeats 1000000 in
set_option maxRecDepth 100000 in
theorem may30_any (a : Option Addr) (c hi : Nat) (xs : List Int) (at_ ep n : Int) (w : World) (h : Ints .i64 w hi a xs) (hh : hi ≤ w.heap.size) :
    Calls Try.prog 49 #[.agg #[.slice a xs.length c, .int .i64 at_, .int .i64 ep], .int .i64 n] w fun e w' => e = .returned (.bool (mayC xs at_ ep n)) ∧ Below w.heap.size w w' := by
  have H := Lib.hid h
  have hm := h.len
  clear h
  by_cases q0 : 1 ≤ n
  · skip
    by_cases q1 : n ≤ 1024
    · skip
      obtain ⟨N, rfl⟩ : ∃ N : Nat, n = N := ⟨n.toNat, by omega⟩
      have hN : N ≤ 65536 := by omega
      have hax := fun w (h : Ints .i64 w hi a xs) (hh : hi ≤ w.heap.size) => Lib.hid (axes_any a c hi xs N w h hN)
      cases hax0 : axesB xs N with
      | false =>
        rw [hax0] at hax
        have HAX := Lib.hid hax0
        clear hax0
        have HE : Hid (mayC xs at_ ep (N : Int) = false) := Lib.hid (by unfold mayC; rw [HAX.out]; simp <;> omega)
        go_enter Try.func49, Try.ntmps49
        go_wp2_with (go_at_call 76; refine (hax _ (H.out.below (B := w.heap.size) (by (repeat' (first | exact Below.refl _ _ | refine Below.alloc ?_ (by simp) _))) hh) (by simp; omega)).out.mono ?_; rintro e w' ⟨rfl, rfl⟩)
        go_ret
        exact ⟨ret_bool (by first | exact HE.out.symm | (rw [HE.out]; simp; omega)), (Below.refl _ _).alloc (Nat.le_refl _) _⟩
      | true =>
        rw [hax0] at hax
        have HAX := Lib.hid hax0
        clear hax0
        by_cases q3 : 0 ≤ at_
        · skip
          by_cases q4 : at_ ≤ (N : Int)
          · skip
            by_cases q5 : 0 ≤ ep
            · skip
              by_cases q6 : ep ≤ 1048576
              · skip
                have HE : Hid (mayC xs at_ ep (N : Int) = true) := Lib.hid (by unfold mayC; rw [HAX.out]; simp <;> omega)
                go_enter Try.func49, Try.ntmps49
                go_wp2_with (go_at_call 76; refine (hax _ (H.out.below (B := w.heap.size) (by (repeat' (first | exact Below.refl _ _ | refine Below.alloc ?_ (by simp) _))) hh) (by simp; omega)).out.mono ?_; rintro e w' ⟨rfl, rfl⟩)
                go_ret
                exact ⟨ret_bool (by first | exact HE.out.symm | (rw [HE.out]; simp; omega)), (Below.refl _ _).alloc (Nat.le_refl _) _⟩
              · have z6 : 1048576 < ep := by omega
                have HE : Hid (mayC xs at_ ep (N : Int) = false) := Lib.hid (by unfold mayC; rw [HAX.out]; simp <;> omega)
                go_enter Try.func49, Try.ntmps49
                go_wp2_with (go_at_call 76; refine (hax _ (H.out.below (B := w.heap.size) (by (repeat' (first | exact Below.refl _ _ | refine Below.alloc ?_ (by simp) _))) hh) (by simp; omega)).out.mono ?_; rintro e w' ⟨rfl, rfl⟩)
                go_ret
                exact ⟨ret_bool (by first | exact HE.out.symm | (rw [HE.out]; simp; omega)), (Below.refl _ _).alloc (Nat.le_refl _) _⟩
            · have z5 : ep < 0 := by omega
              have HE : Hid (mayC xs at_ ep (N : Int) = false) := Lib.hid (by unfold mayC; rw [HAX.out]; simp <;> omega)
              go_enter Try.func49, Try.ntmps49
              go_wp2_with (go_at_call 76; refine (hax _ (H.out.below (B := w.heap.size) (by (repeat' (first | exact Below.refl _ _ | refine Below.alloc ?_ (by simp) _))) hh) (by simp; omega)).out.mono ?_; rintro e w' ⟨rfl, rfl⟩)
              go_ret
              exact ⟨ret_bool (by first | exact HE.out.symm | (rw [HE.out]; simp; omega)), (Below.refl _ _).alloc (Nat.le_refl _) _⟩
          · have z4 : (N : Int) < at_ := by omega
            have HE : Hid (mayC xs at_ ep (N : Int) = false) := Lib.hid (by unfold mayC; rw [HAX.out]; simp <;> omega)
            go_enter Try.func49, Try.ntmps49
            go_wp2_with (go_at_call 76; refine (hax _ (H.out.below (B := w.heap.size) (by (repeat' (first | exact Below.refl _ _ | refine Below.alloc ?_ (by simp) _))) hh) (by simp; omega)).out.mono ?_; rintro e w' ⟨rfl, rfl⟩)
            go_ret
            exact ⟨ret_bool (by first | exact HE.out.symm | (rw [HE.out]; simp; omega)), (Below.refl _ _).alloc (Nat.le_refl _) _⟩
        · have z3 : at_ < 0 := by omega
          have HE : Hid (mayC xs at_ ep (N : Int) = false) := Lib.hid (by unfold mayC; rw [HAX.out]; simp <;> omega)
          go_enter Try.func49, Try.ntmps49
          go_wp2_with (go_at_call 76; refine (hax _ (H.out.below (B := w.heap.size) (by (repeat' (first | exact Below.refl _ _ | refine Below.alloc ?_ (by simp) _))) hh) (by simp; omega)).out.mono ?_; rintro e w' ⟨rfl, rfl⟩)
          go_ret
          exact ⟨ret_bool (by first | exact HE.out.symm | (rw [HE.out]; simp; omega)), (Below.refl _ _).alloc (Nat.le_refl _) _⟩
    · have z1 : 1024 < n := by omega
      have HE : Hid (mayC xs at_ ep n = false) := Lib.hid (by unfold mayC; simp <;> omega)
      go_enter Try.func49, Try.ntmps49
      go_wp2
      go_ret
      exact ⟨ret_bool (by first | exact HE.out.symm | (rw [HE.out]; simp; omega)), (Below.refl _ _).alloc (Nat.le_refl _) _⟩
  · have z0 : n ≤ 0 := by omega
    have HE : Hid (mayC xs at_ ep n = false) := Lib.hid (by unfold mayC; simp <;> omega)
    go_enter Try.func49, Try.ntmps49
    go_wp2
    go_ret
    exact ⟨ret_bool (by first | exact HE.out.symm | (rw [HE.out]; simp; omega)), (Below.refl _ _).alloc (Nat.le_refl _) _⟩

theorem check31_any (a : Option Addr) (c hi : Nat) (xs : List Int) (at_ ep n : Int) (w : World) (h : Ints .i64 w hi a xs) (hh : hi ≤ w.heap.size) :
    Calls Try.prog 58 #[.agg #[.slice a xs.length c, .int .i64 at_, .int .i64 ep], .int .i64 n] w fun e w' => e = .returned (.int .i64 (if mayC xs at_ ep n then 0 else 1)) ∧ Below w.heap.size w w' := by
  have H := Lib.hid h
  have HG := fun w (h : Ints .i64 w hi a xs) (hh : hi ≤ w.heap.size) => Lib.hid (good31_any a c hi xs at_ ep n w h hh)
  cases hg : mayC xs at_ ep n
  all_goals
    rw [hg] at HG
    clear h hg
    go_enter Try.func58, Try.ntmps58
    go_wp2_with (go_at_call 77; refine (HG _ (H.out.below (B := w.heap.size) (by (repeat' (first | exact Below.refl _ _ | refine Below.alloc ?_ (by simp) _))) hh) (by simp; omega)).out.mono ?_; rintro e w' ⟨rfl, hb⟩; have HB := Lib.hid hb; clear hb)
    go_ret
    exact ⟨rfl, ((Below.refl _ _).alloc (Nat.le_refl _) _).trans (HB.out.mono (by simp))⟩
end Go.Proofs.Ytiejkdnkdmanmaa
