/- Orders of axes. -/
import Derived.Test.YtnafbgkfhojamaaVList2
import Derived.Below
import Derived.Lib.BufferWrite
import Derived.Deep.CutBlock
set_option linter.unusedVariables false
set_option linter.unusedSimpArgs false
namespace Go.Rt
open Go.RowKit

/-- Each of the numbers below n once. -/
structure Once (n : Nat) (l : List Int) : Prop where
  len : l.length = n
  bnd : ∀ x ∈ l, 0 ≤ x ∧ x < n
  inj : ∀ i j, i < n → j < n → l[i]? = l[j]? → i = j
theorem once_range (n : Nat) : Once n ((List.range n).map fun k : Nat => (k : Int)) :=
  ⟨by simp, by simp, fun i j hi hj h => by simp [hi, hj] at h; omega⟩
theorem Once.nodup {n : Nat} {l : List Int} (h : Once n l) : l.Nodup := by
  refine List.pairwise_iff_getElem.2 fun i j hi hj hij e => ?_
  have := h.inj i j (by rw [← h.len]; omega) (by rw [← h.len]; omega) (by rw [List.getElem?_eq_getElem hi, List.getElem?_eq_getElem hj, e])
  omega
/-- All numbers below n are there, and there are n of them. -/
def axesB (l : List Int) (n : Int) : Bool := decide ((l.length : Int) = n) && (List.range n.toNat).all fun k => l.contains (k : Int)
/-- One list within another one of at most as many: the same. -/
theorem perm_of_sub : ∀ (l m : List Int), l.Nodup → (∀ x ∈ l, x ∈ m) → m.length ≤ l.length → l.Perm m
  | [], m, _, _, h => by
    have : m = [] := List.eq_nil_of_length_eq_zero (by simpa using h)
    rw [this]
  | x :: l, m, hn, hs, h => by
    have hx := hs x List.mem_cons_self
    have hp := List.perm_cons_erase hx
    have hn2 := List.nodup_cons.1 hn
    have hl : (m.erase x).length + 1 = m.length := by have := hp.length_eq; simp at this; omega
    refine ((perm_of_sub l (m.erase x) hn2.2 (fun y hy => ?_) (by simp at h; omega)).cons x).trans hp.symm
    have hne : y ≠ x := fun e => hn2.1 (e ▸ hy)
    exact (List.mem_erase_of_ne hne).2 (hs y (List.mem_cons_of_mem _ hy))
theorem range_nodup (n : Nat) : ((List.range n).map fun k : Nat => (k : Int)).Nodup := (once_range n).nodup
theorem axesB_once {l : List Int} {n : Nat} : axesB l n = true ↔ Once n l := by
  unfold axesB
  simp only [Int.toNat_natCast, Bool.and_eq_true, decide_eq_true_eq, List.all_eq_true, List.mem_range, List.contains_iff_mem]
  constructor
  · rintro ⟨hl, ha⟩
    have hp := perm_of_sub ((List.range n).map fun k : Nat => (k : Int)) l (range_nodup n) (fun x hx => by
      obtain ⟨k, hk, rfl⟩ := List.mem_map.1 hx
      exact ha k (List.mem_range.1 hk)) (by simp; omega)
    refine ⟨by omega, fun x hx => ?_, fun i j hi hj e => ?_⟩
    · obtain ⟨k, hk, rfl⟩ := List.mem_map.1 (hp.mem_iff.2 hx)
      have := List.mem_range.1 hk
      omega
    · have hnd := hp.nodup_iff.1 (range_nodup n)
      have hp2 := List.pairwise_iff_getElem.1 hnd
      rw [List.getElem?_eq_getElem (by omega), List.getElem?_eq_getElem (by omega)] at e
      injection e with e
      rcases Nat.lt_trichotomy i j with h | h | h
      · exact absurd e (hp2 i j (by omega) (by omega) h)
      · exact h
      · exact absurd e.symm (hp2 j i (by omega) (by omega) h)
  · intro h
    refine ⟨by rw [h.len], fun k hk => ?_⟩
    have hp := perm_of_sub l ((List.range n).map fun k : Nat => (k : Int)) h.nodup (fun x hx => by
      have := h.bnd x hx
      exact List.mem_map.2 ⟨x.toNat, List.mem_range.2 (by omega), by omega⟩) (by simp [h.len])
    exact hp.mem_iff.2 (List.mem_map.2 ⟨k, List.mem_range.2 hk, rfl⟩)

theorem once_of {l : List Int} {n : Nat} (h1 : ∀ x ∈ l, 0 ≤ x ∧ x < (n : Int)) (h2 : l.Nodup) (h3 : l.length = n) : Once n l :=
  ⟨h3, h1, fun i j hi hj e => by
    have hp := List.pairwise_iff_getElem.1 h2
    rw [List.getElem?_eq_getElem (by omega), List.getElem?_eq_getElem (by omega)] at e
    injection e with e
    rcases Nat.lt_trichotomy i j with h | h | h
    · exact absurd e (hp i j (by omega) (by omega) h)
    · exact h
    · exact absurd e.symm (hp j i (by omega) (by omega) h)⟩
theorem not_axes_out {l : List Int} {n k : Nat} (hk : k < l.length) (h : ¬ (0 ≤ l[k] ∧ l[k] < (n : Int))) : axesB l n = false := by
  cases hb : axesB l n with
  | false => rfl
  | true => exact absurd ((axesB_once.1 hb).bnd _ (List.getElem_mem hk)) h
theorem not_axes_dup {l : List Int} {n k : Nat} (hk : k < l.length) (h : l[k] ∈ l.take k) : axesB l n = false := by
  cases hb : axesB l n with
  | false => rfl
  | true =>
    obtain ⟨j, hj, he⟩ := List.getElem_of_mem h
    have ho := axesB_once.1 hb
    have hj2 : j < k := by simp at hj; omega
    rw [List.getElem_take] at he
    have := ho.inj j k (by rw [← ho.len]; omega) (by rw [← ho.len]; omega) (by rw [List.getElem?_eq_getElem (by omega), List.getElem?_eq_getElem hk, he])
    omega
def hasB (l : List Int) (n : Int) : Bool := l.contains n
/-- Which numbers below n are among the first ones. -/
def seenV (n : Nat) (l : List Int) : List Value := (List.range n).map fun i : Nat => .bool (l.contains (i : Int))
theorem seenV_nil (n : Nat) : seenV n [] = List.replicate n (.bool false) := by
  unfold seenV
  apply List.ext_getElem
  · simp
  · intro i h1 h2; simp
theorem seenV_len (n : Nat) (l : List Int) : (seenV n l).length = n := by simp [seenV]
theorem seenV_get (n : Nat) (l : List Int) (i : Nat) (hi : i < n) : (seenV n l)[i]? = some (.bool (l.contains (i : Int))) := by simp [seenV, hi]
theorem seenV_snoc (n : Nat) (l : List Int) (x : Nat) (hx : x < n) : (seenV n l).set x (.bool true) = seenV n (l ++ [(x : Int)]) := by
  apply List.ext_getElem?
  intro i
  by_cases hi : i < n
  · rw [seenV_get n _ i hi]
    by_cases he : x = i
    · subst he
      rw [List.getElem?_set_self (by rw [seenV_len]; exact hx)]
      simp
    · rw [List.getElem?_set_ne he, seenV_get n _ i hi]
      simp [Ne.symm he]
      intro e
      omega
  · rw [List.getElem?_eq_none (by simp [seenV_len]; omega), List.getElem?_eq_none (by simp [seenV_len]; omega)]

section
variable {P : Program}
/-- 'make' of elements of one cell, whatever their nought. -/
theorem wpl_makeV {w : World} {ops : Array Oper} {rest : List Oper} {o : Oper} {a : Act} {Q : Exit → Act → World → Prop} (T E : TypeId) (v0 : Value) (by0 : Nat) (hby : by0 ≤ 16) (hv : v0.cells = #[v0])
    (hinf : (P.info? E).map (fun i => (i.zero, i.size, i.bytes)) = some (some v0, 1, by0)) (hu : P.underlying T = some (.slice E))
    (base : Nat) (n : Nat) (L C : Int) (l c : Operand) (hg : o.guard = none) (hop : o.op = Op.makeSlice T l c) (hl : a.eval l = .int .i64 L) (hc : a.eval c = .int .i64 C) (hL : L = (n : Int)) (hC : C = (n : Int))
    (hn : n ≤ 17592186044416) (hb : base ≤ w.heap.size)
    (hK : ∀ w', w'.ownsRow base E 1 (.slice (some ⟨w.heap.size, 0, none⟩) n n) n (List.replicate n v0) → (∀ B, B ≤ w.heap.size → Below B w w') → w'.heap.size = w.heap.size + 1 →
      wpList P ops Q rest (a.put o.dst (.slice (some ⟨w.heap.size, 0, none⟩) n n)) w') : wpList P ops Q (o :: rest) a w := by
  obtain ⟨i, hi, hz0, hz1, hz2⟩ := info_parts hinf
  refine wpList_plain hg fun K hK' => ?_
  subst hL; subst hC
  have hmul : by0 * n ≤ 16 * n := Nat.mul_le_mul_right n hby
  have hmul2 : (by0 : Int) * (n : Int) ≤ 281474976710656 := by
    have : ((by0 * n : Nat) : Int) ≤ 281474976710656 := by omega
    rwa [Int.natCast_mul] at this
  have hr := run_make (P := P) w T E i v0 hu hi hz0 .i64 .i64 n n (by omega) (Int.le_refl _) (by rw [hz2]; exact hmul2) (by omega)
  simp only [Int.toNat_natCast, hz1, Nat.mul_one, hv] at hr
  unfold Oper.wp
  simp [execOp, hop, hl, hc, hr, Result.andThen]
  refine hK' _ _ (hK _ ?_ (fun B hB => (Below.refl _ _).alloc hB _) (by simp))
  rw [← toList_madeCells_one]
  exact World.ownsRow_lit w _ n hb (by unfold maxLen; omega) (by rw [size_madeCells, Nat.mul_one])
end
end Go.Rt
namespace Go.Proofs.Ytnafbgkfhojamaa
open Go.RowKit Go.Rt
theorem infoBool : (Try.prog.info? 4).map (fun i => (i.zero, i.size, i.bytes)) = some (some (.bool false), 1, 1) := by kernel_rfl
set_option maxRecDepth 100000 in
set_option maxHeartbeats 1000000 in
theorem order_any (a : Option Addr) (c hi : Nat) (xs : List Int) (n : Nat) (w : World) (h : Ints .i64 w hi a xs) (hh : hi ≤ w.heap.size) (hn : n ≤ 65536) :
    Calls Try.prog 58 #[.slice a xs.length c, .int .i64 (n : Int)] w fun e w' => e = .returned (.bool (axesB xs n)) ∧ Below w.heap.size w w' := by
  obtain ⟨hm, _, hc⟩ := h
  go_enter Try.func58, Try.ntmps58
  go_wp2_with (at_make; (refine wpl_makeV 75 4 (.bool false) 1 (by omega) rfl infoBool Try.underlying75 w.heap.size n _ _ _ _ rfl rfl rfl rfl rfl rfl (by omega) (Nat.le_refl _) ?_); intro w1 hown hgrow _)
  go_loopw [12] (fun i wr => ∃ k : Nat, k ≤ xs.length ∧ i = .int .i64 k ∧ Hid (wr.ownsRow w.heap.size 4 1 (.slice (some ⟨w.heap.size, 0, none⟩) n n) n (seenV n (xs.take k))) ∧ Hid (Below w.heap.size w wr) ∧ Hid ((∀ x ∈ xs.take k, 0 ≤ x ∧ x < (n : Int)) ∧ (xs.take k).Nodup)) (fun i _ => xs.length - (intOf i).toNat)
  case atStart => exact ⟨0, Nat.zero_le _, rfl, Lib.hid (by rw [List.take_zero, seenV_nil]; exact hown), Lib.hid (hgrow _ (Nat.le_refl _)), Lib.hid ⟨by simp, by simp⟩⟩
  case round =>
    obtain ⟨k, hk, rfl, HO, HB, HX⟩ := hrel
    clear hown hgrow
    by_cases hlt : k < xs.length
    · obtain ⟨b, off, rfl, hlb, hcell⟩ := hc k hlt
      clear hc
      rw [List.getElem?_eq_getElem hlt] at hcell
      simp only [Option.getD_some] at hcell
      have hcr : wr.cell? ⟨b, off + k, none⟩ = some (.int .i64 xs[k]) := (HB.out.cell (p := ⟨b, off + k, none⟩) (by show b < _; omega)).trans hcell
      have hkn := Lib.hid (take_snoc xs k hlt)
      have hout := Lib.hid (not_axes_out (l := xs) (n := n) hlt)
      have hdup := Lib.hid (not_axes_dup (l := xs) (n := n) hlt)
      clear hcell
      obtain ⟨X, hX⟩ : ∃ X, xs[k] = X := ⟨_, rfl⟩
      rw [hX] at hcr hkn hout hdup
      have hbW := HB.out.size
      clear hX
      by_cases h0 : 0 ≤ X
      · by_cases h1 : X < (n : Int)
        · obtain ⟨x, rfl⟩ : ∃ x : Nat, X = x := ⟨X.toNat, by omega⟩
          have hxn : x < n := by omega
          have hs := HO.out.cellAt x (by omega)
          rw [seenV_get _ _ _ hxn] at hs
          have hf := HO.out.frozenAt x
          cases hb : (xs.take k).contains (x : Int) with
          | true =>
            rw [hb] at hs
            have HD := Lib.hid (hdup.out (List.contains_iff_mem.1 hb))
            clear hb
            go_wp2
            go_ret
            exact ⟨ret_bool HD.out.symm, HB.out⟩
          | false =>
            rw [hb] at hs
            have HST := HO.out.stored x (.bool true)
            have HO2 : Hid ((wr.setCell ⟨w.heap.size, x, none⟩ (.bool true)).ownsRow w.heap.size 4 1 (.slice (some ⟨w.heap.size, 0, none⟩) n n) n (seenV n (xs.take (k + 1)))) := Lib.hid (by rw [hkn.out, ← seenV_snoc _ _ _ hxn]; exact HST.1)
            have HB2 := Lib.hid (HB.out.setCell (p := ⟨w.heap.size, x, none⟩) (Nat.le_refl _) (.bool true))
            have HX2 : Hid ((∀ y ∈ xs.take (k + 1), 0 ≤ y ∧ y < (n : Int)) ∧ (xs.take (k + 1)).Nodup) := Lib.hid (by
              rw [hkn.out]
              refine ⟨fun y hy => ?_, ?_⟩
              · rcases List.mem_append.1 hy with hy | hy
                · exact HX.out.1 y hy
                · obtain rfl := List.mem_singleton.1 hy; omega
              · refine List.nodup_append.2 ⟨HX.out.2, by simp, fun y hy z hz => ?_⟩
                obtain rfl := List.mem_singleton.1 hz
                intro e
                subst e
                have := List.contains_iff_mem.2 hy
                rw [hb] at this
                cases this)
            clear hb HST
            go_wp2
            go_roundw
            case rel => exact ⟨k + 1, by omega, by go_num, HO2, HB2, HX2⟩
            case measure => simp [intOf]; omega
        · have HD := Lib.hid (hout.out (by omega))
          have h2 : (n : Int) ≤ X := by omega
          go_wp2
          go_ret
          exact ⟨ret_bool HD.out.symm, HB.out⟩
      · have HD := Lib.hid (hout.out (by omega))
        have h2 : X < 0 := by omega
        go_wp2
        go_ret
        exact ⟨ret_bool HD.out.symm, HB.out⟩
    · obtain rfl : k = xs.length := by omega
      clear hc
      have HE : Hid (((xs.length : Int) == (n : Int)) = axesB xs n) := Lib.hid (by
        have hx := HX.out
        rw [List.take_length] at hx
        by_cases hl : xs.length = n
        · rw [axesB_once.2 (once_of hx.1 hx.2 hl)]; simp; omega
        · have : axesB xs n = false := by unfold axesB; simp; intro e; omega
          rw [this]; simp; omega)
      go_wp2
      go_ret
      exact ⟨ret_bool HE.out, HB.out⟩
set_option maxHeartbeats 400000 in
theorem in_any (a : Option Addr) (c hi : Nat) (xs : List Int) (n : Int) (w : World) (h : Ints .i64 w hi a xs) :
    Calls Try.prog 48 #[.slice a xs.length c, .int .i64 n] w fun e w' => e = .returned (.bool (hasB xs n)) ∧ w = w' := by
  obtain ⟨hm, _, hc⟩ := h
  go_enter Try.func48, Try.ntmps48
  go_wp2
  go_loop [5] (fun i => ∃ k : Nat, k ≤ xs.length ∧ i = .int .i64 k ∧ Hid (¬ n ∈ xs.take k)) (fun i => xs.length - (intOf i).toNat)
  case atStart => exact ⟨0, Nat.zero_le _, rfl, Lib.hid (by simp)⟩
  case round =>
    obtain ⟨k, hk, rfl, HX⟩ := hrel
    by_cases hlt : k < xs.length
    · obtain ⟨b, off, rfl, hlb, hcell⟩ := hc k hlt
      rw [List.getElem?_eq_getElem hlt] at hcell
      simp only [Option.getD_some] at hcell
      have hkn := Lib.hid (take_snoc xs k hlt)
      have hmem := Lib.hid (List.getElem_mem hlt)
      clear hc
      obtain ⟨X, hX⟩ : ∃ X, xs[k] = X := ⟨_, rfl⟩
      rw [hX] at hcell hkn hmem
      clear hX
      by_cases he : X = n
      · have HM : Hid (hasB xs n = true) := Lib.hid (by unfold hasB; rw [List.contains_iff_mem, ← he]; exact hmem.out)
        have he1 : (X == n) = true := by simp [he]
        clear he
        go_wp2
        go_ret
        exact ⟨ret_bool HM.out.symm, rfl⟩
      · have he1 : (X == n) = false := by simp [he]
        have HE := Lib.hid he
        clear he
        go_wp2
        go_round
        case rel => exact ⟨k + 1, by omega, by go_num, Lib.hid (by rw [hkn.out]; intro hq; rcases List.mem_append.1 hq with hq | hq; exact HX.out hq; exact HE.out (List.mem_singleton.1 hq).symm)⟩
        case measure => simp [intOf]; omega
    · obtain rfl : k = xs.length := by omega
      have HM : Hid (hasB xs n = false) := Lib.hid (by
        unfold hasB
        have hx := HX.out
        rw [List.take_length] at hx
        cases hb : xs.contains n with
        | false => rfl
        | true => exact absurd (List.contains_iff_mem.1 hb) hx)
      clear hc
      go_wp2
      go_ret
      exact ⟨ret_bool HM.out.symm, rfl⟩
set_option maxHeartbeats 400000 in
theorem axes_any (a : Option Addr) (c hi : Nat) (xs : List Int) (n : Nat) (w : World) (h : Ints .i64 w hi a xs) (hn : n ≤ 65536) :
    Calls Try.prog 24 #[.slice a xs.length c, .int .i64 (n : Int)] w fun e w' => e = .returned (.bool (axesB xs n)) ∧ w = w' := by
  have hi_ := fun (n : Int) w (h : Ints .i64 w hi a xs) => Lib.hid (in_any a c hi xs n w h)
  have H := Lib.hid h
  have hm := h.len
  clear h
  by_cases hl : xs.length = n
  · subst hl
    go_enter Try.func24, Try.ntmps24
    go_wp2
    go_loop [5] (fun i => ∃ k : Nat, k ≤ xs.length ∧ i = .int .i64 k ∧ Hid (∀ j, j < k → hasB xs ((j : Nat) : Int) = true)) (fun i => xs.length - (intOf i).toNat)
    case atStart => exact ⟨0, Nat.zero_le _, rfl, Lib.hid (fun j hj => absurd hj (Nat.not_lt_zero _))⟩
    case round =>
      obtain ⟨k, hk, rfl, HX⟩ := hrel
      by_cases hlt : k < xs.length
      · have hk1 := Lib.hid (hi_ (k : Int) w H.out)
        clear hi_
        cases hb : hasB xs ((k : Nat) : Int) with
        | true =>
          rw [hb] at hk1
          have HBB := Lib.hid hb
          clear hb
          go_wp2_with (go_at_call 48; refine hk1.out.out.mono ?_; rintro e w' ⟨rfl, rfl⟩)
          go_round
          case rel => exact ⟨k + 1, by omega, by go_num, Lib.hid (fun j hj => by
            by_cases h : j < k
            · exact HX.out j h
            · obtain rfl : j = k := by omega
              exact HBB.out)⟩
          case measure => simp [intOf]; omega
        | false =>
          rw [hb] at hk1
          have HE : Hid (axesB xs xs.length = false) := Lib.hid (by
            unfold axesB
            rw [Bool.and_eq_false_iff]
            right
            rw [Int.toNat_natCast, List.all_eq_false]
            exact ⟨k, List.mem_range.2 hlt, by unfold hasB at hb; rw [hb]; simp⟩)
          clear hb
          go_wp2_with (go_at_call 48; refine hk1.out.out.mono ?_; rintro e w' ⟨rfl, rfl⟩)
          go_ret
          exact ⟨ret_bool HE.out.symm, rfl⟩
      · obtain rfl : k = xs.length := by omega
        have HE : Hid (axesB xs xs.length = true) := Lib.hid (by
          unfold axesB
          rw [Bool.and_eq_true]
          refine ⟨by simp, ?_⟩
          rw [Int.toNat_natCast, List.all_eq_true]
          intro j hj
          exact HX.out j (List.mem_range.1 hj))
        clear hi_
        go_wp2
        go_ret
        exact ⟨ret_bool HE.out.symm, rfl⟩
  · have hl2 : ((xs.length : Int) != (n : Int)) = true := by simp; omega
    have HE : Hid (axesB xs n = false) := Lib.hid (by unfold axesB; simp; intro e; omega)
    clear hl hi_
    go_enter Try.func24, Try.ntmps24
    go_wp2
    go_ret
    exact ⟨ret_bool HE.out.symm, rfl⟩
end Go.Proofs.Ytnafbgkfhojamaa
