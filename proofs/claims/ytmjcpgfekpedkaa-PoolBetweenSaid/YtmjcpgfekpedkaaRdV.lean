/- Walks: tensors compared and copied. -/
import Derived.Test.YtmjcpgfekpedkaaRows
import Derived.Test.YtmjcpgfekpedkaaRdN
import Derived.Test.YtmjcpgfekpedkaaPartsIn
import Derived.Test.YtmjcpgfekpedkaaPartsL
import Derived.Test.YtmjcpgfekpedkaaTakeL
import Derived.Below
import Derived.BigQuiet
import Derived.BigRegion
import Derived.Deep.AppendLies
import Derived.Deep.Cut
import Derived.Deep.CutBlock
import Derived.Deep.CutRange
import Derived.Deep.LoopGhost
import Derived.Deep.QuietTactic
import Derived.Deep.RegionHeld3
import Derived.Deep.RegionWith
import Derived.Laws.Cover3
import Derived.Lib.BufferWrite
import Derived.LoopIn
import Derived.LoopNIn
import Derived.OwnWalkIn
import Derived.RangeFuncBound
import Derived.RangeFuncBox
import Derived.RangeFuncCalls
import Derived.RangeFuncFrom
import Derived.RangeFuncLeaves
import Derived.RangeFuncNested
import Derived.Shelf.Abstract
import Derived.Shelf.RegionOpen
import Derived.Sort.AtCall
import Derived.Sort.CutIn
import Derived.Sort.LoopGhostIn
import Derived.Sort.OwnSorted
import Derived.TacticsInMore
import Derived.WalkMore
import Derived.WalkSmall
set_option linter.unusedVariables false
set_option linter.unusedSimpArgs false
namespace Go.Proofs.Ytmjcpgfekpedkaa
open Go.RowKit Go.Rt
/-- What a function hands back that makes a list of words. -/
def RetWords (w : World) (xs : List Int) (e : Ending) (w' : World) : Prop :=
  ∃ v, e = .returned v ∧ w'.ownsRow w.heap.size 2 1 v xs.length (xs.map (Value.int .i64)) ∧ Below w.heap.size w w'
theorem take_ne {xs ys : List Int} (k : Nat) (h1 : k < xs.length) (h2 : k < ys.length) (hne : xs[k] ≠ ys[k]) : xs ≠ ys := by
  intro e; subst e; exact hne rfl
set_option maxHeartbeats 400000 in
theorem eqNumbers_any (a a2 : Option Addr) (c c2 hi : Nat) (xs ys : List Int) (w : World) (h : Ints .i64 w hi a xs) (h2 : Ints .i64 w hi a2 ys) :
    Calls Try.prog 13 #[.slice a xs.length c, .slice a2 ys.length c2] w fun e w' => e = .returned (.bool (decide (xs = ys))) ∧ ∃ q, w' = w.drewN q := by
  obtain ⟨hm, _, hc⟩ := h
  obtain ⟨hm2, _, hc2⟩ := h2
  by_cases hl : xs.length = ys.length
  · have hl1 : ((xs.length : Int) == (ys.length : Int)) = true := by simp; omega
    have hl2 : ((xs.length : Int) != (ys.length : Int)) = false := by simp; omega
    have HL := Lib.hid hl
    clear hl
    go_enter Try.func13, Try.ntmps13
    go_wp2
    go_loopw [5] (fun i wr => ∃ k : Nat, k ≤ xs.length ∧ i = .int .i64 k ∧ xs.take k = ys.take k ∧ ∃ q, wr = w.drewN q) (fun i _ => xs.length - (intOf i).toNat)
    case atStart => exact ⟨0, Nat.zero_le _, rfl, rfl, 0, rfl⟩
    case round =>
      obtain ⟨k, hk, rfl, htk, q, rfl⟩ := hrel
      have HT := Lib.hid htk
      clear htk
      by_cases hlt : k < xs.length
      · have hlt2 : k < ys.length := by have := HL.out; omega
        obtain ⟨b, off, rfl, _, hcell⟩ := hc k hlt
        obtain ⟨b2, off2, rfl, _, hcell2⟩ := hc2 k hlt2
        clear hc hc2
        rw [List.getElem?_eq_getElem hlt] at hcell
        rw [List.getElem?_eq_getElem hlt2] at hcell2
        simp only [Option.getD_some] at hcell hcell2
        by_cases he : xs[k] = ys[k]
        · have he1 : (xs[k] == ys[k]) = true := by simp [he]
          have he2 : (xs[k] != ys[k]) = false := by simp [he]
          have HE := Lib.hid he
          clear he
          go_wp2
          go_quiet (fail)
          go_wp2
          go_roundw
          case rel => exact ⟨k + 1, by omega, by go_num, by rw [take_snoc _ _ hlt, take_snoc _ _ hlt2, HT.out, HE.out], _, by first | rfl | exact World.drewN_drewN _ _ _⟩
          case measure => simp [intOf]; omega
        · have he1 : (xs[k] == ys[k]) = false := by simp [he]
          have he2 : (xs[k] != ys[k]) = true := by simp [he]
          have HE := Lib.hid (take_ne k hlt hlt2 he)
          clear he
          go_wp2
          go_quiet (fail)
          go_wp2
          go_ret
          exact ⟨ret_bool (by simp [HE.out]), _, by first | rfl | exact World.drewN_drewN _ _ _⟩
      · have hke : k = xs.length := by omega
        subst hke
        have HX : Hid (xs = ys) := by
          have := HT.out
          rw [List.take_length, HL.out, List.take_length] at this
          exact this
        go_wp2
        go_ret
        exact ⟨ret_bool (by simp [HX.out]), _, rfl⟩
  · have hl1 : ((xs.length : Int) == (ys.length : Int)) = false := by simp; omega
    have hl2 : ((xs.length : Int) != (ys.length : Int)) = true := by simp; omega
    have HX : Hid (¬ xs = ys) := fun e => hl (by rw [e])
    clear hl
    go_enter Try.func13, Try.ntmps13
    go_wp2
    go_ret
    exact ⟨ret_bool (by simp [HX.out]), 0, rfl⟩
set_option maxHeartbeats 400000 in
theorem copyNumbers_any (a : Option Addr) (c : Nat) (xs : List Int) (w : World) (h : Ints .i64 w w.heap.size a xs) (hn : xs.length ≤ 17592186044415) :
    Calls Try.prog 27 #[.slice a xs.length c] w (RetInts w xs) := by
  obtain ⟨hm, _, hc⟩ := h
  go_enter Try.func27, Try.ntmps27
  go_wp2
  go_loopw [3, 4] (fun v i wr => ∃ k : Nat, k ≤ xs.length ∧ i = .int .i64 k ∧ wr.ownsRow w.heap.size 3 1 v k ((xs.take k).map (Value.int .i64)) ∧ Below w.heap.size w wr) (fun _ i _ => xs.length - (intOf i).toNat)
  case atStart => exact ⟨0, Nat.zero_le _, rfl, World.ownsRow_nil _ _ _ _, Below.refl _ _⟩
  case round =>
    obtain ⟨k, hk, rfl, hown, hbel⟩ := hrel
    by_cases hlt : k < xs.length
    · obtain ⟨b, off, rfl, hlb, hcell⟩ := hc k hlt
      clear hc
      rw [List.getElem?_eq_getElem hlt] at hcell
      simp only [Option.getD_some] at hcell
      have hcr : wr.cell? ⟨b, off + k, none⟩ = some (.int .i64 xs[k]) := (hbel.cell (p := ⟨b, off + k, none⟩) hlb).trans hcell
      have HO := Lib.hid hown
      have HB := Lib.hid hbel
      have hsz := hbel.size
      clear hown hbel hcell
      go_wp2_with (at_builtin; (refine wpl_append1 23 3 .i64 infoInt Try.underlying23 w.heap.size _ k (xs.take k) xs[k] _ _ _ rfl rfl rfl HO.out rfl (by omega) hsz ?_); intro v' w1 hown1 hbel1 _)
      have HO1 := Lib.hid hown1
      have HB1 := Lib.hid (hbel1 _ _ (Nat.le_refl _) HB.out)
      clear hown1 hbel1
      go_roundw
      case rel => exact ⟨k + 1, by omega, by go_num, by rw [take_snoc _ _ hlt]; exact HO1.out, HB1.out⟩
      case measure => simp [intOf]; omega
    · have hke : k = xs.length := by omega
      subst hke
      have HO := Lib.hid hown
      have HB := Lib.hid hbel
      clear hown hbel hc
      go_wp2
      go_ret
      exact ⟨_, rfl, by have := HO.out; rw [List.take_length] at this; exact this, HB.out⟩
set_option maxHeartbeats 400000 in
theorem eqWords_any (a a2 : Option Addr) (c c2 hi : Nat) (xs ys : List Int) (w : World) (h : Ints .i64 w hi a xs) (h2 : Ints .i64 w hi a2 ys) :
    Calls Try.prog 20 #[.slice a xs.length c, .slice a2 ys.length c2] w fun e w' => e = .returned (.bool (decide (xs = ys))) ∧ ∃ q, w' = w.drewN q := by
  obtain ⟨hm, _, hc⟩ := h
  obtain ⟨hm2, _, hc2⟩ := h2
  by_cases hl : xs.length = ys.length
  · have hl1 : ((xs.length : Int) == (ys.length : Int)) = true := by simp; omega
    have hl2 : ((xs.length : Int) != (ys.length : Int)) = false := by simp; omega
    have HL := Lib.hid hl
    clear hl
    go_enter Try.func20, Try.ntmps20
    go_wp2
    go_loopw [5] (fun i wr => ∃ k : Nat, k ≤ xs.length ∧ i = .int .i64 k ∧ xs.take k = ys.take k ∧ ∃ q, wr = w.drewN q) (fun i _ => xs.length - (intOf i).toNat)
    case atStart => exact ⟨0, Nat.zero_le _, rfl, rfl, 0, rfl⟩
    case round =>
      obtain ⟨k, hk, rfl, htk, q, rfl⟩ := hrel
      have HT := Lib.hid htk
      clear htk
      by_cases hlt : k < xs.length
      · have hlt2 : k < ys.length := by have := HL.out; omega
        obtain ⟨b, off, rfl, _, hcell⟩ := hc k hlt
        obtain ⟨b2, off2, rfl, _, hcell2⟩ := hc2 k hlt2
        clear hc hc2
        rw [List.getElem?_eq_getElem hlt] at hcell
        rw [List.getElem?_eq_getElem hlt2] at hcell2
        simp only [Option.getD_some] at hcell hcell2
        by_cases he : xs[k] = ys[k]
        · have he1 : (xs[k] == ys[k]) = true := by simp [he]
          have he2 : (xs[k] != ys[k]) = false := by simp [he]
          have HE := Lib.hid he
          clear he
          go_wp2
          go_quiet (fail)
          go_wp2
          go_roundw
          case rel => exact ⟨k + 1, by omega, by go_num, by rw [take_snoc _ _ hlt, take_snoc _ _ hlt2, HT.out, HE.out], _, by first | rfl | exact World.drewN_drewN _ _ _⟩
          case measure => simp [intOf]; omega
        · have he1 : (xs[k] == ys[k]) = false := by simp [he]
          have he2 : (xs[k] != ys[k]) = true := by simp [he]
          have HE := Lib.hid (take_ne k hlt hlt2 he)
          clear he
          go_wp2
          go_quiet (fail)
          go_wp2
          go_ret
          exact ⟨ret_bool (by simp [HE.out]), _, by first | rfl | exact World.drewN_drewN _ _ _⟩
      · have hke : k = xs.length := by omega
        subst hke
        have HX : Hid (xs = ys) := by
          have := HT.out
          rw [List.take_length, HL.out, List.take_length] at this
          exact this
        go_wp2
        go_ret
        exact ⟨ret_bool (by simp [HX.out]), _, rfl⟩
  · have hl1 : ((xs.length : Int) == (ys.length : Int)) = false := by simp; omega
    have hl2 : ((xs.length : Int) != (ys.length : Int)) = true := by simp; omega
    have HX : Hid (¬ xs = ys) := fun e => hl (by rw [e])
    clear hl
    go_enter Try.func20, Try.ntmps20
    go_wp2
    go_ret
    exact ⟨ret_bool (by simp [HX.out]), 0, rfl⟩
set_option maxHeartbeats 400000 in
theorem copyWords_any (a : Option Addr) (c : Nat) (xs : List Int) (w : World) (h : Ints .i64 w w.heap.size a xs) (hn : xs.length ≤ 17592186044415) :
    Calls Try.prog 28 #[.slice a xs.length c] w (RetWords w xs) := by
  obtain ⟨hm, _, hc⟩ := h
  go_enter Try.func28, Try.ntmps28
  go_wp2
  go_loopw [3, 4] (fun v i wr => ∃ k : Nat, k ≤ xs.length ∧ i = .int .i64 k ∧ wr.ownsRow w.heap.size 2 1 v k ((xs.take k).map (Value.int .i64)) ∧ Below w.heap.size w wr) (fun _ i _ => xs.length - (intOf i).toNat)
  case atStart => exact ⟨0, Nat.zero_le _, rfl, World.ownsRow_nil _ _ _ _, Below.refl _ _⟩
  case round =>
    obtain ⟨k, hk, rfl, hown, hbel⟩ := hrel
    by_cases hlt : k < xs.length
    · obtain ⟨b, off, rfl, hlb, hcell⟩ := hc k hlt
      clear hc
      rw [List.getElem?_eq_getElem hlt] at hcell
      simp only [Option.getD_some] at hcell
      have hcr : wr.cell? ⟨b, off + k, none⟩ = some (.int .i64 xs[k]) := (hbel.cell (p := ⟨b, off + k, none⟩) hlb).trans hcell
      have HO := Lib.hid hown
      have HB := Lib.hid hbel
      have hsz := hbel.size
      clear hown hbel hcell
      go_wp2_with (at_builtin; (refine wpl_append1 24 2 .i64 infoI64 Try.underlying24 w.heap.size _ k (xs.take k) xs[k] _ _ _ rfl rfl rfl HO.out rfl (by omega) hsz ?_); intro v' w1 hown1 hbel1 _)
      have HO1 := Lib.hid hown1
      have HB1 := Lib.hid (hbel1 _ _ (Nat.le_refl _) HB.out)
      clear hown1 hbel1
      go_roundw
      case rel => exact ⟨k + 1, by omega, by go_num, by rw [take_snoc _ _ hlt]; exact HO1.out, HB1.out⟩
      case measure => simp [intOf]; omega
    · have hke : k = xs.length := by omega
      subst hke
      have HO := Lib.hid hown
      have HB := Lib.hid hbel
      clear hown hbel hc
      go_wp2
      go_ret
      exact ⟨_, rfl, by have := HO.out; rw [List.take_length] at this; exact this, HB.out⟩
set_option maxHeartbeats 1000000 in
theorem eqTensor_any (a b a' b' : Option Addr) (c d c' d' : Nat) (xs ys xs' ys' : List Int) (w : World) (h1 : Ints .i64 w w.heap.size a xs) (h2 : Ints .i64 w w.heap.size b ys) (h3 : Ints .i64 w w.heap.size a' xs') (h4 : Ints .i64 w w.heap.size b' ys') :
    Calls Try.prog 16 #[.agg #[.slice a xs.length c, .slice b ys.length d], .agg #[.slice a' xs'.length c', .slice b' ys'.length d']] w fun e w' => e = .returned (.bool (decide (xs = xs') && decide (ys = ys'))) ∧ Below w.heap.size w w' := by
  have e1 := fun w' (hb : Below w.heap.size w w') => Lib.hid (eqNumbers_any a a' c c' w.heap.size xs xs' w' (h1.below hb (Nat.le_refl _)) (h3.below hb (Nat.le_refl _)))
  have e2 := fun w' (hb : Below w.heap.size w w') => Lib.hid (eqWords_any b b' d d' w.heap.size ys ys' w' (h2.below hb (Nat.le_refl _)) (h4.below hb (Nat.le_refl _)))
  generalize decide (xs = xs') = B1 at *
  generalize decide (ys = ys') = B2 at *
  clear h1 h2 h3 h4
  cases B1
  all_goals
    (try simp only [Bool.false_and, Bool.true_and])
    go_enter Try.func16, Try.ntmps16
    go_wp2_with (first | (go_at_call 13; refine (e1 _ (by (repeat' (first | exact Below.refl _ _ | refine below_drewN ?_ _ | refine Below.drew ?_ | refine Below.setCell ?_ (by first | omega | (simp <;> omega)) _ | refine Below.alloc ?_ (by first | omega | (simp <;> omega)) _)))).out.mono ?_; rintro e w' ⟨rfl, q1, rfl⟩) | (go_at_call 20; refine (e2 _ (by (repeat' (first | exact Below.refl _ _ | refine below_drewN ?_ _ | refine Below.drew ?_ | refine Below.setCell ?_ (by first | omega | (simp <;> omega)) _ | refine Below.alloc ?_ (by first | omega | (simp <;> omega)) _)))).out.mono ?_; rintro e w' ⟨rfl, q2, rfl⟩))
    go_ret
    exact ⟨rfl, (by (repeat' (first | exact Below.refl _ _ | refine below_drewN ?_ _ | refine Below.drew ?_ | refine Below.setCell ?_ (by first | omega | (simp <;> omega)) _ | refine Below.alloc ?_ (by first | omega | (simp <;> omega)) _)))⟩
/-- append of one number to a row of one's own, as one step of a drawn region. -/
theorem stepApp1 {ops : Array Oper} {o : Oper} {a : Act} {w : World} {K : Act → World → Prop} {Q : Exit → Act → World → Prop} {E' : Prop} (T E : TypeId)
    (hinf : (Try.prog.info? E).map (fun i => (i.zero, i.size, i.bytes)) = some (some (.int .i64 0), 1, 8)) (hu : Try.prog.underlying T = some (.slice E))
    (base : Nat) (v : Value) (n : Nat) (xs : List Int) (y : Int) (cap : Nat) (ad : Addr) (s x : Operand) (hg : o.guard = none) (ho : o.op = .call { callee := .builtin .append, args := #[s, x], argTypes := #[T, T] })
    (hs : a.eval s = v) (hown : w.ownsRow base E 1 v n (xs.map (Value.int .i64))) (hx : a.eval x = .slice (some ad) 1 cap) (hc : w.cell? ad = some (.int .i64 y)) (hn : n ≤ 1000000) (hb : base ≤ w.heap.size)
    (hK : ∀ g cap' w', w'.ownsRow base E 1 (.slice (some ⟨g, 0, none⟩) (n + 1) cap') (n + 1) ((xs ++ [y]).map (Value.int .i64)) → w.grownBy w' v.ownBlock → (v.ownBlock = some g ∨ g = w.heap.size) → K (a.put o.dst (.slice (some ⟨g, 0, none⟩) (n + 1) cap')) w') :
    if Region.wanted o (yielded ops a.tmps) = true then Oper.wp Try.prog o a w K Q else E' := by
  obtain ⟨i, hi, hz0, hz1, hz2⟩ := info_parts hinf
  refine step_append_lies w hg s x T ho base E i (.int .i64 0) 1 8 hu hi hz0 hz1 hz2 rfl (by decide) v n _ hs hown ad 1 cap [.int .i64 y] hx rfl (fun j u hj => ?_) (by simp [Value.oneCell']) (by decide) (by unfold maxLen; omega) (by omega) hb _ rfl ?_
  · cases j with
    | zero =>
      simp at hj
      subst hj
      have : ad.add 0 = ad := by cases ad; rfl
      rw [this]
      exact hc
    | succ j => simp at hj
  · intro g cap' w' h1 h2 h3 _
    exact hK g cap' w' (by rw [List.map_append]; exact h1) h2 h3
theorem ints_row {W : World} {base : Nat} {e : TypeId} {a : Option Addr} {n c : Nat} {xs : List Int} (h : W.ownsRow base e 1 (.slice a n c) n (xs.map (Value.int .i64))) (hl : xs.length = n) (hwf : ∀ x ∈ xs, (Lit.int .i64 x).wf = true) : Ints .i64 W W.heap.size a xs := by
  subst hl
  obtain ⟨a2, c2, he, hi⟩ := own_ints h hwf
  simp only [Value.slice.injEq] at he
  rw [he.1]
  exact hi
/-- A slice of one number, in new memory. -/
def IsOne (x : Int) (u : Value) (W : World) : Prop := ∃ g cap, u = .slice (some ⟨g, 0, none⟩) 1 cap ∧ W.cell? ⟨g, 0, none⟩ = some (.int .i64 x)
theorem isOne_carries (x : Int) : Carries (IsOne x) := fun u w w' ⟨g, cap, h1, h2⟩ hb => ⟨g, cap, h1, (hb.cell (p := ⟨g, 0, none⟩) (World.block_lt_of_cell? w _ h2)).trans h2⟩
theorem oneNew (w : World) (x : Int) (t : TypeId) : (w.alloc (.cells #[.int .i64 x] t)).cell? ⟨w.heap.size, 0, none⟩ = some (.int .i64 x) := by
  simp
/-- A tensor handed back. -/
def RetTO (w : World) (sh ys : List Int) (e : Ending) (w' : World) : Prop :=
  ∃ a c b d, e = .returned (.agg #[.slice a sh.length c, .slice b ys.length d]) ∧ Fr w.heap.size w w' [] [] [⟨3, .slice a sh.length c, sh.length, sh.map (Value.int .i64)⟩, ⟨2, .slice b ys.length d, ys.length, ys.map (Value.int .i64)⟩] []
theorem Rng.set {B : Nat} {L : List Int} (h : Rng B L) (j d : Nat) (hd : d < B) : Rng B (L.set j (d : Int)) := fun x hx => by
  rcases List.mem_or_eq_of_mem_set hx with h1 | h1
  · exact h x h1
  · subst h1; omega
set_option maxRecDepth 100000 in
set_option maxHeartbeats 1000000 in
theorem copyTen_any (a b : Option Addr) (c d : Nat) (xs ys : List Int) (w : World) (h : Ints .i64 w w.heap.size a xs) (h2 : Ints .i64 w w.heap.size b ys) (hn1 : xs.length ≤ 17592186044415) (hn2 : ys.length ≤ 17592186044415) :
    Calls Try.prog 8 #[.agg #[.slice a xs.length c, .slice b ys.length d]] w (RetTO w xs ys) := by
  have H0 := Lib.hid h
  have H1 := Lib.hid h2
  clear h h2
  go_enter Try.func8, Try.ntmps8
  have F1 := Lib.hid (((Fr.start (w := w) (I := [(.i64, a, xs), (.i64, b, ys)]) (by intro z hz; simp at hz; rcases hz with rfl | rfl; exact H0.out; exact H1.out)).box1 (b := w.heap.size) (by simp) [.slice a xs.length c, .slice b ys.length d] 26).box1 (b := w.heap.size + 1) (by simp) [.slice none 0 0, .slice none 0 0] 26)
  simp only [List.nil_append, List.cons_append] at F1
  go_upto_region 1 with fail
  obtain ⟨W1, hW1⟩ : ∃ W1, ((w.alloc (.cells #[.slice a xs.length c, .slice b ys.length d] 26)).alloc (.cells #[.slice none 0 0, .slice none 0 0] 26)) = W1 := ⟨_, rfl⟩
  rw [hW1] at F1 ⊢
  clear hW1
  have c0_0 := F1.out.c 0 0 rfl rfl
  have c0_1 := F1.out.c 0 1 rfl rfl
  go_upto_region 2 with fail
  obtain ⟨Q, hQ⟩ : ∃ x, W1.heap.size = x := ⟨_, rfl⟩
  rw [hQ]
  have F2 := Lib.hid (F1.out.box1 (b := Q) hQ [.slice a xs.length c, .slice b ys.length d] 26)
  simp only [List.nil_append, List.cons_append] at F2
  obtain ⟨W2, hW2⟩ : ∃ x, (W1.alloc (.cells #[.slice a xs.length c, .slice b ys.length d] 26)) = x := ⟨_, rfl⟩
  rw [hW2] at F2 ⊢
  clear hW2 hQ F1 c0_0 c0_1
  have c0_0 := F2.out.c 0 0 rfl rfl
  have c0_1 := F2.out.c 0 1 rfl rfl
  have c2_0 := F2.out.c 2 0 rfl rfl
  have c2_1 := F2.out.c 2 1 rfl rfl
  have cf2_0 := F2.out.f 2 0 rfl rfl
  have cf2_1 := F2.out.f 2 1 rfl rfl
  go_upto_region 3 with (go_at_call 27; refine (copyNumbers_any a c xs W2 (F2.out.lw 0 rfl) hn1).mono ?_; rintro e w3 ⟨v, rfl, hown, hb⟩; obtain ⟨a3, c3, rfl, _⟩ := own_shape hown; have F3 := Lib.hid (F2.out.addO hb hown); simp only [List.nil_append] at F3; clear hown hb F2 c0_0 c0_1 c2_0 c2_1 cf2_0 cf2_1; have d0_0 := F3.out.c 0 0 rfl rfl; have d0_1 := F3.out.c 0 1 rfl rfl; have d2_0 := F3.out.c 2 0 rfl rfl; have d2_1 := F3.out.c 2 1 rfl rfl; have df2_0 := F3.out.f 2 0 rfl rfl; have df2_1 := F3.out.f 2 1 rfl rfl)
  have F4 := Lib.hid (F3.out.setC 2 0 rfl (by simp) (.slice a3 xs.length c3))
  simp only [List.set_cons_zero, List.set_cons_succ] at F4
  obtain ⟨W4, hW4⟩ : ∃ x, w3.setCell ⟨Q, 0, none⟩ (.slice a3 xs.length c3) = x := ⟨_, rfl⟩
  rw [hW4] at F4 ⊢
  clear hW4 F3 d0_0 d0_1 d2_0 d2_1 df2_0 df2_1
  have c0_0 := F4.out.c 0 0 rfl rfl
  have c0_1 := F4.out.c 0 1 rfl rfl
  have c2_0 := F4.out.c 2 0 rfl rfl
  have c2_1 := F4.out.c 2 1 rfl rfl
  have cf2_0 := F4.out.f 2 0 rfl rfl
  have cf2_1 := F4.out.f 2 1 rfl rfl
  go_upto_region 4 with (go_at_call 28; refine (copyWords_any b d ys W4 (F4.out.lw 1 rfl) hn2).mono ?_; rintro e w5 ⟨v, rfl, hown, hb⟩; obtain ⟨a5, c5, rfl, _⟩ := own_shape hown; have F5 := Lib.hid (F4.out.addO hb hown); simp only [List.nil_append, List.cons_append] at F5; clear hown hb F4 c0_0 c0_1 c2_0 c2_1 cf2_0 cf2_1; have d0_0 := F5.out.c 0 0 rfl rfl; have d0_1 := F5.out.c 0 1 rfl rfl; have d2_0 := F5.out.c 2 0 rfl rfl; have d2_1 := F5.out.c 2 1 rfl rfl; have df2_0 := F5.out.f 2 0 rfl rfl; have df2_1 := F5.out.f 2 1 rfl rfl)
  have F6 := Lib.hid (F5.out.setC 2 1 rfl (by simp) (.slice a5 ys.length c5))
  simp only [List.set_cons_zero, List.set_cons_succ] at F6
  obtain ⟨W6, hW6⟩ : ∃ x, w5.setCell ⟨Q, 1, none⟩ (.slice a5 ys.length c5) = x := ⟨_, rfl⟩
  rw [hW6] at F6 ⊢
  clear hW6 F5 d0_0 d0_1 d2_0 d2_1 df2_0 df2_1
  have c1_0 := F6.out.c 1 0 rfl rfl
  have c1_1 := F6.out.c 1 1 rfl rfl
  have c2_0 := F6.out.c 2 0 rfl rfl
  have c2_1 := F6.out.c 2 1 rfl rfl
  have cf1_0 := F6.out.f 1 0 rfl rfl
  have cf1_1 := F6.out.f 1 1 rfl rfl
  go_wp2
  have FZ := F6.out.set 1 rfl (by simp) [.slice a3 xs.length c3, .slice a5 ys.length c5] rfl
  simp only [setL, Nat.reduceAdd, List.set_cons_zero, List.set_cons_succ] at FZ
  have z0 := FZ.c 1 0 rfl rfl
  have z1 := FZ.c 1 1 rfl rfl
  refine bodyPost_ret (v := .agg #[.slice a3 xs.length c3, .slice a5 ys.length c5]) ?_ rfl ⟨a3, c3, a5, c5, rfl, FZ.rows⟩
  rw [results_cZ rfl]
  go_simp
end Go.Proofs.Ytmjcpgfekpedkaa
