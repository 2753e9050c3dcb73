/- Walks: the reference copies views; tensors compared. -/
import Derived.Test.YtiofodpfjlcebaaRows
import Derived.Test.YtiofodpfjlcebaaRdN
import Derived.Test.YtiofodpfjlcebaaPartsIn
import Derived.Test.YtiofodpfjlcebaaPartsL
import Derived.Test.YtiofodpfjlcebaaTakeL
import Derived.Below
import Derived.BigQuiet
import Derived.Deep.AppendLies
import Derived.Deep.CutBlock
import Derived.Deep.LoopGhost
import Derived.Deep.QuietTactic
import Derived.Deep.RegionHeld3
import Derived.Laws.Cover3
import Derived.Lib.BufferWrite
import Derived.Shelf.Abstract
import Derived.Sort.AtCall
import Derived.Sort.CutIn
import Derived.Sort.LoopGhostIn
import Derived.WalkSmall
set_option linter.unusedVariables false
set_option linter.unusedSimpArgs false
namespace Go.Proofs.Ytiofodpfjlcebaa
open Go.RowKit Go.Rt
theorem take_ne {xs ys : List Int} (k : Nat) (h1 : k < xs.length) (h2 : k < ys.length) (hne : xs[k] ≠ ys[k]) : xs ≠ ys := by
  intro e; subst e; exact hne rfl
set_option maxHeartbeats 400000 in
theorem eqNumbers_any (a a2 : Option Addr) (c c2 hi : Nat) (xs ys : List Int) (w : World) (h : Ints .i64 w hi a xs) (h2 : Ints .i64 w hi a2 ys) :
    Calls Try.prog 23 #[.slice a xs.length c, .slice a2 ys.length c2] w fun e w' => e = .returned (.bool (decide (xs = ys))) ∧ ∃ q, w' = w.drewN q := by
  obtain ⟨hm, _, hc⟩ := h
  obtain ⟨hm2, _, hc2⟩ := h2
  by_cases hl : xs.length = ys.length
  · have hl1 : ((xs.length : Int) == (ys.length : Int)) = true := by simp; omega
    have hl2 : ((xs.length : Int) != (ys.length : Int)) = false := by simp; omega
    have HL := Lib.hid hl
    clear hl
    go_enter Try.func23, Try.ntmps23
    go_wp2
    go_loopw [5] (fun i wr => ∃ k : Nat, k ≤ xs.length ∧ i = .int .i64 k ∧ xs.take k = ys.take k ∧ ∃ q, wr = w.drewN q) (fun i _ => xs.length - (intOf i).toNat)
    case atStart => exact ⟨0, Nat.zero_le _, rfl, rfl, 0, rfl⟩
    case round =>
      obtain ⟨k, hk, rfl, htk, q, rfl⟩ := hrel
      have HT := Lib.hid htk
      clear htk
      by_cases hlt : k < xs.length
      · have hlt2 : k < ys.length := by have := HL.out; omega
        obtain ⟨b, off, rfl, _, hcell⟩ := hc k hlt
        obtain ⟨b2, off2, rfl, _, hcell2⟩ := hc2 k hlt2
        clear hc hc2
        rw [List.getElem?_eq_getElem hlt] at hcell
        rw [List.getElem?_eq_getElem hlt2] at hcell2
        simp only [Option.getD_some] at hcell hcell2
        by_cases he : xs[k] = ys[k]
        · have he1 : (xs[k] == ys[k]) = true := by simp [he]
          have he2 : (xs[k] != ys[k]) = false := by simp [he]
          have HE := Lib.hid he
          clear he
          go_wp2
          go_quiet (fail)
          go_wp2
          go_roundw
          case rel => exact ⟨k + 1, by omega, by go_num, by rw [take_snoc _ _ hlt, take_snoc _ _ hlt2, HT.out, HE.out], _, by first | rfl | exact World.drewN_drewN _ _ _⟩
          case measure => simp [intOf]; omega
        · have he1 : (xs[k] == ys[k]) = false := by simp [he]
          have he2 : (xs[k] != ys[k]) = true := by simp [he]
          have HE := Lib.hid (take_ne k hlt hlt2 he)
          clear he
          go_wp2
          go_quiet (fail)
          go_wp2
          go_ret
          exact ⟨ret_bool (by simp [HE.out]), _, by first | rfl | exact World.drewN_drewN _ _ _⟩
      · have hke : k = xs.length := by omega
        subst hke
        have HX : Hid (xs = ys) := by
          have := HT.out
          rw [List.take_length, HL.out, List.take_length] at this
          exact this
        go_wp2
        go_ret
        exact ⟨ret_bool (by simp [HX.out]), _, rfl⟩
  · have hl1 : ((xs.length : Int) == (ys.length : Int)) = false := by simp; omega
    have hl2 : ((xs.length : Int) != (ys.length : Int)) = true := by simp; omega
    have HX : Hid (¬ xs = ys) := fun e => hl (by rw [e])
    clear hl
    go_enter Try.func23, Try.ntmps23
    go_wp2
    go_ret
    exact ⟨ret_bool (by simp [HX.out]), 0, rfl⟩
set_option maxHeartbeats 400000 in
theorem copyNumbers_any (a : Option Addr) (c : Nat) (xs : List Int) (w : World) (h : Ints .i64 w w.heap.size a xs) (hn : xs.length ≤ 17592186044415) :
    Calls Try.prog 40 #[.slice a xs.length c] w (RetInts w xs) := by
  obtain ⟨hm, _, hc⟩ := h
  go_enter Try.func40, Try.ntmps40
  go_wp2
  go_loopw [3, 4] (fun v i wr => ∃ k : Nat, k ≤ xs.length ∧ i = .int .i64 k ∧ wr.ownsRow w.heap.size 3 1 v k ((xs.take k).map (Value.int .i64)) ∧ Below w.heap.size w wr) (fun _ i _ => xs.length - (intOf i).toNat)
  case atStart => exact ⟨0, Nat.zero_le _, rfl, World.ownsRow_nil _ _ _ _, Below.refl _ _⟩
  case round =>
    obtain ⟨k, hk, rfl, hown, hbel⟩ := hrel
    by_cases hlt : k < xs.length
    · obtain ⟨b, off, rfl, hlb, hcell⟩ := hc k hlt
      clear hc
      rw [List.getElem?_eq_getElem hlt] at hcell
      simp only [Option.getD_some] at hcell
      have hcr : wr.cell? ⟨b, off + k, none⟩ = some (.int .i64 xs[k]) := (hbel.cell (p := ⟨b, off + k, none⟩) hlb).trans hcell
      have HO := Lib.hid hown
      have HB := Lib.hid hbel
      have hsz := hbel.size
      clear hown hbel hcell
      go_wp2_with (at_builtin; (refine wpl_append1 23 3 .i64 infoInt Try.underlying23 w.heap.size _ k (xs.take k) xs[k] _ _ _ rfl rfl rfl HO.out rfl (by omega) hsz ?_); intro v' w1 hown1 hbel1 _)
      have HO1 := Lib.hid hown1
      have HB1 := Lib.hid (hbel1 _ _ (Nat.le_refl _) HB.out)
      clear hown1 hbel1
      go_roundw
      case rel => exact ⟨k + 1, by omega, by go_num, by rw [take_snoc _ _ hlt]; exact HO1.out, HB1.out⟩
      case measure => simp [intOf]; omega
    · have hke : k = xs.length := by omega
      subst hke
      have HO := Lib.hid hown
      have HB := Lib.hid hbel
      clear hown hbel hc
      go_wp2
      go_ret
      exact ⟨_, rfl, by have := HO.out; rw [List.take_length] at this; exact this, HB.out⟩
set_option maxHeartbeats 400000 in
theorem eqWords_any (a a2 : Option Addr) (c c2 hi : Nat) (xs ys : List Int) (w : World) (h : Ints .i64 w hi a xs) (h2 : Ints .i64 w hi a2 ys) :
    Calls Try.prog 32 #[.slice a xs.length c, .slice a2 ys.length c2] w fun e w' => e = .returned (.bool (decide (xs = ys))) ∧ ∃ q, w' = w.drewN q := by
  obtain ⟨hm, _, hc⟩ := h
  obtain ⟨hm2, _, hc2⟩ := h2
  by_cases hl : xs.length = ys.length
  · have hl1 : ((xs.length : Int) == (ys.length : Int)) = true := by simp; omega
    have hl2 : ((xs.length : Int) != (ys.length : Int)) = false := by simp; omega
    have HL := Lib.hid hl
    clear hl
    go_enter Try.func32, Try.ntmps32
    go_wp2
    go_loopw [5] (fun i wr => ∃ k : Nat, k ≤ xs.length ∧ i = .int .i64 k ∧ xs.take k = ys.take k ∧ ∃ q, wr = w.drewN q) (fun i _ => xs.length - (intOf i).toNat)
    case atStart => exact ⟨0, Nat.zero_le _, rfl, rfl, 0, rfl⟩
    case round =>
      obtain ⟨k, hk, rfl, htk, q, rfl⟩ := hrel
      have HT := Lib.hid htk
      clear htk
      by_cases hlt : k < xs.length
      · have hlt2 : k < ys.length := by have := HL.out; omega
        obtain ⟨b, off, rfl, _, hcell⟩ := hc k hlt
        obtain ⟨b2, off2, rfl, _, hcell2⟩ := hc2 k hlt2
        clear hc hc2
        rw [List.getElem?_eq_getElem hlt] at hcell
        rw [List.getElem?_eq_getElem hlt2] at hcell2
        simp only [Option.getD_some] at hcell hcell2
        by_cases he : xs[k] = ys[k]
        · have he1 : (xs[k] == ys[k]) = true := by simp [he]
          have he2 : (xs[k] != ys[k]) = false := by simp [he]
          have HE := Lib.hid he
          clear he
          go_wp2
          go_quiet (fail)
          go_wp2
          go_roundw
          case rel => exact ⟨k + 1, by omega, by go_num, by rw [take_snoc _ _ hlt, take_snoc _ _ hlt2, HT.out, HE.out], _, by first | rfl | exact World.drewN_drewN _ _ _⟩
          case measure => simp [intOf]; omega
        · have he1 : (xs[k] == ys[k]) = false := by simp [he]
          have he2 : (xs[k] != ys[k]) = true := by simp [he]
          have HE := Lib.hid (take_ne k hlt hlt2 he)
          clear he
          go_wp2
          go_quiet (fail)
          go_wp2
          go_ret
          exact ⟨ret_bool (by simp [HE.out]), _, by first | rfl | exact World.drewN_drewN _ _ _⟩
      · have hke : k = xs.length := by omega
        subst hke
        have HX : Hid (xs = ys) := by
          have := HT.out
          rw [List.take_length, HL.out, List.take_length] at this
          exact this
        go_wp2
        go_ret
        exact ⟨ret_bool (by simp [HX.out]), _, rfl⟩
  · have hl1 : ((xs.length : Int) == (ys.length : Int)) = false := by simp; omega
    have hl2 : ((xs.length : Int) != (ys.length : Int)) = true := by simp; omega
    have HX : Hid (¬ xs = ys) := fun e => hl (by rw [e])
    clear hl
    go_enter Try.func32, Try.ntmps32
    go_wp2
    go_ret
    exact ⟨ret_bool (by simp [HX.out]), 0, rfl⟩
/-- law0's Within. -/
def withinN (i n : Int) : Int := (i % 18446744073709551616) % n
theorem withinN_bound (i n : Int) (h : 1 ≤ n) : 0 ≤ withinN i n ∧ withinN i n < n :=
  ⟨Int.emod_nonneg _ (by omega), Int.emod_lt_of_pos _ (by omega)⟩
theorem Ten.next {w w' : World} {a b : Option Addr} {c d : Nat} {xs ys : List Int} (h : Ten w w.heap.size a c b d xs ys) (hb : Below w.heap.size w w') : Ten w' w'.heap.size a c b d xs ys :=
  (h.below hb (Nat.le_refl _)).mono hb.size
set_option maxHeartbeats 1000000 in
theorem eqTensor_any (a b a' b' : Option Addr) (c d c' d' : Nat) (xs ys xs' ys' : List Int) (w : World) (h1 : Ints .i64 w w.heap.size a xs) (h2 : Ints .i64 w w.heap.size b ys) (h3 : Ints .i64 w w.heap.size a' xs') (h4 : Ints .i64 w w.heap.size b' ys') :
    Calls Try.prog 19 #[.agg #[.slice a xs.length c, .slice b ys.length d], .agg #[.slice a' xs'.length c', .slice b' ys'.length d']] w fun e w' => e = .returned (.bool (decide (xs = xs') && decide (ys = ys'))) ∧ Below w.heap.size w w' := by
  have e1 := fun w' (hb : Below w.heap.size w w') => Lib.hid (eqNumbers_any a a' c c' w.heap.size xs xs' w' (h1.below hb (Nat.le_refl _)) (h3.below hb (Nat.le_refl _)))
  have e2 := fun w' (hb : Below w.heap.size w w') => Lib.hid (eqWords_any b b' d d' w.heap.size ys ys' w' (h2.below hb (Nat.le_refl _)) (h4.below hb (Nat.le_refl _)))
  generalize decide (xs = xs') = B1 at *
  generalize decide (ys = ys') = B2 at *
  clear h1 h2 h3 h4
  cases B1
  all_goals
    (try simp only [Bool.false_and, Bool.true_and])
    go_enter Try.func19, Try.ntmps19
    go_wp2_with (first | (go_at_call 23; refine (e1 _ (by (repeat' (first | exact Below.refl _ _ | refine below_drewN ?_ _ | refine Below.drew ?_ | refine Below.setCell ?_ (by first | omega | (simp <;> omega)) _ | refine Below.alloc ?_ (by first | omega | (simp <;> omega)) _)))).out.mono ?_; rintro e w' ⟨rfl, q1, rfl⟩) | (go_at_call 32; refine (e2 _ (by (repeat' (first | exact Below.refl _ _ | refine below_drewN ?_ _ | refine Below.drew ?_ | refine Below.setCell ?_ (by first | omega | (simp <;> omega)) _ | refine Below.alloc ?_ (by first | omega | (simp <;> omega)) _)))).out.mono ?_; rintro e w' ⟨rfl, q2, rfl⟩))
    go_ret
    exact ⟨rfl, (by (repeat' (first | exact Below.refl _ _ | refine below_drewN ?_ _ | refine Below.drew ?_ | refine Below.setCell ?_ (by first | omega | (simp <;> omega)) _ | refine Below.alloc ?_ (by first | omega | (simp <;> omega)) _)))⟩
set_option maxHeartbeats 400000 in
theorem rstrides_any (a : Option Addr) (c : Nat) (xs : List Int) (w : World) (h : Ints .i64 w w.heap.size a xs) (hg : goodB xs = true) :
    Calls Try.prog 39 #[.slice a xs.length c] w (RetInts w (strI xs)) := by
  obtain ⟨hm, _, hc⟩ := h
  have hD := goodB_dims hg
  have hP := (goodB_prod hg).2
  have h4 := (goodB_iff.1 hg).1
  have hl := Lib.hid (strI_length xs)
  clear hg
  go_enter Try.func39, Try.ntmps39
  go_wp2_with (at_make; (refine wpl_make 23 3 .i64 infoInt Try.underlying23 w.heap.size xs.length _ _ _ _ rfl rfl rfl rfl rfl rfl (by omega) (Nat.le_refl _) ?_); intro w1 hown hgrow _)
  go_loopw [4, 5] (fun n i wr => ∃ k : Nat, k ≤ xs.length ∧ i = .int .i64 ((k : Int) - 1) ∧ n = .int .i64 (prodI (xs.drop k)) ∧ wr.ownsRow w.heap.size 3 1 (.slice (some ⟨w.heap.size, 0, none⟩) xs.length xs.length) xs.length ((backL (strI xs) k).map (Value.int .i64)) ∧ Below w.heap.size w wr) (fun _ i _ => ((intOf i) + 1).toNat)
  case atStart =>
    refine ⟨xs.length, Nat.le_refl _, rfl, by simp [prodI], ?_, hgrow _ (Nat.le_refl _)⟩
    have e := backL_full (strI xs)
    rw [hl.out] at e
    rw [e]
    exact hown
  case round =>
    obtain ⟨k, hk, rfl, rfl, hown2, hbel⟩ := hrel
    clear hown hgrow
    rcases k with _ | j
    · have HO := Lib.hid hown2
      have HB := Lib.hid hbel
      clear hown2 hbel hc
      go_wp2
      go_ret
      have h0 := HO.out
      rw [backL_zero] at h0
      exact ⟨_, rfl, by rw [hl.out]; exact h0, HB.out⟩
    · rw [show (((j + 1 : Nat) : Int) - 1) = (j : Int) by omega]
      have hlt : j < xs.length := by omega
      obtain ⟨b, off, rfl, hlb, hcell⟩ := hc j hlt
      clear hc
      rw [List.getElem?_eq_getElem hlt] at hcell
      simp only [Option.getD_some] at hcell
      have hold : wr.cell? ⟨w.heap.size, j, none⟩ = some (.int .i64 ((backL (strI xs) (j + 1))[j]?.getD 0)) := own_cell hown2 hlt
      have hfr := hown2.frozenAt j
      have hcr : wr.cell? ⟨b, off + j, none⟩ = some (.int .i64 xs[j]) := (hbel.cell (p := ⟨b, off + j, none⟩) hlb).trans hcell
      have hst := hown2.stored j (.int .i64 (prodI (xs.drop (j + 1))))
      have HO : Hid ((wr.setCell ⟨w.heap.size, j, none⟩ (.int .i64 (prodI (xs.drop (j + 1))))).ownsRow w.heap.size 3 1 (.slice (some ⟨w.heap.size, 0, none⟩) xs.length xs.length) xs.length ((backL (strI xs) j).map (Value.int .i64))) := by
        have h0 := hst.1
        rw [map_set, backL_set _ j (by rw [hl.out]; exact hlt) _ (strI_get xs j hlt)] at h0
        exact h0
      have HB := Lib.hid (hbel.setCell (p := ⟨w.heap.size, j, none⟩) (Nat.le_refl _) (.int .i64 (prodI (xs.drop (j + 1)))))
      have HS := Lib.hid (prodI_drop_succ xs j hlt)
      have hp1 := (hD.drop j).pos
      have hp2 := prodI_drop_le hD j
      rw [HS.out, Int.mul_comm] at hp1 hp2
      have hne : b ≠ w.heap.size := by omega
      clear hown2 hbel hst hcell
      go_wp2
      go_roundw
      case rel => exact ⟨j, by omega, by go_num, by rw [HS.out, Int.mul_comm], HO.out, HB.out⟩
      case measure => simp [intOf]
end Go.Proofs.Ytiofodpfjlcebaa
namespace Go.Rt
/-- How far the last word of a view lies behind its first. -/
def topV : List Int → List Int → Int
  | d :: sh, x :: st => x * (d - 1) + topV sh st
  | _, _ => 0
def strOk (x : Int) : Bool := decide (0 ≤ x) && decide (x ≤ 65536)
/-- A view of n words? -/
def viewB (sh st : List Int) (off n : Int) : Bool :=
  goodB sh && (decide (st.length = sh.length) && (decide (0 ≤ off) && (decide (n ≤ 65536) && (decide (off < n) && (st.all strOk && decide (off + topV sh st < n))))))
/-- Where the n-th word of a view stands. -/
def atV (sh st : List Int) (off n : Int) : Int := off + dotI (standsI sh n) st
theorem strOk_iff {x : Int} : strOk x = true ↔ 0 ≤ x ∧ x ≤ 65536 := by simp [strOk]
theorem viewB_iff {sh st : List Int} {off n : Int} : viewB sh st off n = true ↔ goodB sh = true ∧ st.length = sh.length ∧ 0 ≤ off ∧ n ≤ 65536 ∧ off < n ∧ (∀ x ∈ st, 0 ≤ x ∧ x ≤ 65536) ∧ off + topV sh st < n := by
  simp only [viewB, Bool.and_eq_true, decide_eq_true_eq, List.all_eq_true]
  constructor
  · rintro ⟨h1, h2, h3, h4, h5, h6, h7⟩
    exact ⟨h1, h2, h3, h4, h5, fun x hx => strOk_iff.1 (h6 x hx), h7⟩
  · rintro ⟨h1, h2, h3, h4, h5, h6, h7⟩
    exact ⟨h1, h2, h3, h4, h5, fun x hx => strOk_iff.2 (h6 x hx), h7⟩
theorem topV_nil (sh : List Int) : topV sh [] = 0 := by cases sh <;> rfl
theorem topV_nonneg : ∀ (sh st : List Int), Dims sh → (∀ x ∈ st, 0 ≤ x) → 0 ≤ topV sh st
  | [], _, _, _ => by simp [topV]
  | _ :: _, [], _, _ => by simp [topV]
  | d :: sh, x :: st, h, h2 => by
    have h1 := topV_nonneg sh st h.tail (fun y hy => h2 y (List.mem_cons_of_mem _ hy))
    have h3 := h2 x (List.mem_cons_self ..)
    have h4 := h.head.1
    have h5 : 0 ≤ x * (d - 1) := Int.mul_nonneg h3 (by omega)
    show 0 ≤ x * (d - 1) + topV sh st
    omega
theorem topV_take_le : ∀ (sh st : List Int) (k : Nat), Dims sh → (∀ x ∈ st, 0 ≤ x) → topV (sh.take k) (st.take k) ≤ topV sh st
  | [], _, k, _, _ => by simp [topV]
  | d :: sh, [], k, h, h2 => by simp [topV_nil]
  | d :: sh, x :: st, 0, h, h2 => by simpa [topV] using topV_nonneg (d :: sh) (x :: st) h h2
  | d :: sh, x :: st, k + 1, h, h2 => by
    have h1 := topV_take_le sh st k h.tail (fun y hy => h2 y (List.mem_cons_of_mem _ hy))
    simp only [List.take_succ_cons, topV]
    omega
/-- An index within the shape stands between the first and the last word. -/
theorem dotI_top : ∀ (sh is st : List Int), withinB sh is = true → (∀ x ∈ st, 0 ≤ x) → 0 ≤ dotI is st ∧ dotI is st ≤ topV sh st
  | [], is, st, h, _ => by
    have := withinB_length h
    cases is with
    | nil => simp [dotI, topV]
    | cons => simp at this
  | d :: sh, [], st, h, _ => by have := withinB_length h; simp at this
  | d :: sh, i :: is, [], h, _ => by simp [dotI, topV]
  | d :: sh, i :: is, x :: st, h, h2 => by
    obtain ⟨hl, hw⟩ := withinB_iff.1 h
    have h0 := hw 0 (by simp)
    simp only [List.getElem?_cons_zero, Option.getD_some] at h0
    have ht : withinB sh is = true := withinB_iff.2 ⟨by simpa using hl, fun k hk => by have := hw (k + 1) (by simpa using hk); simpa using this⟩
    have h3 := dotI_top sh is st ht (fun y hy => h2 y (List.mem_cons_of_mem _ hy))
    have h4 := h2 x (List.mem_cons_self ..)
    have h5 : 0 ≤ i * x := Int.mul_nonneg h0.1 h4
    have h6 : i * x ≤ (d - 1) * x := Int.mul_le_mul_of_nonneg_right (by omega) h4
    have h7 : (d - 1) * x = x * (d - 1) := Int.mul_comm _ _
    simp only [dotI, topV]
    omega
theorem atV_bound {sh st : List Int} {off n N : Int} (h : viewB sh st off N = true) : 0 ≤ atV sh st off n ∧ atV sh st off n < N := by
  obtain ⟨h1, h2, h3, h4, h5, h6, h7⟩ := viewB_iff.1 h
  have := dotI_top sh (standsI sh n) st (standsI_within sh n (goodB_dims h1)) (fun x hx => (h6 x hx).1)
  unfold atV
  omega
/-- The words of a view. -/
def wordsV (sh st : List Int) (off : Int) (data : List Int) : List Int := (List.range (prodI sh).toNat).map fun k : Nat => data[(atV sh st off k).toNat]?.getD 0
/-- The places of a view, in order. -/
def placesV (sh st : List Int) (off : Int) : List Int := (List.range (prodI sh).toNat).map fun k : Nat => atV sh st off k
theorem wordsV_len (sh st : List Int) (off : Int) (data : List Int) : (wordsV sh st off data).length = (prodI sh).toNat := by simp [wordsV]
theorem placesV_len (sh st : List Int) (off : Int) : (placesV sh st off).length = (prodI sh).toNat := by simp [placesV]
theorem wordsV_get (sh st : List Int) (off : Int) (data : List Int) {k : Nat} (hk : k < (prodI sh).toNat) : (wordsV sh st off data)[k]? = some (data[(atV sh st off k).toNat]?.getD 0) := by simp [wordsV, hk]
theorem placesV_get (sh st : List Int) (off : Int) {k : Nat} (hk : k < (prodI sh).toNat) : (placesV sh st off)[k]? = some (atV sh st off k) := by simp [placesV, hk]
end Go.Rt
namespace Go.Proofs.Ytiofodpfjlcebaa
open Go.RowKit Go.Rt
/-- Filled from the front. -/
def frontL (S : List Int) (k : Nat) : List Int := S.take k ++ List.replicate (S.length - k) 0
theorem frontL_zero (S : List Int) : frontL S 0 = List.replicate S.length 0 := by simp [frontL]
theorem frontL_full (S : List Int) : frontL S S.length = S := by simp [frontL]
theorem frontL_set (S : List Int) (j : Nat) (hj : j < S.length) (x : Int) (hx : S[j]? = some x) : (frontL S j).set j x = frontL S (j + 1) := by
  unfold frontL
  apply List.ext_getElem?
  intro i
  have hx' : S[j] = x := by rw [List.getElem?_eq_getElem hj] at hx; exact Option.some.inj hx
  rw [List.getElem?_set]
  by_cases hij : j = i
  · subst hij
    have h1 : j < (S.take j ++ List.replicate (S.length - j) (0 : Int)).length := by simp; omega
    simp only [if_pos h1, if_true]
    rw [List.getElem?_append_left (by simp; omega), List.getElem?_take, if_pos (by omega), hx]
  · simp only [hij, if_false]
    simp only [List.getElem?_append, List.length_take, List.getElem?_replicate, List.getElem?_take]
    have m1 : min j S.length = j := by omega
    have m2 : min (j + 1) S.length = j + 1 := by omega
    rw [m1, m2]
    by_cases h1 : i < j
    · simp [h1, show i < j + 1 by omega]
    · have h1' : ¬ i < j + 1 := by omega
      by_cases h2 : i < S.length
      · simp [h1, h1', show i - j < S.length - j by omega, show i - (j + 1) < S.length - (j + 1) by omega]
      · simp [h1, h1', show ¬ i - j < S.length - j by omega, show ¬ i - (j + 1) < S.length - (j + 1) by omega]
theorem strI_mem : ∀ {xs : List Int}, Dims xs → prodI xs ≤ 65536 → ∀ x ∈ strI xs, 1 ≤ x ∧ x ≤ 65536
  | [], _, _, x, hx => by simp [strI] at hx
  | d :: r, h, hp, x, hx => by
    have h1 := h.tail.pos
    have h2 : prodI r ≤ 65536 := by have := prodI_drop_le h 1; simp at this; omega
    simp only [strI, List.mem_cons] at hx
    rcases hx with rfl | hx
    · omega
    · exact strI_mem h.tail h2 x hx
/-- A made list, as a slice that reads. -/
theorem RetInts.ints {w w' : World} {xs : List Int} {e : Ending} (h : RetInts w xs e w') (hwf : ∀ x ∈ xs, (Lit.int .i64 x).wf = true) :
    ∃ a c, e = .returned (.slice a xs.length c) ∧ Ints .i64 w' w'.heap.size a xs ∧ Below w.heap.size w w' ∧ w'.ownsRow w.heap.size 3 1 (.slice a xs.length c) xs.length (xs.map (Value.int .i64)) := by
  obtain ⟨v, rfl, hown, hb⟩ := h
  obtain ⟨a, c, rfl, hi⟩ := own_ints hown hwf
  exact ⟨a, c, rfl, hi, hb, hown⟩
theorem dot_bound (xs is : List Int) (hD : Dims xs) (hw : withinB xs is = true) (k : Nat) (hk : k ≤ xs.length) :
    0 ≤ dotI (is.take k) ((strI xs).take k) ∧ dotI (is.take k) ((strI xs).take k) ≤ prodI xs := by
  have hl := withinB_length hw
  have h0 : placeI xs is = dotI (is.take k) ((strI xs).take k) + placeI (xs.drop k) (is.drop k) := by
    rw [← dotI_str xs is hl]
    clear hw hD
    induction k generalizing xs is with
    | zero => simp [dotI, dotI_str xs is hl]
    | succ k ih =>
      match xs, is, hl with
      | [], _, _ => simp at hk
      | d :: r, i :: s, hl =>
        have := ih r s (by simpa using hk) (by simpa using hl)
        simp only [strI, List.take_succ_cons, dotI, List.drop_succ_cons, this]
        omega
  have hb := placeI_bound xs is hD hw
  have hw2 : withinB (xs.drop k) (is.drop k) = true := by
    rw [withinB_iff] at hw ⊢
    refine ⟨by simp; omega, fun j hj => ?_⟩
    have := hw.2 (k + j) (by simp at hj; omega)
    simpa using this
  have hb2 := placeI_bound _ _ (hD.drop k) hw2
  refine ⟨?_, by omega⟩
  clear hb hb2 hw2 h0
  induction k generalizing xs is with
  | zero => simp [dotI]
  | succ k ih =>
    match xs, is, hl with
    | [], _, _ => simp at hk
    | d :: r, i :: s, hl =>
      simp only [withinB, Bool.and_eq_true, decide_eq_true_eq] at hw
      have := ih r s hD.tail hw.2 (by simpa using hk) (by simpa using hl)
      have hm : 0 ≤ i * prodI r := Int.mul_nonneg hw.1.1 (by have := hD.tail.pos; omega)
      simp only [strI, List.take_succ_cons, dotI]
      omega
set_option maxHeartbeats 400000 in
theorem rat_any (a : Option Addr) (c : Nat) (xs : List Int) (n : Int) (w : World) (h : Ints .i64 w w.heap.size a xs) (hg : goodB xs = true) (hn : 0 ≤ n) (hn2 : n < prodI xs) :
    Calls Try.prog 18 #[.slice a xs.length c, .int .i64 n] w (RetInts w (standsI xs n)) := by
  have hm := h.len
  have H := Lib.hid (rstrides_any a c xs w h hg)
  have hD := goodB_dims hg
  have h4 := (goodB_iff.1 hg).1
  obtain ⟨hP1, hP⟩ := goodB_prod hg
  have hl := Lib.hid (standsI_length xs n)
  have HSL := Lib.hid (strI_length xs)
  clear hg
  go_enter Try.func18, Try.ntmps18
  go_wp2_with fail
  refine H.out.mono ?_
  intro e w1 hr
  obtain ⟨a3, c3, rfl, hi3, hb1, _⟩ := hr.ints (wf_dims (fun x hx => by have := strI_mem hD hP x hx; omega))
  obtain ⟨hm3, _, hc3⟩ := hi3
  have HB1 := Lib.hid hb1
  have hsz1 := hb1.size
  clear hb1 h hr H
  go_wp2_with (at_make; (refine wpl_make 23 3 .i64 infoInt Try.underlying23 w.heap.size xs.length _ _ _ _ rfl rfl rfl rfl rfl rfl (by omega) hsz1 ?_); intro w2 hown hgrow _)
  go_loopw [1, 7] (fun m i wr => ∃ k : Nat, k ≤ xs.length ∧ i = .int .i64 k ∧ m = .int .i64 (n % prodI (xs.drop k)) ∧ wr.ownsRow w.heap.size 3 1 (.slice (some ⟨w1.heap.size, 0, none⟩) xs.length xs.length) xs.length ((frontL (standsI xs n) k).map (Value.int .i64)) ∧ Below w1.heap.size w1 wr) (fun _ i _ => xs.length - (intOf i).toNat)
  case atStart =>
    refine ⟨0, Nat.zero_le _, rfl, by simp; exact (Int.emod_eq_of_lt hn hn2).symm, ?_, hgrow _ (Nat.le_refl _)⟩
    have e := frontL_zero (standsI xs n)
    rw [hl.out] at e
    rw [e]
    exact hown
  case round =>
    obtain ⟨k, hk, rfl, rfl, hown2, hbel⟩ := hrel
    clear hown hgrow
    by_cases hlt : k < xs.length
    · have hlt3 : k < (strI xs).length := by have := HSL.out; omega
      obtain ⟨b, off, rfl, hlb, hcell⟩ := hc3 k hlt3
      clear hc3
      rw [strI_get xs k hlt] at hcell
      simp only [Option.getD_some] at hcell
      have hold : wr.cell? ⟨w1.heap.size, k, none⟩ = some (.int .i64 ((frontL (standsI xs n) k)[k]?.getD 0)) := own_cell hown2 hlt
      have hfr := hown2.frozenAt k
      have hcr : wr.cell? ⟨b, off + k, none⟩ = some (.int .i64 (prodI (xs.drop (k + 1)))) := (hbel.cell (p := ⟨b, off + k, none⟩) hlb).trans hcell
      have hsf := stands_front xs n k hD hlt
      have hst := hown2.stored k (.int .i64 (n % prodI (xs.drop k) / prodI (xs.drop (k + 1))))
      have HO : Hid ((wr.setCell ⟨w1.heap.size, k, none⟩ (.int .i64 (n % prodI (xs.drop k) / prodI (xs.drop (k + 1))))).ownsRow w.heap.size 3 1 (.slice (some ⟨w1.heap.size, 0, none⟩) xs.length xs.length) xs.length ((frontL (standsI xs n) (k + 1)).map (Value.int .i64))) := by
        have h0 := hst.1
        rw [map_set, frontL_set _ k (by rw [hl.out]; exact hlt) _ (by rw [standsI_get xs n k hlt, hsf.1])] at h0
        exact h0
      have HB := Lib.hid (hbel.setCell (p := ⟨w1.heap.size, k, none⟩) (Nat.le_refl _) (.int .i64 (n % prodI (xs.drop k) / prodI (xs.drop (k + 1)))))
      have HS := Lib.hid hsf.2
      have hp1 := (hD.drop (k + 1)).pos
      have hp0 := (hD.drop k).pos
      have hp2 := prodI_drop_le hD (k + 1)
      have hp3 := prodI_drop_le hD k
      have hr0 := Int.emod_nonneg n (show prodI (xs.drop k) ≠ 0 by omega)
      have hr1 := Int.emod_lt_of_pos n (show 0 < prodI (xs.drop k) by omega)
      have hq0 : 0 ≤ n % prodI (xs.drop k) / prodI (xs.drop (k + 1)) := Int.ediv_nonneg hr0 (by omega)
      have hne : b ≠ w1.heap.size := by omega
      clear hown2 hbel hst hcell hsf
      go_wp2
      go_roundw
      case rel => exact ⟨k + 1, by omega, by go_num, by rw [HS.out], HO.out, HB.out⟩
      case measure => simp [intOf]; omega
    · have hke : k = xs.length := by omega
      subst hke
      have HO := Lib.hid hown2
      have HB := Lib.hid hbel
      clear hown2 hbel hc3
      go_wp2
      go_ret
      have h0 := HO.out
      have e := frontL_full (standsI xs n)
      rw [hl.out] at e
      rw [e] at h0
      exact ⟨_, rfl, by rw [hl.out]; exact h0, HB1.out.trans (HB.out.mono hsz1)⟩
/-- What a spread hands back. -/
def RetSpread (w : World) (xs ys : List Int) (e : Ending) (w' : World) : Prop :=
  ∃ v, e = .returned (.tuple #[v, .int .i64 (spreadE xs ys)]) ∧ w'.ownsRow w.heap.size 3 1 v (spreadR xs ys).length ((spreadR xs ys).map (Value.int .i64)) ∧ Below w.heap.size w w'
theorem dimI_bound {xs : List Int} (h : Dims xs) (k : Nat) : 1 ≤ dimI xs k ∧ dimI xs k ≤ 4096 := by
  unfold dimI
  split
  · rename_i hk
    have := h.at (k := xs.length - 1 - k) (by omega)
    rw [List.getElem?_eq_getElem (by omega)]
    exact this
  · omega
theorem spreadL_dims {xs ys : List Int} (hx : Dims xs) (hy : Dims ys) : Dims (spreadL xs ys) := by
  intro d hd
  obtain ⟨k, hk, he⟩ := List.getElem_of_mem hd
  rw [spreadL_length] at hk
  have h1 := spreadL_get xs ys k hk
  rw [List.getElem?_eq_getElem (by rw [spreadL_length]; exact hk), he] at h1
  have a := dimI_bound hx (max xs.length ys.length - 1 - k)
  have b := dimI_bound hy (max xs.length ys.length - 1 - k)
  simp at h1
  omega
theorem spreadR_mem {xs ys : List Int} (hx : Dims xs) (hy : Dims ys) : ∀ x ∈ spreadR xs ys, -65537 ≤ x ∧ x ≤ 65537 := by
  intro x hm
  unfold spreadR at hm
  split at hm
  · have := spreadL_dims hx hy x hm; omega
  · simp at hm
/-- A made list beside an error, as a slice that reads. -/
theorem RetSpread.ints {w w' : World} {xs ys : List Int} {e : Ending} (h : RetSpread w xs ys e w') (hx : Dims xs) (hy : Dims ys) :
    ∃ a c, e = .returned (.tuple #[.slice a (spreadR xs ys).length c, .int .i64 (spreadE xs ys)]) ∧ Ints .i64 w' w'.heap.size a (spreadR xs ys) ∧ Below w.heap.size w w' := by
  obtain ⟨v, rfl, hown, hb⟩ := h
  obtain ⟨a, c, rfl, hi⟩ := own_ints hown (wf_dims (spreadR_mem hx hy))
  exact ⟨a, c, rfl, hi, hb⟩
/-- The sum of the first j steps. -/
def dotKV (sh st : List Int) (k j : Nat) : Int := dotI ((standsI sh (k : Int)).take j) (st.take j)
theorem dotKV_bound {sh st : List Int} {off n : Int} (hv : viewB sh st off n = true) (k j : Nat) : 0 ≤ dotKV sh st k j ∧ off + dotKV sh st k j < n := by
  obtain ⟨h1, h2, h3, h4, h5, h6, h7⟩ := viewB_iff.1 hv
  have hD := goodB_dims h1
  have h8 := withinB_take _ _ j (standsI_within sh (k : Int) hD)
  have h9 := dotI_top (sh.take j) ((standsI sh (k : Int)).take j) (st.take j) h8 (fun x hx => (h6 x (List.mem_of_mem_take hx)).1)
  have h10 := topV_take_le sh st j hD (fun x hx => (h6 x hx).1)
  unfold dotKV
  omega
theorem dotK_succ {sh st : List Int} (hl : st.length = sh.length) (k j : Nat) (hj : j < (standsI sh (k : Int)).length) (hj2 : j < st.length) : dotKV sh st k (j + 1) = dotKV sh st k j + (standsI sh (k : Int))[j] * st[j] :=
  dotI_take_succ _ _ j hj (by rw [standsI_length]; exact hl)
theorem dotK_all {sh st : List Int} (hl : st.length = sh.length) (off : Int) (k : Nat) : off + dotKV sh st k sh.length = atV sh st off k := by
  unfold dotKV atV
  rw [List.take_of_length_le (by rw [standsI_length]; exact Nat.le_refl _), List.take_of_length_le (by omega)]
end Go.Proofs.Ytiofodpfjlcebaa
namespace Go.Rt
open Go.RowKit
/-- Each of the numbers below n once. -/
structure Once (n : Nat) (l : List Int) : Prop where
  len : l.length = n
  bnd : ∀ x ∈ l, 0 ≤ x ∧ x < n
  inj : ∀ i j, i < n → j < n → l[i]? = l[j]? → i = j
theorem once_range (n : Nat) : Once n ((List.range n).map fun k : Nat => (k : Int)) :=
  ⟨by simp, by simp, fun i j hi hj h => by simp [hi, hj] at h; omega⟩
theorem Once.nodup {n : Nat} {l : List Int} (h : Once n l) : l.Nodup := by
  refine List.pairwise_iff_getElem.2 fun i j hi hj hij e => ?_
  have := h.inj i j (by rw [← h.len]; omega) (by rw [← h.len]; omega) (by rw [List.getElem?_eq_getElem hi, List.getElem?_eq_getElem hj, e])
  omega
/-- All numbers below n are there, and there are n of them. -/
def axesB (l : List Int) (n : Int) : Bool := decide ((l.length : Int) = n) && (List.range n.toNat).all fun k => l.contains (k : Int)
/-- One list within another one of at most as many: the same. -/
theorem perm_of_sub : ∀ (l m : List Int), l.Nodup → (∀ x ∈ l, x ∈ m) → m.length ≤ l.length → l.Perm m
  | [], m, _, _, h => by
    have : m = [] := List.eq_nil_of_length_eq_zero (by simpa using h)
    rw [this]
  | x :: l, m, hn, hs, h => by
    have hx := hs x List.mem_cons_self
    have hp := List.perm_cons_erase hx
    have hn2 := List.nodup_cons.1 hn
    have hl : (m.erase x).length + 1 = m.length := by have := hp.length_eq; simp at this; omega
    refine ((perm_of_sub l (m.erase x) hn2.2 (fun y hy => ?_) (by simp at h; omega)).cons x).trans hp.symm
    have hne : y ≠ x := fun e => hn2.1 (e ▸ hy)
    exact (List.mem_erase_of_ne hne).2 (hs y (List.mem_cons_of_mem _ hy))
theorem range_nodup (n : Nat) : ((List.range n).map fun k : Nat => (k : Int)).Nodup := (once_range n).nodup
theorem axesB_once {l : List Int} {n : Nat} : axesB l n = true ↔ Once n l := by
  unfold axesB
  simp only [Int.toNat_natCast, Bool.and_eq_true, decide_eq_true_eq, List.all_eq_true, List.mem_range, List.contains_iff_mem]
  constructor
  · rintro ⟨hl, ha⟩
    have hp := perm_of_sub ((List.range n).map fun k : Nat => (k : Int)) l (range_nodup n) (fun x hx => by
      obtain ⟨k, hk, rfl⟩ := List.mem_map.1 hx
      exact ha k (List.mem_range.1 hk)) (by simp; omega)
    refine ⟨by omega, fun x hx => ?_, fun i j hi hj e => ?_⟩
    · obtain ⟨k, hk, rfl⟩ := List.mem_map.1 (hp.mem_iff.2 hx)
      have := List.mem_range.1 hk
      omega
    · have hnd := hp.nodup_iff.1 (range_nodup n)
      have hp2 := List.pairwise_iff_getElem.1 hnd
      rw [List.getElem?_eq_getElem (by omega), List.getElem?_eq_getElem (by omega)] at e
      injection e with e
      rcases Nat.lt_trichotomy i j with h | h | h
      · exact absurd e (hp2 i j (by omega) (by omega) h)
      · exact h
      · exact absurd e.symm (hp2 j i (by omega) (by omega) h)
  · intro h
    refine ⟨by rw [h.len], fun k hk => ?_⟩
    have hp := perm_of_sub l ((List.range n).map fun k : Nat => (k : Int)) h.nodup (fun x hx => by
      have := h.bnd x hx
      exact List.mem_map.2 ⟨x.toNat, List.mem_range.2 (by omega), by omega⟩) (by simp [h.len])
    exact hp.mem_iff.2 (List.mem_map.2 ⟨k, List.mem_range.2 hk, rfl⟩)
end Go.Rt
namespace Go.Proofs.Ytiofodpfjlcebaa
open Go.RowKit Go.Rt
/-- append of one number to a row of one's own, as one step of a drawn region. -/
theorem stepApp1 {ops : Array Oper} {o : Oper} {a : Act} {w : World} {K : Act → World → Prop} {Q : Exit → Act → World → Prop} {E' : Prop} (T E : TypeId)
    (hinf : (Try.prog.info? E).map (fun i => (i.zero, i.size, i.bytes)) = some (some (.int .i64 0), 1, 8)) (hu : Try.prog.underlying T = some (.slice E))
    (base : Nat) (v : Value) (n : Nat) (xs : List Int) (y : Int) (cap : Nat) (ad : Addr) (s x : Operand) (hg : o.guard = none) (ho : o.op = .call { callee := .builtin .append, args := #[s, x], argTypes := #[T, T] })
    (hs : a.eval s = v) (hown : w.ownsRow base E 1 v n (xs.map (Value.int .i64))) (hx : a.eval x = .slice (some ad) 1 cap) (hc : w.cell? ad = some (.int .i64 y)) (hn : n ≤ 1000000) (hb : base ≤ w.heap.size)
    (hK : ∀ g cap' w', w'.ownsRow base E 1 (.slice (some ⟨g, 0, none⟩) (n + 1) cap') (n + 1) ((xs ++ [y]).map (Value.int .i64)) → w.grownBy w' v.ownBlock → (v.ownBlock = some g ∨ g = w.heap.size) → K (a.put o.dst (.slice (some ⟨g, 0, none⟩) (n + 1) cap')) w') :
    if Region.wanted o (yielded ops a.tmps) = true then Oper.wp Try.prog o a w K Q else E' := by
  obtain ⟨i, hi, hz0, hz1, hz2⟩ := info_parts hinf
  refine step_append_lies w hg s x T ho base E i (.int .i64 0) 1 8 hu hi hz0 hz1 hz2 rfl (by decide) v n _ hs hown ad 1 cap [.int .i64 y] hx rfl (fun j u hj => ?_) (by simp [Value.oneCell']) (by decide) (by unfold maxLen; omega) (by omega) hb _ rfl ?_
  · cases j with
    | zero =>
      simp at hj
      subst hj
      have : ad.add 0 = ad := by cases ad; rfl
      rw [this]
      exact hc
    | succ j => simp at hj
  · intro g cap' w' h1 h2 h3 _
    exact hK g cap' w' (by rw [List.map_append]; exact h1) h2 h3
theorem ints_row {W : World} {base : Nat} {e : TypeId} {a : Option Addr} {n c : Nat} {xs : List Int} (h : W.ownsRow base e 1 (.slice a n c) n (xs.map (Value.int .i64))) (hl : xs.length = n) (hwf : ∀ x ∈ xs, (Lit.int .i64 x).wf = true) : Ints .i64 W W.heap.size a xs := by
  subst hl
  obtain ⟨a2, c2, he, hi⟩ := own_ints h hwf
  simp only [Value.slice.injEq] at he
  rw [he.1]
  exact hi
theorem results_cV {fn : Func} {p : Tmp} {ty : TypeId} (h : fn.results = #[.cell p ty]) (tmps : Array Value) (P : Program) (w : World) :
    (results fn tmps).run P w = ((asAddr (tmps.getD p undef)).run P w).andThen fun a w₁ => (loadVar ty a).run P w₁ := by
  simp only [results, h]
  simp [Sem.run_bind, Result.andThen]
set_option maxRecDepth 100000 in
set_option maxHeartbeats 1000000 in
theorem rplace_any (a b ai : Option Addr) (c d ci : Nat) (sh st : List Int) (off N : Int) (k : Nat) (w : World) (h2 : Ints .i64 w w.heap.size b st) (h3 : Ints .i64 w w.heap.size ai (standsI sh (k : Int))) (hv : viewB sh st off N = true) :
    Calls Try.prog 41 #[.agg #[.slice a sh.length c, .slice b st.length d, .int .i64 off], .slice ai sh.length ci] w fun e w' => e = .returned (.int .i64 (atV sh st off k)) ∧ Below w.heap.size w w' := by
  have hv0 := viewB_iff.1 hv
  have h4 := (goodB_iff.1 hv0.1).1
  have HG := Lib.hid hv0.1
  have HL2 := Lib.hid hv0.2.1
  have HV := Lib.hid hv
  have hwN := hv0.2.2.2.1
  have hoff := hv0.2.2.1
  have HSL := Lib.hid (standsI_length sh (k : Int))
  have hB1 : Below w.heap.size w (w.alloc (.cells #[.slice a sh.length c, .slice b st.length d, .int .i64 off] 49)) := (Below.refl _ _).alloc (Nat.le_refl _) _
  have HB2 := Lib.hid (h2.below hB1 (Nat.le_refl _))
  have HI2 := Lib.hid (h3.below hB1 (Nat.le_refl _))
  clear hv0 hv h2 h3
  go_enter Try.func41, Try.ntmps41
  have F1 := Lib.hid ((Fr.start (w := w) (I := []) (by simp)).box1 (b := w.heap.size) rfl [.slice a sh.length c, .slice b st.length d, .int .i64 off] 49)
  simp only [List.nil_append] at F1
  go_upto_region 1 with fail
  have HB := Lib.hid hB1
  obtain ⟨W1, hW1⟩ : ∃ W1, (w.alloc (.cells #[.slice a sh.length c, .slice b st.length d, .int .i64 off] 49)) = W1 := ⟨_, rfl⟩
  rw [hW1] at F1 HB2 HI2 HB ⊢
  clear hW1 hB1
  have z0 := F1.out.c 0 0 rfl rfl
  have z1 := F1.out.c 0 1 rfl rfl
  have z2 := F1.out.c 0 2 rfl rfl
  go_wp2
  go_loopw [5, 6] (fun s i wr => ∃ j : Nat, j ≤ sh.length ∧ i = .int .i64 j ∧ s = .int .i64 (off + dotKV sh st k j) ∧ ∃ q, wr = W1.drewN q) (fun _ i _ => sh.length - (intOf i).toNat)
  case atStart => exact ⟨0, Nat.zero_le _, rfl, by simp [dotKV, dotI], 0, rfl⟩
  case round =>
    obtain ⟨j, hj, rfl, rfl, q, rfl⟩ := hrel
    by_cases hlt : j < sh.length
    · have hlt1 : j < (standsI sh (k : Int)).length := by have := HSL.out; omega
      have hlt2 : j < st.length := by have := HL2.out; omega
      obtain ⟨_, _, hcA⟩ := HI2.out
      obtain ⟨_, _, hcB⟩ := HB2.out
      obtain ⟨ba, oa, rfl, hla, hca⟩ := hcA j hlt1
      obtain ⟨bs, os, rfl, hlb, hcb⟩ := hcB j hlt2
      rw [List.getElem?_eq_getElem hlt1] at hca
      rw [List.getElem?_eq_getElem hlt2] at hcb
      simp only [Option.getD_some] at hca hcb
      have hb1 := dotKV_bound HV.out k j
      have hb2 := dotKV_bound HV.out k (j + 1)
      have HD := Lib.hid (dotK_succ HL2.out k j hlt1 hlt2)
      rw [HD.out] at hb2
      have hm1 := stands_mem (n := (k : Int)) (goodB_dims HG.out) _ (List.getElem_mem hlt1)
      have hm2 := (viewB_iff.1 HV.out).2.2.2.2.2.1 _ (List.getElem_mem hlt2)
      obtain ⟨x, hx⟩ : ∃ x, (standsI sh (k : Int))[j] = x := ⟨_, rfl⟩
      obtain ⟨y, hy⟩ : ∃ y, st[j] = y := ⟨_, rfl⟩
      obtain ⟨T, hT⟩ : ∃ T, dotKV sh st k j = T := ⟨_, rfl⟩
      rw [hx] at hca HD hm1 hb2
      rw [hy] at hcb HD hm2 hb2
      rw [hT] at HD hb1 hb2 ⊢
      have hp1 : 0 ≤ x * y := Int.mul_nonneg hm1.1 hm2.1
      have hp2 : x * y ≤ 4096 * 65536 := Int.mul_le_mul (by omega) hm2.2 hm2.1 (by omega)
      have hwr1 : IntKind.i64.wrap (x * y) = x * y := IntWalk.i64_in _ (by omega)
      have hwr2 : IntKind.i64.wrap (off + T + x * y) = off + T + x * y := IntWalk.i64_in _ (by omega)
      have HX := Lib.hid (show off + (T + x * y) = off + T + x * y by omega)
      clear hx hy hT hcA hcB hb1 hb2 hm1 hm2 hp1 hp2
      go_wp2
      go_quiet (fail)
      clear hwr1 hwr2
      go_wp2
      go_roundw
      case rel => exact ⟨j + 1, by omega, by go_num, by rw [HD.out, HX.out], _, by first | rfl | exact World.drewN_drewN _ _ _⟩
      case measure => simp [intOf]; omega
    · obtain rfl : j = sh.length := by omega
      have HA := Lib.hid (dotK_all HL2.out off k)
      go_wp2
      go_ret
      exact ⟨ret_int HA.out, below_drewN HB.out _⟩
/-- A slice of one number, in new memory. -/
def IsOne (x : Int) (u : Value) (W : World) : Prop := ∃ g cap, u = .slice (some ⟨g, 0, none⟩) 1 cap ∧ W.cell? ⟨g, 0, none⟩ = some (.int .i64 x)
theorem isOne_carries (x : Int) : Carries (IsOne x) := fun u w w' ⟨g, cap, h1, h2⟩ hb => ⟨g, cap, h1, (hb.cell (p := ⟨g, 0, none⟩) (World.block_lt_of_cell? w _ h2)).trans h2⟩
theorem oneNew (w : World) (x : Int) (t : TypeId) : (w.alloc (.cells #[.int .i64 x] t)).cell? ⟨w.heap.size, 0, none⟩ = some (.int .i64 x) := by
  simp
/-- A tensor handed back. -/
def RetTO (w : World) (sh ys : List Int) (e : Ending) (w' : World) : Prop :=
  ∃ a c b d, e = .returned (.agg #[.slice a sh.length c, .slice b ys.length d]) ∧ Fr w.heap.size w w' [] [] [⟨3, .slice a sh.length c, sh.length, sh.map (Value.int .i64)⟩, ⟨2, .slice b ys.length d, ys.length, ys.map (Value.int .i64)⟩] []
set_option maxRecDepth 100000 in
set_option maxHeartbeats 4000000 in
theorem rcopy_any (a b ad : Option Addr) (c d cd : Nat) (sh st data : List Int) (off : Int) (w : World) (h : Ints .i64 w w.heap.size a sh) (h2 : Ints .i64 w w.heap.size b st) (h3 : Ints .i64 w w.heap.size ad data) (hv : viewB sh st off data.length = true) :
    Calls Try.prog 20 #[.agg #[.slice a sh.length c, .slice b st.length d, .int .i64 off], .slice ad data.length cd] w (RetTO w sh (wordsV sh st off data)) := by
  have HA := Lib.hid h
  have HB := Lib.hid h2
  have HD := Lib.hid h3
  clear h h2 h3
  have hv0 := viewB_iff.1 hv
  have hP := goodB_prod hv0.1
  have h4 := (goodB_iff.1 hv0.1).1
  have hwN := hv0.2.2.2.1
  have HG := Lib.hid hv0.1
  have HV := Lib.hid hv
  have hcg := countE_good hv0.1
  obtain ⟨M, hM⟩ : ∃ M : Nat, prodI sh = M := ⟨(prodI sh).toNat, by omega⟩
  rw [hM] at hcg
  have hct := fun W (h : Ints .i64 W W.heap.size a sh) => rcount_any a c _ sh W h (goodB_dims HG.out)
  rw [hcg] at hct
  have HM := Lib.hid hM
  have hM2 : M ≤ 65536 := by omega
  obtain ⟨PL, hPL⟩ : ∃ x, placesV sh st off = x := ⟨_, rfl⟩
  have hPLl : PL.length = M := by rw [← hPL, placesV_len]; have := HM.out; omega
  have hPLg := fun k (hk : k < M) => placesV_get sh st off (k := k) (by have := HM.out; omega)
  rw [hPL] at hPLg
  have HPL := Lib.hid hPL
  have HPLl := Lib.hid hPLl
  have HPLg := Lib.hid hPLg
  have HCT := Lib.hid hct
  clear hv0 hP hcg hM hPL hPLl hPLg hct
  obtain ⟨WV, hWV⟩ : ∃ x, wordsV sh st off data = x := ⟨_, rfl⟩
  have hWL : WV.length = M := by rw [← hWV, wordsV_len]; have := HM.out; omega
  have hWG := fun k (hk : k < M) => wordsV_get sh st off data (k := k) (by have := HM.out; omega)
  rw [hWV] at hWG ⊢
  have HWL := Lib.hid hWL
  have HWG := Lib.hid hWG
  clear hWV hWL hWG
  go_enter Try.func20, Try.ntmps20
  have F1 := Lib.hid (((Fr.start (w := w) (I := [(.i64, a, sh), (.i64, b, st), (.i64, ad, data)]) (by intro z hz; simp at hz; rcases hz with rfl | rfl | rfl; exact HA.out; exact HB.out; exact HD.out)).box1 (b := w.heap.size) rfl [.slice a sh.length c, .slice b st.length d, .int .i64 off] 49).box1 (b := w.heap.size + 1) (by simp) [.slice none 0 0, .slice none 0 0] 26)
  simp only [List.nil_append, List.cons_append] at F1
  go_upto_region 1 with fail
  obtain ⟨W1, hW1⟩ : ∃ W1, ((w.alloc (.cells #[.slice a sh.length c, .slice b st.length d, .int .i64 off] 49)).alloc (.cells #[.slice none 0 0, .slice none 0 0] 26)) = W1 := ⟨_, rfl⟩
  rw [hW1] at F1 ⊢
  clear hW1
  have c0_0 := F1.out.c 0 0 rfl rfl
  have c0_1 := F1.out.c 0 1 rfl rfl
  have c0_2 := F1.out.c 0 2 rfl rfl
  go_upto_region 2 with (go_at_call 40; refine (copyNumbers_any a c sh W1 (F1.out.lw 0 rfl) (by omega)).mono ?_; rintro e w2 ⟨v, rfl, hown, hb⟩; obtain ⟨a9, c9, rfl, _⟩ := own_shape hown; have F2 := Lib.hid (F1.out.addO hb hown); simp only [List.nil_append] at F2; clear hown hb F1 c0_0 c0_1 c0_2)
  obtain ⟨Q, hQ⟩ : ∃ x, w2.heap.size = x := ⟨_, rfl⟩
  rw [hQ]
  have F3 := Lib.hid ((F2.out.addNil 2).box1 (b := Q) hQ [.slice a9 sh.length c9, .slice none 0 0] 26)
  simp only [List.nil_append, List.cons_append] at F3
  obtain ⟨W3, hW3⟩ : ∃ x, (w2.alloc (.cells #[.slice a9 sh.length c9, .slice none 0 0] 26)) = x := ⟨_, rfl⟩
  rw [hW3] at F3 ⊢
  clear hW3 hQ F2
  go_wp2
  go_loopw [6] (fun i wr => ∃ k : Nat, k ≤ M ∧ i = .int .i64 k ∧ ∃ al cl, Hid (Fr w.heap.size w wr [(w.heap.size, [.slice a sh.length c, .slice b st.length d, .int .i64 off]), (w.heap.size + 1, [.slice none 0 0, .slice none 0 0]), (Q, [.slice a9 sh.length c9, .slice al k cl])] [(.i64, a, sh), (.i64, b, st), (.i64, ad, data)] [⟨3, .slice a9 sh.length c9, sh.length, sh.map (Value.int .i64)⟩, ⟨2, .slice al k cl, k, (WV.take k).map (Value.int .i64)⟩] [])) (fun i _ => M - (intOf i).toNat)
  case atStart => exact ⟨0, Nat.zero_le _, rfl, none, 0, Lib.hid (by rw [List.take_zero]; exact F3.out)⟩
  case round =>
    clear F3
    obtain ⟨k, hk, rfl, al, cl, FK⟩ := hrel
    obtain ⟨wk, rfl⟩ : ∃ wk : World, wk = wr := ⟨_, rfl⟩
    have k0_0 := FK.out.c 0 0 rfl rfl
    have k0_1 := FK.out.c 0 1 rfl rfl
    have k0_2 := FK.out.c 0 2 rfl rfl
    have k1_0 := FK.out.c 1 0 rfl rfl
    have k1_1 := FK.out.c 1 1 rfl rfl
    have k2_0 := FK.out.c 2 0 rfl rfl
    have k2_1 := FK.out.c 2 1 rfl rfl
    by_cases hlt : k < M
    · skip
      have hat := atV_bound (n := (k : Int)) HV.out
      have hpg := HPLg.out k hlt
      obtain ⟨z, hz⟩ : ∃ z : Nat, atV sh st off k = z := ⟨(atV sh st off k).toNat, by omega⟩
      rw [hz] at hat hpg
      have hkl : k < PL.length := by rw [HPLl.out]; exact hlt
      have hpk : PL[k] = (z : Int) := by rw [List.getElem?_eq_getElem hkl] at hpg; injection hpg
      have htk := take_snoc PL k hkl
      rw [hpk] at htk
      have HTK := Lib.hid htk
      have HZ := Lib.hid hz
      have HPK := Lib.hid hpk
      clear hpg hz hpk htk
      have hzd : z < data.length := by omega
      have hwg := HWG.out k hlt
      rw [HZ.out, Int.toNat_natCast] at hwg
      have hkw : k < WV.length := by rw [HWL.out]; exact hlt
      have hsn := take_snoc WV k hkw
      obtain ⟨_, _, hcY⟩ := FK.out.l 2 rfl
      obtain ⟨gd, od, rfl, hlb, hcd⟩ := hcY z hzd
      obtain ⟨x, hx⟩ : ∃ x, data[z]?.getD 0 = x := ⟨_, rfl⟩
      rw [hx] at hcd hwg
      have hwk : WV[k] = x := by rw [List.getElem?_eq_getElem hkw] at hwg; injection hwg
      rw [hwk] at hsn
      have HSN := Lib.hid hsn
      have HCD := Lib.hid hcd
      clear hcd hx hwg hcY hsn hwk hat
      go_upto_region 5 with (go_at_call 15; refine (HCT.out _ (FK.out.lw 0 rfl)).mono ?_; rintro e w' ⟨rfl, rfl⟩)
      refine wp_region_parts2 (w := wk) 12 3 none [] [(fun u _ => u = .pointer (some ⟨Q, 1, none⟩)), (fun u _ => u = .slice al k cl), (fun u _ => u = .slice (some ⟨gd, od, none⟩) data.length cd), (fun u _ => u = .agg #[.slice a sh.length c, .slice b st.length d, .int .i64 off]), (fun u _ => u = .pointer (some ⟨w.heap.size, 0, none⟩)), (fun u _ => u = .slice a sh.length c), (fun u _ => u = .int .i64 (k : Int)), ((IsRow wk.heap.size 3 sh.length ((standsI sh (k : Int)).map (Value.int .i64)))), (fun u _ => u = .int .i64 (z : Int)), (fun u _ => u = .pointer (some ⟨gd, od + z, none⟩)), (fun u _ => u = .int .i64 x), ((IsOne x))] [some 18, some 19, some 20, some 21, some 22, some 23, some 24, some 25, some 26, some 27, some 28, some 29, some 30, some 31, none] #[true, true, true, true, true, true, true, true, true, true, true, true, false, false, false] #[true, true, true, true, true, true, true, true, true, true, true, true, false, false, false] (by kernel_rfl) rfl (by kernel_rfl) (by kernel_rfl) rfl (by kernel_rfl) (by kernel_rfl) (.cons (carries_eq _) (.cons (carries_eq _) (.cons (carries_eq _) (.cons (carries_eq _) (.cons (carries_eq _) (.cons (carries_eq _) (.cons (carries_eq _) (.cons (isRow_carries _ _ _ _) (.cons (carries_eq _) (.cons (carries_eq _) (.cons (carries_eq _) (.cons (isOne_carries _) .nil)))))))))))) (fun vs b hvl hvb => ?_)
      obtain ⟨x0, x1, x2, x3, x4, x5, x6, x7, x8, x9, x10, x11, x12, x13, x14, rfl⟩ : ∃ x0 x1 x2 x3 x4 x5 x6 x7 x8 x9 x10 x11 x12 x13 x14, vs = [x0, x1, x2, x3, x4, x5, x6, x7, x8, x9, x10, x11, x12, x13, x14] := lst15 hvl
      clear hvl
      simp only [putAll, Act.put, List.setIfInBounds_toArray, List.set_cons_zero, List.set_cons_succ] at hvb
      subst hvb
      refine ⟨(.snoc (.snoc (.snoc (.snoc (.snoc (.snoc (.snoc (.snoc (.snoc (.snoc (.snoc (.snoc .zero (PartOb.intro (d := (some 18)) (r := fun u _ => u = .pointer (some ⟨Q, 1, none⟩)) rfl rfl rfl rfl ?po5x0)) (PartOb.intro (d := (some 19)) (r := fun u _ => u = .slice al k cl) rfl rfl rfl rfl ?po5x1)) (PartOb.intro (d := (some 20)) (r := fun u _ => u = .slice (some ⟨gd, od, none⟩) data.length cd) rfl rfl rfl rfl ?po5x2)) (PartOb.intro (d := (some 21)) (r := fun u _ => u = .agg #[.slice a sh.length c, .slice b st.length d, .int .i64 off]) rfl rfl rfl rfl ?po5x3)) (PartOb.intro (d := (some 22)) (r := fun u _ => u = .pointer (some ⟨w.heap.size, 0, none⟩)) rfl rfl rfl rfl ?po5x4)) (PartOb.intro (d := (some 23)) (r := fun u _ => u = .slice a sh.length c) rfl rfl rfl rfl ?po5x5)) (PartOb.intro (d := (some 24)) (r := fun u _ => u = .int .i64 (k : Int)) rfl rfl rfl rfl ?po5x6)) (PartOb.intro (d := (some 25)) (r := (IsRow wk.heap.size 3 sh.length ((standsI sh (k : Int)).map (Value.int .i64)))) rfl rfl rfl rfl ?po5x7)) (PartOb.intro (d := (some 26)) (r := fun u _ => u = .int .i64 (z : Int)) rfl rfl rfl rfl ?po5x8)) (PartOb.intro (d := (some 27)) (r := fun u _ => u = .pointer (some ⟨gd, od + z, none⟩)) rfl rfl rfl rfl ?po5x9)) (PartOb.intro (d := (some 28)) (r := fun u _ => u = .int .i64 x) rfl rfl rfl rfl ?po5x10)) (PartOb.intro (d := (some 29)) (r := (IsOne x)) rfl rfl rfl rfl ?po5x11)), ?pend5, ?pfl5⟩
      case po5x0 =>
        intro w1 hb1 hd KK hK
        clear hd
        simp only [Act.put, List.setIfInBounds_toArray, List.set_cons_zero, List.set_cons_succ] at hK
        go_simp
        first | exact hK.out _ _ (Below.refl _ _) rfl | (have hk := hK.out _ _ (Below.refl _ _) rfl; revert hk; go_simp)
      case po5x1 =>
        intro w1 hb1 hd KK hK
        have d0 : x0 = .pointer (some ⟨Q, 1, none⟩) := hd 0 (by kernel_rfl)
        clear hd
        subst d0
        have hF := FK.out.next hb1
        have k0 := hF.c 2 0 rfl rfl
        have k1 := hF.c 2 1 rfl rfl
        simp only [Act.put, List.setIfInBounds_toArray, List.set_cons_zero, List.set_cons_succ] at hK
        go_simp
        first | exact hK.out _ _ (Below.refl _ _) rfl | (have hk := hK.out _ _ (Below.refl _ _) rfl; revert hk; go_simp)
      case po5x2 =>
        intro w1 hb1 hd KK hK
        clear hd
        simp only [Act.put, List.setIfInBounds_toArray, List.set_cons_zero, List.set_cons_succ] at hK
        go_simp
        first | exact hK.out _ _ (Below.refl _ _) rfl | (have hk := hK.out _ _ (Below.refl _ _) rfl; revert hk; go_simp)
      case po5x3 =>
        intro w1 hb1 hd KK hK
        clear hd
        have hF := FK.out.next hb1
        have k0 := hF.c 0 0 rfl rfl
        have k1 := hF.c 0 1 rfl rfl
        have k2 := hF.c 0 2 rfl rfl
        simp only [Act.put, List.setIfInBounds_toArray, List.set_cons_zero, List.set_cons_succ] at hK
        go_simp
        first | exact hK.out _ _ (Below.refl _ _) rfl | (have hk := hK.out _ _ (Below.refl _ _) rfl; revert hk; go_simp)
      case po5x4 =>
        intro w1 hb1 hd KK hK
        clear hd
        simp only [Act.put, List.setIfInBounds_toArray, List.set_cons_zero, List.set_cons_succ] at hK
        go_simp
        first | exact hK.out _ _ (Below.refl _ _) rfl | (have hk := hK.out _ _ (Below.refl _ _) rfl; revert hk; go_simp)
      case po5x5 =>
        intro w1 hb1 hd KK hK
        have d4 : x4 = .pointer (some ⟨w.heap.size, 0, none⟩) := hd 4 (by kernel_rfl)
        clear hd
        subst d4
        have hF := FK.out.next hb1
        have k0 := hF.c 0 0 rfl rfl
        have k1 := hF.c 0 1 rfl rfl
        have k2 := hF.c 0 2 rfl rfl
        simp only [Act.put, List.setIfInBounds_toArray, List.set_cons_zero, List.set_cons_succ] at hK
        go_simp
        first | exact hK.out _ _ (Below.refl _ _) rfl | (have hk := hK.out _ _ (Below.refl _ _) rfl; revert hk; go_simp)
      case po5x6 =>
        intro w1 hb1 hd KK hK
        clear hd
        simp only [Act.put, List.setIfInBounds_toArray, List.set_cons_zero, List.set_cons_succ] at hK
        go_simp
        first | exact hK.out _ _ (Below.refl _ _) rfl | (have hk := hK.out _ _ (Below.refl _ _) rfl; revert hk; go_simp)
      case po5x7 =>
        intro w1 hb1 hd KK hK
        have d5 : x5 = .slice a sh.length c := hd 5 (by kernel_rfl)
        have d6 : x6 = .int .i64 (k : Int) := hd 6 (by kernel_rfl)
        clear hd
        subst d5
        subst d6
        simp only [Act.put, List.setIfInBounds_toArray, List.set_cons_zero, List.set_cons_succ] at hK
        go_simp
        go_at_call 18
        refine (rat_any a c sh (k : Int) w1 ((FK.out.next hb1).lw 0 rfl) HG.out (by omega) (by have := HM.out; omega)).mono ?_
        rintro e w2 ⟨v, rfl, hown, hb⟩
        obtain ⟨a2, c2, rfl, _⟩ := own_shape hown
        rw [standsI_length] at hown ⊢
        (try go_wp2_with fail)
        first | exact hK.out _ _ hb ⟨a2, c2, rfl, own_mono hown hb1.size⟩ | (have hk := hK.out _ _ hb ⟨a2, c2, rfl, own_mono hown hb1.size⟩; revert hk; go_simp)
      case po5x8 =>
        intro w1 hb1 hd KK hK
        have d3 : x3 = .agg #[.slice a sh.length c, .slice b st.length d, .int .i64 off] := hd 3 (by kernel_rfl)
        have d7 : (IsRow wk.heap.size 3 sh.length ((standsI sh (k : Int)).map (Value.int .i64))) x7 w1 := hd 7 (by kernel_rfl)
        clear hd
        subst d3
        obtain ⟨a7, c7, rfl, hO7⟩ := d7
        have hIS := ints_row hO7 (standsI_length sh (k : Int)) (wf_stands (n := (k : Int)) (goodB_dims HG.out))
        simp only [Act.put, List.setIfInBounds_toArray, List.set_cons_zero, List.set_cons_succ] at hK
        go_simp
        go_at_call 41
        refine (rplace_any a b a7 c d c7 sh st off (data.length : Int) k w1 ((FK.out.next hb1).lw 1 rfl) hIS HV.out).mono ?_
        rintro e w2 ⟨rfl, hb⟩
        rw [HZ.out]
        (try go_wp2_with fail)
        first | exact hK.out _ _ hb rfl | (have hk := hK.out _ _ hb rfl; revert hk; go_simp)
      case po5x9 =>
        intro w1 hb1 hd KK hK
        have d2 : x2 = .slice (some ⟨gd, od, none⟩) data.length cd := hd 2 (by kernel_rfl)
        have d8 : x8 = .int .i64 (z : Int) := hd 8 (by kernel_rfl)
        clear hd
        subst d2
        subst d8
        simp only [Act.put, List.setIfInBounds_toArray, List.set_cons_zero, List.set_cons_succ] at hK
        go_simp
        first | exact hK.out _ _ (Below.refl _ _) rfl | (have hk := hK.out _ _ (Below.refl _ _) rfl; revert hk; go_simp)
      case po5x10 =>
        intro w1 hb1 hd KK hK
        have d9 : x9 = .pointer (some ⟨gd, od + z, none⟩) := hd 9 (by kernel_rfl)
        clear hd
        subst d9
        have hcx := (hb1.cell (p := ⟨gd, od + z, none⟩) (Nat.lt_of_lt_of_le hlb FK.out.hlo)).trans HCD.out
        simp only [Act.put, List.setIfInBounds_toArray, List.set_cons_zero, List.set_cons_succ] at hK
        go_simp
        first | exact hK.out _ _ (Below.refl _ _) rfl | (have hk := hK.out _ _ (Below.refl _ _) rfl; revert hk; go_simp)
      case po5x11 =>
        intro w1 hb1 hd KK hK
        have d10 : x10 = .int .i64 x := hd 10 (by kernel_rfl)
        clear hd
        subst d10
        simp only [Act.put, List.setIfInBounds_toArray, List.set_cons_zero, List.set_cons_succ] at hK
        go_simp
        first | exact hK.out _ _ ((Below.refl _ _).alloc (Nat.le_refl _) _) ⟨_, _, rfl, oneNew w1 x _⟩ | (have hk := hK.out _ _ ((Below.refl _ _).alloc (Nat.le_refl _) _) ⟨_, _, rfl, oneNew w1 x _⟩; revert hk; go_simp)
      case pfl5 => (intro f hf; cases hf)
      case pend5 =>
      intro w1 hb1 hR hD
      have d0 : x0 = .pointer (some ⟨Q, 1, none⟩) := hR 0 (by decide)
      have d1 : x1 = .slice al k cl := hR 1 (by decide)
      have d2 : x2 = .slice (some ⟨gd, od, none⟩) data.length cd := hR 2 (by decide)
      have d3 : x3 = .agg #[.slice a sh.length c, .slice b st.length d, .int .i64 off] := hR 3 (by decide)
      have d4 : x4 = .pointer (some ⟨w.heap.size, 0, none⟩) := hR 4 (by decide)
      have d5 : x5 = .slice a sh.length c := hR 5 (by decide)
      have d6 : x6 = .int .i64 (k : Int) := hR 6 (by decide)
      have d7 : (IsRow wk.heap.size 3 sh.length ((standsI sh (k : Int)).map (Value.int .i64))) x7 w1 := hR 7 (by decide)
      have d8 : x8 = .int .i64 (z : Int) := hR 8 (by decide)
      have d9 : x9 = .pointer (some ⟨gd, od + z, none⟩) := hR 9 (by decide)
      have d10 : x10 = .int .i64 x := hR 10 (by decide)
      have d11 : (IsOne x) x11 w1 := hR 11 (by decide)
      clear hR hD
      subst d0
      subst d1
      subst d2
      subst d3
      subst d4
      subst d5
      subst d6
      obtain ⟨a7, c7, rfl, hO7⟩ := d7
      subst d8
      subst d9
      subst d10
      obtain ⟨g11, c11, rfl, hO11⟩ := d11
      refine wpAny_ready (rs := [12]) (by kernel_rfl) (by simp) (AllReady.cons rfl (fun KK hK => ?_) AllReady.nil)
      have G3 := FK.out.next hb1
      refine stepApp1 24 2 infoI64 Try.underlying24 w.heap.size (.slice al k cl) k (WV.take k) x c11 ⟨g11, 0, none⟩ _ _ rfl rfl rfl (G3.r 1 rfl) rfl hO11 (by omega) G3.hlo ?_
      intro g3 c3 w3 hown hgr hob
      rw [← HSN.out] at hown
      have G4 := G3.wroteO 1 rfl hgr hown (fun g hg => by rcases hob with h | h; exact .inl (h.trans hg); exact .inr (by injection hg with hg; simp only at hg; omega))
      simp only [List.set_cons_zero, List.set_cons_succ] at G4
      clear hown hgr hob G3
      refine hK _ _ ?_
      clear hK KK
      try simp only [putAll, Act.put, List.setIfInBounds_toArray, List.set_cons_zero, List.set_cons_succ]
      refine wpAny_ready (rs := [13]) (by kernel_rfl) (by simp) (AllReady.cons rfl (fun KK hK => ?_) AllReady.nil)
      go_simp
      refine hK _ _ ?_
      clear hK KK
      try simp only [putAll, Act.put, List.setIfInBounds_toArray, List.set_cons_zero, List.set_cons_succ]
      refine wpAny_ready (rs := [14]) (by kernel_rfl) (by simp) (AllReady.cons rfl (fun KK hK => ?_) AllReady.nil)
      have q0 := G4.c 2 1 rfl rfl
      have q1 := G4.f 2 1 rfl rfl
      go_simp
      refine hK _ _ ?_
      clear hK KK
      try simp only [putAll, Act.put, List.setIfInBounds_toArray, List.set_cons_zero, List.set_cons_succ]
      refine wpAny_done (by kernel_rfl) ?_ _
      have G5 := Lib.hid (G4.setC 2 1 rfl (by simp) (.slice (some ⟨g3, 0, none⟩) (k + 1) c3))
      simp only [List.set_cons_zero, List.set_cons_succ] at G5
      obtain ⟨V9, hV9⟩ : ∃ V9, w3.setCell ⟨Q, 1, none⟩ (.slice (some ⟨g3, 0, none⟩) (k + 1) c3) = V9 := ⟨_, rfl⟩
      rw [hV9] at G5 ⊢
      clear hV9 G4 FK q0 q1 hb1 k0_0 k0_1 k0_2 k1_0 k1_1 k2_0 k2_1
      go_wp2
      go_roundw
      case rel => exact ⟨k + 1, by omega, by go_num, some ⟨g3, 0, none⟩, c3, G5⟩
      case measure => simp [intOf]; omega
    · obtain rfl : k = M := by omega
      have q1 := FK.out.f 1 0 rfl rfl
      have q2 := FK.out.f 1 1 rfl rfl
      go_wp2_with (go_at_call 15; refine (HCT.out _ (FK.out.lw 0 rfl)).mono ?_; rintro e w' ⟨rfl, rfl⟩)
      have FZ := FK.out.set 1 rfl (by simp) [.slice a9 sh.length c9, .slice al k cl] rfl
      simp only [setL, Nat.reduceAdd, List.set_cons_zero, List.set_cons_succ] at FZ
      have z0 := FZ.c 1 0 rfl rfl
      have z1 := FZ.c 1 1 rfl rfl
      have hp1 : WV.take k = WV := List.take_of_length_le (by rw [HWL.out]; exact Nat.le_refl _)
      rw [hp1] at FZ
      refine bodyPost_ret (v := .agg #[.slice a9 sh.length c9, .slice al k cl]) ?_ rfl ⟨a9, c9, al, cl, by rw [HWL.out], by rw [HWL.out]; exact FZ.rows⟩
      rw [results_cV rfl]
      go_simp
def RetVO (w : World) (sh st : List Int) (off : Int) (e : Ending) (w' : World) : Prop :=
  ∃ a c b d, e = .returned (.agg #[.slice a sh.length c, .slice b st.length d, .int .i64 off]) ∧ Fr w.heap.size w w' [] [] [⟨3, .slice a sh.length c, sh.length, sh.map (Value.int .i64)⟩, ⟨3, .slice b st.length d, st.length, st.map (Value.int .i64)⟩] []
/-- Numbers in the order of the axes. -/
def permL (xs axs : List Int) : List Int := axs.map fun i => xs[i.toNat]?.getD 0
theorem permL_len (xs axs : List Int) : (permL xs axs).length = axs.length := by simp [permL]
theorem permL_succ (xs axs : List Int) (k : Nat) (hk : k < axs.length) : permL xs (axs.take (k + 1)) = permL xs (axs.take k) ++ [xs[axs[k].toNat]?.getD 0] := by
  unfold permL
  rw [take_snoc axs k hk, List.map_append, List.map_cons, List.map_nil]
end Go.Proofs.Ytiofodpfjlcebaa
namespace Go.Proofs.Ytiofodpfjlcebaa
open Go.ChangeShapes Go.WideShapes Go.RowKit Go.Rt
/-- An element: a view, words, axes, a shape, three numbers, a tensor. -/
structure AskAt (w : World) (hi b0 o : Nat) (a b ad ax as_ tp tq : Option Addr) (c d cd cx cs cp cq : Nat) (sh st data axs ss tsh tys : List Int) (off p1 p2 p3 : Int) : Prop where
  lt : b0 < hi
  cell : ∀ j v, [.slice a sh.length c, .slice b st.length d, .int .i64 off, .slice ad data.length cd, .slice ax axs.length cx, .slice as_ ss.length cs, .int .i64 p1, .int .i64 p2, .int .i64 p3, .slice tp tsh.length cp, .slice tq tys.length cq][j]? = some v → w.cell? ⟨b0, o + j, none⟩ = some v
  iS : Ints .i64 w hi a sh
  iT : Ints .i64 w hi b st
  iD : Ints .i64 w hi ad data
  iX : Ints .i64 w hi ax axs
  iG : Ints .i64 w hi as_ ss
  iP : Ints .i64 w hi tp tsh
  iQ : Ints .i64 w hi tq tys
  r0 : -9223372036854775808 ≤ off ∧ off ≤ 9223372036854775807
  r1 : -9223372036854775808 ≤ p1 ∧ p1 ≤ 9223372036854775807
  r2 : -9223372036854775808 ≤ p2 ∧ p2 ≤ 9223372036854775807
  r3 : -9223372036854775808 ≤ p3 ∧ p3 ≤ 9223372036854775807
theorem AskAt.below {w w' : World} {hi b0 o : Nat} {a b ad ax as_ tp tq : Option Addr} {c d cd cx cs cp cq : Nat} {sh st data axs ss tsh tys : List Int} {off p1 p2 p3 : Int} (h : AskAt w hi b0 o a b ad ax as_ tp tq c d cd cx cs cp cq sh st data axs ss tsh tys off p1 p2 p3) (hb : Below hi w w') : AskAt w' hi b0 o a b ad ax as_ tp tq c d cd cx cs cp cq sh st data axs ss tsh tys off p1 p2 p3 :=
  ⟨h.lt, fun j v hv => (hb.cell (p := ⟨b0, o + j, none⟩) h.lt).trans (h.cell j v hv), h.iS.below hb (Nat.le_refl _), h.iT.below hb (Nat.le_refl _), h.iD.below hb (Nat.le_refl _), h.iX.below hb (Nat.le_refl _), h.iG.below hb (Nat.le_refl _), h.iP.below hb (Nat.le_refl _), h.iQ.below hb (Nat.le_refl _), h.r0, h.r1, h.r2, h.r3⟩
end Go.Proofs.Ytiofodpfjlcebaa
namespace Go.Proofs.Ytiofodpfjlcebaa
open Go.RowKit Go.Rt
set_option maxRecDepth 100000 in
theorem rof_any (a : Option Addr) (c : Nat) (sh : List Int) (w : World) (h : Ints .i64 w w.heap.size a sh) (hg : goodB sh = true) :
    Calls Try.prog 22 #[.slice a sh.length c] w (RetVO w sh (strI sh) 0) := by
  have h4 := (goodB_iff.1 hg).1
  have HH := Lib.hid h
  have HG := Lib.hid hg
  have HSL := Lib.hid (strI_length sh)
  clear h hg
  go_enter Try.func22, Try.ntmps22
  have F1 := Lib.hid ((Fr.start (w := w) (I := [(.i64, a, sh)]) (by intro z hz; simp at hz; subst hz; exact HH.out)).box1 (b := w.heap.size) rfl [.slice none 0 0, .slice none 0 0, .int .i64 0] 49)
  simp only [List.nil_append] at F1
  go_upto_region 1 with fail
  obtain ⟨W1, hW1⟩ : ∃ W1, (w.alloc (.cells #[.slice none 0 0, .slice none 0 0, .int .i64 0] 49)) = W1 := ⟨_, rfl⟩
  rw [hW1] at F1 ⊢
  clear hW1
  go_wp2_with (first | (go_at_call 40; refine (copyNumbers_any a c sh W1 (F1.out.lw 0 rfl) (by omega)).mono ?_; rintro e w2 ⟨v, rfl, hown, hb⟩; obtain ⟨a2, c2, rfl, _⟩ := own_shape hown; have F2 := Lib.hid (F1.out.addO hb hown); clear hown hb F1) | (go_at_call 39; refine (rstrides_any a c sh w2 (F2.out.lw 0 rfl) HG.out).mono ?_; rintro e w3 ⟨v, rfl, hown, hb⟩; obtain ⟨a3, c3, rfl, _⟩ := own_shape hown; rw [HSL.out] at hown ⊢; have F3 := Lib.hid (F2.out.addO hb hown); clear hown hb F2; simp only [List.nil_append, List.cons_append] at F3; have q0 := F3.out.c 0 0 rfl rfl; have q1 := F3.out.c 0 1 rfl rfl; have q2 := F3.out.c 0 2 rfl rfl; have f0 := F3.out.f 0 0 rfl rfl; have f1 := F3.out.f 0 1 rfl rfl; have f2 := F3.out.f 0 2 rfl rfl))
  have FZ := F3.out.set 0 rfl (by simp) [.slice a2 sh.length c2, .slice a3 sh.length c3, .int .i64 0] rfl
  simp only [setL, Nat.reduceAdd, List.set_cons_zero, List.set_cons_succ] at FZ
  have z0 := FZ.c 0 0 rfl rfl
  have z1 := FZ.c 0 1 rfl rfl
  have z2 := FZ.c 0 2 rfl rfl
  refine bodyPost_ret (v := .agg #[.slice a2 sh.length c2, .slice a3 sh.length c3, .int .i64 0]) ?_ rfl ⟨a2, c2, a3, c3, by rw [HSL.out], by rw [HSL.out]; exact FZ.rows⟩
  rw [results_cV rfl]
  go_simp
set_option maxRecDepth 100000 in
set_option maxHeartbeats 4000000 in
theorem rtrans_any (a b ax : Option Addr) (c d cx : Nat) (sh st axs : List Int) (off : Int) (w : World) (h : Ints .i64 w w.heap.size a sh) (h2 : Ints .i64 w w.heap.size b st) (h3 : Ints .i64 w w.heap.size ax axs) (h4 : sh.length ≤ 4) (hl2 : st.length = sh.length) (hx : axesB axs sh.length = true) :
    Calls Try.prog 21 #[.agg #[.slice a sh.length c, .slice b st.length d, .int .i64 off], .slice ax axs.length cx] w (RetVO w (permL sh axs) (permL st axs) off) := by
  have HA := Lib.hid h
  have HB := Lib.hid h2
  have HX := Lib.hid h3
  have HL2 := Lib.hid hl2
  have HON := Lib.hid (axesB_once.1 hx)
  have hxl := HON.out.len
  have hN4 : axs.length ≤ 4 := by omega
  clear h h2 h3 hx hxl hl2
  go_enter Try.func21, Try.ntmps21
  have F1 := Lib.hid (((Fr.start (w := w) (I := [(.i64, a, sh), (.i64, b, st), (.i64, ax, axs)]) (by intro z hz; simp at hz; rcases hz with rfl | rfl | rfl; exact HA.out; exact HB.out; exact HX.out)).box1 (b := w.heap.size) rfl [.slice a sh.length c, .slice b st.length d, .int .i64 off] 49).box1 (b := w.heap.size + 1) (by simp) [.slice none 0 0, .slice none 0 0, .int .i64 0] 49)
  simp only [List.nil_append, List.cons_append] at F1
  go_upto_region 1 with fail
  obtain ⟨W1, hW1⟩ : ∃ W1, ((w.alloc (.cells #[.slice a sh.length c, .slice b st.length d, .int .i64 off] 49)).alloc (.cells #[.slice none 0 0, .slice none 0 0, .int .i64 0] 49)) = W1 := ⟨_, rfl⟩
  rw [hW1] at F1 ⊢
  clear hW1
  have c0_0 := F1.out.c 0 0 rfl rfl
  have c0_1 := F1.out.c 0 1 rfl rfl
  have c0_2 := F1.out.c 0 2 rfl rfl
  go_upto_region 2 with fail
  obtain ⟨Q, hQ⟩ : ∃ x, W1.heap.size = x := ⟨_, rfl⟩
  rw [hQ]
  have F4 := Lib.hid (((F1.out.addNil 3).addNil 3).box1 (b := Q) hQ [.slice none 0 0, .slice none 0 0, .int .i64 off] 49)
  simp only [List.nil_append, List.cons_append] at F4
  obtain ⟨W4, hW4⟩ : ∃ x, (W1.alloc (.cells #[.slice none 0 0, .slice none 0 0, .int .i64 off] 49)) = x := ⟨_, rfl⟩
  rw [hW4] at F4 ⊢
  clear hW4 hQ F1 c0_0 c0_1 c0_2
  go_wp2
  go_loopw [6] (fun i wr => ∃ k : Nat, k ≤ axs.length ∧ i = .int .i64 k ∧ ∃ a1 c1 a2 c2, Hid (Fr w.heap.size w wr [(w.heap.size, [.slice a sh.length c, .slice b st.length d, .int .i64 off]), (w.heap.size + 1, [.slice none 0 0, .slice none 0 0, .int .i64 0]), (Q, [.slice a1 k c1, .slice a2 k c2, .int .i64 off])] [(.i64, a, sh), (.i64, b, st), (.i64, ax, axs)] [⟨3, .slice a1 k c1, k, (permL sh (axs.take k)).map (Value.int .i64)⟩, ⟨3, .slice a2 k c2, k, (permL st (axs.take k)).map (Value.int .i64)⟩] [])) (fun i _ => axs.length - (intOf i).toNat)
  case atStart => exact ⟨0, Nat.zero_le _, rfl, none, 0, none, 0, F4⟩
  case round =>
    clear F4
    obtain ⟨k, hk, rfl, a1, c1, a2, c2, FK⟩ := hrel
    obtain ⟨wk, rfl⟩ : ∃ wk : World, wk = wr := ⟨_, rfl⟩
    by_cases hlt : k < axs.length
    · skip
      have hbd := HON.out.bnd _ (List.getElem_mem hlt)
      have hp1 := permL_succ sh axs k hlt
      have hp2 := permL_succ st axs k hlt
      obtain ⟨_, _, hcX⟩ := FK.out.l 2 rfl
      obtain ⟨gx, ox, rfl, hlx, hcx⟩ := hcX k hlt
      rw [List.getElem?_eq_getElem hlt] at hcx
      simp only [Option.getD_some] at hcx
      obtain ⟨m, hm⟩ : ∃ m : Nat, axs[k] = m := ⟨axs[k].toNat, by omega⟩
      rw [hm] at hbd hp1 hp2 hcx
      rw [Int.toNat_natCast] at hp1 hp2
      have hmS : m < sh.length := by omega
      have hmT : m < st.length := by have := HL2.out; omega
      obtain ⟨_, _, hcA⟩ := FK.out.l 0 rfl
      obtain ⟨_, _, hcB⟩ := FK.out.l 1 rfl
      obtain ⟨ga, oa, rfl, hla, hca⟩ := hcA m hmS
      obtain ⟨gb, ob, rfl, hlb, hcb⟩ := hcB m hmT
      obtain ⟨x, hxe⟩ : ∃ x, sh[m]?.getD 0 = x := ⟨_, rfl⟩
      obtain ⟨y, hye⟩ : ∃ y, st[m]?.getD 0 = y := ⟨_, rfl⟩
      rw [hxe] at hca hp1
      rw [hye] at hcb hp2
      have HP1 := Lib.hid hp1
      have HP2 := Lib.hid hp2
      have HXW : Hid (w.cell? ⟨gx, ox + k, none⟩ = some (.int .i64 (m : Int))) := Lib.hid ((FK.out.bel.cell (p := ⟨gx, ox + k, none⟩) hlx).symm.trans hcx)
      have HCW : Hid (w.cell? ⟨ga, oa + m, none⟩ = some (.int .i64 x)) := Lib.hid ((FK.out.bel.cell (p := ⟨ga, oa + m, none⟩) hla).symm.trans hca)
      have HDW : Hid (w.cell? ⟨gb, ob + m, none⟩ = some (.int .i64 y)) := Lib.hid ((FK.out.bel.cell (p := ⟨gb, ob + m, none⟩) hlb).symm.trans hcb)
      clear hbd hp1 hp2 hcX hm hcA hcB hxe hye hca hcb hcx
      go_upto_region 5 with fail
      refine wp_region_parts2 (w := wk) 11 3 none [] [(fun u _ => u = .pointer (some ⟨Q, 0, none⟩)), (fun u _ => u = .slice a1 k c1), (fun u _ => u = .pointer (some ⟨w.heap.size, 0, none⟩)), (fun u _ => u = .slice (some ⟨ga, oa, none⟩) sh.length c), (fun u _ => u = .slice (some ⟨gx, ox, none⟩) axs.length cx), (fun u _ => u = .int .i64 (k : Int)), (fun u _ => u = .pointer (some ⟨gx, ox + k, none⟩)), (fun u _ => u = .int .i64 (m : Int)), (fun u _ => u = .pointer (some ⟨ga, oa + m, none⟩)), (fun u _ => u = .int .i64 x), ((IsOne x))] [some 16, some 17, some 18, some 19, some 20, some 21, some 22, some 23, some 24, some 25, some 26, some 27, some 28, none] #[true, true, true, true, true, true, true, true, true, true, true, false, false, false] #[true, true, true, true, true, true, true, true, true, true, true, false, false, false] (by kernel_rfl) rfl (by kernel_rfl) (by kernel_rfl) rfl (by kernel_rfl) (by kernel_rfl) (.cons (carries_eq _) (.cons (carries_eq _) (.cons (carries_eq _) (.cons (carries_eq _) (.cons (carries_eq _) (.cons (carries_eq _) (.cons (carries_eq _) (.cons (carries_eq _) (.cons (carries_eq _) (.cons (carries_eq _) (.cons (isOne_carries _) .nil))))))))))) (fun vs b hvl hvb => ?_)
      obtain ⟨x0, x1, x2, x3, x4, x5, x6, x7, x8, x9, x10, x11, x12, x13, rfl⟩ : ∃ x0 x1 x2 x3 x4 x5 x6 x7 x8 x9 x10 x11 x12 x13, vs = [x0, x1, x2, x3, x4, x5, x6, x7, x8, x9, x10, x11, x12, x13] := lst14 hvl
      clear hvl
      simp only [putAll, Act.put, List.setIfInBounds_toArray, List.set_cons_zero, List.set_cons_succ] at hvb
      subst hvb
      refine ⟨(.snoc (.snoc (.snoc (.snoc (.snoc (.snoc (.snoc (.snoc (.snoc (.snoc (.snoc .zero (PartOb.intro (d := (some 16)) (r := fun u _ => u = .pointer (some ⟨Q, 0, none⟩)) rfl rfl rfl rfl ?po5x0)) (PartOb.intro (d := (some 17)) (r := fun u _ => u = .slice a1 k c1) rfl rfl rfl rfl ?po5x1)) (PartOb.intro (d := (some 18)) (r := fun u _ => u = .pointer (some ⟨w.heap.size, 0, none⟩)) rfl rfl rfl rfl ?po5x2)) (PartOb.intro (d := (some 19)) (r := fun u _ => u = .slice (some ⟨ga, oa, none⟩) sh.length c) rfl rfl rfl rfl ?po5x3)) (PartOb.intro (d := (some 20)) (r := fun u _ => u = .slice (some ⟨gx, ox, none⟩) axs.length cx) rfl rfl rfl rfl ?po5x4)) (PartOb.intro (d := (some 21)) (r := fun u _ => u = .int .i64 (k : Int)) rfl rfl rfl rfl ?po5x5)) (PartOb.intro (d := (some 22)) (r := fun u _ => u = .pointer (some ⟨gx, ox + k, none⟩)) rfl rfl rfl rfl ?po5x6)) (PartOb.intro (d := (some 23)) (r := fun u _ => u = .int .i64 (m : Int)) rfl rfl rfl rfl ?po5x7)) (PartOb.intro (d := (some 24)) (r := fun u _ => u = .pointer (some ⟨ga, oa + m, none⟩)) rfl rfl rfl rfl ?po5x8)) (PartOb.intro (d := (some 25)) (r := fun u _ => u = .int .i64 x) rfl rfl rfl rfl ?po5x9)) (PartOb.intro (d := (some 26)) (r := (IsOne x)) rfl rfl rfl rfl ?po5x10)), ?pend5, ?pfl5⟩
      case po5x0 =>
        intro w1 hb1 hd KK hK
        clear hd
        simp only [Act.put, List.setIfInBounds_toArray, List.set_cons_zero, List.set_cons_succ] at hK
        go_simp
        first | exact hK.out _ _ (Below.refl _ _) rfl | (have hk := hK.out _ _ (Below.refl _ _) rfl; revert hk; go_simp)
      case po5x1 =>
        intro w1 hb1 hd KK hK
        have d0 : x0 = .pointer (some ⟨Q, 0, none⟩) := hd 0 (by kernel_rfl)
        clear hd
        subst d0
        have hF := FK.out.next hb1
        have k0 := hF.c 2 0 rfl rfl
        simp only [Act.put, List.setIfInBounds_toArray, List.set_cons_zero, List.set_cons_succ] at hK
        go_simp
        first | exact hK.out _ _ (Below.refl _ _) rfl | (have hk := hK.out _ _ (Below.refl _ _) rfl; revert hk; go_simp)
      case po5x2 =>
        intro w1 hb1 hd KK hK
        clear hd
        simp only [Act.put, List.setIfInBounds_toArray, List.set_cons_zero, List.set_cons_succ] at hK
        go_simp
        first | exact hK.out _ _ (Below.refl _ _) rfl | (have hk := hK.out _ _ (Below.refl _ _) rfl; revert hk; go_simp)
      case po5x3 =>
        intro w1 hb1 hd KK hK
        have d2 : x2 = .pointer (some ⟨w.heap.size, 0, none⟩) := hd 2 (by kernel_rfl)
        clear hd
        subst d2
        have hF := FK.out.next hb1
        have k0 := hF.c 0 0 rfl rfl
        simp only [Act.put, List.setIfInBounds_toArray, List.set_cons_zero, List.set_cons_succ] at hK
        go_simp
        first | exact hK.out _ _ (Below.refl _ _) rfl | (have hk := hK.out _ _ (Below.refl _ _) rfl; revert hk; go_simp)
      case po5x4 =>
        intro w1 hb1 hd KK hK
        clear hd
        simp only [Act.put, List.setIfInBounds_toArray, List.set_cons_zero, List.set_cons_succ] at hK
        go_simp
        first | exact hK.out _ _ (Below.refl _ _) rfl | (have hk := hK.out _ _ (Below.refl _ _) rfl; revert hk; go_simp)
      case po5x5 =>
        intro w1 hb1 hd KK hK
        clear hd
        simp only [Act.put, List.setIfInBounds_toArray, List.set_cons_zero, List.set_cons_succ] at hK
        go_simp
        first | exact hK.out _ _ (Below.refl _ _) rfl | (have hk := hK.out _ _ (Below.refl _ _) rfl; revert hk; go_simp)
      case po5x6 =>
        intro w1 hb1 hd KK hK
        have d4 : x4 = .slice (some ⟨gx, ox, none⟩) axs.length cx := hd 4 (by kernel_rfl)
        have d5 : x5 = .int .i64 (k : Int) := hd 5 (by kernel_rfl)
        clear hd
        subst d4
        subst d5
        simp only [Act.put, List.setIfInBounds_toArray, List.set_cons_zero, List.set_cons_succ] at hK
        go_simp
        first | exact hK.out _ _ (Below.refl _ _) rfl | (have hk := hK.out _ _ (Below.refl _ _) rfl; revert hk; go_simp)
      case po5x7 =>
        intro w1 hb1 hd KK hK
        have d6 : x6 = .pointer (some ⟨gx, ox + k, none⟩) := hd 6 (by kernel_rfl)
        clear hd
        subst d6
        have hc9 := ((FK.out.next hb1).bel.cell (p := ⟨gx, ox + k, none⟩) hlx).trans HXW.out
        simp only [Act.put, List.setIfInBounds_toArray, List.set_cons_zero, List.set_cons_succ] at hK
        go_simp
        first | exact hK.out _ _ (Below.refl _ _) rfl | (have hk := hK.out _ _ (Below.refl _ _) rfl; revert hk; go_simp)
      case po5x8 =>
        intro w1 hb1 hd KK hK
        have d3 : x3 = .slice (some ⟨ga, oa, none⟩) sh.length c := hd 3 (by kernel_rfl)
        have d7 : x7 = .int .i64 (m : Int) := hd 7 (by kernel_rfl)
        clear hd
        subst d3
        subst d7
        simp only [Act.put, List.setIfInBounds_toArray, List.set_cons_zero, List.set_cons_succ] at hK
        go_simp
        first | exact hK.out _ _ (Below.refl _ _) rfl | (have hk := hK.out _ _ (Below.refl _ _) rfl; revert hk; go_simp)
      case po5x9 =>
        intro w1 hb1 hd KK hK
        have d8 : x8 = .pointer (some ⟨ga, oa + m, none⟩) := hd 8 (by kernel_rfl)
        clear hd
        subst d8
        have hc9 := ((FK.out.next hb1).bel.cell (p := ⟨ga, oa + m, none⟩) hla).trans HCW.out
        simp only [Act.put, List.setIfInBounds_toArray, List.set_cons_zero, List.set_cons_succ] at hK
        go_simp
        first | exact hK.out _ _ (Below.refl _ _) rfl | (have hk := hK.out _ _ (Below.refl _ _) rfl; revert hk; go_simp)
      case po5x10 =>
        intro w1 hb1 hd KK hK
        have d9 : x9 = .int .i64 x := hd 9 (by kernel_rfl)
        clear hd
        subst d9
        simp only [Act.put, List.setIfInBounds_toArray, List.set_cons_zero, List.set_cons_succ] at hK
        go_simp
        first | exact hK.out _ _ ((Below.refl _ _).alloc (Nat.le_refl _) _) ⟨_, _, rfl, oneNew w1 x _⟩ | (have hk := hK.out _ _ ((Below.refl _ _).alloc (Nat.le_refl _) _) ⟨_, _, rfl, oneNew w1 x _⟩; revert hk; go_simp)
      case pfl5 => (intro f hf; cases hf)
      case pend5 =>
      intro w1 hb1 hR hD
      have d0 : x0 = .pointer (some ⟨Q, 0, none⟩) := hR 0 (by decide)
      have d1 : x1 = .slice a1 k c1 := hR 1 (by decide)
      have d2 : x2 = .pointer (some ⟨w.heap.size, 0, none⟩) := hR 2 (by decide)
      have d3 : x3 = .slice (some ⟨ga, oa, none⟩) sh.length c := hR 3 (by decide)
      have d4 : x4 = .slice (some ⟨gx, ox, none⟩) axs.length cx := hR 4 (by decide)
      have d5 : x5 = .int .i64 (k : Int) := hR 5 (by decide)
      have d6 : x6 = .pointer (some ⟨gx, ox + k, none⟩) := hR 6 (by decide)
      have d7 : x7 = .int .i64 (m : Int) := hR 7 (by decide)
      have d8 : x8 = .pointer (some ⟨ga, oa + m, none⟩) := hR 8 (by decide)
      have d9 : x9 = .int .i64 x := hR 9 (by decide)
      have d10 : (IsOne x) x10 w1 := hR 10 (by decide)
      clear hR hD
      subst d0
      subst d1
      subst d2
      subst d3
      subst d4
      subst d5
      subst d6
      subst d7
      subst d8
      subst d9
      obtain ⟨g10, c10, rfl, hO10⟩ := d10
      refine wpAny_ready (rs := [11]) (by kernel_rfl) (by simp) (AllReady.cons rfl (fun KK hK => ?_) AllReady.nil)
      have G3 := FK.out.next hb1
      refine stepApp1 23 3 infoInt Try.underlying23 w.heap.size (.slice a1 k c1) k (permL sh (axs.take k)) x c10 ⟨g10, 0, none⟩ _ _ rfl rfl rfl (G3.r 0 rfl) rfl hO10 (by omega) G3.hlo ?_
      intro g8 c8 w3 hown hgr hob
      rw [← HP1.out] at hown
      have G4 := G3.wroteO 0 rfl hgr hown (fun g hg => by rcases hob with h | h; exact .inl (h.trans hg); exact .inr (by injection hg with hg; simp only at hg; omega))
      simp only [List.set_cons_zero, List.set_cons_succ] at G4
      clear hown hgr hob G3
      refine hK _ _ ?_
      clear hK KK
      try simp only [putAll, Act.put, List.setIfInBounds_toArray, List.set_cons_zero, List.set_cons_succ]
      refine wpAny_ready (rs := [12]) (by kernel_rfl) (by simp) (AllReady.cons rfl (fun KK hK => ?_) AllReady.nil)
      go_simp
      refine hK _ _ ?_
      clear hK KK
      try simp only [putAll, Act.put, List.setIfInBounds_toArray, List.set_cons_zero, List.set_cons_succ]
      refine wpAny_ready (rs := [13]) (by kernel_rfl) (by simp) (AllReady.cons rfl (fun KK hK => ?_) AllReady.nil)
      have q0 := G4.c 2 0 rfl rfl
      have q1 := G4.f 2 0 rfl rfl
      go_simp
      refine hK _ _ ?_
      clear hK KK
      try simp only [putAll, Act.put, List.setIfInBounds_toArray, List.set_cons_zero, List.set_cons_succ]
      refine wpAny_done (by kernel_rfl) ?_ _
      have G5 := Lib.hid (G4.setC 2 0 rfl (by simp) (.slice (some ⟨g8, 0, none⟩) (k + 1) c8))
      simp only [List.set_cons_zero, List.set_cons_succ] at G5
      obtain ⟨V5, hV5⟩ : ∃ zz, w3.setCell ⟨Q, 0, none⟩ (.slice (some ⟨g8, 0, none⟩) (k + 1) c8) = zz := ⟨_, rfl⟩
      rw [hV5] at G5 ⊢
      clear hV5 G4 q0 q1 hb1 FK
      go_upto_region 6 with fail
      refine wp_region_parts2 (w := V5) 11 3 none [] [(fun u _ => u = .pointer (some ⟨Q, 1, none⟩)), (fun u _ => u = .slice a2 k c2), (fun u _ => u = .pointer (some ⟨w.heap.size, 1, none⟩)), (fun u _ => u = .slice (some ⟨gb, ob, none⟩) st.length d), (fun u _ => u = .slice (some ⟨gx, ox, none⟩) axs.length cx), (fun u _ => u = .int .i64 (k : Int)), (fun u _ => u = .pointer (some ⟨gx, ox + k, none⟩)), (fun u _ => u = .int .i64 (m : Int)), (fun u _ => u = .pointer (some ⟨gb, ob + m, none⟩)), (fun u _ => u = .int .i64 y), ((IsOne y))] [some 29, some 30, some 31, some 32, some 33, some 34, some 35, some 36, some 37, some 38, some 39, some 40, some 41, none] #[true, true, true, true, true, true, true, true, true, true, true, false, false, false] #[true, true, true, true, true, true, true, true, true, true, true, false, false, false] (by kernel_rfl) rfl (by kernel_rfl) (by kernel_rfl) rfl (by kernel_rfl) (by kernel_rfl) (.cons (carries_eq _) (.cons (carries_eq _) (.cons (carries_eq _) (.cons (carries_eq _) (.cons (carries_eq _) (.cons (carries_eq _) (.cons (carries_eq _) (.cons (carries_eq _) (.cons (carries_eq _) (.cons (carries_eq _) (.cons (isOne_carries _) .nil))))))))))) (fun vs b hvl hvb => ?_)
      obtain ⟨x0, x1, x2, x3, x4, x5, x6, x7, x8, x9, x10, x11, x12, x13, rfl⟩ : ∃ x0 x1 x2 x3 x4 x5 x6 x7 x8 x9 x10 x11 x12 x13, vs = [x0, x1, x2, x3, x4, x5, x6, x7, x8, x9, x10, x11, x12, x13] := lst14 hvl
      clear hvl
      simp only [putAll, Act.put, List.setIfInBounds_toArray, List.set_cons_zero, List.set_cons_succ] at hvb
      subst hvb
      refine ⟨(.snoc (.snoc (.snoc (.snoc (.snoc (.snoc (.snoc (.snoc (.snoc (.snoc (.snoc .zero (PartOb.intro (d := (some 29)) (r := fun u _ => u = .pointer (some ⟨Q, 1, none⟩)) rfl rfl rfl rfl ?po6x0)) (PartOb.intro (d := (some 30)) (r := fun u _ => u = .slice a2 k c2) rfl rfl rfl rfl ?po6x1)) (PartOb.intro (d := (some 31)) (r := fun u _ => u = .pointer (some ⟨w.heap.size, 1, none⟩)) rfl rfl rfl rfl ?po6x2)) (PartOb.intro (d := (some 32)) (r := fun u _ => u = .slice (some ⟨gb, ob, none⟩) st.length d) rfl rfl rfl rfl ?po6x3)) (PartOb.intro (d := (some 33)) (r := fun u _ => u = .slice (some ⟨gx, ox, none⟩) axs.length cx) rfl rfl rfl rfl ?po6x4)) (PartOb.intro (d := (some 34)) (r := fun u _ => u = .int .i64 (k : Int)) rfl rfl rfl rfl ?po6x5)) (PartOb.intro (d := (some 35)) (r := fun u _ => u = .pointer (some ⟨gx, ox + k, none⟩)) rfl rfl rfl rfl ?po6x6)) (PartOb.intro (d := (some 36)) (r := fun u _ => u = .int .i64 (m : Int)) rfl rfl rfl rfl ?po6x7)) (PartOb.intro (d := (some 37)) (r := fun u _ => u = .pointer (some ⟨gb, ob + m, none⟩)) rfl rfl rfl rfl ?po6x8)) (PartOb.intro (d := (some 38)) (r := fun u _ => u = .int .i64 y) rfl rfl rfl rfl ?po6x9)) (PartOb.intro (d := (some 39)) (r := (IsOne y)) rfl rfl rfl rfl ?po6x10)), ?pend6, ?pfl6⟩
      case po6x0 =>
        intro w1 hb1 hd KK hK
        clear hd
        simp only [Act.put, List.setIfInBounds_toArray, List.set_cons_zero, List.set_cons_succ] at hK
        go_simp
        first | exact hK.out _ _ (Below.refl _ _) rfl | (have hk := hK.out _ _ (Below.refl _ _) rfl; revert hk; go_simp)
      case po6x1 =>
        intro w1 hb1 hd KK hK
        have d0 : x0 = .pointer (some ⟨Q, 1, none⟩) := hd 0 (by kernel_rfl)
        clear hd
        subst d0
        have hF := G5.out.next hb1
        have k1 := hF.c 2 1 rfl rfl
        simp only [Act.put, List.setIfInBounds_toArray, List.set_cons_zero, List.set_cons_succ] at hK
        go_simp
        first | exact hK.out _ _ (Below.refl _ _) rfl | (have hk := hK.out _ _ (Below.refl _ _) rfl; revert hk; go_simp)
      case po6x2 =>
        intro w1 hb1 hd KK hK
        clear hd
        simp only [Act.put, List.setIfInBounds_toArray, List.set_cons_zero, List.set_cons_succ] at hK
        go_simp
        first | exact hK.out _ _ (Below.refl _ _) rfl | (have hk := hK.out _ _ (Below.refl _ _) rfl; revert hk; go_simp)
      case po6x3 =>
        intro w1 hb1 hd KK hK
        have d2 : x2 = .pointer (some ⟨w.heap.size, 1, none⟩) := hd 2 (by kernel_rfl)
        clear hd
        subst d2
        have hF := G5.out.next hb1
        have k1 := hF.c 0 1 rfl rfl
        simp only [Act.put, List.setIfInBounds_toArray, List.set_cons_zero, List.set_cons_succ] at hK
        go_simp
        first | exact hK.out _ _ (Below.refl _ _) rfl | (have hk := hK.out _ _ (Below.refl _ _) rfl; revert hk; go_simp)
      case po6x4 =>
        intro w1 hb1 hd KK hK
        clear hd
        simp only [Act.put, List.setIfInBounds_toArray, List.set_cons_zero, List.set_cons_succ] at hK
        go_simp
        first | exact hK.out _ _ (Below.refl _ _) rfl | (have hk := hK.out _ _ (Below.refl _ _) rfl; revert hk; go_simp)
      case po6x5 =>
        intro w1 hb1 hd KK hK
        clear hd
        simp only [Act.put, List.setIfInBounds_toArray, List.set_cons_zero, List.set_cons_succ] at hK
        go_simp
        first | exact hK.out _ _ (Below.refl _ _) rfl | (have hk := hK.out _ _ (Below.refl _ _) rfl; revert hk; go_simp)
      case po6x6 =>
        intro w1 hb1 hd KK hK
        have d4 : x4 = .slice (some ⟨gx, ox, none⟩) axs.length cx := hd 4 (by kernel_rfl)
        have d5 : x5 = .int .i64 (k : Int) := hd 5 (by kernel_rfl)
        clear hd
        subst d4
        subst d5
        simp only [Act.put, List.setIfInBounds_toArray, List.set_cons_zero, List.set_cons_succ] at hK
        go_simp
        first | exact hK.out _ _ (Below.refl _ _) rfl | (have hk := hK.out _ _ (Below.refl _ _) rfl; revert hk; go_simp)
      case po6x7 =>
        intro w1 hb1 hd KK hK
        have d6 : x6 = .pointer (some ⟨gx, ox + k, none⟩) := hd 6 (by kernel_rfl)
        clear hd
        subst d6
        have hc9 := ((G5.out.next hb1).bel.cell (p := ⟨gx, ox + k, none⟩) hlx).trans HXW.out
        simp only [Act.put, List.setIfInBounds_toArray, List.set_cons_zero, List.set_cons_succ] at hK
        go_simp
        first | exact hK.out _ _ (Below.refl _ _) rfl | (have hk := hK.out _ _ (Below.refl _ _) rfl; revert hk; go_simp)
      case po6x8 =>
        intro w1 hb1 hd KK hK
        have d3 : x3 = .slice (some ⟨gb, ob, none⟩) st.length d := hd 3 (by kernel_rfl)
        have d7 : x7 = .int .i64 (m : Int) := hd 7 (by kernel_rfl)
        clear hd
        subst d3
        subst d7
        simp only [Act.put, List.setIfInBounds_toArray, List.set_cons_zero, List.set_cons_succ] at hK
        go_simp
        first | exact hK.out _ _ (Below.refl _ _) rfl | (have hk := hK.out _ _ (Below.refl _ _) rfl; revert hk; go_simp)
      case po6x9 =>
        intro w1 hb1 hd KK hK
        have d8 : x8 = .pointer (some ⟨gb, ob + m, none⟩) := hd 8 (by kernel_rfl)
        clear hd
        subst d8
        have hc9 := ((G5.out.next hb1).bel.cell (p := ⟨gb, ob + m, none⟩) hlb).trans HDW.out
        simp only [Act.put, List.setIfInBounds_toArray, List.set_cons_zero, List.set_cons_succ] at hK
        go_simp
        first | exact hK.out _ _ (Below.refl _ _) rfl | (have hk := hK.out _ _ (Below.refl _ _) rfl; revert hk; go_simp)
      case po6x10 =>
        intro w1 hb1 hd KK hK
        have d9 : x9 = .int .i64 y := hd 9 (by kernel_rfl)
        clear hd
        subst d9
        simp only [Act.put, List.setIfInBounds_toArray, List.set_cons_zero, List.set_cons_succ] at hK
        go_simp
        first | exact hK.out _ _ ((Below.refl _ _).alloc (Nat.le_refl _) _) ⟨_, _, rfl, oneNew w1 y _⟩ | (have hk := hK.out _ _ ((Below.refl _ _).alloc (Nat.le_refl _) _) ⟨_, _, rfl, oneNew w1 y _⟩; revert hk; go_simp)
      case pfl6 => (intro f hf; cases hf)
      case pend6 =>
      intro w1 hb1 hR hD
      have d0 : x0 = .pointer (some ⟨Q, 1, none⟩) := hR 0 (by decide)
      have d1 : x1 = .slice a2 k c2 := hR 1 (by decide)
      have d2 : x2 = .pointer (some ⟨w.heap.size, 1, none⟩) := hR 2 (by decide)
      have d3 : x3 = .slice (some ⟨gb, ob, none⟩) st.length d := hR 3 (by decide)
      have d4 : x4 = .slice (some ⟨gx, ox, none⟩) axs.length cx := hR 4 (by decide)
      have d5 : x5 = .int .i64 (k : Int) := hR 5 (by decide)
      have d6 : x6 = .pointer (some ⟨gx, ox + k, none⟩) := hR 6 (by decide)
      have d7 : x7 = .int .i64 (m : Int) := hR 7 (by decide)
      have d8 : x8 = .pointer (some ⟨gb, ob + m, none⟩) := hR 8 (by decide)
      have d9 : x9 = .int .i64 y := hR 9 (by decide)
      have d10 : (IsOne y) x10 w1 := hR 10 (by decide)
      clear hR hD
      subst d0
      subst d1
      subst d2
      subst d3
      subst d4
      subst d5
      subst d6
      subst d7
      subst d8
      subst d9
      obtain ⟨g10, c10, rfl, hO10⟩ := d10
      refine wpAny_ready (rs := [11]) (by kernel_rfl) (by simp) (AllReady.cons rfl (fun KK hK => ?_) AllReady.nil)
      have G3 := G5.out.next hb1
      refine stepApp1 23 3 infoInt Try.underlying23 w.heap.size (.slice a2 k c2) k (permL st (axs.take k)) y c10 ⟨g10, 0, none⟩ _ _ rfl rfl rfl (G3.r 1 rfl) rfl hO10 (by omega) G3.hlo ?_
      intro g17 c17 w3 hown hgr hob
      rw [← HP2.out] at hown
      have G4 := G3.wroteO 1 rfl hgr hown (fun g hg => by rcases hob with h | h; exact .inl (h.trans hg); exact .inr (by injection hg with hg; simp only at hg; omega))
      simp only [List.set_cons_zero, List.set_cons_succ] at G4
      clear hown hgr hob G3
      refine hK _ _ ?_
      clear hK KK
      try simp only [putAll, Act.put, List.setIfInBounds_toArray, List.set_cons_zero, List.set_cons_succ]
      refine wpAny_ready (rs := [12]) (by kernel_rfl) (by simp) (AllReady.cons rfl (fun KK hK => ?_) AllReady.nil)
      go_simp
      refine hK _ _ ?_
      clear hK KK
      try simp only [putAll, Act.put, List.setIfInBounds_toArray, List.set_cons_zero, List.set_cons_succ]
      refine wpAny_ready (rs := [13]) (by kernel_rfl) (by simp) (AllReady.cons rfl (fun KK hK => ?_) AllReady.nil)
      have q0 := G4.c 2 1 rfl rfl
      have q1 := G4.f 2 1 rfl rfl
      go_simp
      refine hK _ _ ?_
      clear hK KK
      try simp only [putAll, Act.put, List.setIfInBounds_toArray, List.set_cons_zero, List.set_cons_succ]
      refine wpAny_done (by kernel_rfl) ?_ _
      have G6 := Lib.hid (G4.setC 2 1 rfl (by simp) (.slice (some ⟨g17, 0, none⟩) (k + 1) c17))
      simp only [List.set_cons_zero, List.set_cons_succ] at G6
      obtain ⟨V6, hV6⟩ : ∃ zz, w3.setCell ⟨Q, 1, none⟩ (.slice (some ⟨g17, 0, none⟩) (k + 1) c17) = zz := ⟨_, rfl⟩
      rw [hV6] at G6 ⊢
      clear hV6 G4 q0 q1 hb1 G5
      go_wp2
      go_roundw
      case rel => exact ⟨k + 1, by omega, by go_num, some ⟨g8, 0, none⟩, c8, some ⟨g17, 0, none⟩, c17, G6⟩
      case measure => simp [intOf]; omega
    · obtain rfl : k = axs.length := by omega
      have z1_0 := FK.out.c 1 0 rfl rfl
      have z1_1 := FK.out.c 1 1 rfl rfl
      have z1_2 := FK.out.c 1 2 rfl rfl
      have z2_0 := FK.out.c 2 0 rfl rfl
      have z2_1 := FK.out.c 2 1 rfl rfl
      have z2_2 := FK.out.c 2 2 rfl rfl
      have zf1_0 := FK.out.f 1 0 rfl rfl
      have zf1_1 := FK.out.f 1 1 rfl rfl
      have zf1_2 := FK.out.f 1 2 rfl rfl
      go_wp2
      have FZ := FK.out.set 1 rfl (by simp) [.slice a1 axs.length c1, .slice a2 axs.length c2, .int .i64 off] rfl
      simp only [setL, Nat.reduceAdd, List.set_cons_zero, List.set_cons_succ, List.take_length] at FZ
      have y0 := FZ.c 1 0 rfl rfl
      have y1 := FZ.c 1 1 rfl rfl
      have y2 := FZ.c 1 2 rfl rfl
      refine bodyPost_ret (v := .agg #[.slice a1 axs.length c1, .slice a2 axs.length c2, .int .i64 off]) ?_ rfl ⟨a1, c1, a2, c2, by rw [permL_len, permL_len], by rw [permL_len, permL_len]; exact FZ.rows⟩
      rw [results_cV rfl]
      go_simp
set_option maxHeartbeats 400000 in
theorem rindex_any (a a2 : Option Addr) (c c2 : Nat) (xs is : List Int) (w : World) (h : Ints .i64 w w.heap.size a xs) (h2 : Ints .i64 w w.heap.size a2 is) (hg : goodB xs = true) (hw : withinB xs is = true) :
    Calls Try.prog 38 #[.slice a xs.length c, .slice a2 is.length c2] w fun e w' => e = .returned (.int .i64 (placeI xs is)) ∧ Below w.heap.size w w' := by
  have hm := h.len
  have H := Lib.hid (rstrides_any a c xs w h hg)
  have hD := goodB_dims hg
  obtain ⟨hP1, hP⟩ := goodB_prod hg
  have HL := Lib.hid (withinB_length hw)
  have HSL := Lib.hid (strI_length xs)
  have HW := Lib.hid hw
  clear hg hw
  go_enter Try.func38, Try.ntmps38
  go_wp2_with fail
  refine H.out.mono ?_
  intro e w1 hr
  obtain ⟨a3, c3, rfl, hi3, hb1, _⟩ := hr.ints (wf_dims (fun x hx => by have := strI_mem hD hP x hx; omega))
  obtain ⟨hm3, _, hc3⟩ := hi3
  obtain ⟨_, _, hc2⟩ := h2.below hb1 (Nat.le_refl _)
  have HB := Lib.hid hb1
  clear hb1 h h2 hr H
  go_wp2
  go_loopw [6, 7] (fun n i wr => ∃ k : Nat, k ≤ xs.length ∧ i = .int .i64 k ∧ n = .int .i64 (dotI (is.take k) ((strI xs).take k)) ∧ ∃ q, wr = w1.drewN q) (fun _ i _ => xs.length - (intOf i).toNat)
  case atStart => exact ⟨0, Nat.zero_le _, rfl, by simp [dotI], 0, rfl⟩
  case round =>
    obtain ⟨k, hk, rfl, rfl, q, rfl⟩ := hrel
    by_cases hlt : k < xs.length
    · have hlt2 : k < is.length := by have := HL.out; omega
      have hlt3 : k < (strI xs).length := by have := HSL.out; omega
      obtain ⟨b2, off2, rfl, _, hcell2⟩ := hc2 k hlt2
      obtain ⟨b3, off3, rfl, _, hcell3⟩ := hc3 k hlt3
      clear hc2 hc3
      rw [List.getElem?_eq_getElem hlt2] at hcell2
      rw [List.getElem?_eq_getElem hlt3] at hcell3
      simp only [Option.getD_some] at hcell2 hcell3
      have HS := Lib.hid (dotI_take_succ is (strI xs) k hlt2 (by rw [HSL.out, HL.out]))
      have hb1 := dot_bound xs is hD HW.out k hk
      have hb2 := dot_bound xs is hD HW.out (k + 1) (by omega)
      rw [HS.out] at hb2
      obtain ⟨hb1a, hb1b⟩ := hb1
      obtain ⟨hb2a, hb2b⟩ := hb2
      have hwr1 : IntKind.i64.wrap (is[k] * (strI xs)[k]) = is[k] * (strI xs)[k] := IntWalk.i64_in _ (by omega)
      have hwr2 : IntKind.i64.wrap (dotI (is.take k) ((strI xs).take k) + is[k] * (strI xs)[k]) = dotI (is.take k) ((strI xs).take k) + is[k] * (strI xs)[k] := IntWalk.i64_in _ (by omega)
      go_wp2
      go_quiet (fail)
      clear hwr1 hwr2
      go_wp2
      go_roundw
      case rel => exact ⟨k + 1, by omega, by go_num, by rw [HS.out], _, by first | rfl | exact World.drewN_drewN _ _ _⟩
      case measure => simp [intOf]; omega
    · have hke : k = xs.length := by omega
      subst hke
      have HX : Hid (dotI (is.take xs.length) ((strI xs).take xs.length) = placeI xs is) := by
        have e1 : is.take xs.length = is := by rw [← HL.out]; exact List.take_length
        have e2 : (strI xs).take xs.length = strI xs := by rw [← HSL.out]; exact List.take_length
        rw [e1, e2, dotI_str xs is HL.out]; rfl
      go_wp2
      go_ret
      exact ⟨ret_int HX.out, below_drewN HB.out _⟩
theorem within0_any (i n : Int) (w : World) (hi : -9223372036854775808 ≤ i ∧ i ≤ 9223372036854775807) (h1 : 1 ≤ n) (h2 : n ≤ 9223372036854775807) :
    Calls Try.prog 13 #[.int .i64 i, .int .i64 n] w fun e w' => e = .returned (.int .i64 (withinN i n)) ∧ w = w' := by
  have hb := withinN_bound i n h1
  go_enter Try.func13, Try.ntmps13
  go_wp2
  go_ret
  refine ⟨ret_int ?_, rfl⟩
  have e : (IntKind.u64.wrap i).tmod n = withinN i n := by
    unfold withinN
    rw [IntKind.wrap_u64, Int.tmod_eq_emod_of_nonneg (Int.emod_nonneg _ (by omega))]
  show wrap64 ((IntKind.u64.wrap i).tmod n) = withinN i n
  rw [e]
  exact IntWalk.wrap64_in _ ⟨by omega, by omega⟩
end Go.Proofs.Ytiofodpfjlcebaa
namespace Go.Rt
open Go.RowKit
def hasB (l : List Int) (n : Int) : Bool := l.contains n
end Go.Rt
namespace Go.Proofs.Ytiofodpfjlcebaa
open Go.RowKit Go.Rt
variable {P : Program}
set_option maxHeartbeats 400000 in
theorem in_any (a : Option Addr) (c hi : Nat) (xs : List Int) (n : Int) (w : World) (h : Ints .i64 w hi a xs) :
    Calls Try.prog 37 #[.slice a xs.length c, .int .i64 n] w fun e w' => e = .returned (.bool (hasB xs n)) ∧ w = w' := by
  obtain ⟨hm, _, hc⟩ := h
  go_enter Try.func37, Try.ntmps37
  go_wp2
  go_loop [5] (fun i => ∃ k : Nat, k ≤ xs.length ∧ i = .int .i64 k ∧ Hid (¬ n ∈ xs.take k)) (fun i => xs.length - (intOf i).toNat)
  case atStart => exact ⟨0, Nat.zero_le _, rfl, Lib.hid (by simp)⟩
  case round =>
    obtain ⟨k, hk, rfl, HX⟩ := hrel
    by_cases hlt : k < xs.length
    · obtain ⟨b, off, rfl, hlb, hcell⟩ := hc k hlt
      rw [List.getElem?_eq_getElem hlt] at hcell
      simp only [Option.getD_some] at hcell
      have hkn := Lib.hid (take_snoc xs k hlt)
      have hmem := Lib.hid (List.getElem_mem hlt)
      clear hc
      obtain ⟨X, hX⟩ : ∃ X, xs[k] = X := ⟨_, rfl⟩
      rw [hX] at hcell hkn hmem
      clear hX
      by_cases he : X = n
      · have HM : Hid (hasB xs n = true) := Lib.hid (by unfold hasB; rw [List.contains_iff_mem, ← he]; exact hmem.out)
        have he1 : (X == n) = true := by simp [he]
        clear he
        go_wp2
        go_ret
        exact ⟨ret_bool HM.out.symm, rfl⟩
      · have he1 : (X == n) = false := by simp [he]
        have HE := Lib.hid he
        clear he
        go_wp2
        go_round
        case rel => exact ⟨k + 1, by omega, by go_num, Lib.hid (by rw [hkn.out]; intro hq; rcases List.mem_append.1 hq with hq | hq; exact HX.out hq; exact HE.out (List.mem_singleton.1 hq).symm)⟩
        case measure => simp [intOf]; omega
    · obtain rfl : k = xs.length := by omega
      have HM : Hid (hasB xs n = false) := Lib.hid (by
        unfold hasB
        have hx := HX.out
        rw [List.take_length] at hx
        cases hb : xs.contains n with
        | false => rfl
        | true => exact absurd (List.contains_iff_mem.1 hb) hx)
      clear hc
      go_wp2
      go_ret
      exact ⟨ret_bool HM.out.symm, rfl⟩
end Go.Proofs.Ytiofodpfjlcebaa
