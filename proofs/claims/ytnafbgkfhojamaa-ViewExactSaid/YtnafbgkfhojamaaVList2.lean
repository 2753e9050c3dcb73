/- Walks: At, spread shapes. -/
import Derived.Test.YtnafbgkfhojamaaVList
import Derived.Test.YtnafbgkfhojamaaEnv
set_option linter.unusedVariables false
set_option linter.unusedSimpArgs false
namespace Go.Proofs.Ytnafbgkfhojamaa
open Go.RowKit Go.Rt

/-- Filled from the front. -/
def frontL (S : List Int) (k : Nat) : List Int := S.take k ++ List.replicate (S.length - k) 0
theorem frontL_zero (S : List Int) : frontL S 0 = List.replicate S.length 0 := by simp [frontL]
theorem frontL_full (S : List Int) : frontL S S.length = S := by simp [frontL]
theorem frontL_set (S : List Int) (j : Nat) (hj : j < S.length) (x : Int) (hx : S[j]? = some x) : (frontL S j).set j x = frontL S (j + 1) := by
  unfold frontL
  apply List.ext_getElem?
  intro i
  have hx' : S[j] = x := by rw [List.getElem?_eq_getElem hj] at hx; exact Option.some.inj hx
  rw [List.getElem?_set]
  by_cases hij : j = i
  · subst hij
    have h1 : j < (S.take j ++ List.replicate (S.length - j) (0 : Int)).length := by simp; omega
    simp only [if_pos h1, if_true]
    rw [List.getElem?_append_left (by simp; omega), List.getElem?_take, if_pos (by omega), hx]
  · simp only [hij, if_false]
    simp only [List.getElem?_append, List.length_take, List.getElem?_replicate, List.getElem?_take]
    have m1 : min j S.length = j := by omega
    have m2 : min (j + 1) S.length = j + 1 := by omega
    rw [m1, m2]
    by_cases h1 : i < j
    · simp [h1, show i < j + 1 by omega]
    · have h1' : ¬ i < j + 1 := by omega
      by_cases h2 : i < S.length
      · simp [h1, h1', show i - j < S.length - j by omega, show i - (j + 1) < S.length - (j + 1) by omega]
      · simp [h1, h1', show ¬ i - j < S.length - j by omega, show ¬ i - (j + 1) < S.length - (j + 1) by omega]
theorem wf_dims {xs : List Int} (h : ∀ x ∈ xs, -65537 ≤ x ∧ x ≤ 65537) : ∀ x ∈ xs, (Lit.int .i64 x).wf = true :=
  fun x hx => wf_i64_iff.2 ⟨by have := h x hx; omega, by have := h x hx; omega⟩
theorem strI_mem : ∀ {xs : List Int}, Dims xs → prodI xs ≤ 65536 → ∀ x ∈ strI xs, 1 ≤ x ∧ x ≤ 65536
  | [], _, _, x, hx => by simp [strI] at hx
  | d :: r, h, hp, x, hx => by
    have h1 := h.tail.pos
    have h2 : prodI r ≤ 65536 := by have := prodI_drop_le h 1; simp at this; omega
    simp only [strI, List.mem_cons] at hx
    rcases hx with rfl | hx
    · omega
    · exact strI_mem h.tail h2 x hx
theorem standsI_mem : ∀ {xs : List Int} {n : Int}, Dims xs → ∀ x ∈ standsI xs n, 0 ≤ x ∧ x ≤ 4096
  | [], _, _, x, hx => by simp [standsI] at hx
  | d :: r, n, h, x, hx => by
    have h1 := h.head
    simp only [standsI, List.mem_cons] at hx
    rcases hx with rfl | hx
    · have a := Int.emod_nonneg (n / prodI r) (show d ≠ 0 by omega)
      have b := Int.emod_lt_of_pos (n / prodI r) (show 0 < d by omega)
      omega
    · exact standsI_mem h.tail x hx
/-- A made list, as a slice that reads. -/
theorem RetInts.ints {w w' : World} {xs : List Int} {e : Ending} (h : RetInts w xs e w') (hwf : ∀ x ∈ xs, (Lit.int .i64 x).wf = true) :
    ∃ a c, e = .returned (.slice a xs.length c) ∧ Ints .i64 w' w'.heap.size a xs ∧ Below w.heap.size w w' ∧ w'.ownsRow w.heap.size 3 1 (.slice a xs.length c) xs.length (xs.map (Value.int .i64)) := by
  obtain ⟨v, rfl, hown, hb⟩ := h
  obtain ⟨a, c, rfl, hi⟩ := own_ints hown hwf
  exact ⟨a, c, rfl, hi, hb, hown⟩
theorem dot_bound (xs is : List Int) (hD : Dims xs) (hw : withinB xs is = true) (k : Nat) (hk : k ≤ xs.length) :
    0 ≤ dotI (is.take k) ((strI xs).take k) ∧ dotI (is.take k) ((strI xs).take k) ≤ prodI xs := by
  have hl := withinB_length hw
  have h0 : placeI xs is = dotI (is.take k) ((strI xs).take k) + placeI (xs.drop k) (is.drop k) := by
    rw [← dotI_str xs is hl]
    clear hw hD
    induction k generalizing xs is with
    | zero => simp [dotI, dotI_str xs is hl]
    | succ k ih =>
      match xs, is, hl with
      | [], _, _ => simp at hk
      | d :: r, i :: s, hl =>
        have := ih r s (by simpa using hk) (by simpa using hl)
        simp only [strI, List.take_succ_cons, dotI, List.drop_succ_cons, this]
        omega
  have hb := placeI_bound xs is hD hw
  have hw2 : withinB (xs.drop k) (is.drop k) = true := by
    rw [withinB_iff] at hw ⊢
    refine ⟨by simp; omega, fun j hj => ?_⟩
    have := hw.2 (k + j) (by simp at hj; omega)
    simpa using this
  have hb2 := placeI_bound _ _ (hD.drop k) hw2
  refine ⟨?_, by omega⟩
  clear hb hb2 hw2 h0
  induction k generalizing xs is with
  | zero => simp [dotI]
  | succ k ih =>
    match xs, is, hl with
    | [], _, _ => simp at hk
    | d :: r, i :: s, hl =>
      simp only [withinB, Bool.and_eq_true, decide_eq_true_eq] at hw
      have := ih r s hD.tail hw.2 (by simpa using hk) (by simpa using hl)
      have hm : 0 ≤ i * prodI r := Int.mul_nonneg hw.1.1 (by have := hD.tail.pos; omega)
      simp only [strI, List.take_succ_cons, dotI]
      omega

set_option maxHeartbeats 400000 in
theorem rat_any (a : Option Addr) (c : Nat) (xs : List Int) (n : Int) (w : World) (h : Ints .i64 w w.heap.size a xs) (hg : goodB xs = true) (hn : 0 ≤ n) (hn2 : n < prodI xs) :
    Calls Try.prog 30 #[.slice a xs.length c, .int .i64 n] w (RetInts w (standsI xs n)) := by
  have hm := h.len
  have H := Lib.hid (rstrides_any a c xs w h hg)
  have hD := goodB_dims hg
  have h4 := (goodB_iff.1 hg).1
  obtain ⟨hP1, hP⟩ := goodB_prod hg
  have hl := Lib.hid (standsI_length xs n)
  have HSL := Lib.hid (strI_length xs)
  clear hg
  go_enter Try.func30, Try.ntmps30
  go_wp2_with fail
  refine H.out.mono ?_
  intro e w1 hr
  obtain ⟨a3, c3, rfl, hi3, hb1, _⟩ := hr.ints (wf_dims (fun x hx => by have := strI_mem hD hP x hx; omega))
  obtain ⟨hm3, _, hc3⟩ := hi3
  have HB1 := Lib.hid hb1
  have hsz1 := hb1.size
  clear hb1 h hr H
  go_wp2_with (at_make; (refine wpl_make 23 3 .i64 infoInt Try.underlying23 w.heap.size xs.length _ _ _ _ rfl rfl rfl rfl rfl rfl (by omega) hsz1 ?_); intro w2 hown hgrow _)
  go_loopw [1, 7] (fun m i wr => ∃ k : Nat, k ≤ xs.length ∧ i = .int .i64 k ∧ m = .int .i64 (n % prodI (xs.drop k)) ∧ wr.ownsRow w.heap.size 3 1 (.slice (some ⟨w1.heap.size, 0, none⟩) xs.length xs.length) xs.length ((frontL (standsI xs n) k).map (Value.int .i64)) ∧ Below w1.heap.size w1 wr) (fun _ i _ => xs.length - (intOf i).toNat)
  case atStart =>
    refine ⟨0, Nat.zero_le _, rfl, by simp; exact (Int.emod_eq_of_lt hn hn2).symm, ?_, hgrow _ (Nat.le_refl _)⟩
    have e := frontL_zero (standsI xs n)
    rw [hl.out] at e
    rw [e]
    exact hown
  case round =>
    obtain ⟨k, hk, rfl, rfl, hown2, hbel⟩ := hrel
    clear hown hgrow
    by_cases hlt : k < xs.length
    · have hlt3 : k < (strI xs).length := by have := HSL.out; omega
      obtain ⟨b, off, rfl, hlb, hcell⟩ := hc3 k hlt3
      clear hc3
      rw [strI_get xs k hlt] at hcell
      simp only [Option.getD_some] at hcell
      have hold : wr.cell? ⟨w1.heap.size, k, none⟩ = some (.int .i64 ((frontL (standsI xs n) k)[k]?.getD 0)) := own_cell hown2 hlt
      have hfr := hown2.frozenAt k
      have hcr : wr.cell? ⟨b, off + k, none⟩ = some (.int .i64 (prodI (xs.drop (k + 1)))) := (hbel.cell (p := ⟨b, off + k, none⟩) hlb).trans hcell
      have hsf := stands_front xs n k hD hlt
      have hst := hown2.stored k (.int .i64 (n % prodI (xs.drop k) / prodI (xs.drop (k + 1))))
      have HO : Hid ((wr.setCell ⟨w1.heap.size, k, none⟩ (.int .i64 (n % prodI (xs.drop k) / prodI (xs.drop (k + 1))))).ownsRow w.heap.size 3 1 (.slice (some ⟨w1.heap.size, 0, none⟩) xs.length xs.length) xs.length ((frontL (standsI xs n) (k + 1)).map (Value.int .i64))) := by
        have h0 := hst.1
        rw [map_set, frontL_set _ k (by rw [hl.out]; exact hlt) _ (by rw [standsI_get xs n k hlt, hsf.1])] at h0
        exact h0
      have HB := Lib.hid (hbel.setCell (p := ⟨w1.heap.size, k, none⟩) (Nat.le_refl _) (.int .i64 (n % prodI (xs.drop k) / prodI (xs.drop (k + 1)))))
      have HS := Lib.hid hsf.2
      have hp1 := (hD.drop (k + 1)).pos
      have hp0 := (hD.drop k).pos
      have hp2 := prodI_drop_le hD (k + 1)
      have hp3 := prodI_drop_le hD k
      have hr0 := Int.emod_nonneg n (show prodI (xs.drop k) ≠ 0 by omega)
      have hr1 := Int.emod_lt_of_pos n (show 0 < prodI (xs.drop k) by omega)
      have hq0 : 0 ≤ n % prodI (xs.drop k) / prodI (xs.drop (k + 1)) := Int.ediv_nonneg hr0 (by omega)
      have hne : b ≠ w1.heap.size := by omega
      clear hown2 hbel hst hcell hsf
      go_wp2
      go_roundw
      case rel => exact ⟨k + 1, by omega, by go_num, by rw [HS.out], HO.out, HB.out⟩
      case measure => simp [intOf]; omega
    · have hke : k = xs.length := by omega
      subst hke
      have HO := Lib.hid hown2
      have HB := Lib.hid hbel
      clear hown2 hbel hc3
      go_wp2
      go_ret
      have h0 := HO.out
      have e := frontL_full (standsI xs n)
      rw [hl.out] at e
      rw [e] at h0
      exact ⟨_, rfl, by rw [hl.out]; exact h0, HB1.out.trans (HB.out.mono hsz1)⟩
theorem rdim_any (a : Option Addr) (c hi : Nat) (xs : List Int) (k : Nat) (w : World) (h : Ints .i64 w hi a xs) (hk : k ≤ 1000000) :
    Calls Try.prog 71 #[.slice a xs.length c, .int .i64 (k : Int)] w fun e w' => e = .returned (.int .i64 (dimI xs k)) ∧ w = w' := by
  obtain ⟨hm, _, hc⟩ := h
  by_cases hlt : k < xs.length
  · have HR : Hid (dimI xs k = xs[xs.length - 1 - k]?.getD 0) := by
      unfold dimI
      rw [if_pos hlt]; rfl
    obtain ⟨b, off, rfl, _, hcell⟩ := hc (xs.length - 1 - k) (by omega)
    clear hc
    have h1 : 0 ≤ (xs.length : Int) - 1 - (k : Int) := by omega
    have h2 : (xs.length : Int) - 1 - (k : Int) < xs.length := by omega
    have h3 : (xs.length : Int) - 1 - (k : Int) ≤ 9223372036854775807 := by omega
    go_enter Try.func71, Try.ntmps71
    go_wp2
    go_ret
    exact ⟨ret_int (by rw [HR.out]), rfl⟩
  · have HR : Hid (dimI xs k = 1) := by
      unfold dimI
      rw [if_neg hlt]; rfl
    go_enter Try.func71, Try.ntmps71
    go_wp2
    go_ret
    exact ⟨ret_int HR.out.symm, rfl⟩
theorem meetB_eq (x y : Int) : meetB x y = !(x != y && (x != 1 && y != 1)) := by
  unfold meetB
  by_cases h1 : x = y <;> by_cases h2 : x = 1 <;> by_cases h3 : y = 1 <;> simp [h1, h2, h3, bne, Bool.or_assoc]
/-- What a spread hands back. -/
def RetSpread (w : World) (xs ys : List Int) (e : Ending) (w' : World) : Prop :=
  ∃ v, e = .returned (.tuple #[v, .int .i64 (spreadE xs ys)]) ∧ w'.ownsRow w.heap.size 3 1 v (spreadR xs ys).length ((spreadR xs ys).map (Value.int .i64)) ∧ Below w.heap.size w w'
theorem spread_shape {xs ys : List Int} (k : Nat) (hk : k < max xs.length ys.length) (h : meetB (dimI xs k) (dimI ys k) = false) : spreadE xs ys = 2 ∧ spreadR xs ys = [] := by
  have hm : meetsB xs ys = false := by
    cases hm : meetsB xs ys with
    | false => rfl
    | true => have := (meetsB_iff xs ys).1 hm k hk; rw [h] at this; cases this
  have he : spreadE xs ys = 2 := by simp [spreadE, hm]
  exact ⟨he, by simp [spreadR, he]⟩
theorem spread_all {xs ys : List Int} (h : ∀ k, k < max xs.length ys.length → meetB (dimI xs k) (dimI ys k) = true) :
    (goodB (spreadL xs ys) = true → spreadE xs ys = 0 ∧ spreadR xs ys = spreadL xs ys) ∧ (goodB (spreadL xs ys) = false → spreadE xs ys = 5 ∧ spreadR xs ys = []) := by
  have hm := (meetsB_iff xs ys).2 h
  constructor
  · intro hg
    have he : spreadE xs ys = 0 := by simp [spreadE, hm, hg]
    exact ⟨he, by simp [spreadR, he]⟩
  · intro hg
    have he : spreadE xs ys = 5 := by simp [spreadE, hm, hg]
    exact ⟨he, by simp [spreadR, he]⟩
theorem dimI_bound {xs : List Int} (h : Dims xs) (k : Nat) : 1 ≤ dimI xs k ∧ dimI xs k ≤ 4096 := by
  unfold dimI
  split
  · rename_i hk
    have := h.at (k := xs.length - 1 - k) (by omega)
    rw [List.getElem?_eq_getElem (by omega)]
    exact this
  · omega
theorem spreadL_dims {xs ys : List Int} (hx : Dims xs) (hy : Dims ys) : Dims (spreadL xs ys) := by
  intro d hd
  obtain ⟨k, hk, he⟩ := List.getElem_of_mem hd
  rw [spreadL_length] at hk
  have h1 := spreadL_get xs ys k hk
  rw [List.getElem?_eq_getElem (by rw [spreadL_length]; exact hk), he] at h1
  have a := dimI_bound hx (max xs.length ys.length - 1 - k)
  have b := dimI_bound hy (max xs.length ys.length - 1 - k)
  simp at h1
  omega
set_option maxHeartbeats 1000000 in
theorem rspread_any (a a2 : Option Addr) (c c2 : Nat) (xs ys : List Int) (w : World) (h : Ints .i64 w w.heap.size a xs) (h2 : Ints .i64 w w.heap.size a2 ys) (hx : goodB xs = true) (hy : goodB ys = true) :
    Calls Try.prog 63 #[.slice a xs.length c, .slice a2 ys.length c2] w (RetSpread w xs ys) := by
  have h4 := (goodB_iff.1 hx).1
  have h42 := (goodB_iff.1 hy).1
  have hD1 := goodB_dims hx
  have hD2 := goodB_dims hy
  clear hx hy
  have main : ∀ n : Nat, n = max xs.length ys.length → (xs.length < ys.length ∧ n = ys.length) ∨ (¬ xs.length < ys.length ∧ n = xs.length) →
      Calls Try.prog 63 #[.slice a xs.length c, .slice a2 ys.length c2] w (RetSpread w xs ys) := by
    intro n hn hcase
    have HSL : Hid ((spreadL xs ys).length = n) := by rw [hn]; exact spreadL_length xs ys
    have hn4 : n ≤ 4 := by omega
    have hDS := Lib.hid (spreadL_dims hD1 hD2)
    rcases hcase with ⟨hd, rfl⟩ | ⟨hd, rfl⟩
    · have HN := Lib.hid hn
      clear hn
      go_enter Try.func63, Try.ntmps63
      go_wp2_with (at_make; (refine wpl_make 23 3 .i64 infoInt Try.underlying23 w.heap.size _ _ _ _ _ rfl rfl rfl rfl rfl rfl (by omega) (Nat.le_refl _) ?_); intro w1 hown hgrow _)
      go_loopw [8] (fun i wr => ∃ k : Nat, k ≤ ys.length ∧ i = .int .i64 k ∧ (∀ j, j < k → meetB (dimI xs j) (dimI ys j) = true) ∧ wr.ownsRow w.heap.size 3 1 (.slice (some ⟨w.heap.size, 0, none⟩) ys.length ys.length) ys.length ((backL (spreadL xs ys) (ys.length - k)).map (Value.int .i64)) ∧ Below w.heap.size w wr) (fun i _ => ys.length - (intOf i).toNat)
      case atStart =>
        refine ⟨0, Nat.zero_le _, rfl, by simp, ?_, hgrow _ (Nat.le_refl _)⟩
        have e := backL_full (spreadL xs ys)
        rw [HSL.out] at e
        rw [Nat.sub_zero, e]
        exact hown
      case round =>
        obtain ⟨k, hk, rfl, hall, hown2, hbel⟩ := hrel
        clear hown hgrow
        have HA := Lib.hid hall
        have HB := Lib.hid hbel
        clear hall
        by_cases hlt : k < ys.length
        · have hix := h.below HB.out (Nat.le_refl _)
          have hiy := h2.below HB.out (Nat.le_refl _)
          have H1 := Lib.hid (rdim_any a c w.heap.size xs k wr hix (by omega))
          have H2 := Lib.hid (rdim_any a2 c2 w.heap.size ys k wr hiy (by omega))
          have hx1 := dimI_bound hD1 k
          have hy1 := dimI_bound hD2 k
          have hold : wr.cell? ⟨w.heap.size, ys.length - 1 - k, none⟩ = some (.int .i64 ((backL (spreadL xs ys) (ys.length - k))[ys.length - 1 - k]?.getD 0)) := own_cell hown2 (by omega)
          have hfr := hown2.frozenAt (ys.length - 1 - k)
          have HO : Hid ((wr.setCell ⟨w.heap.size, ys.length - 1 - k, none⟩ (.int .i64 (max (dimI xs k) (dimI ys k)))).ownsRow w.heap.size 3 1 (.slice (some ⟨w.heap.size, 0, none⟩) ys.length ys.length) ys.length ((backL (spreadL xs ys) (ys.length - (k + 1))).map (Value.int .i64))) := by
            have h0 := (hown2.stored (ys.length - 1 - k) (.int .i64 (max (dimI xs k) (dimI ys k)))).1
            have hgx := spreadL_get xs ys (ys.length - 1 - k) (by have := HN.out; omega)
            rw [← HN.out, show ys.length - 1 - (ys.length - 1 - k) = k by omega] at hgx
            rw [map_set, show ys.length - k = (ys.length - 1 - k) + 1 by omega, backL_set _ (ys.length - 1 - k) (by rw [HSL.out]; omega) _ hgx, show ys.length - 1 - k = ys.length - (k + 1) by omega] at h0
            rw [show ys.length - 1 - k = ys.length - (k + 1) by omega]
            exact h0
          have HBS := Lib.hid (HB.out.setCell (p := ⟨w.heap.size, ys.length - 1 - k, none⟩) (Nat.le_refl _) (.int .i64 (max (dimI xs k) (dimI ys k))))
          have HM : Hid (meetB (dimI xs k) (dimI ys k) = !(dimI xs k != dimI ys k && (dimI xs k != 1 && dimI ys k != 1))) := meetB_eq _ _
          have HR : Hid (meetB (dimI xs k) (dimI ys k) = false → spreadE xs ys = 2 ∧ spreadR xs ys = []) := spread_shape k (by have := HN.out; omega)
          have HAN : Hid (meetB (dimI xs k) (dimI ys k) = true → ∀ j, j < k + 1 → meetB (dimI xs j) (dimI ys j) = true) := by
            intro hm j hj
            by_cases e : j = k
            · subst e; exact hm
            · exact HA.out j (by omega)
          have hz0 : 0 ≤ (ys.length : Int) - 1 - (k : Int) := by omega
          clear hown2 hbel hix hiy h h2
          go_wp2_with fail
          refine H1.out.mono ?_
          rintro e w' ⟨rfl, rfl⟩
          go_wp2_with fail
          refine H2.out.mono ?_
          rintro e w' ⟨rfl, rfl⟩
          clear H1 H2
          generalize dimI xs k = x at *
          generalize dimI ys k = y at *
          have HMX : Hid (max x y = if x < y then y else x) := by unfold Hid; split <;> omega
          cases hb1 : (x != y) <;> cases hb2 : (x != 1) <;> cases hb3 : (y != 1)
          all_goals
            have HM2 := HM.out
            rw [hb1, hb2, hb3] at HM2
            simp only [Bool.and_true, Bool.and_false, Bool.true_and, Bool.false_and, Bool.not_true, Bool.not_false] at HM2
            have HM3 := Lib.hid HM2
            clear HM2 HM
          all_goals
            first
            | (go_wp2_with fail
               go_ret2
               exact ⟨.slice none 0 0, by rw [(HR.out HM3.out).1]; rfl, by rw [(HR.out HM3.out).2]; exact World.ownsRow_nil _ _ _ _, HB.out⟩)
            | (by_cases hxy : x < y
               all_goals
                have HX := Lib.hid HMX.out
                simp only [Hid, hxy, if_true, if_false] at HX
                have HX2 := Lib.hid HX
                rw [HX2.out] at HO HBS
                clear HX
                go_wp2_with fail
                go_roundw
                case rel => exact ⟨k + 1, by omega, by go_num, HAN.out HM3.out, HO.out, HBS.out⟩
                case measure => simp [intOf]; omega)
        · have hke : k = ys.length := by omega
          subst hke
          rw [Nat.sub_self, backL_zero] at hown2
          have HO := Lib.hid hown2
          have hsp := spread_all (xs := xs) (ys := ys) (by rw [← HN.out]; exact HA.out)
          obtain ⟨aS, cS, heS, hiS⟩ := own_ints hown2 (wf_dims (fun x hx => by have := hDS.out x hx; omega))
          rw [HSL.out] at heS
          injection heS with he1 he2 he3
          subst he1; subst he3
          have HM := Lib.hid (rmay_any _ ys.length _ _ wr hiS)
          rw [HSL.out] at HM
          clear hown2 hbel h h2 hiS HA
          cases hgs : goodB (spreadL xs ys)
          · have hs := hsp.2 hgs
            rw [hgs] at HM
            have HS := Lib.hid hs
            clear hs hsp hgs
            go_wp2_with (go_at_call 31; refine HM.out.mono ?_; rintro e w' ⟨rfl, rfl⟩)
            go_ret2
            exact ⟨.slice none 0 0, by rw [HS.out.1]; rfl, by rw [HS.out.2]; exact World.ownsRow_nil _ _ _ _, HB.out⟩
          · have hs := hsp.1 hgs
            rw [hgs] at HM
            have HS := Lib.hid hs
            clear hs hsp hgs
            go_wp2_with (go_at_call 31; refine HM.out.mono ?_; rintro e w' ⟨rfl, rfl⟩)
            go_ret2
            exact ⟨_, by rw [HS.out.1]; rfl, by rw [HS.out.2, HSL.out]; exact HO.out, HB.out⟩
    · have HN := Lib.hid hn
      clear hn
      go_enter Try.func63, Try.ntmps63
      go_wp2_with (at_make; (refine wpl_make 23 3 .i64 infoInt Try.underlying23 w.heap.size _ _ _ _ _ rfl rfl rfl rfl rfl rfl (by omega) (Nat.le_refl _) ?_); intro w1 hown hgrow _)
      go_loopw [8] (fun i wr => ∃ k : Nat, k ≤ xs.length ∧ i = .int .i64 k ∧ (∀ j, j < k → meetB (dimI xs j) (dimI ys j) = true) ∧ wr.ownsRow w.heap.size 3 1 (.slice (some ⟨w.heap.size, 0, none⟩) xs.length xs.length) xs.length ((backL (spreadL xs ys) (xs.length - k)).map (Value.int .i64)) ∧ Below w.heap.size w wr) (fun i _ => xs.length - (intOf i).toNat)
      case atStart =>
        refine ⟨0, Nat.zero_le _, rfl, by simp, ?_, hgrow _ (Nat.le_refl _)⟩
        have e := backL_full (spreadL xs ys)
        rw [HSL.out] at e
        rw [Nat.sub_zero, e]
        exact hown
      case round =>
        obtain ⟨k, hk, rfl, hall, hown2, hbel⟩ := hrel
        clear hown hgrow
        have HA := Lib.hid hall
        have HB := Lib.hid hbel
        clear hall
        by_cases hlt : k < xs.length
        · have hix := h.below HB.out (Nat.le_refl _)
          have hiy := h2.below HB.out (Nat.le_refl _)
          have H1 := Lib.hid (rdim_any a c w.heap.size xs k wr hix (by omega))
          have H2 := Lib.hid (rdim_any a2 c2 w.heap.size ys k wr hiy (by omega))
          have hx1 := dimI_bound hD1 k
          have hy1 := dimI_bound hD2 k
          have hold : wr.cell? ⟨w.heap.size, xs.length - 1 - k, none⟩ = some (.int .i64 ((backL (spreadL xs ys) (xs.length - k))[xs.length - 1 - k]?.getD 0)) := own_cell hown2 (by omega)
          have hfr := hown2.frozenAt (xs.length - 1 - k)
          have HO : Hid ((wr.setCell ⟨w.heap.size, xs.length - 1 - k, none⟩ (.int .i64 (max (dimI xs k) (dimI ys k)))).ownsRow w.heap.size 3 1 (.slice (some ⟨w.heap.size, 0, none⟩) xs.length xs.length) xs.length ((backL (spreadL xs ys) (xs.length - (k + 1))).map (Value.int .i64))) := by
            have h0 := (hown2.stored (xs.length - 1 - k) (.int .i64 (max (dimI xs k) (dimI ys k)))).1
            have hgx := spreadL_get xs ys (xs.length - 1 - k) (by have := HN.out; omega)
            rw [← HN.out, show xs.length - 1 - (xs.length - 1 - k) = k by omega] at hgx
            rw [map_set, show xs.length - k = (xs.length - 1 - k) + 1 by omega, backL_set _ (xs.length - 1 - k) (by rw [HSL.out]; omega) _ hgx, show xs.length - 1 - k = xs.length - (k + 1) by omega] at h0
            rw [show xs.length - 1 - k = xs.length - (k + 1) by omega]
            exact h0
          have HBS := Lib.hid (HB.out.setCell (p := ⟨w.heap.size, xs.length - 1 - k, none⟩) (Nat.le_refl _) (.int .i64 (max (dimI xs k) (dimI ys k))))
          have HM : Hid (meetB (dimI xs k) (dimI ys k) = !(dimI xs k != dimI ys k && (dimI xs k != 1 && dimI ys k != 1))) := meetB_eq _ _
          have HR : Hid (meetB (dimI xs k) (dimI ys k) = false → spreadE xs ys = 2 ∧ spreadR xs ys = []) := spread_shape k (by have := HN.out; omega)
          have HAN : Hid (meetB (dimI xs k) (dimI ys k) = true → ∀ j, j < k + 1 → meetB (dimI xs j) (dimI ys j) = true) := by
            intro hm j hj
            by_cases e : j = k
            · subst e; exact hm
            · exact HA.out j (by omega)
          have hz0 : 0 ≤ (xs.length : Int) - 1 - (k : Int) := by omega
          clear hown2 hbel hix hiy h h2
          go_wp2_with fail
          refine H1.out.mono ?_
          rintro e w' ⟨rfl, rfl⟩
          go_wp2_with fail
          refine H2.out.mono ?_
          rintro e w' ⟨rfl, rfl⟩
          clear H1 H2
          generalize dimI xs k = x at *
          generalize dimI ys k = y at *
          have HMX : Hid (max x y = if x < y then y else x) := by unfold Hid; split <;> omega
          cases hb1 : (x != y) <;> cases hb2 : (x != 1) <;> cases hb3 : (y != 1)
          all_goals
            have HM2 := HM.out
            rw [hb1, hb2, hb3] at HM2
            simp only [Bool.and_true, Bool.and_false, Bool.true_and, Bool.false_and, Bool.not_true, Bool.not_false] at HM2
            have HM3 := Lib.hid HM2
            clear HM2 HM
          all_goals
            first
            | (go_wp2_with fail
               go_ret2
               exact ⟨.slice none 0 0, by rw [(HR.out HM3.out).1]; rfl, by rw [(HR.out HM3.out).2]; exact World.ownsRow_nil _ _ _ _, HB.out⟩)
            | (by_cases hxy : x < y
               all_goals
                have HX := Lib.hid HMX.out
                simp only [Hid, hxy, if_true, if_false] at HX
                have HX2 := Lib.hid HX
                rw [HX2.out] at HO HBS
                clear HX
                go_wp2_with fail
                go_roundw
                case rel => exact ⟨k + 1, by omega, by go_num, HAN.out HM3.out, HO.out, HBS.out⟩
                case measure => simp [intOf]; omega)
        · have hke : k = xs.length := by omega
          subst hke
          rw [Nat.sub_self, backL_zero] at hown2
          have HO := Lib.hid hown2
          have hsp := spread_all (xs := xs) (ys := ys) (by rw [← HN.out]; exact HA.out)
          obtain ⟨aS, cS, heS, hiS⟩ := own_ints hown2 (wf_dims (fun x hx => by have := hDS.out x hx; omega))
          rw [HSL.out] at heS
          injection heS with he1 he2 he3
          subst he1; subst he3
          have HM := Lib.hid (rmay_any _ xs.length _ _ wr hiS)
          rw [HSL.out] at HM
          clear hown2 hbel h h2 hiS HA
          cases hgs : goodB (spreadL xs ys)
          · have hs := hsp.2 hgs
            rw [hgs] at HM
            have HS := Lib.hid hs
            clear hs hsp hgs
            go_wp2_with (go_at_call 31; refine HM.out.mono ?_; rintro e w' ⟨rfl, rfl⟩)
            go_ret2
            exact ⟨.slice none 0 0, by rw [HS.out.1]; rfl, by rw [HS.out.2]; exact World.ownsRow_nil _ _ _ _, HB.out⟩
          · have hs := hsp.1 hgs
            rw [hgs] at HM
            have HS := Lib.hid hs
            clear hs hsp hgs
            go_wp2_with (go_at_call 31; refine HM.out.mono ?_; rintro e w' ⟨rfl, rfl⟩)
            go_ret2
            exact ⟨_, by rw [HS.out.1]; rfl, by rw [HS.out.2, HSL.out]; exact HO.out, HB.out⟩
  by_cases hlt : xs.length < ys.length
  · exact main _ rfl (.inl ⟨hlt, by omega⟩)
  · exact main _ rfl (.inr ⟨hlt, by omega⟩)

set_option maxHeartbeats 2000000 in
theorem both_any (a a2 : Option Addr) (c c2 : Nat) (xs ys : List Int) (w : World) (h : Ints .i64 w w.heap.size a xs) (h2 : Ints .i64 w w.heap.size a2 ys) (hx : goodB xs = true) (hy : goodB ys = true) :
    Calls Try.prog 60 #[.slice a xs.length c, .slice a2 ys.length c2] w (RetSpread w xs ys) := by
  have h4 := (goodB_iff.1 hx).1
  have h42 := (goodB_iff.1 hy).1
  have hD1 := goodB_dims hx
  have hD2 := goodB_dims hy
  clear hx hy
  have HSL : Hid ((spreadL xs ys).length = max xs.length ys.length) := spreadL_length xs ys
  have hDS := Lib.hid (spreadL_dims hD1 hD2)
  obtain ⟨N, hN⟩ : ∃ N, N = max xs.length ys.length := ⟨_, rfl⟩
  have hmax : (if xs.length < ys.length then (ys.length : Int) else (xs.length : Int)) = (N : Int) := by split <;> omega
  rw [← hN] at HSL
  have hN4 : N ≤ 4 := by omega
  have HN := Lib.hid hN
  clear hN
  go_enter Try.func60, Try.ntmps60
  go_wp2_with fail
  go_step3
  go_wp2_with (at_make; (refine wpl_make 23 3 .i64 infoInt Try.underlying23 w.heap.size N _ _ _ _ rfl rfl rfl rfl (by first | rfl | exact hmax) (by first | rfl | exact hmax) (by omega) (Nat.le_refl _) ?_); intro w1 hown hgrow _)
  go_step3
  go_wp2_with fail
  go_loopw [7, 19] (fun e i wr => ∃ k : Nat, k ≤ N ∧ i = .int .i64 k ∧ e = .int .i64 0 ∧ (∀ j, j < k → meetB (dimI xs (N - 1 - j)) (dimI ys (N - 1 - j)) = true) ∧ wr.ownsRow w.heap.size 3 1 (.slice (some ⟨w.heap.size, 0, none⟩) N N) N ((frontL (spreadL xs ys) k).map (Value.int .i64)) ∧ Below w.heap.size w wr) (fun _ i _ => N - (intOf i).toNat)
  case atStart =>
    refine ⟨0, Nat.zero_le _, rfl, rfl, by simp, ?_, hgrow _ (Nat.le_refl _)⟩
    have e := frontL_zero (spreadL xs ys)
    rw [HSL.out] at e
    rw [e]
    exact hown
  case round =>
    obtain ⟨k, hk, rfl, rfl, hall, hown2, hbel⟩ := hrel
    clear hown hgrow hmax
    have HA := Lib.hid hall
    have HB := Lib.hid hbel
    clear hall
    by_cases hlt : k < N
    · have hix := h.below HB.out (Nat.le_refl _)
      have hiy := h2.below HB.out (Nat.le_refl _)
      have hK : (-1 - ((k : Int) - (N : Int))).toNat = N - 1 - k := by omega
      have H1 := dim_any a c w.heap.size xs ((k : Int) - (N : Int)) wr hix (by omega) (by omega)
      have H2 := dim_any a2 c2 w.heap.size ys ((k : Int) - (N : Int)) wr hiy (by omega) (by omega)
      rw [hK] at H1 H2
      replace H1 := Lib.hid H1
      replace H2 := Lib.hid H2
      clear hK
      have hold : wr.cell? ⟨w.heap.size, k, none⟩ = some (.int .i64 ((frontL (spreadL xs ys) k)[k]?.getD 0)) := own_cell hown2 (by omega)
      have hfr := hown2.frozenAt k
      have HO : Hid ((wr.setCell ⟨w.heap.size, k, none⟩ (.int .i64 (max (dimI xs (N - 1 - k)) (dimI ys (N - 1 - k))))).ownsRow w.heap.size 3 1 (.slice (some ⟨w.heap.size, 0, none⟩) N N) N ((frontL (spreadL xs ys) (k + 1)).map (Value.int .i64))) := by
        have h0 := (hown2.stored k (.int .i64 (max (dimI xs (N - 1 - k)) (dimI ys (N - 1 - k))))).1
        have hgx := spreadL_get xs ys k (by have := HN.out; omega)
        rw [← HN.out] at hgx
        rw [map_set, frontL_set _ k (by rw [HSL.out]; omega) _ hgx] at h0
        exact h0
      have HBS := Lib.hid (HB.out.setCell (p := ⟨w.heap.size, k, none⟩) (Nat.le_refl _) (.int .i64 (max (dimI xs (N - 1 - k)) (dimI ys (N - 1 - k)))))
      have HM : Hid (meetB (dimI xs (N - 1 - k)) (dimI ys (N - 1 - k)) = !(dimI xs (N - 1 - k) != dimI ys (N - 1 - k) && (dimI xs (N - 1 - k) != 1 && dimI ys (N - 1 - k) != 1))) := meetB_eq _ _
      have HR : Hid (meetB (dimI xs (N - 1 - k)) (dimI ys (N - 1 - k)) = false → spreadE xs ys = 2 ∧ spreadR xs ys = []) := spread_shape (N - 1 - k) (by have := HN.out; omega)
      have HAN : Hid (meetB (dimI xs (N - 1 - k)) (dimI ys (N - 1 - k)) = true → ∀ j, j < k + 1 → meetB (dimI xs (N - 1 - j)) (dimI ys (N - 1 - j)) = true) := by
        intro hm j hj
        by_cases e : j = k
        · subst e; exact hm
        · exact HA.out j (by omega)
      clear hown2 hbel hix hiy h h2
      go_wp2_with fail
      refine H1.out.mono ?_
      rintro e w' ⟨rfl, rfl⟩
      go_wp2_with fail
      refine H2.out.mono ?_
      rintro e w' ⟨rfl, rfl⟩
      clear H1 H2
      generalize dimI xs (N - 1 - k) = x at *
      generalize dimI ys (N - 1 - k) = y at *
      obtain ⟨m, hm1, hm2⟩ : ∃ m, (x < y ∧ m = y ∨ ¬ x < y ∧ m = x) ∧ max x y = m := ⟨max x y, by omega, rfl⟩
      rw [hm2] at HO HBS
      clear hm2
      rcases hm1 with ⟨hxy, hmm⟩ | ⟨hxy, hmm⟩
      all_goals
        subst m
        have hb1 : (x == y) = !(x != y) := by simp [bne]
        have hb2 : (x == 1) = !(x != 1) := by simp [bne]
        have hb3 : (y == 1) = !(y != 1) := by simp [bne]
        cases hc1 : (x != y) <;> cases hc2 : (x != 1) <;> cases hc3 : (y != 1)
        all_goals
          rw [hc1] at hb1
          rw [hc2] at hb2
          rw [hc3] at hb3
          simp only [Bool.not_true, Bool.not_false] at hb1 hb2 hb3
          have HM2 := HM.out
          rw [hc1, hc2, hc3] at HM2
          simp only [Bool.and_true, Bool.and_false, Bool.true_and, Bool.false_and, Bool.not_true, Bool.not_false] at HM2
          have HM3 := Lib.hid HM2
          clear HM2 HM hc1 hc2 hc3
        all_goals
          first
          | (go_wp2_with fail
             go_roundw
             case rel => exact ⟨k + 1, by omega, by go_num, rfl, HAN.out HM3.out, HO.out, HBS.out⟩
             case measure => simp [intOf]; omega)
          | (go_wp2_with fail
             try rw [Exit.noGoto_ret]
             go_ret2
             exact ⟨.slice none 0 0, by rw [(HR.out HM3.out).1]; rfl, by rw [(HR.out HM3.out).2]; exact World.ownsRow_nil _ _ _ _, HBS.out⟩)
    · have hke : k = N := by omega
      subst hke
      have he := frontL_full (spreadL xs ys)
      rw [HSL.out] at he
      rw [he] at hown2
      have HO := Lib.hid hown2
      have hsp := spread_all (xs := xs) (ys := ys) (by
        rw [← HN.out]
        intro j hj
        have := HA.out (k - 1 - j) (by omega)
        rw [show k - 1 - (k - 1 - j) = j by omega] at this
        exact this)
      obtain ⟨aS, cS, heS, hiS⟩ := own_ints hown2 (wf_dims (fun x hx => by have := hDS.out x hx; omega))
      rw [HSL.out] at heS
      injection heS with he1 he2 he3
      subst he1; subst he3
      have HM := Lib.hid (good_any _ k _ _ wr hiS)
      rw [HSL.out] at HM
      clear hown2 hbel h h2 hiS HA he
      cases hgs : goodB (spreadL xs ys)
      · have hs := hsp.2 hgs
        rw [hgs] at HM
        have HS := Lib.hid hs
        clear hs hsp hgs
        go_wp2_with (go_at_call 54; refine HM.out.mono ?_; rintro e w' ⟨rfl, rfl⟩)
        try rw [Exit.noGoto_ret]
        go_ret2
        exact ⟨.slice none 0 0, by rw [HS.out.1]; rfl, by rw [HS.out.2]; exact World.ownsRow_nil _ _ _ _, HB.out⟩
      · have hs := hsp.1 hgs
        rw [hgs] at HM
        have HS := Lib.hid hs
        clear hs hsp hgs
        go_wp2_with (go_at_call 54; refine HM.out.mono ?_; rintro e w' ⟨rfl, rfl⟩)
        try rw [Exit.noGoto_ret]
        go_ret2
        exact ⟨_, by rw [HS.out.1]; rfl, by rw [HS.out.2, HSL.out]; exact HO.out, HB.out⟩

def goesB (s t : List Int) : Bool := decide (spreadE s t = 0) && decide (spreadR s t = t)
theorem goes_facts {s t : List Int} (hs : Dims s) (h : goesB s t = true) : s.length ≤ t.length ∧ ∀ k, k < s.length → s[k]?.getD 0 = 1 ∨ s[k]?.getD 0 = t[t.length - s.length + k]?.getD 0 := by
  simp only [goesB, Bool.and_eq_true, decide_eq_true_eq] at h
  obtain ⟨h1, h2⟩ := h
  have hm : meetsB s t = true := by
    cases hm : meetsB s t with
    | true => rfl
    | false => simp [spreadE, hm] at h1
  have hL : spreadL s t = t := by simpa [spreadR, h1] using h2
  have hlen := spreadL_length s t
  rw [hL] at hlen
  refine ⟨by omega, fun k hk => ?_⟩
  have hj : t.length - s.length + k < max s.length t.length := by omega
  have hg := spreadL_get s t (t.length - s.length + k) hj
  rw [hL] at hg
  have hk2 : max s.length t.length - 1 - (t.length - s.length + k) = s.length - 1 - k := by omega
  rw [hk2] at hg
  have hme := (meetsB_iff s t).1 hm (s.length - 1 - k) (by omega)
  have hds : dimI s (s.length - 1 - k) = s[k]?.getD 0 := by
    unfold dimI
    rw [if_pos (by omega), show s.length - 1 - (s.length - 1 - k) = k by omega]
  have hdt : dimI t (s.length - 1 - k) = t[t.length - s.length + k]?.getD 0 := by
    unfold dimI
    rw [if_pos (by omega), show t.length - 1 - (s.length - 1 - k) = t.length - s.length + k by omega]
  rw [hds, hdt] at hme hg
  have hx1 : 1 ≤ s[k]?.getD 0 := by rw [List.getElem?_eq_getElem hk]; exact (hs.at hk).1
  have hy : t[t.length - s.length + k]?.getD 0 = max (s[k]?.getD 0) (t[t.length - s.length + k]?.getD 0) := congrArg (fun o : Option Int => o.getD 0) hg
  clear hg hds hdt
  generalize s[k]?.getD 0 = x at *
  generalize t[t.length - s.length + k]?.getD 0 = y at *
  simp only [meetB, Bool.or_eq_true, beq_iff_eq] at hme
  omega

theorem spreadR_mem {xs ys : List Int} (hx : Dims xs) (hy : Dims ys) : ∀ x ∈ spreadR xs ys, -65537 ≤ x ∧ x ≤ 65537 := by
  intro x hm
  unfold spreadR at hm
  split at hm
  · have := spreadL_dims hx hy x hm; omega
  · simp at hm
/-- A made list beside an error, as a slice that reads. -/
theorem RetSpread.ints {w w' : World} {xs ys : List Int} {e : Ending} (h : RetSpread w xs ys e w') (hx : Dims xs) (hy : Dims ys) :
    ∃ a c, e = .returned (.tuple #[.slice a (spreadR xs ys).length c, .int .i64 (spreadE xs ys)]) ∧ Ints .i64 w' w'.heap.size a (spreadR xs ys) ∧ Below w.heap.size w w' := by
  obtain ⟨v, rfl, hown, hb⟩ := h
  obtain ⟨a, c, rfl, hi⟩ := own_ints hown (wf_dims (spreadR_mem hx hy))
  exact ⟨a, c, rfl, hi, hb⟩
set_option maxHeartbeats 400000 in
theorem goes_any (a a2 : Option Addr) (c c2 : Nat) (s t : List Int) (w : World) (h : Ints .i64 w w.heap.size a s) (h2 : Ints .i64 w w.heap.size a2 t) (hg : goodB s = true) (hg2 : goodB t = true) :
    Calls Try.prog 39 #[.slice a s.length c, .slice a2 t.length c2] w fun e w' => e = .returned (.bool (goesB s t)) ∧ Below w.heap.size w w' := by
  have H := Lib.hid (rspread_any a a2 c c2 s t w h h2 hg hg2)
  have hD := goodB_dims hg
  have hD2 := goodB_dims hg2
  clear hg hg2
  by_cases he : spreadE s t = 0
  · have he1 : (spreadE s t == 0) = true := by simp [he]
    have HE := Lib.hid he
    clear he
    go_enter Try.func39, Try.ntmps39
    go_wp2_with fail
    refine H.out.mono ?_
    intro e w1 hr
    obtain ⟨a3, c3, rfl, hi3, hb1⟩ := hr.ints hD hD2
    have H2 := Lib.hid (eqNumbers_any a3 a2 c3 c2 _ _ _ w1 hi3 ((h2.below hb1 (Nat.le_refl _)).mono hb1.size))
    have HB := Lib.hid hb1
    clear hb1 hi3 hr H h h2
    go_wp2_with (go_at_call 12; refine H2.out.mono ?_; rintro e w' ⟨rfl, q, rfl⟩)
    go_ret
    exact ⟨ret_bool (by unfold goesB; rw [HE.out]; simp), below_drewN HB.out _⟩
  · have he1 : (spreadE s t == 0) = false := by simp [he]
    have HE := Lib.hid he
    clear he
    go_enter Try.func39, Try.ntmps39
    go_wp2_with fail
    refine H.out.mono ?_
    intro e w1 hr
    obtain ⟨a3, c3, rfl, hi3, hb1⟩ := hr.ints hD hD2
    have HB := Lib.hid hb1
    clear hb1 hi3 hr H h h2
    go_wp2_with fail
    go_ret
    exact ⟨ret_bool (by unfold goesB; simp [HE.out]), HB.out⟩

end Go.Proofs.Ytnafbgkfhojamaa
