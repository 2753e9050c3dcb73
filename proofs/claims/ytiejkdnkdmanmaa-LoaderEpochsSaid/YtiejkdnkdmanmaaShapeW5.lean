/- Walks: the reference's At, dim, Spread, Goes, Under; law0's Within and Numbers. -/
import Derived.Test.YtiejkdnkdmanmaaShapeW4
set_option linter.unusedVariables false
set_option linter.unusedSimpArgs false
namespace Go.Proofs.Ytiejkdnkdmanmaa
open Go.RowKit Go.Rt

set_option maxHeartbeats 400000 in
theorem rat_any (a : Option Addr) (c : Nat) (xs : List Int) (n : Int) (w : World) (h : Ints .i64 w w.heap.size a xs) (hg : goodB xs = true) (hn : 0 ≤ n) (hn2 : n < prodI xs) :
    Calls Try.prog 41 #[.slice a xs.length c, .int .i64 n] w (RetInts w (standsI xs n)) := by
  have hm := h.len
  have H := Lib.hid (rstrides_any a c xs w h hg)
  have hD := goodB_dims hg
  have h4 := (goodB_iff.1 hg).1
  obtain ⟨hP1, hP⟩ := goodB_prod hg
  have hl := Lib.hid (standsI_length xs n)
  have HSL := Lib.hid (strI_length xs)
  clear hg
  go_enter Try.func41, Try.ntmps41
  go_wp2_with fail
  refine H.out.mono ?_
  intro e w1 hr
  obtain ⟨a3, c3, rfl, hi3, hb1, _⟩ := hr.ints (wf_dims (fun x hx => by have := strI_mem hD hP x hx; omega))
  obtain ⟨hm3, _, hc3⟩ := hi3
  have HB1 := Lib.hid hb1
  have hsz1 := hb1.size
  clear hb1 h hr H
  go_wp2_with (at_make; (refine wpl_make 46 3 .i64 infoInt Try.underlying46 w.heap.size xs.length _ _ _ _ rfl rfl rfl rfl rfl rfl (by omega) hsz1 ?_); intro w2 hown hgrow _)
  go_loopw [1, 7] (fun m i wr => ∃ k : Nat, k ≤ xs.length ∧ i = .int .i64 k ∧ m = .int .i64 (n % prodI (xs.drop k)) ∧ wr.ownsRow w.heap.size 3 1 (.slice (some ⟨w1.heap.size, 0, none⟩) xs.length xs.length) xs.length ((frontL (standsI xs n) k).map (Value.int .i64)) ∧ Below w1.heap.size w1 wr) (fun _ i _ => xs.length - (intOf i).toNat)
  case atStart =>
    refine ⟨0, Nat.zero_le _, rfl, by simp; exact (Int.emod_eq_of_lt hn hn2).symm, ?_, hgrow _ (Nat.le_refl _)⟩
    have e := frontL_zero (standsI xs n)
    rw [hl.out] at e
    rw [e]
    exact hown
  case round =>
    obtain ⟨k, hk, rfl, rfl, hown2, hbel⟩ := hrel
    clear hown hgrow
    by_cases hlt : k < xs.length
    · have hlt3 : k < (strI xs).length := by have := HSL.out; omega
      obtain ⟨b, off, rfl, hlb, hcell⟩ := hc3 k hlt3
      clear hc3
      rw [strI_get xs k hlt] at hcell
      simp only [Option.getD_some] at hcell
      have hold : wr.cell? ⟨w1.heap.size, k, none⟩ = some (.int .i64 ((frontL (standsI xs n) k)[k]?.getD 0)) := own_cell hown2 hlt
      have hfr := hown2.frozenAt k
      have hcr : wr.cell? ⟨b, off + k, none⟩ = some (.int .i64 (prodI (xs.drop (k + 1)))) := (hbel.cell (p := ⟨b, off + k, none⟩) hlb).trans hcell
      have hsf := stands_front xs n k hD hlt
      have hst := hown2.stored k (.int .i64 (n % prodI (xs.drop k) / prodI (xs.drop (k + 1))))
      have HO : Hid ((wr.setCell ⟨w1.heap.size, k, none⟩ (.int .i64 (n % prodI (xs.drop k) / prodI (xs.drop (k + 1))))).ownsRow w.heap.size 3 1 (.slice (some ⟨w1.heap.size, 0, none⟩) xs.length xs.length) xs.length ((frontL (standsI xs n) (k + 1)).map (Value.int .i64))) := by
        have h0 := hst.1
        rw [map_set, frontL_set _ k (by rw [hl.out]; exact hlt) _ (by rw [standsI_get xs n k hlt, hsf.1])] at h0
        exact h0
      have HB := Lib.hid (hbel.setCell (p := ⟨w1.heap.size, k, none⟩) (Nat.le_refl _) (.int .i64 (n % prodI (xs.drop k) / prodI (xs.drop (k + 1)))))
      have HS := Lib.hid hsf.2
      have hp1 := (hD.drop (k + 1)).pos
      have hp0 := (hD.drop k).pos
      have hp2 := prodI_drop_le hD (k + 1)
      have hp3 := prodI_drop_le hD k
      have hr0 := Int.emod_nonneg n (show prodI (xs.drop k) ≠ 0 by omega)
      have hr1 := Int.emod_lt_of_pos n (show 0 < prodI (xs.drop k) by omega)
      have hq0 : 0 ≤ n % prodI (xs.drop k) / prodI (xs.drop (k + 1)) := Int.ediv_nonneg hr0 (by omega)
      have hne : b ≠ w1.heap.size := by omega
      clear hown2 hbel hst hcell hsf
      go_wp2
      go_roundw
      case rel => exact ⟨k + 1, by omega, by go_num, by rw [HS.out], HO.out, HB.out⟩
      case measure => simp [intOf]; omega
    · have hke : k = xs.length := by omega
      subst hke
      have HO := Lib.hid hown2
      have HB := Lib.hid hbel
      clear hown2 hbel hc3
      go_wp2
      go_ret
      have h0 := HO.out
      have e := frontL_full (standsI xs n)
      rw [hl.out] at e
      rw [e] at h0
      exact ⟨_, rfl, by rw [hl.out]; exact h0, HB1.out.trans (HB.out.mono hsz1)⟩

theorem rdim_any (a : Option Addr) (c hi : Nat) (xs : List Int) (k : Nat) (w : World) (h : Ints .i64 w hi a xs) (hk : k ≤ 1000000) :
    Calls Try.prog 72 #[.slice a xs.length c, .int .i64 (k : Int)] w fun e w' => e = .returned (.int .i64 (dimI xs k)) ∧ w = w' := by
  obtain ⟨hm, _, hc⟩ := h
  by_cases hlt : k < xs.length
  · have HR : Hid (dimI xs k = xs[xs.length - 1 - k]?.getD 0) := by
      unfold dimI
      rw [if_pos hlt]; rfl
    obtain ⟨b, off, rfl, _, hcell⟩ := hc (xs.length - 1 - k) (by omega)
    clear hc
    have h1 : 0 ≤ (xs.length : Int) - 1 - (k : Int) := by omega
    have h2 : (xs.length : Int) - 1 - (k : Int) < xs.length := by omega
    have h3 : (xs.length : Int) - 1 - (k : Int) ≤ 9223372036854775807 := by omega
    go_enter Try.func72, Try.ntmps72
    go_wp2
    go_ret
    exact ⟨ret_int (by rw [HR.out]), rfl⟩
  · have HR : Hid (dimI xs k = 1) := by
      unfold dimI
      rw [if_neg hlt]; rfl
    go_enter Try.func72, Try.ntmps72
    go_wp2
    go_ret
    exact ⟨ret_int HR.out.symm, rfl⟩

theorem meetB_eq (x y : Int) : meetB x y = !(x != y && (x != 1 && y != 1)) := by
  unfold meetB
  by_cases h1 : x = y <;> by_cases h2 : x = 1 <;> by_cases h3 : y = 1 <;> simp [h1, h2, h3, bne, Bool.or_assoc]

/-- What a spread hands back. -/
def RetSpread (w : World) (xs ys : List Int) (e : Ending) (w' : World) : Prop :=
  ∃ v, e = .returned (.tuple #[v, .int .i64 (spreadE xs ys)]) ∧ w'.ownsRow w.heap.size 3 1 v (spreadR xs ys).length ((spreadR xs ys).map (Value.int .i64)) ∧ Below w.heap.size w w'

theorem spread_shape {xs ys : List Int} (k : Nat) (hk : k < max xs.length ys.length) (h : meetB (dimI xs k) (dimI ys k) = false) : spreadE xs ys = 2 ∧ spreadR xs ys = [] := by
  have hm : meetsB xs ys = false := by
    cases hm : meetsB xs ys with
    | false => rfl
    | true => have := (meetsB_iff xs ys).1 hm k hk; rw [h] at this; cases this
  have he : spreadE xs ys = 2 := by simp [spreadE, hm]
  exact ⟨he, by simp [spreadR, he]⟩
theorem spread_all {xs ys : List Int} (h : ∀ k, k < max xs.length ys.length → meetB (dimI xs k) (dimI ys k) = true) :
    (goodB (spreadL xs ys) = true → spreadE xs ys = 0 ∧ spreadR xs ys = spreadL xs ys) ∧ (goodB (spreadL xs ys) = false → spreadE xs ys = 5 ∧ spreadR xs ys = []) := by
  have hm := (meetsB_iff xs ys).2 h
  constructor
  · intro hg
    have he : spreadE xs ys = 0 := by simp [spreadE, hm, hg]
    exact ⟨he, by simp [spreadR, he]⟩
  · intro hg
    have he : spreadE xs ys = 5 := by simp [spreadE, hm, hg]
    exact ⟨he, by simp [spreadR, he]⟩

theorem dimI_bound {xs : List Int} (h : Dims xs) (k : Nat) : 1 ≤ dimI xs k ∧ dimI xs k ≤ 4096 := by
  unfold dimI
  split
  · rename_i hk
    have := h.at (k := xs.length - 1 - k) (by omega)
    rw [List.getElem?_eq_getElem (by omega)]
    exact this
  · omega

theorem spreadL_dims {xs ys : List Int} (hx : Dims xs) (hy : Dims ys) : Dims (spreadL xs ys) := by
  intro d hd
  obtain ⟨k, hk, he⟩ := List.getElem_of_mem hd
  rw [spreadL_length] at hk
  have h1 := spreadL_get xs ys k hk
  rw [List.getElem?_eq_getElem (by rw [spreadL_length]; exact hk), he] at h1
  have a := dimI_bound hx (max xs.length ys.length - 1 - k)
  have b := dimI_bound hy (max xs.length ys.length - 1 - k)
  simp at h1
  omega

set_option maxHeartbeats 1000000 in
theorem rspread_any (a a2 : Option Addr) (c c2 : Nat) (xs ys : List Int) (w : World) (h : Ints .i64 w w.heap.size a xs) (h2 : Ints .i64 w w.heap.size a2 ys) (hx : goodB xs = true) (hy : goodB ys = true) :
    Calls Try.prog 43 #[.slice a xs.length c, .slice a2 ys.length c2] w (RetSpread w xs ys) := by
  have h4 := (goodB_iff.1 hx).1
  have h42 := (goodB_iff.1 hy).1
  have hD1 := goodB_dims hx
  have hD2 := goodB_dims hy
  clear hx hy
  have main : ∀ n : Nat, n = max xs.length ys.length → (xs.length < ys.length ∧ n = ys.length) ∨ (¬ xs.length < ys.length ∧ n = xs.length) →
      Calls Try.prog 43 #[.slice a xs.length c, .slice a2 ys.length c2] w (RetSpread w xs ys) := by
    intro n hn hcase
    have HSL : Hid ((spreadL xs ys).length = n) := by rw [hn]; exact spreadL_length xs ys
    have hn4 : n ≤ 4 := by omega
    have hDS := Lib.hid (spreadL_dims hD1 hD2)
    rcases hcase with ⟨hd, rfl⟩ | ⟨hd, rfl⟩
    · have HN := Lib.hid hn
      clear hn
      go_enter Try.func43, Try.ntmps43
      go_wp2_with (at_make; (refine wpl_make 46 3 .i64 infoInt Try.underlying46 w.heap.size _ _ _ _ _ rfl rfl rfl rfl rfl rfl (by omega) (Nat.le_refl _) ?_); intro w1 hown hgrow _)
      go_loopw [8] (fun i wr => ∃ k : Nat, k ≤ ys.length ∧ i = .int .i64 k ∧ (∀ j, j < k → meetB (dimI xs j) (dimI ys j) = true) ∧ wr.ownsRow w.heap.size 3 1 (.slice (some ⟨w.heap.size, 0, none⟩) ys.length ys.length) ys.length ((backL (spreadL xs ys) (ys.length - k)).map (Value.int .i64)) ∧ Below w.heap.size w wr) (fun i _ => ys.length - (intOf i).toNat)
      case atStart =>
        refine ⟨0, Nat.zero_le _, rfl, by simp, ?_, hgrow _ (Nat.le_refl _)⟩
        have e := backL_full (spreadL xs ys)
        rw [HSL.out] at e
        rw [Nat.sub_zero, e]
        exact hown
      case round =>
        obtain ⟨k, hk, rfl, hall, hown2, hbel⟩ := hrel
        clear hown hgrow
        have HA := Lib.hid hall
        have HB := Lib.hid hbel
        clear hall
        by_cases hlt : k < ys.length
        · have hix := h.below HB.out (Nat.le_refl _)
          have hiy := h2.below HB.out (Nat.le_refl _)
          have H1 := Lib.hid (rdim_any a c w.heap.size xs k wr hix (by omega))
          have H2 := Lib.hid (rdim_any a2 c2 w.heap.size ys k wr hiy (by omega))
          have hx1 := dimI_bound hD1 k
          have hy1 := dimI_bound hD2 k
          have hold : wr.cell? ⟨w.heap.size, ys.length - 1 - k, none⟩ = some (.int .i64 ((backL (spreadL xs ys) (ys.length - k))[ys.length - 1 - k]?.getD 0)) := own_cell hown2 (by omega)
          have hfr := hown2.frozenAt (ys.length - 1 - k)
          have HO : Hid ((wr.setCell ⟨w.heap.size, ys.length - 1 - k, none⟩ (.int .i64 (max (dimI xs k) (dimI ys k)))).ownsRow w.heap.size 3 1 (.slice (some ⟨w.heap.size, 0, none⟩) ys.length ys.length) ys.length ((backL (spreadL xs ys) (ys.length - (k + 1))).map (Value.int .i64))) := by
            have h0 := (hown2.stored (ys.length - 1 - k) (.int .i64 (max (dimI xs k) (dimI ys k)))).1
            have hgx := spreadL_get xs ys (ys.length - 1 - k) (by have := HN.out; omega)
            rw [← HN.out, show ys.length - 1 - (ys.length - 1 - k) = k by omega] at hgx
            rw [map_set, show ys.length - k = (ys.length - 1 - k) + 1 by omega, backL_set _ (ys.length - 1 - k) (by rw [HSL.out]; omega) _ hgx, show ys.length - 1 - k = ys.length - (k + 1) by omega] at h0
            rw [show ys.length - 1 - k = ys.length - (k + 1) by omega]
            exact h0
          have HBS := Lib.hid (HB.out.setCell (p := ⟨w.heap.size, ys.length - 1 - k, none⟩) (Nat.le_refl _) (.int .i64 (max (dimI xs k) (dimI ys k))))
          have HM : Hid (meetB (dimI xs k) (dimI ys k) = !(dimI xs k != dimI ys k && (dimI xs k != 1 && dimI ys k != 1))) := meetB_eq _ _
          have HR : Hid (meetB (dimI xs k) (dimI ys k) = false → spreadE xs ys = 2 ∧ spreadR xs ys = []) := spread_shape k (by have := HN.out; omega)
          have HAN : Hid (meetB (dimI xs k) (dimI ys k) = true → ∀ j, j < k + 1 → meetB (dimI xs j) (dimI ys j) = true) := by
            intro hm j hj
            by_cases e : j = k
            · subst e; exact hm
            · exact HA.out j (by omega)
          have hz0 : 0 ≤ (ys.length : Int) - 1 - (k : Int) := by omega
          clear hown2 hbel hix hiy h h2
          go_wp2_with fail
          refine H1.out.mono ?_
          rintro e w' ⟨rfl, rfl⟩
          go_wp2_with fail
          refine H2.out.mono ?_
          rintro e w' ⟨rfl, rfl⟩
          clear H1 H2
          generalize dimI xs k = x at *
          generalize dimI ys k = y at *
          have HMX : Hid (max x y = if x < y then y else x) := by unfold Hid; split <;> omega
          cases hb1 : (x != y) <;> cases hb2 : (x != 1) <;> cases hb3 : (y != 1)
          all_goals
            have HM2 := HM.out
            rw [hb1, hb2, hb3] at HM2
            simp only [Bool.and_true, Bool.and_false, Bool.true_and, Bool.false_and, Bool.not_true, Bool.not_false] at HM2
            have HM3 := Lib.hid HM2
            clear HM2 HM
          all_goals
            first
            | (go_wp2_with fail
               go_ret2
               exact ⟨.slice none 0 0, by rw [(HR.out HM3.out).1]; rfl, by rw [(HR.out HM3.out).2]; exact World.ownsRow_nil _ _ _ _, HB.out⟩)
            | (by_cases hxy : x < y
               all_goals
                have HX := Lib.hid HMX.out
                simp only [Hid, hxy, if_true, if_false] at HX
                have HX2 := Lib.hid HX
                rw [HX2.out] at HO HBS
                clear HX
                go_wp2_with fail
                go_roundw
                case rel => exact ⟨k + 1, by omega, by go_num, HAN.out HM3.out, HO.out, HBS.out⟩
                case measure => simp [intOf]; omega)
        · have hke : k = ys.length := by omega
          subst hke
          rw [Nat.sub_self, backL_zero] at hown2
          have HO := Lib.hid hown2
          have hsp := spread_all (xs := xs) (ys := ys) (by rw [← HN.out]; exact HA.out)
          obtain ⟨aS, cS, heS, hiS⟩ := own_ints hown2 (wf_dims (fun x hx => by have := hDS.out x hx; omega))
          rw [HSL.out] at heS
          injection heS with he1 he2 he3
          subst he1; subst he3
          have HM := Lib.hid (rmay_any _ ys.length _ _ wr hiS)
          rw [HSL.out] at HM
          clear hown2 hbel h h2 hiS HA
          cases hgs : goodB (spreadL xs ys)
          · have hs := hsp.2 hgs
            rw [hgs] at HM
            have HS := Lib.hid hs
            clear hs hsp hgs
            go_wp2_with (go_at_call 26; refine HM.out.mono ?_; rintro e w' ⟨rfl, rfl⟩)
            go_ret2
            exact ⟨.slice none 0 0, by rw [HS.out.1]; rfl, by rw [HS.out.2]; exact World.ownsRow_nil _ _ _ _, HB.out⟩
          · have hs := hsp.1 hgs
            rw [hgs] at HM
            have HS := Lib.hid hs
            clear hs hsp hgs
            go_wp2_with (go_at_call 26; refine HM.out.mono ?_; rintro e w' ⟨rfl, rfl⟩)
            go_ret2
            exact ⟨_, by rw [HS.out.1]; rfl, by rw [HS.out.2, HSL.out]; exact HO.out, HB.out⟩
    · have HN := Lib.hid hn
      clear hn
      go_enter Try.func43, Try.ntmps43
      go_wp2_with (at_make; (refine wpl_make 46 3 .i64 infoInt Try.underlying46 w.heap.size _ _ _ _ _ rfl rfl rfl rfl rfl rfl (by omega) (Nat.le_refl _) ?_); intro w1 hown hgrow _)
      go_loopw [8] (fun i wr => ∃ k : Nat, k ≤ xs.length ∧ i = .int .i64 k ∧ (∀ j, j < k → meetB (dimI xs j) (dimI ys j) = true) ∧ wr.ownsRow w.heap.size 3 1 (.slice (some ⟨w.heap.size, 0, none⟩) xs.length xs.length) xs.length ((backL (spreadL xs ys) (xs.length - k)).map (Value.int .i64)) ∧ Below w.heap.size w wr) (fun i _ => xs.length - (intOf i).toNat)
      case atStart =>
        refine ⟨0, Nat.zero_le _, rfl, by simp, ?_, hgrow _ (Nat.le_refl _)⟩
        have e := backL_full (spreadL xs ys)
        rw [HSL.out] at e
        rw [Nat.sub_zero, e]
        exact hown
      case round =>
        obtain ⟨k, hk, rfl, hall, hown2, hbel⟩ := hrel
        clear hown hgrow
        have HA := Lib.hid hall
        have HB := Lib.hid hbel
        clear hall
        by_cases hlt : k < xs.length
        · have hix := h.below HB.out (Nat.le_refl _)
          have hiy := h2.below HB.out (Nat.le_refl _)
          have H1 := Lib.hid (rdim_any a c w.heap.size xs k wr hix (by omega))
          have H2 := Lib.hid (rdim_any a2 c2 w.heap.size ys k wr hiy (by omega))
          have hx1 := dimI_bound hD1 k
          have hy1 := dimI_bound hD2 k
          have hold : wr.cell? ⟨w.heap.size, xs.length - 1 - k, none⟩ = some (.int .i64 ((backL (spreadL xs ys) (xs.length - k))[xs.length - 1 - k]?.getD 0)) := own_cell hown2 (by omega)
          have hfr := hown2.frozenAt (xs.length - 1 - k)
          have HO : Hid ((wr.setCell ⟨w.heap.size, xs.length - 1 - k, none⟩ (.int .i64 (max (dimI xs k) (dimI ys k)))).ownsRow w.heap.size 3 1 (.slice (some ⟨w.heap.size, 0, none⟩) xs.length xs.length) xs.length ((backL (spreadL xs ys) (xs.length - (k + 1))).map (Value.int .i64))) := by
            have h0 := (hown2.stored (xs.length - 1 - k) (.int .i64 (max (dimI xs k) (dimI ys k)))).1
            have hgx := spreadL_get xs ys (xs.length - 1 - k) (by have := HN.out; omega)
            rw [← HN.out, show xs.length - 1 - (xs.length - 1 - k) = k by omega] at hgx
            rw [map_set, show xs.length - k = (xs.length - 1 - k) + 1 by omega, backL_set _ (xs.length - 1 - k) (by rw [HSL.out]; omega) _ hgx, show xs.length - 1 - k = xs.length - (k + 1) by omega] at h0
            rw [show xs.length - 1 - k = xs.length - (k + 1) by omega]
            exact h0
          have HBS := Lib.hid (HB.out.setCell (p := ⟨w.heap.size, xs.length - 1 - k, none⟩) (Nat.le_refl _) (.int .i64 (max (dimI xs k) (dimI ys k))))
          have HM : Hid (meetB (dimI xs k) (dimI ys k) = !(dimI xs k != dimI ys k && (dimI xs k != 1 && dimI ys k != 1))) := meetB_eq _ _
          have HR : Hid (meetB (dimI xs k) (dimI ys k) = false → spreadE xs ys = 2 ∧ spreadR xs ys = []) := spread_shape k (by have := HN.out; omega)
          have HAN : Hid (meetB (dimI xs k) (dimI ys k) = true → ∀ j, j < k + 1 → meetB (dimI xs j) (dimI ys j) = true) := by
            intro hm j hj
            by_cases e : j = k
            · subst e; exact hm
            · exact HA.out j (by omega)
          have hz0 : 0 ≤ (xs.length : Int) - 1 - (k : Int) := by omega
          clear hown2 hbel hix hiy h h2
          go_wp2_with fail
          refine H1.out.mono ?_
          rintro e w' ⟨rfl, rfl⟩
          go_wp2_with fail
          refine H2.out.mono ?_
          rintro e w' ⟨rfl, rfl⟩
          clear H1 H2
          generalize dimI xs k = x at *
          generalize dimI ys k = y at *
          have HMX : Hid (max x y = if x < y then y else x) := by unfold Hid; split <;> omega
          cases hb1 : (x != y) <;> cases hb2 : (x != 1) <;> cases hb3 : (y != 1)
          all_goals
            have HM2 := HM.out
            rw [hb1, hb2, hb3] at HM2
            simp only [Bool.and_true, Bool.and_false, Bool.true_and, Bool.false_and, Bool.not_true, Bool.not_false] at HM2
            have HM3 := Lib.hid HM2
            clear HM2 HM
          all_goals
            first
            | (go_wp2_with fail
               go_ret2
               exact ⟨.slice none 0 0, by rw [(HR.out HM3.out).1]; rfl, by rw [(HR.out HM3.out).2]; exact World.ownsRow_nil _ _ _ _, HB.out⟩)
            | (by_cases hxy : x < y
               all_goals
                have HX := Lib.hid HMX.out
                simp only [Hid, hxy, if_true, if_false] at HX
                have HX2 := Lib.hid HX
                rw [HX2.out] at HO HBS
                clear HX
                go_wp2_with fail
                go_roundw
                case rel => exact ⟨k + 1, by omega, by go_num, HAN.out HM3.out, HO.out, HBS.out⟩
                case measure => simp [intOf]; omega)
        · have hke : k = xs.length := by omega
          subst hke
          rw [Nat.sub_self, backL_zero] at hown2
          have HO := Lib.hid hown2
          have hsp := spread_all (xs := xs) (ys := ys) (by rw [← HN.out]; exact HA.out)
          obtain ⟨aS, cS, heS, hiS⟩ := own_ints hown2 (wf_dims (fun x hx => by have := hDS.out x hx; omega))
          rw [HSL.out] at heS
          injection heS with he1 he2 he3
          subst he1; subst he3
          have HM := Lib.hid (rmay_any _ xs.length _ _ wr hiS)
          rw [HSL.out] at HM
          clear hown2 hbel h h2 hiS HA
          cases hgs : goodB (spreadL xs ys)
          · have hs := hsp.2 hgs
            rw [hgs] at HM
            have HS := Lib.hid hs
            clear hs hsp hgs
            go_wp2_with (go_at_call 26; refine HM.out.mono ?_; rintro e w' ⟨rfl, rfl⟩)
            go_ret2
            exact ⟨.slice none 0 0, by rw [HS.out.1]; rfl, by rw [HS.out.2]; exact World.ownsRow_nil _ _ _ _, HB.out⟩
          · have hs := hsp.1 hgs
            rw [hgs] at HM
            have HS := Lib.hid hs
            clear hs hsp hgs
            go_wp2_with (go_at_call 26; refine HM.out.mono ?_; rintro e w' ⟨rfl, rfl⟩)
            go_ret2
            exact ⟨_, by rw [HS.out.1]; rfl, by rw [HS.out.2, HSL.out]; exact HO.out, HB.out⟩
  by_cases hlt : xs.length < ys.length
  · exact main _ rfl (.inl ⟨hlt, by omega⟩)
  · exact main _ rfl (.inr ⟨hlt, by omega⟩)

end Go.Proofs.Ytiejkdnkdmanmaa
