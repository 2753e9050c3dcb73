/- Walks: shape.Both, Spread, Lies, Under; the reference's Goes, Under. -/
import Derived.Test.YtiejkdnkdmanmaaShapeW6
set_option linter.unusedVariables false
set_option linter.unusedSimpArgs false
namespace Go.Proofs.Ytiejkdnkdmanmaa
open Go.RowKit Go.Rt

set_option maxHeartbeats 2000000 in
theorem both_any (a a2 : Option Addr) (c c2 : Nat) (xs ys : List Int) (w : World) (h : Ints .i64 w w.heap.size a xs) (h2 : Ints .i64 w w.heap.size a2 ys) (hx : goodB xs = true) (hy : goodB ys = true) :
    Calls Try.prog 73 #[.slice a xs.length c, .slice a2 ys.length c2] w (RetSpread w xs ys) := by
  have h4 := (goodB_iff.1 hx).1
  have h42 := (goodB_iff.1 hy).1
  have hD1 := goodB_dims hx
  have hD2 := goodB_dims hy
  clear hx hy
  have HSL : Hid ((spreadL xs ys).length = max xs.length ys.length) := spreadL_length xs ys
  have hDS := Lib.hid (spreadL_dims hD1 hD2)
  obtain ⟨N, hN⟩ : ∃ N, N = max xs.length ys.length := ⟨_, rfl⟩
  have hmax : (if xs.length < ys.length then (ys.length : Int) else (xs.length : Int)) = (N : Int) := by split <;> omega
  rw [← hN] at HSL
  have hN4 : N ≤ 4 := by omega
  have HN := Lib.hid hN
  clear hN
  go_enter Try.func73, Try.ntmps73
  go_wp2_with fail
  go_step3
  go_wp2_with (at_make; (refine wpl_make 46 3 .i64 infoInt Try.underlying46 w.heap.size N _ _ _ _ rfl rfl rfl rfl (by first | rfl | exact hmax) (by first | rfl | exact hmax) (by omega) (Nat.le_refl _) ?_); intro w1 hown hgrow _)
  go_step3
  go_wp2_with fail
  go_loopw [7, 19] (fun e i wr => ∃ k : Nat, k ≤ N ∧ i = .int .i64 k ∧ e = .int .i64 0 ∧ (∀ j, j < k → meetB (dimI xs (N - 1 - j)) (dimI ys (N - 1 - j)) = true) ∧ wr.ownsRow w.heap.size 3 1 (.slice (some ⟨w.heap.size, 0, none⟩) N N) N ((frontL (spreadL xs ys) k).map (Value.int .i64)) ∧ Below w.heap.size w wr) (fun _ i _ => N - (intOf i).toNat)
  case atStart =>
    refine ⟨0, Nat.zero_le _, rfl, rfl, by simp, ?_, hgrow _ (Nat.le_refl _)⟩
    have e := frontL_zero (spreadL xs ys)
    rw [HSL.out] at e
    rw [e]
    exact hown
  case round =>
    obtain ⟨k, hk, rfl, rfl, hall, hown2, hbel⟩ := hrel
    clear hown hgrow hmax
    have HA := Lib.hid hall
    have HB := Lib.hid hbel
    clear hall
    by_cases hlt : k < N
    · have hix := h.below HB.out (Nat.le_refl _)
      have hiy := h2.below HB.out (Nat.le_refl _)
      have hK : (-1 - ((k : Int) - (N : Int))).toNat = N - 1 - k := by omega
      have H1 := dim_any a c w.heap.size xs ((k : Int) - (N : Int)) wr hix (by omega) (by omega)
      have H2 := dim_any a2 c2 w.heap.size ys ((k : Int) - (N : Int)) wr hiy (by omega) (by omega)
      rw [hK] at H1 H2
      replace H1 := Lib.hid H1
      replace H2 := Lib.hid H2
      clear hK
      have hold : wr.cell? ⟨w.heap.size, k, none⟩ = some (.int .i64 ((frontL (spreadL xs ys) k)[k]?.getD 0)) := own_cell hown2 (by omega)
      have hfr := hown2.frozenAt k
      have HO : Hid ((wr.setCell ⟨w.heap.size, k, none⟩ (.int .i64 (max (dimI xs (N - 1 - k)) (dimI ys (N - 1 - k))))).ownsRow w.heap.size 3 1 (.slice (some ⟨w.heap.size, 0, none⟩) N N) N ((frontL (spreadL xs ys) (k + 1)).map (Value.int .i64))) := by
        have h0 := (hown2.stored k (.int .i64 (max (dimI xs (N - 1 - k)) (dimI ys (N - 1 - k))))).1
        have hgx := spreadL_get xs ys k (by have := HN.out; omega)
        rw [← HN.out] at hgx
        rw [map_set, frontL_set _ k (by rw [HSL.out]; omega) _ hgx] at h0
        exact h0
      have HBS := Lib.hid (HB.out.setCell (p := ⟨w.heap.size, k, none⟩) (Nat.le_refl _) (.int .i64 (max (dimI xs (N - 1 - k)) (dimI ys (N - 1 - k)))))
      have HM : Hid (meetB (dimI xs (N - 1 - k)) (dimI ys (N - 1 - k)) = !(dimI xs (N - 1 - k) != dimI ys (N - 1 - k) && (dimI xs (N - 1 - k) != 1 && dimI ys (N - 1 - k) != 1))) := meetB_eq _ _
      have HR : Hid (meetB (dimI xs (N - 1 - k)) (dimI ys (N - 1 - k)) = false → spreadE xs ys = 2 ∧ spreadR xs ys = []) := spread_shape (N - 1 - k) (by have := HN.out; omega)
      have HAN : Hid (meetB (dimI xs (N - 1 - k)) (dimI ys (N - 1 - k)) = true → ∀ j, j < k + 1 → meetB (dimI xs (N - 1 - j)) (dimI ys (N - 1 - j)) = true) := by
        intro hm j hj
        by_cases e : j = k
        · subst e; exact hm
        · exact HA.out j (by omega)
      clear hown2 hbel hix hiy h h2
      go_wp2_with fail
      refine H1.out.mono ?_
      rintro e w' ⟨rfl, rfl⟩
      go_wp2_with fail
      refine H2.out.mono ?_
      rintro e w' ⟨rfl, rfl⟩
      clear H1 H2
      generalize dimI xs (N - 1 - k) = x at *
      generalize dimI ys (N - 1 - k) = y at *
      obtain ⟨m, hm1, hm2⟩ : ∃ m, (x < y ∧ m = y ∨ ¬ x < y ∧ m = x) ∧ max x y = m := ⟨max x y, by omega, rfl⟩
      rw [hm2] at HO HBS
      clear hm2
      rcases hm1 with ⟨hxy, hmm⟩ | ⟨hxy, hmm⟩
      all_goals
        subst m
        have hb1 : (x == y) = !(x != y) := by simp [bne]
        have hb2 : (x == 1) = !(x != 1) := by simp [bne]
        have hb3 : (y == 1) = !(y != 1) := by simp [bne]
        cases hc1 : (x != y) <;> cases hc2 : (x != 1) <;> cases hc3 : (y != 1)
        all_goals
          rw [hc1] at hb1
          rw [hc2] at hb2
          rw [hc3] at hb3
          simp only [Bool.not_true, Bool.not_false] at hb1 hb2 hb3
          have HM2 := HM.out
          rw [hc1, hc2, hc3] at HM2
          simp only [Bool.and_true, Bool.and_false, Bool.true_and, Bool.false_and, Bool.not_true, Bool.not_false] at HM2
          have HM3 := Lib.hid HM2
          clear HM2 HM hc1 hc2 hc3
        all_goals
          first
          | (go_wp2_with fail
             go_roundw
             case rel => exact ⟨k + 1, by omega, by go_num, rfl, HAN.out HM3.out, HO.out, HBS.out⟩
             case measure => simp [intOf]; omega)
          | (go_wp2_with fail
             try rw [Exit.noGoto_ret]
             go_ret2
             exact ⟨.slice none 0 0, by rw [(HR.out HM3.out).1]; rfl, by rw [(HR.out HM3.out).2]; exact World.ownsRow_nil _ _ _ _, HBS.out⟩)
    · have hke : k = N := by omega
      subst hke
      have he := frontL_full (spreadL xs ys)
      rw [HSL.out] at he
      rw [he] at hown2
      have HO := Lib.hid hown2
      have hsp := spread_all (xs := xs) (ys := ys) (by
        rw [← HN.out]
        intro j hj
        have := HA.out (k - 1 - j) (by omega)
        rw [show k - 1 - (k - 1 - j) = j by omega] at this
        exact this)
      obtain ⟨aS, cS, heS, hiS⟩ := own_ints hown2 (wf_dims (fun x hx => by have := hDS.out x hx; omega))
      rw [HSL.out] at heS
      injection heS with he1 he2 he3
      subst he1; subst he3
      have HM := Lib.hid (good_any _ k _ _ wr hiS)
      rw [HSL.out] at HM
      clear hown2 hbel h h2 hiS HA he
      cases hgs : goodB (spreadL xs ys)
      · have hs := hsp.2 hgs
        rw [hgs] at HM
        have HS := Lib.hid hs
        clear hs hsp hgs
        go_wp2_with (go_at_call 66; refine HM.out.mono ?_; rintro e w' ⟨rfl, rfl⟩)
        try rw [Exit.noGoto_ret]
        go_ret2
        exact ⟨.slice none 0 0, by rw [HS.out.1]; rfl, by rw [HS.out.2]; exact World.ownsRow_nil _ _ _ _, HB.out⟩
      · have hs := hsp.1 hgs
        rw [hgs] at HM
        have HS := Lib.hid hs
        clear hs hsp hgs
        go_wp2_with (go_at_call 66; refine HM.out.mono ?_; rintro e w' ⟨rfl, rfl⟩)
        try rw [Exit.noGoto_ret]
        go_ret2
        exact ⟨_, by rw [HS.out.1]; rfl, by rw [HS.out.2, HSL.out]; exact HO.out, HB.out⟩

end Go.Proofs.Ytiejkdnkdmanmaa
