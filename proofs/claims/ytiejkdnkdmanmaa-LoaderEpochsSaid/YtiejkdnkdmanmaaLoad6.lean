/- Walks: the reference's cursors. -/
import Derived.Test.YtiejkdnkdmanmaaLoad5
set_option linter.unusedVariables false
set_option linter.unusedSimpArgs false
namespace Go.Proofs.Ytiejkdnkdmanmaa
open Go.RowKit Go.Rt
def eqC (xs : List Int) (at_ ep : Int) (ys : List Int) (bt fp : Int) : Bool := decide (xs = ys) && (decide (at_ = bt) && decide (ep = fp))
theorem eqC_iff {xs ys : List Int} {at_ ep bt fp : Int} : eqC xs at_ ep ys bt fp = true ↔ xs = ys ∧ at_ = bt ∧ ep = fp := by simp [eqC]
/-- A cursor of one's own. -/
def RetCur (w : World) (xs : List Int) (at_ ep : Int) (e : Ending) (w' : World) : Prop :=
  ∃ a c, e = .returned (.agg #[.slice a xs.length c, .int .i64 at_, .int .i64 ep]) ∧ Fr w.heap.size w w' [] [] [⟨3, .slice a xs.length c, xs.length, xs.map (Value.int .i64)⟩] []
theorem num31_any (x : Int) (w : World) : Calls Try.prog 51 #[.int .i64 x] w fun e w' => e = .returned (.int .i64 x) ∧ w = w' := by
  go_enter Try.func51, Try.ntmps51
  go_wp2
  go_ret
  exact ⟨rfl, rfl⟩


set_option maxHeartbeats 1000000 in
theorem eqCursor_any (a a2 : Option Addr) (c c2 : Nat) (xs ys : List Int) (at_ ep bt fp : Int) (w : World) (h : Ints .i64 w w.heap.size a xs) (h2 : Ints .i64 w w.heap.size a2 ys) :
    Calls Try.prog 52 #[.agg #[.slice a xs.length c, .int .i64 at_, .int .i64 ep], .agg #[.slice a2 ys.length c2, .int .i64 bt, .int .i64 fp]] w fun e w' => e = .returned (.bool (eqC xs at_ ep ys bt fp)) ∧ Below w.heap.size w w' := by
  have HX := Lib.hid h
  have HY := Lib.hid h2
  have heq := Lib.hid (fun W (h : Ints .i64 W w.heap.size a xs) (h2 : Ints .i64 W w.heap.size a2 ys) => eqNumbers_any a a2 c c2 w.heap.size xs ys W h h2)
  clear h h2
  by_cases hx : xs = ys
  · have hd : decide (xs = ys) = true := by simp [hx]
    have HXX := Lib.hid hx
    rw [hd] at heq
    clear hx hd
    by_cases h1 : at_ = bt
    · have e1 : (at_ == bt) = true := by simp [h1]
      by_cases h2 : ep = fp
      · have e2 : (ep == fp) = true := by simp [h2]
        have HE : Hid (eqC xs at_ ep ys bt fp = true) := Lib.hid (eqC_iff.2 ⟨HXX.out, h1, h2⟩)
        clear h1 h2
        go_enter Try.func52, Try.ntmps52
        have F1 := Lib.hid (((Fr.start (w := w) (I := [(.i64, a, xs), (.i64, a2, ys)]) (by intro p hp; simp at hp; rcases hp with rfl | rfl; exact HX.out; exact HY.out)).box1 (b := w.heap.size) (by simp) [.slice a xs.length c, .int .i64 at_, .int .i64 ep] 73).box1 (b := w.heap.size + 1) (by simp) [.slice a2 ys.length c2, .int .i64 bt, .int .i64 fp] 73)
        simp only [List.nil_append, List.cons_append] at F1
        go_upto_region 1 with fail
        obtain ⟨W0, hW0⟩ : ∃ W0, ((w.alloc (.cells #[.slice a xs.length c, .int .i64 at_, .int .i64 ep] 73)).alloc (.cells #[.slice a2 ys.length c2, .int .i64 bt, .int .i64 fp] 73)) = W0 := ⟨_, rfl⟩
        rw [hW0] at F1 ⊢
        clear hW0
        have c0_0 := F1.out.c 0 0 rfl rfl
        have c0_1 := F1.out.c 0 1 rfl rfl
        have c0_2 := F1.out.c 0 2 rfl rfl
        have c1_0 := F1.out.c 1 0 rfl rfl
        have c1_1 := F1.out.c 1 1 rfl rfl
        have c1_2 := F1.out.c 1 2 rfl rfl
        go_wp2_with (go_at_call 34; refine (heq.out _ (F1.out.l 0 rfl) (F1.out.l 1 rfl)).mono ?_; rintro e w1 ⟨rfl, q, rfl⟩; have F2 := Lib.hid (F1.out.drewN q); clear c0_0 c0_1 c0_2 c1_0 c1_1 c1_2; have d0_0 := F2.out.c 0 0 rfl rfl; have d0_1 := F2.out.c 0 1 rfl rfl; have d0_2 := F2.out.c 0 2 rfl rfl; have d1_0 := F2.out.c 1 0 rfl rfl; have d1_1 := F2.out.c 1 1 rfl rfl; have d1_2 := F2.out.c 1 2 rfl rfl)
        go_ret
        exact ⟨ret_bool HE.out.symm, F2.out.bel⟩
      · have e2 : (ep == fp) = false := by simp [h2]
        have HE : Hid (eqC xs at_ ep ys bt fp = false) := Lib.hid (by simp [eqC, h2])
        clear h1 h2
        go_enter Try.func52, Try.ntmps52
        have F1 := Lib.hid (((Fr.start (w := w) (I := [(.i64, a, xs), (.i64, a2, ys)]) (by intro p hp; simp at hp; rcases hp with rfl | rfl; exact HX.out; exact HY.out)).box1 (b := w.heap.size) (by simp) [.slice a xs.length c, .int .i64 at_, .int .i64 ep] 73).box1 (b := w.heap.size + 1) (by simp) [.slice a2 ys.length c2, .int .i64 bt, .int .i64 fp] 73)
        simp only [List.nil_append, List.cons_append] at F1
        go_upto_region 1 with fail
        obtain ⟨W0, hW0⟩ : ∃ W0, ((w.alloc (.cells #[.slice a xs.length c, .int .i64 at_, .int .i64 ep] 73)).alloc (.cells #[.slice a2 ys.length c2, .int .i64 bt, .int .i64 fp] 73)) = W0 := ⟨_, rfl⟩
        rw [hW0] at F1 ⊢
        clear hW0
        have c0_0 := F1.out.c 0 0 rfl rfl
        have c0_1 := F1.out.c 0 1 rfl rfl
        have c0_2 := F1.out.c 0 2 rfl rfl
        have c1_0 := F1.out.c 1 0 rfl rfl
        have c1_1 := F1.out.c 1 1 rfl rfl
        have c1_2 := F1.out.c 1 2 rfl rfl
        go_wp2_with (go_at_call 34; refine (heq.out _ (F1.out.l 0 rfl) (F1.out.l 1 rfl)).mono ?_; rintro e w1 ⟨rfl, q, rfl⟩; have F2 := Lib.hid (F1.out.drewN q); clear c0_0 c0_1 c0_2 c1_0 c1_1 c1_2; have d0_0 := F2.out.c 0 0 rfl rfl; have d0_1 := F2.out.c 0 1 rfl rfl; have d0_2 := F2.out.c 0 2 rfl rfl; have d1_0 := F2.out.c 1 0 rfl rfl; have d1_1 := F2.out.c 1 1 rfl rfl; have d1_2 := F2.out.c 1 2 rfl rfl)
        go_ret
        exact ⟨ret_bool HE.out.symm, F2.out.bel⟩
    · have e1 : (at_ == bt) = false := by simp [h1]
      have HE : Hid (eqC xs at_ ep ys bt fp = false) := Lib.hid (by simp [eqC, h1])
      clear h1
      go_enter Try.func52, Try.ntmps52
      have F1 := Lib.hid (((Fr.start (w := w) (I := [(.i64, a, xs), (.i64, a2, ys)]) (by intro p hp; simp at hp; rcases hp with rfl | rfl; exact HX.out; exact HY.out)).box1 (b := w.heap.size) (by simp) [.slice a xs.length c, .int .i64 at_, .int .i64 ep] 73).box1 (b := w.heap.size + 1) (by simp) [.slice a2 ys.length c2, .int .i64 bt, .int .i64 fp] 73)
      simp only [List.nil_append, List.cons_append] at F1
      go_upto_region 1 with fail
      obtain ⟨W0, hW0⟩ : ∃ W0, ((w.alloc (.cells #[.slice a xs.length c, .int .i64 at_, .int .i64 ep] 73)).alloc (.cells #[.slice a2 ys.length c2, .int .i64 bt, .int .i64 fp] 73)) = W0 := ⟨_, rfl⟩
      rw [hW0] at F1 ⊢
      clear hW0
      have c0_0 := F1.out.c 0 0 rfl rfl
      have c0_1 := F1.out.c 0 1 rfl rfl
      have c0_2 := F1.out.c 0 2 rfl rfl
      have c1_0 := F1.out.c 1 0 rfl rfl
      have c1_1 := F1.out.c 1 1 rfl rfl
      have c1_2 := F1.out.c 1 2 rfl rfl
      go_wp2_with (go_at_call 34; refine (heq.out _ (F1.out.l 0 rfl) (F1.out.l 1 rfl)).mono ?_; rintro e w1 ⟨rfl, q, rfl⟩; have F2 := Lib.hid (F1.out.drewN q); clear c0_0 c0_1 c0_2 c1_0 c1_1 c1_2; have d0_0 := F2.out.c 0 0 rfl rfl; have d0_1 := F2.out.c 0 1 rfl rfl; have d0_2 := F2.out.c 0 2 rfl rfl; have d1_0 := F2.out.c 1 0 rfl rfl; have d1_1 := F2.out.c 1 1 rfl rfl; have d1_2 := F2.out.c 1 2 rfl rfl)
      go_ret
      exact ⟨ret_bool HE.out.symm, F2.out.bel⟩
  · have hd : decide (xs = ys) = false := by simp [hx]
    have HE : Hid (eqC xs at_ ep ys bt fp = false) := Lib.hid (by simp [eqC, hx])
    rw [hd] at heq
    clear hx hd
    go_enter Try.func52, Try.ntmps52
    have F1 := Lib.hid (((Fr.start (w := w) (I := [(.i64, a, xs), (.i64, a2, ys)]) (by intro p hp; simp at hp; rcases hp with rfl | rfl; exact HX.out; exact HY.out)).box1 (b := w.heap.size) (by simp) [.slice a xs.length c, .int .i64 at_, .int .i64 ep] 73).box1 (b := w.heap.size + 1) (by simp) [.slice a2 ys.length c2, .int .i64 bt, .int .i64 fp] 73)
    simp only [List.nil_append, List.cons_append] at F1
    go_upto_region 1 with fail
    obtain ⟨W0, hW0⟩ : ∃ W0, ((w.alloc (.cells #[.slice a xs.length c, .int .i64 at_, .int .i64 ep] 73)).alloc (.cells #[.slice a2 ys.length c2, .int .i64 bt, .int .i64 fp] 73)) = W0 := ⟨_, rfl⟩
    rw [hW0] at F1 ⊢
    clear hW0
    have c0_0 := F1.out.c 0 0 rfl rfl
    have c0_1 := F1.out.c 0 1 rfl rfl
    have c0_2 := F1.out.c 0 2 rfl rfl
    have c1_0 := F1.out.c 1 0 rfl rfl
    have c1_1 := F1.out.c 1 1 rfl rfl
    have c1_2 := F1.out.c 1 2 rfl rfl
    go_wp2_with (go_at_call 34; refine (heq.out _ (F1.out.l 0 rfl) (F1.out.l 1 rfl)).mono ?_; rintro e w1 ⟨rfl, q, rfl⟩; have F2 := Lib.hid (F1.out.drewN q); clear c0_0 c0_1 c0_2 c1_0 c1_1 c1_2; have d0_0 := F2.out.c 0 0 rfl rfl; have d0_1 := F2.out.c 0 1 rfl rfl; have d0_2 := F2.out.c 0 2 rfl rfl; have d1_0 := F2.out.c 1 0 rfl rfl; have d1_1 := F2.out.c 1 1 rfl rfl; have d1_2 := F2.out.c 1 2 rfl rfl)
    go_ret
    exact ⟨ret_bool HE.out.symm, F2.out.bel⟩

set_option maxHeartbeats 1000000 in
theorem copyCursor_any (a : Option Addr) (c : Nat) (xs : List Int) (at_ ep : Int) (w : World) (h : Ints .i64 w w.heap.size a xs) (hn : xs.length ≤ 17592186044415) :
    Calls Try.prog 55 #[.agg #[.slice a xs.length c, .int .i64 at_, .int .i64 ep]] w (RetCur w xs at_ ep) := by
  have HX := Lib.hid h
  have hcp := Lib.hid (fun W (h : Ints .i64 W W.heap.size a xs) => copyNumbers_any a c xs W h hn)
  clear h
  go_enter Try.func55, Try.ntmps55
  have F1 := Lib.hid (((Fr.start (w := w) (I := [(.i64, a, xs)]) (by intro p hp; simp at hp; subst hp; exact HX.out)).box1 (b := w.heap.size) (by simp) [.slice a xs.length c, .int .i64 at_, .int .i64 ep] 73).box1 (b := w.heap.size + 1) (by simp) [.slice none 0 0, .int .i64 0, .int .i64 0] 73)
  simp only [List.nil_append, List.cons_append] at F1
  go_upto_region 1 with fail
  obtain ⟨W0, hW0⟩ : ∃ W0, ((w.alloc (.cells #[.slice a xs.length c, .int .i64 at_, .int .i64 ep] 73)).alloc (.cells #[.slice none 0 0, .int .i64 0, .int .i64 0] 73)) = W0 := ⟨_, rfl⟩
  rw [hW0] at F1 ⊢
  clear hW0
  have c0_0 := F1.out.c 0 0 rfl rfl
  have c0_1 := F1.out.c 0 1 rfl rfl
  have c0_2 := F1.out.c 0 2 rfl rfl
  have c1_0 := F1.out.c 1 0 rfl rfl
  have c1_1 := F1.out.c 1 1 rfl rfl
  have c1_2 := F1.out.c 1 2 rfl rfl
  have cf1_0 := F1.out.f 1 0 rfl rfl
  have cf1_1 := F1.out.f 1 1 rfl rfl
  have cf1_2 := F1.out.f 1 2 rfl rfl
  go_upto_region 2 with fail
  have hz := (F1.out.bl 1 rfl).2
  obtain ⟨T, hT⟩ : ∃ T, W0.heap.size = T := ⟨_, rfl⟩
  rw [hT] at hz ⊢
  have F2 := Lib.hid (F1.out.box1 (b := T) hT [.slice a xs.length c, .int .i64 at_, .int .i64 ep] 73)
  simp only [List.nil_append, List.cons_append] at F2
  obtain ⟨W2, hW2⟩ : ∃ W2, W0.alloc (.cells #[.slice a xs.length c, .int .i64 at_, .int .i64 ep] 73) = W2 := ⟨_, rfl⟩
  rw [hW2] at F2 ⊢
  clear hW2 hT c0_0 c0_1 c0_2 c1_0 c1_1 c1_2 cf1_0 cf1_1 cf1_2
  have c0_0 := F2.out.c 0 0 rfl rfl
  have c0_1 := F2.out.c 0 1 rfl rfl
  have c0_2 := F2.out.c 0 2 rfl rfl
  have c1_0 := F2.out.c 1 0 rfl rfl
  have c1_1 := F2.out.c 1 1 rfl rfl
  have c1_2 := F2.out.c 1 2 rfl rfl
  have c2_0 := F2.out.c 2 0 rfl rfl
  have c2_1 := F2.out.c 2 1 rfl rfl
  have c2_2 := F2.out.c 2 2 rfl rfl
  have cf2_0 := F2.out.f 2 0 rfl rfl
  have cf2_1 := F2.out.f 2 1 rfl rfl
  have cf2_2 := F2.out.f 2 2 rfl rfl
  go_wp2_with (go_at_call 32; refine (hcp.out _ (F2.out.lw 0 rfl)).mono ?_; rintro e w3 ⟨v, rfl, hown, hb⟩; obtain ⟨ao, co, rfl, _⟩ := own_shape hown; have F3 := Lib.hid (F2.out.addO hb hown); simp only [List.nil_append] at F3; clear hown hb c0_0 c0_1 c0_2 c1_0 c1_1 c1_2 c2_0 c2_1 c2_2 cf2_0 cf2_1 cf2_2; have d1_0 := F3.out.c 1 0 rfl rfl; have d1_1 := F3.out.c 1 1 rfl rfl; have d1_2 := F3.out.c 1 2 rfl rfl; have d2_0 := F3.out.c 2 0 rfl rfl; have d2_1 := F3.out.c 2 1 rfl rfl; have d2_2 := F3.out.c 2 2 rfl rfl; have df1_0 := F3.out.f 1 0 rfl rfl; have df1_1 := F3.out.f 1 1 rfl rfl; have df1_2 := F3.out.f 1 2 rfl rfl; have df2_0 := F3.out.f 2 0 rfl rfl; have df2_1 := F3.out.f 2 1 rfl rfl; have df2_2 := F3.out.f 2 2 rfl rfl)
  have FZ := ((F3.out.setC 2 0 rfl (by simp) (.slice ao xs.length co)).set 1 rfl (by simp) [.slice ao xs.length co, .int .i64 at_, .int .i64 ep] rfl)
  simp only [setL, Nat.reduceAdd, List.set_cons_zero, List.set_cons_succ] at FZ
  have z1_0 := FZ.c 1 0 rfl rfl
  have z1_1 := FZ.c 1 1 rfl rfl
  have z1_2 := FZ.c 1 2 rfl rfl
  (try simp only [Exit.noGoto, Exit.inBlock, Exit.then])
  refine bodyPost_ret (v := .agg #[.slice ao xs.length co, .int .i64 at_, .int .i64 ep]) ?_ rfl ⟨ao, co, rfl, FZ.rows⟩
  rw [results_c rfl]
  go_simp

def heavy31 (n m : Nat) (N : Int) : Bool := decide (200 < n) || (decide (5000 < m) || (decide (200 < N) && decide (N ≤ 1024)))
theorem heavy31_no {n m : Nat} {N : Int} (h : heavy31 n m N = false) : n ≤ 200 ∧ m ≤ 5000 ∧ (N ≤ 200 ∨ 1024 < N) := by
  simp [heavy31] at h
  omega
set_option maxRecDepth 100000 in
set_option maxHeartbeats 1000000 in
theorem heavy31_any (a a2 : Option Addr) (n c m c2 : Nat) (at_ ep ya yb yc yd N Z : Int) (w : World) (hn : n ≤ 9223372036854775807) (hm : m ≤ 9223372036854775807) :
    Calls Try.prog 48 #[.agg #[.slice a n c, .int .i64 at_, .int .i64 ep, .slice a2 m c2, .int .u64 ya, .int .u64 yb, .int .u64 yc, .int .u64 yd, .int .i64 N, .int .i64 Z]] w fun e w' => e = .returned (.bool (heavy31 n m N)) ∧ Below w.heap.size w w' := by
  by_cases h1 : 200 < n
  · have g1 : (200 : Int) < (n : Int) := by omega
    have HE : Hid (heavy31 n m N = true) := Lib.hid (by simp [heavy31]; omega)
    go_enter Try.func48, Try.ntmps48
    go_wp2
    go_ret
    exact ⟨ret_bool HE.out.symm, (Below.refl _ _).alloc (Nat.le_refl _) _⟩
  · have g1 : (n : Int) ≤ 200 := by omega
    by_cases h2 : 5000 < m
    · have g2 : (5000 : Int) < (m : Int) := by omega
      have HE : Hid (heavy31 n m N = true) := Lib.hid (by simp [heavy31]; omega)
      go_enter Try.func48, Try.ntmps48
      go_wp2
      go_ret
      exact ⟨ret_bool HE.out.symm, (Below.refl _ _).alloc (Nat.le_refl _) _⟩
    · have g2 : (m : Int) ≤ 5000 := by omega
      by_cases h3 : 200 < N
      · have HE : Hid (heavy31 n m N = decide (N ≤ 1024)) := Lib.hid (by simp [heavy31, h1, h2, h3])
        go_enter Try.func48, Try.ntmps48
        go_wp2
        go_ret
        exact ⟨ret_bool (by rw [HE.out, decide_eq_false (show ¬ (200 : Int) < (n : Int) by omega), decide_eq_false (show ¬ (5000 : Int) < (m : Int) by omega)]; simp), (Below.refl _ _).alloc (Nat.le_refl _) _⟩
      · have HE : Hid (heavy31 n m N = false) := Lib.hid (by simp [heavy31, h1, h2, h3])
        go_enter Try.func48, Try.ntmps48
        go_wp2
        go_ret
        exact ⟨ret_bool (by rw [HE.out, decide_eq_false (show ¬ (200 : Int) < (n : Int) by omega), decide_eq_false (show ¬ (5000 : Int) < (m : Int) by omega)]; simp), (Below.refl _ _).alloc (Nat.le_refl _) _⟩

end Go.Proofs.Ytiejkdnkdmanmaa
