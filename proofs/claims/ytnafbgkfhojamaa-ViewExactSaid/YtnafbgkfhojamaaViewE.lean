/- Walks: views: the same, copied, checked; the reference's views. -/
import Derived.Test.YtnafbgkfhojamaaViewD
set_option linter.unusedVariables false
set_option linter.unusedSimpArgs false
namespace Go.Proofs.Ytnafbgkfhojamaa
open Go.RowKit Go.Rt

set_option maxRecDepth 100000 in
set_option maxHeartbeats 1000000 in
theorem eqView_any (a b p q : Option Addr) (c d cp cq : Nat) (sh st tsh tst : List Int) (off tof : Int) (w : World) (h1 : Ints .i64 w w.heap.size a sh) (h2 : Ints .i64 w w.heap.size b st) (h3 : Ints .i64 w w.heap.size p tsh) (h4 : Ints .i64 w w.heap.size q tst) :
    Calls Try.prog 26 #[.agg #[.slice a sh.length c, .slice b st.length d, .int .i64 off], .agg #[.slice p tsh.length cp, .slice q tst.length cq, .int .i64 tof]] w fun e w' => e = .returned (.bool (decide (sh = tsh) && (decide (st = tst) && decide (off = tof)))) ∧ Below w.heap.size w w' := by
  have HA := Lib.hid h1
  have HB := Lib.hid h2
  have HC := Lib.hid h3
  have HD := Lib.hid h4
  have HE1 := fun W (h : Ints .i64 W W.heap.size a sh) (h2 : Ints .i64 W W.heap.size p tsh) => eqNumbers_any a p c cp W.heap.size sh tsh W h h2
  have HE2 := fun W (h : Ints .i64 W W.heap.size b st) (h2 : Ints .i64 W W.heap.size q tst) => eqNumbers_any b q d cq W.heap.size st tst W h h2
  obtain ⟨B1, hB1⟩ : ∃ x, decide (sh = tsh) = x := ⟨_, rfl⟩
  obtain ⟨B2, hB2⟩ : ∃ x, decide (st = tst) = x := ⟨_, rfl⟩
  rw [hB1] at HE1 ⊢
  rw [hB2] at HE2 ⊢
  clear h1 h2 h3 h4 hB1 hB2
  go_enter Try.func26, Try.ntmps26
  have F1 := Lib.hid (((Fr.start (w := w) (I := [(.i64, a, sh), (.i64, b, st), (.i64, p, tsh), (.i64, q, tst)]) (by intro z hz; simp at hz; rcases hz with rfl | rfl | rfl | rfl; exact HA.out; exact HB.out; exact HC.out; exact HD.out)).box1 (b := w.heap.size) rfl [.slice a sh.length c, .slice b st.length d, .int .i64 off] 25).box1 (b := w.heap.size + 1) (by simp) [.slice p tsh.length cp, .slice q tst.length cq, .int .i64 tof] 25)
  simp only [List.nil_append, List.cons_append] at F1
  go_upto_region 1 with fail
  obtain ⟨W1, hW1⟩ : ∃ W1, ((w.alloc (.cells #[.slice a sh.length c, .slice b st.length d, .int .i64 off] 25)).alloc (.cells #[.slice p tsh.length cp, .slice q tst.length cq, .int .i64 tof] 25)) = W1 := ⟨_, rfl⟩
  rw [hW1] at F1 ⊢
  clear hW1
  have c0_0 := F1.out.c 0 0 rfl rfl
  have c0_1 := F1.out.c 0 1 rfl rfl
  have c0_2 := F1.out.c 0 2 rfl rfl
  have c1_0 := F1.out.c 1 0 rfl rfl
  have c1_1 := F1.out.c 1 1 rfl rfl
  have c1_2 := F1.out.c 1 2 rfl rfl
  have HB1 := Lib.hid F1.out.bel
  cases B1 with
  | false =>
    go_wp2_with (go_at_call 12; refine (HE1 _ (F1.out.lw 0 rfl) (F1.out.lw 2 rfl)).mono ?_; rintro e w' ⟨rfl, q1, rfl⟩; have F2 := Lib.hid (F1.out.drewN q1); generalize W1.drewN q1 = W2 at F2 ⊢; clear F1 c0_0 c0_1 c0_2 c1_0 c1_1 c1_2; have d0_0 := F2.out.c 0 0 rfl rfl; have d0_1 := F2.out.c 0 1 rfl rfl; have d0_2 := F2.out.c 0 2 rfl rfl; have d1_0 := F2.out.c 1 0 rfl rfl; have d1_1 := F2.out.c 1 1 rfl rfl; have d1_2 := F2.out.c 1 2 rfl rfl)
    go_ret
    exact ⟨rfl, F2.out.bel⟩
  | true =>
    have hmk := True.intro
    cases B2 with
    | false =>
      go_wp2_with (first | (clear hmk; (go_at_call 12; refine (HE1 _ (F1.out.lw 0 rfl) (F1.out.lw 2 rfl)).mono ?_; rintro e w' ⟨rfl, q1, rfl⟩; have F2 := Lib.hid (F1.out.drewN q1); generalize W1.drewN q1 = W2 at F2 ⊢; clear F1 c0_0 c0_1 c0_2 c1_0 c1_1 c1_2; have d0_0 := F2.out.c 0 0 rfl rfl; have d0_1 := F2.out.c 0 1 rfl rfl; have d0_2 := F2.out.c 0 2 rfl rfl; have d1_0 := F2.out.c 1 0 rfl rfl; have d1_1 := F2.out.c 1 1 rfl rfl; have d1_2 := F2.out.c 1 2 rfl rfl)) | (go_at_call 12; refine (HE2 _ (F2.out.lw 1 rfl) (F2.out.lw 3 rfl)).mono ?_; rintro e w' ⟨rfl, q2, rfl⟩; have F3 := Lib.hid (F2.out.drewN q2); generalize W2.drewN q2 = W3 at F3 ⊢; clear F2 d0_0 d0_1 d0_2 d1_0 d1_1 d1_2; have e0_0 := F3.out.c 0 0 rfl rfl; have e0_1 := F3.out.c 0 1 rfl rfl; have e0_2 := F3.out.c 0 2 rfl rfl; have e1_0 := F3.out.c 1 0 rfl rfl; have e1_1 := F3.out.c 1 1 rfl rfl; have e1_2 := F3.out.c 1 2 rfl rfl))
      go_ret
      exact ⟨rfl, F3.out.bel⟩
    | true =>
      by_cases ho : off = tof
      · have ho2 : (off == tof) = true := by simp [ho]
        have HO := Lib.hid ho
        clear ho
        go_wp2_with (first | (clear hmk; (go_at_call 12; refine (HE1 _ (F1.out.lw 0 rfl) (F1.out.lw 2 rfl)).mono ?_; rintro e w' ⟨rfl, q1, rfl⟩; have F2 := Lib.hid (F1.out.drewN q1); generalize W1.drewN q1 = W2 at F2 ⊢; clear F1 c0_0 c0_1 c0_2 c1_0 c1_1 c1_2; have d0_0 := F2.out.c 0 0 rfl rfl; have d0_1 := F2.out.c 0 1 rfl rfl; have d0_2 := F2.out.c 0 2 rfl rfl; have d1_0 := F2.out.c 1 0 rfl rfl; have d1_1 := F2.out.c 1 1 rfl rfl; have d1_2 := F2.out.c 1 2 rfl rfl)) | (go_at_call 12; refine (HE2 _ (F2.out.lw 1 rfl) (F2.out.lw 3 rfl)).mono ?_; rintro e w' ⟨rfl, q2, rfl⟩; have F3 := Lib.hid (F2.out.drewN q2); generalize W2.drewN q2 = W3 at F3 ⊢; clear F2 d0_0 d0_1 d0_2 d1_0 d1_1 d1_2; have e0_0 := F3.out.c 0 0 rfl rfl; have e0_1 := F3.out.c 0 1 rfl rfl; have e0_2 := F3.out.c 0 2 rfl rfl; have e1_0 := F3.out.c 1 0 rfl rfl; have e1_1 := F3.out.c 1 1 rfl rfl; have e1_2 := F3.out.c 1 2 rfl rfl))
        go_ret
        exact ⟨ret_bool (by simp [HO.out]), F3.out.bel⟩
      · have ho2 : (off == tof) = false := by simp [ho]
        have HO := Lib.hid ho
        go_wp2_with (first | (clear hmk; (go_at_call 12; refine (HE1 _ (F1.out.lw 0 rfl) (F1.out.lw 2 rfl)).mono ?_; rintro e w' ⟨rfl, q1, rfl⟩; have F2 := Lib.hid (F1.out.drewN q1); generalize W1.drewN q1 = W2 at F2 ⊢; clear F1 c0_0 c0_1 c0_2 c1_0 c1_1 c1_2; have d0_0 := F2.out.c 0 0 rfl rfl; have d0_1 := F2.out.c 0 1 rfl rfl; have d0_2 := F2.out.c 0 2 rfl rfl; have d1_0 := F2.out.c 1 0 rfl rfl; have d1_1 := F2.out.c 1 1 rfl rfl; have d1_2 := F2.out.c 1 2 rfl rfl)) | (go_at_call 12; refine (HE2 _ (F2.out.lw 1 rfl) (F2.out.lw 3 rfl)).mono ?_; rintro e w' ⟨rfl, q2, rfl⟩; have F3 := Lib.hid (F2.out.drewN q2); generalize W2.drewN q2 = W3 at F3 ⊢; clear F2 d0_0 d0_1 d0_2 d1_0 d1_1 d1_2; have e0_0 := F3.out.c 0 0 rfl rfl; have e0_1 := F3.out.c 0 1 rfl rfl; have e0_2 := F3.out.c 0 2 rfl rfl; have e1_0 := F3.out.c 1 0 rfl rfl; have e1_1 := F3.out.c 1 1 rfl rfl; have e1_2 := F3.out.c 1 2 rfl rfl))
        go_ret
        exact ⟨ret_bool (by simp [HO.out]), F3.out.bel⟩
set_option maxRecDepth 100000 in
set_option maxHeartbeats 1000000 in
theorem copyView_any (a b : Option Addr) (c d : Nat) (sh st : List Int) (off : Int) (w : World) (h1 : Ints .i64 w w.heap.size a sh) (h2 : Ints .i64 w w.heap.size b st) (hn1 : sh.length ≤ 1000) (hn2 : st.length ≤ 1000) :
    Calls Try.prog 35 #[.agg #[.slice a sh.length c, .slice b st.length d, .int .i64 off]] w (RetVO w sh st off) := by
  have HA := Lib.hid h1
  have HB := Lib.hid h2
  clear h1 h2
  go_enter Try.func35, Try.ntmps35
  have F1 := Lib.hid (((Fr.start (w := w) (I := [(.i64, a, sh), (.i64, b, st)]) (by intro z hz; simp at hz; rcases hz with rfl | rfl; exact HA.out; exact HB.out)).box1 (b := w.heap.size) rfl [.slice a sh.length c, .slice b st.length d, .int .i64 off] 25).box1 (b := w.heap.size + 1) (by simp) [.slice none 0 0, .slice none 0 0, .int .i64 0] 25)
  simp only [List.nil_append, List.cons_append] at F1
  go_upto_region 1 with fail
  obtain ⟨W1, hW1⟩ : ∃ W1, ((w.alloc (.cells #[.slice a sh.length c, .slice b st.length d, .int .i64 off] 25)).alloc (.cells #[.slice none 0 0, .slice none 0 0, .int .i64 0] 25)) = W1 := ⟨_, rfl⟩
  rw [hW1] at F1 ⊢
  clear hW1
  have c0_0 := F1.out.c 0 0 rfl rfl
  have c0_1 := F1.out.c 0 1 rfl rfl
  have c0_2 := F1.out.c 0 2 rfl rfl
  go_upto_region 2 with fail
  obtain ⟨Q, hQ⟩ : ∃ x, W1.heap.size = x := ⟨_, rfl⟩
  rw [hQ]
  have F2 := Lib.hid (F1.out.box1 (b := Q) hQ [.slice a sh.length c, .slice b st.length d, .int .i64 off] 25)
  simp only [List.nil_append, List.cons_append] at F2
  obtain ⟨W2, hW2⟩ : ∃ x, (W1.alloc (.cells #[.slice a sh.length c, .slice b st.length d, .int .i64 off] 25)) = x := ⟨_, rfl⟩
  rw [hW2] at F2 ⊢
  clear hW2 hQ F1 c0_0 c0_1 c0_2
  have c0_0 := F2.out.c 0 0 rfl rfl
  have c0_1 := F2.out.c 0 1 rfl rfl
  have c0_2 := F2.out.c 0 2 rfl rfl
  have c2_0 := F2.out.c 2 0 rfl rfl
  have c2_1 := F2.out.c 2 1 rfl rfl
  have c2_2 := F2.out.c 2 2 rfl rfl
  have cf2_0 := F2.out.f 2 0 rfl rfl
  have cf2_1 := F2.out.f 2 1 rfl rfl
  have cf2_2 := F2.out.f 2 2 rfl rfl
  go_upto_region 3 with (go_at_call 46; refine (copyNumbers_any a c sh W2 (F2.out.lw 0 rfl) (by omega)).mono ?_; rintro e w3 ⟨v, rfl, hown, hb⟩; obtain ⟨a3, c3, rfl, _⟩ := own_shape hown; have F3 := Lib.hid (F2.out.addO hb hown); clear hown hb F2 c0_0 c0_1 c0_2 c2_0 c2_1 c2_2 cf2_0 cf2_1 cf2_2; have d0_0 := F3.out.c 0 0 rfl rfl; have d0_1 := F3.out.c 0 1 rfl rfl; have d0_2 := F3.out.c 0 2 rfl rfl; have d2_0 := F3.out.c 2 0 rfl rfl; have d2_1 := F3.out.c 2 1 rfl rfl; have d2_2 := F3.out.c 2 2 rfl rfl; have df2_0 := F3.out.f 2 0 rfl rfl; have df2_1 := F3.out.f 2 1 rfl rfl; have df2_2 := F3.out.f 2 2 rfl rfl)
  have F4 := Lib.hid (F3.out.setC 2 0 rfl (by simp) (.slice a3 sh.length c3))
  simp only [List.set_cons_zero, List.set_cons_succ, List.nil_append] at F4
  obtain ⟨W4, hW4⟩ : ∃ x, w3.setCell ⟨Q, 0, none⟩ (.slice a3 sh.length c3) = x := ⟨_, rfl⟩
  rw [hW4] at F4 ⊢
  clear hW4 F3 d0_0 d0_1 d0_2 d2_0 d2_1 d2_2 df2_0 df2_1 df2_2
  have c0_0 := F4.out.c 0 0 rfl rfl
  have c0_1 := F4.out.c 0 1 rfl rfl
  have c0_2 := F4.out.c 0 2 rfl rfl
  have c2_0 := F4.out.c 2 0 rfl rfl
  have c2_1 := F4.out.c 2 1 rfl rfl
  have c2_2 := F4.out.c 2 2 rfl rfl
  have cf2_0 := F4.out.f 2 0 rfl rfl
  have cf2_1 := F4.out.f 2 1 rfl rfl
  have cf2_2 := F4.out.f 2 2 rfl rfl
  go_upto_region 4 with (go_at_call 46; refine (copyNumbers_any b d st W4 (F4.out.lw 1 rfl) (by omega)).mono ?_; rintro e w5 ⟨v, rfl, hown, hb⟩; obtain ⟨a5, c5, rfl, _⟩ := own_shape hown; have F5 := Lib.hid (F4.out.addO hb hown); clear hown hb F4 c0_0 c0_1 c0_2 c2_0 c2_1 c2_2 cf2_0 cf2_1 cf2_2; have d0_0 := F5.out.c 0 0 rfl rfl; have d0_1 := F5.out.c 0 1 rfl rfl; have d0_2 := F5.out.c 0 2 rfl rfl; have d2_0 := F5.out.c 2 0 rfl rfl; have d2_1 := F5.out.c 2 1 rfl rfl; have d2_2 := F5.out.c 2 2 rfl rfl; have df2_0 := F5.out.f 2 0 rfl rfl; have df2_1 := F5.out.f 2 1 rfl rfl; have df2_2 := F5.out.f 2 2 rfl rfl)
  have F6 := Lib.hid (F5.out.setC 2 1 rfl (by simp) (.slice a5 st.length c5))
  simp only [List.set_cons_zero, List.set_cons_succ, List.nil_append, List.cons_append] at F6
  obtain ⟨W6, hW6⟩ : ∃ x, w5.setCell ⟨Q, 1, none⟩ (.slice a5 st.length c5) = x := ⟨_, rfl⟩
  rw [hW6] at F6 ⊢
  clear hW6 F5 d0_0 d0_1 d0_2 d2_0 d2_1 d2_2 df2_0 df2_1 df2_2
  have c1_0 := F6.out.c 1 0 rfl rfl
  have c1_1 := F6.out.c 1 1 rfl rfl
  have c1_2 := F6.out.c 1 2 rfl rfl
  have c2_0 := F6.out.c 2 0 rfl rfl
  have c2_1 := F6.out.c 2 1 rfl rfl
  have c2_2 := F6.out.c 2 2 rfl rfl
  have cf1_0 := F6.out.f 1 0 rfl rfl
  have cf1_1 := F6.out.f 1 1 rfl rfl
  have cf1_2 := F6.out.f 1 2 rfl rfl
  go_wp2
  have FZ := F6.out.set 1 rfl (by simp) [.slice a3 sh.length c3, .slice a5 st.length c5, .int .i64 off] rfl
  simp only [setL, Nat.reduceAdd, List.set_cons_zero, List.set_cons_succ] at FZ
  have z0 := FZ.c 1 0 rfl rfl
  have z1 := FZ.c 1 1 rfl rfl
  have z2 := FZ.c 1 2 rfl rfl
  refine bodyPost_ret (v := .agg #[.slice a3 sh.length c3, .slice a5 st.length c5, .int .i64 off]) ?_ rfl ⟨a3, c3, a5, c5, rfl, FZ.rows⟩
  rw [results_cV rfl]
  go_simp
theorem check7_any (a b : Option Addr) (c d : Nat) (sh st : List Int) (off n : Int) (w : World) (h1 : Ints .i64 w w.heap.size a sh) (h2 : Ints .i64 w w.heap.size b st) :
    Calls Try.prog 43 #[.agg #[.slice a sh.length c, .slice b st.length d, .int .i64 off], .int .i64 n] w fun e w' => e = .returned (.int .i64 (if viewB sh st off n = true then 0 else 1)) ∧ Below w.heap.size w w' := by
  have hgv := fun W (h : Ints .i64 W W.heap.size a sh) (h2 : Ints .i64 W W.heap.size b st) => vgood_any a b c d W.heap.size sh st off n W h h2 (Nat.le_refl _)
  obtain ⟨B, hB⟩ : ∃ x, viewB sh st off n = x := ⟨_, rfl⟩
  rw [hB] at hgv ⊢
  clear hB
  have HA := Lib.hid h1
  have HB := Lib.hid h2
  clear h1 h2
  cases B with
  | false =>
    rw [if_neg (by decide)]
    go_enter Try.func43, Try.ntmps43
    have F1 := Lib.hid ((Fr.start (w := w) (I := [(.i64, a, sh), (.i64, b, st)]) (by intro z hz; simp at hz; rcases hz with rfl | rfl; exact HA.out; exact HB.out)).box1 (b := w.heap.size) rfl [.slice a sh.length c, .slice b st.length d, .int .i64 off] 25)
    go_wp2_with (go_at_call 49; refine (hgv _ (F1.out.lw 0 rfl) (F1.out.lw 1 rfl)).mono ?_; rintro e w2 ⟨rfl, hb⟩; have F2 := Lib.hid (F1.out.next hb); clear hb F1)
    go_ret
    exact ⟨rfl, F2.out.bel⟩
  | true =>
    rw [if_pos rfl]
    go_enter Try.func43, Try.ntmps43
    have F1 := Lib.hid ((Fr.start (w := w) (I := [(.i64, a, sh), (.i64, b, st)]) (by intro z hz; simp at hz; rcases hz with rfl | rfl; exact HA.out; exact HB.out)).box1 (b := w.heap.size) rfl [.slice a sh.length c, .slice b st.length d, .int .i64 off] 25)
    go_wp2_with (go_at_call 49; refine (hgv _ (F1.out.lw 0 rfl) (F1.out.lw 1 rfl)).mono ?_; rintro e w2 ⟨rfl, hb⟩; have F2 := Lib.hid (F1.out.next hb); clear hb F1)
    go_ret
    exact ⟨rfl, F2.out.bel⟩

set_option maxRecDepth 100000 in
theorem rof_any (a : Option Addr) (c : Nat) (sh : List Int) (w : World) (h : Ints .i64 w w.heap.size a sh) (hg : goodB sh = true) :
    Calls Try.prog 38 #[.slice a sh.length c] w (RetVO w sh (strI sh) 0) := by
  have h4 := (goodB_iff.1 hg).1
  have HH := Lib.hid h
  have HG := Lib.hid hg
  have HSL := Lib.hid (strI_length sh)
  clear h hg
  go_enter Try.func38, Try.ntmps38
  have F1 := Lib.hid ((Fr.start (w := w) (I := [(.i64, a, sh)]) (by intro z hz; simp at hz; subst hz; exact HH.out)).box1 (b := w.heap.size) rfl [.slice none 0 0, .slice none 0 0, .int .i64 0] 25)
  simp only [List.nil_append] at F1
  go_upto_region 1 with fail
  obtain ⟨W1, hW1⟩ : ∃ W1, (w.alloc (.cells #[.slice none 0 0, .slice none 0 0, .int .i64 0] 25)) = W1 := ⟨_, rfl⟩
  rw [hW1] at F1 ⊢
  clear hW1
  go_wp2_with (first | (go_at_call 46; refine (copyNumbers_any a c sh W1 (F1.out.lw 0 rfl) (by omega)).mono ?_; rintro e w2 ⟨v, rfl, hown, hb⟩; obtain ⟨a2, c2, rfl, _⟩ := own_shape hown; have F2 := Lib.hid (F1.out.addO hb hown); clear hown hb F1) | (go_at_call 59; refine (rstrides_any a c sh w2 (F2.out.lw 0 rfl) HG.out).mono ?_; rintro e w3 ⟨v, rfl, hown, hb⟩; obtain ⟨a3, c3, rfl, _⟩ := own_shape hown; rw [HSL.out] at hown ⊢; have F3 := Lib.hid (F2.out.addO hb hown); clear hown hb F2; simp only [List.nil_append, List.cons_append] at F3; have q0 := F3.out.c 0 0 rfl rfl; have q1 := F3.out.c 0 1 rfl rfl; have q2 := F3.out.c 0 2 rfl rfl; have f0 := F3.out.f 0 0 rfl rfl; have f1 := F3.out.f 0 1 rfl rfl; have f2 := F3.out.f 0 2 rfl rfl))
  have FZ := F3.out.set 0 rfl (by simp) [.slice a2 sh.length c2, .slice a3 sh.length c3, .int .i64 0] rfl
  simp only [setL, Nat.reduceAdd, List.set_cons_zero, List.set_cons_succ] at FZ
  have z0 := FZ.c 0 0 rfl rfl
  have z1 := FZ.c 0 1 rfl rfl
  have z2 := FZ.c 0 2 rfl rfl
  refine bodyPost_ret (v := .agg #[.slice a2 sh.length c2, .slice a3 sh.length c3, .int .i64 0]) ?_ rfl ⟨a2, c2, a3, c3, by rw [HSL.out], by rw [HSL.out]; exact FZ.rows⟩
  rw [results_cV rfl]
  go_simp
end Go.Proofs.Ytnafbgkfhojamaa
