import Derived.Test.YtadlnmckcnfacaaGreatVCoO
set_option linter.unusedVariables false
set_option linter.unusedSimpArgs false
namespace Go.Proofs.YtadlnmckcnfacaaGreat
open Go.RowKit Go.Rt
attribute [local go_sem] Oper.semAt_some
theorem convOut_bad (a a2 : Option Addr) (c c2 : Nat) (xs ws : List Int) (aQ aS aP aD : Option Addr) (cQ cS cP cD : Nat) (Q : List Int) (wv : WinV) (w : World) (h : Ints .i64 w w.heap.size a xs) (h2 : Ints .i64 w w.heap.size a2 ws) (hS : Ints .i64 w w.heap.size aS wv.S) (hP : Ints .i64 w w.heap.size aP wv.P) (hD : Ints .i64 w w.heap.size aD wv.D) (hn : numB false Q wv.S wv.P wv.D = true) (hL : wv.L = xs.drop 2) (hK : wv.K = ws.drop 2) (hg : goodB xs = true) (hg2 : goodB ws = true) (hc1 : xs.length ≤ c) (hc2 : c ≤ 9223372036854775807) (hc3 : ws.length ≤ c2) (hc4 : c2 ≤ 9223372036854775807) (hz : coutZ xs ws wv ≠ 0) :
  Calls Tryz.prog 36 #[.slice a xs.length c, .slice a2 ws.length c2, .agg #[.slice aQ Q.length cQ, .slice aS wv.S.length cS, .slice aP wv.P.length cP, .slice aD wv.D.length cD]] w (RetOB (coutZ xs ws wv) w) := by
 unfold coutZ at hz ⊢
 by_cases e1 : xs.length = 2 + wv.S.length
 ·by_cases e2 : ws.length = xs.length
  ·by_cases e3 : xs[1]?.getD 0 = ws[1]?.getD 0
   ·rw [if_pos ⟨e1, e2, e3⟩] at hz ⊢
    cases e4 : wv.okB with
    | true =>
     rw [e4, if_pos rfl] at hz
     rw [if_pos rfl]
     cases e5 : goodB (coS xs ws wv) with
     | true => rw [e5] at hz; exact absurd rfl hz
     | false => exact convOut_bud a a2 c c2 xs ws aQ aS aP aD cQ cS cP cD Q wv w h h2 hS hP hD hn e1 e2 e3 hL hK hg hg2 hc1 hc2 hc3 hc4 e4 e5
    | false => exact convOut_over a a2 c c2 xs ws aQ aS aP aD cQ cS cP cD Q wv w h h2 hS hP hD hn e1 e2 e3 hL hK hg hg2 hc1 hc2 hc3 hc4 e4
   ·rw [if_neg (fun q => e3 q.2.2)]
    exact convOut_ch a a2 c c2 xs ws aQ aS aP aD cQ cS cP cD Q wv w h h2 hS hP hD hn e1 e2 e3
  ·rw [if_neg (fun q => e2 q.2.1)]
   exact convOut_len2 a a2 c c2 xs ws aQ aS aP aD cQ cS cP cD Q wv w h h2 hS hP hD hn e1 e2
 ·rw [if_neg (fun q => e1 q.1)]
  exact convOut_len a a2 c c2 xs ws aQ aS aP aD cQ cS cP cD Q wv w h h2 hS hP hD hn e1
set_option maxRecDepth 100000 in
set_option maxHeartbeats 2000000 in
theorem conv_all (a b a2 b2 : Option Addr) (c d c2 dw : Nat) (xs ys ws vs : List Int) (aQ aS aP aD : Option Addr) (cQ cS cP cD : Nat) (Q : List Int) (wv : WinV) (f : Int) (w : World) (h : Ints .i64 w w.heap.size a xs) (h2 : Ints .i64 w w.heap.size b ys) (k : Ints .i64 w w.heap.size a2 ws) (k2 : Ints .i64 w w.heap.size b2 vs) (hQ : Ints .i64 w w.heap.size aQ Q) (hS : Ints .i64 w w.heap.size aS wv.S) (hP : Ints .i64 w w.heap.size aP wv.P) (hD : Ints .i64 w w.heap.size aD wv.D) (hz : (tenB xs ys && tenB ws vs) = false) :
  Calls Tryz.prog 10 #[.agg #[.slice a xs.length c, .slice b ys.length d], .agg #[.slice a2 ws.length c2, .slice b2 vs.length dw], .agg #[.slice aQ Q.length cQ, .slice aS wv.S.length cS, .slice aP wv.P.length cP, .slice aD wv.D.length cD], .int .i64 f] w (RetTF w [] [] 1) := by
 have hall := fun W ha hb hc hd => elemAllB_any a b a2 b2 c d c2 dw xs ys ws vs 26 W ha hb hc hd
 have hgf := fun W => goodF_any f W
 have hnu := fun W h1 h2 h3 h4 => convNumbers_any false aQ aS aP aD cQ cS cP cD Q wv.S wv.P wv.D W h1 h2 h3 h4
 rw [hz] at hall
 have HALL := Lib.hid hall
 have HGF := Lib.hid hgf
 have HNU := Lib.hid hnu
 have F1 := Lib.hid (((((Fr.start (w := w) (I := [(.i64, a, xs), (.i64, b, ys), (.i64, a2, ws), (.i64, b2, vs), (.i64, aQ, Q), (.i64, aS, wv.S), (.i64, aP, wv.P), (.i64, aD, wv.D)]) (by intro z hz; simp at hz; rcases hz with rfl | rfl | rfl | rfl | rfl | rfl | rfl | rfl; exact h; exact h2; exact k; exact k2; exact hQ; exact hS; exact hP; exact hD)).box1 (b := w.heap.size) rfl [.slice a xs.length c, .slice b ys.length d] 26).box1 (b := w.heap.size + 1) (by simp) [.slice a2 ws.length c2, .slice b2 vs.length dw] 26).box1 (b := w.heap.size + 1 + 1) (by simp) [.slice aQ Q.length cQ, .slice aS wv.S.length cS, .slice aP wv.P.length cP, .slice aD wv.D.length cD] 28).box1 (b := w.heap.size + 1 + 1 + 1) (by simp) [.slice none 0 0, .slice none 0 0] 26)
 simp only [List.nil_append, List.cons_append] at F1
 clear hall hgf hnu h h2 k k2 hQ hS hP hD hz
 go_enter Tryz.func10, Tryz.ntmps10
 go_upto_region 1 with fail
 obtain ⟨W1, hW1⟩ : ∃ W1, (((w.alloc (.cells #[.slice a xs.length c, .slice b ys.length d] 26)).alloc (.cells #[.slice a2 ws.length c2, .slice b2 vs.length dw] 26)).alloc (.cells #[.slice aQ Q.length cQ, .slice aS wv.S.length cS, .slice aP wv.P.length cP, .slice aD wv.D.length cD] 28)).alloc (.cells #[.slice none 0 0, .slice none 0 0] 26) = W1 := ⟨_, rfl⟩
 rw [hW1] at F1 ⊢
 clear hW1
 have c0_0 := F1.out.c 0 0 rfl rfl
 have c0_1 := F1.out.c 0 1 rfl rfl
 have c1_0 := F1.out.c 1 0 rfl rfl
 have c1_1 := F1.out.c 1 1 rfl rfl
 go_wp2_with (first | (go_at_call 33; refine (HALL.out _ (F1.out.lw 0 rfl) (F1.out.lw 1 rfl) (F1.out.lw 2 rfl) (F1.out.lw 3 rfl)).mono ?_; rintro e w2 ⟨rfl, hb⟩; have F2 := Lib.hid (F1.out.next hb); clear hb F1 c0_0 c0_1 c1_0 c1_1; have c2_0 := F2.out.c 2 0 rfl rfl; have c2_1 := F2.out.c 2 1 rfl rfl; have c2_2 := F2.out.c 2 2 rfl rfl; have c2_3 := F2.out.c 2 3 rfl rfl; have d3_0 := F2.out.c 3 0 rfl rfl; have d3_1 := F2.out.c 3 1 rfl rfl; have df3_0 := F2.out.f 3 0 rfl rfl; have df3_1 := F2.out.f 3 1 rfl rfl) | (go_at_call 34; refine (HGF.out _).mono ?_; rintro e w' ⟨rfl, rfl⟩) | (go_at_call 35; refine (HNU.out _ (F2.out.lw 4 rfl) (F2.out.lw 5 rfl) (F2.out.lw 6 rfl) (F2.out.lw 7 rfl)).mono ?_; rintro e w3 ⟨rfl, hb⟩; have F3 := Lib.hid (F2.out.next hb); clear hb F2 c2_0 c2_1 c2_2 c2_3; have c0_0 := F3.out.c 0 0 rfl rfl; have c0_1 := F3.out.c 0 1 rfl rfl; have c1_0 := F3.out.c 1 0 rfl rfl; have c1_1 := F3.out.c 1 1 rfl rfl; have c2_0 := F3.out.c 2 0 rfl rfl; have c2_1 := F3.out.c 2 1 rfl rfl; have c2_2 := F3.out.c 2 2 rfl rfl; have c2_3 := F3.out.c 2 3 rfl rfl) | fail)
 have FZ := F2.out.set 3 rfl (by simp) [.slice none 0 0, .slice none 0 0] rfl
 simp only [setL, Nat.reduceAdd, List.set_cons_zero, List.set_cons_succ] at FZ
 have y0 := FZ.c 3 0 rfl rfl
 have y1 := FZ.c 3 1 rfl rfl
 refine bodyPost_ret (v := .tuple #[.agg #[.slice none 0 0, .slice none 0 0], .int .i64 1]) ?_ rfl (retTF_none FZ)
 rw [results_ctZ rfl]
 go_simp
set_option maxRecDepth 100000 in
set_option maxHeartbeats 2000000 in
theorem conv_f (a b a2 b2 : Option Addr) (c d c2 dw : Nat) (xs ys ws vs : List Int) (aQ aS aP aD : Option Addr) (cQ cS cP cD : Nat) (Q : List Int) (wv : WinV) (f : Int) (w : World) (h : Ints .i64 w w.heap.size a xs) (h2 : Ints .i64 w w.heap.size b ys) (k : Ints .i64 w w.heap.size a2 ws) (k2 : Ints .i64 w w.heap.size b2 vs) (hQ : Ints .i64 w w.heap.size aQ Q) (hS : Ints .i64 w w.heap.size aS wv.S) (hP : Ints .i64 w w.heap.size aP wv.P) (hD : Ints .i64 w w.heap.size aD wv.D) (hz : (tenB xs ys && tenB ws vs) = true) (hz2 : (decide (8 ≤ f) && decide (f ≤ 32)) = false) :
  Calls Tryz.prog 10 #[.agg #[.slice a xs.length c, .slice b ys.length d], .agg #[.slice a2 ws.length c2, .slice b2 vs.length dw], .agg #[.slice aQ Q.length cQ, .slice aS wv.S.length cS, .slice aP wv.P.length cP, .slice aD wv.D.length cD], .int .i64 f] w (RetTF w [] [] 1) := by
 have hall := fun W ha hb hc hd => elemAllB_any a b a2 b2 c d c2 dw xs ys ws vs 26 W ha hb hc hd
 have hgf := fun W => goodF_any f W
 have hnu := fun W h1 h2 h3 h4 => convNumbers_any false aQ aS aP aD cQ cS cP cD Q wv.S wv.P wv.D W h1 h2 h3 h4
 rw [hz] at hall
 rw [hz2] at hgf
 have HALL := Lib.hid hall
 have HGF := Lib.hid hgf
 have HNU := Lib.hid hnu
 have F1 := Lib.hid (((((Fr.start (w := w) (I := [(.i64, a, xs), (.i64, b, ys), (.i64, a2, ws), (.i64, b2, vs), (.i64, aQ, Q), (.i64, aS, wv.S), (.i64, aP, wv.P), (.i64, aD, wv.D)]) (by intro z hz; simp at hz; rcases hz with rfl | rfl | rfl | rfl | rfl | rfl | rfl | rfl; exact h; exact h2; exact k; exact k2; exact hQ; exact hS; exact hP; exact hD)).box1 (b := w.heap.size) rfl [.slice a xs.length c, .slice b ys.length d] 26).box1 (b := w.heap.size + 1) (by simp) [.slice a2 ws.length c2, .slice b2 vs.length dw] 26).box1 (b := w.heap.size + 1 + 1) (by simp) [.slice aQ Q.length cQ, .slice aS wv.S.length cS, .slice aP wv.P.length cP, .slice aD wv.D.length cD] 28).box1 (b := w.heap.size + 1 + 1 + 1) (by simp) [.slice none 0 0, .slice none 0 0] 26)
 simp only [List.nil_append, List.cons_append] at F1
 clear hall hgf hnu h h2 k k2 hQ hS hP hD hz hz2
 go_enter Tryz.func10, Tryz.ntmps10
 go_upto_region 1 with fail
 obtain ⟨W1, hW1⟩ : ∃ W1, (((w.alloc (.cells #[.slice a xs.length c, .slice b ys.length d] 26)).alloc (.cells #[.slice a2 ws.length c2, .slice b2 vs.length dw] 26)).alloc (.cells #[.slice aQ Q.length cQ, .slice aS wv.S.length cS, .slice aP wv.P.length cP, .slice aD wv.D.length cD] 28)).alloc (.cells #[.slice none 0 0, .slice none 0 0] 26) = W1 := ⟨_, rfl⟩
 rw [hW1] at F1 ⊢
 clear hW1
 have c0_0 := F1.out.c 0 0 rfl rfl
 have c0_1 := F1.out.c 0 1 rfl rfl
 have c1_0 := F1.out.c 1 0 rfl rfl
 have c1_1 := F1.out.c 1 1 rfl rfl
 go_wp2_with (first | (go_at_call 33; refine (HALL.out _ (F1.out.lw 0 rfl) (F1.out.lw 1 rfl) (F1.out.lw 2 rfl) (F1.out.lw 3 rfl)).mono ?_; rintro e w2 ⟨rfl, hb⟩; have F2 := Lib.hid (F1.out.next hb); clear hb F1 c0_0 c0_1 c1_0 c1_1; have c2_0 := F2.out.c 2 0 rfl rfl; have c2_1 := F2.out.c 2 1 rfl rfl; have c2_2 := F2.out.c 2 2 rfl rfl; have c2_3 := F2.out.c 2 3 rfl rfl) | (go_at_call 34; refine (HGF.out _).mono ?_; rintro e w' ⟨rfl, rfl⟩; have d3_0 := F2.out.c 3 0 rfl rfl; have d3_1 := F2.out.c 3 1 rfl rfl; have df3_0 := F2.out.f 3 0 rfl rfl; have df3_1 := F2.out.f 3 1 rfl rfl) | (go_at_call 35; refine (HNU.out _ (F2.out.lw 4 rfl) (F2.out.lw 5 rfl) (F2.out.lw 6 rfl) (F2.out.lw 7 rfl)).mono ?_; rintro e w3 ⟨rfl, hb⟩; have F3 := Lib.hid (F2.out.next hb); clear hb F2 c2_0 c2_1 c2_2 c2_3; have c0_0 := F3.out.c 0 0 rfl rfl; have c0_1 := F3.out.c 0 1 rfl rfl; have c1_0 := F3.out.c 1 0 rfl rfl; have c1_1 := F3.out.c 1 1 rfl rfl; have c2_0 := F3.out.c 2 0 rfl rfl; have c2_1 := F3.out.c 2 1 rfl rfl; have c2_2 := F3.out.c 2 2 rfl rfl; have c2_3 := F3.out.c 2 3 rfl rfl) | fail)
 have FZ := F2.out.set 3 rfl (by simp) [.slice none 0 0, .slice none 0 0] rfl
 simp only [setL, Nat.reduceAdd, List.set_cons_zero, List.set_cons_succ] at FZ
 have y0 := FZ.c 3 0 rfl rfl
 have y1 := FZ.c 3 1 rfl rfl
 refine bodyPost_ret (v := .tuple #[.agg #[.slice none 0 0, .slice none 0 0], .int .i64 1]) ?_ rfl (retTF_none FZ)
 rw [results_ctZ rfl]
 go_simp
set_option maxRecDepth 100000 in
set_option maxHeartbeats 2000000 in
theorem conv_num (a b a2 b2 : Option Addr) (c d c2 dw : Nat) (xs ys ws vs : List Int) (aQ aS aP aD : Option Addr) (cQ cS cP cD : Nat) (Q : List Int) (wv : WinV) (f : Int) (w : World) (h : Ints .i64 w w.heap.size a xs) (h2 : Ints .i64 w w.heap.size b ys) (k : Ints .i64 w w.heap.size a2 ws) (k2 : Ints .i64 w w.heap.size b2 vs) (hQ : Ints .i64 w w.heap.size aQ Q) (hS : Ints .i64 w w.heap.size aS wv.S) (hP : Ints .i64 w w.heap.size aP wv.P) (hD : Ints .i64 w w.heap.size aD wv.D) (hz : (tenB xs ys && tenB ws vs) = true) (hz2 : (decide (8 ≤ f) && decide (f ≤ 32)) = true) (hz3 : numB false Q wv.S wv.P wv.D = false) :
  Calls Tryz.prog 10 #[.agg #[.slice a xs.length c, .slice b ys.length d], .agg #[.slice a2 ws.length c2, .slice b2 vs.length dw], .agg #[.slice aQ Q.length cQ, .slice aS wv.S.length cS, .slice aP wv.P.length cP, .slice aD wv.D.length cD], .int .i64 f] w (RetTF w [] [] 1) := by
 have hall := fun W ha hb hc hd => elemAllB_any a b a2 b2 c d c2 dw xs ys ws vs 26 W ha hb hc hd
 have hgf := fun W => goodF_any f W
 have hnu := fun W h1 h2 h3 h4 => convNumbers_any false aQ aS aP aD cQ cS cP cD Q wv.S wv.P wv.D W h1 h2 h3 h4
 rw [hz] at hall
 rw [hz2] at hgf
 rw [hz3] at hnu
 have HALL := Lib.hid hall
 have HGF := Lib.hid hgf
 have HNU := Lib.hid hnu
 have F1 := Lib.hid (((((Fr.start (w := w) (I := [(.i64, a, xs), (.i64, b, ys), (.i64, a2, ws), (.i64, b2, vs), (.i64, aQ, Q), (.i64, aS, wv.S), (.i64, aP, wv.P), (.i64, aD, wv.D)]) (by intro z hz; simp at hz; rcases hz with rfl | rfl | rfl | rfl | rfl | rfl | rfl | rfl; exact h; exact h2; exact k; exact k2; exact hQ; exact hS; exact hP; exact hD)).box1 (b := w.heap.size) rfl [.slice a xs.length c, .slice b ys.length d] 26).box1 (b := w.heap.size + 1) (by simp) [.slice a2 ws.length c2, .slice b2 vs.length dw] 26).box1 (b := w.heap.size + 1 + 1) (by simp) [.slice aQ Q.length cQ, .slice aS wv.S.length cS, .slice aP wv.P.length cP, .slice aD wv.D.length cD] 28).box1 (b := w.heap.size + 1 + 1 + 1) (by simp) [.slice none 0 0, .slice none 0 0] 26)
 simp only [List.nil_append, List.cons_append] at F1
 clear hall hgf hnu h h2 k k2 hQ hS hP hD hz hz2 hz3
 go_enter Tryz.func10, Tryz.ntmps10
 go_upto_region 1 with fail
 obtain ⟨W1, hW1⟩ : ∃ W1, (((w.alloc (.cells #[.slice a xs.length c, .slice b ys.length d] 26)).alloc (.cells #[.slice a2 ws.length c2, .slice b2 vs.length dw] 26)).alloc (.cells #[.slice aQ Q.length cQ, .slice aS wv.S.length cS, .slice aP wv.P.length cP, .slice aD wv.D.length cD] 28)).alloc (.cells #[.slice none 0 0, .slice none 0 0] 26) = W1 := ⟨_, rfl⟩
 rw [hW1] at F1 ⊢
 clear hW1
 have c0_0 := F1.out.c 0 0 rfl rfl
 have c0_1 := F1.out.c 0 1 rfl rfl
 have c1_0 := F1.out.c 1 0 rfl rfl
 have c1_1 := F1.out.c 1 1 rfl rfl
 go_wp2_with (first | (go_at_call 33; refine (HALL.out _ (F1.out.lw 0 rfl) (F1.out.lw 1 rfl) (F1.out.lw 2 rfl) (F1.out.lw 3 rfl)).mono ?_; rintro e w2 ⟨rfl, hb⟩; have F2 := Lib.hid (F1.out.next hb); clear hb F1 c0_0 c0_1 c1_0 c1_1; have c2_0 := F2.out.c 2 0 rfl rfl; have c2_1 := F2.out.c 2 1 rfl rfl; have c2_2 := F2.out.c 2 2 rfl rfl; have c2_3 := F2.out.c 2 3 rfl rfl) | (go_at_call 34; refine (HGF.out _).mono ?_; rintro e w' ⟨rfl, rfl⟩) | (go_at_call 35; refine (HNU.out _ (F2.out.lw 4 rfl) (F2.out.lw 5 rfl) (F2.out.lw 6 rfl) (F2.out.lw 7 rfl)).mono ?_; rintro e w3 ⟨rfl, hb⟩; have F3 := Lib.hid (F2.out.next hb); clear hb F2 c2_0 c2_1 c2_2 c2_3; have d3_0 := F3.out.c 3 0 rfl rfl; have d3_1 := F3.out.c 3 1 rfl rfl; have df3_0 := F3.out.f 3 0 rfl rfl; have df3_1 := F3.out.f 3 1 rfl rfl) | fail)
 have FZ := F3.out.set 3 rfl (by simp) [.slice none 0 0, .slice none 0 0] rfl
 simp only [setL, Nat.reduceAdd, List.set_cons_zero, List.set_cons_succ] at FZ
 have y0 := FZ.c 3 0 rfl rfl
 have y1 := FZ.c 3 1 rfl rfl
 refine bodyPost_ret (v := .tuple #[.agg #[.slice none 0 0, .slice none 0 0], .int .i64 1]) ?_ rfl (retTF_none FZ)
 rw [results_ctZ rfl]
 go_simp
set_option maxRecDepth 100000 in
set_option maxHeartbeats 2000000 in
theorem conv_shape (a b a2 b2 : Option Addr) (c d c2 dw : Nat) (xs ys ws vs : List Int) (aQ aS aP aD : Option Addr) (cQ cS cP cD : Nat) (Q : List Int) (wv : WinV) (f : Int) (w : World) (h : Ints .i64 w w.heap.size a xs) (h2 : Ints .i64 w w.heap.size b ys) (k : Ints .i64 w w.heap.size a2 ws) (k2 : Ints .i64 w w.heap.size b2 vs) (hQ : Ints .i64 w w.heap.size aQ Q) (hS : Ints .i64 w w.heap.size aS wv.S) (hP : Ints .i64 w w.heap.size aP wv.P) (hD : Ints .i64 w w.heap.size aD wv.D) (hL : wv.L = xs.drop 2) (hK : wv.K = ws.drop 2) (hc1 : xs.length ≤ c) (hc2 : c ≤ 9223372036854775807) (hc3 : ws.length ≤ c2) (hc4 : c2 ≤ 9223372036854775807) (hz : (tenB xs ys && tenB ws vs) = true) (hz2 : (decide (8 ≤ f) && decide (f ≤ 32)) = true) (hz3 : numB false Q wv.S wv.P wv.D = true) (hz4 : coutZ xs ws wv ≠ 0) :
  Calls Tryz.prog 10 #[.agg #[.slice a xs.length c, .slice b ys.length d], .agg #[.slice a2 ws.length c2, .slice b2 vs.length dw], .agg #[.slice aQ Q.length cQ, .slice aS wv.S.length cS, .slice aP wv.P.length cP, .slice aD wv.D.length cD], .int .i64 f] w (RetTF w [] [] (coutZ xs ws wv)) := by
 have hall := fun W ha hb hc hd => elemAllB_any a b a2 b2 c d c2 dw xs ys ws vs 26 W ha hb hc hd
 have hgf := fun W => goodF_any f W
 have hnu := fun W h1 h2 h3 h4 => convNumbers_any false aQ aS aP aD cQ cS cP cD Q wv.S wv.P wv.D W h1 h2 h3 h4
 rw [hz] at hall
 rw [hz2] at hgf
 rw [hz3] at hnu
 have hgx := (tenB_iff.1 (Bool.and_eq_true_iff.1 hz).1).1
 have hgw := (tenB_iff.1 (Bool.and_eq_true_iff.1 hz).2).1
 have hco := fun W h1 h2 h3 h4 h5 => convOut_bad a a2 c c2 xs ws aQ aS aP aD cQ cS cP cD Q wv W h1 h2 h3 h4 h5 hz3 hL hK hgx hgw hc1 hc2 hc3 hc4 hz4
 obtain ⟨z, hze⟩ : ∃ z, coutZ xs ws wv = z := ⟨_, rfl⟩
 rw [hze] at hco hz4 ⊢
 have HCO := Lib.hid hco
 have hz5 : (z != 0) = true := by simpa using hz4
 clear hco hgx hgw hL hK hc1 hc2 hc3 hc4 hz4 hze
 have HALL := Lib.hid hall
 have HGF := Lib.hid hgf
 have HNU := Lib.hid hnu
 have F1 := Lib.hid (((((Fr.start (w := w) (I := [(.i64, a, xs), (.i64, b, ys), (.i64, a2, ws), (.i64, b2, vs), (.i64, aQ, Q), (.i64, aS, wv.S), (.i64, aP, wv.P), (.i64, aD, wv.D)]) (by intro z hz; simp at hz; rcases hz with rfl | rfl | rfl | rfl | rfl | rfl | rfl | rfl; exact h; exact h2; exact k; exact k2; exact hQ; exact hS; exact hP; exact hD)).box1 (b := w.heap.size) rfl [.slice a xs.length c, .slice b ys.length d] 26).box1 (b := w.heap.size + 1) (by simp) [.slice a2 ws.length c2, .slice b2 vs.length dw] 26).box1 (b := w.heap.size + 1 + 1) (by simp) [.slice aQ Q.length cQ, .slice aS wv.S.length cS, .slice aP wv.P.length cP, .slice aD wv.D.length cD] 28).box1 (b := w.heap.size + 1 + 1 + 1) (by simp) [.slice none 0 0, .slice none 0 0] 26)
 simp only [List.nil_append, List.cons_append] at F1
 clear hall hgf hnu h h2 k k2 hQ hS hP hD hz hz2 hz3
 go_enter Tryz.func10, Tryz.ntmps10
 go_upto_region 1 with fail
 obtain ⟨W1, hW1⟩ : ∃ W1, (((w.alloc (.cells #[.slice a xs.length c, .slice b ys.length d] 26)).alloc (.cells #[.slice a2 ws.length c2, .slice b2 vs.length dw] 26)).alloc (.cells #[.slice aQ Q.length cQ, .slice aS wv.S.length cS, .slice aP wv.P.length cP, .slice aD wv.D.length cD] 28)).alloc (.cells #[.slice none 0 0, .slice none 0 0] 26) = W1 := ⟨_, rfl⟩
 rw [hW1] at F1 ⊢
 clear hW1
 have c0_0 := F1.out.c 0 0 rfl rfl
 have c0_1 := F1.out.c 0 1 rfl rfl
 have c1_0 := F1.out.c 1 0 rfl rfl
 have c1_1 := F1.out.c 1 1 rfl rfl
 go_upto_region 3 with (first | (go_at_call 33; refine (HALL.out _ (F1.out.lw 0 rfl) (F1.out.lw 1 rfl) (F1.out.lw 2 rfl) (F1.out.lw 3 rfl)).mono ?_; rintro e w2 ⟨rfl, hb⟩; have F2 := Lib.hid (F1.out.next hb); clear hb F1 c0_0 c0_1 c1_0 c1_1; have c2_0 := F2.out.c 2 0 rfl rfl; have c2_1 := F2.out.c 2 1 rfl rfl; have c2_2 := F2.out.c 2 2 rfl rfl; have c2_3 := F2.out.c 2 3 rfl rfl) | (go_at_call 34; refine (HGF.out _).mono ?_; rintro e w' ⟨rfl, rfl⟩) | (go_at_call 35; refine (HNU.out _ (F2.out.lw 4 rfl) (F2.out.lw 5 rfl) (F2.out.lw 6 rfl) (F2.out.lw 7 rfl)).mono ?_; rintro e w3 ⟨rfl, hb⟩; have F3 := Lib.hid (F2.out.next hb); clear hb F2 c2_0 c2_1 c2_2 c2_3; have c0_0 := F3.out.c 0 0 rfl rfl; have c0_1 := F3.out.c 0 1 rfl rfl; have c1_0 := F3.out.c 1 0 rfl rfl; have c1_1 := F3.out.c 1 1 rfl rfl; have c2_0 := F3.out.c 2 0 rfl rfl; have c2_1 := F3.out.c 2 1 rfl rfl; have c2_2 := F3.out.c 2 2 rfl rfl; have c2_3 := F3.out.c 2 3 rfl rfl) | fail)
 go_upto_region 4 with (first | (go_at_call 36; refine (HCO.out _ (F3.out.lw 0 rfl) (F3.out.lw 2 rfl) (F3.out.lw 5 rfl) (F3.out.lw 6 rfl) (F3.out.lw 7 rfl)).mono ?_; rintro e w4 ⟨⟨o0, l0, k0⟩, ⟨o1, l1, k1⟩, ⟨o2, l2, k2⟩, ⟨o3, l3, k3⟩, ⟨o4, l4, k4⟩, ⟨o5, l5, k5⟩, ⟨o6, l6, k6⟩, rfl, hb⟩; dsimp only; have F4 := Lib.hid (F3.out.next hb); clear hb F3 c0_0 c0_1 c1_0 c1_1 c2_0 c2_1 c2_2 c2_3) | fail)
 obtain ⟨Q4, hQ4⟩ : ∃ x, w4.heap.size = x := ⟨_, rfl⟩
 rw [hQ4]
 have F5 := Lib.hid (F4.out.box1 (b := Q4) hQ4 [.slice o0 l0 k0, .slice o1 l1 k1, .slice o2 l2 k2, .slice o3 l3 k3, .slice o4 l4 k4, .slice o5 l5 k5, .slice o6 l6 k6] 77)
 simp only [List.nil_append, List.cons_append] at F5
 obtain ⟨W5, hW5⟩ : ∃ x, (w4.alloc (.cells #[.slice o0 l0 k0, .slice o1 l1 k1, .slice o2 l2 k2, .slice o3 l3 k3, .slice o4 l4 k4, .slice o5 l5 k5, .slice o6 l6 k6] 77)) = x := ⟨_, rfl⟩
 rw [hW5] at F5 ⊢
 clear hW5 hQ4 F4
 have d3_0 := F5.out.c 3 0 rfl rfl
 have d3_1 := F5.out.c 3 1 rfl rfl
 have df3_0 := F5.out.f 3 0 rfl rfl
 have df3_1 := F5.out.f 3 1 rfl rfl
 go_wp2
 have FZ := F5.out.set 3 rfl (by simp) [.slice none 0 0, .slice none 0 0] rfl
 simp only [setL, Nat.reduceAdd, List.set_cons_zero, List.set_cons_succ] at FZ
 have y0 := FZ.c 3 0 rfl rfl
 have y1 := FZ.c 3 1 rfl rfl
 refine bodyPost_ret (v := .tuple #[.agg #[.slice none 0 0, .slice none 0 0], .int .i64 z]) ?_ rfl (retTF_none FZ)
 rw [results_ctZ rfl]
 go_simp
end Go.Proofs.YtadlnmckcnfacaaGreat
