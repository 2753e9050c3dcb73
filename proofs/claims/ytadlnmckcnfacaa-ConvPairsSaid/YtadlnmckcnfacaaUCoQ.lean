import Derived.Test.YtadlnmckcnfacaaUCoM
import Derived.Test.YtadlnmckcnfacaaUCoF
set_option linter.unusedVariables false
set_option linter.unusedSimpArgs false
namespace Go.Proofs.Ytadlnmckcnfacaa
open Go.RowKit Go.Rt
attribute [local go_sem] Oper.semAt_some
def clForm (xs ys ks Q : List Int) (wv : WinV) : Bool := (tenB xs ys && ks.all (okI 1)) && numB false Q wv.S wv.P wv.D
def clZ (xs ys Q : List Int) (wv : WinV) : Int := if clForm xs ys wv.K Q wv = true then colZ xs wv.K wv else 1
def clN (xs : List Int) (wv : WinV) : Nat := (prodI (colS xs wv)).toNat
def clWs (xs ys : List Int) (wv : WinV) : List Int := (List.range (clN xs wv)).map (clW ys wv (prodI wv.O).toNat (prodI wv.K).toNat (prodI wv.L).toNat)
theorem columns_bad (a a2 : Option Addr) (c c2 : Nat) (xs : List Int) (aQ aS aP aD : Option Addr) (cQ cS cP cD : Nat) (Q : List Int) (wv : WinV) (w : World) (h : Ints .i64 w w.heap.size a xs) (h2 : Ints .i64 w w.heap.size a2 wv.K) (hS : Ints .i64 w w.heap.size aS wv.S) (hP : Ints .i64 w w.heap.size aP wv.P) (hD : Ints .i64 w w.heap.size aD wv.D) (hn : numB false Q wv.S wv.P wv.D = true) (hL : wv.L = xs.drop 2) (hg : goodB xs = true) (hk : wv.K.all (okI 1) = true) (hc1 : xs.length ≤ c) (hc2 : c ≤ 9223372036854775807) (hz : colZ xs wv.K wv ≠ 0) :
  Calls Try.prog 45 #[.slice a xs.length c, .slice a2 wv.K.length c2, .agg #[.slice aQ Q.length cQ, .slice aS wv.S.length cS, .slice aP wv.P.length cP, .slice aD wv.D.length cD]] w (RetOB (colZ xs wv.K wv) w) := by
 unfold colZ at hz ⊢
 by_cases e1 : xs.length = 2 + wv.S.length
 ·by_cases e2 : wv.K.length = wv.S.length
  ·rw [if_pos ⟨e1, e2⟩] at hz ⊢
   cases e4 : wv.okB with
   | true =>
    rw [e4, if_pos rfl] at hz
    rw [if_pos rfl]
    cases e5 : goodB (colS xs wv) with
    | true => rw [e5] at hz; exact absurd rfl hz
    | false => exact cols_bud a a2 c c2 xs wv.K aQ aS aP aD cQ cS cP cD Q wv w h h2 hS hP hD hn rfl e1 e2 hL hg hk hc1 hc2 e4 e5
   | false => exact cols_over a a2 c c2 xs wv.K aQ aS aP aD cQ cS cP cD Q wv w h h2 hS hP hD hn rfl e1 e2 hL hg hk hc1 hc2 e4
  ·rw [if_neg (fun q => e2 q.2)]
   exact cols_len2 a a2 c c2 xs wv.K aQ aS aP aD cQ cS cP cD Q wv w h h2 hS hP hD hn rfl e1 e2
 ·rw [if_neg (fun q => e1 q.1)]
  exact cols_len a a2 c c2 xs wv.K aQ aS aP aD cQ cS cP cD Q wv w h h2 hS hP hD hn rfl e1
set_option maxRecDepth 100000 in
set_option maxHeartbeats 2000000 in
theorem conCols_good (a b ak : Option Addr) (c d ck : Nat) (xs ys : List Int) (aQ aS aP aD : Option Addr) (cQ cS cP cD : Nat) (Q : List Int) (wv : WinV) (w : World) (h : Ints .i64 w w.heap.size a xs) (h2 : Ints .i64 w w.heap.size b ys) (k : Ints .i64 w w.heap.size ak wv.K) (hQ : Ints .i64 w w.heap.size aQ Q) (hS : Ints .i64 w w.heap.size aS wv.S) (hP : Ints .i64 w w.heap.size aP wv.P) (hD : Ints .i64 w w.heap.size aD wv.D) (hz : tenB xs ys = false) :
  Calls Try.prog 15 #[.agg #[.slice a xs.length c, .slice b ys.length d], .slice ak wv.K.length ck, .agg #[.slice aQ Q.length cQ, .slice aS wv.S.length cS, .slice aP wv.P.length cP, .slice aD wv.D.length cD]] w (RetTF w [] [] 1) := by
 have hgd := fun W h1 h2 => elemGood_any a b c d xs ys W h1 h2
 have hin := fun W h1 => insideL_any ak ck 1 wv.K W h1
 have hnu := fun W h1 h2 h3 h4 => convNumbers_any false aQ aS aP aD cQ cS cP cD Q wv.S wv.P wv.D W h1 h2 h3 h4
 rw [hz] at hgd
 have HGD := Lib.hid hgd
 have HIN := Lib.hid hin
 have HNU := Lib.hid hnu
 have F1 := Lib.hid ((((Fr.start (w := w) (I := [(.i64, a, xs), (.i64, b, ys), (.i64, ak, wv.K), (.i64, aQ, Q), (.i64, aS, wv.S), (.i64, aP, wv.P), (.i64, aD, wv.D)]) (by intro z hz; simp at hz; rcases hz with rfl | rfl | rfl | rfl | rfl | rfl | rfl; exact h; exact h2; exact k; exact hQ; exact hS; exact hP; exact hD)).box1 (b := w.heap.size) rfl [.slice a xs.length c, .slice b ys.length d] 26).box1 (b := w.heap.size + 1) (by simp) [.slice aQ Q.length cQ, .slice aS wv.S.length cS, .slice aP wv.P.length cP, .slice aD wv.D.length cD] 28).box1 (b := w.heap.size + 1 + 1) (by simp) [.slice none 0 0, .slice none 0 0] 26)
 simp only [List.nil_append, List.cons_append] at F1
 clear hgd hin hnu h h2 k hQ hS hP hD hz
 go_enter Try.func15, Try.ntmps15
 go_upto_region 1 with fail
 obtain ⟨W1, hW1⟩ : ∃ W1, ((w.alloc (.cells #[.slice a xs.length c, .slice b ys.length d] 26)).alloc (.cells #[.slice aQ Q.length cQ, .slice aS wv.S.length cS, .slice aP wv.P.length cP, .slice aD wv.D.length cD] 28)).alloc (.cells #[.slice none 0 0, .slice none 0 0] 26) = W1 := ⟨_, rfl⟩
 rw [hW1] at F1 ⊢
 clear hW1
 have c0_0 := F1.out.c 0 0 rfl rfl
 have c0_1 := F1.out.c 0 1 rfl rfl
 go_wp2_with (first | (go_at_call 43; refine (HGD.out _ (F1.out.lw 0 rfl) (F1.out.lw 1 rfl)).mono ?_; rintro e w2 ⟨rfl, hb⟩; have F2 := Lib.hid (F1.out.next hb); clear hb F1 c0_0 c0_1; have c1_0 := F2.out.c 1 0 rfl rfl; have c1_1 := F2.out.c 1 1 rfl rfl; have c1_2 := F2.out.c 1 2 rfl rfl; have c1_3 := F2.out.c 1 3 rfl rfl; have d2_0 := F2.out.c 2 0 rfl rfl; have d2_1 := F2.out.c 2 1 rfl rfl; have df2_0 := F2.out.f 2 0 rfl rfl; have df2_1 := F2.out.f 2 1 rfl rfl) | (go_at_call 44; refine (HIN.out _ (F2.out.lw 2 rfl)).mono ?_; rintro e w3 ⟨rfl, hb⟩; have F3 := Lib.hid (F2.out.next hb); clear hb F2 c1_0 c1_1 c1_2 c1_3; have c1_0 := F3.out.c 1 0 rfl rfl; have c1_1 := F3.out.c 1 1 rfl rfl; have c1_2 := F3.out.c 1 2 rfl rfl; have c1_3 := F3.out.c 1 3 rfl rfl) | (go_at_call 33; refine (HNU.out _ (F3.out.lw 3 rfl) (F3.out.lw 4 rfl) (F3.out.lw 5 rfl) (F3.out.lw 6 rfl)).mono ?_; rintro e w4 ⟨rfl, hb⟩; have F4 := Lib.hid (F3.out.next hb); clear hb F3 c1_0 c1_1 c1_2 c1_3; have c0_0 := F4.out.c 0 0 rfl rfl; have c0_1 := F4.out.c 0 1 rfl rfl; have c1_0 := F4.out.c 1 0 rfl rfl; have c1_1 := F4.out.c 1 1 rfl rfl; have c1_2 := F4.out.c 1 2 rfl rfl; have c1_3 := F4.out.c 1 3 rfl rfl) | fail)
 have FZ := F2.out.set 2 rfl (by simp) [.slice none 0 0, .slice none 0 0] rfl
 simp only [setL, Nat.reduceAdd, List.set_cons_zero, List.set_cons_succ] at FZ
 have y0 := FZ.c 2 0 rfl rfl
 have y1 := FZ.c 2 1 rfl rfl
 refine bodyPost_ret (v := .tuple #[.agg #[.slice none 0 0, .slice none 0 0], .int .i64 1]) ?_ rfl (retTF_none FZ)
 rw [results_ctZ rfl]
 go_simp
set_option maxRecDepth 100000 in
set_option maxHeartbeats 2000000 in
theorem conCols_in (a b ak : Option Addr) (c d ck : Nat) (xs ys : List Int) (aQ aS aP aD : Option Addr) (cQ cS cP cD : Nat) (Q : List Int) (wv : WinV) (w : World) (h : Ints .i64 w w.heap.size a xs) (h2 : Ints .i64 w w.heap.size b ys) (k : Ints .i64 w w.heap.size ak wv.K) (hQ : Ints .i64 w w.heap.size aQ Q) (hS : Ints .i64 w w.heap.size aS wv.S) (hP : Ints .i64 w w.heap.size aP wv.P) (hD : Ints .i64 w w.heap.size aD wv.D) (hz : tenB xs ys = true) (hz2 : wv.K.all (okI 1) = false) :
  Calls Try.prog 15 #[.agg #[.slice a xs.length c, .slice b ys.length d], .slice ak wv.K.length ck, .agg #[.slice aQ Q.length cQ, .slice aS wv.S.length cS, .slice aP wv.P.length cP, .slice aD wv.D.length cD]] w (RetTF w [] [] 1) := by
 have hgd := fun W h1 h2 => elemGood_any a b c d xs ys W h1 h2
 have hin := fun W h1 => insideL_any ak ck 1 wv.K W h1
 have hnu := fun W h1 h2 h3 h4 => convNumbers_any false aQ aS aP aD cQ cS cP cD Q wv.S wv.P wv.D W h1 h2 h3 h4
 rw [hz] at hgd
 rw [hz2] at hin
 have HGD := Lib.hid hgd
 have HIN := Lib.hid hin
 have HNU := Lib.hid hnu
 have F1 := Lib.hid ((((Fr.start (w := w) (I := [(.i64, a, xs), (.i64, b, ys), (.i64, ak, wv.K), (.i64, aQ, Q), (.i64, aS, wv.S), (.i64, aP, wv.P), (.i64, aD, wv.D)]) (by intro z hz; simp at hz; rcases hz with rfl | rfl | rfl | rfl | rfl | rfl | rfl; exact h; exact h2; exact k; exact hQ; exact hS; exact hP; exact hD)).box1 (b := w.heap.size) rfl [.slice a xs.length c, .slice b ys.length d] 26).box1 (b := w.heap.size + 1) (by simp) [.slice aQ Q.length cQ, .slice aS wv.S.length cS, .slice aP wv.P.length cP, .slice aD wv.D.length cD] 28).box1 (b := w.heap.size + 1 + 1) (by simp) [.slice none 0 0, .slice none 0 0] 26)
 simp only [List.nil_append, List.cons_append] at F1
 clear hgd hin hnu h h2 k hQ hS hP hD hz hz2
 go_enter Try.func15, Try.ntmps15
 go_upto_region 1 with fail
 obtain ⟨W1, hW1⟩ : ∃ W1, ((w.alloc (.cells #[.slice a xs.length c, .slice b ys.length d] 26)).alloc (.cells #[.slice aQ Q.length cQ, .slice aS wv.S.length cS, .slice aP wv.P.length cP, .slice aD wv.D.length cD] 28)).alloc (.cells #[.slice none 0 0, .slice none 0 0] 26) = W1 := ⟨_, rfl⟩
 rw [hW1] at F1 ⊢
 clear hW1
 have c0_0 := F1.out.c 0 0 rfl rfl
 have c0_1 := F1.out.c 0 1 rfl rfl
 go_wp2_with (first | (go_at_call 43; refine (HGD.out _ (F1.out.lw 0 rfl) (F1.out.lw 1 rfl)).mono ?_; rintro e w2 ⟨rfl, hb⟩; have F2 := Lib.hid (F1.out.next hb); clear hb F1 c0_0 c0_1; have c1_0 := F2.out.c 1 0 rfl rfl; have c1_1 := F2.out.c 1 1 rfl rfl; have c1_2 := F2.out.c 1 2 rfl rfl; have c1_3 := F2.out.c 1 3 rfl rfl) | (go_at_call 44; refine (HIN.out _ (F2.out.lw 2 rfl)).mono ?_; rintro e w3 ⟨rfl, hb⟩; have F3 := Lib.hid (F2.out.next hb); clear hb F2 c1_0 c1_1 c1_2 c1_3; have c1_0 := F3.out.c 1 0 rfl rfl; have c1_1 := F3.out.c 1 1 rfl rfl; have c1_2 := F3.out.c 1 2 rfl rfl; have c1_3 := F3.out.c 1 3 rfl rfl; have d2_0 := F3.out.c 2 0 rfl rfl; have d2_1 := F3.out.c 2 1 rfl rfl; have df2_0 := F3.out.f 2 0 rfl rfl; have df2_1 := F3.out.f 2 1 rfl rfl) | (go_at_call 33; refine (HNU.out _ (F3.out.lw 3 rfl) (F3.out.lw 4 rfl) (F3.out.lw 5 rfl) (F3.out.lw 6 rfl)).mono ?_; rintro e w4 ⟨rfl, hb⟩; have F4 := Lib.hid (F3.out.next hb); clear hb F3 c1_0 c1_1 c1_2 c1_3; have c0_0 := F4.out.c 0 0 rfl rfl; have c0_1 := F4.out.c 0 1 rfl rfl; have c1_0 := F4.out.c 1 0 rfl rfl; have c1_1 := F4.out.c 1 1 rfl rfl; have c1_2 := F4.out.c 1 2 rfl rfl; have c1_3 := F4.out.c 1 3 rfl rfl) | fail)
 have FZ := F3.out.set 2 rfl (by simp) [.slice none 0 0, .slice none 0 0] rfl
 simp only [setL, Nat.reduceAdd, List.set_cons_zero, List.set_cons_succ] at FZ
 have y0 := FZ.c 2 0 rfl rfl
 have y1 := FZ.c 2 1 rfl rfl
 refine bodyPost_ret (v := .tuple #[.agg #[.slice none 0 0, .slice none 0 0], .int .i64 1]) ?_ rfl (retTF_none FZ)
 rw [results_ctZ rfl]
 go_simp
set_option maxRecDepth 100000 in
set_option maxHeartbeats 2000000 in
theorem conCols_num (a b ak : Option Addr) (c d ck : Nat) (xs ys : List Int) (aQ aS aP aD : Option Addr) (cQ cS cP cD : Nat) (Q : List Int) (wv : WinV) (w : World) (h : Ints .i64 w w.heap.size a xs) (h2 : Ints .i64 w w.heap.size b ys) (k : Ints .i64 w w.heap.size ak wv.K) (hQ : Ints .i64 w w.heap.size aQ Q) (hS : Ints .i64 w w.heap.size aS wv.S) (hP : Ints .i64 w w.heap.size aP wv.P) (hD : Ints .i64 w w.heap.size aD wv.D) (hz : tenB xs ys = true) (hz2 : wv.K.all (okI 1) = true) (hz3 : numB false Q wv.S wv.P wv.D = false) :
  Calls Try.prog 15 #[.agg #[.slice a xs.length c, .slice b ys.length d], .slice ak wv.K.length ck, .agg #[.slice aQ Q.length cQ, .slice aS wv.S.length cS, .slice aP wv.P.length cP, .slice aD wv.D.length cD]] w (RetTF w [] [] 1) := by
 have hgd := fun W h1 h2 => elemGood_any a b c d xs ys W h1 h2
 have hin := fun W h1 => insideL_any ak ck 1 wv.K W h1
 have hnu := fun W h1 h2 h3 h4 => convNumbers_any false aQ aS aP aD cQ cS cP cD Q wv.S wv.P wv.D W h1 h2 h3 h4
 rw [hz] at hgd
 rw [hz2] at hin
 rw [hz3] at hnu
 have HGD := Lib.hid hgd
 have HIN := Lib.hid hin
 have HNU := Lib.hid hnu
 have F1 := Lib.hid ((((Fr.start (w := w) (I := [(.i64, a, xs), (.i64, b, ys), (.i64, ak, wv.K), (.i64, aQ, Q), (.i64, aS, wv.S), (.i64, aP, wv.P), (.i64, aD, wv.D)]) (by intro z hz; simp at hz; rcases hz with rfl | rfl | rfl | rfl | rfl | rfl | rfl; exact h; exact h2; exact k; exact hQ; exact hS; exact hP; exact hD)).box1 (b := w.heap.size) rfl [.slice a xs.length c, .slice b ys.length d] 26).box1 (b := w.heap.size + 1) (by simp) [.slice aQ Q.length cQ, .slice aS wv.S.length cS, .slice aP wv.P.length cP, .slice aD wv.D.length cD] 28).box1 (b := w.heap.size + 1 + 1) (by simp) [.slice none 0 0, .slice none 0 0] 26)
 simp only [List.nil_append, List.cons_append] at F1
 clear hgd hin hnu h h2 k hQ hS hP hD hz hz2 hz3
 go_enter Try.func15, Try.ntmps15
 go_upto_region 1 with fail
 obtain ⟨W1, hW1⟩ : ∃ W1, ((w.alloc (.cells #[.slice a xs.length c, .slice b ys.length d] 26)).alloc (.cells #[.slice aQ Q.length cQ, .slice aS wv.S.length cS, .slice aP wv.P.length cP, .slice aD wv.D.length cD] 28)).alloc (.cells #[.slice none 0 0, .slice none 0 0] 26) = W1 := ⟨_, rfl⟩
 rw [hW1] at F1 ⊢
 clear hW1
 have c0_0 := F1.out.c 0 0 rfl rfl
 have c0_1 := F1.out.c 0 1 rfl rfl
 go_wp2_with (first | (go_at_call 43; refine (HGD.out _ (F1.out.lw 0 rfl) (F1.out.lw 1 rfl)).mono ?_; rintro e w2 ⟨rfl, hb⟩; have F2 := Lib.hid (F1.out.next hb); clear hb F1 c0_0 c0_1; have c1_0 := F2.out.c 1 0 rfl rfl; have c1_1 := F2.out.c 1 1 rfl rfl; have c1_2 := F2.out.c 1 2 rfl rfl; have c1_3 := F2.out.c 1 3 rfl rfl) | (go_at_call 44; refine (HIN.out _ (F2.out.lw 2 rfl)).mono ?_; rintro e w3 ⟨rfl, hb⟩; have F3 := Lib.hid (F2.out.next hb); clear hb F2 c1_0 c1_1 c1_2 c1_3; have c1_0 := F3.out.c 1 0 rfl rfl; have c1_1 := F3.out.c 1 1 rfl rfl; have c1_2 := F3.out.c 1 2 rfl rfl; have c1_3 := F3.out.c 1 3 rfl rfl) | (go_at_call 33; refine (HNU.out _ (F3.out.lw 3 rfl) (F3.out.lw 4 rfl) (F3.out.lw 5 rfl) (F3.out.lw 6 rfl)).mono ?_; rintro e w4 ⟨rfl, hb⟩; have F4 := Lib.hid (F3.out.next hb); clear hb F3 c1_0 c1_1 c1_2 c1_3; have d2_0 := F4.out.c 2 0 rfl rfl; have d2_1 := F4.out.c 2 1 rfl rfl; have df2_0 := F4.out.f 2 0 rfl rfl; have df2_1 := F4.out.f 2 1 rfl rfl) | fail)
 have FZ := F4.out.set 2 rfl (by simp) [.slice none 0 0, .slice none 0 0] rfl
 simp only [setL, Nat.reduceAdd, List.set_cons_zero, List.set_cons_succ] at FZ
 have y0 := FZ.c 2 0 rfl rfl
 have y1 := FZ.c 2 1 rfl rfl
 refine bodyPost_ret (v := .tuple #[.agg #[.slice none 0 0, .slice none 0 0], .int .i64 1]) ?_ rfl (retTF_none FZ)
 rw [results_ctZ rfl]
 go_simp
set_option maxRecDepth 100000 in
set_option maxHeartbeats 2000000 in
theorem conCols_shape (a b ak : Option Addr) (c d ck : Nat) (xs ys : List Int) (aQ aS aP aD : Option Addr) (cQ cS cP cD : Nat) (Q : List Int) (wv : WinV) (w : World) (h : Ints .i64 w w.heap.size a xs) (h2 : Ints .i64 w w.heap.size b ys) (k : Ints .i64 w w.heap.size ak wv.K) (hQ : Ints .i64 w w.heap.size aQ Q) (hS : Ints .i64 w w.heap.size aS wv.S) (hP : Ints .i64 w w.heap.size aP wv.P) (hD : Ints .i64 w w.heap.size aD wv.D) (hL : wv.L = xs.drop 2) (hc1 : xs.length ≤ c) (hc2 : c ≤ 9223372036854775807) (hz : tenB xs ys = true) (hz2 : wv.K.all (okI 1) = true) (hz3 : numB false Q wv.S wv.P wv.D = true) (hz4 : colZ xs wv.K wv ≠ 0) :
  Calls Try.prog 15 #[.agg #[.slice a xs.length c, .slice b ys.length d], .slice ak wv.K.length ck, .agg #[.slice aQ Q.length cQ, .slice aS wv.S.length cS, .slice aP wv.P.length cP, .slice aD wv.D.length cD]] w (RetTF w [] [] (colZ xs wv.K wv)) := by
 have hgd := fun W h1 h2 => elemGood_any a b c d xs ys W h1 h2
 have hin := fun W h1 => insideL_any ak ck 1 wv.K W h1
 have hnu := fun W h1 h2 h3 h4 => convNumbers_any false aQ aS aP aD cQ cS cP cD Q wv.S wv.P wv.D W h1 h2 h3 h4
 rw [hz] at hgd
 rw [hz2] at hin
 rw [hz3] at hnu
 have hgx := (tenB_iff.1 hz).1
 have hco := fun W h1 h2 h3 h4 h5 => columns_bad a ak c ck xs aQ aS aP aD cQ cS cP cD Q wv W h1 h2 h3 h4 h5 hz3 hL hgx hz2 hc1 hc2 hz4
 obtain ⟨z, hze⟩ : ∃ z, colZ xs wv.K wv = z := ⟨_, rfl⟩
 rw [hze] at hco hz4 ⊢
 have HCO := Lib.hid hco
 have hz5 : (z != 0) = true := by simpa using hz4
 clear hco hgx hL hc1 hc2 hz4 hze
 have HGD := Lib.hid hgd
 have HIN := Lib.hid hin
 have HNU := Lib.hid hnu
 have F1 := Lib.hid ((((Fr.start (w := w) (I := [(.i64, a, xs), (.i64, b, ys), (.i64, ak, wv.K), (.i64, aQ, Q), (.i64, aS, wv.S), (.i64, aP, wv.P), (.i64, aD, wv.D)]) (by intro z hz; simp at hz; rcases hz with rfl | rfl | rfl | rfl | rfl | rfl | rfl; exact h; exact h2; exact k; exact hQ; exact hS; exact hP; exact hD)).box1 (b := w.heap.size) rfl [.slice a xs.length c, .slice b ys.length d] 26).box1 (b := w.heap.size + 1) (by simp) [.slice aQ Q.length cQ, .slice aS wv.S.length cS, .slice aP wv.P.length cP, .slice aD wv.D.length cD] 28).box1 (b := w.heap.size + 1 + 1) (by simp) [.slice none 0 0, .slice none 0 0] 26)
 simp only [List.nil_append, List.cons_append] at F1
 clear hgd hin hnu h h2 k hQ hS hP hD hz hz2 hz3
 go_enter Try.func15, Try.ntmps15
 go_upto_region 1 with fail
 obtain ⟨W1, hW1⟩ : ∃ W1, ((w.alloc (.cells #[.slice a xs.length c, .slice b ys.length d] 26)).alloc (.cells #[.slice aQ Q.length cQ, .slice aS wv.S.length cS, .slice aP wv.P.length cP, .slice aD wv.D.length cD] 28)).alloc (.cells #[.slice none 0 0, .slice none 0 0] 26) = W1 := ⟨_, rfl⟩
 rw [hW1] at F1 ⊢
 clear hW1
 have c0_0 := F1.out.c 0 0 rfl rfl
 have c0_1 := F1.out.c 0 1 rfl rfl
 go_upto_region 3 with (first | (go_at_call 43; refine (HGD.out _ (F1.out.lw 0 rfl) (F1.out.lw 1 rfl)).mono ?_; rintro e w2 ⟨rfl, hb⟩; have F2 := Lib.hid (F1.out.next hb); clear hb F1 c0_0 c0_1; have c1_0 := F2.out.c 1 0 rfl rfl; have c1_1 := F2.out.c 1 1 rfl rfl; have c1_2 := F2.out.c 1 2 rfl rfl; have c1_3 := F2.out.c 1 3 rfl rfl) | (go_at_call 44; refine (HIN.out _ (F2.out.lw 2 rfl)).mono ?_; rintro e w3 ⟨rfl, hb⟩; have F3 := Lib.hid (F2.out.next hb); clear hb F2 c1_0 c1_1 c1_2 c1_3; have c1_0 := F3.out.c 1 0 rfl rfl; have c1_1 := F3.out.c 1 1 rfl rfl; have c1_2 := F3.out.c 1 2 rfl rfl; have c1_3 := F3.out.c 1 3 rfl rfl) | (go_at_call 33; refine (HNU.out _ (F3.out.lw 3 rfl) (F3.out.lw 4 rfl) (F3.out.lw 5 rfl) (F3.out.lw 6 rfl)).mono ?_; rintro e w4 ⟨rfl, hb⟩; have F4 := Lib.hid (F3.out.next hb); clear hb F3 c1_0 c1_1 c1_2 c1_3; have c0_0 := F4.out.c 0 0 rfl rfl; have c0_1 := F4.out.c 0 1 rfl rfl; have c1_0 := F4.out.c 1 0 rfl rfl; have c1_1 := F4.out.c 1 1 rfl rfl; have c1_2 := F4.out.c 1 2 rfl rfl; have c1_3 := F4.out.c 1 3 rfl rfl) | fail)
 go_upto_region 4 with (first | (go_at_call 45; refine (HCO.out _ (F4.out.lw 0 rfl) (F4.out.lw 2 rfl) (F4.out.lw 4 rfl) (F4.out.lw 5 rfl) (F4.out.lw 6 rfl)).mono ?_; rintro e w5 ⟨⟨o0, l0, k0⟩, ⟨o1, l1, k1⟩, ⟨o2, l2, k2⟩, ⟨o3, l3, k3⟩, ⟨o4, l4, k4⟩, ⟨o5, l5, k5⟩, ⟨o6, l6, k6⟩, rfl, hb⟩; dsimp only; have F5 := Lib.hid (F4.out.next hb); clear hb F4 c0_0 c0_1 c1_0 c1_1 c1_2 c1_3) | fail)
 obtain ⟨Q4, hQ4⟩ : ∃ x, w5.heap.size = x := ⟨_, rfl⟩
 rw [hQ4]
 have F6 := Lib.hid (F5.out.box1 (b := Q4) hQ4 [.slice o0 l0 k0, .slice o1 l1 k1, .slice o2 l2 k2, .slice o3 l3 k3, .slice o4 l4 k4, .slice o5 l5 k5, .slice o6 l6 k6] 64)
 simp only [List.nil_append, List.cons_append] at F6
 obtain ⟨W6, hW6⟩ : ∃ x, (w5.alloc (.cells #[.slice o0 l0 k0, .slice o1 l1 k1, .slice o2 l2 k2, .slice o3 l3 k3, .slice o4 l4 k4, .slice o5 l5 k5, .slice o6 l6 k6] 64)) = x := ⟨_, rfl⟩
 rw [hW6] at F6 ⊢
 clear hW6 hQ4 F5
 have d2_0 := F6.out.c 2 0 rfl rfl
 have d2_1 := F6.out.c 2 1 rfl rfl
 have df2_0 := F6.out.f 2 0 rfl rfl
 have df2_1 := F6.out.f 2 1 rfl rfl
 go_wp2
 have FZ := F6.out.set 2 rfl (by simp) [.slice none 0 0, .slice none 0 0] rfl
 simp only [setL, Nat.reduceAdd, List.set_cons_zero, List.set_cons_succ] at FZ
 have y0 := FZ.c 2 0 rfl rfl
 have y1 := FZ.c 2 1 rfl rfl
 refine bodyPost_ret (v := .tuple #[.agg #[.slice none 0 0, .slice none 0 0], .int .i64 z]) ?_ rfl (retTF_none FZ)
 rw [results_ctZ rfl]
 go_simp
set_option maxRecDepth 100000 in
set_option maxHeartbeats 8000000 in
theorem conCols_go (a b ak : Option Addr) (c d ck : Nat) (xs ys : List Int) (aQ aS aP aD : Option Addr) (cQ cS cP cD : Nat) (Q : List Int) (wv : WinV) (w : World) (h : Ints .i64 w w.heap.size a xs) (h2 : Ints .i64 w w.heap.size b ys) (k : Ints .i64 w w.heap.size ak wv.K) (hQ : Ints .i64 w w.heap.size aQ Q) (hS : Ints .i64 w w.heap.size aS wv.S) (hP : Ints .i64 w w.heap.size aP wv.P) (hD : Ints .i64 w w.heap.size aD wv.D) (hL : wv.L = xs.drop 2) (hc1 : xs.length ≤ c) (hc2 : c ≤ 9223372036854775807) (hz : tenB xs ys = true) (hz2 : wv.K.all (okI 1) = true) (hz3 : numB false Q wv.S wv.P wv.D = true) (hz4 : colZ xs wv.K wv = 0) :
  Calls Try.prog 15 #[.agg #[.slice a xs.length c, .slice b ys.length d], .slice ak wv.K.length ck, .agg #[.slice aQ Q.length cQ, .slice aS wv.S.length cS, .slice aP wv.P.length cP, .slice aD wv.D.length cD]] w (RetTF w (colS xs wv) (clWs xs ys wv) 0) := by
 have hgx := (tenB_iff.1 hz).1
 have hyl := (tenB_iff.1 hz).2.1
 obtain ⟨N, M, T, C, R, K⟩ := colsK_ok hL rfl hgx hz2 hz3 hz4
 obtain ⟨e1, e2, e3, e4⟩ := colZ_ok hz4
 rw [K.px] at hyl
 have hyl2 : ys.length = R * (C * M) := by omega
 have hp1 : 1 ≤ R * (C * M) := Nat.mul_pos K.r1 (Nat.mul_pos K.c1 K.m1)
 have hp2 : 1 ≤ R * (C * T) * N := Nat.mul_pos (Nat.mul_pos K.r1 (Nat.mul_pos K.c1 K.t1)) K.n1
 obtain ⟨b0, o0, rfl, _, _⟩ := h.cell 0 (by have := K.lx; omega)
 obtain ⟨gy, oy, rfl, _, _⟩ := h2.cell 0 (by omega)
 have hiL := ints_drop h 2
 rw [← hL] at hiL
 have hWs : clWs xs ys wv = (List.range (R * (C * T) * N)).map (clW ys wv N T M) := by
  unfold clWs clN
  rw [K.pS, K.hN, K.hT, K.hM, Int.toNat_natCast, Int.toNat_natCast, Int.toNat_natCast, Int.toNat_natCast]
 rw [hWs]
 have hgd := fun W h1 h2 => elemGood_any (some ⟨b0, o0, none⟩) (some ⟨gy, oy, none⟩) c d xs ys W h1 h2
 have hin := fun W h1 => insideL_any ak ck 1 wv.K W h1
 have hnu := fun W h1 h2 h3 h4 => convNumbers_any false aQ aS aP aD cQ cS cP cD Q wv.S wv.P wv.D W h1 h2 h3 h4
 rw [hz] at hgd
 rw [hz2] at hin
 rw [hz3] at hnu
 have hco := fun W h1 h2 h3 h4 h5 => cols_ok (some ⟨b0, o0, none⟩) ak c ck xs wv.K aQ aS aP aD cQ cS cP cD Q wv W h1 h2 h3 h4 h5 hz3 rfl e1 e2 hL hgx hz2 hc1 hc2 e3 e4
 have hnw := fun a9 c9 W (h : Ints .i64 W W.heap.size a9 (colS xs wv)) => elemNew_any a9 c9 (colS xs wv) W h e4
 rw [K.pS, Int.toNat_natCast] at hnw
 obtain ⟨NN, hNN⟩ : ∃ z, R * (C * T) * N = z := ⟨_, rfl⟩
 rw [hNN] at hnw hp2 ⊢
 have hswf : ∀ x ∈ colS xs wv, (Lit.int .i64 x).wf = true := wf_dims (fun x hx => by have := goodB_dims e4 x hx; omega)
 obtain ⟨SS, hSS⟩ : ∃ s, colS xs wv = s := ⟨_, rfl⟩
 have hSl : SS.length = 3 := by rw [← hSS]; rfl
 rw [hSS] at hco hnw hswf ⊢
 rw [hSl] at hnw
 have hOw : ∀ x ∈ wv.O, (Lit.int .i64 x).wf = true := wf_dims (fun x hx => by have := goodB_dims K.gO x hx; omega)
 obtain ⟨FW, hFW⟩ : ∃ g, clW ys wv N T M = g := ⟨_, rfl⟩
 have hFat := fun m p t (hp : p < N) (ht : t < T) => clW_at ys wv (M := M) (m := m) hp ht
 rw [hFW] at hFat ⊢
 have HGD := Lib.hid hgd
 have HIN := Lib.hid hin
 have HNU := Lib.hid hnu
 have HCO := Lib.hid hco
 have HNW := Lib.hid hnw
 have HSW := Lib.hid hswf
 have HSL := Lib.hid hSl
 have HOW := Lib.hid hOw
 have HFA := Lib.hid hFat
 have HK := Lib.hid K
 have HYL := Lib.hid hyl2
 have HNN := Lib.hid hNN
 have HP2 := Lib.hid (And.intro hp1 hp2)
 have F1 := Lib.hid ((((Fr.start (w := w) (I := [(.i64, (some ⟨b0, o0, none⟩), xs), (.i64, (some ⟨gy, oy, none⟩), ys), (.i64, ak, wv.K), (.i64, aQ, Q), (.i64, aS, wv.S), (.i64, aP, wv.P), (.i64, aD, wv.D), (.i64, (some ⟨b0, o0 + 2, none⟩), wv.L)]) (by intro z hz; simp at hz; rcases hz with rfl | rfl | rfl | rfl | rfl | rfl | rfl | rfl; exact h; exact h2; exact k; exact hQ; exact hS; exact hP; exact hD; exact hiL)).box1 (b := w.heap.size) rfl [.slice (some ⟨b0, o0, none⟩) xs.length c, .slice (some ⟨gy, oy, none⟩) ys.length d] 26).box1 (b := w.heap.size + 1) (by simp) [.slice aQ Q.length cQ, .slice aS wv.S.length cS, .slice aP wv.P.length cP, .slice aD wv.D.length cD] 28).box1 (b := w.heap.size + 1 + 1) (by simp) [.slice none 0 0, .slice none 0 0] 26)
 simp only [List.nil_append, List.cons_append] at F1
 clear hgd hin hnu hco hnw hswf hSl hOw hFat K hyl2 hyl hNN hp1 hp2 hFW hSS hWs h h2 k hQ hS hP hD hiL hL hz hz2 hz3 hz4 hgx e1 e2 e3 e4 hc1 hc2
 refine (callsIn_wide (n := 20)).1 ?_
 refine callsIn_of_wp_marks Try.func15 rfl trivial ?_ rfl
 simp only [Try.ntmps15, List.size_toArray, List.length_cons, List.length_nil, Nat.reduceAdd, Nat.reduceSub, Array.replicate_succ, Array.replicate_zero, List.push_toArray, List.append_toArray, List.nil_append, List.cons_append]
 refine wpIn_wide.2 ?_
 go_upto_region 1 with fail
 obtain ⟨W1, hW1⟩ : ∃ W1, ((w.alloc (.cells #[.slice (some ⟨b0, o0, none⟩) xs.length c, .slice (some ⟨gy, oy, none⟩) ys.length d] 26)).alloc (.cells #[.slice aQ Q.length cQ, .slice aS wv.S.length cS, .slice aP wv.P.length cP, .slice aD wv.D.length cD] 28)).alloc (.cells #[.slice none 0 0, .slice none 0 0] 26) = W1 := ⟨_, rfl⟩
 rw [hW1] at F1 ⊢
 clear hW1
 have c0_0 := F1.out.c 0 0 rfl rfl
 have c0_1 := F1.out.c 0 1 rfl rfl
 go_upto_region 3 with (first | (go_at_call 43; refine (HGD.out _ (F1.out.lw 0 rfl) (F1.out.lw 1 rfl)).mono ?_; rintro e w2 ⟨rfl, hb⟩; have F2 := Lib.hid (F1.out.next hb); clear hb F1 c0_0 c0_1; have c1_0 := F2.out.c 1 0 rfl rfl; have c1_1 := F2.out.c 1 1 rfl rfl; have c1_2 := F2.out.c 1 2 rfl rfl; have c1_3 := F2.out.c 1 3 rfl rfl) | (go_at_call 44; refine (HIN.out _ (F2.out.lw 2 rfl)).mono ?_; rintro e w3 ⟨rfl, hb⟩; have F3 := Lib.hid (F2.out.next hb); clear hb F2 c1_0 c1_1 c1_2 c1_3; have c1_0 := F3.out.c 1 0 rfl rfl; have c1_1 := F3.out.c 1 1 rfl rfl; have c1_2 := F3.out.c 1 2 rfl rfl; have c1_3 := F3.out.c 1 3 rfl rfl) | (go_at_call 33; refine (HNU.out _ (F3.out.lw 3 rfl) (F3.out.lw 4 rfl) (F3.out.lw 5 rfl) (F3.out.lw 6 rfl)).mono ?_; rintro e w4 ⟨rfl, hb⟩; have F4 := Lib.hid (F3.out.next hb); clear hb F3 c1_0 c1_1 c1_2 c1_3; have c0_0 := F4.out.c 0 0 rfl rfl; have c0_1 := F4.out.c 0 1 rfl rfl; have c1_0 := F4.out.c 1 0 rfl rfl; have c1_1 := F4.out.c 1 1 rfl rfl; have c1_2 := F4.out.c 1 2 rfl rfl; have c1_3 := F4.out.c 1 3 rfl rfl) | fail)
 go_upto_region 4 with (first | (go_at_call 45; refine (HCO.out _ (F4.out.lw 0 rfl) (F4.out.lw 2 rfl) (F4.out.lw 4 rfl) (F4.out.lw 5 rfl) (F4.out.lw 6 rfl)).mono ?_; rintro e w5 ⟨aL, cL, aO, cO, as1, cs1, rfl, ⟨b9, o9, he, rfl⟩, hf⟩; cases he; have F5 := Lib.hid (F4.out.join hf); simp only [List.nil_append, List.cons_append] at F5; clear hf F4 c0_0 c0_1 c1_0 c1_1 c1_2 c1_3) | fail)
 obtain ⟨Y8, hY8⟩ : ∃ x, w5.heap.size = x := ⟨_, rfl⟩
 try rw [hY8]
 have F6 := Lib.hid (F5.out.box1 (b := Y8) hY8 [.slice (some ⟨b0, o0 + 2, none⟩) wv.L.length cL, .slice ak wv.K.length ck, .slice aO wv.O.length cO, .slice aQ Q.length cQ, .slice aS wv.S.length cS, .slice aP wv.P.length cP, .slice aD wv.D.length cD] 64)
 simp only [List.nil_append, List.cons_append] at F6
 obtain ⟨W6, hW6⟩ : ∃ x, (w5.alloc (.cells #[.slice (some ⟨b0, o0 + 2, none⟩) wv.L.length cL, .slice ak wv.K.length ck, .slice aO wv.O.length cO, .slice aQ Q.length cQ, .slice aS wv.S.length cS, .slice aP wv.P.length cP, .slice aD wv.D.length cD] 64)) = x := ⟨_, rfl⟩
 rw [hW6] at F6 ⊢
 clear hW6 hY8 F5
 go_upto_region 6 with fail
 go_upto_region 7 with (first | (go_at_call 35; refine (HNW.out as1 cs1 _ (F6.out.li 1 (k := .i64) (xs := SS) rfl HSW.out)).mono ?_; rintro e w7 hr; obtain ⟨as_, cs_, gd, dd, rfl, hf⟩ := retNew_frP hr HP2.out.2; have F7 := Lib.hid (F6.out.join hf); simp only [List.cons_append, List.nil_append] at F7; clear hf hr F6) | fail)
 obtain ⟨Q9, hQ9⟩ : ∃ x, w7.heap.size = x := ⟨_, rfl⟩
 try rw [hQ9]
 have F8 := Lib.hid (F7.out.box1 (b := Q9) hQ9 [.slice as_ SS.length cs_, .slice (some ⟨gd, 0, none⟩) NN dd] 26)
 simp only [List.nil_append, List.cons_append] at F8
 obtain ⟨W8, hW8⟩ : ∃ x, (w7.alloc (.cells #[.slice as_ SS.length cs_, .slice (some ⟨gd, 0, none⟩) NN dd] 26)) = x := ⟨_, rfl⟩
 rw [hW8] at F8 ⊢
 clear hW8 hQ9 F7
 have c0_0 := F8.out.c 0 0 rfl rfl
 have c0_1 := F8.out.c 0 1 rfl rfl
 have c3_0 := F8.out.c 3 0 rfl rfl
 have c3_1 := F8.out.c 3 1 rfl rfl
 have c3_2 := F8.out.c 3 2 rfl rfl
 have c3_3 := F8.out.c 3 3 rfl rfl
 have c3_4 := F8.out.c 3 4 rfl rfl
 have c3_5 := F8.out.c 3 5 rfl rfl
 have c3_6 := F8.out.c 3 6 rfl rfl
 have hea := fun W (h : Ints .i64 W W.heap.size (some ⟨b0, o0 + 2, none⟩) wv.L) => each_any (some ⟨b0, o0 + 2, none⟩) ak aO aQ aS aP aD cL ck cO cQ cS cP cD Q wv (some ⟨b0, o0, none⟩) c M xs W h HK.out.gL HK.out.hM
 have HEA := Lib.hid hea
 clear hea
 go_upto_block 0 with (first | (go_at_call 46; refine (HEA.out _ (F8.out.lw 7 rfl)).mono ?_; rintro e w9 ⟨qp, rfl, hf⟩; have F9 := Lib.hid (F8.out.join2 hf); simp only [List.nil_append, List.cons_append, List.append_nil] at F9; clear hf F8 c0_0 c0_1 c3_0 c3_1 c3_2 c3_3 c3_4 c3_5 c3_6) | fail)
 obtain ⟨X1, hX1⟩ : ∃ x, W8.heap.size = x := ⟨_, rfl⟩
 rw [hX1] at F9 ⊢
 clear hX1
 obtain ⟨D, hD⟩ : ∃ D, w9.heap.size = D := ⟨_, rfl⟩
 rw [← fill_0 FW N T NN] at F9
 go_wp2
 refine wpIn_wide.1 (wpIn_rangeFunc_any (n := 20) rfl (by omega) (gf := 84) (lb := #[.pointer (some ⟨X1 + 1, 0, none⟩), .pointer (some ⟨X1, 0, none⟩), .pointer (some ⟨qp, 0, none⟩)]) rfl trivial (enters_of Try.func84 (by kernel_rfl) rfl) D hD
  (fun W2 => ∃ o, Hid (Fr w.heap.size w W2 [(w.heap.size, [.slice (some ⟨b0, o0, none⟩) xs.length c, .slice (some ⟨gy, oy, none⟩) ys.length d]), (w.heap.size + 1, [.slice aQ Q.length cQ, .slice aS wv.S.length cS, .slice aP wv.P.length cP, .slice aD wv.D.length cD]), (w.heap.size + 1 + 1, [.slice none 0 0, .slice none 0 0]), (Y8, [.slice (some ⟨b0, o0 + 2, none⟩) wv.L.length cL, .slice ak wv.K.length ck, .slice aO wv.O.length cO, .slice aQ Q.length cQ, .slice aS wv.S.length cS, .slice aP wv.P.length cP, .slice aD wv.D.length cD]), (Q9, [.slice as_ SS.length cs_, .slice (some ⟨gd, 0, none⟩) NN dd]), (X1, [.slice (some ⟨b0, o0 + 2, none⟩) wv.L.length cL, .slice ak wv.K.length ck, .slice aO wv.O.length cO, .slice aQ Q.length cQ, .slice aS wv.S.length cS, .slice aP wv.P.length cP, .slice aD wv.D.length cD]), (X1 + 1, [.slice (some ⟨b0, o0, none⟩) xs.length c]), (qp, [.int .i64 (M : Int)])] [(.i64, (some ⟨b0, o0, none⟩), xs), (.i64, (some ⟨gy, oy, none⟩), ys), (.i64, ak, wv.K), (.i64, aQ, Q), (.i64, aS, wv.S), (.i64, aP, wv.P), (.i64, aD, wv.D), (.i64, (some ⟨b0, o0 + 2, none⟩), wv.L)] [⟨3, .slice aO wv.O.length cO, wv.O.length, wv.O.map (Value.int .i64)⟩, ⟨3, .slice as1 3 cs1, 3, SS.map (Value.int .i64)⟩, ⟨3, .slice as_ SS.length cs_, SS.length, SS.map (Value.int .i64)⟩, ⟨2, .slice (some ⟨gd, 0, none⟩) NN dd, NN, (fillC FW N T NN (R * C) 0 0).map (Value.int .i64)⟩] ([(D + 1, o), (D, .deferred (some []))]))) (fun _ _ => False) ?hcall ?hdone ?hstop)
 case hstop =>
  intro cc W2 o ho hf
  exact hf.elim
 case hcall =>
  intro fn9 R9 hfn hR9
  have HR9 := Lib.hid hR9
  clear hR9
  have F10 := Lib.hid (((F9.out.recM hD (.deferred (some [])) rfl).recM (b := D + 1) (by simp [hD]) (.loop (R9 .ready none)) rfl).frontM)
  simp only [List.nil_append, List.cons_append] at F10
  have hsz5 : ((w9.alloc (.deferred (some []))).alloc (.loop (R9 .ready none))).heap.size = D + 2 := by simp [hD]
  obtain ⟨W5, hW5⟩ : ∃ x, ((w9.alloc (.deferred (some []))).alloc (.loop (R9 .ready none))) = x := ⟨_, rfl⟩
  rw [hW5] at F10 hsz5 ⊢
  have H0 := FrS.of F10.out (fun p hp => (Array.getElem?_eq_some_iff.1 (F10.out.obj p hp).1).1)
  rw [hsz5] at H0
  have HJ0 := Lib.hid H0
  clear hW5 F9 H0 F10
  refine (eachIter 19 (by omega) (D + 1) (X1 + 1) X1 qp R C N T M (D + 2) (some ⟨b0, o0 + 2, none⟩) ak aO aQ aS aP aD cL ck cO cQ cS cP cD Q wv (some ⟨b0, o0, none⟩) c xs W5 hsz5 (fun m p t V => FrS (D + 2) w.heap.size w V [(w.heap.size, [.slice (some ⟨b0, o0, none⟩) xs.length c, .slice (some ⟨gy, oy, none⟩) ys.length d]), (w.heap.size + 1, [.slice aQ Q.length cQ, .slice aS wv.S.length cS, .slice aP wv.P.length cP, .slice aD wv.D.length cD]), (w.heap.size + 1 + 1, [.slice none 0 0, .slice none 0 0]), (Y8, [.slice (some ⟨b0, o0 + 2, none⟩) wv.L.length cL, .slice ak wv.K.length ck, .slice aO wv.O.length cO, .slice aQ Q.length cQ, .slice aS wv.S.length cS, .slice aP wv.P.length cP, .slice aD wv.D.length cD]), (Q9, [.slice as_ SS.length cs_, .slice (some ⟨gd, 0, none⟩) NN dd]), (X1, [.slice (some ⟨b0, o0 + 2, none⟩) wv.L.length cL, .slice ak wv.K.length ck, .slice aO wv.O.length cO, .slice aQ Q.length cQ, .slice aS wv.S.length cS, .slice aP wv.P.length cP, .slice aD wv.D.length cD]), (X1 + 1, [.slice (some ⟨b0, o0, none⟩) xs.length c]), (qp, [.int .i64 (M : Int)])] [(.i64, (some ⟨b0, o0, none⟩), xs), (.i64, (some ⟨gy, oy, none⟩), ys), (.i64, ak, wv.K), (.i64, aQ, Q), (.i64, aS, wv.S), (.i64, aP, wv.P), (.i64, aD, wv.D), (.i64, (some ⟨b0, o0 + 2, none⟩), wv.L)] [⟨3, .slice aO wv.O.length cO, wv.O.length, wv.O.map (Value.int .i64)⟩, ⟨3, .slice as1 3 cs1, 3, SS.map (Value.int .i64)⟩, ⟨3, .slice as_ SS.length cs_, SS.length, SS.map (Value.int .i64)⟩, ⟨2, .slice (some ⟨gd, 0, none⟩) NN dd, NN, (fillC FW N T NN m p t).map (Value.int .i64)⟩] ([(D + 1, .loop (R9 .ready none)), (D, .deferred (some []))])) HK.out.hR HK.out.hok HK.out.hr HK.out.gO HK.out.gK HK.out.hN HK.out.hT HK.out.hM HK.out.hRe HK.out.hC (by have := HK.out.lx; omega) HK.out.bS HK.out.bX (by have := HK.out.bR; omega) (by have := HK.out.bC; omega) HK.out.bRC ?hJ ?hJB ?hskip ?hnext ?hrow ?hY HJ0.out).mono ?post
  case post =>
   rintro e V ⟨hv, h⟩
   exact ⟨hv, .inl ⟨⟨_, Lib.hid h.fr⟩, h.fr.m 0 rfl⟩⟩
  case hJ =>
   rintro m p t V1 V2 h hb
   exact h.below hb
  case hJB =>
   rintro m p t V h
   exact ⟨h.sz, (h.fr.box _ (List.mem_of_getElem? (i := 6) rfl)).1, (h.fr.box _ (List.mem_of_getElem? (i := 5) rfl)).1, (h.fr.box _ (List.mem_of_getElem? (i := 7) rfl)).1, (h.fr.l 0 rfl).mono h.lS, ⟨(h.fr.l 7 rfl).mono h.lS, (h.fr.l 2 rfl).mono h.lS, ints_rowS (h.fr.r 0 rfl) rfl HOW.out (h.bO _ (List.mem_of_getElem? (i := 0) rfl)), (h.fr.l 4 rfl).mono h.lS, (h.fr.l 5 rfl).mono h.lS, (h.fr.l 6 rfl).mono h.lS⟩⟩
  case hskip =>
   rintro m p t V1 hm hp ht hf h
   have e := fill_skip FW (NN := NN) (m := m) hp ht (by rw [HFA.out m p t hp ht, if_neg (by rw [hf]; decide)])
   rw [e]
   exact h
  case hnext =>
   rintro m p V1 hm hp h
   rw [← fill_next FW (by have := HK.out.t1; omega)]
   exact h
  case hrow =>
   rintro m V1 hm h
   rw [← fill_row FW (by have := HK.out.n1; omega)]
   exact h
  case hY =>
   rintro m p t V1 hm hp ht htw hj
   have hfa := HFA.out m p t hp ht
   rw [if_pos htw] at hfa
   have hst := fill_set FW (NN := NN) (m := m) hp ht
   have hwib := WinV.wI_bound HK.out.hR htw
   rw [HK.out.hM] at hwib
   obtain ⟨z9, hz9⟩ : ∃ z : Nat, (wv.wI p t).toNat = z := ⟨_, rfl⟩
   have hzM : z9 < M := by omega
   rw [hz9] at hfa ⊢
   obtain ⟨col, hcol⟩ : ∃ z : Nat, (m * T + t) * N + p = z := ⟨_, rfl⟩
   obtain ⟨at9, hat⟩ : ∃ z : Nat, m * M + z9 = z := ⟨_, rfl⟩
   have hBD := each_bound hm hp ht hzM HK.out.bS HK.out.bX
   have hcN : col < NN := by rw [← HNN.out, ← hcol]; exact col_lt hm hp ht
   have haN : at9 < ys.length := by rw [HYL.out, ← hat]; exact at_lt hm hzM
   rw [hcol] at hfa hst ⊢
   rw [hat] at hfa ⊢
   obtain ⟨y9, hy9⟩ : ∃ z, ys[at9]?.getD 0 = z := ⟨_, rfl⟩
   rw [hy9] at hfa
   rw [hfa] at hst
   have HST := Lib.hid hst
   have HY9 := Lib.hid hy9
   have HCN := Lib.hid hcN
   have HAN := Lib.hid haN
   clear hfa hst hwib hz9 hzM hcol hat hBD hy9 hm hp ht htw
   refine yieldAt_roundR hfn HR9.out (hj.fr.m 0 rfl) rfl ?_
   obtain ⟨FM, hFM⟩ : ∃ l, fillC FW N T NN m p t = l := ⟨_, rfl⟩
   rw [hFM] at hj
   have HFL := Lib.hid (show FM.length = NN by rw [← hFM, fillC_len])
   have HFM := Lib.hid hFM
   clear hFM
   have HJ := Lib.hid hj
   clear hj hfn HJ0
   gi_wp2
   refine ⟨HJ.out.fr.m 0 rfl, ?_⟩
   have G1 := Lib.hid (HJ.out.fr.putM 0 rfl (.loop (R9 .busy none)) rfl)
   simp only [List.set_cons_zero, List.set_cons_succ] at G1
   have HKP := Lib.hid (Kept.putObj (D + 2) V1 (D + 1) (.loop (R9 .busy none)) (by omega))
   have hszV : (V1.putObj (D + 1) (.loop (R9 .busy none))).heap.size = V1.heap.size := by simp
   obtain ⟨V, hV⟩ : ∃ V, V1.putObj (D + 1) (.loop (R9 .busy none)) = V := ⟨_, rfl⟩
   rw [hV] at G1 HKP hszV ⊢
   clear hV
   (repeat gi_step)
   refine wpIn_region_parts2 (w := V) 9 1 none [] [(fun u _ => u = .pointer (some ⟨Q9, 1, none⟩)), (fun u _ => u = .slice (some ⟨gd, 0, none⟩) NN dd), (fun u _ => u = .int .i64 (col : Int)), (fun u _ => u = .pointer (some ⟨w.heap.size, 1, none⟩)), (fun u _ => u = .slice (some ⟨gy, oy, none⟩) ys.length d), (fun u _ => u = .int .i64 (at9 : Int)), (fun u _ => u = .pointer (some ⟨gy, oy + at9, none⟩)), (fun u _ => u = .int .i64 y9), (fun u _ => u = .pointer (some ⟨gd, col, none⟩))] [some 49, some 50, some 51, some 52, some 53, some 54, some 55, some 56, some 57, none] #[true, true, true, true, true, true, true, true, true, false] #[true, true, true, true, true, true, true, true, true, false] (by kernel_rfl) rfl (by kernel_rfl) (by kernel_rfl) rfl (by kernel_rfl) (by kernel_rfl) (.cons (carries_eq _) (.cons (carries_eq _) (.cons (carries_eq _) (.cons (carries_eq _) (.cons (carries_eq _) (.cons (carries_eq _) (.cons (carries_eq _) (.cons (carries_eq _) (.cons (carries_eq _) .nil))))))))) (fun vs b hvl hvb => ?_)
   obtain ⟨x0, x1, x2, x3, x4, x5, x6, x7, x8, x9, rfl⟩ : ∃ x0 x1 x2 x3 x4 x5 x6 x7 x8 x9, vs = [x0, x1, x2, x3, x4, x5, x6, x7, x8, x9] := lw10 hvl
   clear hvl
   simp only [putAll, Act.put, List.setIfInBounds_toArray, List.set_cons_zero, List.set_cons_succ] at hvb
   subst hvb
   refine ⟨(.snoc (.snoc (.snoc (.snoc (.snoc (.snoc (.snoc (.snoc (.snoc .zero (PartObIn.intro (d := (some 49)) (r := fun u _ => u = .pointer (some ⟨Q9, 1, none⟩)) rfl rfl rfl rfl ?po10x0)) (PartObIn.intro (d := (some 50)) (r := fun u _ => u = .slice (some ⟨gd, 0, none⟩) NN dd) rfl rfl rfl rfl ?po10x1)) (PartObIn.intro (d := (some 51)) (r := fun u _ => u = .int .i64 (col : Int)) rfl rfl rfl rfl ?po10x2)) (PartObIn.intro (d := (some 52)) (r := fun u _ => u = .pointer (some ⟨w.heap.size, 1, none⟩)) rfl rfl rfl rfl ?po10x3)) (PartObIn.intro (d := (some 53)) (r := fun u _ => u = .slice (some ⟨gy, oy, none⟩) ys.length d) rfl rfl rfl rfl ?po10x4)) (PartObIn.intro (d := (some 54)) (r := fun u _ => u = .int .i64 (at9 : Int)) rfl rfl rfl rfl ?po10x5)) (PartObIn.intro (d := (some 55)) (r := fun u _ => u = .pointer (some ⟨gy, oy + at9, none⟩)) rfl rfl rfl rfl ?po10x6)) (PartObIn.intro (d := (some 56)) (r := fun u _ => u = .int .i64 y9) rfl rfl rfl rfl ?po10x7)) (PartObIn.intro (d := (some 57)) (r := fun u _ => u = .pointer (some ⟨gd, col, none⟩)) rfl rfl rfl rfl ?po10x8)), ?pend10, ?pfl10⟩
   case po10x0 =>
    intro w1 hb1 hd KK hK
    clear hd
    simp only [Act.put, List.setIfInBounds_toArray, List.set_cons_zero, List.set_cons_succ] at hK
    go_simp
    first | exact hK.out _ _ (Below.refl _ _) rfl | (have hk := hK.out _ _ (Below.refl _ _) rfl; revert hk; go_simp)
   case po10x1 =>
    intro w1 hb1 hd KK hK
    have d0 : x0 = .pointer (some ⟨Q9, 1, none⟩) := hd 0 (by kernel_rfl)
    clear hd
    subst d0
    have hF := G1.out.next hb1
    have k0 := hF.c 4 1 rfl rfl
    simp only [Act.put, List.setIfInBounds_toArray, List.set_cons_zero, List.set_cons_succ] at hK
    go_simp
    first | exact hK.out _ _ (Below.refl _ _) rfl | (have hk := hK.out _ _ (Below.refl _ _) rfl; revert hk; go_simp)
   case po10x2 =>
    intro w1 hb1 hd KK hK
    clear hd
    simp only [Act.put, List.setIfInBounds_toArray, List.set_cons_zero, List.set_cons_succ] at hK
    go_simp
    first | exact hK.out _ _ (Below.refl _ _) rfl | (have hk := hK.out _ _ (Below.refl _ _) rfl; revert hk; go_simp)
   case po10x3 =>
    intro w1 hb1 hd KK hK
    clear hd
    simp only [Act.put, List.setIfInBounds_toArray, List.set_cons_zero, List.set_cons_succ] at hK
    go_simp
    first | exact hK.out _ _ (Below.refl _ _) rfl | (have hk := hK.out _ _ (Below.refl _ _) rfl; revert hk; go_simp)
   case po10x4 =>
    intro w1 hb1 hd KK hK
    have d3 : x3 = .pointer (some ⟨w.heap.size, 1, none⟩) := hd 3 (by kernel_rfl)
    clear hd
    subst d3
    have hF := G1.out.next hb1
    have k0 := hF.c 0 1 rfl rfl
    simp only [Act.put, List.setIfInBounds_toArray, List.set_cons_zero, List.set_cons_succ] at hK
    go_simp
    first | exact hK.out _ _ (Below.refl _ _) rfl | (have hk := hK.out _ _ (Below.refl _ _) rfl; revert hk; go_simp)
   case po10x5 =>
    intro w1 hb1 hd KK hK
    clear hd
    simp only [Act.put, List.setIfInBounds_toArray, List.set_cons_zero, List.set_cons_succ] at hK
    go_simp
    first | exact hK.out _ _ (Below.refl _ _) rfl | (have hk := hK.out _ _ (Below.refl _ _) rfl; revert hk; go_simp)
   case po10x6 =>
    intro w1 hb1 hd KK hK
    have d4 : x4 = .slice (some ⟨gy, oy, none⟩) ys.length d := hd 4 (by kernel_rfl)
    have d5 : x5 = .int .i64 (at9 : Int) := hd 5 (by kernel_rfl)
    clear hd
    subst d4
    subst d5
    have g1 := HAN.out
    have g2 : (at9 : Int) < (ys.length : Int) := by omega
    simp only [Act.put, List.setIfInBounds_toArray, List.set_cons_zero, List.set_cons_succ] at hK
    go_simp
    first | exact hK.out _ _ (Below.refl _ _) rfl | (have hk := hK.out _ _ (Below.refl _ _) rfl; revert hk; go_simp)
   case po10x7 =>
    intro w1 hb1 hd KK hK
    have d6 : x6 = .pointer (some ⟨gy, oy + at9, none⟩) := hd 6 (by kernel_rfl)
    clear hd
    subst d6
    have hF := G1.out.next hb1
    obtain ⟨b9, o9, he, _, hcx⟩ := (hF.l 1 rfl).cell at9 HAN.out
    cases he
    rw [HY9.out] at hcx
    simp only [Act.put, List.setIfInBounds_toArray, List.set_cons_zero, List.set_cons_succ] at hK
    go_simp
    first | exact hK.out _ _ (Below.refl _ _) rfl | (have hk := hK.out _ _ (Below.refl _ _) rfl; revert hk; go_simp)
   case po10x8 =>
    intro w1 hb1 hd KK hK
    have d0 : x0 = .pointer (some ⟨Q9, 1, none⟩) := hd 0 (by kernel_rfl)
    have d1 : x1 = .slice (some ⟨gd, 0, none⟩) NN dd := hd 1 (by kernel_rfl)
    have d2 : x2 = .int .i64 (col : Int) := hd 2 (by kernel_rfl)
    have d3 : x3 = .pointer (some ⟨w.heap.size, 1, none⟩) := hd 3 (by kernel_rfl)
    have d4 : x4 = .slice (some ⟨gy, oy, none⟩) ys.length d := hd 4 (by kernel_rfl)
    have d5 : x5 = .int .i64 (at9 : Int) := hd 5 (by kernel_rfl)
    have d6 : x6 = .pointer (some ⟨gy, oy + at9, none⟩) := hd 6 (by kernel_rfl)
    have d7 : x7 = .int .i64 y9 := hd 7 (by kernel_rfl)
    clear hd
    subst d0
    subst d1
    subst d2
    subst d3
    subst d4
    subst d5
    subst d6
    subst d7
    have g1 := HCN.out
    have g2 : (col : Int) < (NN : Int) := by omega
    simp only [Act.put, List.setIfInBounds_toArray, List.set_cons_zero, List.set_cons_succ] at hK
    go_simp
    first | exact hK.out _ _ (Below.refl _ _) rfl | (have hk := hK.out _ _ (Below.refl _ _) rfl; revert hk; go_simp)
   case pfl10 => (intro f hf; cases hf)
   case pend10 =>
   intro w1 hb1 hR hD
   have d0 : x0 = .pointer (some ⟨Q9, 1, none⟩) := hR 0 (by decide)
   have d1 : x1 = .slice (some ⟨gd, 0, none⟩) NN dd := hR 1 (by decide)
   have d2 : x2 = .int .i64 (col : Int) := hR 2 (by decide)
   have d3 : x3 = .pointer (some ⟨w.heap.size, 1, none⟩) := hR 3 (by decide)
   have d4 : x4 = .slice (some ⟨gy, oy, none⟩) ys.length d := hR 4 (by decide)
   have d5 : x5 = .int .i64 (at9 : Int) := hR 5 (by decide)
   have d6 : x6 = .pointer (some ⟨gy, oy + at9, none⟩) := hR 6 (by decide)
   have d7 : x7 = .int .i64 y9 := hR 7 (by decide)
   have d8 : x8 = .pointer (some ⟨gd, col, none⟩) := hR 8 (by decide)
   clear hR hD
   subst d0
   subst d1
   subst d2
   subst d3
   subst d4
   subst d5
   subst d6
   subst d7
   subst d8
   refine wpAnyIn_ready (rs := [9]) (by kernel_rfl) (by simp) (AllReadyIn.cons rfl (fun KK hK => ?_) AllReadyIn.nil)
   have G2 := G1.out.next hb1
   have hgc : (FM.map (Value.int .i64))[col]? = some (.int .i64 (FM[col]'(by rw [HFL.out]; exact HCN.out))) := by rw [List.getElem?_map, List.getElem?_eq_getElem (by rw [HFL.out]; exact HCN.out)]; rfl
   obtain ⟨k0, kf⟩ := G2.rc 3 col rfl hgc
   go_simp
   refine hK _ _ ?_
   clear hK KK
   try simp only [putAll, Act.put, List.setIfInBounds_toArray, List.set_cons_zero, List.set_cons_succ]
   refine wpAnyIn_done (by kernel_rfl) ?_ _
   have hcs : (FM.map (Value.int .i64)).set col (.int .i64 y9) = (FM.set col y9).map (Value.int .i64) := by rw [List.map_set]
   have G3 := G2.put 3 col rfl (.int .i64 y9)
   simp only [List.set_cons_zero, List.set_cons_succ] at G3
   rw [hcs] at G3
   have hst := HST.out
   rw [HFM.out] at hst
   rw [← hst] at G3
   have HG3 := Lib.hid G3
   have HK3 := Lib.hid ((HKP.out.trans (Kept.of_below hb1)).trans (Kept.of_grown (S := D + 2) (row := some gd) (Go.Lib.grownBy_setCell w1 gd col (.int .i64 y9)) (fun e he => by injection he with he; have h8 := HJ.out.bO _ (List.mem_of_getElem? (i := 3) rfl) gd rfl; omega)))
   clear G3 hcs hst hgc k0 kf G2 G1
   gi_wp2
   refine ⟨HG3.out.m 0 rfl, HK3.out.trans (Kept.putObj (D + 2) _ (D + 1) _ (by omega)), ?_⟩
   have G5 := HG3.out.putM 0 rfl (.loop (R9 .ready none)) rfl
   simp only [List.set_cons_zero, List.set_cons_succ] at G5
   have hj := HJ.out
   have hks := HK3.out.1
   have hsz9 := (grownBy_putObj' (w1.setCell ⟨gd, col, none⟩ (.int .i64 y9)) (D + 1) (.loop (R9 .ready none))).size
   exact ⟨G5, hj.lS, by have h8 := hj.sz; omega, hj.bB, by have h9 := hj.bO; simp only [List.mem_cons, List.not_mem_nil, or_false, forall_eq_or_imp, forall_eq] at h9 ⊢; exact h9, by have h9 := hj.bM; simp only [List.mem_cons, forall_eq_or_imp] at h9 ⊢; exact h9⟩
 case hdone =>
  rintro V o9 ho ⟨o2, F8⟩
  have FY := Lib.hid ((F8.out.putM 0 rfl o9 ho).less (.refl _) (.refl _) (.refl _) (List.sublist_cons_self _ _))
  try simp only [List.set_cons_zero, List.set_cons_succ] at FY
  generalize V.putObj (D + 1) o9 = V3 at *
  rw [fill_all FW (by have := HK.out.n1; omega) (by have := HK.out.t1; omega) (by rw [← HNN.out, Nat.mul_assoc R C T])] at FY
  clear F8 F9 hD
  have c4_0 := FY.out.c 4 0 rfl rfl
  have c4_1 := FY.out.c 4 1 rfl rfl
  have e2_0 := FY.out.c 2 0 rfl rfl
  have e2_1 := FY.out.c 2 1 rfl rfl
  have ef2_0 := FY.out.f 2 0 rfl rfl
  have ef2_1 := FY.out.f 2 1 rfl rfl
  go_wp2
  have FX := FY.out.set 2 rfl (by simp) [.slice as_ SS.length cs_, .slice (some ⟨gd, 0, none⟩) NN dd] rfl
  simp only [setL, Nat.reduceAdd, List.set_cons_zero, List.set_cons_succ] at FX
  show LeavesInM Fence.wide 20 Try.prog Try.f15 _ (RetTF _ _ _ _) (mkD [D]) .returning _
  refine leaves_marks (by simp) _ _ FX (fun w9 F10 => ?_)
  have y0 := F10.c 2 0 rfl rfl
  have y1 := F10.c 2 1 rfl rfl
  refine ⟨.tuple #[.agg #[.slice as_ SS.length cs_, .slice (some ⟨gd, 0, none⟩) NN dd], .int .i64 0], ?_, ?_⟩
  ·rw [results_ctZ rfl]
   go_simp
  ·skip
   refine ⟨as_, cs_, some ⟨gd, 0, none⟩, dd, by simp, ?_⟩
   have h9 := (F10.rows).less (.refl _) (.refl _) (.cons _ (.cons _ (.refl _))) (.refl _)
   simp only [List.length_map, List.length_range] at h9 ⊢
   exact h9
theorem conCols_any (a b ak : Option Addr) (c d ck : Nat) (xs ys : List Int) (aQ aS aP aD : Option Addr) (cQ cS cP cD : Nat) (Q : List Int) (wv : WinV) (w : World) (h : Ints .i64 w w.heap.size a xs) (h2 : Ints .i64 w w.heap.size b ys) (k : Ints .i64 w w.heap.size ak wv.K) (hQ : Ints .i64 w w.heap.size aQ Q) (hS : Ints .i64 w w.heap.size aS wv.S) (hP : Ints .i64 w w.heap.size aP wv.P) (hD : Ints .i64 w w.heap.size aD wv.D) (hL : wv.L = xs.drop 2) (hc1 : xs.length ≤ c) (hc2 : c ≤ 9223372036854775807) :
  Calls Try.prog 15 #[.agg #[.slice a xs.length c, .slice b ys.length d], .slice ak wv.K.length ck, .agg #[.slice aQ Q.length cQ, .slice aS wv.S.length cS, .slice aP wv.P.length cP, .slice aD wv.D.length cD]] w (RetTF w (zL (clZ xs ys Q wv) (colS xs wv)) (zL (clZ xs ys Q wv) (clWs xs ys wv)) (clZ xs ys Q wv)) := by
 cases hz : tenB xs ys with
 | false =>
  have e : clZ xs ys Q wv = 1 := by unfold clZ clForm; rw [hz]; simp
  rw [e, zL_ne _ (by decide), zL_ne _ (by decide)]
  exact conCols_good a b ak c d ck xs ys aQ aS aP aD cQ cS cP cD Q wv w h h2 k hQ hS hP hD hz
 | true =>
  cases hz2 : wv.K.all (okI 1) with
  | false =>
   have e : clZ xs ys Q wv = 1 := by unfold clZ clForm; rw [hz, hz2]; simp
   rw [e, zL_ne _ (by decide), zL_ne _ (by decide)]
   exact conCols_in a b ak c d ck xs ys aQ aS aP aD cQ cS cP cD Q wv w h h2 k hQ hS hP hD hz hz2
  | true =>
   cases hz3 : numB false Q wv.S wv.P wv.D with
   | false =>
    have e : clZ xs ys Q wv = 1 := by unfold clZ clForm; rw [hz, hz2, hz3]; simp
    rw [e, zL_ne _ (by decide), zL_ne _ (by decide)]
    exact conCols_num a b ak c d ck xs ys aQ aS aP aD cQ cS cP cD Q wv w h h2 k hQ hS hP hD hz hz2 hz3
   | true =>
    have e : clZ xs ys Q wv = colZ xs wv.K wv := by unfold clZ clForm; rw [hz, hz2, hz3]; simp
    rw [e]
    by_cases hz4 : colZ xs wv.K wv = 0
    ·rw [hz4, zL_0, zL_0]
     exact conCols_go a b ak c d ck xs ys aQ aS aP aD cQ cS cP cD Q wv w h h2 k hQ hS hP hD hL hc1 hc2 hz hz2 hz3 hz4
    ·rw [zL_ne _ hz4, zL_ne _ hz4]
     exact conCols_shape a b ak c d ck xs ys aQ aS aP aD cQ cS cP cD Q wv w h h2 k hQ hS hP hD hL hc1 hc2 hz hz2 hz3 hz4
end Go.Proofs.Ytadlnmckcnfacaa
