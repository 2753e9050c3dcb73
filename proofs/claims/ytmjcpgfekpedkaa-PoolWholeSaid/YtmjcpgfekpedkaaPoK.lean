/- Walks: pool.Max, pool.Avg in all cases. -/
import Derived.Test.YtmjcpgfekpedkaaPoJ
set_option linter.unusedVariables false
set_option linter.unusedSimpArgs false
namespace Go.Proofs.Ytmjcpgfekpedkaa
open Go.RowKit Go.Rt
attribute [local go_sem] Oper.semAt_some
theorem win_else (a b : Option Addr) (c d : Nat) (xs ys : List Int) (aK aS aP aD : Option Addr) (cK cS cP cD : Nat) (wv : WinV) (w : World) (h : Ints .i64 w w.heap.size a xs) (h2 : Ints .i64 w w.heap.size b ys) (hK : Ints .i64 w w.heap.size aK wv.K) (hS : Ints .i64 w w.heap.size aS wv.S) (hP : Ints .i64 w w.heap.size aP wv.P) (hD : Ints .i64 w w.heap.size aD wv.D) (hL : wv.L = xs.drop 2) (hc1 : xs.length ≤ c) (hc2 : c ≤ 9223372036854775807) (hz : winZ xs ys wv ≠ 0) :
    Calls Try.prog 32 #[.agg #[.slice a xs.length c, .slice b ys.length d], .agg #[.slice aK wv.K.length cK, .slice aS wv.S.length cS, .slice aP wv.P.length cP, .slice aD wv.D.length cD]] w (fun e w' => e = .returned (.tuple #[.agg #[.slice none 0 0, .slice none 0 0, .slice none 0 0, .slice none 0 0, .slice none 0 0, .slice none 0 0, .slice none 0 0], .slice none 0 0, .int .i64 (winZ xs ys wv)]) ∧ Below w.heap.size w w') := by
  unfold winZ at hz ⊢
  cases ht : tenB xs ys with
  | false =>
    rw [if_neg (by simp)]
    exact win_one a b c d xs ys aK aS aP aD cK cS cP cD wv w h h2 hK hS hP hD hL hc1 hc2 ht
  | true =>
    rw [ht, if_pos rfl] at hz
    rw [if_pos rfl]
    exact win_bad a b c d xs ys aK aS aP aD cK cS cP cD wv w h h2 hK hS hP hD hL hc1 hc2 ht hz
theorem retPX_none {w w' : World} {z : Int} {B : List (Nat × List Value)} {I : List (IntKind × Option Addr × List Int)} (h : Fr w.heap.size w w' B I [] []) : RetPX w [] [] [] z (.returned (.tuple #[.agg #[.slice none 0 0, .slice none 0 0], .slice none 0 0, .int .i64 z])) w' :=
  ⟨none, 0, none, 0, none, 0, rfl, (((h.rows.addNil _).addNil _).addNil _)⟩
set_option maxRecDepth 100000 in
set_option maxHeartbeats 2000000 in
theorem pmax_bad (a b : Option Addr) (c d : Nat) (xs ys : List Int) (aK aS aP aD : Option Addr) (cK cS cP cD : Nat) (wv : WinV) (w : World) (h : Ints .i64 w w.heap.size a xs) (h2 : Ints .i64 w w.heap.size b ys) (hK : Ints .i64 w w.heap.size aK wv.K) (hS : Ints .i64 w w.heap.size aS wv.S) (hP : Ints .i64 w w.heap.size aP wv.P) (hD : Ints .i64 w w.heap.size aD wv.D) (hL : wv.L = xs.drop 2) (hc1 : xs.length ≤ c) (hc2 : c ≤ 9223372036854775807) (hz : winZ xs ys wv ≠ 0) :
    Calls Try.prog 10 #[.agg #[.slice a xs.length c, .slice b ys.length d], .agg #[.slice aK wv.K.length cK, .slice aS wv.S.length cS, .slice aP wv.P.length cP, .slice aD wv.D.length cD]] w (RetPX w [] [] [] (winZ xs ys wv)) := by
  have HWN := Lib.hid (fun W h h2 hK hS hP hD => win_else a b c d xs ys aK aS aP aD cK cS cP cD wv W h h2 hK hS hP hD hL hc1 hc2 hz)
  obtain ⟨z, hzz⟩ : ∃ z, winZ xs ys wv = z := ⟨_, rfl⟩
  rw [hzz] at HWN hz ⊢
  have hzb : (z != 0) = true := by simpa using hz
  have F1 := Lib.hid ((((Fr.start (w := w) (I := [(.i64, a, xs), (.i64, b, ys), (.i64, aK, wv.K), (.i64, aS, wv.S), (.i64, aP, wv.P), (.i64, aD, wv.D)]) (by intro z hz; simp at hz; rcases hz with rfl | rfl | rfl | rfl | rfl | rfl; exact h; exact h2; exact hK; exact hS; exact hP; exact hD)).box1 (b := w.heap.size) rfl [.slice a xs.length c, .slice b ys.length d] 26).box1 (b := w.heap.size + 1) (by simp) [.slice aK wv.K.length cK, .slice aS wv.S.length cS, .slice aP wv.P.length cP, .slice aD wv.D.length cD] 28).box1 (b := w.heap.size + 1 + 1) (by simp) [.slice none 0 0, .slice none 0 0] 26)
  simp only [List.nil_append, List.cons_append] at F1
  clear h h2 hK hS hP hD hL hzz hz
  go_enter Try.func10, Try.ntmps10
  go_upto_region 1 with fail
  obtain ⟨W1, hW1⟩ : ∃ W1, ((w.alloc (.cells #[.slice a xs.length c, .slice b ys.length d] 26)).alloc (.cells #[.slice aK wv.K.length cK, .slice aS wv.S.length cS, .slice aP wv.P.length cP, .slice aD wv.D.length cD] 28)).alloc (.cells #[.slice none 0 0, .slice none 0 0] 26) = W1 := ⟨_, rfl⟩
  rw [hW1] at F1 ⊢
  clear hW1
  have c0_0 := F1.out.c 0 0 rfl rfl
  have c0_1 := F1.out.c 0 1 rfl rfl
  have c1_0 := F1.out.c 1 0 rfl rfl
  have c1_1 := F1.out.c 1 1 rfl rfl
  have c1_2 := F1.out.c 1 2 rfl rfl
  have c1_3 := F1.out.c 1 3 rfl rfl
  go_upto_region 2 with (first | (go_at_call 32; refine (HWN.out _ (F1.out.lw 0 rfl) (F1.out.lw 1 rfl) (F1.out.lw 2 rfl) (F1.out.lw 3 rfl) (F1.out.lw 4 rfl) (F1.out.lw 5 rfl)).mono ?_; rintro e w2 ⟨rfl, hb⟩; have F2 := Lib.hid (F1.out.next hb); clear hb F1 c0_0 c0_1 c1_0 c1_1 c1_2 c1_3) | fail)
  obtain ⟨Y7, hY7⟩ : ∃ x, w2.heap.size = x := ⟨_, rfl⟩
  rw [hY7]
  have F3 := Lib.hid (F2.out.box1 (b := Y7) hY7 [.slice none 0 0, .slice none 0 0, .slice none 0 0, .slice none 0 0, .slice none 0 0, .slice none 0 0, .slice none 0 0] 68)
  simp only [List.nil_append, List.cons_append] at F3
  obtain ⟨W3, hW3⟩ : ∃ x, (w2.alloc (.cells #[.slice none 0 0, .slice none 0 0, .slice none 0 0, .slice none 0 0, .slice none 0 0, .slice none 0 0, .slice none 0 0] 68)) = x := ⟨_, rfl⟩
  rw [hW3] at F3 ⊢
  clear hW3 hY7 F2
  have d2_0 := F3.out.c 2 0 rfl rfl
  have d2_1 := F3.out.c 2 1 rfl rfl
  have df2_0 := F3.out.f 2 0 rfl rfl
  have df2_1 := F3.out.f 2 1 rfl rfl
  go_wp2
  have FZ := F3.out.set 2 rfl (by simp) [.slice none 0 0, .slice none 0 0] rfl
  simp only [setL, Nat.reduceAdd, List.set_cons_zero, List.set_cons_succ] at FZ
  have y0 := FZ.c 2 0 rfl rfl
  have y1 := FZ.c 2 1 rfl rfl
  refine bodyPost_ret (v := .tuple #[.agg #[.slice none 0 0, .slice none 0 0], .slice none 0 0, .int .i64 z]) ?_ rfl (retPX_none FZ)
  rw [results_ctt rfl]
  go_simp
set_option maxRecDepth 100000 in
set_option maxHeartbeats 2000000 in
theorem pavg_bad (a b : Option Addr) (c d : Nat) (xs ys : List Int) (aK aS aP aD : Option Addr) (cK cS cP cD : Nat) (wv : WinV) (w : World) (h : Ints .i64 w w.heap.size a xs) (h2 : Ints .i64 w w.heap.size b ys) (hK : Ints .i64 w w.heap.size aK wv.K) (hS : Ints .i64 w w.heap.size aS wv.S) (hP : Ints .i64 w w.heap.size aP wv.P) (hD : Ints .i64 w w.heap.size aD wv.D) (hL : wv.L = xs.drop 2) (hc1 : xs.length ≤ c) (hc2 : c ≤ 9223372036854775807) (hz : winZ xs ys wv ≠ 0) :
    Calls Try.prog 11 #[.agg #[.slice a xs.length c, .slice b ys.length d], .agg #[.slice aK wv.K.length cK, .slice aS wv.S.length cS, .slice aP wv.P.length cP, .slice aD wv.D.length cD]] w (RetTF w [] [] (winZ xs ys wv)) := by
  have HWN := Lib.hid (fun W h h2 hK hS hP hD => win_else a b c d xs ys aK aS aP aD cK cS cP cD wv W h h2 hK hS hP hD hL hc1 hc2 hz)
  obtain ⟨z, hzz⟩ : ∃ z, winZ xs ys wv = z := ⟨_, rfl⟩
  rw [hzz] at HWN hz ⊢
  have hzb : (z != 0) = true := by simpa using hz
  have F1 := Lib.hid ((((Fr.start (w := w) (I := [(.i64, a, xs), (.i64, b, ys), (.i64, aK, wv.K), (.i64, aS, wv.S), (.i64, aP, wv.P), (.i64, aD, wv.D)]) (by intro z hz; simp at hz; rcases hz with rfl | rfl | rfl | rfl | rfl | rfl; exact h; exact h2; exact hK; exact hS; exact hP; exact hD)).box1 (b := w.heap.size) rfl [.slice a xs.length c, .slice b ys.length d] 26).box1 (b := w.heap.size + 1) (by simp) [.slice aK wv.K.length cK, .slice aS wv.S.length cS, .slice aP wv.P.length cP, .slice aD wv.D.length cD] 28).box1 (b := w.heap.size + 1 + 1) (by simp) [.slice none 0 0, .slice none 0 0] 26)
  simp only [List.nil_append, List.cons_append] at F1
  clear h h2 hK hS hP hD hL hzz hz
  go_enter Try.func11, Try.ntmps11
  go_upto_region 1 with fail
  obtain ⟨W1, hW1⟩ : ∃ W1, ((w.alloc (.cells #[.slice a xs.length c, .slice b ys.length d] 26)).alloc (.cells #[.slice aK wv.K.length cK, .slice aS wv.S.length cS, .slice aP wv.P.length cP, .slice aD wv.D.length cD] 28)).alloc (.cells #[.slice none 0 0, .slice none 0 0] 26) = W1 := ⟨_, rfl⟩
  rw [hW1] at F1 ⊢
  clear hW1
  have c0_0 := F1.out.c 0 0 rfl rfl
  have c0_1 := F1.out.c 0 1 rfl rfl
  have c1_0 := F1.out.c 1 0 rfl rfl
  have c1_1 := F1.out.c 1 1 rfl rfl
  have c1_2 := F1.out.c 1 2 rfl rfl
  have c1_3 := F1.out.c 1 3 rfl rfl
  go_upto_region 2 with (first | (go_at_call 32; refine (HWN.out _ (F1.out.lw 0 rfl) (F1.out.lw 1 rfl) (F1.out.lw 2 rfl) (F1.out.lw 3 rfl) (F1.out.lw 4 rfl) (F1.out.lw 5 rfl)).mono ?_; rintro e w2 ⟨rfl, hb⟩; have F2 := Lib.hid (F1.out.next hb); clear hb F1 c0_0 c0_1 c1_0 c1_1 c1_2 c1_3) | fail)
  obtain ⟨Y7, hY7⟩ : ∃ x, w2.heap.size = x := ⟨_, rfl⟩
  rw [hY7]
  have F3 := Lib.hid (F2.out.box1 (b := Y7) hY7 [.slice none 0 0, .slice none 0 0, .slice none 0 0, .slice none 0 0, .slice none 0 0, .slice none 0 0, .slice none 0 0] 68)
  simp only [List.nil_append, List.cons_append] at F3
  obtain ⟨W3, hW3⟩ : ∃ x, (w2.alloc (.cells #[.slice none 0 0, .slice none 0 0, .slice none 0 0, .slice none 0 0, .slice none 0 0, .slice none 0 0, .slice none 0 0] 68)) = x := ⟨_, rfl⟩
  rw [hW3] at F3 ⊢
  clear hW3 hY7 F2
  have d2_0 := F3.out.c 2 0 rfl rfl
  have d2_1 := F3.out.c 2 1 rfl rfl
  have df2_0 := F3.out.f 2 0 rfl rfl
  have df2_1 := F3.out.f 2 1 rfl rfl
  go_wp2
  have FZ := F3.out.set 2 rfl (by simp) [.slice none 0 0, .slice none 0 0] rfl
  simp only [setL, Nat.reduceAdd, List.set_cons_zero, List.set_cons_succ] at FZ
  have y0 := FZ.c 2 0 rfl rfl
  have y1 := FZ.c 2 1 rfl rfl
  refine bodyPost_ret (v := .tuple #[.agg #[.slice none 0 0, .slice none 0 0], .int .i64 z]) ?_ rfl (retTF_none FZ)
  rw [results_ctZ rfl]
  go_simp
theorem pmax_all (a b : Option Addr) (c d : Nat) (xs ys : List Int) (aK aS aP aD : Option Addr) (cK cS cP cD : Nat) (wv : WinV) (w : World) (h : Ints .i64 w w.heap.size a xs) (h2 : Ints .i64 w w.heap.size b ys) (hK : Ints .i64 w w.heap.size aK wv.K) (hS : Ints .i64 w w.heap.size aS wv.S) (hP : Ints .i64 w w.heap.size aP wv.P) (hD : Ints .i64 w w.heap.size aD wv.D) (hL : wv.L = xs.drop 2) (hc1 : xs.length ≤ c) (hc2 : c ≤ 9223372036854775807) (hgK : winZ xs ys wv = 0 → goodB wv.K = true) :
    Calls Try.prog 10 #[.agg #[.slice a xs.length c, .slice b ys.length d], .agg #[.slice aK wv.K.length cK, .slice aS wv.S.length cS, .slice aP wv.P.length cP, .slice aD wv.D.length cD]] w (RetPX w (zL (winZ xs ys wv) (poS xs wv)) (zL (winZ xs ys wv) ((List.range (poN xs wv)).map (poV ys wv))) (zL (winZ xs ys wv) ((List.range (poN xs wv)).map (poP ys wv))) (winZ xs ys wv)) := by
  by_cases hz : winZ xs ys wv = 0
  · rw [hz, zL_0, zL_0, zL_0]
    exact pmax_ok a b c d xs ys aK aS aP aD cK cS cP cD wv w h h2 hK hS hP hD hL hc1 hc2 hz (hgK hz)
  · rw [zL_ne _ hz, zL_ne _ hz, zL_ne _ hz]
    exact pmax_bad a b c d xs ys aK aS aP aD cK cS cP cD wv w h h2 hK hS hP hD hL hc1 hc2 hz
theorem pavg_all (a b : Option Addr) (c d : Nat) (xs ys : List Int) (aK aS aP aD : Option Addr) (cK cS cP cD : Nat) (wv : WinV) (w : World) (h : Ints .i64 w w.heap.size a xs) (h2 : Ints .i64 w w.heap.size b ys) (hK : Ints .i64 w w.heap.size aK wv.K) (hS : Ints .i64 w w.heap.size aS wv.S) (hP : Ints .i64 w w.heap.size aP wv.P) (hD : Ints .i64 w w.heap.size aD wv.D) (hL : wv.L = xs.drop 2) (hc1 : xs.length ≤ c) (hc2 : c ≤ 9223372036854775807) (hgK : winZ xs ys wv = 0 → goodB wv.K = true) :
    Calls Try.prog 11 #[.agg #[.slice a xs.length c, .slice b ys.length d], .agg #[.slice aK wv.K.length cK, .slice aS wv.S.length cS, .slice aP wv.P.length cP, .slice aD wv.D.length cD]] w (RetTF w (zL (winZ xs ys wv) (poS xs wv)) (zL (winZ xs ys wv) ((List.range (poN xs wv)).map (poA ys wv))) (winZ xs ys wv)) := by
  by_cases hz : winZ xs ys wv = 0
  · rw [hz, zL_0, zL_0]
    exact pavg_ok a b c d xs ys aK aS aP aD cK cS cP cD wv w h h2 hK hS hP hD hL hc1 hc2 hz (hgK hz)
  · rw [zL_ne _ hz, zL_ne _ hz]
    exact pavg_bad a b c d xs ys aK aS aP aD cK cS cP cD wv w h h2 hK hS hP hD hL hc1 hc2 hz
end Go.Proofs.Ytmjcpgfekpedkaa
