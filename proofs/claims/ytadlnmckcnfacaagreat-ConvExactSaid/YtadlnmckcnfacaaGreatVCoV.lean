import Derived.Test.YtadlnmckcnfacaaGreatVCoH
set_option linter.unusedVariables false
set_option linter.unusedSimpArgs false
namespace Go.Proofs.YtadlnmckcnfacaaGreat
open Go.RowKit Go.Rt
attribute [local go_sem] Oper.semAt_some
theorem ints_nilV (W : World) (hi : Nat) : Ints .i64 W hi none [] := ⟨by decide, by decide, fun i hi => absurd hi (Nat.not_lt_zero i)⟩
theorem wakesC (W : World) (b0 b1 b3 b4 b6 b7 b8 : Nat) (h0 : Ints .i64 W W.heap.size (some ⟨b0, 0, none⟩) [1, 1, 4]) (h1 : Ints .i64 W W.heap.size (some ⟨b1, 0, none⟩) [1, 2, 3, 4]) (h3 : Ints .i64 W W.heap.size (some ⟨b3, 0, none⟩) [1, 1, 2]) (h4 : Ints .i64 W W.heap.size (some ⟨b4, 0, none⟩) [256, 256]) (h6 : Ints .i64 W W.heap.size (some ⟨b6, 0, none⟩) [1]) (h7 : Ints .i64 W W.heap.size (some ⟨b7, 0, none⟩) [0]) (h8 : Ints .i64 W W.heap.size (some ⟨b8, 0, none⟩) [1]) :
  Calls Tryz.prog 10 #[.agg #[.slice (some ⟨b0, 0, none⟩) 3 3, .slice (some ⟨b1, 0, none⟩) 4 4], .agg #[.slice (some ⟨b3, 0, none⟩) 3 3, .slice (some ⟨b4, 0, none⟩) 2 2], .agg #[.slice none 0 0, .slice (some ⟨b6, 0, none⟩) 1 1, .slice (some ⟨b7, 0, none⟩) 1 1, .slice (some ⟨b8, 0, none⟩) 1 1], .int .i64 8] W (RetTF W [1, 1, 3] [3, 5, 7] 0) := by
 have h := conv_any (some ⟨b0, 0, none⟩) (some ⟨b1, 0, none⟩) (some ⟨b3, 0, none⟩) (some ⟨b4, 0, none⟩) 3 4 3 2 [1, 1, 4] [1, 2, 3, 4] [1, 1, 2] [256, 256] none (some ⟨b6, 0, none⟩) (some ⟨b7, 0, none⟩) (some ⟨b8, 0, none⟩) 0 1 1 1 [] ⟨[4], [2], [1], [0], [1]⟩ 8 W h0 h1 h3 h4 (ints_nilV _ _) h6 h7 h8 rfl rfl (by decide) (by decide) (by decide) (by decide)
 have e0 : cvZ [1, 1, 4] [1, 2, 3, 4] [1, 1, 2] [256, 256] [] ⟨[4], [2], [1], [0], [1]⟩ 8 = 0 := by decide +kernel
 have e1 : coS [1, 1, 4] [1, 1, 2] ⟨[4], [2], [1], [0], [1]⟩ = [1, 1, 3] := by decide +kernel
 have e2 : (List.range (cvN [1, 1, 4] [1, 1, 2] ⟨[4], [2], [1], [0], [1]⟩)).map (cvW [1, 1, 4] [1, 2, 3, 4] [1, 1, 2] [256, 256] ⟨[4], [2], [1], [0], [1]⟩ (8 : Int).toNat) = [3, 5, 7] := by decide +kernel
 rw [e0, e1, e2] at h
 exact h
set_option maxRecDepth 100000 in
theorem wakes11_any (w : World) : Calls Tryz.prog 13 #[] w fun e w' => e = .returned (.bool true) ∧ Below w.heap.size w w' := by
 have F1 := Lib.hid ((((((((((Fr.start (w := w) (I := []) (by intro z hz; simp at hz)).box1 (b := w.heap.size) (by simp) [.int .i64 1, .int .i64 1, .int .i64 4] 3).box1 (b := w.heap.size + 1) (by simp) [.int .i64 1, .int .i64 2, .int .i64 3, .int .i64 4] 2).box1 (b := w.heap.size + 1 + 1) (by simp) [.slice (some ⟨w.heap.size, 0, none⟩) 3 3, .slice (some ⟨w.heap.size + 1, 0, none⟩) 4 4] 26).box1 (b := w.heap.size + 1 + 1 + 1) (by simp) [.int .i64 1, .int .i64 1, .int .i64 2] 3).box1 (b := w.heap.size + 1 + 1 + 1 + 1) (by simp) [.int .i64 256, .int .i64 256] 2).box1 (b := w.heap.size + 1 + 1 + 1 + 1 + 1) (by simp) [.slice (some ⟨w.heap.size + 1 + 1 + 1, 0, none⟩) 3 3, .slice (some ⟨w.heap.size + 1 + 1 + 1 + 1, 0, none⟩) 2 2] 26).box1 (b := w.heap.size + 1 + 1 + 1 + 1 + 1 + 1) (by simp) [.int .i64 1] 3).box1 (b := w.heap.size + 1 + 1 + 1 + 1 + 1 + 1 + 1) (by simp) [.int .i64 0] 3).box1 (b := w.heap.size + 1 + 1 + 1 + 1 + 1 + 1 + 1 + 1) (by simp) [.int .i64 1] 3)
 simp only [List.nil_append, List.cons_append] at F1
 have HS := Lib.hid (fun W h0 h1 h3 h4 h6 h7 h8 => wakesC W (w.heap.size) (w.heap.size + 1) (w.heap.size + 1 + 1 + 1) (w.heap.size + 1 + 1 + 1 + 1) (w.heap.size + 1 + 1 + 1 + 1 + 1 + 1) (w.heap.size + 1 + 1 + 1 + 1 + 1 + 1 + 1) (w.heap.size + 1 + 1 + 1 + 1 + 1 + 1 + 1 + 1) h0 h1 h3 h4 h6 h7 h8)
 go_enter Tryz.func13, Tryz.ntmps13
 go_upto_region 3 with fail
 go_upto_region 4 with (go_at_call 10; refine (HS.out _ (ints_of_box (xs := [1, 1, 4]) (F1.out.box _ (List.mem_of_getElem? (i := 0) rfl)).1 (F1.out.bl 0 rfl).2 (by decide) (by decide)) (ints_of_box (xs := [1, 2, 3, 4]) (F1.out.box _ (List.mem_of_getElem? (i := 1) rfl)).1 (F1.out.bl 1 rfl).2 (by decide) (by decide)) (ints_of_box (xs := [1, 1, 2]) (F1.out.box _ (List.mem_of_getElem? (i := 3) rfl)).1 (F1.out.bl 3 rfl).2 (by decide) (by decide)) (ints_of_box (xs := [256, 256]) (F1.out.box _ (List.mem_of_getElem? (i := 4) rfl)).1 (F1.out.bl 4 rfl).2 (by decide) (by decide)) (ints_of_box (xs := [1]) (F1.out.box _ (List.mem_of_getElem? (i := 6) rfl)).1 (F1.out.bl 6 rfl).2 (by decide) (by decide)) (ints_of_box (xs := [0]) (F1.out.box _ (List.mem_of_getElem? (i := 7) rfl)).1 (F1.out.bl 7 rfl).2 (by decide) (by decide)) (ints_of_box (xs := [1]) (F1.out.box _ (List.mem_of_getElem? (i := 8) rfl)).1 (F1.out.bl 8 rfl).2 (by decide) (by decide))).mono ?_; rintro e w2 ⟨ax, cx, ay, cy, rfl, hf⟩; have F2 := Lib.hid (F1.out.join hf); simp only [List.nil_append, List.cons_append] at F2; clear hf F1)
 obtain ⟨Q, hQ⟩ : ∃ x, w2.heap.size = x := ⟨_, rfl⟩
 have F3 := Lib.hid (F2.out.box1 (b := Q) hQ [.slice ax 3 cx, .slice ay 3 cy] 26)
 simp only [List.nil_append, List.cons_append, List.length_cons, List.length_nil, Nat.reduceAdd, Nat.zero_add] at F3
 simp only [List.length_cons, List.length_nil, Nat.reduceAdd, Nat.zero_add, hQ]
 obtain ⟨W3, hW3⟩ : ∃ x, w2.alloc (.cells #[.slice ax 3 cx, .slice ay 3 cy] 26) = x := ⟨_, rfl⟩
 rw [hW3] at F3 ⊢
 clear hW3 F2
 have c0 := F3.out.c 9 0 rfl rfl
 have c1 := F3.out.c 9 1 rfl rfl
 have F4 := Lib.hid (F3.out.box1 (b := W3.heap.size) rfl [.int .i64 3, .int .i64 5, .int .i64 7] 2)
 simp only [List.nil_append, List.cons_append] at F4
 have HEV := Lib.hid (fun W (h : Ints .i64 W W.heap.size ay [3, 5, 7]) (h2 : Ints .i64 W W.heap.size (some ⟨W3.heap.size, 0, none⟩) [3, 5, 7]) => eqWords_any ay _ cy 3 W.heap.size [3, 5, 7] [3, 5, 7] W h h2)
 go_wp2_with (first | (go_at_call 49; refine (num11_any _ _).mono ?_; rintro e w' ⟨rfl, rfl⟩) | (go_at_call 48; refine (HEV.out _ (F4.out.li 1 (k := .i64) (xs := [3, 5, 7]) rfl (by decide)) (ints_of_box (xs := [3, 5, 7]) (F4.out.box _ (List.mem_of_getElem? (i := 10) rfl)).1 (F4.out.bl 10 rfl).2 (by decide) (by decide))).mono ?_; rintro e w' ⟨rfl, q9, rfl⟩; have F5 := Lib.hid (F4.out.drewN q9); clear F4) | fail)
 go_ret
 exact ⟨by first | rfl | simp, F5.out.bel⟩
end Go.Proofs.YtadlnmckcnfacaaGreat
