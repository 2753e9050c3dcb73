import Derived.Test.YtadlnmckcnfacaaUCoB
import Derived.Test.YtadlnmckcnfacaaUCoF
import Derived.Test.YtadlnmckcnfacaaUCoQ
import Derived.Test.YtadlnmckcnfacaaUCoS
import Derived.Laws.MakeOwn
set_option linter.unusedVariables false
set_option linter.unusedSimpArgs false
namespace Go.Proofs.Ytadlnmckcnfacaa
open Go.RowKit Go.Rt
attribute [local go_sem] Oper.semAt_some
theorem infoWide : (Try.prog.info? 71).map (fun i => (i.zero, i.size, i.bytes)) = some (some (.agg #[.int .i64 0, .int .u64 0]), 2, 16) := by kernel_rfl
theorem back_store {lo : Nat} {w wr : World} {B : List (Nat × List Value)} {I : List (IntKind × Option Addr × List Int)} {O : List Row} {M : List (Nat × Obj)} {b k : Nat} {us vs : List Value} {v0 v1 : Value} {i : Nat} (h : Fr lo w wr B I O M) (hi : B[i]? = some (b, us)) (hne : us ≠ []) (e : (us.set k v0).set (k + 1) v1 = vs) :
  Fr lo w ((wr.setCell ⟨b, k, none⟩ v0).setCell ⟨b, k + 1, none⟩ v1) (B.set i (b, vs)) I O M := by
 have h1 := h.setC i k hi hne v0
 have hl : i < B.length := (List.getElem?_eq_some_iff.1 hi).1
 have h2 := h1.setC i (k + 1) (by rw [List.getElem?_set_self hl]) (by intro q; exact hne (by simpa using q)) v1
 rw [List.set_set, e] at h2
 exact h2
theorem made_flat (X : Nat) : madeCells #[.int .i64 0, .int .u64 0] (X * 2) = (flatB (fun _ => 0) X).toArray := by
 unfold madeCells
 rw [flatB_zero]
 apply Array.ext'
 simp only [Array.toList_map, Array.toList_range]
 rw [Nat.mul_comm X 2]
 refine List.map_congr_left fun i _ => ?_
 have h : i % 2 = 0 ∨ i % 2 = 1 := by omega
 rcases h with h | h
 ·simp [h]
 ·simp [h]
theorem make_wides (X : Nat) (hX : X ≤ 65536) (W : World) : (Instr.makeSlice 86 (.int .i64 (X : Int)) (.int .i64 (X : Int))).run Try.prog W = .ok (.slice (some ⟨W.heap.size, 0, none⟩) X X) (W.alloc (.cells (flatB (fun _ => 0) X).toArray 71)) := by
 obtain ⟨i, hi, hz0, hz1, hz2⟩ := info_parts infoWide
 have h := run_make (P := Try.prog) W 86 71 i _ Try.underlying86 hi hz0 .i64 .i64 (X : Int) (X : Int) (by omega) (Int.le_refl _) (by rw [hz2]; omega) (by omega)
 rw [hz1] at h
 simp only [Int.toNat_natCast] at h
 rw [h, ← made_flat]
 rfl
set_option maxRecDepth 100000 in
set_option maxHeartbeats 8000000 in
theorem conBack_ok (aT bT aX ak : Option Addr) (cT dT cX ck : Nat) (ts zs xs : List Int) (aQ aS aP aD : Option Addr) (cQ cS cP cD : Nat) (Q : List Int) (wv : WinV) (w : World) (h : Ints .i64 w w.heap.size aT ts) (h2 : Ints .i64 w w.heap.size bT zs) (hX : Ints .i64 w w.heap.size aX xs) (k : Ints .i64 w w.heap.size ak wv.K) (hQ : Ints .i64 w w.heap.size aQ Q) (hS : Ints .i64 w w.heap.size aS wv.S) (hP : Ints .i64 w w.heap.size aP wv.P) (hD : Ints .i64 w w.heap.size aD wv.D) (hL : wv.L = xs.drop 2) (hc1 : xs.length ≤ cX) (hc2 : cX ≤ 9223372036854775807) (hz : tenB ts zs = true) (hg : goodB xs = true) (hz2 : wv.K.all (okI 1) = true) (hz3 : numB false Q wv.S wv.P wv.D = true) (hz4 : colZ xs wv.K wv = 0) (hts : colS xs wv = ts) (hw : ∀ y ∈ bkWs xs zs wv, isW y = true) :
  Calls Try.prog 16 #[.agg #[.slice aT ts.length cT, .slice bT zs.length dT], .slice aX xs.length cX, .slice ak wv.K.length ck, .agg #[.slice aQ Q.length cQ, .slice aS wv.S.length cS, .slice aP wv.P.length cP, .slice aD wv.D.length cD]] w (RetTF w xs (bkWs xs zs wv) 0) := by
 have hzl := (tenB_iff.1 hz).2.1
 have hzw := (tenB_iff.1 hz).2.2
 obtain ⟨N, M, T, C, R, K⟩ := colsK_ok hL rfl hg hz2 hz3 hz4
 obtain ⟨e1, e2, e3, e4⟩ := colZ_ok hz4
 rw [← hts, K.pS] at hzl
 have hzl2 : zs.length = R * (C * T) * N := by omega
 have hp1 : 1 ≤ R * (C * M) := Nat.mul_pos K.r1 (Nat.mul_pos K.c1 K.m1)
 have hp2 : 1 ≤ R * (C * T) * N := Nat.mul_pos (Nat.mul_pos K.r1 (Nat.mul_pos K.c1 K.t1)) K.n1
 obtain ⟨b0, o0, rfl, _, _⟩ := hX.cell 0 (by have := K.lx; omega)
 obtain ⟨gz, oz, rfl, _, _⟩ := h2.cell 0 (by omega)
 have hiL := ints_drop hX 2
 rw [← hL] at hiL
 have hWs : bkWs xs zs wv = (List.range (R * (C * M))).map (bkA zs wv N T M (R * (C * T) * N)) := by
  unfold bkWs
  rw [K.pS, K.hN, K.hT, K.hM, K.px]
  simp only [Int.toNat_natCast]
 rw [hWs] at hw ⊢
 have hgd := fun W h1 h2 => elemGood_any aT (some ⟨gz, oz, none⟩) cT dT ts zs W h1 h2
 have hsg := fun W (h : Ints .i64 W W.heap.size (some ⟨b0, o0, none⟩) xs) => good_any (some ⟨b0, o0, none⟩) cX W.heap.size xs W h
 have hin := fun W h1 => insideL_any ak ck 1 wv.K W h1
 have hnu := fun W h1 h2 h3 h4 => convNumbers_any false aQ aS aP aD cQ cS cP cD Q wv.S wv.P wv.D W h1 h2 h3 h4
 rw [hz] at hgd
 rw [hg] at hsg
 rw [hz2] at hin
 rw [hz3] at hnu
 have hco := fun W h1 h2 h3 h4 h5 => cols_ok (some ⟨b0, o0, none⟩) ak cX ck xs wv.K aQ aS aP aD cQ cS cP cD Q wv W h1 h2 h3 h4 h5 hz3 rfl e1 e2 hL hg hz2 hc1 hc2 e3 e4
 rw [hts] at hco
 have htl : ts.length = 3 := by rw [← hts]; rfl
 have heq : ∀ a1 c1 W, Ints .i64 W W.heap.size a1 ts → Ints .i64 W W.heap.size aT ts → Calls Try.prog 48 #[.slice a1 3 c1, .slice aT ts.length cT] W (fun e w' => e = .returned (.bool true) ∧ ∃ q, w' = W.drewN q) := fun a1 c1 W h1 h2 => by
  have h9 := slicesEqual_any a1 aT c1 cT W.heap.size ts ts W h1 h2
  simp only [decide_true] at h9
  rw [show Value.slice a1 ts.length c1 = .slice a1 3 c1 by rw [htl]] at h9
  exact h9
 have hnw := fun W (h : Ints .i64 W W.heap.size (some ⟨b0, o0, none⟩) xs) => elemNew_any (some ⟨b0, o0, none⟩) cX xs W h hg
 rw [K.px, Int.toNat_natCast] at hnw
 obtain ⟨NN, hNN⟩ : ∃ z, R * (C * T) * N = z := ⟨_, rfl⟩
 obtain ⟨X, hXe⟩ : ∃ z, R * (C * M) = z := ⟨_, rfl⟩
 have hNb := K.bS
 have hXb := K.bX
 rw [hNN] at hzl2 hp2 hw hNb ⊢
 rw [hXe] at hnw hp1 hw hXb ⊢
 have hmk := fun W => make_wides X hXb W
 have htw : ∀ x ∈ ts, (Lit.int .i64 x).wf = true := wf_dims (fun x hx => by rw [← hts] at hx; have := goodB_dims e4 x hx; omega)
 have hxw : ∀ x ∈ xs, (Lit.int .i64 x).wf = true := wf_dims (fun x hx => by have := goodB_dims hg x hx; omega)
 have hOw : ∀ x ∈ wv.O, (Lit.int .i64 x).wf = true := wf_dims (fun x hx => by have := goodB_dims K.gO x hx; omega)
 have hbd := fun m p t j => bk_bound hzw wv N T M NN m p t j hNb
 have hbdA : ∀ j, inR (bkA zs wv N T M NN j) := fun j => by
  rw [← bk_all zs wv (m := R * C) K.n1 K.t1 (by rw [← hNN, Nat.mul_assoc R C T])]
  exact hbd _ _ _ _
 have hea := fun W (h : Ints .i64 W W.heap.size (some ⟨b0, o0 + 2, none⟩) wv.L) aO cL cO => each_any (some ⟨b0, o0 + 2, none⟩) ak aO aQ aS aP aD cL ck cO cQ cS cP cD Q wv (some ⟨b0, o0, none⟩) cX M xs W h K.gL K.hM
 have HGD := Lib.hid hgd
 have HSG := Lib.hid hsg
 have HIN := Lib.hid hin
 have HNU := Lib.hid hnu
 have HCO := Lib.hid hco
 have HEQ := Lib.hid heq
 have HNW := Lib.hid hnw
 have HTW := Lib.hid htw
 have HXW := Lib.hid hxw
 have HOW := Lib.hid hOw
 have HBD := Lib.hid hbd
 have HBA := Lib.hid hbdA
 have HEA := Lib.hid hea
 have HK := Lib.hid K
 have HZL := Lib.hid hzl2
 have HZW := Lib.hid hzw
 have HNN := Lib.hid hNN
 have HXE := Lib.hid hXe
 have HWW := Lib.hid hw
 have HTL := Lib.hid htl
 have HP2 := Lib.hid (And.intro hp1 (And.intro hp2 (And.intro hNb hXb)))
 have F1 := Lib.hid ((((Fr.start (w := w) (I := [(.i64, aT, ts), (.i64, (some ⟨gz, oz, none⟩), zs), (.i64, (some ⟨b0, o0, none⟩), xs), (.i64, ak, wv.K), (.i64, aQ, Q), (.i64, aS, wv.S), (.i64, aP, wv.P), (.i64, aD, wv.D), (.i64, (some ⟨b0, o0 + 2, none⟩), wv.L)]) (by intro z hz; simp at hz; rcases hz with rfl | rfl | rfl | rfl | rfl | rfl | rfl | rfl | rfl; exact h; exact h2; exact hX; exact k; exact hQ; exact hS; exact hP; exact hD; exact hiL)).box1 (b := w.heap.size) rfl [.slice aT ts.length cT, .slice (some ⟨gz, oz, none⟩) zs.length dT] 26).box1 (b := w.heap.size + 1) (by simp) [.slice aQ Q.length cQ, .slice aS wv.S.length cS, .slice aP wv.P.length cP, .slice aD wv.D.length cD] 28).box1 (b := w.heap.size + 1 + 1) (by simp) [.slice none 0 0, .slice none 0 0] 26)
 simp only [List.nil_append, List.cons_append] at F1
 clear hgd hsg hin hnu hco heq hnw htw hxw hOw hbd hbdA hea K hzl2 hzl hzw hNN hXe hw htl hp1 hp2 hNb hXb hWs h h2 hX k hQ hS hP hD hiL hL hz hg hz2 hz3 hz4 hts e1 e2 e3 e4 hc1 hc2
 have HMK := Lib.hid hmk
 clear hmk
 refine (callsIn_wide (n := 20)).1 ?_
 refine callsIn_of_wp_marks Try.func16 rfl trivial ?_ rfl
 simp only [Try.ntmps16, List.size_toArray, List.length_cons, List.length_nil, Nat.reduceAdd, Nat.reduceSub, Array.replicate_succ, Array.replicate_zero, List.push_toArray, List.append_toArray, List.nil_append, List.cons_append]
 refine wpIn_wide.2 ?_
 go_upto_region 1 with fail
 obtain ⟨W1, hW1⟩ : ∃ W1, ((w.alloc (.cells #[.slice aT ts.length cT, .slice (some ⟨gz, oz, none⟩) zs.length dT] 26)).alloc (.cells #[.slice aQ Q.length cQ, .slice aS wv.S.length cS, .slice aP wv.P.length cP, .slice aD wv.D.length cD] 28)).alloc (.cells #[.slice none 0 0, .slice none 0 0] 26) = W1 := ⟨_, rfl⟩
 rw [hW1] at F1 ⊢
 clear hW1
 have c0_0 := F1.out.c 0 0 rfl rfl
 have c0_1 := F1.out.c 0 1 rfl rfl
 go_upto_region 3 with (first | (go_at_call 43; refine (HGD.out _ (F1.out.lw 0 rfl) (F1.out.lw 1 rfl)).mono ?_; rintro e w2 ⟨rfl, hb⟩; have F2 := Lib.hid (F1.out.next hb); clear hb F1 c0_0 c0_1; have c1_0 := F2.out.c 1 0 rfl rfl; have c1_1 := F2.out.c 1 1 rfl rfl; have c1_2 := F2.out.c 1 2 rfl rfl; have c1_3 := F2.out.c 1 3 rfl rfl) | (go_at_call 47; refine (HSG.out _ (F2.out.lw 2 rfl)).mono ?_; rintro e w' ⟨rfl, rfl⟩) | (go_at_call 44; refine (HIN.out _ (F2.out.lw 3 rfl)).mono ?_; rintro e w3 ⟨rfl, hb⟩; have F3 := Lib.hid (F2.out.next hb); clear hb F2 c1_0 c1_1 c1_2 c1_3; have c1_0 := F3.out.c 1 0 rfl rfl; have c1_1 := F3.out.c 1 1 rfl rfl; have c1_2 := F3.out.c 1 2 rfl rfl; have c1_3 := F3.out.c 1 3 rfl rfl) | (go_at_call 33; refine (HNU.out _ (F3.out.lw 4 rfl) (F3.out.lw 5 rfl) (F3.out.lw 6 rfl) (F3.out.lw 7 rfl)).mono ?_; rintro e w4 ⟨rfl, hb⟩; have F4 := Lib.hid (F3.out.next hb); clear hb F3 c1_0 c1_1 c1_2 c1_3; have c0_0 := F4.out.c 0 0 rfl rfl; have c0_1 := F4.out.c 0 1 rfl rfl; have c1_0 := F4.out.c 1 0 rfl rfl; have c1_1 := F4.out.c 1 1 rfl rfl; have c1_2 := F4.out.c 1 2 rfl rfl; have c1_3 := F4.out.c 1 3 rfl rfl) | fail)
 go_upto_region 4 with (first | (go_at_call 45; refine (HCO.out _ (F4.out.lw 2 rfl) (F4.out.lw 3 rfl) (F4.out.lw 5 rfl) (F4.out.lw 6 rfl) (F4.out.lw 7 rfl)).mono ?_; rintro e w5 ⟨aL, cL, aO, cO, as1, cs1, rfl, ⟨b9, o9, he, rfl⟩, hf⟩; cases he; have F5 := Lib.hid (F4.out.join hf); simp only [List.nil_append, List.cons_append] at F5; clear hf F4 c0_0 c0_1 c1_0 c1_1 c1_2 c1_3) | fail)
 obtain ⟨Y8, hY8⟩ : ∃ x, w5.heap.size = x := ⟨_, rfl⟩
 try rw [hY8]
 have F6 := Lib.hid (F5.out.box1 (b := Y8) hY8 [.slice (some ⟨b0, o0 + 2, none⟩) wv.L.length cL, .slice ak wv.K.length ck, .slice aO wv.O.length cO, .slice aQ Q.length cQ, .slice aS wv.S.length cS, .slice aP wv.P.length cP, .slice aD wv.D.length cD] 64)
 simp only [List.nil_append, List.cons_append] at F6
 obtain ⟨W6, hW6⟩ : ∃ x, (w5.alloc (.cells #[.slice (some ⟨b0, o0 + 2, none⟩) wv.L.length cL, .slice ak wv.K.length ck, .slice aO wv.O.length cO, .slice aQ Q.length cQ, .slice aS wv.S.length cS, .slice aP wv.P.length cP, .slice aD wv.D.length cD] 64)) = x := ⟨_, rfl⟩
 rw [hW6] at F6 ⊢
 clear hW6 hY8 F5
 have c0_0 := F6.out.c 0 0 rfl rfl
 have c0_1 := F6.out.c 0 1 rfl rfl
 go_upto_region 6 with (first | (go_at_call 48; refine (HEQ.out as1 cs1 _ (F6.out.li 1 (k := .i64) (xs := ts) rfl HTW.out) (F6.out.lw 0 rfl)).mono ?_; rintro e w9 ⟨rfl, q9, rfl⟩; have F7 := Lib.hid (F6.out.drewN q9); clear F6 c0_0 c0_1) | fail)
 go_upto_region 7 with (first | (go_at_call 35; refine (HNW.out _ (F7.out.lw 2 rfl)).mono ?_; rintro e w7 hr; obtain ⟨as_, cs_, gd, dd, rfl, hf⟩ := retNew_frP hr HP2.out.1; have F8 := Lib.hid (F7.out.join hf); simp only [List.cons_append, List.nil_append] at F8; clear hf hr F7) | fail)
 obtain ⟨ZL, hZL⟩ : ∃ l, (List.replicate X (0 : Int)).map (Value.int .i64) = l := ⟨_, rfl⟩
 rw [hZL] at F8
 have HZLs := Lib.hid hZL
 clear hZL
 obtain ⟨Q13, hQ13⟩ : ∃ x, w7.heap.size = x := ⟨_, rfl⟩
 try rw [hQ13]
 have F9 := Lib.hid (F8.out.box1 (b := Q13) hQ13 [.slice as_ xs.length cs_, .slice (some ⟨gd, 0, none⟩) X dd] 26)
 simp only [List.nil_append, List.cons_append] at F9
 obtain ⟨W9, hW9⟩ : ∃ x, (w7.alloc (.cells #[.slice as_ xs.length cs_, .slice (some ⟨gd, 0, none⟩) X dd] 26)) = x := ⟨_, rfl⟩
 rw [hW9] at F9 ⊢
 clear hW9 hQ13 F8
 have c4_0 := F9.out.c 4 0 rfl rfl
 have c4_1 := F9.out.c 4 1 rfl rfl
 have hmk := HMK.out
 go_upto_region 8 with fail
 clear hmk HMK
 obtain ⟨gs, hgs⟩ : ∃ x, W9.heap.size = x := ⟨_, rfl⟩
 skip
 have F10 := (F9.out.box1 (b := gs) hgs (flatB (fun _ => 0) X) 71).box1 (b := gs + 1) (by simp [hgs]) [.slice (some ⟨gs, 0, none⟩) X X] 86
 rw [hgs]
 simp only [List.nil_append, List.cons_append] at F10
 have F10 := Lib.hid F10
 obtain ⟨W10, hW10⟩ : ∃ x, (W9.alloc (.cells (flatB (fun _ => 0) X).toArray 71)).alloc (.cells #[.slice (some ⟨gs, 0, none⟩) X X] 86) = x := ⟨_, rfl⟩
 rw [hW10] at F10 ⊢
 clear hW10 hgs F9 c4_0 c4_1
 have c3_0 := F10.out.c 3 0 rfl rfl
 have c3_1 := F10.out.c 3 1 rfl rfl
 have c3_2 := F10.out.c 3 2 rfl rfl
 have c3_3 := F10.out.c 3 3 rfl rfl
 have c3_4 := F10.out.c 3 4 rfl rfl
 have c3_5 := F10.out.c 3 5 rfl rfl
 have c3_6 := F10.out.c 3 6 rfl rfl
 go_upto_block 0 with (first | (go_at_call 46; refine (HEA.out _ (F10.out.lw 8 rfl) aO cL cO).mono ?_; rintro e w11 ⟨qp, rfl, hf⟩; have F11 := Lib.hid (F10.out.join2 hf); simp only [List.nil_append, List.cons_append, List.append_nil] at F11; clear hf F10 c3_0 c3_1 c3_2 c3_3 c3_4 c3_5 c3_6) | fail)
 obtain ⟨X1, hX1⟩ : ∃ x, W10.heap.size = x := ⟨_, rfl⟩
 rw [hX1] at F11 ⊢
 clear hX1
 obtain ⟨D, hD⟩ : ∃ D, w11.heap.size = D := ⟨_, rfl⟩
 have hf0 : flatB (fun _ => 0) X = flatB (bkS zs wv N T M NN 0 0 0) X := by rw [show bkS zs wv N T M NN 0 0 0 = fun _ => 0 from funext fun j => bk_0 zs wv N T M NN j]
 rw [hf0] at F11
 clear hf0
 go_wp2
 refine wpIn_wide.1 (wpIn_rangeFunc_any (n := 20) rfl (by omega) (gf := 84) (lb := #[.pointer (some ⟨X1 + 1, 0, none⟩), .pointer (some ⟨X1, 0, none⟩), .pointer (some ⟨qp, 0, none⟩)]) rfl trivial (enters_of Try.func84 (by kernel_rfl) rfl) D hD
  (fun W2 => ∃ o, Hid (Fr w.heap.size w W2 [(w.heap.size, [.slice aT ts.length cT, .slice (some ⟨gz, oz, none⟩) zs.length dT]), (w.heap.size + 1, [.slice aQ Q.length cQ, .slice aS wv.S.length cS, .slice aP wv.P.length cP, .slice aD wv.D.length cD]), (w.heap.size + 1 + 1, [.slice none 0 0, .slice none 0 0]), (Y8, [.slice (some ⟨b0, o0 + 2, none⟩) wv.L.length cL, .slice ak wv.K.length ck, .slice aO wv.O.length cO, .slice aQ Q.length cQ, .slice aS wv.S.length cS, .slice aP wv.P.length cP, .slice aD wv.D.length cD]), (Q13, [.slice as_ xs.length cs_, .slice (some ⟨gd, 0, none⟩) X dd]), (gs, flatB (bkS zs wv N T M NN (R * C) 0 0) X), (gs + 1, [.slice (some ⟨gs, 0, none⟩) X X]), (X1, [.slice (some ⟨b0, o0 + 2, none⟩) wv.L.length cL, .slice ak wv.K.length ck, .slice aO wv.O.length cO, .slice aQ Q.length cQ, .slice aS wv.S.length cS, .slice aP wv.P.length cP, .slice aD wv.D.length cD]), (X1 + 1, [.slice (some ⟨b0, o0, none⟩) xs.length cX]), (qp, [.int .i64 (M : Int)])] [(.i64, aT, ts), (.i64, (some ⟨gz, oz, none⟩), zs), (.i64, (some ⟨b0, o0, none⟩), xs), (.i64, ak, wv.K), (.i64, aQ, Q), (.i64, aS, wv.S), (.i64, aP, wv.P), (.i64, aD, wv.D), (.i64, (some ⟨b0, o0 + 2, none⟩), wv.L)] [⟨3, .slice aO wv.O.length cO, wv.O.length, wv.O.map (Value.int .i64)⟩, ⟨3, .slice as1 3 cs1, 3, ts.map (Value.int .i64)⟩, ⟨3, .slice as_ xs.length cs_, xs.length, xs.map (Value.int .i64)⟩, ⟨2, .slice (some ⟨gd, 0, none⟩) X dd, X, ZL⟩] ([(D + 1, o), (D, .deferred (some []))]))) (fun _ _ => False) ?hcall ?hdone ?hstop)
 case hstop =>
  intro cc W2 o ho hf
  exact hf.elim
 case hcall =>
  intro fn9 R9 hfn hR9
  have HR9 := Lib.hid hR9
  clear hR9
  have F12 := Lib.hid (((F11.out.recM hD (.deferred (some [])) rfl).recM (b := D + 1) (by simp [hD]) (.loop (R9 .ready none)) rfl).frontM)
  simp only [List.nil_append, List.cons_append] at F12
  have hsz5 : ((w11.alloc (.deferred (some []))).alloc (.loop (R9 .ready none))).heap.size = D + 2 := by simp [hD]
  obtain ⟨W5, hW5⟩ : ∃ x, ((w11.alloc (.deferred (some []))).alloc (.loop (R9 .ready none))) = x := ⟨_, rfl⟩
  rw [hW5] at F12 hsz5 ⊢
  have H0 := FrS.of F12.out (fun p hp => (Array.getElem?_eq_some_iff.1 (F12.out.obj p hp).1).1)
  rw [hsz5] at H0
  have HJ0 := Lib.hid H0
  clear hW5 F11 H0 F12
  refine (eachIter 19 (by omega) (D + 1) (X1 + 1) X1 qp R C N T M (D + 2) (some ⟨b0, o0 + 2, none⟩) ak aO aQ aS aP aD cL ck cO cQ cS cP cD Q wv (some ⟨b0, o0, none⟩) cX xs W5 hsz5 (fun m p t V => FrS (D + 2) w.heap.size w V [(w.heap.size, [.slice aT ts.length cT, .slice (some ⟨gz, oz, none⟩) zs.length dT]), (w.heap.size + 1, [.slice aQ Q.length cQ, .slice aS wv.S.length cS, .slice aP wv.P.length cP, .slice aD wv.D.length cD]), (w.heap.size + 1 + 1, [.slice none 0 0, .slice none 0 0]), (Y8, [.slice (some ⟨b0, o0 + 2, none⟩) wv.L.length cL, .slice ak wv.K.length ck, .slice aO wv.O.length cO, .slice aQ Q.length cQ, .slice aS wv.S.length cS, .slice aP wv.P.length cP, .slice aD wv.D.length cD]), (Q13, [.slice as_ xs.length cs_, .slice (some ⟨gd, 0, none⟩) X dd]), (gs, flatB (bkS zs wv N T M NN m p t) X), (gs + 1, [.slice (some ⟨gs, 0, none⟩) X X]), (X1, [.slice (some ⟨b0, o0 + 2, none⟩) wv.L.length cL, .slice ak wv.K.length ck, .slice aO wv.O.length cO, .slice aQ Q.length cQ, .slice aS wv.S.length cS, .slice aP wv.P.length cP, .slice aD wv.D.length cD]), (X1 + 1, [.slice (some ⟨b0, o0, none⟩) xs.length cX]), (qp, [.int .i64 (M : Int)])] [(.i64, aT, ts), (.i64, (some ⟨gz, oz, none⟩), zs), (.i64, (some ⟨b0, o0, none⟩), xs), (.i64, ak, wv.K), (.i64, aQ, Q), (.i64, aS, wv.S), (.i64, aP, wv.P), (.i64, aD, wv.D), (.i64, (some ⟨b0, o0 + 2, none⟩), wv.L)] [⟨3, .slice aO wv.O.length cO, wv.O.length, wv.O.map (Value.int .i64)⟩, ⟨3, .slice as1 3 cs1, 3, ts.map (Value.int .i64)⟩, ⟨3, .slice as_ xs.length cs_, xs.length, xs.map (Value.int .i64)⟩, ⟨2, .slice (some ⟨gd, 0, none⟩) X dd, X, ZL⟩] ([(D + 1, .loop (R9 .ready none)), (D, .deferred (some []))])) HK.out.hR HK.out.hok HK.out.hr HK.out.gO HK.out.gK HK.out.hN HK.out.hT HK.out.hM HK.out.hRe HK.out.hC (by have := HK.out.lx; omega) HK.out.bS HK.out.bX (by have := HK.out.bR; omega) (by have := HK.out.bC; omega) HK.out.bRC ?hJ ?hJB ?hskip ?hnext ?hrow ?hY HJ0.out).mono ?post
  case post =>
   rintro e V ⟨hv, h⟩
   exact ⟨hv, .inl ⟨⟨_, Lib.hid h.fr⟩, h.fr.m 0 rfl⟩⟩
  case hJ =>
   rintro m p t V1 V2 h hb
   exact h.below hb
  case hJB =>
   rintro m p t V h
   exact ⟨h.sz, (h.fr.box _ (List.mem_of_getElem? (i := 8) rfl)).1, (h.fr.box _ (List.mem_of_getElem? (i := 7) rfl)).1, (h.fr.box _ (List.mem_of_getElem? (i := 9) rfl)).1, (h.fr.l 2 rfl).mono h.lS, ⟨(h.fr.l 8 rfl).mono h.lS, (h.fr.l 3 rfl).mono h.lS, ints_rowS (h.fr.r 0 rfl) rfl HOW.out (h.bO _ (List.mem_of_getElem? (i := 0) rfl)), (h.fr.l 5 rfl).mono h.lS, (h.fr.l 6 rfl).mono h.lS, (h.fr.l 7 rfl).mono h.lS⟩⟩
  case hskip =>
   rintro m p t V1 hm hp ht hf h
   rw [show bkS zs wv N T M NN m p (t + 1) = bkS zs wv N T M NN m p t from funext fun j => bk_skip zs wv hp ht hf]
   exact h
  case hnext =>
   rintro m p V1 hm hp h
   rw [show bkS zs wv N T M NN m (p + 1) 0 = bkS zs wv N T M NN m p T from funext fun j => (bk_next zs wv (by have := HK.out.t1; omega)).symm]
   exact h
  case hrow =>
   rintro m V1 hm h
   rw [show bkS zs wv N T M NN (m + 1) 0 0 = bkS zs wv N T M NN m N 0 from funext fun j => (bk_row zs wv (by have := HK.out.n1; omega)).symm]
   exact h
  case hY =>
   rintro m p t V1 hm hp ht htw hj
   have hwib := WinV.wI_bound HK.out.hR htw
   rw [HK.out.hM] at hwib
   have hst := fun j hc => bk_step zs wv (NN := NN) (M := M) (m := m) (j := j) hp ht hc htw
   obtain ⟨z9, hz9⟩ : ∃ z : Nat, (wv.wI p t).toNat = z := ⟨_, rfl⟩
   have hzM : z9 < M := by omega
   rw [hz9] at hst ⊢
   obtain ⟨col, hcol⟩ : ∃ z : Nat, (m * T + t) * N + p = z := ⟨_, rfl⟩
   obtain ⟨at9, hat⟩ : ∃ z : Nat, m * M + z9 = z := ⟨_, rfl⟩
   have hcN : col < NN := by rw [← HNN.out, ← hcol]; exact col_lt hm hp ht
   have haX : at9 < X := by rw [← HXE.out, ← hat]; exact at_lt hm hzM
   rw [hcol] at hst ⊢
   rw [hat] at hst ⊢
   have hcz : col < zs.length := by rw [HZL.out]; exact hcN
   obtain ⟨y9, hy9⟩ : ∃ z, zs[col]?.getD 0 = z := ⟨_, rfl⟩
   have hyb := get_word HZW.out col
   rw [hy9] at hst hyb
   obtain ⟨SF, hSF⟩ : ∃ g, bkS zs wv N T M NN m p t = g := ⟨_, rfl⟩
   obtain ⟨SG, hSG⟩ : ∃ g, bkS zs wv N T M NN m p (t + 1) = g := ⟨_, rfl⟩
   have hb1 := HBD.out m p t at9
   have hb2 := HBD.out m p (t + 1) at9
   have hs1 : SG at9 = SF at9 + y9 := by rw [← hSG, ← hSF, hst at9 hcN, if_pos rfl]
   have hs2 : ∀ i, i ≠ at9 → SG i = SF i := fun i hi => by rw [← hSG, ← hSF, hst i hcN, if_neg (fun q => hi q.symm)]; omega
   rw [hSF] at hb1 hj
   rw [hSG] at hb2 ⊢
   have hfs := flatB_set SF SG haX hs2
   obtain ⟨u9, hu9⟩ : ∃ z, SF at9 = z := ⟨_, rfl⟩
   rw [hu9] at hs1 hb1
   rw [hs1] at hb2 hfs
   have hfrm := fun W => from_any y9 W (by omega) (by omega)
   have hyr : inR y9 := by unfold inR; omega
   have e64 : y9 / 9223372036854775808 = y9 / 18446744073709551616 := by omega
   rw [e64] at hfrm
   have hadd := fun W => add_in _ _ _ _ W (WR_split hb1) (WR_split hyr) (by rw [V_split, V_split]; exact hb2)
   rw [V_split, V_split] at hadd
   have hg0 := flatB_0 SF haX
   have hg1 := flatB_1 SF haX
   rw [hu9] at hg0 hg1
   have HFRM := Lib.hid hfrm
   have HADD := Lib.hid hadd
   have HFS := Lib.hid hfs
   have HG0 := Lib.hid hg0
   have HG1 := Lib.hid hg1
   have HY9 := Lib.hid hy9
   have HCZ := Lib.hid hcz
   have HAX := Lib.hid haX
   clear hst hwib hz9 hzM hcol hat hcN haX hcz hy9 hyb hSF hSG hb1 hb2 hs1 hs2 hfs hu9 hfrm hyr e64 hadd hg0 hg1 hm hp ht htw
   refine yieldAt_roundR hfn HR9.out (hj.fr.m 0 rfl) rfl ?_
   have HJ := Lib.hid hj
   clear hj hfn HJ0
   gi_wp2
   refine ⟨HJ.out.fr.m 0 rfl, ?_⟩
   have G1 := Lib.hid (HJ.out.fr.putM 0 rfl (.loop (R9 .busy none)) rfl)
   simp only [List.set_cons_zero, List.set_cons_succ] at G1
   have HKP := Lib.hid (Kept.putObj (D + 2) V1 (D + 1) (.loop (R9 .busy none)) (by omega))
   obtain ⟨V, hV⟩ : ∃ V, V1.putObj (D + 1) (.loop (R9 .busy none)) = V := ⟨_, rfl⟩
   rw [hV] at G1 HKP ⊢
   clear hV
   (repeat gi_step)
   refine wpIn_region_inv (w := V) 18 (fun W1 W2 => Kept (D + 2) W1 W2) (fun k9 W => (k9 = 0 → Fr w.heap.size w W [(w.heap.size, [.slice aT ts.length cT, .slice (some ⟨gz, oz, none⟩) zs.length dT]), (w.heap.size + 1, [.slice aQ Q.length cQ, .slice aS wv.S.length cS, .slice aP wv.P.length cP, .slice aD wv.D.length cD]), (w.heap.size + 1 + 1, [.slice none 0 0, .slice none 0 0]), (Y8, [.slice (some ⟨b0, o0 + 2, none⟩) wv.L.length cL, .slice ak wv.K.length ck, .slice aO wv.O.length cO, .slice aQ Q.length cQ, .slice aS wv.S.length cS, .slice aP wv.P.length cP, .slice aD wv.D.length cD]), (Q13, [.slice as_ xs.length cs_, .slice (some ⟨gd, 0, none⟩) X dd]), (gs, flatB (SF) X), (gs + 1, [.slice (some ⟨gs, 0, none⟩) X X]), (X1, [.slice (some ⟨b0, o0 + 2, none⟩) wv.L.length cL, .slice ak wv.K.length ck, .slice aO wv.O.length cO, .slice aQ Q.length cQ, .slice aS wv.S.length cS, .slice aP wv.P.length cP, .slice aD wv.D.length cD]), (X1 + 1, [.slice (some ⟨b0, o0, none⟩) xs.length cX]), (qp, [.int .i64 (M : Int)])] [(.i64, aT, ts), (.i64, (some ⟨gz, oz, none⟩), zs), (.i64, (some ⟨b0, o0, none⟩), xs), (.i64, ak, wv.K), (.i64, aQ, Q), (.i64, aS, wv.S), (.i64, aP, wv.P), (.i64, aD, wv.D), (.i64, (some ⟨b0, o0 + 2, none⟩), wv.L)] [⟨3, .slice aO wv.O.length cO, wv.O.length, wv.O.map (Value.int .i64)⟩, ⟨3, .slice as1 3 cs1, 3, ts.map (Value.int .i64)⟩, ⟨3, .slice as_ xs.length cs_, xs.length, xs.map (Value.int .i64)⟩, ⟨2, .slice (some ⟨gd, 0, none⟩) X dd, X, ZL⟩] ([(D + 1, .loop (R9 .busy none)), (D, .deferred (some []))])) ∧ (k9 = 1 → Fr w.heap.size w W [(w.heap.size, [.slice aT ts.length cT, .slice (some ⟨gz, oz, none⟩) zs.length dT]), (w.heap.size + 1, [.slice aQ Q.length cQ, .slice aS wv.S.length cS, .slice aP wv.P.length cP, .slice aD wv.D.length cD]), (w.heap.size + 1 + 1, [.slice none 0 0, .slice none 0 0]), (Y8, [.slice (some ⟨b0, o0 + 2, none⟩) wv.L.length cL, .slice ak wv.K.length ck, .slice aO wv.O.length cO, .slice aQ Q.length cQ, .slice aS wv.S.length cS, .slice aP wv.P.length cP, .slice aD wv.D.length cD]), (Q13, [.slice as_ xs.length cs_, .slice (some ⟨gd, 0, none⟩) X dd]), (gs, flatB (SG) X), (gs + 1, [.slice (some ⟨gs, 0, none⟩) X X]), (X1, [.slice (some ⟨b0, o0 + 2, none⟩) wv.L.length cL, .slice ak wv.K.length ck, .slice aO wv.O.length cO, .slice aQ Q.length cQ, .slice aS wv.S.length cS, .slice aP wv.P.length cP, .slice aD wv.D.length cD]), (X1 + 1, [.slice (some ⟨b0, o0, none⟩) xs.length cX]), (qp, [.int .i64 (M : Int)])] [(.i64, aT, ts), (.i64, (some ⟨gz, oz, none⟩), zs), (.i64, (some ⟨b0, o0, none⟩), xs), (.i64, ak, wv.K), (.i64, aQ, Q), (.i64, aS, wv.S), (.i64, aP, wv.P), (.i64, aD, wv.D), (.i64, (some ⟨b0, o0 + 2, none⟩), wv.L)] [⟨3, .slice aO wv.O.length cO, wv.O.length, wv.O.map (Value.int .i64)⟩, ⟨3, .slice as1 3 cs1, 3, ts.map (Value.int .i64)⟩, ⟨3, .slice as_ xs.length cs_, xs.length, xs.map (Value.int .i64)⟩, ⟨2, .slice (some ⟨gd, 0, none⟩) X dd, X, ZL⟩] ([(D + 1, .loop (R9 .busy none)), (D, .deferred (some []))]))) [17] [(fun u _ => u = .slice (some ⟨gs, 0, none⟩) X X), (fun u _ => u = .int .i64 (at9 : Int)), (fun u _ => u = .slice (some ⟨gs, 0, none⟩) X X), (fun u _ => u = .int .i64 (at9 : Int)), (fun u _ => u = .pointer (some ⟨gs, at9 * 2, none⟩)), (fun u _ => u = .agg #[.int .i64 (u9 / 18446744073709551616), .int .u64 (u9 % 18446744073709551616)]), (fun u _ => u = .pointer (some ⟨w.heap.size, 1, none⟩)), (fun u _ => u = .slice (some ⟨gz, oz, none⟩) zs.length dT), (fun u _ => u = .int .i64 (col : Int)), (fun u _ => u = .pointer (some ⟨gz, oz + col, none⟩)), (fun u _ => u = .int .i64 y9), (fun u _ => u = .agg #[.int .i64 (y9 / 18446744073709551616), .int .u64 (y9 % 18446744073709551616)]), (fun u _ => u = .tuple #[.agg #[.int .i64 ((u9 + y9) / 18446744073709551616), .int .u64 ((u9 + y9) % 18446744073709551616)], .int .i64 0]), (fun u _ => u = .tuple #[.agg #[.int .i64 ((u9 + y9) / 18446744073709551616), .int .u64 ((u9 + y9) % 18446744073709551616)], .int .i64 0]), (fun u _ => u = .agg #[.int .i64 ((u9 + y9) / 18446744073709551616), .int .u64 ((u9 + y9) % 18446744073709551616)]), (fun u _ => u = .int .i64 0), (fun u _ => u = .pointer (some ⟨gs, at9 * 2, none⟩)), (fun _ _ => True)] [some 68, some 69, some 70, some 71, some 72, some 73, some 74, some 75, some 76, some 77, some 78, some 79, some 80, some 67, some 81, some 82, some 83, none] (by kernel_rfl) (by kernel_rfl) rfl (by kernel_rfl) (by kernel_rfl) (by decide) (by decide) (fun h1 h2 => h1.trans h2) (Kept.of_below (Below.drew (Below.refl _ _))) ⟨fun _ => G1.out.drew, fun h => absurd h (by decide)⟩ (BorneAll.at (.cons (borne_eq _) (.cons (borne_eq _) (.cons (borne_eq _) (.cons (borne_eq _) (.cons (borne_eq _) (.cons (borne_eq _) (.cons (borne_eq _) (.cons (borne_eq _) (.cons (borne_eq _) (.cons (borne_eq _) (.cons (borne_eq _) (.cons (borne_eq _) (.cons (borne_eq _) (.cons (borne_eq _) (.cons (borne_eq _) (.cons (borne_eq _) (.cons (borne_eq _) (.cons (fun _ _ _ _ _ => trivial) .nil))))))))))))))))))) (fun vs b hvl hvb => ?_)
   obtain ⟨x0, x1, x2, x3, x4, x5, x6, x7, x8, x9, x10, x11, x12, x13, x14, x15, x16, x17, rfl⟩ : ∃ x0 x1 x2 x3 x4 x5 x6 x7 x8 x9 x10 x11 x12 x13 x14 x15 x16 x17, vs = [x0, x1, x2, x3, x4, x5, x6, x7, x8, x9, x10, x11, x12, x13, x14, x15, x16, x17] := lw18 hvl
   clear hvl
   simp only [putAll, Act.put, List.setIfInBounds_toArray, List.set_cons_zero, List.set_cons_succ] at hvb
   subst hvb
   refine ⟨(.snoc (.snoc (.snoc (.snoc (.snoc (.snoc (.snoc (.snoc (.snoc (.snoc (.snoc (.snoc (.snoc (.snoc (.snoc (.snoc (.snoc (.snoc .zero (InvObIn.intro (d := (some 68)) (r := fun u _ => u = .slice (some ⟨gs, 0, none⟩) X X) 0 0 rfl rfl rfl (by kernel_rfl) (by kernel_rfl) rfl ?io11x0)) (InvObIn.intro (d := (some 69)) (r := fun u _ => u = .int .i64 (at9 : Int)) 0 0 rfl rfl rfl (by kernel_rfl) (by kernel_rfl) rfl ?io11x1)) (InvObIn.intro (d := (some 70)) (r := fun u _ => u = .slice (some ⟨gs, 0, none⟩) X X) 0 0 rfl rfl rfl (by kernel_rfl) (by kernel_rfl) rfl ?io11x2)) (InvObIn.intro (d := (some 71)) (r := fun u _ => u = .int .i64 (at9 : Int)) 0 0 rfl rfl rfl (by kernel_rfl) (by kernel_rfl) rfl ?io11x3)) (InvObIn.intro (d := (some 72)) (r := fun u _ => u = .pointer (some ⟨gs, at9 * 2, none⟩)) 0 0 rfl rfl rfl (by kernel_rfl) (by kernel_rfl) rfl ?io11x4)) (InvObIn.intro (d := (some 73)) (r := fun u _ => u = .agg #[.int .i64 (u9 / 18446744073709551616), .int .u64 (u9 % 18446744073709551616)]) 0 0 rfl rfl rfl (by kernel_rfl) (by kernel_rfl) rfl ?io11x5)) (InvObIn.intro (d := (some 74)) (r := fun u _ => u = .pointer (some ⟨w.heap.size, 1, none⟩)) 0 0 rfl rfl rfl (by kernel_rfl) (by kernel_rfl) rfl ?io11x6)) (InvObIn.intro (d := (some 75)) (r := fun u _ => u = .slice (some ⟨gz, oz, none⟩) zs.length dT) 0 0 rfl rfl rfl (by kernel_rfl) (by kernel_rfl) rfl ?io11x7)) (InvObIn.intro (d := (some 76)) (r := fun u _ => u = .int .i64 (col : Int)) 0 0 rfl rfl rfl (by kernel_rfl) (by kernel_rfl) rfl ?io11x8)) (InvObIn.intro (d := (some 77)) (r := fun u _ => u = .pointer (some ⟨gz, oz + col, none⟩)) 0 0 rfl rfl rfl (by kernel_rfl) (by kernel_rfl) rfl ?io11x9)) (InvObIn.intro (d := (some 78)) (r := fun u _ => u = .int .i64 y9) 0 0 rfl rfl rfl (by kernel_rfl) (by kernel_rfl) rfl ?io11x10)) (InvObIn.intro (d := (some 79)) (r := fun u _ => u = .agg #[.int .i64 (y9 / 18446744073709551616), .int .u64 (y9 % 18446744073709551616)]) 0 0 rfl rfl rfl (by kernel_rfl) (by kernel_rfl) rfl ?io11x11)) (InvObIn.intro (d := (some 80)) (r := fun u _ => u = .tuple #[.agg #[.int .i64 ((u9 + y9) / 18446744073709551616), .int .u64 ((u9 + y9) % 18446744073709551616)], .int .i64 0]) 0 0 rfl rfl rfl (by kernel_rfl) (by kernel_rfl) rfl ?io11x12)) (InvObIn.intro (d := (some 67)) (r := fun u _ => u = .tuple #[.agg #[.int .i64 ((u9 + y9) / 18446744073709551616), .int .u64 ((u9 + y9) % 18446744073709551616)], .int .i64 0]) 0 0 rfl rfl rfl (by kernel_rfl) (by kernel_rfl) rfl ?io11x13)) (InvObIn.intro (d := (some 81)) (r := fun u _ => u = .agg #[.int .i64 ((u9 + y9) / 18446744073709551616), .int .u64 ((u9 + y9) % 18446744073709551616)]) 0 0 rfl rfl rfl (by kernel_rfl) (by kernel_rfl) rfl ?io11x14)) (InvObIn.intro (d := (some 82)) (r := fun u _ => u = .int .i64 0) 0 1 rfl rfl rfl (by kernel_rfl) (by kernel_rfl) rfl ?io11x15)) (InvObIn.intro (d := (some 83)) (r := fun u _ => u = .pointer (some ⟨gs, at9 * 2, none⟩)) 0 0 rfl rfl rfl (by kernel_rfl) (by kernel_rfl) rfl ?io11x16)) (InvObIn.put (d := none) (r := fun _ _ => True) 0 rfl rfl rfl (by kernel_rfl) (by kernel_rfl) rfl ?io11x17)), ?iend11⟩
   case io11x0 =>
    intro k1 w1 hk0 hk1 hb1 hS hd KK hK
    clear hd
    have hF := hS.1 (by omega)
    have k0_ := hF.c 6 0 rfl rfl
    simp only [Act.put, List.setIfInBounds_toArray, List.set_cons_zero, List.set_cons_succ] at hK
    go_simp
    first | exact hK.out _ _ (Kept.refl _ _) hS rfl | (have hk := hK.out _ _ (Kept.refl _ _) hS rfl; revert hk; go_simp)
   case io11x1 =>
    intro k1 w1 hk0 hk1 hb1 hS hd KK hK
    clear hd
    simp only [Act.put, List.setIfInBounds_toArray, List.set_cons_zero, List.set_cons_succ] at hK
    go_simp
    first | exact hK.out _ _ (Kept.refl _ _) hS rfl | (have hk := hK.out _ _ (Kept.refl _ _) hS rfl; revert hk; go_simp)
   case io11x2 =>
    intro k1 w1 hk0 hk1 hb1 hS hd KK hK
    clear hd
    have hF := hS.1 (by omega)
    have k0_ := hF.c 6 0 rfl rfl
    simp only [Act.put, List.setIfInBounds_toArray, List.set_cons_zero, List.set_cons_succ] at hK
    go_simp
    first | exact hK.out _ _ (Kept.refl _ _) hS rfl | (have hk := hK.out _ _ (Kept.refl _ _) hS rfl; revert hk; go_simp)
   case io11x3 =>
    intro k1 w1 hk0 hk1 hb1 hS hd KK hK
    clear hd
    simp only [Act.put, List.setIfInBounds_toArray, List.set_cons_zero, List.set_cons_succ] at hK
    go_simp
    first | exact hK.out _ _ (Kept.refl _ _) hS rfl | (have hk := hK.out _ _ (Kept.refl _ _) hS rfl; revert hk; go_simp)
   case io11x4 =>
    intro k1 w1 hk0 hk1 hb1 hS hd KK hK
    have d2 : x2 = .slice (some ⟨gs, 0, none⟩) X X := hd 2 (by kernel_rfl)
    have d3 : x3 = .int .i64 (at9 : Int) := hd 3 (by kernel_rfl)
    clear hd
    subst d2
    subst d3
    have g1 := HAX.out
    have g2 : (at9 : Int) < (X : Int) := by omega
    simp only [Act.put, List.setIfInBounds_toArray, List.set_cons_zero, List.set_cons_succ] at hK
    go_simp
    first | exact hK.out _ _ (Kept.refl _ _) hS rfl | (have hk := hK.out _ _ (Kept.refl _ _) hS rfl; revert hk; go_simp)
   case io11x5 =>
    intro k1 w1 hk0 hk1 hb1 hS hd KK hK
    have d4 : x4 = .pointer (some ⟨gs, at9 * 2, none⟩) := hd 4 (by kernel_rfl)
    clear hd
    subst d4
    have hF := hS.1 (by omega)
    have k0_ := hF.c 5 (at9 * 2) rfl HG0.out
    have k1_ := hF.c 5 (at9 * 2 + 1) rfl HG1.out
    simp only [Act.put, List.setIfInBounds_toArray, List.set_cons_zero, List.set_cons_succ] at hK
    go_simp
    first | exact hK.out _ _ (Kept.refl _ _) hS rfl | (have hk := hK.out _ _ (Kept.refl _ _) hS rfl; revert hk; go_simp)
   case io11x6 =>
    intro k1 w1 hk0 hk1 hb1 hS hd KK hK
    clear hd
    simp only [Act.put, List.setIfInBounds_toArray, List.set_cons_zero, List.set_cons_succ] at hK
    go_simp
    first | exact hK.out _ _ (Kept.refl _ _) hS rfl | (have hk := hK.out _ _ (Kept.refl _ _) hS rfl; revert hk; go_simp)
   case io11x7 =>
    intro k1 w1 hk0 hk1 hb1 hS hd KK hK
    have d6 : x6 = .pointer (some ⟨w.heap.size, 1, none⟩) := hd 6 (by kernel_rfl)
    clear hd
    subst d6
    have hF := hS.1 (by omega)
    have k1_ := hF.c 0 1 rfl rfl
    simp only [Act.put, List.setIfInBounds_toArray, List.set_cons_zero, List.set_cons_succ] at hK
    go_simp
    first | exact hK.out _ _ (Kept.refl _ _) hS rfl | (have hk := hK.out _ _ (Kept.refl _ _) hS rfl; revert hk; go_simp)
   case io11x8 =>
    intro k1 w1 hk0 hk1 hb1 hS hd KK hK
    clear hd
    simp only [Act.put, List.setIfInBounds_toArray, List.set_cons_zero, List.set_cons_succ] at hK
    go_simp
    first | exact hK.out _ _ (Kept.refl _ _) hS rfl | (have hk := hK.out _ _ (Kept.refl _ _) hS rfl; revert hk; go_simp)
   case io11x9 =>
    intro k1 w1 hk0 hk1 hb1 hS hd KK hK
    have d7 : x7 = .slice (some ⟨gz, oz, none⟩) zs.length dT := hd 7 (by kernel_rfl)
    have d8 : x8 = .int .i64 (col : Int) := hd 8 (by kernel_rfl)
    clear hd
    subst d7
    subst d8
    have g1 := HCZ.out
    have g2 : (col : Int) < (zs.length : Int) := by omega
    simp only [Act.put, List.setIfInBounds_toArray, List.set_cons_zero, List.set_cons_succ] at hK
    go_simp
    first | exact hK.out _ _ (Kept.refl _ _) hS rfl | (have hk := hK.out _ _ (Kept.refl _ _) hS rfl; revert hk; go_simp)
   case io11x10 =>
    intro k1 w1 hk0 hk1 hb1 hS hd KK hK
    have d9 : x9 = .pointer (some ⟨gz, oz + col, none⟩) := hd 9 (by kernel_rfl)
    clear hd
    subst d9
    have hF := hS.1 (by omega)
    obtain ⟨b9, o9, he, _, hcx⟩ := (hF.l 1 rfl).cell col HCZ.out
    cases he
    rw [HY9.out] at hcx
    simp only [Act.put, List.setIfInBounds_toArray, List.set_cons_zero, List.set_cons_succ] at hK
    go_simp
    first | exact hK.out _ _ (Kept.refl _ _) hS rfl | (have hk := hK.out _ _ (Kept.refl _ _) hS rfl; revert hk; go_simp)
   case io11x11 =>
    intro k1 w1 hk0 hk1 hb1 hS hd KK hK
    have d10 : x10 = .int .i64 y9 := hd 10 (by kernel_rfl)
    clear hd
    subst d10
    simp only [Act.put, List.setIfInBounds_toArray, List.set_cons_zero, List.set_cons_succ] at hK
    go_simp
    (repeat gi_step)
    refine ⟨trivial, ?_⟩
    refine ((CallsIn.inRound (D + 1) (callsIn_wide.2 (HFRM.out w1) : CallsIn Fence.wide 13 _ _ _ _ _))).mono ?_
    rintro e w2 ⟨rfl, hb⟩
    (try gi_wp2_with fail)
    first | exact hK.out _ _ (Kept.of_below hb) ⟨fun h => (hS.1 h).next hb, fun h => (hS.2 h).next hb⟩ rfl | (have hk := hK.out _ _ (Kept.of_below hb) ⟨fun h => (hS.1 h).next hb, fun h => (hS.2 h).next hb⟩ rfl; revert hk; go_simp)
   case io11x12 =>
    intro k1 w1 hk0 hk1 hb1 hS hd KK hK
    have d5 : x5 = .agg #[.int .i64 (u9 / 18446744073709551616), .int .u64 (u9 % 18446744073709551616)] := hd 5 (by kernel_rfl)
    have d11 : x11 = .agg #[.int .i64 (y9 / 18446744073709551616), .int .u64 (y9 % 18446744073709551616)] := hd 11 (by kernel_rfl)
    clear hd
    subst d5
    subst d11
    simp only [Act.put, List.setIfInBounds_toArray, List.set_cons_zero, List.set_cons_succ] at hK
    go_simp
    (repeat gi_step)
    refine ⟨trivial, ?_⟩
    refine ((CallsIn.inRound (D + 1) (callsIn_wide.2 (HADD.out w1) : CallsIn Fence.wide 13 _ _ _ _ _))).mono ?_
    rintro e w2 ⟨rfl, hb⟩
    (try gi_wp2_with fail)
    first | exact hK.out _ _ (Kept.of_below hb) ⟨fun h => (hS.1 h).next hb, fun h => (hS.2 h).next hb⟩ rfl | (have hk := hK.out _ _ (Kept.of_below hb) ⟨fun h => (hS.1 h).next hb, fun h => (hS.2 h).next hb⟩ rfl; revert hk; go_simp)
   case io11x13 =>
    intro k1 w1 hk0 hk1 hb1 hS hd KK hK
    have d12 : x12 = .tuple #[.agg #[.int .i64 ((u9 + y9) / 18446744073709551616), .int .u64 ((u9 + y9) % 18446744073709551616)], .int .i64 0] := hd 12 (by kernel_rfl)
    clear hd
    subst d12
    simp only [Act.put, List.setIfInBounds_toArray, List.set_cons_zero, List.set_cons_succ] at hK
    go_simp
    first | exact hK.out _ _ (Kept.refl _ _) hS rfl | (have hk := hK.out _ _ (Kept.refl _ _) hS rfl; revert hk; go_simp)
   case io11x14 =>
    intro k1 w1 hk0 hk1 hb1 hS hd KK hK
    have d13 : x13 = .tuple #[.agg #[.int .i64 ((u9 + y9) / 18446744073709551616), .int .u64 ((u9 + y9) % 18446744073709551616)], .int .i64 0] := hd 13 (by kernel_rfl)
    clear hd
    subst d13
    simp only [Act.put, List.setIfInBounds_toArray, List.set_cons_zero, List.set_cons_succ] at hK
    go_simp
    first | exact hK.out _ _ (Kept.refl _ _) hS rfl | (have hk := hK.out _ _ (Kept.refl _ _) hS rfl; revert hk; go_simp)
   case io11x15 =>
    intro k1 w1 hk0 hk1 hb1 hS hd KK hK
    have d13 : x13 = .tuple #[.agg #[.int .i64 ((u9 + y9) / 18446744073709551616), .int .u64 ((u9 + y9) % 18446744073709551616)], .int .i64 0] := hd 13 (by kernel_rfl)
    clear hd
    subst d13
    simp only [Act.put, List.setIfInBounds_toArray, List.set_cons_zero, List.set_cons_succ] at hK
    go_simp
    first | exact hK.out _ _ (Kept.refl _ _) hS rfl | (have hk := hK.out _ _ (Kept.refl _ _) hS rfl; revert hk; go_simp)
   case io11x16 =>
    intro k1 w1 hk0 hk1 hb1 hS hd KK hK
    have d0 : x0 = .slice (some ⟨gs, 0, none⟩) X X := hd 0 (by kernel_rfl)
    have d1 : x1 = .int .i64 (at9 : Int) := hd 1 (by kernel_rfl)
    have d2 : x2 = .slice (some ⟨gs, 0, none⟩) X X := hd 2 (by kernel_rfl)
    have d3 : x3 = .int .i64 (at9 : Int) := hd 3 (by kernel_rfl)
    have d4 : x4 = .pointer (some ⟨gs, at9 * 2, none⟩) := hd 4 (by kernel_rfl)
    have d5 : x5 = .agg #[.int .i64 (u9 / 18446744073709551616), .int .u64 (u9 % 18446744073709551616)] := hd 5 (by kernel_rfl)
    have d6 : x6 = .pointer (some ⟨w.heap.size, 1, none⟩) := hd 6 (by kernel_rfl)
    have d7 : x7 = .slice (some ⟨gz, oz, none⟩) zs.length dT := hd 7 (by kernel_rfl)
    have d8 : x8 = .int .i64 (col : Int) := hd 8 (by kernel_rfl)
    have d9 : x9 = .pointer (some ⟨gz, oz + col, none⟩) := hd 9 (by kernel_rfl)
    have d10 : x10 = .int .i64 y9 := hd 10 (by kernel_rfl)
    have d11 : x11 = .agg #[.int .i64 (y9 / 18446744073709551616), .int .u64 (y9 % 18446744073709551616)] := hd 11 (by kernel_rfl)
    have d12 : x12 = .tuple #[.agg #[.int .i64 ((u9 + y9) / 18446744073709551616), .int .u64 ((u9 + y9) % 18446744073709551616)], .int .i64 0] := hd 12 (by kernel_rfl)
    have d13 : x13 = .tuple #[.agg #[.int .i64 ((u9 + y9) / 18446744073709551616), .int .u64 ((u9 + y9) % 18446744073709551616)], .int .i64 0] := hd 13 (by kernel_rfl)
    have d14 : x14 = .agg #[.int .i64 ((u9 + y9) / 18446744073709551616), .int .u64 ((u9 + y9) % 18446744073709551616)] := hd 14 (by kernel_rfl)
    clear hd
    subst d0
    subst d1
    subst d2
    subst d3
    subst d4
    subst d5
    subst d6
    subst d7
    subst d8
    subst d9
    subst d10
    subst d11
    subst d12
    subst d13
    subst d14
    have g1 := HAX.out
    have g2 : (at9 : Int) < (X : Int) := by omega
    simp only [Act.put, List.setIfInBounds_toArray, List.set_cons_zero, List.set_cons_succ] at hK
    go_simp
    first | exact hK.out _ _ (Kept.refl _ _) hS rfl | (have hk := hK.out _ _ (Kept.refl _ _) hS rfl; revert hk; go_simp)
   case io11x17 =>
    intro w1 hb1 hS hd KK hK
    have d0 : x0 = .slice (some ⟨gs, 0, none⟩) X X := hd 0 (by kernel_rfl)
    have d1 : x1 = .int .i64 (at9 : Int) := hd 1 (by kernel_rfl)
    have d2 : x2 = .slice (some ⟨gs, 0, none⟩) X X := hd 2 (by kernel_rfl)
    have d3 : x3 = .int .i64 (at9 : Int) := hd 3 (by kernel_rfl)
    have d4 : x4 = .pointer (some ⟨gs, at9 * 2, none⟩) := hd 4 (by kernel_rfl)
    have d5 : x5 = .agg #[.int .i64 (u9 / 18446744073709551616), .int .u64 (u9 % 18446744073709551616)] := hd 5 (by kernel_rfl)
    have d6 : x6 = .pointer (some ⟨w.heap.size, 1, none⟩) := hd 6 (by kernel_rfl)
    have d7 : x7 = .slice (some ⟨gz, oz, none⟩) zs.length dT := hd 7 (by kernel_rfl)
    have d8 : x8 = .int .i64 (col : Int) := hd 8 (by kernel_rfl)
    have d9 : x9 = .pointer (some ⟨gz, oz + col, none⟩) := hd 9 (by kernel_rfl)
    have d10 : x10 = .int .i64 y9 := hd 10 (by kernel_rfl)
    have d11 : x11 = .agg #[.int .i64 (y9 / 18446744073709551616), .int .u64 (y9 % 18446744073709551616)] := hd 11 (by kernel_rfl)
    have d12 : x12 = .tuple #[.agg #[.int .i64 ((u9 + y9) / 18446744073709551616), .int .u64 ((u9 + y9) % 18446744073709551616)], .int .i64 0] := hd 12 (by kernel_rfl)
    have d13 : x13 = .tuple #[.agg #[.int .i64 ((u9 + y9) / 18446744073709551616), .int .u64 ((u9 + y9) % 18446744073709551616)], .int .i64 0] := hd 13 (by kernel_rfl)
    have d14 : x14 = .agg #[.int .i64 ((u9 + y9) / 18446744073709551616), .int .u64 ((u9 + y9) % 18446744073709551616)] := hd 14 (by kernel_rfl)
    have d16 : x16 = .pointer (some ⟨gs, at9 * 2, none⟩) := hd 16 (by kernel_rfl)
    clear hd
    subst d0
    subst d1
    subst d2
    subst d3
    subst d4
    subst d5
    subst d6
    subst d7
    subst d8
    subst d9
    subst d10
    subst d11
    subst d12
    subst d13
    subst d14
    subst d16
    have hF := hS.1 rfl
    have hne : flatB SF X ≠ [] := fun q => by have h9 := HG0.out; rw [q] at h9; cases h9
    have k0_ := hF.c 5 (at9 * 2) rfl HG0.out
    have k1_ := hF.c 5 (at9 * 2 + 1) rfl HG1.out
    have kf0_ := (hF.box _ (List.mem_of_getElem? (i := 5) rfl)).1.free (at9 * 2) (by rw [flatB_len]; have := HAX.out; omega)
    have kf1_ := (hF.box _ (List.mem_of_getElem? (i := 5) rfl)).1.free (at9 * 2 + 1) (by rw [flatB_len]; have := HAX.out; omega)
    simp only [Act.put, List.setIfInBounds_toArray, List.set_cons_zero, List.set_cons_succ] at hK
    go_simp
    first | exact hK.out undef _ ((Kept.of_grown (row := some gs) (Go.Lib.grownBy_setCell w1 gs (at9 * 2) (.int .i64 ((u9 + y9) / 18446744073709551616))) (fun e he => by injection he with he; have := HJ.out.bB _ (List.mem_of_getElem? (i := 5) rfl); omega)).trans (Kept.of_grown (row := some gs) (Go.Lib.grownBy_setCell _ gs (at9 * 2 + 1) (.int .u64 ((u9 + y9) % 18446744073709551616))) (fun e he => by injection he with he; have := HJ.out.bB _ (List.mem_of_getElem? (i := 5) rfl); omega))) ⟨fun h => absurd h (by decide), fun _ => back_store (i := 5) hF rfl hne HFS.out⟩ trivial | (have hk := hK.out undef _ ((Kept.of_grown (row := some gs) (Go.Lib.grownBy_setCell w1 gs (at9 * 2) (.int .i64 ((u9 + y9) / 18446744073709551616))) (fun e he => by injection he with he; have := HJ.out.bB _ (List.mem_of_getElem? (i := 5) rfl); omega)).trans (Kept.of_grown (row := some gs) (Go.Lib.grownBy_setCell _ gs (at9 * 2 + 1) (.int .u64 ((u9 + y9) % 18446744073709551616))) (fun e he => by injection he with he; have := HJ.out.bB _ (List.mem_of_getElem? (i := 5) rfl); omega))) ⟨fun h => absurd h (by decide), fun _ => back_store (i := 5) hF rfl hne HFS.out⟩ trivial; revert hk; go_simp)
   case iend11 =>
    intro w1 hb1 hS hR
    have d0 : x0 = .slice (some ⟨gs, 0, none⟩) X X := hR 0 (by decide)
    have d1 : x1 = .int .i64 (at9 : Int) := hR 1 (by decide)
    have d2 : x2 = .slice (some ⟨gs, 0, none⟩) X X := hR 2 (by decide)
    have d3 : x3 = .int .i64 (at9 : Int) := hR 3 (by decide)
    have d4 : x4 = .pointer (some ⟨gs, at9 * 2, none⟩) := hR 4 (by decide)
    have d5 : x5 = .agg #[.int .i64 (u9 / 18446744073709551616), .int .u64 (u9 % 18446744073709551616)] := hR 5 (by decide)
    have d6 : x6 = .pointer (some ⟨w.heap.size, 1, none⟩) := hR 6 (by decide)
    have d7 : x7 = .slice (some ⟨gz, oz, none⟩) zs.length dT := hR 7 (by decide)
    have d8 : x8 = .int .i64 (col : Int) := hR 8 (by decide)
    have d9 : x9 = .pointer (some ⟨gz, oz + col, none⟩) := hR 9 (by decide)
    have d10 : x10 = .int .i64 y9 := hR 10 (by decide)
    have d11 : x11 = .agg #[.int .i64 (y9 / 18446744073709551616), .int .u64 (y9 % 18446744073709551616)] := hR 11 (by decide)
    have d12 : x12 = .tuple #[.agg #[.int .i64 ((u9 + y9) / 18446744073709551616), .int .u64 ((u9 + y9) % 18446744073709551616)], .int .i64 0] := hR 12 (by decide)
    have d13 : x13 = .tuple #[.agg #[.int .i64 ((u9 + y9) / 18446744073709551616), .int .u64 ((u9 + y9) % 18446744073709551616)], .int .i64 0] := hR 13 (by decide)
    have d14 : x14 = .agg #[.int .i64 ((u9 + y9) / 18446744073709551616), .int .u64 ((u9 + y9) % 18446744073709551616)] := hR 14 (by decide)
    have d15 : x15 = .int .i64 0 := hR 15 (by decide)
    have d16 : x16 = .pointer (some ⟨gs, at9 * 2, none⟩) := hR 16 (by decide)
    clear hR
    subst d0
    subst d1
    subst d2
    subst d3
    subst d4
    subst d5
    subst d6
    subst d7
    subst d8
    subst d9
    subst d10
    subst d11
    subst d12
    subst d13
    subst d14
    subst d15
    subst d16
    try simp only [putAll, Act.put, List.setIfInBounds_toArray, List.set_cons_zero, List.set_cons_succ]
    have G4 := Lib.hid (hS.2 rfl)
    have HK4 := Lib.hid (HKP.out.trans hb1)
    clear hS hb1 G1 HKP
    obtain ⟨V4, rfl⟩ : ∃ x : World, x = w1 := ⟨_, rfl⟩
    gi_wp2
    refine ⟨G4.out.m 0 rfl, HK4.out.trans (Kept.putObj (D + 2) _ (D + 1) _ (by omega)), ?_⟩
    have G5 := G4.out.putM 0 rfl (.loop (R9 .ready none)) rfl
    simp only [List.set_cons_zero, List.set_cons_succ] at G5
    have hj := HJ.out
    have hks := HK4.out.1
    have hsz9 := (grownBy_putObj' V4 (D + 1) (.loop (R9 .ready none))).size
    exact ⟨G5, hj.lS, by have h8 := hj.sz; omega, by have h9 := hj.bB; simp only [List.mem_cons, List.not_mem_nil, or_false, forall_eq_or_imp, forall_eq] at h9 ⊢; exact h9, hj.bO, by have h9 := hj.bM; simp only [List.mem_cons, forall_eq_or_imp] at h9 ⊢; exact h9⟩
 case hdone =>
  rintro V o9 ho ⟨o2, F8⟩
  have FY := Lib.hid ((F8.out.putM 0 rfl o9 ho).less (.refl _) (.refl _) (.refl _) (List.sublist_cons_self _ _))
  try simp only [List.set_cons_zero, List.set_cons_succ] at FY
  generalize V.putObj (D + 1) o9 = V3 at *
  rw [show bkS zs wv N T M NN (R * C) 0 0 = bkA zs wv N T M NN from funext fun j => bk_all zs wv (by have := HK.out.n1; omega) (by have := HK.out.t1; omega) (by rw [← HNN.out, Nat.mul_assoc R C T])] at FY
  clear F8 F11 hD
  obtain ⟨AF, hAF⟩ : ∃ g, bkA zs wv N T M NN = g := ⟨_, rfl⟩
  have hba := HBA.out
  have hww := HWW.out
  rw [hAF] at FY hba hww ⊢
  have HBA2 := Lib.hid hba
  have HWW2 := Lib.hid (fun j (hj : j < X) => hww (AF j) (List.mem_map.2 ⟨j, List.mem_range.2 hj, rfl⟩))
  have HAFe := Lib.hid hAF
  clear hAF hba hww HBA HWW
  have c6_0 := FY.out.c 6 0 rfl rfl
  rw [← HZLs.out] at FY
  have hz0 := range_zeroP X
  rw [← hz0] at FY
  have e1 : (List.range X).map (fun _ => (0 : Int)) = (List.range X).map (upto AF 0) := by rw [upto_zero]
  rw [e1] at FY
  clear hz0 e1
  go_wp2
  go_loopw [86] (fun s86 wr => ∃ k : Nat, k ≤ X ∧ s86 = .int .i64 k ∧ Hid (Fr w.heap.size w wr [(w.heap.size, [.slice aT ts.length cT, .slice (some ⟨gz, oz, none⟩) zs.length dT]), (w.heap.size + 1, [.slice aQ Q.length cQ, .slice aS wv.S.length cS, .slice aP wv.P.length cP, .slice aD wv.D.length cD]), (w.heap.size + 1 + 1, [.slice none 0 0, .slice none 0 0]), (Y8, [.slice (some ⟨b0, o0 + 2, none⟩) wv.L.length cL, .slice ak wv.K.length ck, .slice aO wv.O.length cO, .slice aQ Q.length cQ, .slice aS wv.S.length cS, .slice aP wv.P.length cP, .slice aD wv.D.length cD]), (Q13, [.slice as_ xs.length cs_, .slice (some ⟨gd, 0, none⟩) X dd]), (gs, flatB (AF) X), (gs + 1, [.slice (some ⟨gs, 0, none⟩) X X]), (X1, [.slice (some ⟨b0, o0 + 2, none⟩) wv.L.length cL, .slice ak wv.K.length ck, .slice aO wv.O.length cO, .slice aQ Q.length cQ, .slice aS wv.S.length cS, .slice aP wv.P.length cP, .slice aD wv.D.length cD]), (X1 + 1, [.slice (some ⟨b0, o0, none⟩) xs.length cX]), (qp, [.int .i64 (M : Int)])] [(.i64, aT, ts), (.i64, (some ⟨gz, oz, none⟩), zs), (.i64, (some ⟨b0, o0, none⟩), xs), (.i64, ak, wv.K), (.i64, aQ, Q), (.i64, aS, wv.S), (.i64, aP, wv.P), (.i64, aD, wv.D), (.i64, (some ⟨b0, o0 + 2, none⟩), wv.L)] [⟨3, .slice aO wv.O.length cO, wv.O.length, wv.O.map (Value.int .i64)⟩, ⟨3, .slice as1 3 cs1, 3, ts.map (Value.int .i64)⟩, ⟨3, .slice as_ xs.length cs_, xs.length, xs.map (Value.int .i64)⟩, ⟨2, .slice (some ⟨gd, 0, none⟩) X dd, X, ((List.range X).map (upto AF k)).map (Value.int .i64)⟩] [(D, .deferred (some []))])) (fun s86 _ => X - (intOf s86).toNat)
  case atStart => exact ⟨0, Nat.zero_le _, rfl, FY⟩
  case round =>
   obtain ⟨k, hk, rfl, FZ⟩ := hrel
   clear FY c6_0
   obtain ⟨wi, rfl⟩ : ∃ x : World, x = wr := ⟨_, rfl⟩
   by_cases hlk : k < X
   ·skip
    have hki : (k : Int) < (X : Int) := by omega
    have HLK := Lib.hid hlk
    have hg0 := flatB_0 AF hlk
    have hg1 := flatB_1 AF hlk
    have hib := HBA2.out k
    have hiw := HWW2.out k hlk
    have hgD := upto_get AF (n := k) hlk
    have hsD := upto_set AF hlk
    obtain ⟨v9, hv9⟩ : ∃ z, AF k = z := ⟨_, rfl⟩
    rw [hv9] at hg0 hg1 hib hiw hsD
    obtain ⟨LD, hLD⟩ : ∃ l, ((List.range X).map (upto AF k)).map (Value.int .i64) = l := ⟨_, rfl⟩
    rw [hLD] at FZ hgD hsD
    have HSD := Lib.hid hsD
    have HGD := Lib.hid hgD
    have hna := fun W => narrow_any _ _ W (WR_split hib)
    rw [V_split] at hna
    have hv1 : wordV v9 = v9 := by unfold wordV; rw [hiw]; rfl
    have hv2 : wordE v9 = 0 := by unfold wordE; rw [hiw]; rfl
    rw [hv1, hv2] at hna
    have HNA := Lib.hid hna
    have k0 := FZ.out.c 5 (k * 2) rfl hg0
    have k1 := FZ.out.c 5 (k * 2 + 1) rfl hg1
    clear hna hv1 hv2 hib hiw hgD hsD hLD hv9
    go_upto_region 15 with fail
    obtain ⟨Q18, hQ18⟩ : ∃ x, wi.heap.size = x := ⟨_, rfl⟩
    try rw [hQ18]
    have G1 := Lib.hid (FZ.out.box1 (b := Q18) hQ18 [.int .i64 (v9 / 18446744073709551616), .int .u64 (v9 % 18446744073709551616)] 71)
    simp only [List.nil_append, List.cons_append] at G1
    obtain ⟨W15, hW15⟩ : ∃ x, (wi.alloc (.cells #[.int .i64 (v9 / 18446744073709551616), .int .u64 (v9 % 18446744073709551616)] 71)) = x := ⟨_, rfl⟩
    rw [hW15] at G1 ⊢
    clear hW15 hQ18 FZ k0 k1
    refine wp_calm ?_
    have FD := G1.out.drew
    refine wp_region_J (S := fun _ => True) (S1 := fun W9 => W9.cell? ⟨Q13, 1, none⟩ = some (.slice (some ⟨gd, 0, none⟩) X dd) ∧ W9.cell? ⟨Q18, 0, none⟩ = some (.int .i64 (v9 / 18446744073709551616)) ∧ W9.cell? ⟨Q18, 1, none⟩ = some (.int .u64 (v9 % 18446744073709551616))) (L := [0, 1, 2, 3, 4, 5, 6, 7, 8, 9, 10]) (by kernel_rfl) trivial ⟨FD.c 4 1 rfl rfl, FD.c 10 0 rfl rfl, FD.c 10 1 rfl rfl⟩ (fun hHeld hHeld1 => ?_)
    obtain ⟨v0, hv0⟩ : ∃ x, W15.drew = x := ⟨_, rfl⟩
    rw [hv0] at FD hHeld1 ⊢
    clear hv0
    refine takeJ1 (i := 0) (dst := (some 92)) (v := .pointer (some ⟨Q13, 1, none⟩)) rfl rfl (by kernel_rfl) (by kernel_rfl) (by kernel_rfl) (by kernel_rfl) (fun _ _ _ h => h) (by rfl) ?hyj15n1 hHeld1 ?restj15n1
    case hyj15n1 =>
     intro W hSw
     go_simp
     (try with_reducible rfl)
    try simp only [Act.put, List.setIfInBounds_toArray, List.set_cons_zero, List.set_cons_succ]
    refine takeJ1 (i := 1) (dst := (some 93)) (v := .slice (some ⟨gd, 0, none⟩) X dd) rfl rfl (by kernel_rfl) (by kernel_rfl) (by kernel_rfl) (by kernel_rfl) (fun _ _ _ h => h) (by rfl) ?hyj15n2 hHeld1 ?restj15n2
    case hyj15n2 =>
     intro W hSw
     obtain ⟨s0, s1, s2⟩ := hSw
     go_simp
     (try with_reducible rfl)
    try simp only [Act.put, List.setIfInBounds_toArray, List.set_cons_zero, List.set_cons_succ]
    refine takeJ1 (i := 2) (dst := (some 94)) (v := .int .i64 (k : Int)) rfl rfl (by kernel_rfl) (by kernel_rfl) (by kernel_rfl) (by kernel_rfl) (fun _ _ _ h => h) (by rfl) ?hyj15n3 hHeld1 ?restj15n3
    case hyj15n3 =>
     intro W hSw
     go_simp
     (try with_reducible rfl)
    try simp only [Act.put, List.setIfInBounds_toArray, List.set_cons_zero, List.set_cons_succ]
    refine takeJ1 (i := 3) (dst := (some 95)) (v := .agg #[.int .i64 (v9 / 18446744073709551616), .int .u64 (v9 % 18446744073709551616)]) rfl rfl (by kernel_rfl) (by kernel_rfl) (by kernel_rfl) (by kernel_rfl) (fun _ _ _ h => h) (by rfl) ?hyj15n4 hHeld1 ?restj15n4
    case hyj15n4 =>
     intro W hSw
     obtain ⟨s0, s1, s2⟩ := hSw
     go_simp
     (try with_reducible rfl)
    try simp only [Act.put, List.setIfInBounds_toArray, List.set_cons_zero, List.set_cons_succ]
    refine readyJ (rs := [4]) (by kernel_rfl) (by simp) (AllJ.cons rfl ?j15o5 AllJ.nil)
    case j15o5 =>
     intro K hK
     go_simp
     go_at_call 50
     refine (HNA.out v0).mono ?_
     rintro e v2 ⟨he, hb⟩
     unfold RetV at he
     subst he
     have FE := FD.next hb
     clear hb FD
     refine hK.out _ _ (fun _ => trivial) ⟨FE.c 4 1 rfl rfl, FE.c 10 0 rfl rfl, FE.c 10 1 rfl rfl⟩ (fun hHeld hHeld1 => ?_)
     clear hK K
     try simp only [Act.put, List.setIfInBounds_toArray, List.set_cons_zero, List.set_cons_succ]
     refine takeJ1 (i := 5) (dst := (some 91)) (v := .tuple #[.int .i64 v9, .int .i64 0]) rfl rfl (by kernel_rfl) (by kernel_rfl) (by kernel_rfl) (by kernel_rfl) (fun _ _ _ h => h) (by rfl) ?hyj15n6 hHeld1 ?restj15n6
     case hyj15n6 =>
      intro W hSw
      go_simp
      (try with_reducible rfl)
     try simp only [Act.put, List.setIfInBounds_toArray, List.set_cons_zero, List.set_cons_succ]
     refine takeJ1 (i := 6) (dst := (some 97)) (v := .int .i64 v9) rfl rfl (by kernel_rfl) (by kernel_rfl) (by kernel_rfl) (by kernel_rfl) (fun _ _ _ h => h) (by rfl) ?hyj15n7 hHeld1 ?restj15n7
     case hyj15n7 =>
      intro W hSw
      go_simp
      (try with_reducible rfl)
     try simp only [Act.put, List.setIfInBounds_toArray, List.set_cons_zero, List.set_cons_succ]
     refine takeJ1 (i := 7) (dst := (some 98)) (v := .int .i64 0) rfl rfl (by kernel_rfl) (by kernel_rfl) (by kernel_rfl) (by kernel_rfl) (fun _ _ _ h => h) (by rfl) ?hyj15n8 hHeld1 ?restj15n8
     case hyj15n8 =>
      intro W hSw
      go_simp
      (try with_reducible rfl)
     try simp only [Act.put, List.setIfInBounds_toArray, List.set_cons_zero, List.set_cons_succ]
     refine takeJ1 (i := 8) (dst := (some 99)) (v := .pointer (some ⟨gd, k, none⟩)) rfl rfl (by kernel_rfl) (by kernel_rfl) (by kernel_rfl) (by kernel_rfl) (fun _ _ _ h => h) (by rfl) ?hyj15n9 hHeld1 ?restj15n9
     case hyj15n9 =>
      intro W hSw
      have g1 := HLK.out
      have g2 : (k : Int) < (X : Int) := by omega
      go_simp
      (try with_reducible rfl)
     try simp only [Act.put, List.setIfInBounds_toArray, List.set_cons_zero, List.set_cons_succ]
     refine readyJ (rs := [9]) (by kernel_rfl) (by simp) (AllJ.cons rfl ?j15o10 AllJ.nil)
     case j15o10 =>
      intro K hK
      obtain ⟨rk, rf⟩ := FE.rc 3 k rfl HGD.out
      go_simp
      have G2 := FE.put 3 k rfl (.int .i64 v9)
      simp only [List.set_cons_zero, List.set_cons_succ] at G2
      clear rk rf
      refine hK.out _ _ (fun _ => trivial) ⟨G2.c 4 1 rfl rfl, G2.c 10 0 rfl rfl, G2.c 10 1 rfl rfl⟩ (fun hHeld hHeld1 => ?_)
      clear hK K
      try simp only [Act.put, List.setIfInBounds_toArray, List.set_cons_zero, List.set_cons_succ]
      refine takeJ1 (i := 10) (dst := (some 12)) (v := .int .i64 0) rfl rfl (by kernel_rfl) (by kernel_rfl) (by kernel_rfl) (by kernel_rfl) (fun _ _ _ h => h) (by rfl) ?hyj15n11 hHeld1 ?restj15n11
      case hyj15n11 =>
       intro W hSw
       go_simp
       (try with_reducible rfl)
      try simp only [Act.put, List.setIfInBounds_toArray, List.set_cons_zero, List.set_cons_succ]
      refine doneJ (by kernel_rfl) ?_
      (try dsimp only)
      have G4 := Lib.hid (G2.less (.cons_cons _ (.cons_cons _ (.cons_cons _ (.cons_cons _ (.cons_cons _ (.cons_cons _ (.cons_cons _ (.cons_cons _ (.cons_cons _ (.cons_cons _ (.cons _ .slnil))))))))))) (.refl _) (.refl _) (.refl _))
      rw [HSD.out] at G4
      clear G2 FE hHeld hHeld1
      go_wp2
      have h8 := HP2.out.2.2.2
      go_roundw
      case rel => exact ⟨k + 1, HLK.out, by first | go_num | (rw [IntWalk.wrap64_in _ (by omega)]; rfl), G4⟩
      case measure => (have h9 := HLK.out; rw [IntWalk.wrap64_in _ (by omega)]; simp only [intOf]; omega)
   ·obtain rfl : k = X := by omega
    have c4_0 := FZ.out.c 4 0 rfl rfl
    have c4_1 := FZ.out.c 4 1 rfl rfl
    have e2_0 := FZ.out.c 2 0 rfl rfl
    have e2_1 := FZ.out.c 2 1 rfl rfl
    have ef2_0 := FZ.out.f 2 0 rfl rfl
    have ef2_1 := FZ.out.f 2 1 rfl rfl
    go_wp2
    have FU := FZ.out
    rw [upto_all] at FU
    have FX := FU.set 2 rfl (by simp) [.slice as_ xs.length cs_, .slice (some ⟨gd, 0, none⟩) k dd] rfl
    simp only [setL, Nat.reduceAdd, List.set_cons_zero, List.set_cons_succ] at FX
    show LeavesInM Fence.wide 20 Try.prog Try.f16 _ (RetTF _ _ _ _) (mkD [D]) .returning _
    refine leaves_marks (by simp) _ _ FX (fun w9 F10 => ?_)
    have y0 := F10.c 2 0 rfl rfl
    have y1 := F10.c 2 1 rfl rfl
    refine ⟨.tuple #[.agg #[.slice as_ xs.length cs_, .slice (some ⟨gd, 0, none⟩) k dd], .int .i64 0], ?_, ?_⟩
    ·rw [results_ctZ rfl]
     go_simp
    ·skip
     rw [HAFe.out]
     refine ⟨as_, cs_, some ⟨gd, 0, none⟩, dd, by simp, ?_⟩
     have h9 := (F10.rows).less (.refl _) (.refl _) (.cons _ (.cons _ (.refl _))) (.refl _)
     simp only [List.length_map, List.length_range] at h9 ⊢
     exact h9
end Go.Proofs.Ytadlnmckcnfacaa
