import Derived.Test.YtadlnmckcnfacaaGreatVCxT
import Derived.Test.YtadlnmckcnfacaaGreatVCxN
set_option linter.unusedVariables false
set_option linter.unusedSimpArgs false
namespace Go.Proofs.YtadlnmckcnfacaaGreat
open Go.RowKit Go.Rt
attribute [local go_sem] Oper.semAt_some
theorem FrL.rc {lo : Nat} {w wr : World} {B : List (Nat × List Value)} {I : List (IntKind × Option Addr × List Int)} {O : List Row} {e : TypeId} {size g n cap : Nat} {xs : List Value} {u : Value} (h : FrL lo w wr B I O e size (.slice (some ⟨g, 0, none⟩) n cap) n xs) (j : Nat) (hj : xs[j]? = some u) : wr.cell? ⟨g, j, none⟩ = some u := by
 have hl : j < n * size := by rw [← h.own.1]; exact (List.getElem?_eq_some_iff.1 hj).1
 exact (World.ownsRow.cellAt h.own j hl).trans hj
theorem ownS_shape {w : World} {base size : Nat} {e : TypeId} {v : Value} {n : Nat} {xs : List Value} (h : w.ownsRow base e size v n xs) : ∃ a c, v = .slice a n c ∧ (n = 0 ∨ ∃ g, a = some ⟨g, 0, none⟩) := by
 rcases h.2 with ⟨rfl, rfl⟩ | ⟨g, cap, cur, rfl, _⟩
 ·exact ⟨none, 0, rfl, .inl rfl⟩
 ·exact ⟨some ⟨g, 0, none⟩, cap, rfl, .inr ⟨g, rfl⟩⟩
theorem lw38 {α : Type} {l0 : List α} (h0 : l0.length = 38) : ∃ x0 x1 x2 x3 x4 x5 x6 x7 x8 x9 x10 x11 x12 x13 x14 x15 x16 x17 x18 x19 x20 x21 x22 x23 x24 x25 x26 x27 x28 x29 x30 x31 x32 x33 x34 x35 x36 x37, l0 = [x0, x1, x2, x3, x4, x5, x6, x7, x8, x9, x10, x11, x12, x13, x14, x15, x16, x17, x18, x19, x20, x21, x22, x23, x24, x25, x26, x27, x28, x29, x30, x31, x32, x33, x34, x35, x36, x37] := by
 obtain ⟨x0, l1, rfl, h1⟩ := lwC h0
 obtain ⟨x1, l2, rfl, h2⟩ := lwC h1
 obtain ⟨x2, l3, rfl, h3⟩ := lwC h2
 obtain ⟨x3, l4, rfl, h4⟩ := lwC h3
 obtain ⟨x4, l5, rfl, h5⟩ := lwC h4
 obtain ⟨x5, l6, rfl, h6⟩ := lwC h5
 obtain ⟨x6, l7, rfl, h7⟩ := lwC h6
 obtain ⟨x7, l8, rfl, h8⟩ := lwC h7
 obtain ⟨x8, l9, rfl, h9⟩ := lwC h8
 obtain ⟨x9, l10, rfl, h10⟩ := lwC h9
 obtain ⟨x10, l11, rfl, h11⟩ := lwC h10
 obtain ⟨x11, l12, rfl, h12⟩ := lwC h11
 obtain ⟨x12, l13, rfl, h13⟩ := lwC h12
 obtain ⟨x13, l14, rfl, h14⟩ := lwC h13
 obtain ⟨x14, l15, rfl, h15⟩ := lwC h14
 obtain ⟨x15, l16, rfl, h16⟩ := lwC h15
 obtain ⟨x16, l17, rfl, h17⟩ := lwC h16
 obtain ⟨x17, l18, rfl, h18⟩ := lwC h17
 obtain ⟨x18, l19, rfl, h19⟩ := lwC h18
 obtain ⟨x19, l20, rfl, h20⟩ := lwC h19
 obtain ⟨x20, l21, rfl, h21⟩ := lwC h20
 obtain ⟨x21, l22, rfl, h22⟩ := lwC h21
 obtain ⟨x22, l23, rfl, h23⟩ := lwC h22
 obtain ⟨x23, l24, rfl, h24⟩ := lwC h23
 obtain ⟨x24, l25, rfl, h25⟩ := lwC h24
 obtain ⟨x25, l26, rfl, h26⟩ := lwC h25
 obtain ⟨x26, l27, rfl, h27⟩ := lwC h26
 obtain ⟨x27, l28, rfl, h28⟩ := lwC h27
 obtain ⟨x28, l29, rfl, h29⟩ := lwC h28
 obtain ⟨x29, l30, rfl, h30⟩ := lwC h29
 obtain ⟨x30, l31, rfl, h31⟩ := lwC h30
 obtain ⟨x31, l32, rfl, h32⟩ := lwC h31
 obtain ⟨x32, l33, rfl, h33⟩ := lwC h32
 obtain ⟨x33, l34, rfl, h34⟩ := lwC h33
 obtain ⟨x34, l35, rfl, h35⟩ := lwC h34
 obtain ⟨x35, l36, rfl, h36⟩ := lwC h35
 obtain ⟨x36, l37, rfl, h37⟩ := lwC h36
 obtain ⟨x37, l38, rfl, h38⟩ := lwC h37
 obtain rfl := List.length_eq_zero_iff.1 h38
 exact ⟨x0, x1, x2, x3, x4, x5, x6, x7, x8, x9, x10, x11, x12, x13, x14, x15, x16, x17, x18, x19, x20, x21, x22, x23, x24, x25, x26, x27, x28, x29, x30, x31, x32, x33, x34, x35, x36, x37, rfl⟩
set_option maxRecDepth 100000 in
set_option maxHeartbeats 8000000 in
theorem rconv_bad (a b a2 b2 aQ aS aP aD : Option Addr) (c d c2 dw qn cQ cS cP cD : Nat) (xs ys ws vs Q : List Int) (wv : WinV) (fn : Nat) (w : World) (H0 : Hid (Ints .i64 w w.heap.size a xs)) (H1 : Hid (Ints .i64 w w.heap.size b ys)) (H2 : Hid (Ints .i64 w w.heap.size a2 ws)) (H3 : Hid (Ints .i64 w w.heap.size b2 vs)) (H4 : Hid (Ints .i64 w w.heap.size aS wv.S)) (H5 : Hid (Ints .i64 w w.heap.size aP wv.P)) (H6 : Hid (Ints .i64 w w.heap.size aD wv.D)) (hL : wv.L = xs.drop 2) (hK : wv.K = ws.drop 2) (hc3 : ws.length ≤ c2) (hc4 : c2 ≤ 9223372036854775807) (hff : formZ xs ys ws vs Q wv (fn : Int) = true) (hz : coutZ xs ws wv ≠ 0) :
  Calls Tryz.prog 8 #[.agg #[.slice a xs.length c, .slice b ys.length d], .agg #[.slice a2 ws.length c2, .slice b2 vs.length dw], .agg #[.slice aQ qn cQ, .slice aS wv.S.length cS, .slice aP wv.P.length cP, .slice aD wv.D.length cD], .int .i64 (fn : Int)] w (RetTF w [] [] (coutZ xs ws wv)) := by
 obtain ⟨⟨⟨tx, tw⟩, hf2⟩, hnum⟩ : ((tenB xs ys = true ∧ tenB ws vs = true) ∧ (8 ≤ (fn : Int) ∧ (fn : Int) ≤ 32)) ∧ numB false Q wv.S wv.P wv.D = true := by
  have h9 := hff
  simp only [formZ, Bool.and_eq_true, decide_eq_true_eq] at h9
  exact h9
 have hsh := fun W h h2 hS hP hD => rshape_all a a2 aQ aS aP aD c c2 qn cQ cS cP cD xs ws Q wv W h h2 hS hP hD hnum hL hK (tenB_iff.1 tx).1 (tenB_iff.1 tw).1 hc3 hc4
 obtain ⟨z, hzz⟩ : ∃ z, coutZ xs ws wv = z := ⟨_, rfl⟩
 rw [hzz] at hsh hz ⊢
 rw [zL_ne _ hz] at hsh
 have HSH := Lib.hid hsh
 have hzb : (z != 0) = true := by simp [hz]
 clear hsh hff tx tw hf2 hnum hL hK hc3 hc4 hzz
 go_enter Tryz.func8, Tryz.ntmps8
 have F1 := Lib.hid (((((Fr.start (w := w) (I := [(.i64, a, xs), (.i64, b, ys), (.i64, a2, ws), (.i64, b2, vs), (.i64, aS, wv.S), (.i64, aP, wv.P), (.i64, aD, wv.D)]) (by intro z hz; simp at hz; rcases hz with rfl | rfl | rfl | rfl | rfl | rfl | rfl; exact H0.out; exact H1.out; exact H2.out; exact H3.out; exact H4.out; exact H5.out; exact H6.out)).box1 (b := w.heap.size) (by simp) [.slice a xs.length c, .slice b ys.length d] 26).box1 (b := w.heap.size + 1) (by simp) [.slice a2 ws.length c2, .slice b2 vs.length dw] 26).box1 (b := w.heap.size + 1 + 1) (by simp) [.slice aQ qn cQ, .slice aS wv.S.length cS, .slice aP wv.P.length cP, .slice aD wv.D.length cD] 28).box1 (b := w.heap.size + 1 + 1 + 1) (by simp) [.slice none 0 0, .slice none 0 0] 26)
 simp only [List.nil_append, List.cons_append] at F1
 go_upto_region 1 with fail
 obtain ⟨W1, hW1⟩ : ∃ W1, ((((w.alloc (.cells #[.slice a xs.length c, .slice b ys.length d] 26)).alloc (.cells #[.slice a2 ws.length c2, .slice b2 vs.length dw] 26)).alloc (.cells #[.slice aQ qn cQ, .slice aS wv.S.length cS, .slice aP wv.P.length cP, .slice aD wv.D.length cD] 28)).alloc (.cells #[.slice none 0 0, .slice none 0 0] 26)) = W1 := ⟨_, rfl⟩
 rw [hW1] at F1 ⊢
 clear hW1
 have c0_0 := F1.out.c 0 0 rfl rfl
 have c0_1 := F1.out.c 0 1 rfl rfl
 have c1_0 := F1.out.c 1 0 rfl rfl
 have c1_1 := F1.out.c 1 1 rfl rfl
 have c2_0 := F1.out.c 2 0 rfl rfl
 have c2_1 := F1.out.c 2 1 rfl rfl
 have c2_2 := F1.out.c 2 2 rfl rfl
 have c2_3 := F1.out.c 2 3 rfl rfl
 go_upto_region 2 with (first | (go_at_call 22; refine (HSH.out _ (F1.out.lw 0 rfl) (F1.out.lw 2 rfl) (F1.out.lw 4 rfl) (F1.out.lw 5 rfl) (F1.out.lw 6 rfl)).mono ?_; rintro e w2 ⟨as_, cs_, rfl, hf⟩; have F2 := Lib.hid (F1.out.join hf); simp only [List.nil_append] at F2; clear hf F1 c0_0 c0_1 c1_0 c1_1 c2_0 c2_1 c2_2 c2_3) | fail)
 have k0 := F2.out.c 3 0 rfl rfl
 have k1 := F2.out.c 3 1 rfl rfl
 have f0 := F2.out.f 3 0 rfl rfl
 have f1 := F2.out.f 3 1 rfl rfl
 go_wp2
 have FZ := F2.out.set 3 rfl (by simp) [.slice none 0 0, .slice none 0 0] rfl
 simp only [setL, Nat.reduceAdd, List.set_cons_zero, List.set_cons_succ] at FZ
 have y0 := FZ.c 3 0 rfl rfl
 have y1 := FZ.c 3 1 rfl rfl
 refine bodyPost_ret (v := .tuple #[.agg #[.slice none 0 0, .slice none 0 0], .int .i64 z]) ?_ rfl (retTF_none (FZ.less (.refl _) (.refl _) (List.nil_sublist _) (List.nil_sublist _)))
 rw [results_ctZ rfl]
 go_simp
set_option maxRecDepth 100000 in
set_option maxHeartbeats 8000000 in
theorem rconv_ok (a b a2 b2 aQ aS aP aD : Option Addr) (c d c2 dw qn cQ cS cP cD : Nat) (xs ys ws vs Q : List Int) (wv : WinV) (fn : Nat) (w : World) (H0 : Hid (Ints .i64 w w.heap.size a xs)) (H1 : Hid (Ints .i64 w w.heap.size b ys)) (H2 : Hid (Ints .i64 w w.heap.size a2 ws)) (H3 : Hid (Ints .i64 w w.heap.size b2 vs)) (H4 : Hid (Ints .i64 w w.heap.size aS wv.S)) (H5 : Hid (Ints .i64 w w.heap.size aP wv.P)) (H6 : Hid (Ints .i64 w w.heap.size aD wv.D)) (hL : wv.L = xs.drop 2) (hK : wv.K = ws.drop 2) (hc3 : ws.length ≤ c2) (hc4 : c2 ≤ 9223372036854775807) (hff : formZ xs ys ws vs Q wv (fn : Int) = true) (hz : coutZ xs ws wv = 0) :
  Calls Tryz.prog 8 #[.agg #[.slice a xs.length c, .slice b ys.length d], .agg #[.slice a2 ws.length c2, .slice b2 vs.length dw], .agg #[.slice aQ qn cQ, .slice aS wv.S.length cS, .slice aP wv.P.length cP, .slice aD wv.D.length cD], .int .i64 (fn : Int)] w (RetTF w (zL (cvZ xs ys ws vs Q wv (fn : Int)) (coS xs ws wv)) (zL (cvZ xs ys ws vs Q wv (fn : Int)) ((List.range (cvN xs ws wv)).map (cvW xs ys ws vs wv fn))) (cvZ xs ys ws vs Q wv (fn : Int))) := by
 obtain ⟨⟨⟨tx, tw⟩, hf2⟩, hnum⟩ : ((tenB xs ys = true ∧ tenB ws vs = true) ∧ (8 ≤ (fn : Int) ∧ (fn : Int) ≤ 32)) ∧ numB false Q wv.S wv.P wv.D = true := by
  have h9 := hff
  simp only [formZ, Bool.and_eq_true, decide_eq_true_eq] at h9
  exact h9
 have hsh := fun W h h2 hS hP hD => rshape_all a a2 aQ aS aP aD c c2 qn cQ cS cP cD xs ws Q wv W h h2 hS hP hD hnum hL hK (tenB_iff.1 tx).1 (tenB_iff.1 tw).1 hc3 hc4
 obtain ⟨_, R, K⟩ := conv_ok hL hK hff hz
 have hcv : cvZ xs ys ws vs Q wv (fn : Int) = if allW xs ys ws vs wv fn = true then 0 else 3 := by unfold cvZ; rw [if_pos hff, if_pos hz, Int.toNat_natCast]
 rw [hz, zL_0] at hsh
 obtain ⟨N, M, T, C, o, NN, hNN, hgg, K⟩ : ∃ N M T C o NN, cvN xs ws wv = NN ∧ (∀ n, cvW xs ys ws vs wv fn n = shI (cvSum wv ys vs C M T (n % N) (n / N / o) (n / N % o) T) fn) ∧ ConvOK xs ys ws vs wv N M T C o R NN := ⟨_, _, _, _, _, _, rfl, fun n => rfl, K⟩
 rw [hNN]
 have htp := fun W a3 c3 h h2 h3 hS hP hD => rtaps_ok a a2 a3 aQ aS aP aD c c2 c3 qn cQ cS cP cD xs ys ws vs wv W h h2 h3 hS hP hD K hL hK hc3 hc4
 obtain ⟨G, hG⟩ : ∃ g, cvW xs ys ws vs wv fn = g := ⟨_, rfl⟩
 have hZE : cvZ xs ys ws vs Q wv (fn : Int) = if ((List.range NN).all fun n => isW (G n)) = true then 0 else 3 := by rw [hcv]; unfold allW; rw [hNN, ← hG]
 rw [hG] at hgg ⊢
 obtain ⟨Z, hZZ⟩ : ∃ z, cvZ xs ys ws vs Q wv (fn : Int) = z := ⟨_, rfl⟩
 rw [hZZ] at hZE ⊢
 have hmem := allT_mem (wv := wv) (N := N) (M := M) (T := T) (C := C) (o := o) NN
 have hgs := K.gS
 have hps := K.hNN
 have hct1 : 1 ≤ C * T := Nat.mul_pos K.c1 K.t1
 have hb : ∀ p ∈ allT wv N M T C o NN, p.1 < ys.length ∧ p.2.1 < vs.length ∧ p.2.2 < NN := fun p hp => by
  obtain ⟨x, y, h1, h2, h3, rfl⟩ := hmem p hp
  obtain ⟨f1, f2, f3, f4, f5, f6⟩ := tap_facts K hL hK h1 h2
  exact ⟨(f5 h3).2.1, f4, h1⟩
 have hnnb : NN ≤ 65536 := by have h9 := (goodB_iff.1 hgs).2.2; omega
 have hctb : C * T ≤ 65536 := by have h9 := (goodB_iff.1 (tenB_iff.1 tw).1).2.2; have h8 := (tenB_iff.1 tw).2.1; rw [K.vl] at h8; have h7 := Nat.le_mul_of_pos_left (C * T) K.o1; omega
 have hsum : ∀ j, j < NN → tapS ys vs j (allT wv N M T C o NN) = cvSum wv ys vs C M T (j % N) (j / N / o) (j / N % o) T := fun j hj => taps_sum ys vs wv K.t1 hj
 have hall : (allT wv N M T C o NN).length ≤ 65536 * 65536 := Nat.le_trans (allT_le wv N M T C o NN) (Nat.mul_le_mul hnnb hctb)
 have hcsb : ∀ pl one out, (cvSum wv ys vs C M T pl one out T).natAbs ≤ 65536 * 19807040628566084398385987584 := fun pl one out => sum_bound2 (cvSum_bound (tenB_iff.1 tx).2.2 (tenB_iff.1 tw).2.2 wv C M T pl one out T) hctb
 obtain ⟨S, hSe⟩ : ∃ s, coS xs ws wv = s := ⟨_, rfl⟩
 rw [hSe] at hsh htp hgs hps ⊢
 obtain ⟨TL, hTL⟩ : ∃ l, allT wv N M T C o NN = l := ⟨_, rfl⟩
 rw [hTL] at htp hb hsum hall
 have hcn := fun a9 c9 W (h : Ints .i64 W W.heap.size a9 S) => rcount_any a9 c9 W.heap.size S W h (goodB_dims hgs)
 rw [countE_good hgs, hps] at hcn
 have hwl : ∀ x ∈ S, (Lit.int .i64 x).wf = true := wf_dims (fun x hx => by have := goodB_dims hgs x hx; omega)
 obtain ⟨SM, hSM⟩ : ∃ s : Nat → Nat → Int, s = fun k j => tapS ys vs j (TL.take k) := ⟨_, rfl⟩
 have hSM0 : SM 0 = fun _ => 0 := by rw [hSM]; rfl
 have hSS : ∀ k (hk : k < TL.length), ∀ j, (TL[k].2.2 ≠ j → SM (k + 1) j = SM k j) ∧ (TL[k].2.2 = j → SM (k + 1) j = SM k j + ys[TL[k].1]?.getD 0 * vs[TL[k].2.1]?.getD 0) := fun k hk j => by
  rw [hSM]
  simp only
  rw [tapS_take ys vs j TL k hk]
  refine ⟨fun h => by rw [if_neg h, Int.add_zero], fun h => by rw [if_pos h]⟩
 have hSB : ∀ k j, (SM k j).natAbs ≤ (65536 * 65536) * 19807040628566084398385987584 := fun k j => by
  rw [hSM]
  exact Nat.le_trans (tapS_bound (tenB_iff.1 tx).2.2 (tenB_iff.1 tw).2.2 j (TL.take k)) (Nat.mul_le_mul_right _ (Nat.le_trans (List.length_take_le' _ _) hall))
 have hSE : ∀ j, j < NN → G j = shI (SM TL.length j) fn ∧ (SM TL.length j).natAbs ≤ 65536 * (140737488355328 * 140737488355328) := fun j hj => by
  rw [hSM]
  simp only
  rw [List.take_length, hsum j hj, hgg]
  exact ⟨rfl, hcsb _ _ _⟩
 have hcl := fun k (hk : k < TL.length) => cellsT_get TL k hk
 have hyw := (tenB_iff.1 tx).2.2
 have hvw := (tenB_iff.1 tw).2.2
 have HSH := Lib.hid hsh
 have HTP := Lib.hid htp
 have HZE := Lib.hid hZE
 have HB := Lib.hid hb
 have HCN := Lib.hid hcn
 have HWL := Lib.hid hwl
 have HS0 := Lib.hid hSM0
 have HSS := Lib.hid hSS
 have HSB := Lib.hid hSB
 have HSE := Lib.hid hSE
 have HCL := Lib.hid hcl
 have HYW := Lib.hid hyw
 have HVW := Lib.hid hvw
 have HNB := Lib.hid hnnb
 have HF2 := Lib.hid hf2
 have HALL := Lib.hid hall
 clear hff hz tx tw hf2 hnum hL hK hc3 hc4 hsh htp hZE hb hcn hwl hSM0 hSS hSB hSE hcl hyw hvw hnnb hmem hgs hps hct1 hctb hsum hall hcsb hcv hgg hNN hG hZZ hSe hTL hSM K
 go_enter Tryz.func8, Tryz.ntmps8
 have F1 := Lib.hid (((((Fr.start (w := w) (I := [(.i64, a, xs), (.i64, b, ys), (.i64, a2, ws), (.i64, b2, vs), (.i64, aS, wv.S), (.i64, aP, wv.P), (.i64, aD, wv.D)]) (by intro z hz; simp at hz; rcases hz with rfl | rfl | rfl | rfl | rfl | rfl | rfl; exact H0.out; exact H1.out; exact H2.out; exact H3.out; exact H4.out; exact H5.out; exact H6.out)).box1 (b := w.heap.size) (by simp) [.slice a xs.length c, .slice b ys.length d] 26).box1 (b := w.heap.size + 1) (by simp) [.slice a2 ws.length c2, .slice b2 vs.length dw] 26).box1 (b := w.heap.size + 1 + 1) (by simp) [.slice aQ qn cQ, .slice aS wv.S.length cS, .slice aP wv.P.length cP, .slice aD wv.D.length cD] 28).box1 (b := w.heap.size + 1 + 1 + 1) (by simp) [.slice none 0 0, .slice none 0 0] 26)
 simp only [List.nil_append, List.cons_append] at F1
 go_upto_region 1 with fail
 obtain ⟨W1, hW1⟩ : ∃ W1, ((((w.alloc (.cells #[.slice a xs.length c, .slice b ys.length d] 26)).alloc (.cells #[.slice a2 ws.length c2, .slice b2 vs.length dw] 26)).alloc (.cells #[.slice aQ qn cQ, .slice aS wv.S.length cS, .slice aP wv.P.length cP, .slice aD wv.D.length cD] 28)).alloc (.cells #[.slice none 0 0, .slice none 0 0] 26)) = W1 := ⟨_, rfl⟩
 rw [hW1] at F1 ⊢
 clear hW1
 have c0_0 := F1.out.c 0 0 rfl rfl
 have c0_1 := F1.out.c 0 1 rfl rfl
 have c1_0 := F1.out.c 1 0 rfl rfl
 have c1_1 := F1.out.c 1 1 rfl rfl
 have c2_0 := F1.out.c 2 0 rfl rfl
 have c2_1 := F1.out.c 2 1 rfl rfl
 have c2_2 := F1.out.c 2 2 rfl rfl
 have c2_3 := F1.out.c 2 3 rfl rfl
 go_upto_region 2 with (first | (go_at_call 22; refine (HSH.out _ (F1.out.lw 0 rfl) (F1.out.lw 2 rfl) (F1.out.lw 4 rfl) (F1.out.lw 5 rfl) (F1.out.lw 6 rfl)).mono ?_; rintro e w2 ⟨as_, cs_, rfl, hf⟩; have F3 := Lib.hid (F1.out.join hf); simp only [List.nil_append] at F3; clear hf F1 c0_0 c0_1 c1_0 c1_1 c2_0 c2_1 c2_2 c2_3) | fail)
 obtain ⟨w3, rfl⟩ : ∃ z : World, z = w2 := ⟨_, rfl⟩
 go_upto_region 4 with fail
 obtain ⟨Q9, hQ⟩ : ∃ Q, w3.heap.size = Q := ⟨_, rfl⟩
 have F4 := Lib.hid (F3.out.box1 (b := Q9) hQ (ncells (fun _ => none) (fun _ => 0) (fun _ => 0) NN) 60)
 have e4 : (ncells (fun _ => none) (fun _ => 0) (fun _ => 0) NN).toArray = madeCells (Value.agg #[.bool false, .slice none 0 0]).cells (NN * 2) := by rw [← made_ints]
 rw [e4] at F4
 simp only [List.nil_append, List.cons_append] at F4
 clear e4
 obtain ⟨W4, hW4⟩ : ∃ x, w3.alloc (.cells (madeCells (Value.agg #[.bool false, .slice none 0 0]).cells (NN * 2)) 60) = x := ⟨_, rfl⟩
 rw [hW4] at F4
 have HW4 := Lib.hid hW4
 clear hW4
 go_upto_region 5 with (first | (go_at_call 19; refine (HCN.out as_ cs_ _ (F3.out.li 0 (k := .i64) (xs := S) rfl HWL.out)).mono ?_; rintro e w' ⟨rfl, rfl⟩) | (at_make; (refine wpl_makeD 54 60 (.agg #[.bool false, .slice none 0 0]) 2 32 (by omega) infoZ Tryz.underlying54 NN _ _ _ _ rfl rfl rfl rfl rfl rfl (Nat.le_trans HNB.out (by decide)) ?_); rw [HW4.out, hQ]) | fail)
 clear F3 HW4 hQ
 have F5 : Hid (Fr w.heap.size w W4 [(w.heap.size, [.slice a xs.length c, .slice b ys.length d]), (w.heap.size + 1, [.slice a2 ws.length c2, .slice b2 vs.length dw]), (w.heap.size + 1 + 1, [.slice aQ qn cQ, .slice aS wv.S.length cS, .slice aP wv.P.length cP, .slice aD wv.D.length cD]), (w.heap.size + 1 + 1 + 1, [.slice none 0 0, .slice none 0 0]), (Q9, ncells (fun _ => none) (fun _ => 0) (SM 0) NN)] [(.i64, a, xs), (.i64, b, ys), (.i64, a2, ws), (.i64, b2, vs), (.i64, aS, wv.S), (.i64, aP, wv.P), (.i64, aD, wv.D)] [⟨3, .slice as_ S.length cs_, S.length, S.map (Value.int .i64)⟩] []) := Lib.hid (by rw [HS0.out]; exact F4.out)
 clear F4
 have c0_0 := F5.out.c 0 0 rfl rfl
 have c0_1 := F5.out.c 0 1 rfl rfl
 have c1_0 := F5.out.c 1 0 rfl rfl
 have c1_1 := F5.out.c 1 1 rfl rfl
 have c2_0 := F5.out.c 2 0 rfl rfl
 have c2_1 := F5.out.c 2 1 rfl rfl
 have c2_2 := F5.out.c 2 2 rfl rfl
 have c2_3 := F5.out.c 2 3 rfl rfl
 go_upto_region 6 with (first | (go_at_call 23; refine (HTP.out _ as_ cs_ (F5.out.lw 0 rfl) (F5.out.lw 2 rfl) (F5.out.li 0 (k := .i64) (xs := S) rfl HWL.out) (F5.out.lw 4 rfl) (F5.out.lw 5 rfl) (F5.out.lw 6 rfl)).mono ?_; rintro e w6 ⟨v6, rfl, hown, hb⟩; obtain ⟨at_, ct, rfl, hsh⟩ := ownS_shape hown; have F6 := Lib.hid (FrL.of F5.out hb hown); clear hown hb F5 c0_0 c0_1 c1_0 c1_1 c2_0 c2_1 c2_2 c2_3) | fail)
 have HSH2 := Lib.hid hsh
 have HN6 : Hid (∀ j, j < NN → NAt w6 w6.heap.size ((fun _ => none : Nat → Option Addr) j) ((fun _ => 0 : Nat → Nat) j) (SM 0 j).natAbs) := Lib.hid (by rw [HS0.out]; intro j _; exact nat_none _)
 clear hsh
 go_wp2
 go_loopw [14] (fun s14 wr => ∃ (k : Nat) (A : Nat → Option Addr) (C9 : Nat → Nat), k ≤ TL.length ∧ s14 = .int .i64 k ∧ Hid (∀ j, j < NN → NAt wr wr.heap.size (A j) (C9 j) (SM k j).natAbs) ∧ Hid (FrL w.heap.size w wr [(w.heap.size, [.slice a xs.length c, .slice b ys.length d]), (w.heap.size + 1, [.slice a2 ws.length c2, .slice b2 vs.length dw]), (w.heap.size + 1 + 1, [.slice aQ qn cQ, .slice aS wv.S.length cS, .slice aP wv.P.length cP, .slice aD wv.D.length cD]), (w.heap.size + 1 + 1 + 1, [.slice none 0 0, .slice none 0 0]), (Q9, ncells A C9 (SM k) NN)] [(.i64, a, xs), (.i64, b, ys), (.i64, a2, ws), (.i64, b2, vs), (.i64, aS, wv.S), (.i64, aP, wv.P), (.i64, aD, wv.D)] [⟨3, .slice as_ S.length cs_, S.length, S.map (Value.int .i64)⟩] 63 3 (.slice at_ TL.length ct) TL.length (cellsT TL))) (fun s14 _ => TL.length - (intOf s14).toNat)
 case atStart => exact ⟨0, _, _, Nat.zero_le _, rfl, HN6, F6⟩
 case round =>
  obtain ⟨k, A, C9, hk, rfl, HNA, F8⟩ := hrel
  clear F6 HN6
  obtain ⟨wi, rfl⟩ : ∃ x : World, x = wr := ⟨_, rfl⟩
  by_cases hlk : k < TL.length
  ·skip
   have hki : (k : Int) < (TL.length : Int) := by omega
   go_upto_region 9 with fail
   obtain ⟨gT, rfl⟩ := HSH2.out.resolve_left (by omega)
   obtain ⟨q1, q2, q3⟩ := HCL.out k hlk
   obtain ⟨b1, b2_, b3⟩ := HB.out _ (List.getElem_mem hlk)
   have hss := HSS.out k hlk
   obtain ⟨X9, hX⟩ : ∃ z, TL[k].1 = z := ⟨_, rfl⟩
   obtain ⟨K9, hK⟩ : ∃ z, TL[k].2.1 = z := ⟨_, rfl⟩
   obtain ⟨g, hg⟩ : ∃ z, TL[k].2.2 = z := ⟨_, rfl⟩
   rw [hX] at q1 b1 hss
   rw [hK] at q2 b2_ hss
   rw [hg] at q3 b3 hss
   obtain ⟨gy, oy, rfl, hly, hcy⟩ := (F8.out.fr.l 1 rfl).cell X9 b1
   obtain ⟨gv, ov, rfl, hlv, hcw⟩ := (F8.out.fr.l 3 rfl).cell K9 b2_
   obtain ⟨x, hx⟩ : ∃ x, ys[X9]?.getD 0 = x := ⟨_, rfl⟩
   obtain ⟨y, hy⟩ : ∃ x, vs[K9]?.getD 0 = x := ⟨_, rfl⟩
   rw [hx] at hcy
   rw [hy] at hcw
   rw [hx, hy] at hss
   have hxb := get_word HYW.out X9
   have hyb := get_word HVW.out K9
   rw [hx] at hxb
   rw [hy] at hyb
   have hab : x.natAbs * y.natAbs ≤ 140737488355328 * 140737488355328 := Nat.mul_le_mul (by omega) (by omega)
   rw [← Int.natAbs_mul] at hab
   have hsb := HSB.out k g
   have HF1 := Lib.hid (fun W => zfrom_any x W (by omega) (by omega))
   have HFB := Lib.hid (fun W => zfrom_any y W (by omega) (by omega))
   have HT3 := Lib.hid (fun p q c d W h h2 => ztimes_any p q c d x y W h h2 (dig_word (by omega)) (dig_word (by omega)))
   have HP4 := Lib.hid (fun p q c d W h h2 => zplus_any p q c d (SM k g) (x * y) (SM (k + 1) g) W h h2 (dig_word (by omega)) (dig_word (by omega)) ((hss g).2 rfl).symm)
   obtain ⟨XY, hXY⟩ : ∃ z, x * y = z := ⟨_, rfl⟩
   rw [hXY] at HT3 HP4
   have HSK := Lib.hid (fun j (h : g ≠ j) => (hss j).1 h)
   have HCX := Lib.hid hcy
   have HCY := Lib.hid hcw
   have HNG := Lib.hid (HNA.out g b3)
   have HNQ := Lib.hid (ncells_neg A C9 (SM k) NN g b3)
   have HMQ := Lib.hid (ncells_mag A C9 (SM k) NN g b3)
   have HQ1 := Lib.hid q1
   have HQ2 := Lib.hid q2
   have HQ3 := Lib.hid q3
   have hxi : (X9 : Int) < (ys.length : Int) := by omega
   have hvi : (K9 : Int) < (vs.length : Int) := by omega
   have hgi : (g : Int) < (NN : Int) := by omega
   clear q1 q2 q3 hss hX hK hg hcy hcw hx hy hxb hyb hab hsb hXY
   refine wp_region_parts2 (w := wi) 37 1 none [] [(fun u _ => u = .slice (some ⟨Q9, 0, none⟩) NN NN), (fun u _ => u = .slice (some ⟨gT, 0, none⟩) TL.length ct), (fun u _ => u = .int .i64 (k : Int)), (fun u _ => u = .pointer (some ⟨gT, k * 3, none⟩)), (fun u _ => u = .pointer (some ⟨gT, k * 3 + 2, none⟩)), (fun u _ => u = .int .i64 (g : Int)), (fun u _ => u = .slice (some ⟨Q9, 0, none⟩) NN NN), (fun u _ => u = .slice (some ⟨gT, 0, none⟩) TL.length ct), (fun u _ => u = .int .i64 (k : Int)), (fun u _ => u = .pointer (some ⟨gT, k * 3, none⟩)), (fun u _ => u = .pointer (some ⟨gT, k * 3 + 2, none⟩)), (fun u _ => u = .int .i64 (g : Int)), (fun u _ => u = .pointer (some ⟨Q9, g * 2, none⟩)), (fun u _ => u = .agg #[.bool (decide (SM k g < 0)), .slice (A g) (dig 18446744073709551616 (SM k g).natAbs).length (C9 g)]), (fun u _ => u = .pointer (some ⟨w.heap.size, 1, none⟩)), (fun u _ => u = .slice (some ⟨gy, oy, none⟩) ys.length d), (fun u _ => u = .slice (some ⟨gT, 0, none⟩) TL.length ct), (fun u _ => u = .int .i64 (k : Int)), (fun u _ => u = .pointer (some ⟨gT, k * 3, none⟩)), (fun u _ => u = .pointer (some ⟨gT, k * 3, none⟩)), (fun u _ => u = .int .i64 (X9 : Int)), (fun u _ => u = .pointer (some ⟨gy, oy + X9, none⟩)), (fun u _ => u = .int .i64 x), ((IsZ x)), (fun u _ => u = .pointer (some ⟨w.heap.size + 1, 1, none⟩)), (fun u _ => u = .slice (some ⟨gv, ov, none⟩) vs.length dw), (fun u _ => u = .slice (some ⟨gT, 0, none⟩) TL.length ct), (fun u _ => u = .int .i64 (k : Int)), (fun u _ => u = .pointer (some ⟨gT, k * 3, none⟩)), (fun u _ => u = .pointer (some ⟨gT, k * 3 + 1, none⟩)), (fun u _ => u = .int .i64 (K9 : Int)), (fun u _ => u = .pointer (some ⟨gv, ov + K9, none⟩)), (fun u _ => u = .int .i64 y), ((IsZ y)), ((IsZ XY)), ((IsZ (SM (k + 1) g))), (fun u _ => u = .pointer (some ⟨Q9, g * 2, none⟩))] [some 48, some 49, some 50, some 51, some 52, some 53, some 54, some 55, some 56, some 57, some 58, some 59, some 60, some 61, some 62, some 63, some 64, some 65, some 66, some 67, some 68, some 69, some 70, some 71, some 72, some 73, some 74, some 75, some 76, some 77, some 78, some 79, some 80, some 81, some 82, some 83, some 84, none] #[true, true, true, true, true, true, true, true, true, true, true, true, true, true, true, true, true, true, true, true, true, true, true, true, true, true, true, true, true, true, true, true, true, true, true, true, true, false] #[true, true, true, true, true, true, true, true, true, true, true, true, true, true, true, true, true, true, true, true, true, true, true, true, true, true, true, true, true, true, true, true, true, true, true, true, true, false] (by kernel_rfl) rfl (by kernel_rfl) (by kernel_rfl) rfl (by kernel_rfl) (by kernel_rfl) (.cons (carries_eq _) (.cons (carries_eq _) (.cons (carries_eq _) (.cons (carries_eq _) (.cons (carries_eq _) (.cons (carries_eq _) (.cons (carries_eq _) (.cons (carries_eq _) (.cons (carries_eq _) (.cons (carries_eq _) (.cons (carries_eq _) (.cons (carries_eq _) (.cons (carries_eq _) (.cons (carries_eq _) (.cons (carries_eq _) (.cons (carries_eq _) (.cons (carries_eq _) (.cons (carries_eq _) (.cons (carries_eq _) (.cons (carries_eq _) (.cons (carries_eq _) (.cons (carries_eq _) (.cons (carries_eq _) (.cons (isZ_carries _) (.cons (carries_eq _) (.cons (carries_eq _) (.cons (carries_eq _) (.cons (carries_eq _) (.cons (carries_eq _) (.cons (carries_eq _) (.cons (carries_eq _) (.cons (carries_eq _) (.cons (carries_eq _) (.cons (isZ_carries _) (.cons (isZ_carries _) (.cons (isZ_carries _) (.cons (carries_eq _) .nil))))))))))))))))))))))))))))))))))))) (fun vs b hvl hvb => ?_)
   obtain ⟨x0, x1, x2, x3, x4, x5, x6, x7, x8, x9, x10, x11, x12, x13, x14, x15, x16, x17, x18, x19, x20, x21, x22, x23, x24, x25, x26, x27, x28, x29, x30, x31, x32, x33, x34, x35, x36, x37, rfl⟩ : ∃ x0 x1 x2 x3 x4 x5 x6 x7 x8 x9 x10 x11 x12 x13 x14 x15 x16 x17 x18 x19 x20 x21 x22 x23 x24 x25 x26 x27 x28 x29 x30 x31 x32 x33 x34 x35 x36 x37, vs = [x0, x1, x2, x3, x4, x5, x6, x7, x8, x9, x10, x11, x12, x13, x14, x15, x16, x17, x18, x19, x20, x21, x22, x23, x24, x25, x26, x27, x28, x29, x30, x31, x32, x33, x34, x35, x36, x37] := lw38 hvl
   clear hvl
   simp only [putAll, Act.put, List.setIfInBounds_toArray, List.set_cons_zero, List.set_cons_succ] at hvb
   subst hvb
   refine ⟨(.snoc (.snoc (.snoc (.snoc (.snoc (.snoc (.snoc (.snoc (.snoc (.snoc (.snoc (.snoc (.snoc (.snoc (.snoc (.snoc (.snoc (.snoc (.snoc (.snoc (.snoc (.snoc (.snoc (.snoc (.snoc (.snoc (.snoc (.snoc (.snoc (.snoc (.snoc (.snoc (.snoc (.snoc (.snoc (.snoc (.snoc .zero (PartOb.intro (d := (some 48)) (r := fun u _ => u = .slice (some ⟨Q9, 0, none⟩) NN NN) rfl rfl rfl rfl ?po9x0)) (PartOb.intro (d := (some 49)) (r := fun u _ => u = .slice (some ⟨gT, 0, none⟩) TL.length ct) rfl rfl rfl rfl ?po9x1)) (PartOb.intro (d := (some 50)) (r := fun u _ => u = .int .i64 (k : Int)) rfl rfl rfl rfl ?po9x2)) (PartOb.intro (d := (some 51)) (r := fun u _ => u = .pointer (some ⟨gT, k * 3, none⟩)) rfl rfl rfl rfl ?po9x3)) (PartOb.intro (d := (some 52)) (r := fun u _ => u = .pointer (some ⟨gT, k * 3 + 2, none⟩)) rfl rfl rfl rfl ?po9x4)) (PartOb.intro (d := (some 53)) (r := fun u _ => u = .int .i64 (g : Int)) rfl rfl rfl rfl ?po9x5)) (PartOb.intro (d := (some 54)) (r := fun u _ => u = .slice (some ⟨Q9, 0, none⟩) NN NN) rfl rfl rfl rfl ?po9x6)) (PartOb.intro (d := (some 55)) (r := fun u _ => u = .slice (some ⟨gT, 0, none⟩) TL.length ct) rfl rfl rfl rfl ?po9x7)) (PartOb.intro (d := (some 56)) (r := fun u _ => u = .int .i64 (k : Int)) rfl rfl rfl rfl ?po9x8)) (PartOb.intro (d := (some 57)) (r := fun u _ => u = .pointer (some ⟨gT, k * 3, none⟩)) rfl rfl rfl rfl ?po9x9)) (PartOb.intro (d := (some 58)) (r := fun u _ => u = .pointer (some ⟨gT, k * 3 + 2, none⟩)) rfl rfl rfl rfl ?po9x10)) (PartOb.intro (d := (some 59)) (r := fun u _ => u = .int .i64 (g : Int)) rfl rfl rfl rfl ?po9x11)) (PartOb.intro (d := (some 60)) (r := fun u _ => u = .pointer (some ⟨Q9, g * 2, none⟩)) rfl rfl rfl rfl ?po9x12)) (PartOb.intro (d := (some 61)) (r := fun u _ => u = .agg #[.bool (decide (SM k g < 0)), .slice (A g) (dig 18446744073709551616 (SM k g).natAbs).length (C9 g)]) rfl rfl rfl rfl ?po9x13)) (PartOb.intro (d := (some 62)) (r := fun u _ => u = .pointer (some ⟨w.heap.size, 1, none⟩)) rfl rfl rfl rfl ?po9x14)) (PartOb.intro (d := (some 63)) (r := fun u _ => u = .slice (some ⟨gy, oy, none⟩) ys.length d) rfl rfl rfl rfl ?po9x15)) (PartOb.intro (d := (some 64)) (r := fun u _ => u = .slice (some ⟨gT, 0, none⟩) TL.length ct) rfl rfl rfl rfl ?po9x16)) (PartOb.intro (d := (some 65)) (r := fun u _ => u = .int .i64 (k : Int)) rfl rfl rfl rfl ?po9x17)) (PartOb.intro (d := (some 66)) (r := fun u _ => u = .pointer (some ⟨gT, k * 3, none⟩)) rfl rfl rfl rfl ?po9x18)) (PartOb.intro (d := (some 67)) (r := fun u _ => u = .pointer (some ⟨gT, k * 3, none⟩)) rfl rfl rfl rfl ?po9x19)) (PartOb.intro (d := (some 68)) (r := fun u _ => u = .int .i64 (X9 : Int)) rfl rfl rfl rfl ?po9x20)) (PartOb.intro (d := (some 69)) (r := fun u _ => u = .pointer (some ⟨gy, oy + X9, none⟩)) rfl rfl rfl rfl ?po9x21)) (PartOb.intro (d := (some 70)) (r := fun u _ => u = .int .i64 x) rfl rfl rfl rfl ?po9x22)) (PartOb.intro (d := (some 71)) (r := (IsZ x)) rfl rfl rfl rfl ?po9x23)) (PartOb.intro (d := (some 72)) (r := fun u _ => u = .pointer (some ⟨w.heap.size + 1, 1, none⟩)) rfl rfl rfl rfl ?po9x24)) (PartOb.intro (d := (some 73)) (r := fun u _ => u = .slice (some ⟨gv, ov, none⟩) vs.length dw) rfl rfl rfl rfl ?po9x25)) (PartOb.intro (d := (some 74)) (r := fun u _ => u = .slice (some ⟨gT, 0, none⟩) TL.length ct) rfl rfl rfl rfl ?po9x26)) (PartOb.intro (d := (some 75)) (r := fun u _ => u = .int .i64 (k : Int)) rfl rfl rfl rfl ?po9x27)) (PartOb.intro (d := (some 76)) (r := fun u _ => u = .pointer (some ⟨gT, k * 3, none⟩)) rfl rfl rfl rfl ?po9x28)) (PartOb.intro (d := (some 77)) (r := fun u _ => u = .pointer (some ⟨gT, k * 3 + 1, none⟩)) rfl rfl rfl rfl ?po9x29)) (PartOb.intro (d := (some 78)) (r := fun u _ => u = .int .i64 (K9 : Int)) rfl rfl rfl rfl ?po9x30)) (PartOb.intro (d := (some 79)) (r := fun u _ => u = .pointer (some ⟨gv, ov + K9, none⟩)) rfl rfl rfl rfl ?po9x31)) (PartOb.intro (d := (some 80)) (r := fun u _ => u = .int .i64 y) rfl rfl rfl rfl ?po9x32)) (PartOb.intro (d := (some 81)) (r := (IsZ y)) rfl rfl rfl rfl ?po9x33)) (PartOb.intro (d := (some 82)) (r := (IsZ XY)) rfl rfl rfl rfl ?po9x34)) (PartOb.intro (d := (some 83)) (r := (IsZ (SM (k + 1) g))) rfl rfl rfl rfl ?po9x35)) (PartOb.intro (d := (some 84)) (r := fun u _ => u = .pointer (some ⟨Q9, g * 2, none⟩)) rfl rfl rfl rfl ?po9x36)), ?pend9, ?pfl9⟩
   case po9x0 | po9x1 | po9x2 | po9x6 | po9x7 | po9x8 | po9x14 | po9x16 | po9x17 | po9x24 | po9x26 | po9x27 =>
    intro w1 hb1 hd KK hK
    go_simp
    exact hK.out _ _ (Below.refl _ _) rfl
   case po9x3 =>
    intro w1 hb1 hd KK hK
    obtain rfl := hd 1 (by kernel_rfl)
    obtain rfl := hd 2 (by kernel_rfl)
    go_simp
    exact hK.out _ _ (Below.refl _ _) rfl
   case po9x4 =>
    intro w1 hb1 hd KK hK
    obtain rfl := hd 3 (by kernel_rfl)
    go_simp
    exact hK.out _ _ (Below.refl _ _) rfl
   case po9x5 =>
    intro w1 hb1 hd KK hK
    obtain rfl := hd 4 (by kernel_rfl)
    have hF := F8.out.next hb1
    have kx := hF.rc _ HQ3.out
    go_simp
    exact hK.out _ _ (Below.refl _ _) rfl
   case po9x9 =>
    intro w1 hb1 hd KK hK
    obtain rfl := hd 7 (by kernel_rfl)
    obtain rfl := hd 8 (by kernel_rfl)
    go_simp
    exact hK.out _ _ (Below.refl _ _) rfl
   case po9x10 =>
    intro w1 hb1 hd KK hK
    obtain rfl := hd 9 (by kernel_rfl)
    go_simp
    exact hK.out _ _ (Below.refl _ _) rfl
   case po9x11 =>
    intro w1 hb1 hd KK hK
    obtain rfl := hd 10 (by kernel_rfl)
    have hF := F8.out.next hb1
    have kx := hF.rc _ HQ3.out
    go_simp
    exact hK.out _ _ (Below.refl _ _) rfl
   case po9x12 =>
    intro w1 hb1 hd KK hK
    obtain rfl := hd 6 (by kernel_rfl)
    obtain rfl := hd 11 (by kernel_rfl)
    go_simp
    exact hK.out _ _ (Below.refl _ _) rfl
   case po9x13 =>
    intro w1 hb1 hd KK hK
    obtain rfl := hd 12 (by kernel_rfl)
    have hF := F8.out.next hb1
    have k0 := hF.fr.c 4 (g * 2) rfl HNQ.out
    have k1 := hF.fr.c 4 (g * 2 + 1) rfl HMQ.out
    go_simp
    exact hK.out _ _ (Below.refl _ _) rfl
   case po9x15 =>
    intro w1 hb1 hd KK hK
    obtain rfl := hd 14 (by kernel_rfl)
    have hF := F8.out.next hb1
    have k1 := hF.fr.c 0 1 rfl rfl
    go_simp
    exact hK.out _ _ (Below.refl _ _) rfl
   case po9x18 =>
    intro w1 hb1 hd KK hK
    obtain rfl := hd 16 (by kernel_rfl)
    obtain rfl := hd 17 (by kernel_rfl)
    go_simp
    exact hK.out _ _ (Below.refl _ _) rfl
   case po9x19 =>
    intro w1 hb1 hd KK hK
    obtain rfl := hd 18 (by kernel_rfl)
    go_simp
    exact hK.out _ _ (Below.refl _ _) rfl
   case po9x20 =>
    intro w1 hb1 hd KK hK
    obtain rfl := hd 19 (by kernel_rfl)
    have hF := F8.out.next hb1
    have kx := hF.rc _ HQ1.out
    go_simp
    exact hK.out _ _ (Below.refl _ _) rfl
   case po9x21 =>
    intro w1 hb1 hd KK hK
    obtain rfl := hd 15 (by kernel_rfl)
    obtain rfl := hd 20 (by kernel_rfl)
    go_simp
    exact hK.out _ _ (Below.refl _ _) rfl
   case po9x22 =>
    intro w1 hb1 hd KK hK
    obtain rfl := hd 21 (by kernel_rfl)
    have hcx := ((F8.out.next hb1).fr.bel.cell (p := ⟨gy, oy + X9, none⟩) hly).trans ((F8.out.fr.bel.cell (p := ⟨gy, oy + X9, none⟩) hly).symm.trans HCX.out)
    go_simp
    exact hK.out _ _ (Below.refl _ _) rfl
   case po9x23 =>
    intro w1 hb1 hd KK hK
    obtain rfl := hd 22 (by kernel_rfl)
    go_simp
    go_at_call 26
    refine (HF1.out w1).mono ?_
    rintro e w2 ⟨a2z, c2z, rfl, hN2, hb⟩
    (try go_wp2_with fail)
    exact hK.out _ _ hb ⟨a2z, c2z, rfl, hN2⟩
   case po9x25 =>
    intro w1 hb1 hd KK hK
    obtain rfl := hd 24 (by kernel_rfl)
    have hF := F8.out.next hb1
    have k1 := hF.fr.c 1 1 rfl rfl
    go_simp
    exact hK.out _ _ (Below.refl _ _) rfl
   case po9x28 =>
    intro w1 hb1 hd KK hK
    obtain rfl := hd 26 (by kernel_rfl)
    obtain rfl := hd 27 (by kernel_rfl)
    go_simp
    exact hK.out _ _ (Below.refl _ _) rfl
   case po9x29 =>
    intro w1 hb1 hd KK hK
    obtain rfl := hd 28 (by kernel_rfl)
    go_simp
    exact hK.out _ _ (Below.refl _ _) rfl
   case po9x30 =>
    intro w1 hb1 hd KK hK
    obtain rfl := hd 29 (by kernel_rfl)
    have hF := F8.out.next hb1
    have kx := hF.rc _ HQ2.out
    go_simp
    exact hK.out _ _ (Below.refl _ _) rfl
   case po9x31 =>
    intro w1 hb1 hd KK hK
    obtain rfl := hd 25 (by kernel_rfl)
    obtain rfl := hd 30 (by kernel_rfl)
    go_simp
    exact hK.out _ _ (Below.refl _ _) rfl
   case po9x32 =>
    intro w1 hb1 hd KK hK
    obtain rfl := hd 31 (by kernel_rfl)
    have hcx := ((F8.out.next hb1).fr.bel.cell (p := ⟨gv, ov + K9, none⟩) hlv).trans ((F8.out.fr.bel.cell (p := ⟨gv, ov + K9, none⟩) hlv).symm.trans HCY.out)
    go_simp
    exact hK.out _ _ (Below.refl _ _) rfl
   case po9x33 =>
    intro w1 hb1 hd KK hK
    obtain ⟨a23z, c23z, rfl, hN23⟩ := hd 23 (by kernel_rfl)
    obtain rfl := hd 32 (by kernel_rfl)
    go_simp
    go_at_call 26
    refine (HFB.out w1).mono ?_
    rintro e w2 ⟨a2z, c2z, rfl, hN2, hb⟩
    (try go_wp2_with fail)
    exact hK.out _ _ hb ⟨a2z, c2z, rfl, hN2⟩
   case po9x34 =>
    intro w1 hb1 hd KK hK
    obtain ⟨a23z, c23z, rfl, hN23⟩ := hd 23 (by kernel_rfl)
    obtain ⟨a33z, c33z, rfl, hN33⟩ := hd 33 (by kernel_rfl)
    go_simp
    go_at_call 25
    refine (HT3.out _ _ _ _ w1 hN23 hN33).mono ?_
    rintro e w2 ⟨a2z, c2z, rfl, hN2, hb⟩
    (try go_wp2_with fail)
    exact hK.out _ _ hb ⟨a2z, c2z, rfl, hN2⟩
   case po9x35 =>
    intro w1 hb1 hd KK hK
    obtain rfl := hd 13 (by kernel_rfl)
    obtain ⟨a34z, c34z, rfl, hN34⟩ := hd 34 (by kernel_rfl)
    go_simp
    go_at_call 24
    refine (HP4.out _ _ _ _ w1 (HNG.out.next hb1) hN34).mono ?_
    rintro e w2 ⟨a2z, c2z, rfl, hN2, hb⟩
    (try go_wp2_with fail)
    exact hK.out _ _ hb ⟨a2z, c2z, rfl, hN2⟩
   case po9x36 =>
    intro w1 hb1 hd KK hK
    obtain rfl := hd 0 (by kernel_rfl)
    obtain rfl := hd 1 (by kernel_rfl)
    obtain rfl := hd 2 (by kernel_rfl)
    obtain rfl := hd 3 (by kernel_rfl)
    obtain rfl := hd 4 (by kernel_rfl)
    obtain rfl := hd 5 (by kernel_rfl)
    obtain rfl := hd 6 (by kernel_rfl)
    obtain rfl := hd 7 (by kernel_rfl)
    obtain rfl := hd 8 (by kernel_rfl)
    obtain rfl := hd 9 (by kernel_rfl)
    obtain rfl := hd 10 (by kernel_rfl)
    obtain rfl := hd 11 (by kernel_rfl)
    obtain rfl := hd 12 (by kernel_rfl)
    obtain rfl := hd 13 (by kernel_rfl)
    obtain rfl := hd 14 (by kernel_rfl)
    obtain rfl := hd 15 (by kernel_rfl)
    obtain rfl := hd 16 (by kernel_rfl)
    obtain rfl := hd 17 (by kernel_rfl)
    obtain rfl := hd 18 (by kernel_rfl)
    obtain rfl := hd 19 (by kernel_rfl)
    obtain rfl := hd 20 (by kernel_rfl)
    obtain rfl := hd 21 (by kernel_rfl)
    obtain rfl := hd 22 (by kernel_rfl)
    obtain ⟨a23z, c23z, rfl, hN23⟩ := hd 23 (by kernel_rfl)
    obtain rfl := hd 24 (by kernel_rfl)
    obtain rfl := hd 25 (by kernel_rfl)
    obtain rfl := hd 26 (by kernel_rfl)
    obtain rfl := hd 27 (by kernel_rfl)
    obtain rfl := hd 28 (by kernel_rfl)
    obtain rfl := hd 29 (by kernel_rfl)
    obtain rfl := hd 30 (by kernel_rfl)
    obtain rfl := hd 31 (by kernel_rfl)
    obtain rfl := hd 32 (by kernel_rfl)
    obtain ⟨a33z, c33z, rfl, hN33⟩ := hd 33 (by kernel_rfl)
    obtain ⟨a34z, c34z, rfl, hN34⟩ := hd 34 (by kernel_rfl)
    obtain ⟨a35z, c35z, rfl, hN35⟩ := hd 35 (by kernel_rfl)
    go_simp
    exact hK.out _ _ (Below.refl _ _) rfl
   case pfl9 => (intro f hf; cases hf)
   case pend9 =>
   intro w1 hb1 hR hD
   obtain rfl := hR 0 (by decide)
   obtain rfl := hR 1 (by decide)
   obtain rfl := hR 2 (by decide)
   obtain rfl := hR 3 (by decide)
   obtain rfl := hR 4 (by decide)
   obtain rfl := hR 5 (by decide)
   obtain rfl := hR 6 (by decide)
   obtain rfl := hR 7 (by decide)
   obtain rfl := hR 8 (by decide)
   obtain rfl := hR 9 (by decide)
   obtain rfl := hR 10 (by decide)
   obtain rfl := hR 11 (by decide)
   obtain rfl := hR 12 (by decide)
   obtain rfl := hR 13 (by decide)
   obtain rfl := hR 14 (by decide)
   obtain rfl := hR 15 (by decide)
   obtain rfl := hR 16 (by decide)
   obtain rfl := hR 17 (by decide)
   obtain rfl := hR 18 (by decide)
   obtain rfl := hR 19 (by decide)
   obtain rfl := hR 20 (by decide)
   obtain rfl := hR 21 (by decide)
   obtain rfl := hR 22 (by decide)
   obtain ⟨a23z, c23z, rfl, hN23⟩ := hR 23 (by decide)
   obtain rfl := hR 24 (by decide)
   obtain rfl := hR 25 (by decide)
   obtain rfl := hR 26 (by decide)
   obtain rfl := hR 27 (by decide)
   obtain rfl := hR 28 (by decide)
   obtain rfl := hR 29 (by decide)
   obtain rfl := hR 30 (by decide)
   obtain rfl := hR 31 (by decide)
   obtain rfl := hR 32 (by decide)
   obtain ⟨a33z, c33z, rfl, hN33⟩ := hR 33 (by decide)
   obtain ⟨a34z, c34z, rfl, hN34⟩ := hR 34 (by decide)
   obtain ⟨a35z, c35z, rfl, hN35⟩ := hR 35 (by decide)
   obtain rfl := hR 36 (by decide)
   clear hR hD
   refine wpAny_ready (rs := [37]) (by kernel_rfl) (by simp) (AllReady.cons rfl (fun KK hK => ?_) AllReady.nil)
   have G9 := F8.out.next hb1
   have k0 := G9.fr.c 4 (g * 2) rfl HNQ.out
   have k1 := G9.fr.c 4 (g * 2 + 1) rfl HMQ.out
   have f0 := G9.fr.f 4 (g * 2) rfl HNQ.out
   have f1 := G9.fr.f 4 (g * 2 + 1) rfl HMQ.out
   go_simp
   refine hK _ _ ?_
   clear hK KK
   refine wpAny_done (by kernel_rfl) ?_ _
   have hst := ncells_set (A := A) (B := updA A g a35z) (C := C9) (D := updC C9 g c35z) (S := SM k) (T := SM (k + 1)) g NN b3 (fun j hj hne => ⟨(updA_ne A a35z hne).symm, (updC_ne C9 c35z hne).symm, (HSK.out j (fun h => hne h.symm)).symm⟩)
   rw [updA_at, updC_at] at hst
   have F10 := (G9.setC 4 (g * 2) rfl (fun h => by have := congrArg List.length h; rw [ncells_len] at this; simp at this; omega) (.bool (decide (SM (k + 1) g < 0)))).setC 4 (g * 2 + 1) rfl (fun h => by have := congrArg List.length h; rw [List.length_set, ncells_len] at this; simp at this; omega) (.slice a35z (dig 18446744073709551616 (SM (k + 1) g).natAbs).length c35z)
   simp only [List.set_cons_zero, List.set_cons_succ] at F10
   rw [hst] at F10
   have s1 := fun (a9 : Option Addr) (c9 m9 : Nat) (h9 : NAt w1 w1.heap.size a9 c9 m9) => nat_set (q := Q9) (o := g * 2 + 1) (v' := .slice a35z (dig 18446744073709551616 (SM (k + 1) g).natAbs).length c35z) (nat_set (q := Q9) (o := g * 2) (v' := .bool (decide (SM (k + 1) g < 0))) h9 k0 (by simp)) (v := .slice (A g) (dig 18446744073709551616 (SM k g).natAbs).length (C9 g)) (by go_simp) (by simp)
   have hN10 : ∀ j, j < NN → NAt _ _ (updA A g a35z j) (updC C9 g c35z j) (SM (k + 1) j).natAbs := fun j hj => by
    by_cases hjg : j = g
    ·subst hjg; rw [updA_at, updC_at]; exact s1 _ _ _ hN35
    ·rw [updA_ne A a35z hjg, updC_ne C9 c35z hjg, HSK.out j (fun h => hjg h.symm)]; exact s1 _ _ _ ((HNA.out j hj).next hb1)
   obtain ⟨W10, hW10⟩ : ∃ x, (w1.setCell ⟨Q9, g * 2, none⟩ (.bool (decide (SM (k + 1) g < 0)))).setCell ⟨Q9, g * 2 + 1, none⟩ (.slice a35z (dig 18446744073709551616 (SM (k + 1) g).natAbs).length c35z) = x := ⟨_, rfl⟩
   rw [hW10] at F10 hN10 ⊢
   have HF10 := Lib.hid F10
   have HN10 := Lib.hid hN10
   clear hW10 hst s1 F10 hN10 G9 k0 k1 f0 f1 hN23 hN33 hN34 hN35 F8 HNA hb1
   have hal := HALL.out
   go_wp2
   go_roundw
   case rel => exact ⟨k + 1, _, _, hlk, congrArg (Value.int .i64) (by omega), HN10, HF10⟩
   case measure => simp only [intOf]; omega
  ·obtain rfl : k = TL.length := by omega
   have hki : ¬ (TL.length : Int) < (TL.length : Int) := by omega
   go_upto_region 10 with fail
   go_upto_region 11 with fail
   have F8b := Lib.hid F8.out.fr
   clear F8 HTP HSS HSB HB HCL HSH HSH2
   obtain ⟨XB, hXB⟩ : ∃ x, wi.heap.size = x := ⟨_, rfl⟩
   rw [hXB]
   have G9 := Lib.hid ((F8b.out.box1 (b := XB) hXB [.slice as_ S.length cs_, .slice none 0 0] 26).addNil 2)
   simp only [List.nil_append, List.cons_append] at G9
   have HN9 := Lib.hid (fun j hj => (HNA.out j hj).below ((Below.refl _ _).alloc (Nat.le_refl _) (.cells #[.slice as_ S.length cs_, .slice none 0 0] 26)) (Nat.le_refl _))
   rw [hXB] at HN9
   obtain ⟨W9, hW9⟩ : ∃ x, (wi.alloc (.cells #[.slice as_ S.length cs_, .slice none 0 0] 26)) = x := ⟨_, rfl⟩
   rw [hW9] at G9 HN9 ⊢
   clear hW9 hXB F8b HNA
   have F9 : Hid (Fr w.heap.size w W9 [(w.heap.size, [.slice a xs.length c, .slice b ys.length d]), (w.heap.size + 1, [.slice a2 ws.length c2, .slice b2 vs.length dw]), (w.heap.size + 1 + 1, [.slice aQ qn cQ, .slice aS wv.S.length cS, .slice aP wv.P.length cP, .slice aD wv.D.length cD]), (w.heap.size + 1 + 1 + 1, [.slice none 0 0, .slice none 0 0]), (Q9, ncells A C9 (SM TL.length) NN), (XB, [.slice as_ S.length cs_, .slice none 0 0])] [(.i64, a, xs), (.i64, b, ys), (.i64, a2, ws), (.i64, b2, vs), (.i64, aS, wv.S), (.i64, aP, wv.P), (.i64, aD, wv.D)] [⟨3, .slice as_ S.length cs_, S.length, S.map (Value.int .i64)⟩, ⟨2, .slice none 0 0, 0, ((List.range 0).map G).map (Value.int .i64)⟩] []) := Lib.hid (by simpa using G9.out)
   clear G9
   go_wp2
   go_loopw [16] (fun i wr => ∃ (k : Nat) (ab : Option Addr) (cb : Nat), k ≤ NN ∧ i = .int .i64 k ∧ Hid (∀ i, i < k → isW (G i) = true) ∧ Hid (∀ j, j < NN → NAt wr XB (A j) (C9 j) ((SM TL.length) j).natAbs) ∧ Hid (∀ g, (Value.slice ab k cb).ownBlock = some g → XB ≤ g) ∧ Hid (Fr w.heap.size w wr [(w.heap.size, [.slice a xs.length c, .slice b ys.length d]), (w.heap.size + 1, [.slice a2 ws.length c2, .slice b2 vs.length dw]), (w.heap.size + 1 + 1, [.slice aQ qn cQ, .slice aS wv.S.length cS, .slice aP wv.P.length cP, .slice aD wv.D.length cD]), (w.heap.size + 1 + 1 + 1, [.slice none 0 0, .slice none 0 0]), (Q9, ncells A C9 (SM TL.length) NN), (XB, [.slice as_ S.length cs_, .slice ab k cb])] [(.i64, a, xs), (.i64, b, ys), (.i64, a2, ws), (.i64, b2, vs), (.i64, aS, wv.S), (.i64, aP, wv.P), (.i64, aD, wv.D)] [⟨3, .slice as_ S.length cs_, S.length, S.map (Value.int .i64)⟩, ⟨2, .slice ab k cb, k, ((List.range k).map G).map (Value.int .i64)⟩] [])) (fun i _ => NN - (intOf i).toNat)
   case atStart =>
    exact ⟨0, none, 0, Nat.zero_le _, rfl, Lib.hid (by simp), HN9, Lib.hid (by intro g hg; cases hg), F9⟩
   case round =>
    obtain ⟨j, ab, cb, hj, rfl, HG, HNB2, HOB, F5⟩ := hrel
    clear F9 HN9
    obtain ⟨wo, rfl⟩ : ∃ x : World, x = wr := ⟨_, rfl⟩
    by_cases hlt : j < NN
    ·skip
     have hji : (j : Int) < (NN : Int) := by omega
     go_upto_region 14 with fail
     clear hji
     obtain ⟨hg1, hg2⟩ := HSE.out j hlt
     have hf2 := HF2.out
     obtain ⟨hmk, hnr⟩ := sum_nearF (x := SM TL.length j) (f := fn) (by omega) hg2 w
     rw [← hg1] at hnr
     have hup := fun p cp W h => up2_any p cp 1 fn W h (by decide) (by omega)
     rw [Nat.one_mul] at hup
     have hno := fun W => nof_any 1 (by decide) W
     obtain ⟨RQ, hRQ⟩ : ∃ y, ratQ (SM TL.length j) (2 ^ fn) = y := ⟨_, rfl⟩
     obtain ⟨RK, hRK⟩ : ∃ y, ratK (SM TL.length j) (2 ^ fn) = y := ⟨_, rfl⟩
     rw [hRQ, hRK] at hmk hnr
     obtain ⟨PF, hPF⟩ : ∃ p, (2 : Nat) ^ fn = p := ⟨_, rfl⟩
     rw [hPF] at hmk hup
     obtain ⟨gj, hgj⟩ : ∃ g, G j = g := ⟨_, rfl⟩
     rw [hgj] at hnr
     have HMK := Lib.hid hmk
     have HNR := Lib.hid hnr
     have HUP := Lib.hid hup
     have HNO := Lib.hid hno
     have HGE := Lib.hid hgj
     have hXo := (F5.out.bl 5 rfl).2
     have HNJ := Lib.hid ((HNB2.out j hlt).mono (Nat.le_of_lt hXo))
     have HNQ := Lib.hid (ncells_neg A C9 (SM TL.length) NN j hlt)
     have HMQ := Lib.hid (ncells_mag A C9 (SM TL.length) NN j hlt)
     have hji : (j : Int) < (NN : Int) := by omega
     clear hmk hnr hup hno hPF hRQ hRK hgj hg1 hg2 hf2
     refine wp_region_parts2 (w := wo) 14 0 none [] [(fun u _ => u = .slice (some ⟨Q9, 0, none⟩) NN NN), (fun u _ => u = .int .i64 (j : Int)), (fun u _ => u = .pointer (some ⟨Q9, j * 2, none⟩)), (fun u _ => u = .agg #[.bool (decide (SM TL.length j < 0)), .slice (A j) (dig 18446744073709551616 (SM TL.length j).natAbs).length (C9 j)]), ((IsNat 1)), (fun u _ => u = .int .i64 (fn : Int)), ((IsNat PF)), ((IsRat RQ RK)), (fun u _ => u = .tuple #[.int .i64 (wordV gj), .int .i64 (wordE gj)]), (fun u _ => u = .tuple #[.int .i64 (wordV gj), .int .i64 (wordE gj)]), (fun u _ => u = .int .i64 (wordV gj)), (fun u _ => u = .int .i64 (wordE gj)), (fun u _ => u = .int .i64 (wordV gj)), (fun u _ => u = .int .i64 (wordE gj))] [some 94, some 95, some 96, some 97, some 98, some 99, some 100, some 101, some 102, some 93, some 103, some 104, some 17, some 18] #[true, true, true, true, true, true, true, true, true, true, true, true, true, true] #[true, true, true, true, true, true, true, true, true, true, true, true, true, true] (by kernel_rfl) rfl (by kernel_rfl) (by kernel_rfl) rfl (by kernel_rfl) (by kernel_rfl) (.cons (carries_eq _) (.cons (carries_eq _) (.cons (carries_eq _) (.cons (carries_eq _) (.cons (isNat_carries _) (.cons (carries_eq _) (.cons (isNat_carries _) (.cons (isRat_carries _ _) (.cons (carries_eq _) (.cons (carries_eq _) (.cons (carries_eq _) (.cons (carries_eq _) (.cons (carries_eq _) (.cons (carries_eq _) .nil)))))))))))))) (fun vs b hvl hvb => ?_)
     obtain ⟨x0, x1, x2, x3, x4, x5, x6, x7, x8, x9, x10, x11, x12, x13, rfl⟩ : ∃ x0 x1 x2 x3 x4 x5 x6 x7 x8 x9 x10 x11 x12 x13, vs = [x0, x1, x2, x3, x4, x5, x6, x7, x8, x9, x10, x11, x12, x13] := lw14 hvl
     clear hvl
     simp only [putAll, Act.put, List.setIfInBounds_toArray, List.set_cons_zero, List.set_cons_succ] at hvb
     subst hvb
     refine ⟨(.snoc (.snoc (.snoc (.snoc (.snoc (.snoc (.snoc (.snoc (.snoc (.snoc (.snoc (.snoc (.snoc (.snoc .zero (PartOb.intro (d := (some 94)) (r := fun u _ => u = .slice (some ⟨Q9, 0, none⟩) NN NN) rfl rfl rfl rfl ?po14x0)) (PartOb.intro (d := (some 95)) (r := fun u _ => u = .int .i64 (j : Int)) rfl rfl rfl rfl ?po14x1)) (PartOb.intro (d := (some 96)) (r := fun u _ => u = .pointer (some ⟨Q9, j * 2, none⟩)) rfl rfl rfl rfl ?po14x2)) (PartOb.intro (d := (some 97)) (r := fun u _ => u = .agg #[.bool (decide (SM TL.length j < 0)), .slice (A j) (dig 18446744073709551616 (SM TL.length j).natAbs).length (C9 j)]) rfl rfl rfl rfl ?po14x3)) (PartOb.intro (d := (some 98)) (r := (IsNat 1)) rfl rfl rfl rfl ?po14x4)) (PartOb.intro (d := (some 99)) (r := fun u _ => u = .int .i64 (fn : Int)) rfl rfl rfl rfl ?po14x5)) (PartOb.intro (d := (some 100)) (r := (IsNat PF)) rfl rfl rfl rfl ?po14x6)) (PartOb.intro (d := (some 101)) (r := (IsRat RQ RK)) rfl rfl rfl rfl ?po14x7)) (PartOb.intro (d := (some 102)) (r := fun u _ => u = .tuple #[.int .i64 (wordV gj), .int .i64 (wordE gj)]) rfl rfl rfl rfl ?po14x8)) (PartOb.intro (d := (some 93)) (r := fun u _ => u = .tuple #[.int .i64 (wordV gj), .int .i64 (wordE gj)]) rfl rfl rfl rfl ?po14x9)) (PartOb.intro (d := (some 103)) (r := fun u _ => u = .int .i64 (wordV gj)) rfl rfl rfl rfl ?po14x10)) (PartOb.intro (d := (some 104)) (r := fun u _ => u = .int .i64 (wordE gj)) rfl rfl rfl rfl ?po14x11)) (PartOb.intro (d := (some 17)) (r := fun u _ => u = .int .i64 (wordV gj)) rfl rfl rfl rfl ?po14x12)) (PartOb.intro (d := (some 18)) (r := fun u _ => u = .int .i64 (wordE gj)) rfl rfl rfl rfl ?po14x13)), ?pend14, ?pfl14⟩
     case po14x0 | po14x1 | po14x5 =>
      intro w1 hb1 hd KK hK
      go_simp
      exact hK.out _ _ (Below.refl _ _) rfl
     case po14x2 =>
      intro w1 hb1 hd KK hK
      obtain rfl := hd 0 (by kernel_rfl)
      obtain rfl := hd 1 (by kernel_rfl)
      go_simp
      exact hK.out _ _ (Below.refl _ _) rfl
     case po14x3 =>
      intro w1 hb1 hd KK hK
      obtain rfl := hd 2 (by kernel_rfl)
      have hF := F5.out.next hb1
      have k0 := hF.c 4 (j * 2) rfl HNQ.out
      have k1 := hF.c 4 (j * 2 + 1) rfl HMQ.out
      go_simp
      exact hK.out _ _ (Below.refl _ _) rfl
     case po14x4 =>
      intro w1 hb1 hd KK hK
      go_simp
      go_at_call 30
      refine (HNO.out w1).mono ?_
      rintro e w2 ⟨a2z, c2z, rfl, hN2, hb⟩
      (try go_wp2_with fail)
      exact hK.out _ _ hb ⟨a2z, c2z, rfl, hN2⟩
     case po14x6 =>
      intro w1 hb1 hd KK hK
      obtain ⟨a4z, c4z, rfl, hN4⟩ := hd 4 (by kernel_rfl)
      obtain rfl := hd 5 (by kernel_rfl)
      go_simp
      go_at_call 29
      refine (HUP.out _ _ w1 hN4).mono ?_
      rintro e w2 ⟨a2z, c2z, rfl, hN2, hb⟩
      (try go_wp2_with fail)
      exact hK.out _ _ hb ⟨a2z, c2z, rfl, hN2⟩
     case po14x7 =>
      intro w1 hb1 hd KK hK
      obtain rfl := hd 3 (by kernel_rfl)
      obtain ⟨a6z, c6z, rfl, hN6⟩ := hd 6 (by kernel_rfl)
      go_simp
      go_at_call 28
      refine (HMK.out _ _ _ _ w1 (HNJ.out.next hb1) hN6).mono ?_
      rintro e w2 ⟨a2z, c2z, b2z, d2z, rfl, hN2, hM2, hb⟩
      (try go_wp2_with fail)
      exact hK.out _ _ hb ⟨a2z, c2z, b2z, d2z, rfl, hN2, hM2⟩
     case po14x8 =>
      intro w1 hb1 hd KK hK
      obtain ⟨a7z, c7z, b7z, d7z, rfl, hN7, hM7⟩ := hd 7 (by kernel_rfl)
      go_simp
      go_at_call 27
      refine (HNR.out _ _ _ _ w1 hN7 hM7).mono ?_
      rintro e w2 ⟨he, hb⟩
      unfold RetV at he
      subst he
      (try go_wp2_with fail)
      exact hK.out _ _ hb rfl
     case po14x9 =>
      intro w1 hb1 hd KK hK
      obtain rfl := hd 8 (by kernel_rfl)
      go_simp
      exact hK.out _ _ (Below.refl _ _) rfl
     case po14x10 | po14x11 =>
      intro w1 hb1 hd KK hK
      obtain rfl := hd 9 (by kernel_rfl)
      go_simp
      exact hK.out _ _ (Below.refl _ _) rfl
     case po14x12 =>
      intro w1 hb1 hd KK hK
      obtain rfl := hd 0 (by kernel_rfl)
      obtain rfl := hd 1 (by kernel_rfl)
      obtain rfl := hd 2 (by kernel_rfl)
      obtain rfl := hd 3 (by kernel_rfl)
      obtain ⟨a4z, c4z, rfl, hN4⟩ := hd 4 (by kernel_rfl)
      obtain rfl := hd 5 (by kernel_rfl)
      obtain ⟨a6z, c6z, rfl, hN6⟩ := hd 6 (by kernel_rfl)
      obtain ⟨a7z, c7z, b7z, d7z, rfl, hN7, hM7⟩ := hd 7 (by kernel_rfl)
      obtain rfl := hd 8 (by kernel_rfl)
      obtain rfl := hd 9 (by kernel_rfl)
      obtain rfl := hd 10 (by kernel_rfl)
      go_simp
      exact hK.out _ _ (Below.refl _ _) rfl
     case po14x13 =>
      intro w1 hb1 hd KK hK
      obtain rfl := hd 0 (by kernel_rfl)
      obtain rfl := hd 1 (by kernel_rfl)
      obtain rfl := hd 2 (by kernel_rfl)
      obtain rfl := hd 3 (by kernel_rfl)
      obtain ⟨a4z, c4z, rfl, hN4⟩ := hd 4 (by kernel_rfl)
      obtain rfl := hd 5 (by kernel_rfl)
      obtain ⟨a6z, c6z, rfl, hN6⟩ := hd 6 (by kernel_rfl)
      obtain ⟨a7z, c7z, b7z, d7z, rfl, hN7, hM7⟩ := hd 7 (by kernel_rfl)
      obtain rfl := hd 8 (by kernel_rfl)
      obtain rfl := hd 9 (by kernel_rfl)
      obtain rfl := hd 10 (by kernel_rfl)
      obtain rfl := hd 11 (by kernel_rfl)
      obtain rfl := hd 12 (by kernel_rfl)
      go_simp
      exact hK.out _ _ (Below.refl _ _) rfl
     case pfl14 => (intro f hf; cases hf)
     case pend14 =>
     intro w1 hb1 hR hD
     obtain rfl := hR 0 (by decide)
     obtain rfl := hR 1 (by decide)
     obtain rfl := hR 2 (by decide)
     obtain rfl := hR 3 (by decide)
     obtain ⟨a4z, c4z, rfl, hN4⟩ := hR 4 (by decide)
     obtain rfl := hR 5 (by decide)
     obtain ⟨a6z, c6z, rfl, hN6⟩ := hR 6 (by decide)
     obtain ⟨a7z, c7z, b7z, d7z, rfl, hN7, hM7⟩ := hR 7 (by decide)
     obtain rfl := hR 8 (by decide)
     obtain rfl := hR 9 (by decide)
     obtain rfl := hR 10 (by decide)
     obtain rfl := hR 11 (by decide)
     obtain rfl := hR 12 (by decide)
     obtain rfl := hR 13 (by decide)
     clear hR hD
     refine wpAny_done (by kernel_rfl) ?_ _
     have F7 := Lib.hid (F5.out.next hb1)
     have HND := Lib.hid (fun j hj => (HNB2.out j hj).below hb1 (Nat.le_of_lt hXo))
     clear hb1 F5 HNB2 HMK HNR HUP HNO HNJ hXo
     obtain ⟨wq, rfl⟩ : ∃ x : World, x = w1 := ⟨_, rfl⟩
     cases hw : isW gj with
     | false =>
      have hv : wordE gj = 3 := by unfold wordE; rw [hw]; rfl
      have hzz : Z = 3 := by
       rw [HZE.out, if_neg]
       intro hq
       have := List.all_eq_true.1 hq j (List.mem_range.2 hlt)
       rw [HGE.out, hw] at this
       cases this
      rw [hv]
      obtain rfl := hzz
      clear hw hv HZE HG HGE
      have k0 := F7.out.c 3 0 rfl rfl
      have k1 := F7.out.c 3 1 rfl rfl
      have f0 := F7.out.f 3 0 rfl rfl
      have f1 := F7.out.f 3 1 rfl rfl
      go_wp2
      have FZ := F7.out.set 3 rfl (by simp) [.slice none 0 0, .slice none 0 0] rfl
      simp only [setL, Nat.reduceAdd, List.set_cons_zero, List.set_cons_succ] at FZ
      have y0 := FZ.c 3 0 rfl rfl
      have y1 := FZ.c 3 1 rfl rfl
      refine bodyPost_ret (v := .tuple #[.agg #[.slice none 0 0, .slice none 0 0], .int .i64 3]) ?_ rfl (retTF_none (FZ.less (.refl _) (.refl _) (List.nil_sublist _) (List.nil_sublist _)))
      rw [results_ctZ rfl]
      go_simp
     | true =>
      have hv : wordE gj = 0 := by unfold wordE; rw [hw]; rfl
      have hv2 : wordV gj = gj := by unfold wordV; rw [hw]; rfl
      rw [hv, hv2]
      have HG2 : Hid (∀ i, i < j + 1 → isW (G i) = true) := Lib.hid (fun i hi => by
       by_cases he : i < j
       ·exact HG.out i he
       ·obtain rfl : i = j := by omega
        rw [HGE.out]; exact hw)
      have hra : (List.range (j + 1)).map G = (List.range j).map G ++ [gj] := by rw [List.range_succ, List.map_append, List.map_cons, List.map_nil, HGE.out]
      have HRA := Lib.hid hra
      have hq0 := F7.out.c 5 1 rfl rfl
      have hqf := F7.out.f 5 1 rfl rfl
      have hqb := (F7.out.bl 5 rfl).2
      have hqn : ¬ XB = wq.heap.size := by omega
      have hjn : j ≤ 1000000 := Nat.le_trans (Nat.le_of_lt hlt) (Nat.le_trans HNB.out (by decide))
      have HJN := Lib.hid hjn
      clear hw hv hv2 hra hjn
      go_upto_region 13 with (at_builtin; refine appendWZ w.heap.size (.slice ab j cb) j ((List.range j).map G) gj _ _ _ rfl rfl rfl (F7.out.r 1 rfl) rfl HJN.out F7.out.hlo ?_; intro v' w8 hown hbel hgr hob; obtain ⟨a8, c8, rfl, _⟩ := own_shape hown; rw [← HRA.out] at hown; have F10 := Lib.hid (F7.out.wroteO 1 rfl hgr hown (fun g hg => by rcases hob with h | h; exact .inl (h.symm.trans hg); exact .inr (by rw [h] at hg; injection hg with hg; omega))); simp only [List.set_cons_zero, List.set_cons_succ] at F10; clear hq0 hqf; have hq0 := F10.out.c 5 1 rfl rfl; have hqf := F10.out.f 5 1 rfl rfl)
      have hXq : XB ≤ wq.heap.size := Nat.le_of_lt (F7.out.bl 5 rfl).2
      have hbX := ((Below.refl XB wq).grown hgr hXq (fun g hg => HOB.out g hg)).setCell (p := ⟨XB, 1, none⟩) (Nat.le_refl _) (.slice a8 (j + 1) c8)
      have HF11 := Lib.hid (F10.out.setC 5 1 rfl (by simp) (.slice a8 (j + 1) c8))
      simp only [List.set_cons_zero, List.set_cons_succ] at HF11
      have HNE := Lib.hid (fun j hj => (HND.out j hj).below hbX (Nat.le_refl _))
      have HOE : Hid (∀ g, (Value.slice a8 (j + 1) c8).ownBlock = some g → XB ≤ g) := Lib.hid (fun g hg => by
       rcases hob with h | h
       ·exact HOB.out g (h.symm.trans hg)
       ·rw [h] at hg; injection hg with hg; omega)
      have hnb := HNB.out
      go_wp2
      go_roundw
      case rel => exact ⟨j + 1, a8, c8, hlt, congrArg (Value.int .i64) (by omega), HG2, HNE, HOE, HF11⟩
      case measure => simp only [intOf]; omega
    ·obtain rfl : j = NN := by omega
     have hji : ¬ (j : Int) < (j : Int) := by omega
     have hzz : Z = 0 := by rw [HZE.out, if_pos (List.all_eq_true.2 fun i hi => HG.out i (List.mem_range.1 hi))]
     have k0 := F5.out.c 3 0 rfl rfl
     have k1 := F5.out.c 3 1 rfl rfl
     have f0 := F5.out.f 3 0 rfl rfl
     have f1 := F5.out.f 3 1 rfl rfl
     have e0 := F5.out.c 5 0 rfl rfl
     have e1 := F5.out.c 5 1 rfl rfl
     have HZZ := Lib.hid hzz
     clear hzz HZE HG
     go_wp2
     have FZ := F5.out.set 3 rfl (by simp) [.slice as_ S.length cs_, .slice ab j cb] rfl
     simp only [setL, Nat.reduceAdd, List.set_cons_zero, List.set_cons_succ] at FZ
     have y0 := FZ.c 3 0 rfl rfl
     have y1 := FZ.c 3 1 rfl rfl
     have hln : ((List.range j).map G).length = j := by simp
     refine bodyPost_ret (v := .tuple #[.agg #[.slice as_ S.length cs_, .slice ab j cb], .int .i64 0]) ?_ rfl (by rw [HZZ.out, zL_0, zL_0]; exact ⟨as_, cs_, ab, cb, by rw [hln], by rw [hln]; exact FZ.rows⟩)
     rw [results_ctZ rfl]
     go_simp
end Go.Proofs.YtadlnmckcnfacaaGreat
