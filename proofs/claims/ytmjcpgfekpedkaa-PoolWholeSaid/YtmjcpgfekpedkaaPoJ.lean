/- Walks: pool.Avg. -/
import Derived.Test.YtmjcpgfekpedkaaPoI
import Derived.Test.YtmjcpgfekpedkaaPoQ
set_option linter.unusedVariables false
set_option linter.unusedSimpArgs false
namespace Go.Proofs.Ytmjcpgfekpedkaa
open Go.RowKit Go.Rt
theorem lw10 {α : Type} {l : List α} (h : l.length = 10) : ∃ x0 x1 x2 x3 x4 x5 x6 x7 x8 x9, l = [x0, x1, x2, x3, x4, x5, x6, x7, x8, x9] := by
  match l, h with
  | [x0, x1, x2, x3, x4, x5, x6, x7, x8, x9], _ => exact ⟨x0, x1, x2, x3, x4, x5, x6, x7, x8, x9, rfl⟩
/-- A piece that never panics. -/
theorem wp_calm {P : Program} {c : Code} {Q : Exit → Act → World → Prop} {a : Act} {w : World} (h : c.wp P (fun e a w => match e with | .normal => Q .normal a w | _ => False) a w) : c.wp P Q a w := by
  refine wp_mono h ?_
  rintro e a2 w2 hq
  cases e <;> first | exact hq | exact hq.elim
attribute [local go_sem] Oper.semAt_some
set_option maxRecDepth 100000 in
set_option maxHeartbeats 4000000 in
theorem pavg_ok (a b : Option Addr) (c d : Nat) (xs ys : List Int) (aK aS aP aD : Option Addr) (cK cS cP cD : Nat) (wv : WinV) (w : World) (h : Ints .i64 w w.heap.size a xs) (h2 : Ints .i64 w w.heap.size b ys) (hK : Ints .i64 w w.heap.size aK wv.K) (hS : Ints .i64 w w.heap.size aS wv.S) (hP : Ints .i64 w w.heap.size aP wv.P) (hD : Ints .i64 w w.heap.size aD wv.D) (hL : wv.L = xs.drop 2) (hc1 : xs.length ≤ c) (hc2 : c ≤ 9223372036854775807) (hz : winZ xs ys wv = 0) (hgK : goodB wv.K = true) :
    Calls Try.prog 11 #[.agg #[.slice a xs.length c, .slice b ys.length d], .agg #[.slice aK wv.K.length cK, .slice aS wv.S.length cS, .slice aP wv.P.length cP, .slice aD wv.D.length cD]] w (RetTF w (poS xs wv) ((List.range (poN xs wv)).map (poA ys wv)) 0) := by
  obtain ⟨R, K⟩ := pool_ok hL hz
  have hx4 := (goodB_iff.1 (tenB_iff.1 K.ht).1).1
  have hlen := (outZ_ok (winZ_ok hz).2).2.1
  obtain ⟨b0, o0, rfl, _, _⟩ := h.cell 0 (by omega)
  have hiL := ints_drop h 2
  rw [← hL] at hiL
  have hwn := fun W h h2 hK hS hP hD => win_ok (some ⟨b0, o0, none⟩) b c d xs ys aK aS aP aD cK cS cP cD wv W h h2 hK hS hP hD hL hc1 hc2 (winZ_ok hz).1 (winZ_ok hz).2
  obtain ⟨NN, hNN⟩ : ∃ n, poN xs wv = n := ⟨_, rfl⟩
  obtain ⟨AF, hAF⟩ : ∃ f, poA ys wv = f := ⟨_, rfl⟩
  have hAd : ∀ n, AF n = avI wv (prodI wv.O).toNat (prodI wv.L).toNat (prodI wv.K).toNat ys n := fun n => by rw [← hAF]; rfl
  obtain ⟨N, hNe⟩ : ∃ n, (prodI wv.O).toNat = n := ⟨_, rfl⟩
  obtain ⟨M, hMe⟩ : ∃ n, (prodI wv.L).toNat = n := ⟨_, rfl⟩
  obtain ⟨T, hTe⟩ : ∃ n, (prodI wv.K).toNat = n := ⟨_, rfl⟩
  rw [hNN, hNe, hMe, hTe] at K
  rw [hNe, hMe, hTe] at hAd
  rw [hNN, hAF]
  have hyw := (tenB_iff.1 K.ht).2.2
  have hne : ∀ n, wv.plcs N M n T ≠ [] := fun n => plcs_some K.hR K.hok (goodB_dims K.gO) K.hf K.hT N M n
  have hT2 : T ≤ 65536 := by have := goodB_prod hgK; have := K.hT; omega
  have hll : ∀ n t, t ≤ T → (wv.plcs N M n t).length ≤ 65536 := fun n t ht => Nat.le_trans (plcs_len wv N M n t) (by omega)
  have hplc : ∀ n, n < NN → ∀ t, ∀ p ∈ wv.plcs N M n t, 0 ≤ p ∧ p < (ys.length : Int) := fun n hn t p hp => by
    rw [K.yl]
    exact plcs_bound K.hR K.hM (R := R) (by rw [← K.nn]; exact hn) t p hp
  obtain ⟨S, hSe⟩ : ∃ s, poS xs wv = s := ⟨_, rfl⟩
  have hgS := K.gS
  have hpS := K.hNN
  rw [hSe] at hwn hgS hpS ⊢
  have hn1 : 1 ≤ NN := by rw [K.nn]; exact Nat.mul_pos K.r1 K.n1
  have hn2 : NN ≤ 65536 := by have := goodB_prod hgS; omega
  have hnw := fun a9 c9 W (h : Ints .i64 W W.heap.size a9 S) => elemNew_any a9 c9 S W h hgS
  rw [hpS, Int.toNat_natCast] at hnw
  have hswf : ∀ x ∈ S, (Lit.int .i64 x).wf = true := wf_dims (fun x hx => by have := goodB_dims hgS x hx; omega)
  have hM2 : M ≤ 65536 := by have := goodB_prod K.gL; have := K.hM; omega
  have heach := fun (n : Nat) cL aO cO W (hI : Ints .i64 W W.heap.size (some ⟨b0, o0 + 2, none⟩) wv.L) => each_any (some ⟨b0, o0 + 2, none⟩) aK aO aK aS aP aD cL cK cO cK cS cP cD wv.K wv n M W hI K.gL K.hM
  have hOw : ∀ x ∈ wv.O, (Lit.int .i64 x).wf = true := wf_dims (fun x hx => by have := goodB_dims K.gO x hx; omega)
  have HK := Lib.hid K
  have HWN := Lib.hid hwn
  have HAD := Lib.hid hAd
  have HNE := Lib.hid hne
  have HYW := Lib.hid hyw
  have HLL := Lib.hid hll
  have HPL := Lib.hid hplc
  have HNW := Lib.hid hnw
  have HSWF := Lib.hid hswf
  have HEA := Lib.hid heach
  have HOWF := Lib.hid hOw
  have HGK := Lib.hid hgK
  have HI0 := Lib.hid h
  have HI1 := Lib.hid h2
  have F1 := Lib.hid ((((Fr.start (w := w) (I := [(.i64, (some ⟨b0, o0, none⟩), xs), (.i64, b, ys), (.i64, aK, wv.K), (.i64, aS, wv.S), (.i64, aP, wv.P), (.i64, aD, wv.D), (.i64, (some ⟨b0, o0 + 2, none⟩), wv.L)]) (by intro z hz; simp at hz; rcases hz with rfl | rfl | rfl | rfl | rfl | rfl | rfl; exact h; exact h2; exact hK; exact hS; exact hP; exact hD; exact hiL)).box1 (b := w.heap.size) rfl [.slice (some ⟨b0, o0, none⟩) xs.length c, .slice b ys.length d] 26).box1 (b := w.heap.size + 1) (by simp) [.slice aK wv.K.length cK, .slice aS wv.S.length cS, .slice aP wv.P.length cP, .slice aD wv.D.length cD] 28).box1 (b := w.heap.size + 1 + 1) (by simp) [.slice none 0 0, .slice none 0 0] 26)
  simp only [List.nil_append, List.cons_append] at F1
  clear h h2 hK hS hP hD hiL hL hz hgK K hwn hNN hAF hAd hNe hMe hTe hne hyw hll hplc hSe hgS hpS hnw hswf heach hOw hc1 hc2 hlen
  refine (callsIn_wide (n := 20)).1 ?_
  refine callsIn_of_wp_marks Try.func11 rfl trivial ?_ rfl
  simp only [Try.ntmps11, List.size_toArray, List.length_cons, List.length_nil, Nat.reduceAdd, Nat.reduceSub, Array.replicate_succ, Array.replicate_zero, List.push_toArray, List.append_toArray, List.nil_append, List.cons_append]
  refine wpIn_wide.2 ?_
  go_upto_region 1 with fail
  obtain ⟨W1, hW1⟩ : ∃ W1, ((w.alloc (.cells #[.slice (some ⟨b0, o0, none⟩) xs.length c, .slice b ys.length d] 26)).alloc (.cells #[.slice aK wv.K.length cK, .slice aS wv.S.length cS, .slice aP wv.P.length cP, .slice aD wv.D.length cD] 28)).alloc (.cells #[.slice none 0 0, .slice none 0 0] 26) = W1 := ⟨_, rfl⟩
  rw [hW1] at F1 ⊢
  clear hW1
  have c0_0 := F1.out.c 0 0 rfl rfl
  have c0_1 := F1.out.c 0 1 rfl rfl
  have c1_0 := F1.out.c 1 0 rfl rfl
  have c1_1 := F1.out.c 1 1 rfl rfl
  have c1_2 := F1.out.c 1 2 rfl rfl
  have c1_3 := F1.out.c 1 3 rfl rfl
  go_upto_region 2 with (first | (go_at_call 32; refine (HWN.out _ (F1.out.lw 0 rfl) (F1.out.lw 1 rfl) (F1.out.lw 2 rfl) (F1.out.lw 3 rfl) (F1.out.lw 4 rfl) (F1.out.lw 5 rfl)).mono ?_; rintro e w2 ⟨aL, cL, aO, cO, as1, cs1, rfl, ⟨b9, o9, he, rfl⟩, hf⟩; cases he; have F2 := Lib.hid (F1.out.join hf); simp only [List.nil_append, List.cons_append] at F2; clear hf F1 c0_0 c0_1 c1_0 c1_1 c1_2 c1_3) | fail)
  obtain ⟨Y7, hY7⟩ : ∃ x, w2.heap.size = x := ⟨_, rfl⟩
  rw [hY7]
  have F3 := Lib.hid (F2.out.box1 (b := Y7) hY7 [.slice (some ⟨b0, o0 + 2, none⟩) wv.L.length cL, .slice aK wv.K.length cK, .slice aO wv.O.length cO, .slice aK wv.K.length cK, .slice aS wv.S.length cS, .slice aP wv.P.length cP, .slice aD wv.D.length cD] 68)
  simp only [List.nil_append, List.cons_append] at F3
  obtain ⟨W3, hW3⟩ : ∃ x, (w2.alloc (.cells #[.slice (some ⟨b0, o0 + 2, none⟩) wv.L.length cL, .slice aK wv.K.length cK, .slice aO wv.O.length cO, .slice aK wv.K.length cK, .slice aS wv.S.length cS, .slice aP wv.P.length cP, .slice aD wv.D.length cD] 68)) = x := ⟨_, rfl⟩
  rw [hW3] at F3 ⊢
  clear hW3 hY7 F2
  go_upto_region 4 with fail
  go_upto_region 5 with (first | (go_at_call 33; refine (HNW.out as1 cs1 _ (F3.out.li 1 (k := .i64) (xs := S) rfl HSWF.out)).mono ?_; rintro e w4 hr; obtain ⟨as_, cs_, gd, dd, rfl, hf⟩ := retNew_frP hr hn1; have F4 := Lib.hid (F3.out.join hf); simp only [List.cons_append, List.nil_append] at F4; clear hf hr F3; have d2_0 := F4.out.c 2 0 rfl rfl; have d2_1 := F4.out.c 2 1 rfl rfl; have df2_0 := F4.out.f 2 0 rfl rfl; have df2_1 := F4.out.f 2 1 rfl rfl) | fail)
  obtain ⟨Q9, hQ9⟩ : ∃ x, w4.heap.size = x := ⟨_, rfl⟩
  try rw [hQ9]
  have F5 := Lib.hid (F4.out.box1 (b := Q9) hQ9 [.slice as_ S.length cs_, .slice (some ⟨gd, 0, none⟩) NN dd] 26)
  simp only [List.nil_append, List.cons_append] at F5
  obtain ⟨W5, hW5⟩ : ∃ x, w4.alloc (.cells #[.slice as_ S.length cs_, .slice (some ⟨gd, 0, none⟩) NN dd] 26) = x := ⟨_, rfl⟩
  rw [hW5] at F5 ⊢
  clear hW5 hQ9 F4 d2_0 d2_1 df2_0 df2_1
  have hz0 := range_zeroP NN
  rw [← hz0] at F5
  have F6b := F5.out
  have e1 : (List.range NN).map (fun _ => (0 : Int)) = (List.range NN).map (upto AF 0) := by rw [upto_zero]
  have F7 : Hid (Fr w.heap.size w W5 [(w.heap.size, [.slice (some ⟨b0, o0, none⟩) xs.length c, .slice b ys.length d]), (w.heap.size + 1, [.slice aK wv.K.length cK, .slice aS wv.S.length cS, .slice aP wv.P.length cP, .slice aD wv.D.length cD]), (w.heap.size + 1 + 1, [.slice none 0 0, .slice none 0 0]), (Y7, [.slice (some ⟨b0, o0 + 2, none⟩) wv.L.length cL, .slice aK wv.K.length cK, .slice aO wv.O.length cO, .slice aK wv.K.length cK, .slice aS wv.S.length cS, .slice aP wv.P.length cP, .slice aD wv.D.length cD]), (Q9, [.slice as_ S.length cs_, .slice (some ⟨gd, 0, none⟩) NN dd])] [(.i64, (some ⟨b0, o0, none⟩), xs), (.i64, b, ys), (.i64, aK, wv.K), (.i64, aS, wv.S), (.i64, aP, wv.P), (.i64, aD, wv.D), (.i64, (some ⟨b0, o0 + 2, none⟩), wv.L)] [⟨3, .slice aO wv.O.length cO, wv.O.length, wv.O.map (Value.int .i64)⟩, ⟨3, .slice as1 S.length cs1, S.length, S.map (Value.int .i64)⟩, ⟨3, .slice as_ S.length cs_, S.length, S.map (Value.int .i64)⟩, ⟨2, .slice (some ⟨gd, 0, none⟩) NN dd, NN, ((List.range NN).map (upto AF 0)).map (Value.int .i64)⟩] []) := Lib.hid (by first | exact (e1 ▸ F6b) | (rw [← e1]; exact F6b))
  clear F5 F6b hz0 e1
  have c4_0 := F7.out.c 4 0 rfl rfl
  have c4_1 := F7.out.c 4 1 rfl rfl
  go_wp2
  refine wp_loopF (fun s w' ds => ∃ (n : Nat) (Ds : List Nat), n ≤ NN ∧ s 32 = .int .i64 (n : Int) ∧ ds = mkD Ds ∧ Hid (Fr w.heap.size w w' [(w.heap.size, [.slice (some ⟨b0, o0, none⟩) xs.length c, .slice b ys.length d]), (w.heap.size + 1, [.slice aK wv.K.length cK, .slice aS wv.S.length cS, .slice aP wv.P.length cP, .slice aD wv.D.length cD]), (w.heap.size + 1 + 1, [.slice none 0 0, .slice none 0 0]), (Y7, [.slice (some ⟨b0, o0 + 2, none⟩) wv.L.length cL, .slice aK wv.K.length cK, .slice aO wv.O.length cO, .slice aK wv.K.length cK, .slice aS wv.S.length cS, .slice aP wv.P.length cP, .slice aD wv.D.length cD]), (Q9, [.slice as_ S.length cs_, .slice (some ⟨gd, 0, none⟩) NN dd])] [(.i64, (some ⟨b0, o0, none⟩), xs), (.i64, b, ys), (.i64, aK, wv.K), (.i64, aS, wv.S), (.i64, aP, wv.P), (.i64, aD, wv.D), (.i64, (some ⟨b0, o0 + 2, none⟩), wv.L)] [⟨3, .slice aO wv.O.length cO, wv.O.length, wv.O.map (Value.int .i64)⟩, ⟨3, .slice as1 S.length cs1, S.length, S.map (Value.int .i64)⟩, ⟨3, .slice as_ S.length cs_, S.length, S.map (Value.int .i64)⟩, ⟨2, .slice (some ⟨gd, 0, none⟩) NN dd, NN, ((List.range NN).map (upto AF n)).map (Value.int .i64)⟩] (mkM Ds))) (fun s => #[s 0, s 1, .pointer (some ⟨w.heap.size, 0, none⟩), s 3, .pointer (some ⟨w.heap.size + 1 + 1, 0, none⟩), s 5, .pointer (some ⟨Y7, 0, none⟩), s 7, s 8, .pointer (some ⟨Q9, 0, none⟩), s 10, s 11, s 12, s 13, s 14, s 15, s 16, s 17, s 18, s 19, s 20, s 21, s 22, s 23, s 24, s 25, s 26, s 27, s 28, s 29, s 30, .int .i64 (NN : Int), s 32, s 33, s 34, s 35, s 36, s 37, s 38, s 39, s 40, s 41, s 42, s 43, s 44, s 45, s 46, s 47, s 48, s 49, s 50, s 51, s 52, s 53, s 54, s 55, s 56, s 57, s 58, s 59, s 60, s 61, s 62, s 63, s 64, s 65, s 66, s 67, s 68, s 69]) (fun s => NN - (intOf (s 32)).toNat) ⟨0, [], Nat.zero_le _, rfl, rfl, F7⟩ rfl ?_
  rintro s wr ds ⟨n, Ds, hn, h32, rfl, F8⟩
  clear F7 c4_0 c4_1
  obtain ⟨wo, rfl⟩ : ∃ x : World, x = wr := ⟨_, rfl⟩
  dsimp only
  rw [h32]
  have hN32 := Lib.hid h32
  clear h32
  by_cases hlt : n < NN
  · skip
    have hni : (n : Int) < (NN : Int) := by omega
    obtain ⟨LD, hLD⟩ : ∃ l, ((List.range NN).map (upto AF n)).map (Value.int .i64) = l := ⟨_, rfl⟩
    rw [hLD] at F8
    have HLD := Lib.hid hLD
    clear hLD
    go_upto_region 10 with fail
    obtain ⟨Yb, hYb⟩ : ∃ x, wo.heap.size = x := ⟨_, rfl⟩
    obtain ⟨Yc, hYc⟩ : ∃ x, wo.heap.size + 1 = x := ⟨_, rfl⟩
    have F9 := Lib.hid ((F8.out.box1 (b := Yb) hYb [.int .i64 0, .int .u64 0] 77).box1 (b := Yc) (by simp [← hYc]) [.int .i64 0] 2)
    simp only [List.nil_append, List.cons_append] at F9
    try rw [hYc]
    try rw [hYb]
    obtain ⟨W9, hW9⟩ : ∃ x, ((wo.alloc (.cells #[.int .i64 0, .int .u64 0] 77)).alloc (.cells #[.int .i64 0] 2)) = x := ⟨_, rfl⟩
    rw [hW9] at F9 ⊢
    clear hW9 hYb hYc F8
    have c3_0 := F9.out.c 3 0 rfl rfl
    have c3_1 := F9.out.c 3 1 rfl rfl
    have c3_2 := F9.out.c 3 2 rfl rfl
    have c3_3 := F9.out.c 3 3 rfl rfl
    have c3_4 := F9.out.c 3 4 rfl rfl
    have c3_5 := F9.out.c 3 5 rfl rfl
    have c3_6 := F9.out.c 3 6 rfl rfl
    go_upto_block 2 with (first | (go_at_call 34; refine (HEA.out n cL aO cO _ (F9.out.lw 6 rfl)).mono ?_; rintro e w10 ⟨rfl, hf⟩; have F10 := Lib.hid (F9.out.join2 hf); simp only [List.nil_append, List.cons_append, List.append_nil] at F10; clear hf F9 c3_0 c3_1 c3_2 c3_3 c3_4 c3_5 c3_6) | fail)
    have ez1 : Value.int .i64 0 = .int .i64 (0 / 18446744073709551616) := rfl
    obtain ⟨X1, hX1⟩ : ∃ x, W9.heap.size = x := ⟨_, rfl⟩
    rw [hX1] at F10 ⊢
    clear hX1 ez1
    obtain ⟨D, hD⟩ : ∃ D, w10.heap.size = D := ⟨_, rfl⟩
    have e0 : Value.int .u64 0 = .int .u64 (0 % 18446744073709551616) := rfl
    have hpn := HAD.out n
    unfold avI at hpn
    have HPN := Lib.hid hpn
    clear hpn e0
    go_wp2
    refine wpIn_wide.1 (wpIn_rangeFunc_any (n := 20) rfl (by omega) (gf := 59) (lb := #[.pointer (some ⟨X1, 0, none⟩), .pointer (some ⟨X1 + 1, 0, none⟩), .pointer (some ⟨X1 + 1 + 1, 0, none⟩)]) rfl trivial (enters_of Try.func59 (by kernel_rfl) rfl) D hD
      (fun W2 => ∃ o, Hid (Fr w.heap.size w W2 [(w.heap.size, [.slice (some ⟨b0, o0, none⟩) xs.length c, .slice b ys.length d]), (w.heap.size + 1, [.slice aK wv.K.length cK, .slice aS wv.S.length cS, .slice aP wv.P.length cP, .slice aD wv.D.length cD]), (w.heap.size + 1 + 1, [.slice none 0 0, .slice none 0 0]), (Y7, [.slice (some ⟨b0, o0 + 2, none⟩) wv.L.length cL, .slice aK wv.K.length cK, .slice aO wv.O.length cO, .slice aK wv.K.length cK, .slice aS wv.S.length cS, .slice aP wv.P.length cP, .slice aD wv.D.length cD]), (Q9, [.slice as_ S.length cs_, .slice (some ⟨gd, 0, none⟩) NN dd]), (Yb, [.int .i64 (sumP ys (wv.plcs N M n T) / 18446744073709551616), .int .u64 (sumP ys (wv.plcs N M n T) % 18446744073709551616)]), (Yc, [.int .i64 ((wv.plcs N M n T).length : Int)]), (X1, [.slice (some ⟨b0, o0 + 2, none⟩) wv.L.length cL, .slice aK wv.K.length cK, .slice aO wv.O.length cO, .slice aK wv.K.length cK, .slice aS wv.S.length cS, .slice aP wv.P.length cP, .slice aD wv.D.length cD]), (X1 + 1, [.int .i64 (n : Int)]), (X1 + 1 + 1, [.int .i64 (M : Int)])] [(.i64, (some ⟨b0, o0, none⟩), xs), (.i64, b, ys), (.i64, aK, wv.K), (.i64, aS, wv.S), (.i64, aP, wv.P), (.i64, aD, wv.D), (.i64, (some ⟨b0, o0 + 2, none⟩), wv.L)] [⟨3, .slice aO wv.O.length cO, wv.O.length, wv.O.map (Value.int .i64)⟩, ⟨3, .slice as1 S.length cs1, S.length, S.map (Value.int .i64)⟩, ⟨3, .slice as_ S.length cs_, S.length, S.map (Value.int .i64)⟩, ⟨2, .slice (some ⟨gd, 0, none⟩) NN dd, NN, LD⟩] ((D + 1, o) :: (D, .deferred (some [])) :: mkM Ds))) (fun _ _ => False) ?hcall ?hdone ?hstop)
    case hstop =>
      intro cc W2 o ho hf
      exact hf.elim
    case hcall =>
      intro fn R hfn hR
      have HR := Lib.hid hR
      clear hR
      have F11 := Lib.hid (((F10.out.recM hD (.deferred (some [])) rfl).frontM.recM (b := D + 1) (by simp [hD]) (.loop (R .ready none)) rfl).frontM)
      have hsz11 : ((w10.alloc (.deferred (some []))).alloc (.loop (R .ready none))).heap.size = D + 2 := by simp [hD]
      obtain ⟨W11, hW11⟩ : ∃ W11, ((w10.alloc (.deferred (some []))).alloc (.loop (R .ready none))) = W11 := ⟨_, rfl⟩
      rw [hW11] at F11 hsz11 ⊢
      have H0 := FrS.of F11.out (fun p hp => (Array.getElem?_eq_some_iff.1 (F11.out.obj p hp).1).1)
      rw [hsz11] at H0
      have HJ0 := Lib.hid H0
      clear hW11 F10 H0 F11
      refine (eachIter 19 (by omega) (D + 1) X1 (X1 + 1) (X1 + 1 + 1) N M n T (D + 2) (some ⟨b0, o0 + 2, none⟩) aK aO aK aS aP aD cL cK cO cK cS cP cD wv.K wv W11 hsz11 (fun k V => FrS (D + 2) w.heap.size w V [(w.heap.size, [.slice (some ⟨b0, o0, none⟩) xs.length c, .slice b ys.length d]), (w.heap.size + 1, [.slice aK wv.K.length cK, .slice aS wv.S.length cS, .slice aP wv.P.length cP, .slice aD wv.D.length cD]), (w.heap.size + 1 + 1, [.slice none 0 0, .slice none 0 0]), (Y7, [.slice (some ⟨b0, o0 + 2, none⟩) wv.L.length cL, .slice aK wv.K.length cK, .slice aO wv.O.length cO, .slice aK wv.K.length cK, .slice aS wv.S.length cS, .slice aP wv.P.length cP, .slice aD wv.D.length cD]), (Q9, [.slice as_ S.length cs_, .slice (some ⟨gd, 0, none⟩) NN dd]), (Yb, [.int .i64 (sumP ys (wv.plcs N M n k) / 18446744073709551616), .int .u64 (sumP ys (wv.plcs N M n k) % 18446744073709551616)]), (Yc, [.int .i64 ((wv.plcs N M n k).length : Int)]), (X1, [.slice (some ⟨b0, o0 + 2, none⟩) wv.L.length cL, .slice aK wv.K.length cK, .slice aO wv.O.length cO, .slice aK wv.K.length cK, .slice aS wv.S.length cS, .slice aP wv.P.length cP, .slice aD wv.D.length cD]), (X1 + 1, [.int .i64 (n : Int)]), (X1 + 1 + 1, [.int .i64 (M : Int)])] [(.i64, (some ⟨b0, o0, none⟩), xs), (.i64, b, ys), (.i64, aK, wv.K), (.i64, aS, wv.S), (.i64, aP, wv.P), (.i64, aD, wv.D), (.i64, (some ⟨b0, o0 + 2, none⟩), wv.L)] [⟨3, .slice aO wv.O.length cO, wv.O.length, wv.O.map (Value.int .i64)⟩, ⟨3, .slice as1 S.length cs1, S.length, S.map (Value.int .i64)⟩, ⟨3, .slice as_ S.length cs_, S.length, S.map (Value.int .i64)⟩, ⟨2, .slice (some ⟨gd, 0, none⟩) NN dd, NN, LD⟩] ((D + 1, .loop (R .ready none)) :: (D, .deferred (some [])) :: mkM Ds)) (fun _ => False) HK.out.hR HK.out.hok HK.out.hr HK.out.gO HGK.out HK.out.hT HK.out.hN hM2 (by omega) (fun k W1 W2 h hb => h.below hb) (fun _ _ h _ => h) (fun _ h => h.elim) ?hJB ?hskip ?hY HJ0.out).mono ?post
      case post =>
        rintro e V ⟨hv, h | h⟩
        · exact ⟨hv, .inl ⟨⟨_, Lib.hid h.fr⟩, h.fr.m 0 rfl⟩⟩
        · exact h.elim
      case hJB =>
        rintro k V h
        exact ⟨h.sz, (h.fr.box _ (List.mem_of_getElem? (i := 7) rfl)).1, (h.fr.box _ (List.mem_of_getElem? (i := 8) rfl)).1, (h.fr.box _ (List.mem_of_getElem? (i := 9) rfl)).1, h.fr.lw 6 rfl, h.fr.lw 2 rfl, h.fr.li 0 (k := .i64) (xs := wv.O) rfl HOWF.out, h.fr.lw 3 rfl, h.fr.lw 4 rfl, h.fr.lw 5 rfl⟩
      case hskip =>
        intro t V1 ht hf hj
        have e : wv.plcs N M n (t + 1) = wv.plcs N M n t := by rw [WinV.plcs_succ, if_neg (by rw [hf]; decide)]
        rw [e]
        exact hj
      case hY =>
        rintro t V1 ht htw hj
        have hps := WinV.plcs_succ wv N M n t
        rw [if_pos htw] at hps
        obtain ⟨p, hp⟩ : ∃ p, (((n / N * M : Nat) : Int) + wv.wI (n % N) t) = p := ⟨_, rfl⟩
        rw [hp] at hps ⊢
        have hpb := HPL.out n hlt (t + 1) p (by rw [hps]; simp)
        have hl1 := HLL.out n t (by omega)
        have hl2 := HLL.out n (t + 1) (by omega)
        have hs1 := sum_bound HYW.out hl1
        have hs2 := sum_bound HYW.out hl2
        have hsn := sum_snoc ys (wv.plcs N M n t) p
        have hln : ((wv.plcs N M n (t + 1)).length : Int) = ((wv.plcs N M n t).length : Int) + 1 := by rw [hps]; simp
        rw [← hps] at hsn
        obtain ⟨sk, hsk⟩ : ∃ z, sumP ys (wv.plcs N M n t) = z := ⟨_, rfl⟩
        obtain ⟨ck, hck⟩ : ∃ z : Nat, (wv.plcs N M n t).length = z := ⟨_, rfl⟩
        rw [hsk] at hsn hs1 hj
        rw [hck] at hln hl1 hj
        rw [hln, hsn]
        rw [hsn] at hs2
        obtain ⟨pz, hpz⟩ : ∃ z : Nat, p = (z : Int) := ⟨p.toNat, by omega⟩
        subst hpz
        have hpz1 : pz < ys.length := by omega
        obtain ⟨yp, hyp⟩ : ∃ x, yAt ys (pz : Int) = x := ⟨_, rfl⟩
        have hyb := yAt_word HYW.out (pz : Int)
        rw [hyp] at hyb hs2
        rw [hyp]
        have hyp2 : ys[pz]?.getD 0 = yp := by rw [← hyp]; unfold yAt; rw [Int.toNat_natCast]
        have HYP := Lib.hid hyp2
        have HFRM := Lib.hid (fun W => from_any yp W (by omega) (by omega))
        have hvy := V_from (y := yp) (by omega) (by omega)
        have hin1 : inR sk := by unfold inR; omega
        have hin2 : inR (sk + yp) := by unfold inR; omega
        have had := fun W => add_in _ _ _ _ W (WR_split hin1) hvy.2 (by rw [V_split, hvy.1]; exact hin2)
        rw [V_split, hvy.1] at had
        have HADD := Lib.hid had
        have hw1 : IntKind.i64.wrap ((ck : Int) + 1) = (ck : Int) + 1 := IntWalk.i64_in _ (by omega)
        have HW1 := Lib.hid hw1
        have hpzi : (pz : Int) < (ys.length : Int) := by omega
        clear hps hp hpb hl1 hl2 hs1 hs2 hsn hln hsk hck hyp hyp2 hyb hvy hin1 hin2 had hw1 HLL HNE HPN
        refine yieldAt_roundR hfn HR.out (hj.fr.m 0 rfl) rfl ?_
        have G1 := Lib.hid (hj.fr.putM 0 rfl (.loop (R .busy none)) rfl)
        simp only [List.set_cons_zero, List.set_cons_succ] at G1
        have HJ := Lib.hid hj
        have HKP := Lib.hid (Kept.putObj (D + 2) V1 (D + 1) (.loop (R .busy none)) (by omega))
        clear hj hfn HJ0
        gi_wp2
        refine ⟨HJ.out.fr.m 0 rfl, ?_⟩
        obtain ⟨V, hV⟩ : ∃ V, V1.putObj (D + 1) (.loop (R .busy none)) = V := ⟨_, rfl⟩
        rw [hV] at G1 HKP ⊢
        clear hV
        obtain ⟨gy, oy, rfl, _, _⟩ := HI1.out.cell pz hpz1
        (repeat gi_step)
        have HSV := Lib.hid (Nat.le_trans HJ.out.sz HKP.out.1)
        refine wpIn_region_inv (w := V) 12 (fun W1 W2 => Kept (D + 2) W1 W2) (fun k9 W => (k9 = 0 → Fr w.heap.size w W [(w.heap.size, [.slice (some ⟨b0, o0, none⟩) xs.length c, .slice (some ⟨gy, oy, none⟩) ys.length d]), (w.heap.size + 1, [.slice aK wv.K.length cK, .slice aS wv.S.length cS, .slice aP wv.P.length cP, .slice aD wv.D.length cD]), (w.heap.size + 1 + 1, [.slice none 0 0, .slice none 0 0]), (Y7, [.slice (some ⟨b0, o0 + 2, none⟩) wv.L.length cL, .slice aK wv.K.length cK, .slice aO wv.O.length cO, .slice aK wv.K.length cK, .slice aS wv.S.length cS, .slice aP wv.P.length cP, .slice aD wv.D.length cD]), (Q9, [.slice as_ S.length cs_, .slice (some ⟨gd, 0, none⟩) NN dd]), (Yb, [.int .i64 (sk / 18446744073709551616), .int .u64 (sk % 18446744073709551616)]), (Yc, [.int .i64 (ck : Int)]), (X1, [.slice (some ⟨b0, o0 + 2, none⟩) wv.L.length cL, .slice aK wv.K.length cK, .slice aO wv.O.length cO, .slice aK wv.K.length cK, .slice aS wv.S.length cS, .slice aP wv.P.length cP, .slice aD wv.D.length cD]), (X1 + 1, [.int .i64 (n : Int)]), (X1 + 1 + 1, [.int .i64 (M : Int)])] [(.i64, (some ⟨b0, o0, none⟩), xs), (.i64, (some ⟨gy, oy, none⟩), ys), (.i64, aK, wv.K), (.i64, aS, wv.S), (.i64, aP, wv.P), (.i64, aD, wv.D), (.i64, (some ⟨b0, o0 + 2, none⟩), wv.L)] [⟨3, .slice aO wv.O.length cO, wv.O.length, wv.O.map (Value.int .i64)⟩, ⟨3, .slice as1 S.length cs1, S.length, S.map (Value.int .i64)⟩, ⟨3, .slice as_ S.length cs_, S.length, S.map (Value.int .i64)⟩, ⟨2, .slice (some ⟨gd, 0, none⟩) NN dd, NN, LD⟩] ((D + 1, .loop (R .busy none)) :: (D, .deferred (some [])) :: mkM Ds)) ∧ (k9 = 1 → Fr w.heap.size w W [(w.heap.size, [.slice (some ⟨b0, o0, none⟩) xs.length c, .slice (some ⟨gy, oy, none⟩) ys.length d]), (w.heap.size + 1, [.slice aK wv.K.length cK, .slice aS wv.S.length cS, .slice aP wv.P.length cP, .slice aD wv.D.length cD]), (w.heap.size + 1 + 1, [.slice none 0 0, .slice none 0 0]), (Y7, [.slice (some ⟨b0, o0 + 2, none⟩) wv.L.length cL, .slice aK wv.K.length cK, .slice aO wv.O.length cO, .slice aK wv.K.length cK, .slice aS wv.S.length cS, .slice aP wv.P.length cP, .slice aD wv.D.length cD]), (Q9, [.slice as_ S.length cs_, .slice (some ⟨gd, 0, none⟩) NN dd]), (Yb, [.int .i64 ((sk + yp) / 18446744073709551616), .int .u64 ((sk + yp) % 18446744073709551616)]), (Yc, [.int .i64 (ck : Int)]), (X1, [.slice (some ⟨b0, o0 + 2, none⟩) wv.L.length cL, .slice aK wv.K.length cK, .slice aO wv.O.length cO, .slice aK wv.K.length cK, .slice aS wv.S.length cS, .slice aP wv.P.length cP, .slice aD wv.D.length cD]), (X1 + 1, [.int .i64 (n : Int)]), (X1 + 1 + 1, [.int .i64 (M : Int)])] [(.i64, (some ⟨b0, o0, none⟩), xs), (.i64, (some ⟨gy, oy, none⟩), ys), (.i64, aK, wv.K), (.i64, aS, wv.S), (.i64, aP, wv.P), (.i64, aD, wv.D), (.i64, (some ⟨b0, o0 + 2, none⟩), wv.L)] [⟨3, .slice aO wv.O.length cO, wv.O.length, wv.O.map (Value.int .i64)⟩, ⟨3, .slice as1 S.length cs1, S.length, S.map (Value.int .i64)⟩, ⟨3, .slice as_ S.length cs_, S.length, S.map (Value.int .i64)⟩, ⟨2, .slice (some ⟨gd, 0, none⟩) NN dd, NN, LD⟩] ((D + 1, .loop (R .busy none)) :: (D, .deferred (some [])) :: mkM Ds))) [11] [(fun u _ => u = .agg #[.int .i64 (sk / 18446744073709551616), .int .u64 (sk % 18446744073709551616)]), (fun u _ => u = .pointer (some ⟨w.heap.size, 1, none⟩)), (fun u _ => u = .slice (some ⟨gy, oy, none⟩) ys.length d), (fun u _ => u = .int .i64 (pz : Int)), (fun u _ => u = .pointer (some ⟨gy, oy + pz, none⟩)), (fun u _ => u = .int .i64 yp), (fun u _ => u = .agg #[.int .i64 (yp / 9223372036854775808), .int .u64 (yp % 18446744073709551616)]), (fun u _ => u = .tuple #[.agg #[.int .i64 ((sk + yp) / 18446744073709551616), .int .u64 ((sk + yp) % 18446744073709551616)], .int .i64 0]), (fun u _ => u = .tuple #[.agg #[.int .i64 ((sk + yp) / 18446744073709551616), .int .u64 ((sk + yp) % 18446744073709551616)], .int .i64 0]), (fun u _ => u = .agg #[.int .i64 ((sk + yp) / 18446744073709551616), .int .u64 ((sk + yp) % 18446744073709551616)]), (fun u _ => u = .int .i64 0), (fun _ _ => True)] [some 40, some 41, some 42, some 43, some 44, some 45, some 46, some 47, some 39, some 48, some 49, none] (by kernel_rfl) (by kernel_rfl) rfl (by kernel_rfl) (by kernel_rfl) (by decide) (by decide) (fun h1 h2 => h1.trans h2) (Kept.of_below (Below.drew (Below.refl _ _))) ⟨fun _ => G1.out.drew, fun h => absurd h (by decide)⟩ (BorneAll.at (.cons (borne_eq _) (.cons (borne_eq _) (.cons (borne_eq _) (.cons (borne_eq _) (.cons (borne_eq _) (.cons (borne_eq _) (.cons (borne_eq _) (.cons (borne_eq _) (.cons (borne_eq _) (.cons (borne_eq _) (.cons (borne_eq _) (.cons (fun _ _ _ _ _ => trivial) .nil))))))))))))) (fun vs b hvl hvb => ?_)
        obtain ⟨x0, x1, x2, x3, x4, x5, x6, x7, x8, x9, x10, x11, rfl⟩ : ∃ x0 x1 x2 x3 x4 x5 x6 x7 x8 x9 x10 x11, vs = [x0, x1, x2, x3, x4, x5, x6, x7, x8, x9, x10, x11] := lw12 hvl
        clear hvl
        simp only [putAll, Act.put, List.setIfInBounds_toArray, List.set_cons_zero, List.set_cons_succ] at hvb
        subst hvb
        refine ⟨(.snoc (.snoc (.snoc (.snoc (.snoc (.snoc (.snoc (.snoc (.snoc (.snoc (.snoc (.snoc .zero (InvObIn.intro (d := (some 40)) (r := fun u _ => u = .agg #[.int .i64 (sk / 18446744073709551616), .int .u64 (sk % 18446744073709551616)]) 0 0 rfl rfl rfl (by kernel_rfl) (by kernel_rfl) rfl ?io12x0)) (InvObIn.intro (d := (some 41)) (r := fun u _ => u = .pointer (some ⟨w.heap.size, 1, none⟩)) 0 0 rfl rfl rfl (by kernel_rfl) (by kernel_rfl) rfl ?io12x1)) (InvObIn.intro (d := (some 42)) (r := fun u _ => u = .slice (some ⟨gy, oy, none⟩) ys.length d) 0 0 rfl rfl rfl (by kernel_rfl) (by kernel_rfl) rfl ?io12x2)) (InvObIn.intro (d := (some 43)) (r := fun u _ => u = .int .i64 (pz : Int)) 0 0 rfl rfl rfl (by kernel_rfl) (by kernel_rfl) rfl ?io12x3)) (InvObIn.intro (d := (some 44)) (r := fun u _ => u = .pointer (some ⟨gy, oy + pz, none⟩)) 0 0 rfl rfl rfl (by kernel_rfl) (by kernel_rfl) rfl ?io12x4)) (InvObIn.intro (d := (some 45)) (r := fun u _ => u = .int .i64 yp) 0 0 rfl rfl rfl (by kernel_rfl) (by kernel_rfl) rfl ?io12x5)) (InvObIn.intro (d := (some 46)) (r := fun u _ => u = .agg #[.int .i64 (yp / 9223372036854775808), .int .u64 (yp % 18446744073709551616)]) 0 0 rfl rfl rfl (by kernel_rfl) (by kernel_rfl) rfl ?io12x6)) (InvObIn.intro (d := (some 47)) (r := fun u _ => u = .tuple #[.agg #[.int .i64 ((sk + yp) / 18446744073709551616), .int .u64 ((sk + yp) % 18446744073709551616)], .int .i64 0]) 0 0 rfl rfl rfl (by kernel_rfl) (by kernel_rfl) rfl ?io12x7)) (InvObIn.intro (d := (some 39)) (r := fun u _ => u = .tuple #[.agg #[.int .i64 ((sk + yp) / 18446744073709551616), .int .u64 ((sk + yp) % 18446744073709551616)], .int .i64 0]) 0 0 rfl rfl rfl (by kernel_rfl) (by kernel_rfl) rfl ?io12x8)) (InvObIn.intro (d := (some 48)) (r := fun u _ => u = .agg #[.int .i64 ((sk + yp) / 18446744073709551616), .int .u64 ((sk + yp) % 18446744073709551616)]) 0 0 rfl rfl rfl (by kernel_rfl) (by kernel_rfl) rfl ?io12x9)) (InvObIn.intro (d := (some 49)) (r := fun u _ => u = .int .i64 0) 0 1 rfl rfl rfl (by kernel_rfl) (by kernel_rfl) rfl ?io12x10)) (InvObIn.put (d := none) (r := fun _ _ => True) 0 rfl rfl rfl (by kernel_rfl) (by kernel_rfl) rfl ?io12x11)), ?iend12⟩
        case io12x0 =>
          intro k1 w1 hk0 hk1 hb1 hS hd KK hK
          clear hd
          have hF := hS.1 (by omega)
          have k0 := hF.c 5 0 rfl rfl
          have k1 := hF.c 5 1 rfl rfl
          simp only [Act.put, List.setIfInBounds_toArray, List.set_cons_zero, List.set_cons_succ] at hK
          go_simp
          first | exact hK.out _ _ (Kept.refl _ _) hS rfl | (have hk := hK.out _ _ (Kept.refl _ _) hS rfl; revert hk; go_simp)
        case io12x1 =>
          intro k1 w1 hk0 hk1 hb1 hS hd KK hK
          clear hd
          simp only [Act.put, List.setIfInBounds_toArray, List.set_cons_zero, List.set_cons_succ] at hK
          go_simp
          first | exact hK.out _ _ (Kept.refl _ _) hS rfl | (have hk := hK.out _ _ (Kept.refl _ _) hS rfl; revert hk; go_simp)
        case io12x2 =>
          intro k1 w1 hk0 hk1 hb1 hS hd KK hK
          have d1 : x1 = .pointer (some ⟨w.heap.size, 1, none⟩) := hd 1 (by kernel_rfl)
          clear hd
          subst d1
          have hF := hS.1 (by omega)
          have k0 := hF.c 0 0 rfl rfl
          have k1 := hF.c 0 1 rfl rfl
          simp only [Act.put, List.setIfInBounds_toArray, List.set_cons_zero, List.set_cons_succ] at hK
          go_simp
          first | exact hK.out _ _ (Kept.refl _ _) hS rfl | (have hk := hK.out _ _ (Kept.refl _ _) hS rfl; revert hk; go_simp)
        case io12x3 =>
          intro k1 w1 hk0 hk1 hb1 hS hd KK hK
          clear hd
          simp only [Act.put, List.setIfInBounds_toArray, List.set_cons_zero, List.set_cons_succ] at hK
          go_simp
          first | exact hK.out _ _ (Kept.refl _ _) hS rfl | (have hk := hK.out _ _ (Kept.refl _ _) hS rfl; revert hk; go_simp)
        case io12x4 =>
          intro k1 w1 hk0 hk1 hb1 hS hd KK hK
          have d2 : x2 = .slice (some ⟨gy, oy, none⟩) ys.length d := hd 2 (by kernel_rfl)
          have d3 : x3 = .int .i64 (pz : Int) := hd 3 (by kernel_rfl)
          clear hd
          subst d2
          subst d3
          simp only [Act.put, List.setIfInBounds_toArray, List.set_cons_zero, List.set_cons_succ] at hK
          go_simp
          first | exact hK.out _ _ (Kept.refl _ _) hS rfl | (have hk := hK.out _ _ (Kept.refl _ _) hS rfl; revert hk; go_simp)
        case io12x5 =>
          intro k1 w1 hk0 hk1 hb1 hS hd KK hK
          have d4 : x4 = .pointer (some ⟨gy, oy + pz, none⟩) := hd 4 (by kernel_rfl)
          clear hd
          subst d4
          have hF := hS.1 (by omega)
          have k0 := hF.c 0 0 rfl rfl
          have k1 := hF.c 0 1 rfl rfl
          obtain ⟨b9, o9, he, _, hcx⟩ := (hF.l 1 rfl).cell pz hpz1
          cases he
          rw [HYP.out] at hcx
          simp only [Act.put, List.setIfInBounds_toArray, List.set_cons_zero, List.set_cons_succ] at hK
          go_simp
          first | exact hK.out _ _ (Kept.refl _ _) hS rfl | (have hk := hK.out _ _ (Kept.refl _ _) hS rfl; revert hk; go_simp)
        case io12x6 =>
          intro k1 w1 hk0 hk1 hb1 hS hd KK hK
          have d5 : x5 = .int .i64 yp := hd 5 (by kernel_rfl)
          clear hd
          subst d5
          simp only [Act.put, List.setIfInBounds_toArray, List.set_cons_zero, List.set_cons_succ] at hK
          go_simp
          (repeat gi_step)
          refine ⟨trivial, ?_⟩
          refine ((CallsIn.inRound (D + 1) (callsIn_wide.2 (HFRM.out w1) : CallsIn Fence.wide 15 _ _ _ _ _))).mono ?_
          rintro e w2 ⟨rfl, hb⟩
          (try gi_wp2_with fail)
          first | exact hK.out _ _ (Kept.of_below hb) ⟨fun h => (hS.1 h).next hb, fun h => (hS.2 h).next hb⟩ rfl | (have hk := hK.out _ _ (Kept.of_below hb) ⟨fun h => (hS.1 h).next hb, fun h => (hS.2 h).next hb⟩ rfl; revert hk; go_simp)
        case io12x7 =>
          intro k1 w1 hk0 hk1 hb1 hS hd KK hK
          have d0 : x0 = .agg #[.int .i64 (sk / 18446744073709551616), .int .u64 (sk % 18446744073709551616)] := hd 0 (by kernel_rfl)
          have d6 : x6 = .agg #[.int .i64 (yp / 9223372036854775808), .int .u64 (yp % 18446744073709551616)] := hd 6 (by kernel_rfl)
          clear hd
          subst d0
          subst d6
          simp only [Act.put, List.setIfInBounds_toArray, List.set_cons_zero, List.set_cons_succ] at hK
          go_simp
          (repeat gi_step)
          refine ⟨trivial, ?_⟩
          refine ((CallsIn.inRound (D + 1) (callsIn_wide.2 (HADD.out w1) : CallsIn Fence.wide 15 _ _ _ _ _))).mono ?_
          rintro e w2 ⟨rfl, hb⟩
          (try gi_wp2_with fail)
          first | exact hK.out _ _ (Kept.of_below hb) ⟨fun h => (hS.1 h).next hb, fun h => (hS.2 h).next hb⟩ rfl | (have hk := hK.out _ _ (Kept.of_below hb) ⟨fun h => (hS.1 h).next hb, fun h => (hS.2 h).next hb⟩ rfl; revert hk; go_simp)
        case io12x8 =>
          intro k1 w1 hk0 hk1 hb1 hS hd KK hK
          have d7 : x7 = .tuple #[.agg #[.int .i64 ((sk + yp) / 18446744073709551616), .int .u64 ((sk + yp) % 18446744073709551616)], .int .i64 0] := hd 7 (by kernel_rfl)
          clear hd
          subst d7
          simp only [Act.put, List.setIfInBounds_toArray, List.set_cons_zero, List.set_cons_succ] at hK
          go_simp
          first | exact hK.out _ _ (Kept.refl _ _) hS rfl | (have hk := hK.out _ _ (Kept.refl _ _) hS rfl; revert hk; go_simp)
        case io12x9 =>
          intro k1 w1 hk0 hk1 hb1 hS hd KK hK
          have d8 : x8 = .tuple #[.agg #[.int .i64 ((sk + yp) / 18446744073709551616), .int .u64 ((sk + yp) % 18446744073709551616)], .int .i64 0] := hd 8 (by kernel_rfl)
          clear hd
          subst d8
          simp only [Act.put, List.setIfInBounds_toArray, List.set_cons_zero, List.set_cons_succ] at hK
          go_simp
          first | exact hK.out _ _ (Kept.refl _ _) hS rfl | (have hk := hK.out _ _ (Kept.refl _ _) hS rfl; revert hk; go_simp)
        case io12x10 =>
          intro k1 w1 hk0 hk1 hb1 hS hd KK hK
          have d8 : x8 = .tuple #[.agg #[.int .i64 ((sk + yp) / 18446744073709551616), .int .u64 ((sk + yp) % 18446744073709551616)], .int .i64 0] := hd 8 (by kernel_rfl)
          clear hd
          subst d8
          simp only [Act.put, List.setIfInBounds_toArray, List.set_cons_zero, List.set_cons_succ] at hK
          go_simp
          first | exact hK.out _ _ (Kept.refl _ _) hS rfl | (have hk := hK.out _ _ (Kept.refl _ _) hS rfl; revert hk; go_simp)
        case io12x11 =>
          intro w1 hb1 hS hd KK hK
          have d0 : x0 = .agg #[.int .i64 (sk / 18446744073709551616), .int .u64 (sk % 18446744073709551616)] := hd 0 (by kernel_rfl)
          have d1 : x1 = .pointer (some ⟨w.heap.size, 1, none⟩) := hd 1 (by kernel_rfl)
          have d2 : x2 = .slice (some ⟨gy, oy, none⟩) ys.length d := hd 2 (by kernel_rfl)
          have d3 : x3 = .int .i64 (pz : Int) := hd 3 (by kernel_rfl)
          have d4 : x4 = .pointer (some ⟨gy, oy + pz, none⟩) := hd 4 (by kernel_rfl)
          have d5 : x5 = .int .i64 yp := hd 5 (by kernel_rfl)
          have d6 : x6 = .agg #[.int .i64 (yp / 9223372036854775808), .int .u64 (yp % 18446744073709551616)] := hd 6 (by kernel_rfl)
          have d7 : x7 = .tuple #[.agg #[.int .i64 ((sk + yp) / 18446744073709551616), .int .u64 ((sk + yp) % 18446744073709551616)], .int .i64 0] := hd 7 (by kernel_rfl)
          have d8 : x8 = .tuple #[.agg #[.int .i64 ((sk + yp) / 18446744073709551616), .int .u64 ((sk + yp) % 18446744073709551616)], .int .i64 0] := hd 8 (by kernel_rfl)
          have d9 : x9 = .agg #[.int .i64 ((sk + yp) / 18446744073709551616), .int .u64 ((sk + yp) % 18446744073709551616)] := hd 9 (by kernel_rfl)
          clear hd
          subst d0
          subst d1
          subst d2
          subst d3
          subst d4
          subst d5
          subst d6
          subst d7
          subst d8
          subst d9
          have hF := hS.1 rfl
          have k0 := hF.c 5 0 rfl rfl
          have k1 := hF.c 5 1 rfl rfl
          have kf0 := hF.f 5 0 rfl rfl
          have kf1 := hF.f 5 1 rfl rfl
          simp only [Act.put, List.setIfInBounds_toArray, List.set_cons_zero, List.set_cons_succ] at hK
          go_simp
          first | exact hK.out undef _ ((Kept.of_grown (row := some Yb) (Go.Lib.grownBy_setCell (w1) Yb 0 (.int .i64 ((sk + yp) / 18446744073709551616))) (fun e he => by injection he with he; have := HJ.out.bB _ (List.mem_of_getElem? (i := 5) rfl); omega)).trans (Kept.of_grown (row := some Yb) (Go.Lib.grownBy_setCell (w1.setCell ⟨Yb, 0, none⟩ (.int .i64 ((sk + yp) / 18446744073709551616))) Yb 1 (.int .u64 ((sk + yp) % 18446744073709551616))) (fun e he => by injection he with he; have := HJ.out.bB _ (List.mem_of_getElem? (i := 5) rfl); omega))) ⟨fun h => absurd h (by decide), fun _ => by have hp := hF.set 5 rfl (by simp) [.int .i64 ((sk + yp) / 18446744073709551616), .int .u64 ((sk + yp) % 18446744073709551616)] rfl; simp only [setL, Nat.reduceAdd, List.set_cons_zero, List.set_cons_succ] at hp; exact hp⟩ trivial | (have hk := hK.out undef _ ((Kept.of_grown (row := some Yb) (Go.Lib.grownBy_setCell (w1) Yb 0 (.int .i64 ((sk + yp) / 18446744073709551616))) (fun e he => by injection he with he; have := HJ.out.bB _ (List.mem_of_getElem? (i := 5) rfl); omega)).trans (Kept.of_grown (row := some Yb) (Go.Lib.grownBy_setCell (w1.setCell ⟨Yb, 0, none⟩ (.int .i64 ((sk + yp) / 18446744073709551616))) Yb 1 (.int .u64 ((sk + yp) % 18446744073709551616))) (fun e he => by injection he with he; have := HJ.out.bB _ (List.mem_of_getElem? (i := 5) rfl); omega))) ⟨fun h => absurd h (by decide), fun _ => by have hp := hF.set 5 rfl (by simp) [.int .i64 ((sk + yp) / 18446744073709551616), .int .u64 ((sk + yp) % 18446744073709551616)] rfl; simp only [setL, Nat.reduceAdd, List.set_cons_zero, List.set_cons_succ] at hp; exact hp⟩ trivial; revert hk; go_simp)
        case iend12 =>
          intro w1 hb1 hS hR
          have d0 : x0 = .agg #[.int .i64 (sk / 18446744073709551616), .int .u64 (sk % 18446744073709551616)] := hR 0 (by decide)
          have d1 : x1 = .pointer (some ⟨w.heap.size, 1, none⟩) := hR 1 (by decide)
          have d2 : x2 = .slice (some ⟨gy, oy, none⟩) ys.length d := hR 2 (by decide)
          have d3 : x3 = .int .i64 (pz : Int) := hR 3 (by decide)
          have d4 : x4 = .pointer (some ⟨gy, oy + pz, none⟩) := hR 4 (by decide)
          have d5 : x5 = .int .i64 yp := hR 5 (by decide)
          have d6 : x6 = .agg #[.int .i64 (yp / 9223372036854775808), .int .u64 (yp % 18446744073709551616)] := hR 6 (by decide)
          have d7 : x7 = .tuple #[.agg #[.int .i64 ((sk + yp) / 18446744073709551616), .int .u64 ((sk + yp) % 18446744073709551616)], .int .i64 0] := hR 7 (by decide)
          have d8 : x8 = .tuple #[.agg #[.int .i64 ((sk + yp) / 18446744073709551616), .int .u64 ((sk + yp) % 18446744073709551616)], .int .i64 0] := hR 8 (by decide)
          have d9 : x9 = .agg #[.int .i64 ((sk + yp) / 18446744073709551616), .int .u64 ((sk + yp) % 18446744073709551616)] := hR 9 (by decide)
          have d10 : x10 = .int .i64 0 := hR 10 (by decide)
          clear hR
          subst d0
          subst d1
          subst d2
          subst d3
          subst d4
          subst d5
          subst d6
          subst d7
          subst d8
          subst d9
          subst d10
          try simp only [putAll, Act.put, List.setIfInBounds_toArray, List.set_cons_zero, List.set_cons_succ]
          have G4 := Lib.hid (hS.2 rfl)
          have HK2 := Lib.hid (HKP.out.trans hb1)
          clear hS hb1 G1
          obtain ⟨V2, rfl⟩ : ∃ x : World, x = w1 := ⟨_, rfl⟩
          have q0 := G4.out.c 6 0 rfl rfl
          have qf0 := G4.out.f 6 0 rfl rfl
          have hwx := HW1.out
          (repeat gi_step)
          have G5 := G4.out.set 6 rfl (by simp) [.int .i64 ((ck : Int) + 1)] rfl
          simp only [setL, Nat.reduceAdd, List.set_cons_zero, List.set_cons_succ] at G5
          have G6 := G5.putM 0 rfl (.loop (R .ready none)) rfl
          have HK3 := Lib.hid ((HK2.out.trans (Kept.of_grown (row := some Yc) (Go.Lib.grownBy_setCell (V2) Yc 0 (.int .i64 ((ck : Int) + 1))) (fun e he => by injection he with he; have := HJ.out.bB _ (List.mem_of_getElem? (i := 6) rfl); omega))).trans (Kept.putObj (D + 2) _ (D + 1) (.loop (R .ready none)) (by omega)))
          simp only [List.set_cons_zero, List.set_cons_succ] at G6
          have hj := HJ.out
          refine ⟨G5.m 0 rfl, HK3.out, ?_⟩
          exact ⟨G6, hj.lS, by have h9 := HK3.out.1; have h8 := hj.sz; exact Nat.le_trans h8 h9, by have h9 := hj.bB; simp only [List.mem_cons, List.not_mem_nil, or_false, forall_eq_or_imp, forall_eq] at h9 ⊢; exact h9, hj.bO, by have h9 := hj.bM; simp only [List.mem_cons, forall_eq_or_imp] at h9 ⊢; exact h9⟩
    case hdone =>
      rintro V o ho ⟨o2, F12⟩
      have FY := Lib.hid ((F12.out.putM 0 rfl o ho).less (.refl _) (.refl _) (.refl _) (List.sublist_cons_self _ _))
      try simp only [List.set_cons_zero, List.set_cons_succ] at FY
      generalize V.putObj (D + 1) o = V3 at *
      clear F12 F10 hD
      have hl1 := HLL.out n T (Nat.le_refl _)
      have hs1 := sum_bound HYW.out hl1
      have hne := List.length_pos_iff.2 (HNE.out n)
      have haw := av_word (wv := wv) HYW.out (HNE.out n)
      rw [← HAD.out n] at haw
      have hpn := HPN.out
      obtain ⟨sT, hsT⟩ : ∃ z, sumP ys (wv.plcs N M n T) = z := ⟨_, rfl⟩
      obtain ⟨cT, hcT⟩ : ∃ z : Nat, (wv.plcs N M n T).length = z := ⟨_, rfl⟩
      rw [hsT] at hs1 hpn FY
      rw [hcT] at hl1 hne hpn FY
      obtain ⟨r, hr⟩ : ∃ z, AF n = z := ⟨_, rfl⟩
      rw [hr] at haw hpn
      obtain ⟨hrn, hrc⟩ := round_cn (s := sT) (cn := cT) hs1 hne hl1
      rw [← hpn] at hrn hrc
      have hnr := fun W => narrow_any _ _ W (WR_split hrn)
      rw [V_split] at hnr
      have hv1 : wordV r = r := by unfold wordV; rw [haw]; rfl
      have hv2 : wordE r = 0 := by unfold wordE; rw [haw]; rfl
      rw [hv1, hv2] at hnr
      have HRC := Lib.hid hrc
      have HNR := Lib.hid hnr
      have HFC := Lib.hid (fun W => from_any (cT : Int) W (by omega) (by omega))
      have hsD := upto_set AF hlt
      rw [HLD.out, hr] at hsD
      have hgD := upto_get AF (n := n) hlt
      rw [HLD.out] at hgD
      have HSD := Lib.hid hsD
      have HGD := Lib.hid hgD
      clear hl1 hs1 hne haw hpn hsT hcT hr hrn hrc hnr hv1 hv2 hsD hgD HPN HNE HLL
      go_upto_region 14 with fail
      refine wp_calm ?_
      refine wp_region_parts2 (w := V3) 8 2 (some 6) [] [(fun u _ => u = .agg #[.int .i64 (sT / 18446744073709551616), .int .u64 (sT % 18446744073709551616)]), (fun u _ => u = .int .i64 (cT : Int)), (fun u _ => u = .agg #[.int .i64 ((cT : Int) / 9223372036854775808), .int .u64 ((cT : Int) % 18446744073709551616)]), (fun u _ => u = .tuple #[.agg #[.int .i64 (r / 18446744073709551616), .int .u64 (r % 18446744073709551616)], .int .i64 0]), (fun u _ => u = .tuple #[.agg #[.int .i64 (r / 18446744073709551616), .int .u64 (r % 18446744073709551616)], .int .i64 0]), (fun u _ => u = .agg #[.int .i64 (r / 18446744073709551616), .int .u64 (r % 18446744073709551616)]), (fun u _ => u = .int .i64 0), ((IsObj V3.heap.size [.int .i64 0, .int .u64 0] 77))] [some 53, some 54, some 55, some 56, some 52, some 57, some 58, some 14, none, some 15] #[true, true, true, true, true, true, true, true, false, false] #[true, true, true, true, true, true, false, true, false, false] (by kernel_rfl) rfl (by kernel_rfl) (by kernel_rfl) rfl (by kernel_rfl) (by kernel_rfl) (.cons (carries_eq _) (.cons (carries_eq _) (.cons (carries_eq _) (.cons (carries_eq _) (.cons (carries_eq _) (.cons (carries_eq _) (.cons (carries_eq _) (.cons (isObj_carries _ _ _) .nil)))))))) (fun vs b hvl hvb => ?_)
      obtain ⟨x0, x1, x2, x3, x4, x5, x6, x7, x8, x9, rfl⟩ : ∃ x0 x1 x2 x3 x4 x5 x6 x7 x8 x9, vs = [x0, x1, x2, x3, x4, x5, x6, x7, x8, x9] := lw10 hvl
      clear hvl
      simp only [putAll, Act.put, List.setIfInBounds_toArray, List.set_cons_zero, List.set_cons_succ] at hvb
      subst hvb
      refine ⟨(.snoc (.snoc (.snoc (.snoc (.snoc (.snoc (.snoc (.snoc .zero (PartOb.intro (d := (some 53)) (r := fun u _ => u = .agg #[.int .i64 (sT / 18446744073709551616), .int .u64 (sT % 18446744073709551616)]) rfl rfl rfl rfl ?po14x0)) (PartOb.intro (d := (some 54)) (r := fun u _ => u = .int .i64 (cT : Int)) rfl rfl rfl rfl ?po14x1)) (PartOb.intro (d := (some 55)) (r := fun u _ => u = .agg #[.int .i64 ((cT : Int) / 9223372036854775808), .int .u64 ((cT : Int) % 18446744073709551616)]) rfl rfl rfl rfl ?po14x2)) (PartOb.intro (d := (some 56)) (r := fun u _ => u = .tuple #[.agg #[.int .i64 (r / 18446744073709551616), .int .u64 (r % 18446744073709551616)], .int .i64 0]) rfl rfl rfl rfl ?po14x3)) (PartOb.intro (d := (some 52)) (r := fun u _ => u = .tuple #[.agg #[.int .i64 (r / 18446744073709551616), .int .u64 (r % 18446744073709551616)], .int .i64 0]) rfl rfl rfl rfl ?po14x4)) (PartOb.intro (d := (some 57)) (r := fun u _ => u = .agg #[.int .i64 (r / 18446744073709551616), .int .u64 (r % 18446744073709551616)]) rfl rfl rfl rfl ?po14x5)) (PartOb.intro (d := (some 58)) (r := fun u _ => u = .int .i64 0) rfl rfl rfl rfl ?po14x6)) (PartOb.intro (d := (some 14)) (r := (IsObj V3.heap.size [.int .i64 0, .int .u64 0] 77)) rfl rfl rfl rfl ?po14x7)), ?pend14, ?pfl14⟩
      case po14x0 =>
        intro w1 hb1 hd KK hK
        clear hd
        have hF := FY.out.next hb1
        have k0 := hF.c 5 0 rfl rfl
        have k1 := hF.c 5 1 rfl rfl
        simp only [Act.put, List.setIfInBounds_toArray, List.set_cons_zero, List.set_cons_succ] at hK
        go_simp
        first | exact hK.out _ _ (Below.refl _ _) rfl | (have hk := hK.out _ _ (Below.refl _ _) rfl; revert hk; go_simp)
      case po14x1 =>
        intro w1 hb1 hd KK hK
        clear hd
        have hF := FY.out.next hb1
        have k0 := hF.c 6 0 rfl rfl
        simp only [Act.put, List.setIfInBounds_toArray, List.set_cons_zero, List.set_cons_succ] at hK
        go_simp
        first | exact hK.out _ _ (Below.refl _ _) rfl | (have hk := hK.out _ _ (Below.refl _ _) rfl; revert hk; go_simp)
      case po14x2 =>
        intro w1 hb1 hd KK hK
        have d1 : x1 = .int .i64 (cT : Int) := hd 1 (by kernel_rfl)
        clear hd
        subst d1
        simp only [Act.put, List.setIfInBounds_toArray, List.set_cons_zero, List.set_cons_succ] at hK
        go_simp
        go_at_call 36
        refine (HFC.out w1).mono ?_
        rintro e w2 ⟨rfl, hb⟩
        (try go_wp2_with fail)
        first | exact hK.out _ _ hb rfl | (have hk := hK.out _ _ hb rfl; revert hk; go_simp)
      case po14x3 =>
        intro w1 hb1 hd KK hK
        have d0 : x0 = .agg #[.int .i64 (sT / 18446744073709551616), .int .u64 (sT % 18446744073709551616)] := hd 0 (by kernel_rfl)
        have d2 : x2 = .agg #[.int .i64 ((cT : Int) / 9223372036854775808), .int .u64 ((cT : Int) % 18446744073709551616)] := hd 2 (by kernel_rfl)
        clear hd
        subst d0
        subst d2
        simp only [Act.put, List.setIfInBounds_toArray, List.set_cons_zero, List.set_cons_succ] at hK
        go_simp
        go_at_call 37
        refine (HRC.out w1).mono ?_
        rintro e w2 ⟨rfl, hb⟩
        (try go_wp2_with fail)
        first | exact hK.out _ _ hb rfl | (have hk := hK.out _ _ hb rfl; revert hk; go_simp)
      case po14x4 =>
        intro w1 hb1 hd KK hK
        have d3 : x3 = .tuple #[.agg #[.int .i64 (r / 18446744073709551616), .int .u64 (r % 18446744073709551616)], .int .i64 0] := hd 3 (by kernel_rfl)
        clear hd
        subst d3
        simp only [Act.put, List.setIfInBounds_toArray, List.set_cons_zero, List.set_cons_succ] at hK
        go_simp
        first | exact hK.out _ _ (Below.refl _ _) rfl | (have hk := hK.out _ _ (Below.refl _ _) rfl; revert hk; go_simp)
      case po14x5 =>
        intro w1 hb1 hd KK hK
        have d4 : x4 = .tuple #[.agg #[.int .i64 (r / 18446744073709551616), .int .u64 (r % 18446744073709551616)], .int .i64 0] := hd 4 (by kernel_rfl)
        clear hd
        subst d4
        simp only [Act.put, List.setIfInBounds_toArray, List.set_cons_zero, List.set_cons_succ] at hK
        go_simp
        first | exact hK.out _ _ (Below.refl _ _) rfl | (have hk := hK.out _ _ (Below.refl _ _) rfl; revert hk; go_simp)
      case po14x6 =>
        intro w1 hb1 hd KK hK
        have d4 : x4 = .tuple #[.agg #[.int .i64 (r / 18446744073709551616), .int .u64 (r % 18446744073709551616)], .int .i64 0] := hd 4 (by kernel_rfl)
        clear hd
        subst d4
        simp only [Act.put, List.setIfInBounds_toArray, List.set_cons_zero, List.set_cons_succ] at hK
        go_simp
        first | exact hK.out _ _ (Below.refl _ _) rfl | (have hk := hK.out _ _ (Below.refl _ _) rfl; revert hk; go_simp)
      case po14x7 =>
        intro w1 hb1 hd KK hK
        clear hd
        simp only [Act.put, List.setIfInBounds_toArray, List.set_cons_zero, List.set_cons_succ] at hK
        go_simp
        first | exact hK.out _ _ ((Below.refl _ _).alloc (Nat.le_refl _) _) (isObj_new _ _ _ w1 hb1.size) | (have hk := hK.out _ _ ((Below.refl _ _).alloc (Nat.le_refl _) _) (isObj_new _ _ _ w1 hb1.size); revert hk; go_simp)
      case pend14 =>
        intro w1 hb1 hR hD
        have d0 : x0 = .agg #[.int .i64 (sT / 18446744073709551616), .int .u64 (sT % 18446744073709551616)] := hR 0 (by decide)
        have d1 : x1 = .int .i64 (cT : Int) := hR 1 (by decide)
        have d2 : x2 = .agg #[.int .i64 ((cT : Int) / 9223372036854775808), .int .u64 ((cT : Int) % 18446744073709551616)] := hR 2 (by decide)
        have d3 : x3 = .tuple #[.agg #[.int .i64 (r / 18446744073709551616), .int .u64 (r % 18446744073709551616)], .int .i64 0] := hR 3 (by decide)
        have d4 : x4 = .tuple #[.agg #[.int .i64 (r / 18446744073709551616), .int .u64 (r % 18446744073709551616)], .int .i64 0] := hR 4 (by decide)
        have d5 : x5 = .agg #[.int .i64 (r / 18446744073709551616), .int .u64 (r % 18446744073709551616)] := hR 5 (by decide)
        have d6 : x6 = .int .i64 0 := hR 6 (by decide)
        have d7 : (IsObj V3.heap.size [.int .i64 0, .int .u64 0] 77) x7 w1 := hR 7 (by decide)
        clear hR hD
        subst d0
        subst d1
        subst d2
        subst d3
        subst d4
        subst d5
        subst d6
        obtain ⟨b7, rfl, hl7, ho7⟩ := d7
        refine wpAny_ready (rs := [8]) (by kernel_rfl) (by simp) (AllReady.cons rfl (fun KK hK => ?_) AllReady.nil)
        have G3 := FY.out.join2 (Fr.one hb1 hl7 ho7)
        simp only [List.cons_append, List.nil_append, List.append_nil] at G3
        have k0 := G3.c 10 0 rfl rfl
        have k1 := G3.c 10 1 rfl rfl
        have kf0 := G3.f 10 0 rfl rfl
        have kf1 := G3.f 10 1 rfl rfl
        go_simp
        refine hK _ _ ?_
        clear hK KK
        try simp only [putAll, Act.put, List.setIfInBounds_toArray, List.set_cons_zero, List.set_cons_succ]
        refine wpAny_ready (rs := [9]) (by kernel_rfl) (by simp) (AllReady.cons rfl (fun KK hK => ?_) AllReady.nil)
        go_simp
        refine hK _ _ ?_
        clear hK KK
        try simp only [putAll, Act.put, List.setIfInBounds_toArray, List.set_cons_zero, List.set_cons_succ]
        refine wpAny_done (by kernel_rfl) ?_ _
        dsimp only
        have F7 := Lib.hid (G3.set 10 rfl (by simp) [.int .i64 (r / 18446744073709551616), .int .u64 (r % 18446744073709551616)] rfl)
        simp only [setL, Nat.reduceAdd, List.set_cons_zero, List.set_cons_succ] at F7
        obtain ⟨W7, hW7⟩ : ∃ x, (w1.setCell ⟨b7, 0, none⟩ (.int .i64 (r / 18446744073709551616))).setCell ⟨b7, 1, none⟩ (.int .u64 (r % 18446744073709551616)) = x := ⟨_, rfl⟩
        rw [hW7] at F7 ⊢
        clear hW7 G3 k0 k1 kf0 kf1 hb1 hl7 ho7 FY
        go_upto_region 15 with fail
        refine wp_calm ?_
        refine wp_region_parts2 (w := W7) 9 1 (some 7) [] [(fun u _ => u = .pointer (some ⟨Q9, 1, none⟩)), (fun u _ => u = .slice (some ⟨gd, 0, none⟩) NN dd), (fun u _ => u = .int .i64 (n : Int)), (fun u _ => u = .agg #[.int .i64 (r / 18446744073709551616), .int .u64 (r % 18446744073709551616)]), (fun u _ => u = .tuple #[.int .i64 r, .int .i64 0]), (fun u _ => u = .tuple #[.int .i64 r, .int .i64 0]), (fun u _ => u = .int .i64 r), (fun u _ => u = .int .i64 0), (fun u _ => u = .pointer (some ⟨gd, n, none⟩))] [some 60, some 61, some 62, some 63, some 64, some 59, some 65, some 66, some 67, none] #[true, true, true, true, true, true, true, true, true, false] #[true, true, true, true, true, true, true, false, true, false] (by kernel_rfl) rfl (by kernel_rfl) (by kernel_rfl) rfl (by kernel_rfl) (by kernel_rfl) (.cons (carries_eq _) (.cons (carries_eq _) (.cons (carries_eq _) (.cons (carries_eq _) (.cons (carries_eq _) (.cons (carries_eq _) (.cons (carries_eq _) (.cons (carries_eq _) (.cons (carries_eq _) .nil))))))))) (fun vs b hvl hvb => ?_)
        obtain ⟨x0, x1, x2, x3, x4, x5, x6, x7, x8, x9, rfl⟩ : ∃ x0 x1 x2 x3 x4 x5 x6 x7 x8 x9, vs = [x0, x1, x2, x3, x4, x5, x6, x7, x8, x9] := lw10 hvl
        clear hvl
        simp only [putAll, Act.put, List.setIfInBounds_toArray, List.set_cons_zero, List.set_cons_succ] at hvb
        subst hvb
        refine ⟨(.snoc (.snoc (.snoc (.snoc (.snoc (.snoc (.snoc (.snoc (.snoc .zero (PartOb.intro (d := (some 60)) (r := fun u _ => u = .pointer (some ⟨Q9, 1, none⟩)) rfl rfl rfl rfl ?po15x0)) (PartOb.intro (d := (some 61)) (r := fun u _ => u = .slice (some ⟨gd, 0, none⟩) NN dd) rfl rfl rfl rfl ?po15x1)) (PartOb.intro (d := (some 62)) (r := fun u _ => u = .int .i64 (n : Int)) rfl rfl rfl rfl ?po15x2)) (PartOb.intro (d := (some 63)) (r := fun u _ => u = .agg #[.int .i64 (r / 18446744073709551616), .int .u64 (r % 18446744073709551616)]) rfl rfl rfl rfl ?po15x3)) (PartOb.intro (d := (some 64)) (r := fun u _ => u = .tuple #[.int .i64 r, .int .i64 0]) rfl rfl rfl rfl ?po15x4)) (PartOb.intro (d := (some 59)) (r := fun u _ => u = .tuple #[.int .i64 r, .int .i64 0]) rfl rfl rfl rfl ?po15x5)) (PartOb.intro (d := (some 65)) (r := fun u _ => u = .int .i64 r) rfl rfl rfl rfl ?po15x6)) (PartOb.intro (d := (some 66)) (r := fun u _ => u = .int .i64 0) rfl rfl rfl rfl ?po15x7)) (PartOb.intro (d := (some 67)) (r := fun u _ => u = .pointer (some ⟨gd, n, none⟩)) rfl rfl rfl rfl ?po15x8)), ?pend15, ?pfl15⟩
        case po15x0 =>
          intro w1 hb1 hd KK hK
          clear hd
          simp only [Act.put, List.setIfInBounds_toArray, List.set_cons_zero, List.set_cons_succ] at hK
          go_simp
          first | exact hK.out _ _ (Below.refl _ _) rfl | (have hk := hK.out _ _ (Below.refl _ _) rfl; revert hk; go_simp)
        case po15x1 =>
          intro w1 hb1 hd KK hK
          have d0 : x0 = .pointer (some ⟨Q9, 1, none⟩) := hd 0 (by kernel_rfl)
          clear hd
          subst d0
          have hF := F7.out.next hb1
          have k0 := hF.c 4 0 rfl rfl
          have k1 := hF.c 4 1 rfl rfl
          simp only [Act.put, List.setIfInBounds_toArray, List.set_cons_zero, List.set_cons_succ] at hK
          go_simp
          first | exact hK.out _ _ (Below.refl _ _) rfl | (have hk := hK.out _ _ (Below.refl _ _) rfl; revert hk; go_simp)
        case po15x2 =>
          intro w1 hb1 hd KK hK
          clear hd
          simp only [Act.put, List.setIfInBounds_toArray, List.set_cons_zero, List.set_cons_succ] at hK
          go_simp
          first | exact hK.out _ _ (Below.refl _ _) rfl | (have hk := hK.out _ _ (Below.refl _ _) rfl; revert hk; go_simp)
        case po15x3 =>
          intro w1 hb1 hd KK hK
          clear hd
          have hF := F7.out.next hb1
          have k0 := hF.c 10 0 rfl rfl
          have k1 := hF.c 10 1 rfl rfl
          simp only [Act.put, List.setIfInBounds_toArray, List.set_cons_zero, List.set_cons_succ] at hK
          go_simp
          first | exact hK.out _ _ (Below.refl _ _) rfl | (have hk := hK.out _ _ (Below.refl _ _) rfl; revert hk; go_simp)
        case po15x4 =>
          intro w1 hb1 hd KK hK
          have d3 : x3 = .agg #[.int .i64 (r / 18446744073709551616), .int .u64 (r % 18446744073709551616)] := hd 3 (by kernel_rfl)
          clear hd
          subst d3
          simp only [Act.put, List.setIfInBounds_toArray, List.set_cons_zero, List.set_cons_succ] at hK
          go_simp
          go_at_call 38
          refine (HNR.out w1).mono ?_
          rintro e w2 ⟨he, hb⟩
          unfold RetV at he
          subst he
          (try go_wp2_with fail)
          first | exact hK.out _ _ hb rfl | (have hk := hK.out _ _ hb rfl; revert hk; go_simp)
        case po15x5 =>
          intro w1 hb1 hd KK hK
          have d4 : x4 = .tuple #[.int .i64 r, .int .i64 0] := hd 4 (by kernel_rfl)
          clear hd
          subst d4
          simp only [Act.put, List.setIfInBounds_toArray, List.set_cons_zero, List.set_cons_succ] at hK
          go_simp
          first | exact hK.out _ _ (Below.refl _ _) rfl | (have hk := hK.out _ _ (Below.refl _ _) rfl; revert hk; go_simp)
        case po15x6 =>
          intro w1 hb1 hd KK hK
          have d5 : x5 = .tuple #[.int .i64 r, .int .i64 0] := hd 5 (by kernel_rfl)
          clear hd
          subst d5
          simp only [Act.put, List.setIfInBounds_toArray, List.set_cons_zero, List.set_cons_succ] at hK
          go_simp
          first | exact hK.out _ _ (Below.refl _ _) rfl | (have hk := hK.out _ _ (Below.refl _ _) rfl; revert hk; go_simp)
        case po15x7 =>
          intro w1 hb1 hd KK hK
          have d5 : x5 = .tuple #[.int .i64 r, .int .i64 0] := hd 5 (by kernel_rfl)
          clear hd
          subst d5
          simp only [Act.put, List.setIfInBounds_toArray, List.set_cons_zero, List.set_cons_succ] at hK
          go_simp
          first | exact hK.out _ _ (Below.refl _ _) rfl | (have hk := hK.out _ _ (Below.refl _ _) rfl; revert hk; go_simp)
        case po15x8 =>
          intro w1 hb1 hd KK hK
          have d0 : x0 = .pointer (some ⟨Q9, 1, none⟩) := hd 0 (by kernel_rfl)
          have d1 : x1 = .slice (some ⟨gd, 0, none⟩) NN dd := hd 1 (by kernel_rfl)
          have d2 : x2 = .int .i64 (n : Int) := hd 2 (by kernel_rfl)
          have d3 : x3 = .agg #[.int .i64 (r / 18446744073709551616), .int .u64 (r % 18446744073709551616)] := hd 3 (by kernel_rfl)
          have d4 : x4 = .tuple #[.int .i64 r, .int .i64 0] := hd 4 (by kernel_rfl)
          have d5 : x5 = .tuple #[.int .i64 r, .int .i64 0] := hd 5 (by kernel_rfl)
          have d6 : x6 = .int .i64 r := hd 6 (by kernel_rfl)
          clear hd
          subst d0
          subst d1
          subst d2
          subst d3
          subst d4
          subst d5
          subst d6
          simp only [Act.put, List.setIfInBounds_toArray, List.set_cons_zero, List.set_cons_succ] at hK
          go_simp
          first | exact hK.out _ _ (Below.refl _ _) rfl | (have hk := hK.out _ _ (Below.refl _ _) rfl; revert hk; go_simp)
        case pend15 =>
          intro w1 hb1 hR hD
          have d0 : x0 = .pointer (some ⟨Q9, 1, none⟩) := hR 0 (by decide)
          have d1 : x1 = .slice (some ⟨gd, 0, none⟩) NN dd := hR 1 (by decide)
          have d2 : x2 = .int .i64 (n : Int) := hR 2 (by decide)
          have d3 : x3 = .agg #[.int .i64 (r / 18446744073709551616), .int .u64 (r % 18446744073709551616)] := hR 3 (by decide)
          have d4 : x4 = .tuple #[.int .i64 r, .int .i64 0] := hR 4 (by decide)
          have d5 : x5 = .tuple #[.int .i64 r, .int .i64 0] := hR 5 (by decide)
          have d6 : x6 = .int .i64 r := hR 6 (by decide)
          have d7 : x7 = .int .i64 0 := hR 7 (by decide)
          have d8 : x8 = .pointer (some ⟨gd, n, none⟩) := hR 8 (by decide)
          clear hR hD
          subst d0
          subst d1
          subst d2
          subst d3
          subst d4
          subst d5
          subst d6
          subst d7
          subst d8
          refine wpAny_ready (rs := [9]) (by kernel_rfl) (by simp) (AllReady.cons rfl (fun KK hK => ?_) AllReady.nil)
          have hF := F7.out.next hb1
          obtain ⟨kc, kf⟩ := hF.rc 3 n rfl HGD.out
          go_simp
          refine hK _ _ ?_
          clear hK KK
          try simp only [putAll, Act.put, List.setIfInBounds_toArray, List.set_cons_zero, List.set_cons_succ]
          refine wpAny_done (by kernel_rfl) ?_ _
          dsimp only
          have G4 := Lib.hid (hF.put 3 n rfl (.int .i64 r))
          simp only [List.set_cons_zero, List.set_cons_succ] at G4
          clear hF kc kf hb1 F7
          obtain ⟨V4, hV4⟩ : ∃ x : World, w1.setCell ⟨gd, n, none⟩ (.int .i64 r) = x := ⟨_, rfl⟩
          rw [hV4] at G4 ⊢
          clear hV4
          (try simp only [Exit.noGoto_normal, Exit.inBlock, Exit.then])
          (first | refine ‹∀ (a : Act) (w : World), Code.wp _ _ _ a w → _ a w› _ _ ?_ | skip)
          go_wp2
          have G5 := G4.out.less (B' := [(w.heap.size, [.slice (some ⟨b0, o0, none⟩) xs.length c, .slice b ys.length d]), (w.heap.size + 1, [.slice aK wv.K.length cK, .slice aS wv.S.length cS, .slice aP wv.P.length cP, .slice aD wv.D.length cD]), (w.heap.size + 1 + 1, [.slice none 0 0, .slice none 0 0]), (Y7, [.slice (some ⟨b0, o0 + 2, none⟩) wv.L.length cL, .slice aK wv.K.length cK, .slice aO wv.O.length cO, .slice aK wv.K.length cK, .slice aS wv.S.length cS, .slice aP wv.P.length cP, .slice aD wv.D.length cD]), (Q9, [.slice as_ S.length cs_, .slice (some ⟨gd, 0, none⟩) NN dd])]) (.cons_cons _ (.cons_cons _ (.cons_cons _ (.cons_cons _ (.cons_cons _ (List.nil_sublist _)))))) (.refl _) (.refl _) (.refl _)
          rw [HSD.out] at G5
          refine ⟨⟨⟨n + 1, D :: Ds, by omega, by first | rfl | (show Value.int .i64 _ = _; go_num), rfl, Lib.hid G5⟩, rfl⟩, ?_⟩
          show NN - _ < NN - _
          simp [slotsOf, intOf]
          omega
        case pfl15 =>
          intro f hf hfn w1 hb1 hR hD
          injection hf with hf
          subst hf
          have d0 : x0 = .pointer (some ⟨Q9, 1, none⟩) := hR 0 (by decide) (by decide)
          have d1 : x1 = .slice (some ⟨gd, 0, none⟩) NN dd := hR 1 (by decide) (by decide)
          have d2 : x2 = .int .i64 (n : Int) := hR 2 (by decide) (by decide)
          have d3 : x3 = .agg #[.int .i64 (r / 18446744073709551616), .int .u64 (r % 18446744073709551616)] := hR 3 (by decide) (by decide)
          have d4 : x4 = .tuple #[.int .i64 r, .int .i64 0] := hR 4 (by decide) (by decide)
          have d5 : x5 = .tuple #[.int .i64 r, .int .i64 0] := hR 5 (by decide) (by decide)
          have d6 : x6 = .int .i64 r := hR 6 (by decide) (by decide)
          have d8 : x8 = .pointer (some ⟨gd, n, none⟩) := hR 8 (by decide) (by decide)
          clear hR hD
          subst d0
          subst d1
          subst d2
          subst d3
          subst d4
          subst d5
          subst d6
          subst d8
          refine wpAny_take (i := 7) (v := .int .i64 0) rfl (by kernel_rfl) (by kernel_rfl) (by kernel_rfl) (fun _ _ _ h => h) (.inl ⟨by rfl, fun w => by go_simp⟩) ?_
          try simp only [putAll, Act.put, List.setIfInBounds_toArray, List.set_cons_zero, List.set_cons_succ]
          refine wpAny_ready (rs := [9]) (by kernel_rfl) (by simp) (AllReady.cons rfl (fun KK hK => ?_) AllReady.nil)
          have hF := F7.out.next hb1
          obtain ⟨kc, kf⟩ := hF.rc 3 n rfl HGD.out
          go_simp
          refine hK _ _ ?_
          clear hK KK
          try simp only [putAll, Act.put, List.setIfInBounds_toArray, List.set_cons_zero, List.set_cons_succ]
          refine wpAny_done (by kernel_rfl) ?_ _
          dsimp only
          have G4 := Lib.hid (hF.put 3 n rfl (.int .i64 r))
          simp only [List.set_cons_zero, List.set_cons_succ] at G4
          clear hF kc kf hb1 F7
          obtain ⟨V4, hV4⟩ : ∃ x : World, w1.setCell ⟨gd, n, none⟩ (.int .i64 r) = x := ⟨_, rfl⟩
          rw [hV4] at G4 ⊢
          clear hV4
          (try simp only [Exit.noGoto_normal, Exit.inBlock, Exit.then])
          (first | refine ‹∀ (a : Act) (w : World), Code.wp _ _ _ a w → _ a w› _ _ ?_ | skip)
          go_wp2
          have G5 := G4.out.less (B' := [(w.heap.size, [.slice (some ⟨b0, o0, none⟩) xs.length c, .slice b ys.length d]), (w.heap.size + 1, [.slice aK wv.K.length cK, .slice aS wv.S.length cS, .slice aP wv.P.length cP, .slice aD wv.D.length cD]), (w.heap.size + 1 + 1, [.slice none 0 0, .slice none 0 0]), (Y7, [.slice (some ⟨b0, o0 + 2, none⟩) wv.L.length cL, .slice aK wv.K.length cK, .slice aO wv.O.length cO, .slice aK wv.K.length cK, .slice aS wv.S.length cS, .slice aP wv.P.length cP, .slice aD wv.D.length cD]), (Q9, [.slice as_ S.length cs_, .slice (some ⟨gd, 0, none⟩) NN dd])]) (.cons_cons _ (.cons_cons _ (.cons_cons _ (.cons_cons _ (.cons_cons _ (List.nil_sublist _)))))) (.refl _) (.refl _) (.refl _)
          rw [HSD.out] at G5
          refine ⟨⟨⟨n + 1, D :: Ds, by omega, by first | rfl | (show Value.int .i64 _ = _; go_num), rfl, Lib.hid G5⟩, rfl⟩, ?_⟩
          show NN - _ < NN - _
          simp [slotsOf, intOf]
          omega
      case pfl14 =>
        intro f hf hfn w1 hb1 hR hD
        injection hf with hf
        subst hf
        have d0 : x0 = .agg #[.int .i64 (sT / 18446744073709551616), .int .u64 (sT % 18446744073709551616)] := hR 0 (by decide) (by decide)
        have d1 : x1 = .int .i64 (cT : Int) := hR 1 (by decide) (by decide)
        have d2 : x2 = .agg #[.int .i64 ((cT : Int) / 9223372036854775808), .int .u64 ((cT : Int) % 18446744073709551616)] := hR 2 (by decide) (by decide)
        have d3 : x3 = .tuple #[.agg #[.int .i64 (r / 18446744073709551616), .int .u64 (r % 18446744073709551616)], .int .i64 0] := hR 3 (by decide) (by decide)
        have d4 : x4 = .tuple #[.agg #[.int .i64 (r / 18446744073709551616), .int .u64 (r % 18446744073709551616)], .int .i64 0] := hR 4 (by decide) (by decide)
        have d5 : x5 = .agg #[.int .i64 (r / 18446744073709551616), .int .u64 (r % 18446744073709551616)] := hR 5 (by decide) (by decide)
        have d7 : (IsObj V3.heap.size [.int .i64 0, .int .u64 0] 77) x7 w1 := hR 7 (by decide) (by decide)
        clear hR hD
        subst d0
        subst d1
        subst d2
        subst d3
        subst d4
        subst d5
        obtain ⟨b7, rfl, hl7, ho7⟩ := d7
        refine wpAny_take (i := 6) (v := .int .i64 0) rfl (by kernel_rfl) (by kernel_rfl) (by kernel_rfl) (fun _ _ _ h => h) (.inl ⟨by rfl, fun w => by go_simp⟩) ?_
        try simp only [putAll, Act.put, List.setIfInBounds_toArray, List.set_cons_zero, List.set_cons_succ]
        refine wpAny_ready (rs := [8]) (by kernel_rfl) (by simp) (AllReady.cons rfl (fun KK hK => ?_) AllReady.nil)
        have G3 := FY.out.join2 (Fr.one hb1 hl7 ho7)
        simp only [List.cons_append, List.nil_append, List.append_nil] at G3
        have k0 := G3.c 10 0 rfl rfl
        have k1 := G3.c 10 1 rfl rfl
        have kf0 := G3.f 10 0 rfl rfl
        have kf1 := G3.f 10 1 rfl rfl
        go_simp
        refine hK _ _ ?_
        clear hK KK
        try simp only [putAll, Act.put, List.setIfInBounds_toArray, List.set_cons_zero, List.set_cons_succ]
        refine wpAny_ready (rs := [9]) (by kernel_rfl) (by simp) (AllReady.cons rfl (fun KK hK => ?_) AllReady.nil)
        go_simp
        refine hK _ _ ?_
        clear hK KK
        try simp only [putAll, Act.put, List.setIfInBounds_toArray, List.set_cons_zero, List.set_cons_succ]
        refine wpAny_done (by kernel_rfl) ?_ _
        dsimp only
        have F7 := Lib.hid (G3.set 10 rfl (by simp) [.int .i64 (r / 18446744073709551616), .int .u64 (r % 18446744073709551616)] rfl)
        simp only [setL, Nat.reduceAdd, List.set_cons_zero, List.set_cons_succ] at F7
        obtain ⟨W7, hW7⟩ : ∃ x, (w1.setCell ⟨b7, 0, none⟩ (.int .i64 (r / 18446744073709551616))).setCell ⟨b7, 1, none⟩ (.int .u64 (r % 18446744073709551616)) = x := ⟨_, rfl⟩
        rw [hW7] at F7 ⊢
        clear hW7 G3 k0 k1 kf0 kf1 hb1 hl7 ho7 FY
        go_upto_region 15 with fail
        refine wp_calm ?_
        refine wp_region_parts2 (w := W7) 9 1 (some 7) [] [(fun u _ => u = .pointer (some ⟨Q9, 1, none⟩)), (fun u _ => u = .slice (some ⟨gd, 0, none⟩) NN dd), (fun u _ => u = .int .i64 (n : Int)), (fun u _ => u = .agg #[.int .i64 (r / 18446744073709551616), .int .u64 (r % 18446744073709551616)]), (fun u _ => u = .tuple #[.int .i64 r, .int .i64 0]), (fun u _ => u = .tuple #[.int .i64 r, .int .i64 0]), (fun u _ => u = .int .i64 r), (fun u _ => u = .int .i64 0), (fun u _ => u = .pointer (some ⟨gd, n, none⟩))] [some 60, some 61, some 62, some 63, some 64, some 59, some 65, some 66, some 67, none] #[true, true, true, true, true, true, true, true, true, false] #[true, true, true, true, true, true, true, false, true, false] (by kernel_rfl) rfl (by kernel_rfl) (by kernel_rfl) rfl (by kernel_rfl) (by kernel_rfl) (.cons (carries_eq _) (.cons (carries_eq _) (.cons (carries_eq _) (.cons (carries_eq _) (.cons (carries_eq _) (.cons (carries_eq _) (.cons (carries_eq _) (.cons (carries_eq _) (.cons (carries_eq _) .nil))))))))) (fun vs b hvl hvb => ?_)
        obtain ⟨x0, x1, x2, x3, x4, x5, x6, x7, x8, x9, rfl⟩ : ∃ x0 x1 x2 x3 x4 x5 x6 x7 x8 x9, vs = [x0, x1, x2, x3, x4, x5, x6, x7, x8, x9] := lw10 hvl
        clear hvl
        simp only [putAll, Act.put, List.setIfInBounds_toArray, List.set_cons_zero, List.set_cons_succ] at hvb
        subst hvb
        refine ⟨(.snoc (.snoc (.snoc (.snoc (.snoc (.snoc (.snoc (.snoc (.snoc .zero (PartOb.intro (d := (some 60)) (r := fun u _ => u = .pointer (some ⟨Q9, 1, none⟩)) rfl rfl rfl rfl ?po15x0)) (PartOb.intro (d := (some 61)) (r := fun u _ => u = .slice (some ⟨gd, 0, none⟩) NN dd) rfl rfl rfl rfl ?po15x1)) (PartOb.intro (d := (some 62)) (r := fun u _ => u = .int .i64 (n : Int)) rfl rfl rfl rfl ?po15x2)) (PartOb.intro (d := (some 63)) (r := fun u _ => u = .agg #[.int .i64 (r / 18446744073709551616), .int .u64 (r % 18446744073709551616)]) rfl rfl rfl rfl ?po15x3)) (PartOb.intro (d := (some 64)) (r := fun u _ => u = .tuple #[.int .i64 r, .int .i64 0]) rfl rfl rfl rfl ?po15x4)) (PartOb.intro (d := (some 59)) (r := fun u _ => u = .tuple #[.int .i64 r, .int .i64 0]) rfl rfl rfl rfl ?po15x5)) (PartOb.intro (d := (some 65)) (r := fun u _ => u = .int .i64 r) rfl rfl rfl rfl ?po15x6)) (PartOb.intro (d := (some 66)) (r := fun u _ => u = .int .i64 0) rfl rfl rfl rfl ?po15x7)) (PartOb.intro (d := (some 67)) (r := fun u _ => u = .pointer (some ⟨gd, n, none⟩)) rfl rfl rfl rfl ?po15x8)), ?pend15, ?pfl15⟩
        case po15x0 =>
          intro w1 hb1 hd KK hK
          clear hd
          simp only [Act.put, List.setIfInBounds_toArray, List.set_cons_zero, List.set_cons_succ] at hK
          go_simp
          first | exact hK.out _ _ (Below.refl _ _) rfl | (have hk := hK.out _ _ (Below.refl _ _) rfl; revert hk; go_simp)
        case po15x1 =>
          intro w1 hb1 hd KK hK
          have d0 : x0 = .pointer (some ⟨Q9, 1, none⟩) := hd 0 (by kernel_rfl)
          clear hd
          subst d0
          have hF := F7.out.next hb1
          have k0 := hF.c 4 0 rfl rfl
          have k1 := hF.c 4 1 rfl rfl
          simp only [Act.put, List.setIfInBounds_toArray, List.set_cons_zero, List.set_cons_succ] at hK
          go_simp
          first | exact hK.out _ _ (Below.refl _ _) rfl | (have hk := hK.out _ _ (Below.refl _ _) rfl; revert hk; go_simp)
        case po15x2 =>
          intro w1 hb1 hd KK hK
          clear hd
          simp only [Act.put, List.setIfInBounds_toArray, List.set_cons_zero, List.set_cons_succ] at hK
          go_simp
          first | exact hK.out _ _ (Below.refl _ _) rfl | (have hk := hK.out _ _ (Below.refl _ _) rfl; revert hk; go_simp)
        case po15x3 =>
          intro w1 hb1 hd KK hK
          clear hd
          have hF := F7.out.next hb1
          have k0 := hF.c 10 0 rfl rfl
          have k1 := hF.c 10 1 rfl rfl
          simp only [Act.put, List.setIfInBounds_toArray, List.set_cons_zero, List.set_cons_succ] at hK
          go_simp
          first | exact hK.out _ _ (Below.refl _ _) rfl | (have hk := hK.out _ _ (Below.refl _ _) rfl; revert hk; go_simp)
        case po15x4 =>
          intro w1 hb1 hd KK hK
          have d3 : x3 = .agg #[.int .i64 (r / 18446744073709551616), .int .u64 (r % 18446744073709551616)] := hd 3 (by kernel_rfl)
          clear hd
          subst d3
          simp only [Act.put, List.setIfInBounds_toArray, List.set_cons_zero, List.set_cons_succ] at hK
          go_simp
          go_at_call 38
          refine (HNR.out w1).mono ?_
          rintro e w2 ⟨he, hb⟩
          unfold RetV at he
          subst he
          (try go_wp2_with fail)
          first | exact hK.out _ _ hb rfl | (have hk := hK.out _ _ hb rfl; revert hk; go_simp)
        case po15x5 =>
          intro w1 hb1 hd KK hK
          have d4 : x4 = .tuple #[.int .i64 r, .int .i64 0] := hd 4 (by kernel_rfl)
          clear hd
          subst d4
          simp only [Act.put, List.setIfInBounds_toArray, List.set_cons_zero, List.set_cons_succ] at hK
          go_simp
          first | exact hK.out _ _ (Below.refl _ _) rfl | (have hk := hK.out _ _ (Below.refl _ _) rfl; revert hk; go_simp)
        case po15x6 =>
          intro w1 hb1 hd KK hK
          have d5 : x5 = .tuple #[.int .i64 r, .int .i64 0] := hd 5 (by kernel_rfl)
          clear hd
          subst d5
          simp only [Act.put, List.setIfInBounds_toArray, List.set_cons_zero, List.set_cons_succ] at hK
          go_simp
          first | exact hK.out _ _ (Below.refl _ _) rfl | (have hk := hK.out _ _ (Below.refl _ _) rfl; revert hk; go_simp)
        case po15x7 =>
          intro w1 hb1 hd KK hK
          have d5 : x5 = .tuple #[.int .i64 r, .int .i64 0] := hd 5 (by kernel_rfl)
          clear hd
          subst d5
          simp only [Act.put, List.setIfInBounds_toArray, List.set_cons_zero, List.set_cons_succ] at hK
          go_simp
          first | exact hK.out _ _ (Below.refl _ _) rfl | (have hk := hK.out _ _ (Below.refl _ _) rfl; revert hk; go_simp)
        case po15x8 =>
          intro w1 hb1 hd KK hK
          have d0 : x0 = .pointer (some ⟨Q9, 1, none⟩) := hd 0 (by kernel_rfl)
          have d1 : x1 = .slice (some ⟨gd, 0, none⟩) NN dd := hd 1 (by kernel_rfl)
          have d2 : x2 = .int .i64 (n : Int) := hd 2 (by kernel_rfl)
          have d3 : x3 = .agg #[.int .i64 (r / 18446744073709551616), .int .u64 (r % 18446744073709551616)] := hd 3 (by kernel_rfl)
          have d4 : x4 = .tuple #[.int .i64 r, .int .i64 0] := hd 4 (by kernel_rfl)
          have d5 : x5 = .tuple #[.int .i64 r, .int .i64 0] := hd 5 (by kernel_rfl)
          have d6 : x6 = .int .i64 r := hd 6 (by kernel_rfl)
          clear hd
          subst d0
          subst d1
          subst d2
          subst d3
          subst d4
          subst d5
          subst d6
          simp only [Act.put, List.setIfInBounds_toArray, List.set_cons_zero, List.set_cons_succ] at hK
          go_simp
          first | exact hK.out _ _ (Below.refl _ _) rfl | (have hk := hK.out _ _ (Below.refl _ _) rfl; revert hk; go_simp)
        case pend15 =>
          intro w1 hb1 hR hD
          have d0 : x0 = .pointer (some ⟨Q9, 1, none⟩) := hR 0 (by decide)
          have d1 : x1 = .slice (some ⟨gd, 0, none⟩) NN dd := hR 1 (by decide)
          have d2 : x2 = .int .i64 (n : Int) := hR 2 (by decide)
          have d3 : x3 = .agg #[.int .i64 (r / 18446744073709551616), .int .u64 (r % 18446744073709551616)] := hR 3 (by decide)
          have d4 : x4 = .tuple #[.int .i64 r, .int .i64 0] := hR 4 (by decide)
          have d5 : x5 = .tuple #[.int .i64 r, .int .i64 0] := hR 5 (by decide)
          have d6 : x6 = .int .i64 r := hR 6 (by decide)
          have d7 : x7 = .int .i64 0 := hR 7 (by decide)
          have d8 : x8 = .pointer (some ⟨gd, n, none⟩) := hR 8 (by decide)
          clear hR hD
          subst d0
          subst d1
          subst d2
          subst d3
          subst d4
          subst d5
          subst d6
          subst d7
          subst d8
          refine wpAny_ready (rs := [9]) (by kernel_rfl) (by simp) (AllReady.cons rfl (fun KK hK => ?_) AllReady.nil)
          have hF := F7.out.next hb1
          obtain ⟨kc, kf⟩ := hF.rc 3 n rfl HGD.out
          go_simp
          refine hK _ _ ?_
          clear hK KK
          try simp only [putAll, Act.put, List.setIfInBounds_toArray, List.set_cons_zero, List.set_cons_succ]
          refine wpAny_done (by kernel_rfl) ?_ _
          dsimp only
          have G4 := Lib.hid (hF.put 3 n rfl (.int .i64 r))
          simp only [List.set_cons_zero, List.set_cons_succ] at G4
          clear hF kc kf hb1 F7
          obtain ⟨V4, hV4⟩ : ∃ x : World, w1.setCell ⟨gd, n, none⟩ (.int .i64 r) = x := ⟨_, rfl⟩
          rw [hV4] at G4 ⊢
          clear hV4
          (try simp only [Exit.noGoto_normal, Exit.inBlock, Exit.then])
          (first | refine ‹∀ (a : Act) (w : World), Code.wp _ _ _ a w → _ a w› _ _ ?_ | skip)
          go_wp2
          have G5 := G4.out.less (B' := [(w.heap.size, [.slice (some ⟨b0, o0, none⟩) xs.length c, .slice b ys.length d]), (w.heap.size + 1, [.slice aK wv.K.length cK, .slice aS wv.S.length cS, .slice aP wv.P.length cP, .slice aD wv.D.length cD]), (w.heap.size + 1 + 1, [.slice none 0 0, .slice none 0 0]), (Y7, [.slice (some ⟨b0, o0 + 2, none⟩) wv.L.length cL, .slice aK wv.K.length cK, .slice aO wv.O.length cO, .slice aK wv.K.length cK, .slice aS wv.S.length cS, .slice aP wv.P.length cP, .slice aD wv.D.length cD]), (Q9, [.slice as_ S.length cs_, .slice (some ⟨gd, 0, none⟩) NN dd])]) (.cons_cons _ (.cons_cons _ (.cons_cons _ (.cons_cons _ (.cons_cons _ (List.nil_sublist _)))))) (.refl _) (.refl _) (.refl _)
          rw [HSD.out] at G5
          refine ⟨⟨⟨n + 1, D :: Ds, by omega, by first | rfl | (show Value.int .i64 _ = _; go_num), rfl, Lib.hid G5⟩, rfl⟩, ?_⟩
          show NN - _ < NN - _
          simp [slotsOf, intOf]
          omega
        case pfl15 =>
          intro f hf hfn w1 hb1 hR hD
          injection hf with hf
          subst hf
          have d0 : x0 = .pointer (some ⟨Q9, 1, none⟩) := hR 0 (by decide) (by decide)
          have d1 : x1 = .slice (some ⟨gd, 0, none⟩) NN dd := hR 1 (by decide) (by decide)
          have d2 : x2 = .int .i64 (n : Int) := hR 2 (by decide) (by decide)
          have d3 : x3 = .agg #[.int .i64 (r / 18446744073709551616), .int .u64 (r % 18446744073709551616)] := hR 3 (by decide) (by decide)
          have d4 : x4 = .tuple #[.int .i64 r, .int .i64 0] := hR 4 (by decide) (by decide)
          have d5 : x5 = .tuple #[.int .i64 r, .int .i64 0] := hR 5 (by decide) (by decide)
          have d6 : x6 = .int .i64 r := hR 6 (by decide) (by decide)
          have d8 : x8 = .pointer (some ⟨gd, n, none⟩) := hR 8 (by decide) (by decide)
          clear hR hD
          subst d0
          subst d1
          subst d2
          subst d3
          subst d4
          subst d5
          subst d6
          subst d8
          refine wpAny_take (i := 7) (v := .int .i64 0) rfl (by kernel_rfl) (by kernel_rfl) (by kernel_rfl) (fun _ _ _ h => h) (.inl ⟨by rfl, fun w => by go_simp⟩) ?_
          try simp only [putAll, Act.put, List.setIfInBounds_toArray, List.set_cons_zero, List.set_cons_succ]
          refine wpAny_ready (rs := [9]) (by kernel_rfl) (by simp) (AllReady.cons rfl (fun KK hK => ?_) AllReady.nil)
          have hF := F7.out.next hb1
          obtain ⟨kc, kf⟩ := hF.rc 3 n rfl HGD.out
          go_simp
          refine hK _ _ ?_
          clear hK KK
          try simp only [putAll, Act.put, List.setIfInBounds_toArray, List.set_cons_zero, List.set_cons_succ]
          refine wpAny_done (by kernel_rfl) ?_ _
          dsimp only
          have G4 := Lib.hid (hF.put 3 n rfl (.int .i64 r))
          simp only [List.set_cons_zero, List.set_cons_succ] at G4
          clear hF kc kf hb1 F7
          obtain ⟨V4, hV4⟩ : ∃ x : World, w1.setCell ⟨gd, n, none⟩ (.int .i64 r) = x := ⟨_, rfl⟩
          rw [hV4] at G4 ⊢
          clear hV4
          (try simp only [Exit.noGoto_normal, Exit.inBlock, Exit.then])
          (first | refine ‹∀ (a : Act) (w : World), Code.wp _ _ _ a w → _ a w› _ _ ?_ | skip)
          go_wp2
          have G5 := G4.out.less (B' := [(w.heap.size, [.slice (some ⟨b0, o0, none⟩) xs.length c, .slice b ys.length d]), (w.heap.size + 1, [.slice aK wv.K.length cK, .slice aS wv.S.length cS, .slice aP wv.P.length cP, .slice aD wv.D.length cD]), (w.heap.size + 1 + 1, [.slice none 0 0, .slice none 0 0]), (Y7, [.slice (some ⟨b0, o0 + 2, none⟩) wv.L.length cL, .slice aK wv.K.length cK, .slice aO wv.O.length cO, .slice aK wv.K.length cK, .slice aS wv.S.length cS, .slice aP wv.P.length cP, .slice aD wv.D.length cD]), (Q9, [.slice as_ S.length cs_, .slice (some ⟨gd, 0, none⟩) NN dd])]) (.cons_cons _ (.cons_cons _ (.cons_cons _ (.cons_cons _ (.cons_cons _ (List.nil_sublist _)))))) (.refl _) (.refl _) (.refl _)
          rw [HSD.out] at G5
          refine ⟨⟨⟨n + 1, D :: Ds, by omega, by first | rfl | (show Value.int .i64 _ = _; go_num), rfl, Lib.hid G5⟩, rfl⟩, ?_⟩
          show NN - _ < NN - _
          simp [slotsOf, intOf]
          omega
  · skip
    obtain rfl : n = NN := by omega
    have c2_0 := F8.out.c 2 0 rfl rfl
    have c2_1 := F8.out.c 2 1 rfl rfl
    have c4_0 := F8.out.c 4 0 rfl rfl
    have c4_1 := F8.out.c 4 1 rfl rfl
    have ef2_0 := F8.out.f 2 0 rfl rfl
    have ef2_1 := F8.out.f 2 1 rfl rfl
    go_wp2
    have F9 := F8.out
    rw [upto_all] at F9
    have FZ := F9.set 2 rfl (by simp) [.slice as_ S.length cs_, .slice (some ⟨gd, 0, none⟩) n dd] rfl
    simp only [setL, Nat.reduceAdd, List.set_cons_zero, List.set_cons_succ] at FZ
    show LeavesInM Fence.wide 20 Try.prog Try.f11 _ (RetTF _ _ _ _) (mkD Ds) .returning _
    refine leaves_marks (by simp) _ _ FZ (fun w9 F10 => ?_)
    have y0 := F10.c 2 0 rfl rfl
    have y1 := F10.c 2 1 rfl rfl
    refine ⟨.tuple #[.agg #[.slice as_ S.length cs_, .slice (some ⟨gd, 0, none⟩) n dd], .int .i64 0], ?_, ?_⟩
    · rw [results_ctZ rfl]
      go_simp
    · skip
      refine ⟨as_, cs_, some ⟨gd, 0, none⟩, dd, by simp, ?_⟩
      have h9 := (F10.rows).less (.refl _) (.refl _) (.cons _ (.cons _ (.refl _))) (.refl _)
      simp only [List.length_map, List.length_range] at h9 ⊢
      exact h9
end Go.Proofs.Ytmjcpgfekpedkaa
