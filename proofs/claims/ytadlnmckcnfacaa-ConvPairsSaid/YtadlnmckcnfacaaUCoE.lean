import Derived.Test.YtadlnmckcnfacaaUPoE
import Derived.Test.YtadlnmckcnfacaaUPoM
set_option linter.unusedVariables false
set_option linter.unusedSimpArgs false
namespace Go.Proofs.Ytadlnmckcnfacaa
open Go.RowKit Go.Rt
attribute [local go_sem] Oper.semAt_some
theorem allW_any (aL aK aO aQ aS aP aD : Option Addr) (cL cK cO cQ cS cP cD : Nat) (Q : List Int) (wv : WinV) (w : World) :
  Calls Try.prog 85 #[.agg #[.slice aL wv.L.length cL, .slice aK wv.K.length cK, .slice aO wv.O.length cO, .slice aQ Q.length cQ, .slice aS wv.S.length cS, .slice aP wv.P.length cP, .slice aD wv.D.length cD]] w fun e w' => e = .returned (.func (.func 105) #[] #[.pointer (some ⟨w.heap.size, 0, none⟩)]) ∧ Fr w.heap.size w w' [(w.heap.size, [.slice aL wv.L.length cL, .slice aK wv.K.length cK, .slice aO wv.O.length cO, .slice aQ Q.length cQ, .slice aS wv.S.length cS, .slice aP wv.P.length cP, .slice aD wv.D.length cD])] [] [] [] := by
 have F1 := Lib.hid ((Fr.start (w := w) (I := []) (by simp)).box1 (b := w.heap.size) rfl [.slice aL wv.L.length cL, .slice aK wv.K.length cK, .slice aO wv.O.length cO, .slice aQ Q.length cQ, .slice aS wv.S.length cS, .slice aP wv.P.length cP, .slice aD wv.D.length cD] 64)
 simp only [List.nil_append, List.cons_append] at F1
 go_enter Try.func85, Try.ntmps85
 go_wp2
 go_ret
 exact ⟨rfl, F1.out⟩

set_option maxRecDepth 100000 in
set_option maxHeartbeats 2000000 in
theorem winIter (n : Nat) (hn : 9 ≤ n) (l B N T S : Nat) (aL aK aO aQ aS aP aD : Option Addr) (cL cK cO cQ cS cP cD : Nat) (Q : List Int) (wv : WinV) (W : World) (hS : W.heap.size = S) (J : Nat → Nat → World → Prop) (hR : wv.R) (hok : wv.okB = true) (hr : 1 ≤ wv.L.length) (hgO : goodB wv.O = true) (hgK : goodB wv.K = true) (hN : prodI wv.O = (N : Int)) (hT : prodI wv.K = (T : Int))
  (hJ : ∀ p t W1 W2, J p t W1 → Below S W1 W2 → J p t W2)
  (hJB : ∀ p t W1, J p t W1 → S ≤ W1.heap.size ∧ BoxL W1 B [.slice aL wv.L.length cL, .slice aK wv.K.length cK, .slice aO wv.O.length cO, .slice aQ Q.length cQ, .slice aS wv.S.length cS, .slice aP wv.P.length cP, .slice aD wv.D.length cD] ∧ WinAt W1 S aL aK aO aS aP aD wv)
  (hskip : ∀ p t W1, p < N → t < T → wv.wB p t = false → J p t W1 → J p (t + 1) W1)
  (hnext : ∀ p W1, p < N → J p T W1 → J (p + 1) 0 W1)
  (hY : ∀ p t W1, p < N → t < T → wv.wB p t = true → J p t W1 → YieldAt Fence.wide (n - 1 - 1 - 1) Try.prog l #[.agg #[.int .i64 (p : Int), .int .i64 (t : Int), .int .i64 (wv.wI p t)]] W1 fun e W' => Kept S W1 W' ∧ e = .returned (.bool true) ∧ J p (t + 1) W')
  (h0 : J 0 0 W) :
  CallsIn Fence.wide n Try.prog 105 #[.func (.yield l) #[] #[], .pointer (some ⟨B, 0, none⟩)] W fun e W' => (∃ v, e = .returned v) ∧ J N 0 W' := by
 have hPO := goodB_prod hgO
 have hNb : N ≤ 65536 := by omega
 have hOw : ∀ x ∈ wv.O, (Lit.int .i64 x).wf = true := wf_dims (fun x hx => by have := goodB_dims hgO x hx; omega)
 have hSw : ∀ pn : Nat, ∀ x ∈ standsI wv.O (pn : Int), (Lit.int .i64 x).wf = true := fun pn => wf_stands (goodB_dims hgO)
 obtain ⟨_, hb0, hw0⟩ := hJB 0 0 W h0
 have hBW : B < S := by rw [← hS]; exact hb0.lt (by simp)
 have HR := Lib.hid hR
 have HOK := Lib.hid hok
 have HRL := Lib.hid hr
 have HGO := Lib.hid hgO
 have HGK := Lib.hid hgK
 have HN := Lib.hid hN
 have HT := Lib.hid hT
 have HJ := Lib.hid hJ
 have HJB := Lib.hid hJB
 have HSK := Lib.hid hskip
 have HNX := Lib.hid hnext
 have HY := Lib.hid hY
 have H0 := Lib.hid h0
 have HOW := Lib.hid hOw
 have HSW := Lib.hid hSw
 have hpl := fun W (h : Ints .i64 W W.heap.size aO wv.O) => winPlaces_any aL aK aO aQ aS aP aD cL cK cO cQ cS cP cD Q wv W h hgO
 rw [hN] at hpl
 have HPL := Lib.hid hpl
 clear hPO hOw hSw hw0 hR hok hr hgO hgK hN hT hJ hJB hskip hnext hY h0 hpl
 refine callsIn_of_wp_marks Try.func105 rfl trivial ?_ rfl
 simp only [Try.ntmps105, List.size_toArray, List.length_cons, List.length_nil, Nat.reduceAdd, Nat.reduceSub, Array.replicate_succ, Array.replicate_zero, List.push_toArray, List.append_toArray, List.nil_append, List.cons_append]
 refine wpIn_wide.2 ?_
 have F1 := Lib.hid ((Fr.start (w := W) (I := []) (by simp)).box1 (b := S) hS [.func (.yield l) #[] #[]] 110)
 simp only [List.nil_append, hS] at F1
 have HBW : Hid (Below S W (W.alloc (.cells #[.func (.yield l) #[] #[]] 110))) := Lib.hid ((Below.refl _ _).alloc (by omega) _)
 go_upto_region 1 with fail
 obtain ⟨W1, hW1⟩ : ∃ W1, (W.alloc (.cells #[.func (.yield l) #[] #[]] 110)) = W1 := ⟨_, rfl⟩
 have hW1s : W1.heap.size = S + 1 := by rw [← hW1]; simp [hS]
 rw [hW1] at F1 HBW ⊢
 clear hW1
 have HJ1 := Lib.hid (HJ.out 0 0 _ _ H0.out HBW.out)
 obtain ⟨_, hb1, hw1⟩ := HJB.out 0 0 W1 HJ1.out
 have y0 := hb1.cell 0 _ rfl
 have y1 := hb1.cell 1 _ rfl
 have y2 := hb1.cell 2 _ rfl
 have y3 := hb1.cell 3 _ rfl
 have y4 := hb1.cell 4 _ rfl
 have y5 := hb1.cell 5 _ rfl
 have y6 := hb1.cell 6 _ rfl
 have HW1 := Lib.hid hw1
 clear hb0 hb1 hw1 H0 HBW
 go_upto_block 0 with (first | (go_at_call 37; refine (HPL.out _ ((HW1.out.iO).mono (by omega))).mono ?_; rintro e w2 ⟨rfl, hb⟩; have HB2 := Lib.hid hb; clear hb y0 y1 y2 y3 y4 y5 y6) | fail)
 have HJ2 := Lib.hid (HJ.out 0 0 _ _ HJ1.out (HB2.out.mono (by omega)))
 have F2 := Lib.hid (F1.out.next HB2.out).re
 clear F1 HJ1 HW1 HB2 hW1s
 go_wp2
 refine wp_loopF (fun s w' ds => ∃ (p : Nat) (Ds : List Nat), p ≤ N ∧ s 7 = .int .i64 (p : Int) ∧ ds = mkD Ds ∧ Hid (J p 0 w') ∧ Hid (Fr S w' w' [(S, [.func (.yield l) #[] #[]])] [] [] (mkM Ds))) (fun s => #[.func (.yield l) #[] #[], .pointer (some ⟨B, 0, none⟩), .pointer (some ⟨S, 0, none⟩), s 3, s 4, s 5, .int .i64 (N : Int), s 7, s 8, s 9, s 10, s 11, s 12, s 13, s 14, s 15, s 16, s 17, s 18]) (fun s => N - (intOf (s 7)).toNat) ⟨0, [], Nat.zero_le _, rfl, rfl, HJ2, F2⟩ rfl ?_
 rintro s wr ds ⟨p, Ds, hp, h7, rfl, HJP, F3⟩
 clear F2 HJ2
 obtain ⟨wo, rfl⟩ : ∃ x : World, x = wr := ⟨_, rfl⟩
 (try dsimp only)
 rw [h7]
 have H7 := Lib.hid h7
 clear h7
 by_cases hlt : p < N
 ·skip
  have hpi : (p : Int) < (N : Int) := by omega
  have HLT := Lib.hid hlt
  have hfr := fun W (h : Ints .i64 W W.heap.size aO wv.O) => from_anyW aL aK aO aQ aS aP aD cL cK cO cQ cS cP cD Q wv p W h HGO.out (by omega)
  have HFR := Lib.hid hfr
  clear hfr
  obtain ⟨hsP, hbP, hwP⟩ := HJB.out p 0 wo HJP.out
  have y0 := hbP.cell 0 _ rfl
  have y1 := hbP.cell 1 _ rfl
  have y2 := hbP.cell 2 _ rfl
  have y3 := hbP.cell 3 _ rfl
  have y4 := hbP.cell 4 _ rfl
  have y5 := hbP.cell 5 _ rfl
  have y6 := hbP.cell 6 _ rfl
  have HWP := Lib.hid hwP
  clear hbP hwP
  go_upto_block 2 with (first | (go_at_call 38; refine (HFR.out _ ((HWP.out.iO).mono hsP)).mono ?_; rintro e w3 ⟨q1, ap, cp, rfl, hf⟩; have HB3 := Lib.hid hf.bel; have F4 := Lib.hid (F3.out.join2 hf).re; simp only [List.nil_append, List.cons_append, List.append_nil] at F4; clear hf F3 y0 y1 y2 y3 y4 y5 y6) | fail)
  obtain ⟨X1, hX1⟩ : ∃ x, wo.heap.size = x := ⟨_, rfl⟩
  rw [hX1] at F4 hsP ⊢
  have HJ4 := Lib.hid (HJ.out p 0 _ _ HJP.out (HB3.out.mono (by rw [hX1]; exact hsP)))
  clear hX1 HJP HB3 HWP
  obtain ⟨D, hD⟩ : ∃ D, w3.heap.size = D := ⟨_, rfl⟩
  have hSD : S + 1 ≤ D := by have := (F4.out.bl 0 rfl).2; omega
  go_wp2
  refine wpIn_wide.1 (wpIn_rangeFunc_any (n := n) rfl (by omega) (gf := 72) (lb := #[.pointer (some ⟨X1, 0, none⟩), .pointer (some ⟨q1, 0, none⟩), .pointer (some ⟨X1 + 1, 0, none⟩)]) rfl trivial (enters_of Try.func72 (by kernel_rfl) rfl) D hD
   (fun W2 => J p T W2 ∧ ∃ o, Hid (Fr S W2 W2 [(S, [.func (.yield l) #[] #[]]), (X1, [.slice aL wv.L.length cL, .slice aK wv.K.length cK, .slice aO wv.O.length cO, .slice aQ Q.length cQ, .slice aS wv.S.length cS, .slice aP wv.P.length cP, .slice aD wv.D.length cD]), (X1 + 1, [.int .i64 (p : Int)]), (q1, [.slice ap wv.O.length cp])] [] [⟨3, .slice ap wv.O.length cp, wv.O.length, (standsI wv.O (p : Int)).map (Value.int .i64)⟩] ((D + 1, o) :: (D, .deferred (some [])) :: mkM Ds))) (fun _ _ => False) ?hcall ?hdone ?hstop)
  case hstop =>
   intro cc W2 o ho hf
   exact hf.elim
  case hcall =>
   intro fn9 R9 hfn hR9
   have HR9 := Lib.hid hR9
   clear hR9
   have F5 := Lib.hid (((F4.out.recM hD (.deferred (some [])) rfl).frontM.recM (b := D + 1) (by simp [hD]) (.loop (R9 .ready none)) rfl).frontM).re
   have HB5 : Hid (Below S w3 ((w3.alloc (.deferred (some []))).alloc (.loop (R9 .ready none)))) := Lib.hid (((Below.refl _ _).alloc (by omega) _).alloc (by simp; omega) _)
   have hsz5 : ((w3.alloc (.deferred (some []))).alloc (.loop (R9 .ready none))).heap.size = D + 2 := by simp [hD]
   obtain ⟨W5, hW5⟩ : ∃ x, ((w3.alloc (.deferred (some []))).alloc (.loop (R9 .ready none))) = x := ⟨_, rfl⟩
   rw [hW5] at F5 HB5 hsz5 ⊢
   have HJ5 := Lib.hid (HJ.out p 0 _ _ HJ4.out HB5.out)
   clear hW5 F4 HJ4 HB5
   refine (fromIter (n - 1) (by omega) (D + 1) X1 q1 (X1 + 1) T p aL aK aO aQ aS aP aD cL cK cO cQ cS cP cD Q wv ap cp W5 (fun t V => J p t V ∧ Fr S V V [(S, [.func (.yield l) #[] #[]]), (X1, [.slice aL wv.L.length cL, .slice aK wv.K.length cK, .slice aO wv.O.length cO, .slice aQ Q.length cQ, .slice aS wv.S.length cS, .slice aP wv.P.length cP, .slice aD wv.D.length cD]), (X1 + 1, [.int .i64 (p : Int)]), (q1, [.slice ap wv.O.length cp])] [] [⟨3, .slice ap wv.O.length cp, wv.O.length, (standsI wv.O (p : Int)).map (Value.int .i64)⟩] ((D + 1, .loop (R9 .ready none)) :: (D, .deferred (some [])) :: mkM Ds)) (fun _ => False) HR.out HOK.out HRL.out HGO.out HGK.out HT.out ?hJ ?hJB ?hskip ?hY ⟨HJ5.out, F5.out⟩).mono ?post
   case post =>
    rintro e V ⟨hv, h | h⟩
    ·exact ⟨hv, .inl ⟨⟨h.1, _, Lib.hid h.2⟩, h.2.m 0 rfl⟩⟩
    ·exact h.elim
   case hJ =>
    rintro t V1 V2 ⟨j1, j2⟩ hb
    exact ⟨HJ.out p t _ _ j1 (hb.mono (HJB.out p t _ j1).1), j2.keptS (Kept.of_below hb)⟩
   case hJB =>
    rintro t V ⟨j1, j2⟩
    exact ⟨(j2.box _ (List.mem_of_getElem? (i := 1) rfl)).1, (j2.box _ (List.mem_of_getElem? (i := 3) rfl)).1, (j2.box _ (List.mem_of_getElem? (i := 2) rfl)).1, (HJB.out p t _ j1).2.2.mono (HJB.out p t _ j1).1, j2.li 0 (k := .i64) (xs := standsI wv.O (p : Int)) rfl (HSW.out p)⟩
   case hskip =>
    rintro t V1 ht hf ⟨j1, j2⟩
    exact ⟨HSK.out p t V1 HLT.out ht hf j1, j2⟩
   case hY =>
    rintro t V1 ht htw ⟨j1, j2⟩
    have hsz1 := (HJB.out p t _ j1).1
    have hyy := fun W1 h => HY.out p t W1 HLT.out ht htw h
    obtain ⟨z9, hz9⟩ : ∃ z, wv.wI p t = z := ⟨_, rfl⟩
    rw [hz9] at hyy ⊢
    have HYY := Lib.hid hyy
    clear hyy hz9 ht htw
    refine yieldAt_roundR hfn HR9.out (j2.m 0 rfl) rfl ?_
    obtain ⟨Y, hY2⟩ : ∃ x, V1.heap.size = x := ⟨_, rfl⟩
    have J2 := Lib.hid (j2.box1 (b := Y) hY2 [.int .i64 (p : Int), .int .i64 (t : Int), .int .i64 z9] 76).re
    simp only [List.nil_append, List.cons_append] at J2
    have HBA : Hid (Below S V1 (V1.alloc (.cells #[.int .i64 (p : Int), .int .i64 (t : Int), .int .i64 z9] 76))) := Lib.hid ((Below.refl _ _).alloc hsz1 _)
    obtain ⟨VA, hVA⟩ : ∃ x, V1.alloc (.cells #[.int .i64 (p : Int), .int .i64 (t : Int), .int .i64 z9] 76) = x := ⟨_, rfl⟩
    rw [hVA] at J2 HBA
    have HVA := Lib.hid hVA
    have J1 := Lib.hid (HJ.out p t _ _ j1 HBA.out)
    clear j1 j2 hfn HJ5 F5 HBA hVA
    gi_wp2
    rw [HVA.out]
    refine ⟨J2.out.m 0 rfl, ?_⟩
    have hszA := (HJB.out p t _ J1.out).1
    have K1 := Lib.hid (HJ.out p t _ _ J1.out (below_putObj S VA (D + 1) (.loop (R9 .busy none)) (by omega) hszA))
    have G1 := Lib.hid (J2.out.putM 0 rfl (.loop (R9 .busy none)) rfl).re
    simp only [List.set_cons_zero, List.set_cons_succ] at G1
    obtain ⟨V, hV⟩ : ∃ V, VA.putObj (D + 1) (.loop (R9 .busy none)) = V := ⟨_, rfl⟩
    rw [hV] at G1 K1 ⊢
    clear hV J2 J1 HVA
    have c0 := G1.out.c 0 0 rfl rfl
    have d0 := G1.out.c 4 0 rfl rfl
    have d1 := G1.out.c 4 1 rfl rfl
    have d2 := G1.out.c 4 2 rfl rfl
    obtain ⟨fn2, tmps2, assign2, body2, hy, hRR⟩ := HYY.out V K1.out
    have HRR := Lib.hid hRR
    clear hRR HYY
    (repeat gi_step)
    refine ⟨fun _ => by omega, RoundIn.mono (F := Fence.wide.inRound (D + 1)) HRR.out ?_⟩
    rintro e V3 ⟨hk3, rfl, hj3⟩
    have F6 := Lib.hid (G1.out.keptS hk3)
    have HJ3 := Lib.hid hj3
    clear hk3 hj3 hy G1 K1
    gi_wp2
    refine ⟨F6.out.m 0 rfl, HJ.out _ _ _ _ HJ3.out (below_putObj S _ _ _ (by omega) (HJB.out _ _ _ HJ3.out).1), ?_⟩
    have F7 := (((F6.out.putM 0 rfl (.loop (R9 .ready none)) rfl).re).less (.cons_cons _ (.cons_cons _ (.cons_cons _ (.cons_cons _ (.cons _ .slnil))))) (.refl _) (.refl _) (.refl _))
    simp only [List.set_cons_zero, List.set_cons_succ] at F7
    exact F7
  case hdone =>
   rintro V o9 ho ⟨j1, o2, F8⟩
   have FY := Lib.hid (((F8.out.putM 0 rfl o9 ho).re).less (.cons_cons _ (List.nil_sublist _)) (.refl _) (List.nil_sublist _) (List.sublist_cons_self _ _))
   try simp only [List.set_cons_zero, List.set_cons_succ] at FY
   have JY := Lib.hid (HNX.out p _ HLT.out (HJ.out p T _ _ j1 (below_putObj S V (D + 1) o9 (by omega) (HJB.out _ _ _ j1).1)))
   generalize V.putObj (D + 1) o9 = V3 at *
   clear F8 F4 hD j1 HJ4
   go_wp2
   refine ⟨⟨⟨p + 1, D :: Ds, by omega, by first | rfl | (show Value.int .i64 _ = _; go_num), rfl, JY, FY⟩, rfl⟩, ?_⟩
   show N - _ < N - _
   simp [slotsOf, intOf]
   omega
 ·obtain rfl : p = N := by omega
  go_wp2
  show LeavesInM Fence.wide n Try.prog Try.f105 _ (fun e W' => (∃ v, e = .returned v) ∧ J p 0 W') (mkD Ds) .returning _
  refine leaves_marks (by simp) _ _ F3.out (fun w9 F10 => ?_)
  exact ⟨_, results_none rfl _ _ _, ⟨_, rfl⟩, HJ.out _ _ _ _ HJP.out F10.bel⟩
end Go.Proofs.Ytadlnmckcnfacaa
