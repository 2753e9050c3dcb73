import Derived.Test.YtadlnmckcnfacaaGreatVPoD
import Derived.Deep.LoopGhost
import Derived.Sort.LoopGhostIn
set_option linter.unusedVariables false
set_option linter.unusedSimpArgs false
namespace Go.Proofs.YtadlnmckcnfacaaGreat
open Go.RowKit Go.Rt
attribute [local go_sem] Oper.semAt_some
theorem lw12 {α : Type} {l : List α} (h : l.length = 12) : ∃ x0 x1 x2 x3 x4 x5 x6 x7 x8 x9 x10 x11, l = [x0, x1, x2, x3, x4, x5, x6, x7, x8, x9, x10, x11] := by
 match l, h with
 | [x0, x1, x2, x3, x4, x5, x6, x7, x8, x9, x10, x11], _ => exact ⟨x0, x1, x2, x3, x4, x5, x6, x7, x8, x9, x10, x11, rfl⟩

set_option maxRecDepth 100000 in
set_option maxHeartbeats 1000000 in
theorem from_anyW (aL aK aO aQ aS aP aD : Option Addr) (cL cK cO cQ cS cP cD : Nat) (Q : List Int) (wv : WinV) (pn : Nat) (w : World) (hO : Ints .i64 w w.heap.size aO wv.O) (hg : goodB wv.O = true) (hpn : pn ≤ 1000000000) :
  Calls Tryz.prog 40 #[.agg #[.slice aL wv.L.length cL, .slice aK wv.K.length cK, .slice aO wv.O.length cO, .slice aQ Q.length cQ, .slice aS wv.S.length cS, .slice aP wv.P.length cP, .slice aD wv.D.length cD], .int .i64 (pn : Int)] w fun e w' => ∃ q ap cp, e = .returned (.func (.func 75) #[] #[.pointer (some ⟨w.heap.size, 0, none⟩), .pointer (some ⟨q, 0, none⟩), .pointer (some ⟨w.heap.size + 1, 0, none⟩)]) ∧
   Fr w.heap.size w w' [(w.heap.size, [.slice aL wv.L.length cL, .slice aK wv.K.length cK, .slice aO wv.O.length cO, .slice aQ Q.length cQ, .slice aS wv.S.length cS, .slice aP wv.P.length cP, .slice aD wv.D.length cD]), (w.heap.size + 1, [.int .i64 (pn : Int)]), (q, [.slice ap wv.O.length cp])] [] [⟨3, .slice ap wv.O.length cp, wv.O.length, (standsI wv.O (pn : Int)).map (Value.int .i64)⟩] [] := by
 have F1 := Lib.hid (((Fr.start (w := w) (I := [(.i64, aO, wv.O)]) (by intro z hz; simp at hz; rcases hz with rfl; exact hO)).box1 (b := w.heap.size) rfl [.slice aL wv.L.length cL, .slice aK wv.K.length cK, .slice aO wv.O.length cO, .slice aQ Q.length cQ, .slice aS wv.S.length cS, .slice aP wv.P.length cP, .slice aD wv.D.length cD] 77).box1 (b := w.heap.size + 1) (by simp) [.int .i64 (pn : Int)] 3)
 simp only [List.nil_append, List.cons_append] at F1
 have hst := fun W (h : Ints .i64 W W.heap.size aO wv.O) => stands_any aO cO wv.O (pn : Int) W h hg (by omega) (by omega)
 have hsl := standsI_length wv.O (pn : Int)
 have HST := Lib.hid hst
 have HSL := Lib.hid hsl
 clear hO hg hst hsl
 go_enter Tryz.func40, Tryz.ntmps40
 go_upto_region 1 with fail
 obtain ⟨W1, hW1⟩ : ∃ W1, (w.alloc (.cells #[.slice aL wv.L.length cL, .slice aK wv.K.length cK, .slice aO wv.O.length cO, .slice aQ Q.length cQ, .slice aS wv.S.length cS, .slice aP wv.P.length cP, .slice aD wv.D.length cD] 77)).alloc (.cells #[.int .i64 (pn : Int)] 3) = W1 := ⟨_, rfl⟩
 rw [hW1] at F1 ⊢
 clear hW1
 have c0 := F1.out.c 0 2 rfl rfl
 have c1 := F1.out.c 1 0 rfl rfl
 go_upto_region 2 with (go_at_call 74; refine (HST.out _ (F1.out.lw 0 rfl)).mono ?_; rintro e w2 ⟨v, rfl, hown, hb⟩; rw [HSL.out] at hown; obtain ⟨a2, c2, rfl, _⟩ := own_shape hown; have F2 := Lib.hid (F1.out.addO hb hown); simp only [List.nil_append] at F2; clear hown hb c0 c1 F1)
 obtain ⟨Y, hY⟩ : ∃ x, w2.heap.size = x := ⟨_, rfl⟩
 rw [hY]
 have F3 := Lib.hid (F2.out.box1 (b := Y) hY [.slice a2 wv.O.length c2] 23)
 simp only [List.nil_append, List.cons_append] at F3
 obtain ⟨W3, hW3⟩ : ∃ x, (w2.alloc (.cells #[.slice a2 wv.O.length c2] 23)) = x := ⟨_, rfl⟩
 rw [hW3] at F3 ⊢
 clear hW3 hY F2
 go_wp2
 go_ret
 exact ⟨Y, a2, c2, rfl, F3.out.less (.refl _) (List.nil_sublist _) (.refl _) (.refl _)⟩

set_option maxRecDepth 100000 in
set_option maxHeartbeats 2000000 in
theorem fromIter (n : Nat) (hn : 6 ≤ n) (l B1 B2 B3 T pn : Nat) (aL aK aO aQ aS aP aD : Option Addr) (cL cK cO cQ cS cP cD : Nat) (Q : List Int) (wv : WinV) (ap : Option Addr) (cp : Nat) (W : World) (J : Nat → World → Prop) (Jx : World → Prop) (hR : wv.R) (hok : wv.okB = true) (hr : 1 ≤ wv.L.length) (hgO : goodB wv.O = true) (hgK : goodB wv.K = true) (hT : prodI wv.K = (T : Int))
  (hJ : ∀ k W1 W2, J k W1 → Below W1.heap.size W1 W2 → J k W2)
  (hJB : ∀ k W1, J k W1 → BoxL W1 B1 [.slice aL wv.L.length cL, .slice aK wv.K.length cK, .slice aO wv.O.length cO, .slice aQ Q.length cQ, .slice aS wv.S.length cS, .slice aP wv.P.length cP, .slice aD wv.D.length cD] ∧ BoxL W1 B2 [.slice ap wv.O.length cp] ∧ BoxL W1 B3 [.int .i64 (pn : Int)] ∧ WinAt W1 W1.heap.size aL aK aO aS aP aD wv ∧ Ints .i64 W1 W1.heap.size ap (standsI wv.O (pn : Int)))
  (hskip : ∀ t W1, t < T → wv.wB pn t = false → J t W1 → J (t + 1) W1)
  (hY : ∀ t W1, t < T → wv.wB pn t = true → J t W1 → YieldAt Fence.wide (n - 1) Tryz.prog l #[.agg #[.int .i64 (pn : Int), .int .i64 (t : Int), .int .i64 (wv.wI pn t)]] W1 fun e W' => (e = .returned (.bool true) ∧ J (t + 1) W') ∨ (e = .returned (.bool false) ∧ Jx W'))
  (h0 : J 0 W) :
  CallsIn Fence.wide n Tryz.prog 75 #[.func (.yield l) #[] #[], .pointer (some ⟨B1, 0, none⟩), .pointer (some ⟨B2, 0, none⟩), .pointer (some ⟨B3, 0, none⟩)] W fun e W' => (∃ v, e = .returned v) ∧ (J T W' ∨ Jx W') := by
 have h1n : 1 ≤ n := by omega
 have hPK := goodB_prod hgK
 have hTb : T ≤ 65536 := by omega
 have HJ := Lib.hid hJ
 have HJB := Lib.hid hJB
 have HSK := Lib.hid hskip
 have HY := Lib.hid hY
 have H0 := Lib.hid h0
 have hlO := wv.O_len
 have hsl := standsI_length wv.O (pn : Int)
 have hswO : ∀ i, i < wv.L.length → 0 ≤ (standsI wv.O (pn : Int))[i]?.getD 0 ∧ (standsI wv.O (pn : Int))[i]?.getD 0 ≤ 12288 := fun i hi => by
  have h1 := getD_within (standsI_within wv.O (pn : Int) (goodB_dims hgO)) (i := i) (by omega)
  rw [wv.O_get hi] at h1
  have h2 := hR.out_pos hi (WinV.ok_room hok hi)
  omega
 have hswK : ∀ (t : Nat) i, i < wv.L.length → 0 ≤ (standsI wv.K (t : Int))[i]?.getD 0 ∧ (standsI wv.K (t : Int))[i]?.getD 0 ≤ 4096 := fun t i hi => by
  have h1 := getD_within (standsI_within wv.K (t : Int) hR.dimsK) (i := i) (by have := hR.k; omega)
  have h2 := hR.dk i hi
  omega
 have hstd := fun (t : Nat) z hz1 hz2 (a2 : Option Addr) (c2 : Nat) W hW hp ht => stand_any aL aK aO aQ aS aP aD cL cK cO cQ cS cP cD Q wv ap a2 cp c2 (standsI wv.O (pn : Int)) (standsI wv.K (t : Int)) W hW hp ht hR hr (by rw [hsl, hlO]) (by rw [standsI_length, hR.k]) hswO (hswK t) z hz1 hz2
 have hztd := fun (t : Nat) => stand_z wv (standsI wv.O (pn : Int)) (standsI wv.K (t : Int))
 have hlK := hR.k
 have hslK := fun t : Nat => standsI_length wv.K (t : Int)
 have hwfK : ∀ (t : Nat), ∀ x ∈ standsI wv.K (t : Int), (Lit.int .i64 x).wf = true := fun t => wf_stands hR.dimsK
 rw [hsl] at hstd
 have HSTD := Lib.hid hstd
 have HZTD := Lib.hid hztd
 have HSLK := Lib.hid hslK
 have HWFK := Lib.hid hwfK
 have HLK := Lib.hid hlK
 have HLO := Lib.hid hlO
 have HGK := Lib.hid hgK
 obtain ⟨c0, _, _, hW0, _⟩ := hJB 0 W h0
 have HTP := Lib.hid (callsIn_wide.2 (winTaps_any aL aK aO aQ aS aP aD cL cK cO cQ cS cP cD Q wv W hW0.iK hgK) : CallsIn Fence.wide (n - 1) _ _ _ _ _)
 rw [hT] at HTP
 clear hPK hJ hJB hskip hY h0 hW0 hswO hswK hstd hztd hsl hlO hlK hslK hwfK hgO hgK hR hok hr hT
 refine callsIn_of_wp Tryz.func75 rfl trivial ?_ rfl
 simp only [Tryz.ntmps75, List.size_toArray, List.length_cons, List.length_nil, Nat.reduceAdd, Nat.reduceSub, Array.replicate_succ, Array.replicate_zero, List.push_toArray, List.append_toArray, List.nil_append, List.cons_append]
 have hfn1 : Fence.wide.fn 43 := trivial
 have hfn2 : Fence.wide.fn 74 := trivial
 have hfn3 : Fence.wide.fn 76 := trivial
 have y0 := c0.cell 0 _ rfl
 have y1 := c0.cell 1 _ rfl
 have y2 := c0.cell 2 _ rfl
 have y3 := c0.cell 3 _ rfl
 have y4 := c0.cell 4 _ rfl
 have y5 := c0.cell 5 _ rfl
 have y6 := c0.cell 6 _ rfl
 clear c0
 refine wpIn_wide.2 ?_
 go_step3
 refine (wpIn_wide (n := n)).1 ?_
 refine wpIn_seq (wpIn_label ?_)
 gi_wp2_with (first | (gi_at_call 43; refine HTP.out.mono ?_; rintro e w1 ⟨rfl, hb⟩; have HJ1 := Lib.hid (HJ.out 0 _ _ H0.out hb); clear hb))
 gi_loopw [10] (fun i wr => ∃ t : Nat, t ≤ T ∧ i = .int .i64 t ∧ Hid (J t wr)) (fun i _ => T - (intOf i).toNat)
 case atStart => exact ⟨0, Nat.zero_le _, rfl, HJ1⟩
 case round =>
  obtain ⟨t, ht, rfl, HJT⟩ := hrel
  clear H0 HJ1
  obtain ⟨wo, rfl⟩ : ∃ x : World, x = wr := ⟨_, rfl⟩
  by_cases hlt : t < T
  ·skip
   obtain ⟨z, hz1, hz2⟩ := HZTD.out t
   have hstd := HSTD.out t z hz1 hz2
   have hwi : wv.wB pn t = true → z = wv.wI pn t := hz1
   have hwb : wv.wB pn t = wv.stB (standsI wv.O (pn : Int)) (standsI wv.K (t : Int)) := rfl
   have hsk := HSLK.out t
   have hwf := HWFK.out t
   rw [← hwb] at hstd
   have hsk2 := HSK.out t
   have hYt := HY.out t
   clear hz1 hz2
   obtain ⟨SK, hSK⟩ : ∃ l, standsI wv.K (t : Int) = l := ⟨_, rfl⟩
   rw [hSK] at hsk hwf hstd
   have hsts := fun W (h : Ints .i64 W W.heap.size aK wv.K) => stands_any aK cK wv.K (t : Int) W h HGK.out (by omega) (by omega)
   rw [hSK] at hsts
   obtain ⟨Bt, hBt⟩ : ∃ x, wv.wB pn t = x := ⟨_, rfl⟩
   rw [hBt] at hstd hwi hsk2 hYt
   have HSTT := Lib.hid hstd
   have HSTS := Lib.hid hsts
   have HWI := Lib.hid hwi
   have HSKL := Lib.hid hsk
   have HWF := Lib.hid hwf
   have HSK2 := Lib.hid hsk2
   have HYT := Lib.hid hYt
   clear hstd hsts hwi hsk hwf hsk2 hYt hwb hSK hBt
   have hti : (t : Int) < (T : Int) := by omega
   gi_wp2
   refine wpIn_region_parts2 (w := wo) 12 0 none [] [(fun u _ => u = .agg #[.slice aL wv.L.length cL, .slice aK wv.K.length cK, .slice aO wv.O.length cO, .slice aQ Q.length cQ, .slice aS wv.S.length cS, .slice aP wv.P.length cP, .slice aD wv.D.length cD]), (fun u _ => u = .slice ap wv.O.length cp), (fun u _ => u = .pointer (some ⟨B1, 1, none⟩)), (fun u _ => u = .slice aK wv.K.length cK), (fun u _ => u = .int .i64 (t : Int)), ((IsRow wo.heap.size 3 SK.length (SK.map (Value.int .i64)))), (fun u _ => u = .tuple #[.int .i64 z, .bool Bt]), (fun u _ => u = .tuple #[.int .i64 z, .bool Bt]), (fun u _ => u = .int .i64 z), (fun u _ => u = .bool Bt), (fun u _ => u = .int .i64 z), (fun u _ => u = .bool Bt)] [some 14, some 15, some 16, some 17, some 18, some 19, some 20, some 13, some 21, some 22, some 6, some 7] #[true, true, true, true, true, true, true, true, true, true, true, true] #[true, true, true, true, true, true, true, true, true, true, true, true] (by kernel_rfl) rfl (by kernel_rfl) (by kernel_rfl) rfl (by kernel_rfl) (by kernel_rfl) (.cons (carries_eq _) (.cons (carries_eq _) (.cons (carries_eq _) (.cons (carries_eq _) (.cons (carries_eq _) (.cons (isRow_carries _ _ _ _) (.cons (carries_eq _) (.cons (carries_eq _) (.cons (carries_eq _) (.cons (carries_eq _) (.cons (carries_eq _) (.cons (carries_eq _) .nil)))))))))))) (fun vs b hvl hvb => ?_)
   obtain ⟨x0, x1, x2, x3, x4, x5, x6, x7, x8, x9, x10, x11, rfl⟩ : ∃ x0 x1 x2 x3 x4 x5 x6 x7 x8 x9 x10 x11, vs = [x0, x1, x2, x3, x4, x5, x6, x7, x8, x9, x10, x11] := lw12 hvl
   clear hvl
   simp only [putAll, Act.put, List.setIfInBounds_toArray, List.set_cons_zero, List.set_cons_succ] at hvb
   subst hvb
   refine ⟨(.snoc (.snoc (.snoc (.snoc (.snoc (.snoc (.snoc (.snoc (.snoc (.snoc (.snoc (.snoc .zero (PartObIn.intro (d := (some 14)) (r := fun u _ => u = .agg #[.slice aL wv.L.length cL, .slice aK wv.K.length cK, .slice aO wv.O.length cO, .slice aQ Q.length cQ, .slice aS wv.S.length cS, .slice aP wv.P.length cP, .slice aD wv.D.length cD]) rfl rfl rfl rfl ?po3x0)) (PartObIn.intro (d := (some 15)) (r := fun u _ => u = .slice ap wv.O.length cp) rfl rfl rfl rfl ?po3x1)) (PartObIn.intro (d := (some 16)) (r := fun u _ => u = .pointer (some ⟨B1, 1, none⟩)) rfl rfl rfl rfl ?po3x2)) (PartObIn.intro (d := (some 17)) (r := fun u _ => u = .slice aK wv.K.length cK) rfl rfl rfl rfl ?po3x3)) (PartObIn.intro (d := (some 18)) (r := fun u _ => u = .int .i64 (t : Int)) rfl rfl rfl rfl ?po3x4)) (PartObIn.intro (d := (some 19)) (r := (IsRow wo.heap.size 3 SK.length (SK.map (Value.int .i64)))) rfl rfl rfl rfl ?po3x5)) (PartObIn.intro (d := (some 20)) (r := fun u _ => u = .tuple #[.int .i64 z, .bool Bt]) rfl rfl rfl rfl ?po3x6)) (PartObIn.intro (d := (some 13)) (r := fun u _ => u = .tuple #[.int .i64 z, .bool Bt]) rfl rfl rfl rfl ?po3x7)) (PartObIn.intro (d := (some 21)) (r := fun u _ => u = .int .i64 z) rfl rfl rfl rfl ?po3x8)) (PartObIn.intro (d := (some 22)) (r := fun u _ => u = .bool Bt) rfl rfl rfl rfl ?po3x9)) (PartObIn.intro (d := (some 6)) (r := fun u _ => u = .int .i64 z) rfl rfl rfl rfl ?po3x10)) (PartObIn.intro (d := (some 7)) (r := fun u _ => u = .bool Bt) rfl rfl rfl rfl ?po3x11)), ?pend3, ?pfl3⟩
   case po3x0 =>
    intro w1 hb1 hd KK hK
    obtain ⟨bx1, bx2, bx3, hW1, hI1⟩ := HJB.out t w1 (HJ.out t _ _ HJT.out hb1)
    have y0 := bx1.cell 0 _ rfl
    have y1 := bx1.cell 1 _ rfl
    have y2 := bx1.cell 2 _ rfl
    have y3 := bx1.cell 3 _ rfl
    have y4 := bx1.cell 4 _ rfl
    have y5 := bx1.cell 5 _ rfl
    have y6 := bx1.cell 6 _ rfl
    go_simp
    exact hK.out _ _ (Below.refl _ _) rfl
   case po3x1 =>
    intro w1 hb1 hd KK hK
    obtain ⟨bx1, bx2, bx3, hW1, hI1⟩ := HJB.out t w1 (HJ.out t _ _ HJT.out hb1)
    have y0 := bx2.cell 0 _ rfl
    go_simp
    exact hK.out _ _ (Below.refl _ _) rfl
   case po3x2 | po3x4 =>
    intro w1 hb1 hd KK hK
    go_simp
    exact hK.out _ _ (Below.refl _ _) rfl
   case po3x3 =>
    intro w1 hb1 hd KK hK
    obtain rfl := hd 2 (by kernel_rfl)
    obtain ⟨bx1, bx2, bx3, hW1, hI1⟩ := HJB.out t w1 (HJ.out t _ _ HJT.out hb1)
    have y1 := bx1.cell 1 _ rfl
    go_simp
    exact hK.out _ _ (Below.refl _ _) rfl
   case po3x5 =>
    intro w1 hb1 hd KK hK
    obtain rfl := hd 3 (by kernel_rfl)
    obtain rfl := hd 4 (by kernel_rfl)
    go_simp
    obtain ⟨bx1, bx2, bx3, hW1, hI1⟩ := HJB.out t w1 (HJ.out t _ _ HJT.out hb1)
    gi_at_call 74
    refine (callsIn_wide.2 (HSTS.out w1 hW1.iK) : CallsIn Fence.wide (n - 1) _ _ _ _ _).mono ?_
    rintro e w2 ⟨v, rfl, hown, hb⟩
    obtain ⟨a2_, c2_, rfl, _⟩ := own_shape hown
    (try gi_wp2_with fail)
    exact hK.out _ _ hb ⟨a2_, c2_, rfl, own_mono hown hb1.size⟩
   case po3x6 =>
    intro w1 hb1 hd KK hK
    obtain rfl := hd 0 (by kernel_rfl)
    obtain rfl := hd 1 (by kernel_rfl)
    obtain ⟨a5x, c5x, rfl, hO5⟩ := hd 5 (by kernel_rfl)
    obtain ⟨bx1, bx2, bx3, hW1, hI1⟩ := HJB.out t w1 (HJ.out t _ _ HJT.out hb1)
    go_simp
    gi_at_call 76
    refine (callsIn_wide.2 (HSTT.out a5x c5x w1 hW1 hI1 (ints_row hO5 rfl HWF.out)) : CallsIn Fence.wide (n - 1) _ _ _ _ _).mono ?_
    rintro e w2 ⟨rfl, hb⟩
    (try gi_wp2_with fail)
    exact hK.out _ _ hb rfl
   case po3x7 =>
    intro w1 hb1 hd KK hK
    obtain rfl := hd 6 (by kernel_rfl)
    go_simp
    exact hK.out _ _ (Below.refl _ _) rfl
   case po3x8 | po3x9 =>
    intro w1 hb1 hd KK hK
    obtain rfl := hd 7 (by kernel_rfl)
    go_simp
    exact hK.out _ _ (Below.refl _ _) rfl
   case po3x10 =>
    intro w1 hb1 hd KK hK
    obtain rfl := hd 0 (by kernel_rfl)
    obtain rfl := hd 1 (by kernel_rfl)
    obtain rfl := hd 2 (by kernel_rfl)
    obtain rfl := hd 3 (by kernel_rfl)
    obtain rfl := hd 4 (by kernel_rfl)
    obtain ⟨a5x, c5x, rfl, hO5⟩ := hd 5 (by kernel_rfl)
    obtain rfl := hd 6 (by kernel_rfl)
    obtain rfl := hd 7 (by kernel_rfl)
    obtain rfl := hd 8 (by kernel_rfl)
    go_simp
    exact hK.out _ _ (Below.refl _ _) rfl
   case po3x11 =>
    intro w1 hb1 hd KK hK
    obtain rfl := hd 0 (by kernel_rfl)
    obtain rfl := hd 1 (by kernel_rfl)
    obtain rfl := hd 2 (by kernel_rfl)
    obtain rfl := hd 3 (by kernel_rfl)
    obtain rfl := hd 4 (by kernel_rfl)
    obtain ⟨a5x, c5x, rfl, hO5⟩ := hd 5 (by kernel_rfl)
    obtain rfl := hd 6 (by kernel_rfl)
    obtain rfl := hd 7 (by kernel_rfl)
    obtain rfl := hd 8 (by kernel_rfl)
    obtain rfl := hd 9 (by kernel_rfl)
    obtain rfl := hd 10 (by kernel_rfl)
    go_simp
    exact hK.out _ _ (Below.refl _ _) rfl
   case pfl3 => (intro f hf; cases hf)
   case pend3 =>
   intro w1 hb1 hR hD
   obtain rfl := hR 0 (by decide)
   obtain rfl := hR 1 (by decide)
   obtain rfl := hR 2 (by decide)
   obtain rfl := hR 3 (by decide)
   obtain rfl := hR 4 (by decide)
   obtain ⟨a5x, c5x, rfl, hO5⟩ := hR 5 (by decide)
   obtain rfl := hR 6 (by decide)
   obtain rfl := hR 7 (by decide)
   obtain rfl := hR 8 (by decide)
   obtain rfl := hR 9 (by decide)
   obtain rfl := hR 10 (by decide)
   obtain rfl := hR 11 (by decide)
   clear hR hD
   refine wpAnyIn_done (by kernel_rfl) ?_ _
   have HJ2 := Lib.hid (HJ.out t _ _ HJT.out hb1)
   clear HJT hb1 hO5 HSTT HSTS HSKL HWF
   obtain ⟨V2, rfl⟩ : ∃ x : World, x = w1 := ⟨_, rfl⟩
   cases Bt with
   | false =>
    gi_wp2
    go_roundw
    case rel => exact ⟨t + 1, by omega, by go_num, Lib.hid (HSK2.out V2 hlt rfl HJ2.out)⟩
    case measure => simp [intOf]; omega
   | true =>
    obtain rfl := HWI.out rfl
    obtain ⟨bx1, bx2, bx3, hW1, hI1⟩ := HJB.out t V2 HJ2.out
    have q0 := bx3.cell 0 _ rfl
    clear bx1 bx2 bx3 hW1 hI1
    obtain ⟨fn, tmps, assign, body, hy, hRR⟩ := HYT.out V2 hlt rfl HJ2.out
    have HR := Lib.hid hRR
    clear hRR
    gi_wp2
    refine HR.out.mono ?_
    rintro e W3 (⟨rfl, hJ3⟩ | ⟨rfl, hJx⟩)
    ·have HJ3 := Lib.hid hJ3
     clear hJ3 hy
     gi_wp2
     go_roundw
     case rel => exact ⟨t + 1, by omega, by go_num, HJ3⟩
     case measure => simp [intOf]; omega
    ·have HJX := Lib.hid hJx
     clear hJx hy
     gi_wp2
     (try simp only [Exit.noGoto, Exit.inBlock, Exit.then])
     refine bodyPost_ret (results_none rfl _ _ _) rfl ?_
     exact ⟨⟨_, rfl⟩, .inr HJX.out⟩
  ·obtain rfl : t = T := by omega
   gi_wp2
   (try simp only [Exit.noGoto, Exit.inBlock, Exit.then])
   go_end0
   exact ⟨⟨_, rfl⟩, .inl HJT.out⟩
end Go.Proofs.YtadlnmckcnfacaaGreat
