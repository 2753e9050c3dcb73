import Derived.Test.YtadlnmckcnfacaaGreatVCoR
import Derived.Test.YtadlnmckcnfacaaGreatVCxP
set_option linter.unusedVariables false
set_option linter.unusedSimpArgs false
namespace Go.Proofs.YtadlnmckcnfacaaGreat
open Go.RowKit Go.Rt
attribute [local go_sem] Oper.semAt_some
theorem lw28 {α : Type} {l0 : List α} (h0 : l0.length = 28) : ∃ x0 x1 x2 x3 x4 x5 x6 x7 x8 x9 x10 x11 x12 x13 x14 x15 x16 x17 x18 x19 x20 x21 x22 x23 x24 x25 x26 x27, l0 = [x0, x1, x2, x3, x4, x5, x6, x7, x8, x9, x10, x11, x12, x13, x14, x15, x16, x17, x18, x19, x20, x21, x22, x23, x24, x25, x26, x27] := by
 obtain ⟨x0, l1, rfl, h1⟩ := lwC h0
 obtain ⟨x1, l2, rfl, h2⟩ := lwC h1
 obtain ⟨x2, l3, rfl, h3⟩ := lwC h2
 obtain ⟨x3, l4, rfl, h4⟩ := lwC h3
 obtain ⟨x4, l5, rfl, h5⟩ := lwC h4
 obtain ⟨x5, l6, rfl, h6⟩ := lwC h5
 obtain ⟨x6, l7, rfl, h7⟩ := lwC h6
 obtain ⟨x7, l8, rfl, h8⟩ := lwC h7
 obtain ⟨x8, l9, rfl, h9⟩ := lwC h8
 obtain ⟨x9, l10, rfl, h10⟩ := lwC h9
 obtain ⟨x10, l11, rfl, h11⟩ := lwC h10
 obtain ⟨x11, l12, rfl, h12⟩ := lwC h11
 obtain ⟨x12, l13, rfl, h13⟩ := lwC h12
 obtain ⟨x13, l14, rfl, h14⟩ := lwC h13
 obtain ⟨x14, l15, rfl, h15⟩ := lwC h14
 obtain ⟨x15, l16, rfl, h16⟩ := lwC h15
 obtain ⟨x16, l17, rfl, h17⟩ := lwC h16
 obtain ⟨x17, l18, rfl, h18⟩ := lwC h17
 obtain ⟨x18, l19, rfl, h19⟩ := lwC h18
 obtain ⟨x19, l20, rfl, h20⟩ := lwC h19
 obtain ⟨x20, l21, rfl, h21⟩ := lwC h20
 obtain ⟨x21, l22, rfl, h22⟩ := lwC h21
 obtain ⟨x22, l23, rfl, h23⟩ := lwC h22
 obtain ⟨x23, l24, rfl, h24⟩ := lwC h23
 obtain ⟨x24, l25, rfl, h25⟩ := lwC h24
 obtain ⟨x25, l26, rfl, h26⟩ := lwC h25
 obtain ⟨x26, l27, rfl, h27⟩ := lwC h26
 obtain ⟨x27, l28, rfl, h28⟩ := lwC h27
 obtain rfl := List.length_eq_zero_iff.1 h28
 exact ⟨x0, x1, x2, x3, x4, x5, x6, x7, x8, x9, x10, x11, x12, x13, x14, x15, x16, x17, x18, x19, x20, x21, x22, x23, x24, x25, x26, x27, rfl⟩
def stX (wv : WinV) (pl tp : List Int) : List Int := if wv.stB pl tp = true then wv.xs pl tp else []
set_option maxRecDepth 100000 in
set_option maxHeartbeats 4000000 in
theorem rstand_any (aX aA aB aQ aS aP aD : Option Addr) (cX cA cB qn cQ cS cP cD : Nat) (xs pl tp : List Int) (wv : WinV) (w : World) (h0 : Ints .i64 w w.heap.size aX xs) (h1 : Ints .i64 w w.heap.size aA pl) (hb : Ints .i64 w w.heap.size aB tp) (h2 : Ints .i64 w w.heap.size aS wv.S) (h3 : Ints .i64 w w.heap.size aP wv.P) (h4 : Ints .i64 w w.heap.size aD wv.D) (hL : wv.L = xs.drop 2) (hR : wv.R) (hx2 : xs.length = 2 + wv.L.length) (hpl : pl.length = wv.L.length) (htl : tp.length = wv.L.length) (hpb : ∀ i, i < wv.L.length → 0 ≤ pl[i]?.getD 0 ∧ pl[i]?.getD 0 ≤ 12288) (htb : ∀ i, i < wv.L.length → 0 ≤ tp[i]?.getD 0 ∧ tp[i]?.getD 0 ≤ 4096) :
  Calls Tryz.prog 53 #[.slice aX xs.length cX, .slice aA pl.length cA, .slice aB tp.length cB, .agg #[.slice aQ qn cQ, .slice aS wv.S.length cS, .slice aP wv.P.length cP, .slice aD wv.D.length cD]] w (RetLB w (stX wv pl tp) (wv.stB pl tp)) := by
 have F1 := Lib.hid (((Fr.start (w := w) (I := [(.i64, aX, xs), (.i64, aA, pl), (.i64, aB, tp), (.i64, aS, wv.S), (.i64, aP, wv.P), (.i64, aD, wv.D)]) (by intro z hz; simp at hz; rcases hz with rfl | rfl | rfl | rfl | rfl | rfl; exact h0; exact h1; exact hb; exact h2; exact h3; exact h4)).box1 (b := w.heap.size) rfl [.slice aQ qn cQ, .slice aS wv.S.length cS, .slice aP wv.P.length cP, .slice aD wv.D.length cD] 28).addNil 3)
 simp only [List.nil_append, List.cons_append] at F1
 have hLx : ∀ i : Nat, wv.L[i]?.getD 0 = xs[2 + i]?.getD 0 := fun i => by rw [hL, List.getElem?_drop]
 obtain ⟨r, hrr⟩ : ∃ r, wv.L.length = r := ⟨_, rfl⟩
 have hr2 := hR.r
 have hlen := h0.len
 have hdl := fun i (hi : i < r) => hR.dl i (by omega)
 have hds := fun i (hi : i < r) => hR.ds i (by omega)
 have hdp := fun i (hi : i < r) => hR.dp i (by omega)
 have hdd := fun i (hi : i < r) => hR.dd i (by omega)
 have hxl := fun i (hi : i < r) => hR.x_le (pl := pl) (tp := tp) (i := i) (by omega) (hpb i (by omega)) (htb i (by omega))
 have hlS := hR.s
 have hlP := hR.p
 have hlD := hR.d
 have hot := fun i (hi : i < r) => (show (wv.xs pl tp).take (i + 1) = (wv.xs pl tp).take i ++ [wv.x pl tp i] by rw [take_snoc _ i (by rw [wv.xs_len]; omega)]; congr 1; have h9 := wv.xs_get pl tp (i := i) (by omega); obtain ⟨_, h8⟩ := List.getElem?_eq_some_iff.1 h9; rw [h8])
 have hOl := wv.xs_len pl tp
 rw [hrr] at hr2 hlS hlP hlD hOl hx2 hpl htl
 have hbad : ∀ i, i < r → wv.inB pl tp i = false → wv.stB pl tp = false := fun i hi h => by
  cases h9 : wv.stB pl tp with
  | false => rfl
  | true =>
   have h8 := WinV.st_iff.1 h9 i (by omega)
   rw [WinV.in_iff.2 h8] at h
   cases h
 have hgood : (∀ i, i < r → wv.inB pl tp i = true) → wv.stB pl tp = true := fun h => WinV.st_iff.2 fun i hi => WinV.in_iff.1 (h i (by omega))
 obtain ⟨SP, hSP⟩ : ∃ z, stX wv pl tp = z := ⟨_, rfl⟩
 obtain ⟨OKB, hOKB⟩ : ∃ z, wv.stB pl tp = z := ⟨_, rfl⟩
 have hs1 : OKB = false → SP = [] := fun h => by rw [← hSP]; unfold stX; rw [hOKB, h]; rfl
 have hs2 : OKB = true → SP = wv.xs pl tp := fun h => by rw [← hSP]; unfold stX; rw [hOKB, h]; rfl
 rw [hOKB] at hbad hgood
 rw [hSP, hOKB]
 obtain ⟨XL, hXL⟩ : ∃ z, wv.xs pl tp = z := ⟨_, rfl⟩
 rw [hXL] at hot hOl hs2
 obtain ⟨XT, hXT⟩ : ∃ g : Nat → List Int, g = fun k => XL.take k := ⟨_, rfl⟩
 have hot : ∀ i, i < r → XT (i + 1) = XT i ++ [wv.x pl tp i] := fun i hi => by rw [hXT]; exact hot i hi
 have hxt0 : XT 0 = [] := by rw [hXT]; exact List.take_zero
 have hxtr : XT r = XL := by rw [hXT]; exact List.take_of_length_le (by omega)
 have HLX := Lib.hid hLx
 have HRR := Lib.hid hrr
 have HDL := Lib.hid hdl
 have HXL := Lib.hid hxl
 have HDS := Lib.hid hds
 have HDP := Lib.hid hdp
 have HDD := Lib.hid hdd
 have HLS := Lib.hid hlS
 have HLP := Lib.hid hlP
 have HLD := Lib.hid hlD
 have HOT := Lib.hid hot
 have HBAD := Lib.hid hbad
 have HGOOD := Lib.hid hgood
 have HS1 := Lib.hid hs1
 have HS2 := Lib.hid hs2
 have HOL := Lib.hid hOl
 have HX2 := Lib.hid hx2
 have HPL := Lib.hid hpl
 have HTL := Lib.hid htl
 have HXTR := Lib.hid hxtr
 clear h0 h1 h2 h3 h4 hb hR hL hLx hSP hOKB hpb htb hXL hXT hrr hdl hxl hds hdp hdd hlS hlP hlD hot hbad hgood hs1 hs2 hOl hx2 hpl htl hxtr
 go_enter Tryz.func53, Tryz.ntmps53
 go_upto_region 1 with fail
 obtain ⟨W1, hW1⟩ : ∃ W1, w.alloc (.cells #[.slice aQ qn cQ, .slice aS wv.S.length cS, .slice aP wv.P.length cP, .slice aD wv.D.length cD] 28) = W1 := ⟨_, rfl⟩
 rw [hW1] at F1 ⊢
 clear hW1
 go_wp2
 go_loopw [10, 11] (fun s10 s11 wr => ∃ (k : Nat) (ab : Option Addr) (cb : Nat), k ≤ r ∧ s10 = .slice ab k cb ∧ s11 = .int .i64 k ∧ Hid (∀ j, j < k → wv.inB pl tp j = true) ∧ Hid (Fr w.heap.size w wr [(w.heap.size, [.slice aQ qn cQ, .slice aS wv.S.length cS, .slice aP wv.P.length cP, .slice aD wv.D.length cD])] [(.i64, aX, xs), (.i64, aA, pl), (.i64, aB, tp), (.i64, aS, wv.S), (.i64, aP, wv.P), (.i64, aD, wv.D)] [⟨3, .slice ab k cb, k, (XT k).map (Value.int .i64)⟩] [])) (fun _ s11 _ => r - (intOf s11).toNat)
 case atStart => exact ⟨0, none, 0, Nat.zero_le _, rfl, rfl, Lib.hid (fun j hj => absurd hj (by omega)), by have h9 := F1.out; rw [hxt0]; exact Lib.hid h9⟩
 case round =>
  obtain ⟨k, ab, cb, hk, rfl, rfl, HG, F3⟩ := hrel
  clear F1
  obtain ⟨wo, rfl⟩ : ∃ x : World, x = wr := ⟨_, rfl⟩
  have hpl2 := HPL.out
  by_cases hlt : k < r
  ·skip
   have hkpi : (k : Int) < (pl.length : Int) := by omega
   have hdl := HDL.out k hlt
   have hxl := HXL.out k hlt
   have hds := HDS.out k hlt
   have hdp := HDP.out k hlt
   have hdd := HDD.out k hlt
   have hot := HOT.out k hlt
   have hxe : wv.x pl tp k = (pl[k]?.getD 0) * (wv.S[k]?.getD 0) + (tp[k]?.getD 0) * (wv.D[k]?.getD 0) - wv.P[k]?.getD 0 := rfl
   have hin : wv.inB pl tp k = (decide (0 ≤ wv.x pl tp k) && decide (wv.x pl tp k < wv.L[k]?.getD 0)) := rfl
   rw [HLX.out k] at hdl hin
   have hkX : 2 + k < xs.length := by have := HX2.out; omega
   have hkXi : 2 + (k : Int) < (xs.length : Int) := by omega
   obtain ⟨bX, oX, rfl, _, hcX⟩ := (F3.out.l 0 rfl).cell (2 + k) hkX
   obtain ⟨el, hel⟩ : ∃ z, xs[2 + k]?.getD 0 = z := ⟨_, rfl⟩
   rw [hel] at hcX
   have hkA : k < pl.length := by rw [HPL.out]; exact hlt
   have hkAi : (k : Int) < (pl.length : Int) := by omega
   obtain ⟨bA, oA, rfl, _, hcA⟩ := (F3.out.l 1 rfl).cell k hkA
   obtain ⟨ea, hea⟩ : ∃ z, pl[k]?.getD 0 = z := ⟨_, rfl⟩
   have hkB : k < tp.length := by rw [HTL.out]; exact hlt
   have hkBi : (k : Int) < (tp.length : Int) := by omega
   obtain ⟨bB, oB, rfl, _, hcB⟩ := (F3.out.l 2 rfl).cell k hkB
   obtain ⟨eb, heb⟩ : ∃ z, tp[k]?.getD 0 = z := ⟨_, rfl⟩
   have hkS : k < wv.S.length := by rw [HLS.out]; exact hlt
   have hkSi : (k : Int) < (wv.S.length : Int) := by omega
   obtain ⟨bS, oS, rfl, _, hcS⟩ := (F3.out.l 3 rfl).cell k hkS
   obtain ⟨es, hes⟩ : ∃ z, wv.S[k]?.getD 0 = z := ⟨_, rfl⟩
   have hkP : k < wv.P.length := by rw [HLP.out]; exact hlt
   have hkPi : (k : Int) < (wv.P.length : Int) := by omega
   obtain ⟨bP, oP, rfl, _, hcP⟩ := (F3.out.l 4 rfl).cell k hkP
   obtain ⟨ep, hep⟩ : ∃ z, wv.P[k]?.getD 0 = z := ⟨_, rfl⟩
   have hkD : k < wv.D.length := by rw [HLD.out]; exact hlt
   have hkDi : (k : Int) < (wv.D.length : Int) := by omega
   obtain ⟨bD, oD, rfl, _, hcD⟩ := (F3.out.l 5 rfl).cell k hkD
   obtain ⟨ed, hed⟩ : ∃ z, wv.D[k]?.getD 0 = z := ⟨_, rfl⟩
   simp only [hel, hea, heb, hes, hep, hed] at hdl hds hdp hdd hxe hxl hin
   have Hel := Lib.hid hel
   have Hea := Lib.hid hea
   have Heb := Lib.hid heb
   have Hes := Lib.hid hes
   have Hep := Lib.hid hep
   have Hed := Lib.hid hed
   obtain ⟨X, hX⟩ : ∃ z, wv.x pl tp k = z := ⟨_, rfl⟩
   rw [hX] at hxe hin hot
   obtain ⟨m1, hm1⟩ : ∃ z, ea * es = z := ⟨_, rfl⟩
   obtain ⟨m2, hm2⟩ : ∃ z, eb * ed = z := ⟨_, rfl⟩
   rw [hm1, hm2] at hxe hxl
   have HM1 := Lib.hid (show IntKind.i64.wrap (ea * es) = m1 by rw [hm1]; exact IntWalk.i64_in _ (by omega))
   have HM2 := Lib.hid (show IntKind.i64.wrap (eb * ed) = m2 by rw [hm2]; exact IntWalk.i64_in _ (by omega))
   have HM3 := Lib.hid (show IntKind.i64.wrap (m1 + m2) = m1 + m2 from IntWalk.i64_in _ (by omega))
   have HM4 := Lib.hid (show IntKind.i64.wrap (m1 + m2 - ep) = X by rw [hxe]; exact IntWalk.i64_in _ (by omega))
   have HIN := Lib.hid hin
   have HOT2 := Lib.hid hot
   have HXB := Lib.hid (show -10000000 ≤ X ∧ X ≤ 100000000 by omega)
   have HCX := Lib.hid hcX
   have hk0 : (0 : Int) ≤ (k : Int) := by omega
   clear hdl hds hdp hdd hot hxe hin hxl hX hm1 hm2 hel hea heb hes hep hed hcX hcA hcB hcS hcP hcD
   go_upto_region 5 with fail
   refine wp_region_parts2 (w := wo) 28 0 none [] [(fun u _ => u = .slice (some ⟨bA, oA, none⟩) pl.length cA), (fun u _ => u = .int .i64 (k : Int)), (fun u _ => u = .pointer (some ⟨bA, oA + k, none⟩)), (fun u _ => u = .int .i64 ea), (fun u _ => u = .pointer (some ⟨w.heap.size, 1, none⟩)), (fun u _ => u = .slice (some ⟨bS, oS, none⟩) wv.S.length cS), (fun u _ => u = .int .i64 (k : Int)), (fun u _ => u = .pointer (some ⟨bS, oS + k, none⟩)), (fun u _ => u = .int .i64 es), (fun u _ => u = .int .i64 m1), (fun u _ => u = .slice (some ⟨bB, oB, none⟩) tp.length cB), (fun u _ => u = .int .i64 (k : Int)), (fun u _ => u = .pointer (some ⟨bB, oB + k, none⟩)), (fun u _ => u = .int .i64 eb), (fun u _ => u = .pointer (some ⟨w.heap.size, 3, none⟩)), (fun u _ => u = .slice (some ⟨bD, oD, none⟩) wv.D.length cD), (fun u _ => u = .int .i64 (k : Int)), (fun u _ => u = .pointer (some ⟨bD, oD + k, none⟩)), (fun u _ => u = .int .i64 ed), (fun u _ => u = .int .i64 m2), (fun u _ => u = .int .i64 (m1 + m2)), (fun u _ => u = .pointer (some ⟨w.heap.size, 2, none⟩)), (fun u _ => u = .slice (some ⟨bP, oP, none⟩) wv.P.length cP), (fun u _ => u = .int .i64 (k : Int)), (fun u _ => u = .pointer (some ⟨bP, oP + k, none⟩)), (fun u _ => u = .int .i64 ep), (fun u _ => u = .int .i64 X), (fun u _ => u = .int .i64 X)] [some 19, some 20, some 21, some 22, some 23, some 24, some 25, some 26, some 27, some 28, some 29, some 30, some 31, some 32, some 33, some 34, some 35, some 36, some 37, some 38, some 39, some 40, some 41, some 42, some 43, some 44, some 45, some 12] #[true, true, true, true, true, true, true, true, true, true, true, true, true, true, true, true, true, true, true, true, true, true, true, true, true, true, true, true] #[true, true, true, true, true, true, true, true, true, true, true, true, true, true, true, true, true, true, true, true, true, true, true, true, true, true, true, true] (by kernel_rfl) rfl (by kernel_rfl) (by kernel_rfl) rfl (by kernel_rfl) (by kernel_rfl) (.cons (carries_eq _) (.cons (carries_eq _) (.cons (carries_eq _) (.cons (carries_eq _) (.cons (carries_eq _) (.cons (carries_eq _) (.cons (carries_eq _) (.cons (carries_eq _) (.cons (carries_eq _) (.cons (carries_eq _) (.cons (carries_eq _) (.cons (carries_eq _) (.cons (carries_eq _) (.cons (carries_eq _) (.cons (carries_eq _) (.cons (carries_eq _) (.cons (carries_eq _) (.cons (carries_eq _) (.cons (carries_eq _) (.cons (carries_eq _) (.cons (carries_eq _) (.cons (carries_eq _) (.cons (carries_eq _) (.cons (carries_eq _) (.cons (carries_eq _) (.cons (carries_eq _) (.cons (carries_eq _) (.cons (carries_eq _) .nil)))))))))))))))))))))))))))) (fun vs b hvl hvb => ?_)
   obtain ⟨x0, x1, x2, x3, x4, x5, x6, x7, x8, x9, x10, x11, x12, x13, x14, x15, x16, x17, x18, x19, x20, x21, x22, x23, x24, x25, x26, x27, rfl⟩ : ∃ x0 x1 x2 x3 x4 x5 x6 x7 x8 x9 x10 x11 x12 x13 x14 x15 x16 x17 x18 x19 x20 x21 x22 x23 x24 x25 x26 x27, vs = [x0, x1, x2, x3, x4, x5, x6, x7, x8, x9, x10, x11, x12, x13, x14, x15, x16, x17, x18, x19, x20, x21, x22, x23, x24, x25, x26, x27] := lw28 hvl
   clear hvl
   simp only [putAll, Act.put, List.setIfInBounds_toArray, List.set_cons_zero, List.set_cons_succ] at hvb
   subst hvb
   refine ⟨(.snoc (.snoc (.snoc (.snoc (.snoc (.snoc (.snoc (.snoc (.snoc (.snoc (.snoc (.snoc (.snoc (.snoc (.snoc (.snoc (.snoc (.snoc (.snoc (.snoc (.snoc (.snoc (.snoc (.snoc (.snoc (.snoc (.snoc (.snoc .zero (PartOb.intro (d := (some 19)) (r := fun u _ => u = .slice (some ⟨bA, oA, none⟩) pl.length cA) rfl rfl rfl rfl ?po5x0)) (PartOb.intro (d := (some 20)) (r := fun u _ => u = .int .i64 (k : Int)) rfl rfl rfl rfl ?po5x1)) (PartOb.intro (d := (some 21)) (r := fun u _ => u = .pointer (some ⟨bA, oA + k, none⟩)) rfl rfl rfl rfl ?po5x2)) (PartOb.intro (d := (some 22)) (r := fun u _ => u = .int .i64 ea) rfl rfl rfl rfl ?po5x3)) (PartOb.intro (d := (some 23)) (r := fun u _ => u = .pointer (some ⟨w.heap.size, 1, none⟩)) rfl rfl rfl rfl ?po5x4)) (PartOb.intro (d := (some 24)) (r := fun u _ => u = .slice (some ⟨bS, oS, none⟩) wv.S.length cS) rfl rfl rfl rfl ?po5x5)) (PartOb.intro (d := (some 25)) (r := fun u _ => u = .int .i64 (k : Int)) rfl rfl rfl rfl ?po5x6)) (PartOb.intro (d := (some 26)) (r := fun u _ => u = .pointer (some ⟨bS, oS + k, none⟩)) rfl rfl rfl rfl ?po5x7)) (PartOb.intro (d := (some 27)) (r := fun u _ => u = .int .i64 es) rfl rfl rfl rfl ?po5x8)) (PartOb.intro (d := (some 28)) (r := fun u _ => u = .int .i64 m1) rfl rfl rfl rfl ?po5x9)) (PartOb.intro (d := (some 29)) (r := fun u _ => u = .slice (some ⟨bB, oB, none⟩) tp.length cB) rfl rfl rfl rfl ?po5x10)) (PartOb.intro (d := (some 30)) (r := fun u _ => u = .int .i64 (k : Int)) rfl rfl rfl rfl ?po5x11)) (PartOb.intro (d := (some 31)) (r := fun u _ => u = .pointer (some ⟨bB, oB + k, none⟩)) rfl rfl rfl rfl ?po5x12)) (PartOb.intro (d := (some 32)) (r := fun u _ => u = .int .i64 eb) rfl rfl rfl rfl ?po5x13)) (PartOb.intro (d := (some 33)) (r := fun u _ => u = .pointer (some ⟨w.heap.size, 3, none⟩)) rfl rfl rfl rfl ?po5x14)) (PartOb.intro (d := (some 34)) (r := fun u _ => u = .slice (some ⟨bD, oD, none⟩) wv.D.length cD) rfl rfl rfl rfl ?po5x15)) (PartOb.intro (d := (some 35)) (r := fun u _ => u = .int .i64 (k : Int)) rfl rfl rfl rfl ?po5x16)) (PartOb.intro (d := (some 36)) (r := fun u _ => u = .pointer (some ⟨bD, oD + k, none⟩)) rfl rfl rfl rfl ?po5x17)) (PartOb.intro (d := (some 37)) (r := fun u _ => u = .int .i64 ed) rfl rfl rfl rfl ?po5x18)) (PartOb.intro (d := (some 38)) (r := fun u _ => u = .int .i64 m2) rfl rfl rfl rfl ?po5x19)) (PartOb.intro (d := (some 39)) (r := fun u _ => u = .int .i64 (m1 + m2)) rfl rfl rfl rfl ?po5x20)) (PartOb.intro (d := (some 40)) (r := fun u _ => u = .pointer (some ⟨w.heap.size, 2, none⟩)) rfl rfl rfl rfl ?po5x21)) (PartOb.intro (d := (some 41)) (r := fun u _ => u = .slice (some ⟨bP, oP, none⟩) wv.P.length cP) rfl rfl rfl rfl ?po5x22)) (PartOb.intro (d := (some 42)) (r := fun u _ => u = .int .i64 (k : Int)) rfl rfl rfl rfl ?po5x23)) (PartOb.intro (d := (some 43)) (r := fun u _ => u = .pointer (some ⟨bP, oP + k, none⟩)) rfl rfl rfl rfl ?po5x24)) (PartOb.intro (d := (some 44)) (r := fun u _ => u = .int .i64 ep) rfl rfl rfl rfl ?po5x25)) (PartOb.intro (d := (some 45)) (r := fun u _ => u = .int .i64 X) rfl rfl rfl rfl ?po5x26)) (PartOb.intro (d := (some 12)) (r := fun u _ => u = .int .i64 X) rfl rfl rfl rfl ?po5x27)), ?pend5, ?pfl5⟩
   case po5x0 | po5x1 | po5x4 | po5x6 | po5x10 | po5x11 | po5x14 | po5x16 | po5x21 | po5x23 =>
    intro w1 hb1 hd KK hK
    go_simp
    first | exact hK.out _ _ (Below.refl _ _) rfl | (have hk := hK.out _ _ (Below.refl _ _) rfl; revert hk; go_simp)
   case po5x2 =>
    intro w1 hb1 hd KK hK
    obtain rfl := hd 0 (by kernel_rfl)
    obtain rfl := hd 1 (by kernel_rfl)
    go_simp
    first | exact hK.out _ _ (Below.refl _ _) rfl | (have hk := hK.out _ _ (Below.refl _ _) rfl; revert hk; go_simp)
   case po5x3 =>
    intro w1 hb1 hd KK hK
    obtain rfl := hd 2 (by kernel_rfl)
    have hF := F3.out.next hb1
    obtain ⟨b9, o9, he, _, hcx⟩ := (hF.l 1 rfl).cell (k) hkA
    cases he
    rw [Hea.out] at hcx
    go_simp
    first | exact hK.out _ _ (Below.refl _ _) rfl | (have hk := hK.out _ _ (Below.refl _ _) rfl; revert hk; go_simp)
   case po5x5 =>
    intro w1 hb1 hd KK hK
    obtain rfl := hd 4 (by kernel_rfl)
    have hF := F3.out.next hb1
    have k0 := hF.c 0 1 rfl rfl
    go_simp
    first | exact hK.out _ _ (Below.refl _ _) rfl | (have hk := hK.out _ _ (Below.refl _ _) rfl; revert hk; go_simp)
   case po5x7 =>
    intro w1 hb1 hd KK hK
    obtain rfl := hd 5 (by kernel_rfl)
    obtain rfl := hd 6 (by kernel_rfl)
    go_simp
    first | exact hK.out _ _ (Below.refl _ _) rfl | (have hk := hK.out _ _ (Below.refl _ _) rfl; revert hk; go_simp)
   case po5x8 =>
    intro w1 hb1 hd KK hK
    obtain rfl := hd 7 (by kernel_rfl)
    have hF := F3.out.next hb1
    obtain ⟨b9, o9, he, _, hcx⟩ := (hF.l 3 rfl).cell (k) hkS
    cases he
    rw [Hes.out] at hcx
    go_simp
    first | exact hK.out _ _ (Below.refl _ _) rfl | (have hk := hK.out _ _ (Below.refl _ _) rfl; revert hk; go_simp)
   case po5x9 =>
    intro w1 hb1 hd KK hK
    obtain rfl := hd 3 (by kernel_rfl)
    obtain rfl := hd 8 (by kernel_rfl)
    have dx := HM1.out
    go_simp
    first | exact hK.out _ _ (Below.refl _ _) rfl | (have hk := hK.out _ _ (Below.refl _ _) rfl; revert hk; go_simp)
   case po5x12 =>
    intro w1 hb1 hd KK hK
    obtain rfl := hd 10 (by kernel_rfl)
    obtain rfl := hd 11 (by kernel_rfl)
    go_simp
    first | exact hK.out _ _ (Below.refl _ _) rfl | (have hk := hK.out _ _ (Below.refl _ _) rfl; revert hk; go_simp)
   case po5x13 =>
    intro w1 hb1 hd KK hK
    obtain rfl := hd 12 (by kernel_rfl)
    have hF := F3.out.next hb1
    obtain ⟨b9, o9, he, _, hcx⟩ := (hF.l 2 rfl).cell (k) hkB
    cases he
    rw [Heb.out] at hcx
    go_simp
    first | exact hK.out _ _ (Below.refl _ _) rfl | (have hk := hK.out _ _ (Below.refl _ _) rfl; revert hk; go_simp)
   case po5x15 =>
    intro w1 hb1 hd KK hK
    obtain rfl := hd 14 (by kernel_rfl)
    have hF := F3.out.next hb1
    have k0 := hF.c 0 3 rfl rfl
    go_simp
    first | exact hK.out _ _ (Below.refl _ _) rfl | (have hk := hK.out _ _ (Below.refl _ _) rfl; revert hk; go_simp)
   case po5x17 =>
    intro w1 hb1 hd KK hK
    obtain rfl := hd 15 (by kernel_rfl)
    obtain rfl := hd 16 (by kernel_rfl)
    go_simp
    first | exact hK.out _ _ (Below.refl _ _) rfl | (have hk := hK.out _ _ (Below.refl _ _) rfl; revert hk; go_simp)
   case po5x18 =>
    intro w1 hb1 hd KK hK
    obtain rfl := hd 17 (by kernel_rfl)
    have hF := F3.out.next hb1
    obtain ⟨b9, o9, he, _, hcx⟩ := (hF.l 5 rfl).cell (k) hkD
    cases he
    rw [Hed.out] at hcx
    go_simp
    first | exact hK.out _ _ (Below.refl _ _) rfl | (have hk := hK.out _ _ (Below.refl _ _) rfl; revert hk; go_simp)
   case po5x19 =>
    intro w1 hb1 hd KK hK
    obtain rfl := hd 13 (by kernel_rfl)
    obtain rfl := hd 18 (by kernel_rfl)
    have dx := HM2.out
    go_simp
    first | exact hK.out _ _ (Below.refl _ _) rfl | (have hk := hK.out _ _ (Below.refl _ _) rfl; revert hk; go_simp)
   case po5x20 =>
    intro w1 hb1 hd KK hK
    obtain rfl := hd 9 (by kernel_rfl)
    obtain rfl := hd 19 (by kernel_rfl)
    have dx := HM3.out
    go_simp
    first | exact hK.out _ _ (Below.refl _ _) rfl | (have hk := hK.out _ _ (Below.refl _ _) rfl; revert hk; go_simp)
   case po5x22 =>
    intro w1 hb1 hd KK hK
    obtain rfl := hd 21 (by kernel_rfl)
    have hF := F3.out.next hb1
    have k0 := hF.c 0 2 rfl rfl
    go_simp
    first | exact hK.out _ _ (Below.refl _ _) rfl | (have hk := hK.out _ _ (Below.refl _ _) rfl; revert hk; go_simp)
   case po5x24 =>
    intro w1 hb1 hd KK hK
    obtain rfl := hd 22 (by kernel_rfl)
    obtain rfl := hd 23 (by kernel_rfl)
    go_simp
    first | exact hK.out _ _ (Below.refl _ _) rfl | (have hk := hK.out _ _ (Below.refl _ _) rfl; revert hk; go_simp)
   case po5x25 =>
    intro w1 hb1 hd KK hK
    obtain rfl := hd 24 (by kernel_rfl)
    have hF := F3.out.next hb1
    obtain ⟨b9, o9, he, _, hcx⟩ := (hF.l 4 rfl).cell (k) hkP
    cases he
    rw [Hep.out] at hcx
    go_simp
    first | exact hK.out _ _ (Below.refl _ _) rfl | (have hk := hK.out _ _ (Below.refl _ _) rfl; revert hk; go_simp)
   case po5x26 =>
    intro w1 hb1 hd KK hK
    obtain rfl := hd 20 (by kernel_rfl)
    obtain rfl := hd 25 (by kernel_rfl)
    have dx := HM4.out
    go_simp
    first | exact hK.out _ _ (Below.refl _ _) rfl | (have hk := hK.out _ _ (Below.refl _ _) rfl; revert hk; go_simp)
   case po5x27 =>
    intro w1 hb1 hd KK hK
    obtain rfl := hd 0 (by kernel_rfl)
    obtain rfl := hd 1 (by kernel_rfl)
    obtain rfl := hd 2 (by kernel_rfl)
    obtain rfl := hd 3 (by kernel_rfl)
    obtain rfl := hd 4 (by kernel_rfl)
    obtain rfl := hd 5 (by kernel_rfl)
    obtain rfl := hd 6 (by kernel_rfl)
    obtain rfl := hd 7 (by kernel_rfl)
    obtain rfl := hd 8 (by kernel_rfl)
    obtain rfl := hd 9 (by kernel_rfl)
    obtain rfl := hd 10 (by kernel_rfl)
    obtain rfl := hd 11 (by kernel_rfl)
    obtain rfl := hd 12 (by kernel_rfl)
    obtain rfl := hd 13 (by kernel_rfl)
    obtain rfl := hd 14 (by kernel_rfl)
    obtain rfl := hd 15 (by kernel_rfl)
    obtain rfl := hd 16 (by kernel_rfl)
    obtain rfl := hd 17 (by kernel_rfl)
    obtain rfl := hd 18 (by kernel_rfl)
    obtain rfl := hd 19 (by kernel_rfl)
    obtain rfl := hd 20 (by kernel_rfl)
    obtain rfl := hd 21 (by kernel_rfl)
    obtain rfl := hd 22 (by kernel_rfl)
    obtain rfl := hd 23 (by kernel_rfl)
    obtain rfl := hd 24 (by kernel_rfl)
    obtain rfl := hd 25 (by kernel_rfl)
    obtain rfl := hd 26 (by kernel_rfl)
    go_simp
    first | exact hK.out _ _ (Below.refl _ _) rfl | (have hk := hK.out _ _ (Below.refl _ _) rfl; revert hk; go_simp)
   case pfl5 => (intro f hf; cases hf)
   case pend5 =>
   intro w1 hb1 hR hD
   obtain rfl := hR 0 (by decide)
   obtain rfl := hR 1 (by decide)
   obtain rfl := hR 2 (by decide)
   obtain rfl := hR 3 (by decide)
   obtain rfl := hR 4 (by decide)
   obtain rfl := hR 5 (by decide)
   obtain rfl := hR 6 (by decide)
   obtain rfl := hR 7 (by decide)
   obtain rfl := hR 8 (by decide)
   obtain rfl := hR 9 (by decide)
   obtain rfl := hR 10 (by decide)
   obtain rfl := hR 11 (by decide)
   obtain rfl := hR 12 (by decide)
   obtain rfl := hR 13 (by decide)
   obtain rfl := hR 14 (by decide)
   obtain rfl := hR 15 (by decide)
   obtain rfl := hR 16 (by decide)
   obtain rfl := hR 17 (by decide)
   obtain rfl := hR 18 (by decide)
   obtain rfl := hR 19 (by decide)
   obtain rfl := hR 20 (by decide)
   obtain rfl := hR 21 (by decide)
   obtain rfl := hR 22 (by decide)
   obtain rfl := hR 23 (by decide)
   obtain rfl := hR 24 (by decide)
   obtain rfl := hR 25 (by decide)
   obtain rfl := hR 26 (by decide)
   obtain rfl := hR 27 (by decide)
   clear hR hD
   refine wpAny_done (by kernel_rfl) ?_ _
   have F4 := Lib.hid (F3.out.next hb1)
   clear hb1 F3
   obtain ⟨V3, rfl⟩ : ∃ x : World, x = w1 := ⟨_, rfl⟩
   have hxb := HXB.out
   have hcX := (F4.out.l 0 rfl).cell (2 + k) hkX
   obtain ⟨b9, o9, he, _, hcx⟩ := hcX
   cases he
   rw [Hel.out] at hcx
   have hkXa : 0 ≤ 2 + (k : Int) := by omega
   have hkXc : (2 + (k : Int)).toNat = 2 + k := by omega
   have HW0 : IntKind.i64.wrap (2 + (k : Int)) = 2 + (k : Int) := IntWalk.i64_in _ (by omega)
   by_cases hx0 : 0 ≤ X ∧ X < el
   ·skip
    obtain ⟨x0, x1⟩ := hx0
    have hx2 : ¬ X < 0 := by omega
    have hx3 : ¬ el ≤ X := by omega
    have HG2 : Hid (∀ j, j < k + 1 → wv.inB pl tp j = true) := Lib.hid (fun j hj => by
     by_cases hjk : j < k
     ·exact HG.out j hjk
     ·obtain rfl : j = k := by omega
      rw [HIN.out, decide_eq_true x0, decide_eq_true x1]; rfl)
    have HKM := Lib.hid (show k ≤ 1000000 by omega)
    go_upto_region 4 with (first | (at_builtin; refine appendI w.heap.size (.slice ab k cb) k (XT k) X _ _ _ rfl rfl rfl (F4.out.r 0 rfl) rfl HKM.out F4.out.hlo ?_; intro v' w8 hown hbel hgr hob; obtain ⟨a8, c8, rfl, _⟩ := own_shape hown; rw [← HOT2.out] at hown; have F8 := Lib.hid (F4.out.wroteO 0 rfl hgr hown (fun g hg => by rcases hob with h | h; exact .inl (h.symm.trans hg); exact .inr (by rw [h] at hg; injection hg with hg; omega))); simp only [List.set_cons_zero, List.set_cons_succ] at F8; clear hown hbel hgr hob F4) | fail)
    go_wp2
    exact ⟨⟨_, _, _, _, ⟨k + 1, by omega, a8, c8, rfl, congrArg (Value.int .i64) (by omega), HG2, F8⟩, rfl, rfl, rfl, rfl⟩, by simp [intOf]; omega⟩
   ·skip
    have hin0 : wv.inB pl tp k = false := by
     rw [HIN.out]
     by_cases h0 : 0 ≤ X
     ·rw [decide_eq_false (show ¬ X < el by omega)]; simp
     ·rw [decide_eq_false h0]; rfl
    have hf := HBAD.out k hlt hin0
    have hsp := HS1.out hf
    obtain rfl := hf
    obtain rfl := hsp
    clear HS1 HS2 HBAD HGOOD hin0
    by_cases hx1 : X < 0
    ·skip
     go_wp2
     go_ret2
     exact ⟨none, 0, rfl, (F4.out.less (List.nil_sublist _) (List.nil_sublist _) (List.nil_sublist _) (.refl _)).addNil _⟩
    ·have hx3 : el ≤ X := by omega
     go_wp2
     go_ret2
     exact ⟨none, 0, rfl, (F4.out.less (List.nil_sublist _) (List.nil_sublist _) (List.nil_sublist _) (.refl _)).addNil _⟩
  ·obtain rfl : k = r := by omega
   have hf := HGOOD.out HG.out
   have hsp := HS2.out hf
   obtain rfl := hf
   subst hsp
   have hkn : ¬ (k : Int) < (pl.length : Int) := by omega
   rw [HXTR.out] at F3
   have HOL2 := Lib.hid HOL.out
   clear HS1 HS2 HBAD HGOOD HOL
   go_wp2
   go_ret2
   have hol := HOL2.out
   exact ⟨ab, cb, by rw [hol]; rfl, by rw [hol]; exact F3.out.less (List.nil_sublist _) (List.nil_sublist _) (.refl _) (.refl _)⟩
end Go.Proofs.YtadlnmckcnfacaaGreat
