import Derived.Test.YtadlnmckcnfacaaGreatVPoB
set_option linter.unusedVariables false
set_option linter.unusedSimpArgs false
namespace Go.Proofs.YtadlnmckcnfacaaGreat
open Go.RowKit Go.Rt
attribute [local go_sem] Oper.semAt_some
theorem lw14 {α : Type} {l : List α} (h : l.length = 14) : ∃ x0 x1 x2 x3 x4 x5 x6 x7 x8 x9 x10 x11 x12 x13, l = [x0, x1, x2, x3, x4, x5, x6, x7, x8, x9, x10, x11, x12, x13] := by
 match l, h with
 | [x0, x1, x2, x3, x4, x5, x6, x7, x8, x9, x10, x11, x12, x13], _ => exact ⟨x0, x1, x2, x3, x4, x5, x6, x7, x8, x9, x10, x11, x12, x13, rfl⟩
theorem lw22 {α : Type} {l : List α} (h : l.length = 22) : ∃ x0 x1 x2 x3 x4 x5 x6 x7 x8 x9 x10 x11 x12 x13 x14 x15 x16 x17 x18 x19 x20 x21, l = [x0, x1, x2, x3, x4, x5, x6, x7, x8, x9, x10, x11, x12, x13, x14, x15, x16, x17, x18, x19, x20, x21] := by
 match l, h with
 | [x0, x1, x2, x3, x4, x5, x6, x7, x8, x9, x10, x11, x12, x13, x14, x15, x16, x17, x18, x19, x20, x21], _ => exact ⟨x0, x1, x2, x3, x4, x5, x6, x7, x8, x9, x10, x11, x12, x13, x14, x15, x16, x17, x18, x19, x20, x21, rfl⟩

theorem O_take (wv : WinV) {k : Nat} (hk : k < wv.L.length) : wv.O.take (k + 1) = wv.O.take k ++ [wv.out k] := by
 have h1 : k < wv.O.length := by rw [wv.O_len]; exact hk
 rw [take_snoc wv.O k h1]
 have h2 := wv.O_get hk
 rw [List.getElem?_eq_getElem h1] at h2
 rw [show wv.O[k] = wv.out k from h2]
theorem results_ctO {fn : Func} {p u : Tmp} {ty : TypeId} (h : fn.results = #[.cell p ty, .tmp u]) (tmps : Array Value) (P : Program) (w : World) :
  (results fn tmps).run P w = ((asAddr (tmps.getD p undef)).run P w).andThen fun a w₁ => ((loadVar ty a).run P w₁).andThen fun v w₂ => .ok (.tuple #[v, tmps.getD u undef]) w₂ := by
 simp only [results, h]
 simp [Sem.run_bind, Result.andThen]
set_option maxRecDepth 100000 in
set_option maxHeartbeats 2000000 in
theorem over_ok (aL aK aQ aS aP aD : Option Addr) (cL cK cQ cS cP cD : Nat) (Q : List Int) (wv : WinV) (w : World) (h0 : Ints .i64 w w.heap.size aL wv.L) (h1 : Ints .i64 w w.heap.size aK wv.K) (h2 : Ints .i64 w w.heap.size aS wv.S) (h3 : Ints .i64 w w.heap.size aP wv.P) (h4 : Ints .i64 w w.heap.size aD wv.D) (hR : wv.R) (hok : wv.okB = true) :
  Calls Tryz.prog 70 #[.slice aL wv.L.length cL, .slice aK wv.K.length cK, .agg #[.slice aQ Q.length cQ, .slice aS wv.S.length cS, .slice aP wv.P.length cP, .slice aD wv.D.length cD]] w (fun e w' => ∃ aO cO, e = .returned (.tuple #[.agg #[.slice aL wv.L.length cL, .slice aK wv.K.length cK, .slice aO wv.O.length cO, .slice aQ Q.length cQ, .slice aS wv.S.length cS, .slice aP wv.P.length cP, .slice aD wv.D.length cD], .bool true]) ∧ Fr w.heap.size w w' [] [] [⟨3, .slice aO wv.O.length cO, wv.O.length, wv.O.map (Value.int .i64)⟩] []) := by
 have F1 := Lib.hid ((((Fr.start (w := w) (I := [(.i64, aL, wv.L), (.i64, aK, wv.K), (.i64, aS, wv.S), (.i64, aP, wv.P), (.i64, aD, wv.D)]) (by intro z hz; simp at hz; rcases hz with rfl | rfl | rfl | rfl | rfl; exact h0; exact h1; exact h2; exact h3; exact h4)).box1 (b := w.heap.size) rfl [.slice aQ Q.length cQ, .slice aS wv.S.length cS, .slice aP wv.P.length cP, .slice aD wv.D.length cD] 28).box1 (b := w.heap.size + 1) (by simp) [.slice none 0 0, .slice none 0 0, .slice none 0 0, .slice none 0 0, .slice none 0 0, .slice none 0 0, .slice none 0 0] 77).addNil 3)
 simp only [List.nil_append, List.cons_append] at F1
 obtain ⟨r, hrr⟩ : ∃ r, wv.L.length = r := ⟨_, rfl⟩
 have hr2 := hR.r
 have hlen := h0.len
 have hdl := fun i (hi : i < r) => hR.dl i (by omega)
 have hdk := fun i (hi : i < r) => hR.dk i (by omega)
 have hds := fun i (hi : i < r) => hR.ds i (by omega)
 have hdp := fun i (hi : i < r) => hR.dp i (by omega)
 have hdd := fun i (hi : i < r) => hR.dd i (by omega)
 have hpr := fun i (hi : i < r) => hR.prod (i := i) (by omega)
 have hlK := hR.k
 have hlS := hR.s
 have hlP := hR.p
 have hlD := hR.d
 have hot := fun i (hi : i < r) => O_take wv (k := i) (by omega)
 have hOl := wv.O_len
 rw [hrr] at hr2 hlK hlS hlP hlD hlen hOl
 have hrm := fun i (hi : i < r) => WinV.ok_room hok (i := i) (by omega)
 have HRR := Lib.hid hrr
 have HDL := Lib.hid hdl
 have HDK := Lib.hid hdk
 have HDS := Lib.hid hds
 have HDP := Lib.hid hdp
 have HDD := Lib.hid hdd
 have HPR := Lib.hid hpr
 have HLK := Lib.hid hlK
 have HLS := Lib.hid hlS
 have HLP := Lib.hid hlP
 have HLD := Lib.hid hlD
 have HOT := Lib.hid hot
 have HRM := Lib.hid hrm
 have HOL := Lib.hid hOl
 clear h0 h1 h2 h3 h4 hR hok hrr hdl hdk hds hdp hdd hpr hlK hlS hlP hlD hot hrm hOl
 go_enter Tryz.func70, Tryz.ntmps70
 go_upto_region 1 with fail
 obtain ⟨W1, hW1⟩ : ∃ W1, (w.alloc (.cells #[.slice aQ Q.length cQ, .slice aS wv.S.length cS, .slice aP wv.P.length cP, .slice aD wv.D.length cD] 28)).alloc (.cells #[.slice none 0 0, .slice none 0 0, .slice none 0 0, .slice none 0 0, .slice none 0 0, .slice none 0 0, .slice none 0 0] 77) = W1 := ⟨_, rfl⟩
 rw [hW1] at F1 ⊢
 clear hW1
 have c0_0 := F1.out.c 0 0 rfl rfl
 have c0_1 := F1.out.c 0 1 rfl rfl
 have c0_2 := F1.out.c 0 2 rfl rfl
 have c0_3 := F1.out.c 0 3 rfl rfl
 have c1_0 := F1.out.c 1 0 rfl rfl
 have c1_1 := F1.out.c 1 1 rfl rfl
 have c1_2 := F1.out.c 1 2 rfl rfl
 have c1_3 := F1.out.c 1 3 rfl rfl
 have c1_4 := F1.out.c 1 4 rfl rfl
 have c1_5 := F1.out.c 1 5 rfl rfl
 have c1_6 := F1.out.c 1 6 rfl rfl
 have df1_0 := F1.out.f 1 0 rfl rfl
 have df1_1 := F1.out.f 1 1 rfl rfl
 have df1_2 := F1.out.f 1 2 rfl rfl
 have df1_3 := F1.out.f 1 3 rfl rfl
 have df1_4 := F1.out.f 1 4 rfl rfl
 have df1_5 := F1.out.f 1 5 rfl rfl
 have df1_6 := F1.out.f 1 6 rfl rfl
 go_upto_region 2 with fail
 have F2 := Lib.hid (F1.out.set 1 rfl (by simp) [.slice aL wv.L.length cL, .slice aK wv.K.length cK, .slice none 0 0, .slice aQ Q.length cQ, .slice aS wv.S.length cS, .slice aP wv.P.length cP, .slice aD wv.D.length cD] rfl)
 simp only [setL, Nat.reduceAdd, List.set_cons_zero, List.set_cons_succ] at F2
 obtain ⟨W2, hW2⟩ : ∃ W2, (((((((W1.setCell ⟨w.heap.size + 1, 0, none⟩ (.slice aL wv.L.length cL)).setCell ⟨w.heap.size + 1, 1, none⟩ (.slice aK wv.K.length cK)).setCell ⟨w.heap.size + 1, 2, none⟩ (.slice none 0 0)).setCell ⟨w.heap.size + 1, 3, none⟩ (.slice aQ Q.length cQ)).setCell ⟨w.heap.size + 1, 4, none⟩ (.slice aS wv.S.length cS)).setCell ⟨w.heap.size + 1, 5, none⟩ (.slice aP wv.P.length cP)).setCell ⟨w.heap.size + 1, 6, none⟩ (.slice aD wv.D.length cD)) = W2 := ⟨_, rfl⟩
 rw [hW2] at F2 ⊢
 clear hW2 F1 c0_0 c0_1 c0_2 c0_3 c1_0 c1_1 c1_2 c1_3 c1_4 c1_5 c1_6 df1_0 df1_1 df1_2 df1_3 df1_4 df1_5 df1_6
 go_wp2
 go_loopw [17] (fun s17 wr => ∃ (k : Nat) (ab : Option Addr) (cb : Nat), k ≤ r ∧ s17 = .int .i64 k ∧ Hid (∀ j, j < k → 0 ≤ wv.room j) ∧ Hid (Fr w.heap.size w wr [(w.heap.size, [.slice aQ Q.length cQ, .slice aS wv.S.length cS, .slice aP wv.P.length cP, .slice aD wv.D.length cD]), (w.heap.size + 1, [.slice aL wv.L.length cL, .slice aK wv.K.length cK, .slice ab k cb, .slice aQ Q.length cQ, .slice aS wv.S.length cS, .slice aP wv.P.length cP, .slice aD wv.D.length cD])] [(.i64, aL, wv.L), (.i64, aK, wv.K), (.i64, aS, wv.S), (.i64, aP, wv.P), (.i64, aD, wv.D)] [⟨3, .slice ab k cb, k, (wv.O.take k).map (Value.int .i64)⟩] [])) (fun s17 _ => r - (intOf s17).toNat)
 case atStart => exact ⟨0, none, 0, Nat.zero_le _, rfl, Lib.hid (fun j hj => absurd hj (by omega)), F2⟩
 case round =>
  obtain ⟨k, ab, cb, hk, rfl, HG, F3⟩ := hrel
  clear F2
  obtain ⟨wo, rfl⟩ : ∃ x : World, x = wr := ⟨_, rfl⟩
  by_cases hlt : k < r
  ·skip
   have hdl := HDL.out k hlt
   have hdk := HDK.out k hlt
   have hds := HDS.out k hlt
   have hdp := HDP.out k hlt
   have hdd := HDD.out k hlt
   have hpr := HPR.out k hlt
   have hot := HOT.out k hlt
   have hrm := HRM.out k hlt
   have hxe : wv.room k = wv.L[k]?.getD 0 + 2 * (wv.P[k]?.getD 0) - (wv.D[k]?.getD 0) * ((wv.K[k]?.getD 0) - 1) - 1 := rfl
   have hout : wv.out k = wv.room k / (wv.S[k]?.getD 0) + 1 := rfl
   have hkL : k < wv.L.length := by rw [HRR.out]; exact hlt
   have hkLi : (k : Int) < (wv.L.length : Int) := by omega
   obtain ⟨bL, oL, rfl, _, hcL⟩ := (F3.out.l 0 rfl).cell k hkL
   obtain ⟨el, hel⟩ : ∃ z, wv.L[k]?.getD 0 = z := ⟨_, rfl⟩
   have hkK : k < wv.K.length := by rw [HLK.out]; exact hlt
   have hkKi : (k : Int) < (wv.K.length : Int) := by omega
   obtain ⟨bK, oK, rfl, _, hcK⟩ := (F3.out.l 1 rfl).cell k hkK
   obtain ⟨ek, hek⟩ : ∃ z, wv.K[k]?.getD 0 = z := ⟨_, rfl⟩
   have hkS : k < wv.S.length := by rw [HLS.out]; exact hlt
   have hkSi : (k : Int) < (wv.S.length : Int) := by omega
   obtain ⟨bS, oS, rfl, _, hcS⟩ := (F3.out.l 2 rfl).cell k hkS
   obtain ⟨es, hes⟩ : ∃ z, wv.S[k]?.getD 0 = z := ⟨_, rfl⟩
   have hkP : k < wv.P.length := by rw [HLP.out]; exact hlt
   have hkPi : (k : Int) < (wv.P.length : Int) := by omega
   obtain ⟨bP, oP, rfl, _, hcP⟩ := (F3.out.l 3 rfl).cell k hkP
   obtain ⟨ep, hep⟩ : ∃ z, wv.P[k]?.getD 0 = z := ⟨_, rfl⟩
   have hkD : k < wv.D.length := by rw [HLD.out]; exact hlt
   have hkDi : (k : Int) < (wv.D.length : Int) := by omega
   obtain ⟨bD, oD, rfl, _, hcD⟩ := (F3.out.l 4 rfl).cell k hkD
   obtain ⟨ed, hed⟩ : ∃ z, wv.D[k]?.getD 0 = z := ⟨_, rfl⟩
   simp only [hel, hek, hes, hep, hed] at hdl hdk hds hdp hdd hpr hxe hout
   rw [hel] at hcL
   rw [hek] at hcK
   rw [hes] at hcS
   rw [hep] at hcP
   rw [hed] at hcD
   have Hel := Lib.hid hel
   have Hek := Lib.hid hek
   have Hes := Lib.hid hes
   have Hep := Lib.hid hep
   have Hed := Lib.hid hed
   obtain ⟨X, hX⟩ : ∃ z, wv.room k = z := ⟨_, rfl⟩
   obtain ⟨A, hA⟩ : ∃ z, ed * (ek - 1) = z := ⟨_, rfl⟩
   obtain ⟨OT, hOT⟩ : ∃ z, wv.out k = z := ⟨_, rfl⟩
   rw [hX, hA] at hxe
   rw [hA] at hpr
   rw [hX, hOT] at hout
   rw [hOT] at hot
   have HW1 := Lib.hid (show IntKind.i64.wrap (2 * ep) = 2 * ep from IntWalk.i64_in _ (by omega))
   have HW2 := Lib.hid (show IntKind.i64.wrap (el + 2 * ep) = el + 2 * ep from IntWalk.i64_in _ (by omega))
   have HW3 := Lib.hid (show IntKind.i64.wrap (ek - 1) = ek - 1 from IntWalk.i64_in _ (by omega))
   have HW4 := Lib.hid (show IntKind.i64.wrap (ed * (ek - 1)) = A by rw [hA]; exact IntWalk.i64_in _ (by omega))
   have HW5 := Lib.hid (show IntKind.i64.wrap (el + 2 * ep - A) = el + 2 * ep - A from IntWalk.i64_in _ (by omega))
   have HW6 := Lib.hid (show IntKind.i64.wrap (el + 2 * ep - A - 1) = X by rw [hxe]; exact IntWalk.i64_in _ (by omega))
   have HXE := Lib.hid hX
   have hXb : X ≤ 12287 := by omega
   have HOUT := Lib.hid hout
   have HOT2 := Lib.hid hot
   have HDS2 := Lib.hid hds
   have hk0 : (0 : Int) ≤ (k : Int) := by omega
   rw [hX] at hrm
   clear hdl hdk hds hdp hdd hpr hot hxe hout hX hA hOT hel hek hes hep hed
   have c0_0 := F3.out.c 0 0 rfl rfl
   have c0_1 := F3.out.c 0 1 rfl rfl
   have c0_2 := F3.out.c 0 2 rfl rfl
   have c0_3 := F3.out.c 0 3 rfl rfl
   have c1_0 := F3.out.c 1 0 rfl rfl
   have c1_1 := F3.out.c 1 1 rfl rfl
   have c1_2 := F3.out.c 1 2 rfl rfl
   have c1_3 := F3.out.c 1 3 rfl rfl
   have c1_4 := F3.out.c 1 4 rfl rfl
   have c1_5 := F3.out.c 1 5 rfl rfl
   have c1_6 := F3.out.c 1 6 rfl rfl
   go_upto_region 5 with fail
   refine wp_region_inv (w := wo) 22 (fun _ _ => True) (fun _ W => Fr w.heap.size w W [(w.heap.size, [.slice aQ Q.length cQ, .slice (some ⟨bS, oS, none⟩) wv.S.length cS, .slice (some ⟨bP, oP, none⟩) wv.P.length cP, .slice (some ⟨bD, oD, none⟩) wv.D.length cD]), (w.heap.size + 1, [.slice (some ⟨bL, oL, none⟩) wv.L.length cL, .slice (some ⟨bK, oK, none⟩) wv.K.length cK, .slice ab k cb, .slice aQ Q.length cQ, .slice (some ⟨bS, oS, none⟩) wv.S.length cS, .slice (some ⟨bP, oP, none⟩) wv.P.length cP, .slice (some ⟨bD, oD, none⟩) wv.D.length cD])] [(.i64, (some ⟨bL, oL, none⟩), wv.L), (.i64, (some ⟨bK, oK, none⟩), wv.K), (.i64, (some ⟨bS, oS, none⟩), wv.S), (.i64, (some ⟨bP, oP, none⟩), wv.P), (.i64, (some ⟨bD, oD, none⟩), wv.D)] [⟨3, .slice ab k cb, k, (wv.O.take k).map (Value.int .i64)⟩] []) [] [(fun u _ => u = .int .i64 el), (fun u _ => u = .pointer (some ⟨w.heap.size, 2, none⟩)), (fun u _ => u = .slice (some ⟨bP, oP, none⟩) wv.P.length cP), (fun u _ => u = .int .i64 (k : Int)), (fun u _ => u = .pointer (some ⟨bP, oP + k, none⟩)), (fun u _ => u = .int .i64 ep), (fun u _ => u = .int .i64 (2 * ep)), (fun u _ => u = .int .i64 (el + 2 * ep)), (fun u _ => u = .pointer (some ⟨w.heap.size, 3, none⟩)), (fun u _ => u = .slice (some ⟨bD, oD, none⟩) wv.D.length cD), (fun u _ => u = .int .i64 (k : Int)), (fun u _ => u = .pointer (some ⟨bD, oD + k, none⟩)), (fun u _ => u = .int .i64 ed), (fun u _ => u = .slice (some ⟨bK, oK, none⟩) wv.K.length cK), (fun u _ => u = .int .i64 (k : Int)), (fun u _ => u = .pointer (some ⟨bK, oK + k, none⟩)), (fun u _ => u = .int .i64 ek), (fun u _ => u = .int .i64 (ek - 1)), (fun u _ => u = .int .i64 A), (fun u _ => u = .int .i64 (el + 2 * ep - A)), (fun u _ => u = .int .i64 X), (fun u _ => u = .int .i64 X)] [some 22, some 23, some 24, some 25, some 26, some 27, some 28, some 29, some 30, some 31, some 32, some 33, some 34, some 35, some 36, some 37, some 38, some 39, some 40, some 41, some 42, some 10] (by kernel_rfl) (by kernel_rfl) rfl (by kernel_rfl) (by kernel_rfl) (by decide) (by decide) (fun _ _ => trivial) trivial F3.out.drew (BorneAll.at (.cons (borne_eq _) (.cons (borne_eq _) (.cons (borne_eq _) (.cons (borne_eq _) (.cons (borne_eq _) (.cons (borne_eq _) (.cons (borne_eq _) (.cons (borne_eq _) (.cons (borne_eq _) (.cons (borne_eq _) (.cons (borne_eq _) (.cons (borne_eq _) (.cons (borne_eq _) (.cons (borne_eq _) (.cons (borne_eq _) (.cons (borne_eq _) (.cons (borne_eq _) (.cons (borne_eq _) (.cons (borne_eq _) (.cons (borne_eq _) (.cons (borne_eq _) (.cons (borne_eq _) .nil))))))))))))))))))))))) (fun vs b hvl hvb => ?_)
   obtain ⟨x0, x1, x2, x3, x4, x5, x6, x7, x8, x9, x10, x11, x12, x13, x14, x15, x16, x17, x18, x19, x20, x21, rfl⟩ : ∃ x0 x1 x2 x3 x4 x5 x6 x7 x8 x9 x10 x11 x12 x13 x14 x15 x16 x17 x18 x19 x20 x21, vs = [x0, x1, x2, x3, x4, x5, x6, x7, x8, x9, x10, x11, x12, x13, x14, x15, x16, x17, x18, x19, x20, x21] := lw22 hvl
   clear hvl
   simp only [putAll, Act.put, List.setIfInBounds_toArray, List.set_cons_zero, List.set_cons_succ] at hvb
   subst hvb
   refine ⟨(.snoc (.snoc (.snoc (.snoc (.snoc (.snoc (.snoc (.snoc (.snoc (.snoc (.snoc (.snoc (.snoc (.snoc (.snoc (.snoc (.snoc (.snoc (.snoc (.snoc (.snoc (.snoc .zero (InvOb.intro (d := (some 22)) (r := fun u _ => u = .int .i64 el) 0 0 rfl rfl rfl (by kernel_rfl) (by kernel_rfl) rfl ?io5ax0)) (InvOb.intro (d := (some 23)) (r := fun u _ => u = .pointer (some ⟨w.heap.size, 2, none⟩)) 0 0 rfl rfl rfl (by kernel_rfl) (by kernel_rfl) rfl ?io5ax1)) (InvOb.intro (d := (some 24)) (r := fun u _ => u = .slice (some ⟨bP, oP, none⟩) wv.P.length cP) 0 0 rfl rfl rfl (by kernel_rfl) (by kernel_rfl) rfl ?io5ax2)) (InvOb.intro (d := (some 25)) (r := fun u _ => u = .int .i64 (k : Int)) 0 0 rfl rfl rfl (by kernel_rfl) (by kernel_rfl) rfl ?io5ax3)) (InvOb.intro (d := (some 26)) (r := fun u _ => u = .pointer (some ⟨bP, oP + k, none⟩)) 0 0 rfl rfl rfl (by kernel_rfl) (by kernel_rfl) rfl ?io5ax4)) (InvOb.intro (d := (some 27)) (r := fun u _ => u = .int .i64 ep) 0 0 rfl rfl rfl (by kernel_rfl) (by kernel_rfl) rfl ?io5ax5)) (InvOb.intro (d := (some 28)) (r := fun u _ => u = .int .i64 (2 * ep)) 0 0 rfl rfl rfl (by kernel_rfl) (by kernel_rfl) rfl ?io5ax6)) (InvOb.intro (d := (some 29)) (r := fun u _ => u = .int .i64 (el + 2 * ep)) 0 0 rfl rfl rfl (by kernel_rfl) (by kernel_rfl) rfl ?io5ax7)) (InvOb.intro (d := (some 30)) (r := fun u _ => u = .pointer (some ⟨w.heap.size, 3, none⟩)) 0 0 rfl rfl rfl (by kernel_rfl) (by kernel_rfl) rfl ?io5ax8)) (InvOb.intro (d := (some 31)) (r := fun u _ => u = .slice (some ⟨bD, oD, none⟩) wv.D.length cD) 0 0 rfl rfl rfl (by kernel_rfl) (by kernel_rfl) rfl ?io5ax9)) (InvOb.intro (d := (some 32)) (r := fun u _ => u = .int .i64 (k : Int)) 0 0 rfl rfl rfl (by kernel_rfl) (by kernel_rfl) rfl ?io5ax10)) (InvOb.intro (d := (some 33)) (r := fun u _ => u = .pointer (some ⟨bD, oD + k, none⟩)) 0 0 rfl rfl rfl (by kernel_rfl) (by kernel_rfl) rfl ?io5ax11)) (InvOb.intro (d := (some 34)) (r := fun u _ => u = .int .i64 ed) 0 0 rfl rfl rfl (by kernel_rfl) (by kernel_rfl) rfl ?io5ax12)) (InvOb.intro (d := (some 35)) (r := fun u _ => u = .slice (some ⟨bK, oK, none⟩) wv.K.length cK) 0 0 rfl rfl rfl (by kernel_rfl) (by kernel_rfl) rfl ?io5ax13)) (InvOb.intro (d := (some 36)) (r := fun u _ => u = .int .i64 (k : Int)) 0 0 rfl rfl rfl (by kernel_rfl) (by kernel_rfl) rfl ?io5ax14)) (InvOb.intro (d := (some 37)) (r := fun u _ => u = .pointer (some ⟨bK, oK + k, none⟩)) 0 0 rfl rfl rfl (by kernel_rfl) (by kernel_rfl) rfl ?io5ax15)) (InvOb.intro (d := (some 38)) (r := fun u _ => u = .int .i64 ek) 0 0 rfl rfl rfl (by kernel_rfl) (by kernel_rfl) rfl ?io5ax16)) (InvOb.intro (d := (some 39)) (r := fun u _ => u = .int .i64 (ek - 1)) 0 0 rfl rfl rfl (by kernel_rfl) (by kernel_rfl) rfl ?io5ax17)) (InvOb.intro (d := (some 40)) (r := fun u _ => u = .int .i64 A) 0 0 rfl rfl rfl (by kernel_rfl) (by kernel_rfl) rfl ?io5ax18)) (InvOb.intro (d := (some 41)) (r := fun u _ => u = .int .i64 (el + 2 * ep - A)) 0 0 rfl rfl rfl (by kernel_rfl) (by kernel_rfl) rfl ?io5ax19)) (InvOb.intro (d := (some 42)) (r := fun u _ => u = .int .i64 X) 0 0 rfl rfl rfl (by kernel_rfl) (by kernel_rfl) rfl ?io5ax20)) (InvOb.intro (d := (some 10)) (r := fun u _ => u = .int .i64 X) 0 0 rfl rfl rfl (by kernel_rfl) (by kernel_rfl) rfl ?io5ax21)), ?iend5a⟩
   case io5ax0 =>
    intro k1 w1 hk0 hk1 hb1 hS hd KK hK
    go_simp
    exact hK.out _ _ trivial hS rfl
   case io5ax1 =>
    intro k1 w1 hk0 hk1 hb1 hS hd KK hK
    go_simp
    exact hK.out _ _ trivial hS rfl
   case io5ax2 =>
    intro k1 w1 hk0 hk1 hb1 hS hd KK hK
    obtain rfl := hd 1 (by kernel_rfl)
    have k0 := hS.c 0 2 rfl rfl
    go_simp
    exact hK.out _ _ trivial hS rfl
   case io5ax3 =>
    intro k1 w1 hk0 hk1 hb1 hS hd KK hK
    go_simp
    exact hK.out _ _ trivial hS rfl
   case io5ax4 =>
    intro k1 w1 hk0 hk1 hb1 hS hd KK hK
    obtain rfl := hd 2 (by kernel_rfl)
    obtain rfl := hd 3 (by kernel_rfl)
    go_simp
    exact hK.out _ _ trivial hS rfl
   case io5ax5 =>
    intro k1 w1 hk0 hk1 hb1 hS hd KK hK
    obtain rfl := hd 4 (by kernel_rfl)
    obtain ⟨b9, o9, he, _, hcx⟩ := (hS.l 3 rfl).cell k hkP
    cases he
    rw [Hep.out] at hcx
    go_simp
    exact hK.out _ _ trivial hS rfl
   case io5ax6 =>
    intro k1 w1 hk0 hk1 hb1 hS hd KK hK
    obtain rfl := hd 5 (by kernel_rfl)
    have dx := HW1.out
    go_simp
    exact hK.out _ _ trivial hS rfl
   case io5ax7 =>
    intro k1 w1 hk0 hk1 hb1 hS hd KK hK
    obtain rfl := hd 0 (by kernel_rfl)
    obtain rfl := hd 6 (by kernel_rfl)
    have dx := HW2.out
    go_simp
    exact hK.out _ _ trivial hS rfl
   case io5ax8 =>
    intro k1 w1 hk0 hk1 hb1 hS hd KK hK
    go_simp
    exact hK.out _ _ trivial hS rfl
   case io5ax9 =>
    intro k1 w1 hk0 hk1 hb1 hS hd KK hK
    obtain rfl := hd 8 (by kernel_rfl)
    have k0 := hS.c 0 3 rfl rfl
    go_simp
    exact hK.out _ _ trivial hS rfl
   case io5ax10 =>
    intro k1 w1 hk0 hk1 hb1 hS hd KK hK
    go_simp
    exact hK.out _ _ trivial hS rfl
   case io5ax11 =>
    intro k1 w1 hk0 hk1 hb1 hS hd KK hK
    obtain rfl := hd 9 (by kernel_rfl)
    obtain rfl := hd 10 (by kernel_rfl)
    go_simp
    exact hK.out _ _ trivial hS rfl
   case io5ax12 =>
    intro k1 w1 hk0 hk1 hb1 hS hd KK hK
    obtain rfl := hd 11 (by kernel_rfl)
    obtain ⟨b9, o9, he, _, hcx⟩ := (hS.l 4 rfl).cell k hkD
    cases he
    rw [Hed.out] at hcx
    go_simp
    exact hK.out _ _ trivial hS rfl
   case io5ax13 =>
    intro k1 w1 hk0 hk1 hb1 hS hd KK hK
    go_simp
    exact hK.out _ _ trivial hS rfl
   case io5ax14 =>
    intro k1 w1 hk0 hk1 hb1 hS hd KK hK
    go_simp
    exact hK.out _ _ trivial hS rfl
   case io5ax15 =>
    intro k1 w1 hk0 hk1 hb1 hS hd KK hK
    obtain rfl := hd 13 (by kernel_rfl)
    obtain rfl := hd 14 (by kernel_rfl)
    go_simp
    exact hK.out _ _ trivial hS rfl
   case io5ax16 =>
    intro k1 w1 hk0 hk1 hb1 hS hd KK hK
    obtain rfl := hd 15 (by kernel_rfl)
    obtain ⟨b9, o9, he, _, hcx⟩ := (hS.l 1 rfl).cell k hkK
    cases he
    rw [Hek.out] at hcx
    go_simp
    exact hK.out _ _ trivial hS rfl
   case io5ax17 =>
    intro k1 w1 hk0 hk1 hb1 hS hd KK hK
    obtain rfl := hd 16 (by kernel_rfl)
    have dx := HW3.out
    go_simp
    exact hK.out _ _ trivial hS rfl
   case io5ax18 =>
    intro k1 w1 hk0 hk1 hb1 hS hd KK hK
    obtain rfl := hd 12 (by kernel_rfl)
    obtain rfl := hd 17 (by kernel_rfl)
    have dx := HW4.out
    go_simp
    exact hK.out _ _ trivial hS rfl
   case io5ax19 =>
    intro k1 w1 hk0 hk1 hb1 hS hd KK hK
    obtain rfl := hd 7 (by kernel_rfl)
    obtain rfl := hd 18 (by kernel_rfl)
    have dx := HW5.out
    go_simp
    exact hK.out _ _ trivial hS rfl
   case io5ax20 =>
    intro k1 w1 hk0 hk1 hb1 hS hd KK hK
    obtain rfl := hd 19 (by kernel_rfl)
    have dx := HW6.out
    go_simp
    exact hK.out _ _ trivial hS rfl
   case io5ax21 =>
    intro k1 w1 hk0 hk1 hb1 hS hd KK hK
    obtain rfl := hd 0 (by kernel_rfl)
    obtain rfl := hd 1 (by kernel_rfl)
    obtain rfl := hd 2 (by kernel_rfl)
    obtain rfl := hd 3 (by kernel_rfl)
    obtain rfl := hd 4 (by kernel_rfl)
    obtain rfl := hd 5 (by kernel_rfl)
    obtain rfl := hd 6 (by kernel_rfl)
    obtain rfl := hd 7 (by kernel_rfl)
    obtain rfl := hd 8 (by kernel_rfl)
    obtain rfl := hd 9 (by kernel_rfl)
    obtain rfl := hd 10 (by kernel_rfl)
    obtain rfl := hd 11 (by kernel_rfl)
    obtain rfl := hd 12 (by kernel_rfl)
    obtain rfl := hd 13 (by kernel_rfl)
    obtain rfl := hd 14 (by kernel_rfl)
    obtain rfl := hd 15 (by kernel_rfl)
    obtain rfl := hd 16 (by kernel_rfl)
    obtain rfl := hd 17 (by kernel_rfl)
    obtain rfl := hd 18 (by kernel_rfl)
    obtain rfl := hd 19 (by kernel_rfl)
    obtain rfl := hd 20 (by kernel_rfl)
    go_simp
    exact hK.out _ _ trivial hS rfl
   case iend5a =>
    intro w1 hb1 hS hR
    obtain rfl := hR 0 (by decide)
    obtain rfl := hR 1 (by decide)
    obtain rfl := hR 2 (by decide)
    obtain rfl := hR 3 (by decide)
    obtain rfl := hR 4 (by decide)
    obtain rfl := hR 5 (by decide)
    obtain rfl := hR 6 (by decide)
    obtain rfl := hR 7 (by decide)
    obtain rfl := hR 8 (by decide)
    obtain rfl := hR 9 (by decide)
    obtain rfl := hR 10 (by decide)
    obtain rfl := hR 11 (by decide)
    obtain rfl := hR 12 (by decide)
    obtain rfl := hR 13 (by decide)
    obtain rfl := hR 14 (by decide)
    obtain rfl := hR 15 (by decide)
    obtain rfl := hR 16 (by decide)
    obtain rfl := hR 17 (by decide)
    obtain rfl := hR 18 (by decide)
    obtain rfl := hR 19 (by decide)
    obtain rfl := hR 20 (by decide)
    obtain rfl := hR 21 (by decide)
    clear hR
    have F4 := Lib.hid hS
    clear hS hb1 F3 c0_0 c0_1 c0_2 c0_3 c1_0 c1_1 c1_2 c1_3 c1_4 c1_5 c1_6
    obtain ⟨V3, rfl⟩ : ∃ x : World, x = w1 := ⟨_, rfl⟩
    by_cases hx0 : X < 0
    ·skip
     exact absurd hx0 (by omega)
    ·skip
     have hx1 : ¬ X < 0 := hx0
     have HG2 : Hid (∀ j, j < k + 1 → 0 ≤ wv.room j) := Lib.hid (fun j hj => by
      by_cases hjk : j < k
      ·exact HG.out j hjk
      ·obtain rfl : j = k := by omega
       rw [HXE.out]; omega)
     obtain ⟨XN, hXN⟩ : ∃ z : Nat, X = (z : Int) := ⟨X.toNat, by omega⟩
     have hds := HDS2.out
     obtain ⟨EN, hEN⟩ : ∃ z : Nat, es = (z : Int) := ⟨es.toNat, by omega⟩
     subst hXN
     subst hEN
     obtain ⟨qn, hqn⟩ : ∃ z, XN / EN = z := ⟨_, rfl⟩
     have hout := HOUT.out
     rw [← Int.natCast_ediv, hqn] at hout
     have hqb : qn ≤ XN := by rw [← hqn]; exact Nat.div_le_self _ _
     have e0 : ((EN : Int) == 0) = false := by simp; omega
     have e1 : ¬ (EN : Int) = 0 := by omega
     have e2 : ¬ EN = 0 := by omega
     have DQ := Lib.hid (show IntKind.i64.wrap ((XN : Int) / (EN : Int)) = (qn : Int) by rw [← Int.natCast_ediv, hqn]; exact IntWalk.i64_in _ (by omega))
     have DQ2 := Lib.hid (show IntKind.i64.wrap ((qn : Int) + 1) = OT by rw [hout]; exact IntWalk.i64_in _ (by omega))
     have hot := HOT2.out
     have HOT3 := Lib.hid hot
     have hkr : k ≤ 1000000 := by omega
     clear hout hds hqn hqb hot HXE HOUT HDS2 HW1 HW2 HW3 HW4 HW5 HW6 hx0
     have c0_0 := F4.out.c 0 0 rfl rfl
     have c0_1 := F4.out.c 0 1 rfl rfl
     have c0_2 := F4.out.c 0 2 rfl rfl
     have c0_3 := F4.out.c 0 3 rfl rfl
     have c1_0 := F4.out.c 1 0 rfl rfl
     have c1_1 := F4.out.c 1 1 rfl rfl
     have c1_2 := F4.out.c 1 2 rfl rfl
     have c1_3 := F4.out.c 1 3 rfl rfl
     have c1_4 := F4.out.c 1 4 rfl rfl
     have c1_5 := F4.out.c 1 5 rfl rfl
     have c1_6 := F4.out.c 1 6 rfl rfl
     go_upto_region 8 with fail
     refine wp_region_parts2 (w := V3) 11 3 none [] [(fun u _ => u = .pointer (some ⟨w.heap.size + 1, 2, none⟩)), (fun u _ => u = .slice ab k cb), (fun u _ => u = .int .i64 (XN : Int)), (fun u _ => u = .pointer (some ⟨w.heap.size, 1, none⟩)), (fun u _ => u = .slice (some ⟨bS, oS, none⟩) wv.S.length cS), (fun u _ => u = .int .i64 (k : Int)), (fun u _ => u = .pointer (some ⟨bS, oS + k, none⟩)), (fun u _ => u = .int .i64 (EN : Int)), (fun u _ => u = .int .i64 (qn : Int)), (fun u _ => u = .int .i64 OT), ((IsOne OT))] [some 46, some 47, some 48, some 49, some 50, some 51, some 52, some 53, some 54, some 55, some 56, some 57, some 58, none] #[true, true, true, true, true, true, true, true, true, true, true, false, false, false] #[true, true, true, true, true, true, true, true, true, true, true, false, false, false] (by kernel_rfl) rfl (by kernel_rfl) (by kernel_rfl) rfl (by kernel_rfl) (by kernel_rfl) (.cons (carries_eq _) (.cons (carries_eq _) (.cons (carries_eq _) (.cons (carries_eq _) (.cons (carries_eq _) (.cons (carries_eq _) (.cons (carries_eq _) (.cons (carries_eq _) (.cons (carries_eq _) (.cons (carries_eq _) (.cons (isOne_carries _) .nil))))))))))) (fun vs b hvl hvb => ?_)
     obtain ⟨x0, x1, x2, x3, x4, x5, x6, x7, x8, x9, x10, x11, x12, x13, rfl⟩ : ∃ x0 x1 x2 x3 x4 x5 x6 x7 x8 x9 x10 x11 x12 x13, vs = [x0, x1, x2, x3, x4, x5, x6, x7, x8, x9, x10, x11, x12, x13] := lw14 hvl
     clear hvl
     simp only [putAll, Act.put, List.setIfInBounds_toArray, List.set_cons_zero, List.set_cons_succ] at hvb
     subst hvb
     refine ⟨(.snoc (.snoc (.snoc (.snoc (.snoc (.snoc (.snoc (.snoc (.snoc (.snoc (.snoc .zero (PartOb.intro (d := (some 46)) (r := fun u _ => u = .pointer (some ⟨w.heap.size + 1, 2, none⟩)) rfl rfl rfl rfl ?po8x0)) (PartOb.intro (d := (some 47)) (r := fun u _ => u = .slice ab k cb) rfl rfl rfl rfl ?po8x1)) (PartOb.intro (d := (some 48)) (r := fun u _ => u = .int .i64 (XN : Int)) rfl rfl rfl rfl ?po8x2)) (PartOb.intro (d := (some 49)) (r := fun u _ => u = .pointer (some ⟨w.heap.size, 1, none⟩)) rfl rfl rfl rfl ?po8x3)) (PartOb.intro (d := (some 50)) (r := fun u _ => u = .slice (some ⟨bS, oS, none⟩) wv.S.length cS) rfl rfl rfl rfl ?po8x4)) (PartOb.intro (d := (some 51)) (r := fun u _ => u = .int .i64 (k : Int)) rfl rfl rfl rfl ?po8x5)) (PartOb.intro (d := (some 52)) (r := fun u _ => u = .pointer (some ⟨bS, oS + k, none⟩)) rfl rfl rfl rfl ?po8x6)) (PartOb.intro (d := (some 53)) (r := fun u _ => u = .int .i64 (EN : Int)) rfl rfl rfl rfl ?po8x7)) (PartOb.intro (d := (some 54)) (r := fun u _ => u = .int .i64 (qn : Int)) rfl rfl rfl rfl ?po8x8)) (PartOb.intro (d := (some 55)) (r := fun u _ => u = .int .i64 OT) rfl rfl rfl rfl ?po8x9)) (PartOb.intro (d := (some 56)) (r := (IsOne OT)) rfl rfl rfl rfl ?po8x10)), ?pend8, ?pfl8⟩
     case po8x0 | po8x2 | po8x3 | po8x5 =>
      intro w1 hb1 hd KK hK
      go_simp
      exact hK.out _ _ (Below.refl _ _) rfl
     case po8x1 =>
      intro w1 hb1 hd KK hK
      obtain rfl := hd 0 (by kernel_rfl)
      have hF := F4.out.next hb1
      have k0 := hF.c 1 2 rfl rfl
      go_simp
      exact hK.out _ _ (Below.refl _ _) rfl
     case po8x4 =>
      intro w1 hb1 hd KK hK
      obtain rfl := hd 3 (by kernel_rfl)
      have hF := F4.out.next hb1
      have k0 := hF.c 0 1 rfl rfl
      go_simp
      exact hK.out _ _ (Below.refl _ _) rfl
     case po8x6 =>
      intro w1 hb1 hd KK hK
      obtain rfl := hd 4 (by kernel_rfl)
      obtain rfl := hd 5 (by kernel_rfl)
      go_simp
      exact hK.out _ _ (Below.refl _ _) rfl
     case po8x7 =>
      intro w1 hb1 hd KK hK
      obtain rfl := hd 6 (by kernel_rfl)
      have hF := F4.out.next hb1
      obtain ⟨b9, o9, he, _, hcx⟩ := (hF.l 2 rfl).cell k hkS
      cases he
      rw [Hes.out] at hcx
      go_simp
      exact hK.out _ _ (Below.refl _ _) rfl
     case po8x8 =>
      intro w1 hb1 hd KK hK
      obtain rfl := hd 2 (by kernel_rfl)
      obtain rfl := hd 7 (by kernel_rfl)
      have dx := DQ.out
      go_simp
      exact hK.out _ _ (Below.refl _ _) rfl
     case po8x9 =>
      intro w1 hb1 hd KK hK
      obtain rfl := hd 8 (by kernel_rfl)
      have dx := DQ2.out
      go_simp
      exact hK.out _ _ (Below.refl _ _) rfl
     case po8x10 =>
      intro w1 hb1 hd KK hK
      obtain rfl := hd 9 (by kernel_rfl)
      go_simp
      exact hK.out _ _ ((Below.refl _ _).alloc (Nat.le_refl _) _) ⟨_, _, rfl, oneNew w1 OT _⟩
     case pfl8 => (intro f hf; cases hf)
     case pend8 =>
     intro w1 hb1 hR hD
     obtain rfl := hR 0 (by decide)
     obtain rfl := hR 1 (by decide)
     obtain rfl := hR 2 (by decide)
     obtain rfl := hR 3 (by decide)
     obtain rfl := hR 4 (by decide)
     obtain rfl := hR 5 (by decide)
     obtain rfl := hR 6 (by decide)
     obtain rfl := hR 7 (by decide)
     obtain rfl := hR 8 (by decide)
     obtain rfl := hR 9 (by decide)
     obtain ⟨g10, c10, rfl, hO10⟩ := hR 10 (by decide)
     clear hR hD
     refine wpAny_ready (rs := [11]) (by kernel_rfl) (by simp) (AllReady.cons rfl (fun KK hK => ?_) AllReady.nil)
     have G3 := F4.out.next hb1
     refine stepApp1 23 3 infoInt Tryz.underlying23 w.heap.size (.slice ab k cb) k (wv.O.take k) OT c10 ⟨g10, 0, none⟩ _ _ rfl rfl rfl (G3.r 0 rfl) rfl hO10 hkr G3.hlo ?_
     intro g3 c3 w3 hown hgr hob
     rw [← HOT3.out] at hown
     have G4 := G3.wroteO 0 rfl hgr hown (fun g hg => by rcases hob with h | h; exact .inl (h.trans hg); exact .inr (by injection hg with hg; simp only at hg; omega))
     simp only [List.set_cons_zero, List.set_cons_succ] at G4
     clear hown hgr hob G3
     refine hK _ _ ?_
     clear hK KK
     refine wpAny_ready (rs := [12]) (by kernel_rfl) (by simp) (AllReady.cons rfl (fun KK hK => ?_) AllReady.nil)
     go_simp
     refine hK _ _ ?_
     clear hK KK
     refine wpAny_ready (rs := [13]) (by kernel_rfl) (by simp) (AllReady.cons rfl (fun KK hK => ?_) AllReady.nil)
     have q0 := G4.c 1 2 rfl rfl
     have q1 := G4.f 1 2 rfl rfl
     go_simp
     refine hK _ _ ?_
     clear hK KK
     refine wpAny_done (by kernel_rfl) ?_ _
     have G5 := Lib.hid (G4.setC 1 2 rfl (by simp) (.slice (some ⟨g3, 0, none⟩) (k + 1) c3))
     simp only [List.set_cons_zero, List.set_cons_succ] at G5
     obtain ⟨V9, hV9⟩ : ∃ V9, w3.setCell ⟨w.heap.size + 1, 2, none⟩ (.slice (some ⟨g3, 0, none⟩) (k + 1) c3) = V9 := ⟨_, rfl⟩
     rw [hV9] at G5 ⊢
     clear hV9 G4 F4 q0 q1 hb1 c0_0 c0_1 c0_2 c0_3 c1_0 c1_1 c1_2 c1_3 c1_4 c1_5 c1_6
     go_wp2
     go_roundw
     case rel => exact ⟨k + 1, some ⟨g3, 0, none⟩, c3, by omega, by go_num, HG2, G5⟩
     case measure => simp [intOf]; omega
  ·obtain rfl : k = r := by omega
   have c1_0 := F3.out.c 1 0 rfl rfl
   have c1_1 := F3.out.c 1 1 rfl rfl
   have c1_2 := F3.out.c 1 2 rfl rfl
   have c1_3 := F3.out.c 1 3 rfl rfl
   have c1_4 := F3.out.c 1 4 rfl rfl
   have c1_5 := F3.out.c 1 5 rfl rfl
   have c1_6 := F3.out.c 1 6 rfl rfl
   have cf1_0 := F3.out.f 1 0 rfl rfl
   have cf1_1 := F3.out.f 1 1 rfl rfl
   have cf1_2 := F3.out.f 1 2 rfl rfl
   have cf1_3 := F3.out.f 1 3 rfl rfl
   have cf1_4 := F3.out.f 1 4 rfl rfl
   have cf1_5 := F3.out.f 1 5 rfl rfl
   have cf1_6 := F3.out.f 1 6 rfl rfl
   have hkn : ¬ (k : Int) < (wv.L.length : Int) := by have := HRR.out; omega
   go_wp2
   have FZ := F3.out.set 1 rfl (by simp) [.slice aL wv.L.length cL, .slice aK wv.K.length cK, .slice ab k cb, .slice aQ Q.length cQ, .slice aS wv.S.length cS, .slice aP wv.P.length cP, .slice aD wv.D.length cD] rfl
   simp only [setL, Nat.reduceAdd, List.set_cons_zero, List.set_cons_succ] at FZ
   have y0 := FZ.c 1 0 rfl rfl
   have y1 := FZ.c 1 1 rfl rfl
   have y2 := FZ.c 1 2 rfl rfl
   have y3 := FZ.c 1 3 rfl rfl
   have y4 := FZ.c 1 4 rfl rfl
   have y5 := FZ.c 1 5 rfl rfl
   have y6 := FZ.c 1 6 rfl rfl
   have hp1 : wv.O.take k = wv.O := List.take_of_length_le (by rw [HOL.out]; exact Nat.le_refl _)
   rw [hp1] at FZ
   have hlo := HOL.out
   refine bodyPost_ret (v := .tuple #[.agg #[.slice aL wv.L.length cL, .slice aK wv.K.length cK, .slice ab k cb, .slice aQ Q.length cQ, .slice aS wv.S.length cS, .slice aP wv.P.length cP, .slice aD wv.D.length cD], .bool true]) ?_ rfl ⟨ab, cb, by rw [hlo], by rw [hlo]; exact FZ.rows⟩
   rw [results_ctO rfl]
   go_simp
set_option maxRecDepth 100000 in
set_option maxHeartbeats 2000000 in
theorem over_bad (aL aK aQ aS aP aD : Option Addr) (cL cK cQ cS cP cD : Nat) (Q : List Int) (wv : WinV) (w : World) (h0 : Ints .i64 w w.heap.size aL wv.L) (h1 : Ints .i64 w w.heap.size aK wv.K) (h2 : Ints .i64 w w.heap.size aS wv.S) (h3 : Ints .i64 w w.heap.size aP wv.P) (h4 : Ints .i64 w w.heap.size aD wv.D) (hR : wv.R) (hok : wv.okB = false) :
  Calls Tryz.prog 70 #[.slice aL wv.L.length cL, .slice aK wv.K.length cK, .agg #[.slice aQ Q.length cQ, .slice aS wv.S.length cS, .slice aP wv.P.length cP, .slice aD wv.D.length cD]] w (fun e w' => e = .returned (.tuple #[.agg #[.slice none 0 0, .slice none 0 0, .slice none 0 0, .slice none 0 0, .slice none 0 0, .slice none 0 0, .slice none 0 0], .bool false]) ∧ Below w.heap.size w w') := by
 have F1 := Lib.hid ((((Fr.start (w := w) (I := [(.i64, aL, wv.L), (.i64, aK, wv.K), (.i64, aS, wv.S), (.i64, aP, wv.P), (.i64, aD, wv.D)]) (by intro z hz; simp at hz; rcases hz with rfl | rfl | rfl | rfl | rfl; exact h0; exact h1; exact h2; exact h3; exact h4)).box1 (b := w.heap.size) rfl [.slice aQ Q.length cQ, .slice aS wv.S.length cS, .slice aP wv.P.length cP, .slice aD wv.D.length cD] 28).box1 (b := w.heap.size + 1) (by simp) [.slice none 0 0, .slice none 0 0, .slice none 0 0, .slice none 0 0, .slice none 0 0, .slice none 0 0, .slice none 0 0] 77).addNil 3)
 simp only [List.nil_append, List.cons_append] at F1
 obtain ⟨r, hrr⟩ : ∃ r, wv.L.length = r := ⟨_, rfl⟩
 have hr2 := hR.r
 have hlen := h0.len
 have hdl := fun i (hi : i < r) => hR.dl i (by omega)
 have hdk := fun i (hi : i < r) => hR.dk i (by omega)
 have hds := fun i (hi : i < r) => hR.ds i (by omega)
 have hdp := fun i (hi : i < r) => hR.dp i (by omega)
 have hdd := fun i (hi : i < r) => hR.dd i (by omega)
 have hpr := fun i (hi : i < r) => hR.prod (i := i) (by omega)
 have hlK := hR.k
 have hlS := hR.s
 have hlP := hR.p
 have hlD := hR.d
 have hot := fun i (hi : i < r) => O_take wv (k := i) (by omega)
 have hOl := wv.O_len
 rw [hrr] at hr2 hlK hlS hlP hlD hlen hOl
 have hrm : (∀ i, i < r → 0 ≤ wv.room i) → False := fun h => by
  have : wv.okB = true := List.all_eq_true.2 fun i hi => decide_eq_true (h i (by have := List.mem_range.1 hi; omega))
  rw [hok] at this
  cases this
 have HRR := Lib.hid hrr
 have HDL := Lib.hid hdl
 have HDK := Lib.hid hdk
 have HDS := Lib.hid hds
 have HDP := Lib.hid hdp
 have HDD := Lib.hid hdd
 have HPR := Lib.hid hpr
 have HLK := Lib.hid hlK
 have HLS := Lib.hid hlS
 have HLP := Lib.hid hlP
 have HLD := Lib.hid hlD
 have HOT := Lib.hid hot
 have HRM := Lib.hid hrm
 have HOL := Lib.hid hOl
 clear h0 h1 h2 h3 h4 hR hok hrr hdl hdk hds hdp hdd hpr hlK hlS hlP hlD hot hrm hOl
 go_enter Tryz.func70, Tryz.ntmps70
 go_upto_region 1 with fail
 obtain ⟨W1, hW1⟩ : ∃ W1, (w.alloc (.cells #[.slice aQ Q.length cQ, .slice aS wv.S.length cS, .slice aP wv.P.length cP, .slice aD wv.D.length cD] 28)).alloc (.cells #[.slice none 0 0, .slice none 0 0, .slice none 0 0, .slice none 0 0, .slice none 0 0, .slice none 0 0, .slice none 0 0] 77) = W1 := ⟨_, rfl⟩
 rw [hW1] at F1 ⊢
 clear hW1
 have c0_0 := F1.out.c 0 0 rfl rfl
 have c0_1 := F1.out.c 0 1 rfl rfl
 have c0_2 := F1.out.c 0 2 rfl rfl
 have c0_3 := F1.out.c 0 3 rfl rfl
 have c1_0 := F1.out.c 1 0 rfl rfl
 have c1_1 := F1.out.c 1 1 rfl rfl
 have c1_2 := F1.out.c 1 2 rfl rfl
 have c1_3 := F1.out.c 1 3 rfl rfl
 have c1_4 := F1.out.c 1 4 rfl rfl
 have c1_5 := F1.out.c 1 5 rfl rfl
 have c1_6 := F1.out.c 1 6 rfl rfl
 have df1_0 := F1.out.f 1 0 rfl rfl
 have df1_1 := F1.out.f 1 1 rfl rfl
 have df1_2 := F1.out.f 1 2 rfl rfl
 have df1_3 := F1.out.f 1 3 rfl rfl
 have df1_4 := F1.out.f 1 4 rfl rfl
 have df1_5 := F1.out.f 1 5 rfl rfl
 have df1_6 := F1.out.f 1 6 rfl rfl
 go_upto_region 2 with fail
 have F2 := Lib.hid (F1.out.set 1 rfl (by simp) [.slice aL wv.L.length cL, .slice aK wv.K.length cK, .slice none 0 0, .slice aQ Q.length cQ, .slice aS wv.S.length cS, .slice aP wv.P.length cP, .slice aD wv.D.length cD] rfl)
 simp only [setL, Nat.reduceAdd, List.set_cons_zero, List.set_cons_succ] at F2
 obtain ⟨W2, hW2⟩ : ∃ W2, (((((((W1.setCell ⟨w.heap.size + 1, 0, none⟩ (.slice aL wv.L.length cL)).setCell ⟨w.heap.size + 1, 1, none⟩ (.slice aK wv.K.length cK)).setCell ⟨w.heap.size + 1, 2, none⟩ (.slice none 0 0)).setCell ⟨w.heap.size + 1, 3, none⟩ (.slice aQ Q.length cQ)).setCell ⟨w.heap.size + 1, 4, none⟩ (.slice aS wv.S.length cS)).setCell ⟨w.heap.size + 1, 5, none⟩ (.slice aP wv.P.length cP)).setCell ⟨w.heap.size + 1, 6, none⟩ (.slice aD wv.D.length cD)) = W2 := ⟨_, rfl⟩
 rw [hW2] at F2 ⊢
 clear hW2 F1 c0_0 c0_1 c0_2 c0_3 c1_0 c1_1 c1_2 c1_3 c1_4 c1_5 c1_6 df1_0 df1_1 df1_2 df1_3 df1_4 df1_5 df1_6
 go_wp2
 go_loopw [17] (fun s17 wr => ∃ (k : Nat) (ab : Option Addr) (cb : Nat), k ≤ r ∧ s17 = .int .i64 k ∧ Hid (∀ j, j < k → 0 ≤ wv.room j) ∧ Hid (Fr w.heap.size w wr [(w.heap.size, [.slice aQ Q.length cQ, .slice aS wv.S.length cS, .slice aP wv.P.length cP, .slice aD wv.D.length cD]), (w.heap.size + 1, [.slice aL wv.L.length cL, .slice aK wv.K.length cK, .slice ab k cb, .slice aQ Q.length cQ, .slice aS wv.S.length cS, .slice aP wv.P.length cP, .slice aD wv.D.length cD])] [(.i64, aL, wv.L), (.i64, aK, wv.K), (.i64, aS, wv.S), (.i64, aP, wv.P), (.i64, aD, wv.D)] [⟨3, .slice ab k cb, k, (wv.O.take k).map (Value.int .i64)⟩] [])) (fun s17 _ => r - (intOf s17).toNat)
 case atStart => exact ⟨0, none, 0, Nat.zero_le _, rfl, Lib.hid (fun j hj => absurd hj (by omega)), F2⟩
 case round =>
  obtain ⟨k, ab, cb, hk, rfl, HG, F3⟩ := hrel
  clear F2
  obtain ⟨wo, rfl⟩ : ∃ x : World, x = wr := ⟨_, rfl⟩
  by_cases hlt : k < r
  ·skip
   have hdl := HDL.out k hlt
   have hdk := HDK.out k hlt
   have hds := HDS.out k hlt
   have hdp := HDP.out k hlt
   have hdd := HDD.out k hlt
   have hpr := HPR.out k hlt
   have hot := HOT.out k hlt
   have hxe : wv.room k = wv.L[k]?.getD 0 + 2 * (wv.P[k]?.getD 0) - (wv.D[k]?.getD 0) * ((wv.K[k]?.getD 0) - 1) - 1 := rfl
   have hout : wv.out k = wv.room k / (wv.S[k]?.getD 0) + 1 := rfl
   have hkL : k < wv.L.length := by rw [HRR.out]; exact hlt
   have hkLi : (k : Int) < (wv.L.length : Int) := by omega
   obtain ⟨bL, oL, rfl, _, hcL⟩ := (F3.out.l 0 rfl).cell k hkL
   obtain ⟨el, hel⟩ : ∃ z, wv.L[k]?.getD 0 = z := ⟨_, rfl⟩
   have hkK : k < wv.K.length := by rw [HLK.out]; exact hlt
   have hkKi : (k : Int) < (wv.K.length : Int) := by omega
   obtain ⟨bK, oK, rfl, _, hcK⟩ := (F3.out.l 1 rfl).cell k hkK
   obtain ⟨ek, hek⟩ : ∃ z, wv.K[k]?.getD 0 = z := ⟨_, rfl⟩
   have hkS : k < wv.S.length := by rw [HLS.out]; exact hlt
   have hkSi : (k : Int) < (wv.S.length : Int) := by omega
   obtain ⟨bS, oS, rfl, _, hcS⟩ := (F3.out.l 2 rfl).cell k hkS
   obtain ⟨es, hes⟩ : ∃ z, wv.S[k]?.getD 0 = z := ⟨_, rfl⟩
   have hkP : k < wv.P.length := by rw [HLP.out]; exact hlt
   have hkPi : (k : Int) < (wv.P.length : Int) := by omega
   obtain ⟨bP, oP, rfl, _, hcP⟩ := (F3.out.l 3 rfl).cell k hkP
   obtain ⟨ep, hep⟩ : ∃ z, wv.P[k]?.getD 0 = z := ⟨_, rfl⟩
   have hkD : k < wv.D.length := by rw [HLD.out]; exact hlt
   have hkDi : (k : Int) < (wv.D.length : Int) := by omega
   obtain ⟨bD, oD, rfl, _, hcD⟩ := (F3.out.l 4 rfl).cell k hkD
   obtain ⟨ed, hed⟩ : ∃ z, wv.D[k]?.getD 0 = z := ⟨_, rfl⟩
   simp only [hel, hek, hes, hep, hed] at hdl hdk hds hdp hdd hpr hxe hout
   rw [hel] at hcL
   rw [hek] at hcK
   rw [hes] at hcS
   rw [hep] at hcP
   rw [hed] at hcD
   have Hel := Lib.hid hel
   have Hek := Lib.hid hek
   have Hes := Lib.hid hes
   have Hep := Lib.hid hep
   have Hed := Lib.hid hed
   obtain ⟨X, hX⟩ : ∃ z, wv.room k = z := ⟨_, rfl⟩
   obtain ⟨A, hA⟩ : ∃ z, ed * (ek - 1) = z := ⟨_, rfl⟩
   obtain ⟨OT, hOT⟩ : ∃ z, wv.out k = z := ⟨_, rfl⟩
   rw [hX, hA] at hxe
   rw [hA] at hpr
   rw [hX, hOT] at hout
   rw [hOT] at hot
   have HW1 := Lib.hid (show IntKind.i64.wrap (2 * ep) = 2 * ep from IntWalk.i64_in _ (by omega))
   have HW2 := Lib.hid (show IntKind.i64.wrap (el + 2 * ep) = el + 2 * ep from IntWalk.i64_in _ (by omega))
   have HW3 := Lib.hid (show IntKind.i64.wrap (ek - 1) = ek - 1 from IntWalk.i64_in _ (by omega))
   have HW4 := Lib.hid (show IntKind.i64.wrap (ed * (ek - 1)) = A by rw [hA]; exact IntWalk.i64_in _ (by omega))
   have HW5 := Lib.hid (show IntKind.i64.wrap (el + 2 * ep - A) = el + 2 * ep - A from IntWalk.i64_in _ (by omega))
   have HW6 := Lib.hid (show IntKind.i64.wrap (el + 2 * ep - A - 1) = X by rw [hxe]; exact IntWalk.i64_in _ (by omega))
   have HXE := Lib.hid hX
   have hXb : X ≤ 12287 := by omega
   have HOUT := Lib.hid hout
   have HOT2 := Lib.hid hot
   have HDS2 := Lib.hid hds
   have hk0 : (0 : Int) ≤ (k : Int) := by omega
   clear hdl hdk hds hdp hdd hpr hot hxe hout hX hA hOT hel hek hes hep hed
   have c0_0 := F3.out.c 0 0 rfl rfl
   have c0_1 := F3.out.c 0 1 rfl rfl
   have c0_2 := F3.out.c 0 2 rfl rfl
   have c0_3 := F3.out.c 0 3 rfl rfl
   have c1_0 := F3.out.c 1 0 rfl rfl
   have c1_1 := F3.out.c 1 1 rfl rfl
   have c1_2 := F3.out.c 1 2 rfl rfl
   have c1_3 := F3.out.c 1 3 rfl rfl
   have c1_4 := F3.out.c 1 4 rfl rfl
   have c1_5 := F3.out.c 1 5 rfl rfl
   have c1_6 := F3.out.c 1 6 rfl rfl
   go_upto_region 5 with fail
   refine wp_region_inv (w := wo) 22 (fun _ _ => True) (fun _ W => Fr w.heap.size w W [(w.heap.size, [.slice aQ Q.length cQ, .slice (some ⟨bS, oS, none⟩) wv.S.length cS, .slice (some ⟨bP, oP, none⟩) wv.P.length cP, .slice (some ⟨bD, oD, none⟩) wv.D.length cD]), (w.heap.size + 1, [.slice (some ⟨bL, oL, none⟩) wv.L.length cL, .slice (some ⟨bK, oK, none⟩) wv.K.length cK, .slice ab k cb, .slice aQ Q.length cQ, .slice (some ⟨bS, oS, none⟩) wv.S.length cS, .slice (some ⟨bP, oP, none⟩) wv.P.length cP, .slice (some ⟨bD, oD, none⟩) wv.D.length cD])] [(.i64, (some ⟨bL, oL, none⟩), wv.L), (.i64, (some ⟨bK, oK, none⟩), wv.K), (.i64, (some ⟨bS, oS, none⟩), wv.S), (.i64, (some ⟨bP, oP, none⟩), wv.P), (.i64, (some ⟨bD, oD, none⟩), wv.D)] [⟨3, .slice ab k cb, k, (wv.O.take k).map (Value.int .i64)⟩] []) [] [(fun u _ => u = .int .i64 el), (fun u _ => u = .pointer (some ⟨w.heap.size, 2, none⟩)), (fun u _ => u = .slice (some ⟨bP, oP, none⟩) wv.P.length cP), (fun u _ => u = .int .i64 (k : Int)), (fun u _ => u = .pointer (some ⟨bP, oP + k, none⟩)), (fun u _ => u = .int .i64 ep), (fun u _ => u = .int .i64 (2 * ep)), (fun u _ => u = .int .i64 (el + 2 * ep)), (fun u _ => u = .pointer (some ⟨w.heap.size, 3, none⟩)), (fun u _ => u = .slice (some ⟨bD, oD, none⟩) wv.D.length cD), (fun u _ => u = .int .i64 (k : Int)), (fun u _ => u = .pointer (some ⟨bD, oD + k, none⟩)), (fun u _ => u = .int .i64 ed), (fun u _ => u = .slice (some ⟨bK, oK, none⟩) wv.K.length cK), (fun u _ => u = .int .i64 (k : Int)), (fun u _ => u = .pointer (some ⟨bK, oK + k, none⟩)), (fun u _ => u = .int .i64 ek), (fun u _ => u = .int .i64 (ek - 1)), (fun u _ => u = .int .i64 A), (fun u _ => u = .int .i64 (el + 2 * ep - A)), (fun u _ => u = .int .i64 X), (fun u _ => u = .int .i64 X)] [some 22, some 23, some 24, some 25, some 26, some 27, some 28, some 29, some 30, some 31, some 32, some 33, some 34, some 35, some 36, some 37, some 38, some 39, some 40, some 41, some 42, some 10] (by kernel_rfl) (by kernel_rfl) rfl (by kernel_rfl) (by kernel_rfl) (by decide) (by decide) (fun _ _ => trivial) trivial F3.out.drew (BorneAll.at (.cons (borne_eq _) (.cons (borne_eq _) (.cons (borne_eq _) (.cons (borne_eq _) (.cons (borne_eq _) (.cons (borne_eq _) (.cons (borne_eq _) (.cons (borne_eq _) (.cons (borne_eq _) (.cons (borne_eq _) (.cons (borne_eq _) (.cons (borne_eq _) (.cons (borne_eq _) (.cons (borne_eq _) (.cons (borne_eq _) (.cons (borne_eq _) (.cons (borne_eq _) (.cons (borne_eq _) (.cons (borne_eq _) (.cons (borne_eq _) (.cons (borne_eq _) (.cons (borne_eq _) .nil))))))))))))))))))))))) (fun vs b hvl hvb => ?_)
   obtain ⟨x0, x1, x2, x3, x4, x5, x6, x7, x8, x9, x10, x11, x12, x13, x14, x15, x16, x17, x18, x19, x20, x21, rfl⟩ : ∃ x0 x1 x2 x3 x4 x5 x6 x7 x8 x9 x10 x11 x12 x13 x14 x15 x16 x17 x18 x19 x20 x21, vs = [x0, x1, x2, x3, x4, x5, x6, x7, x8, x9, x10, x11, x12, x13, x14, x15, x16, x17, x18, x19, x20, x21] := lw22 hvl
   clear hvl
   simp only [putAll, Act.put, List.setIfInBounds_toArray, List.set_cons_zero, List.set_cons_succ] at hvb
   subst hvb
   refine ⟨(.snoc (.snoc (.snoc (.snoc (.snoc (.snoc (.snoc (.snoc (.snoc (.snoc (.snoc (.snoc (.snoc (.snoc (.snoc (.snoc (.snoc (.snoc (.snoc (.snoc (.snoc (.snoc .zero (InvOb.intro (d := (some 22)) (r := fun u _ => u = .int .i64 el) 0 0 rfl rfl rfl (by kernel_rfl) (by kernel_rfl) rfl ?io5bx0)) (InvOb.intro (d := (some 23)) (r := fun u _ => u = .pointer (some ⟨w.heap.size, 2, none⟩)) 0 0 rfl rfl rfl (by kernel_rfl) (by kernel_rfl) rfl ?io5bx1)) (InvOb.intro (d := (some 24)) (r := fun u _ => u = .slice (some ⟨bP, oP, none⟩) wv.P.length cP) 0 0 rfl rfl rfl (by kernel_rfl) (by kernel_rfl) rfl ?io5bx2)) (InvOb.intro (d := (some 25)) (r := fun u _ => u = .int .i64 (k : Int)) 0 0 rfl rfl rfl (by kernel_rfl) (by kernel_rfl) rfl ?io5bx3)) (InvOb.intro (d := (some 26)) (r := fun u _ => u = .pointer (some ⟨bP, oP + k, none⟩)) 0 0 rfl rfl rfl (by kernel_rfl) (by kernel_rfl) rfl ?io5bx4)) (InvOb.intro (d := (some 27)) (r := fun u _ => u = .int .i64 ep) 0 0 rfl rfl rfl (by kernel_rfl) (by kernel_rfl) rfl ?io5bx5)) (InvOb.intro (d := (some 28)) (r := fun u _ => u = .int .i64 (2 * ep)) 0 0 rfl rfl rfl (by kernel_rfl) (by kernel_rfl) rfl ?io5bx6)) (InvOb.intro (d := (some 29)) (r := fun u _ => u = .int .i64 (el + 2 * ep)) 0 0 rfl rfl rfl (by kernel_rfl) (by kernel_rfl) rfl ?io5bx7)) (InvOb.intro (d := (some 30)) (r := fun u _ => u = .pointer (some ⟨w.heap.size, 3, none⟩)) 0 0 rfl rfl rfl (by kernel_rfl) (by kernel_rfl) rfl ?io5bx8)) (InvOb.intro (d := (some 31)) (r := fun u _ => u = .slice (some ⟨bD, oD, none⟩) wv.D.length cD) 0 0 rfl rfl rfl (by kernel_rfl) (by kernel_rfl) rfl ?io5bx9)) (InvOb.intro (d := (some 32)) (r := fun u _ => u = .int .i64 (k : Int)) 0 0 rfl rfl rfl (by kernel_rfl) (by kernel_rfl) rfl ?io5bx10)) (InvOb.intro (d := (some 33)) (r := fun u _ => u = .pointer (some ⟨bD, oD + k, none⟩)) 0 0 rfl rfl rfl (by kernel_rfl) (by kernel_rfl) rfl ?io5bx11)) (InvOb.intro (d := (some 34)) (r := fun u _ => u = .int .i64 ed) 0 0 rfl rfl rfl (by kernel_rfl) (by kernel_rfl) rfl ?io5bx12)) (InvOb.intro (d := (some 35)) (r := fun u _ => u = .slice (some ⟨bK, oK, none⟩) wv.K.length cK) 0 0 rfl rfl rfl (by kernel_rfl) (by kernel_rfl) rfl ?io5bx13)) (InvOb.intro (d := (some 36)) (r := fun u _ => u = .int .i64 (k : Int)) 0 0 rfl rfl rfl (by kernel_rfl) (by kernel_rfl) rfl ?io5bx14)) (InvOb.intro (d := (some 37)) (r := fun u _ => u = .pointer (some ⟨bK, oK + k, none⟩)) 0 0 rfl rfl rfl (by kernel_rfl) (by kernel_rfl) rfl ?io5bx15)) (InvOb.intro (d := (some 38)) (r := fun u _ => u = .int .i64 ek) 0 0 rfl rfl rfl (by kernel_rfl) (by kernel_rfl) rfl ?io5bx16)) (InvOb.intro (d := (some 39)) (r := fun u _ => u = .int .i64 (ek - 1)) 0 0 rfl rfl rfl (by kernel_rfl) (by kernel_rfl) rfl ?io5bx17)) (InvOb.intro (d := (some 40)) (r := fun u _ => u = .int .i64 A) 0 0 rfl rfl rfl (by kernel_rfl) (by kernel_rfl) rfl ?io5bx18)) (InvOb.intro (d := (some 41)) (r := fun u _ => u = .int .i64 (el + 2 * ep - A)) 0 0 rfl rfl rfl (by kernel_rfl) (by kernel_rfl) rfl ?io5bx19)) (InvOb.intro (d := (some 42)) (r := fun u _ => u = .int .i64 X) 0 0 rfl rfl rfl (by kernel_rfl) (by kernel_rfl) rfl ?io5bx20)) (InvOb.intro (d := (some 10)) (r := fun u _ => u = .int .i64 X) 0 0 rfl rfl rfl (by kernel_rfl) (by kernel_rfl) rfl ?io5bx21)), ?iend5b⟩
   case io5bx0 =>
    intro k1 w1 hk0 hk1 hb1 hS hd KK hK
    go_simp
    exact hK.out _ _ trivial hS rfl
   case io5bx1 =>
    intro k1 w1 hk0 hk1 hb1 hS hd KK hK
    go_simp
    exact hK.out _ _ trivial hS rfl
   case io5bx2 =>
    intro k1 w1 hk0 hk1 hb1 hS hd KK hK
    obtain rfl := hd 1 (by kernel_rfl)
    have k0 := hS.c 0 2 rfl rfl
    go_simp
    exact hK.out _ _ trivial hS rfl
   case io5bx3 =>
    intro k1 w1 hk0 hk1 hb1 hS hd KK hK
    go_simp
    exact hK.out _ _ trivial hS rfl
   case io5bx4 =>
    intro k1 w1 hk0 hk1 hb1 hS hd KK hK
    obtain rfl := hd 2 (by kernel_rfl)
    obtain rfl := hd 3 (by kernel_rfl)
    go_simp
    exact hK.out _ _ trivial hS rfl
   case io5bx5 =>
    intro k1 w1 hk0 hk1 hb1 hS hd KK hK
    obtain rfl := hd 4 (by kernel_rfl)
    obtain ⟨b9, o9, he, _, hcx⟩ := (hS.l 3 rfl).cell k hkP
    cases he
    rw [Hep.out] at hcx
    go_simp
    exact hK.out _ _ trivial hS rfl
   case io5bx6 =>
    intro k1 w1 hk0 hk1 hb1 hS hd KK hK
    obtain rfl := hd 5 (by kernel_rfl)
    have dx := HW1.out
    go_simp
    exact hK.out _ _ trivial hS rfl
   case io5bx7 =>
    intro k1 w1 hk0 hk1 hb1 hS hd KK hK
    obtain rfl := hd 0 (by kernel_rfl)
    obtain rfl := hd 6 (by kernel_rfl)
    have dx := HW2.out
    go_simp
    exact hK.out _ _ trivial hS rfl
   case io5bx8 =>
    intro k1 w1 hk0 hk1 hb1 hS hd KK hK
    go_simp
    exact hK.out _ _ trivial hS rfl
   case io5bx9 =>
    intro k1 w1 hk0 hk1 hb1 hS hd KK hK
    obtain rfl := hd 8 (by kernel_rfl)
    have k0 := hS.c 0 3 rfl rfl
    go_simp
    exact hK.out _ _ trivial hS rfl
   case io5bx10 =>
    intro k1 w1 hk0 hk1 hb1 hS hd KK hK
    go_simp
    exact hK.out _ _ trivial hS rfl
   case io5bx11 =>
    intro k1 w1 hk0 hk1 hb1 hS hd KK hK
    obtain rfl := hd 9 (by kernel_rfl)
    obtain rfl := hd 10 (by kernel_rfl)
    go_simp
    exact hK.out _ _ trivial hS rfl
   case io5bx12 =>
    intro k1 w1 hk0 hk1 hb1 hS hd KK hK
    obtain rfl := hd 11 (by kernel_rfl)
    obtain ⟨b9, o9, he, _, hcx⟩ := (hS.l 4 rfl).cell k hkD
    cases he
    rw [Hed.out] at hcx
    go_simp
    exact hK.out _ _ trivial hS rfl
   case io5bx13 =>
    intro k1 w1 hk0 hk1 hb1 hS hd KK hK
    go_simp
    exact hK.out _ _ trivial hS rfl
   case io5bx14 =>
    intro k1 w1 hk0 hk1 hb1 hS hd KK hK
    go_simp
    exact hK.out _ _ trivial hS rfl
   case io5bx15 =>
    intro k1 w1 hk0 hk1 hb1 hS hd KK hK
    obtain rfl := hd 13 (by kernel_rfl)
    obtain rfl := hd 14 (by kernel_rfl)
    go_simp
    exact hK.out _ _ trivial hS rfl
   case io5bx16 =>
    intro k1 w1 hk0 hk1 hb1 hS hd KK hK
    obtain rfl := hd 15 (by kernel_rfl)
    obtain ⟨b9, o9, he, _, hcx⟩ := (hS.l 1 rfl).cell k hkK
    cases he
    rw [Hek.out] at hcx
    go_simp
    exact hK.out _ _ trivial hS rfl
   case io5bx17 =>
    intro k1 w1 hk0 hk1 hb1 hS hd KK hK
    obtain rfl := hd 16 (by kernel_rfl)
    have dx := HW3.out
    go_simp
    exact hK.out _ _ trivial hS rfl
   case io5bx18 =>
    intro k1 w1 hk0 hk1 hb1 hS hd KK hK
    obtain rfl := hd 12 (by kernel_rfl)
    obtain rfl := hd 17 (by kernel_rfl)
    have dx := HW4.out
    go_simp
    exact hK.out _ _ trivial hS rfl
   case io5bx19 =>
    intro k1 w1 hk0 hk1 hb1 hS hd KK hK
    obtain rfl := hd 7 (by kernel_rfl)
    obtain rfl := hd 18 (by kernel_rfl)
    have dx := HW5.out
    go_simp
    exact hK.out _ _ trivial hS rfl
   case io5bx20 =>
    intro k1 w1 hk0 hk1 hb1 hS hd KK hK
    obtain rfl := hd 19 (by kernel_rfl)
    have dx := HW6.out
    go_simp
    exact hK.out _ _ trivial hS rfl
   case io5bx21 =>
    intro k1 w1 hk0 hk1 hb1 hS hd KK hK
    obtain rfl := hd 0 (by kernel_rfl)
    obtain rfl := hd 1 (by kernel_rfl)
    obtain rfl := hd 2 (by kernel_rfl)
    obtain rfl := hd 3 (by kernel_rfl)
    obtain rfl := hd 4 (by kernel_rfl)
    obtain rfl := hd 5 (by kernel_rfl)
    obtain rfl := hd 6 (by kernel_rfl)
    obtain rfl := hd 7 (by kernel_rfl)
    obtain rfl := hd 8 (by kernel_rfl)
    obtain rfl := hd 9 (by kernel_rfl)
    obtain rfl := hd 10 (by kernel_rfl)
    obtain rfl := hd 11 (by kernel_rfl)
    obtain rfl := hd 12 (by kernel_rfl)
    obtain rfl := hd 13 (by kernel_rfl)
    obtain rfl := hd 14 (by kernel_rfl)
    obtain rfl := hd 15 (by kernel_rfl)
    obtain rfl := hd 16 (by kernel_rfl)
    obtain rfl := hd 17 (by kernel_rfl)
    obtain rfl := hd 18 (by kernel_rfl)
    obtain rfl := hd 19 (by kernel_rfl)
    obtain rfl := hd 20 (by kernel_rfl)
    go_simp
    exact hK.out _ _ trivial hS rfl
   case iend5b =>
    intro w1 hb1 hS hR
    obtain rfl := hR 0 (by decide)
    obtain rfl := hR 1 (by decide)
    obtain rfl := hR 2 (by decide)
    obtain rfl := hR 3 (by decide)
    obtain rfl := hR 4 (by decide)
    obtain rfl := hR 5 (by decide)
    obtain rfl := hR 6 (by decide)
    obtain rfl := hR 7 (by decide)
    obtain rfl := hR 8 (by decide)
    obtain rfl := hR 9 (by decide)
    obtain rfl := hR 10 (by decide)
    obtain rfl := hR 11 (by decide)
    obtain rfl := hR 12 (by decide)
    obtain rfl := hR 13 (by decide)
    obtain rfl := hR 14 (by decide)
    obtain rfl := hR 15 (by decide)
    obtain rfl := hR 16 (by decide)
    obtain rfl := hR 17 (by decide)
    obtain rfl := hR 18 (by decide)
    obtain rfl := hR 19 (by decide)
    obtain rfl := hR 20 (by decide)
    obtain rfl := hR 21 (by decide)
    clear hR
    have F4 := Lib.hid hS
    clear hS hb1 F3 c0_0 c0_1 c0_2 c0_3 c1_0 c1_1 c1_2 c1_3 c1_4 c1_5 c1_6
    obtain ⟨V3, rfl⟩ : ∃ x : World, x = w1 := ⟨_, rfl⟩
    by_cases hx0 : X < 0
    ·skip
     have c1_0 := F4.out.c 1 0 rfl rfl
     have c1_1 := F4.out.c 1 1 rfl rfl
     have c1_2 := F4.out.c 1 2 rfl rfl
     have c1_3 := F4.out.c 1 3 rfl rfl
     have c1_4 := F4.out.c 1 4 rfl rfl
     have c1_5 := F4.out.c 1 5 rfl rfl
     have c1_6 := F4.out.c 1 6 rfl rfl
     have cf1_0 := F4.out.f 1 0 rfl rfl
     have cf1_1 := F4.out.f 1 1 rfl rfl
     have cf1_2 := F4.out.f 1 2 rfl rfl
     have cf1_3 := F4.out.f 1 3 rfl rfl
     have cf1_4 := F4.out.f 1 4 rfl rfl
     have cf1_5 := F4.out.f 1 5 rfl rfl
     have cf1_6 := F4.out.f 1 6 rfl rfl
     go_wp2
     have FZ := F4.out.set 1 rfl (by simp) [.slice none 0 0, .slice none 0 0, .slice none 0 0, .slice none 0 0, .slice none 0 0, .slice none 0 0, .slice none 0 0] rfl
     simp only [setL, Nat.reduceAdd, List.set_cons_zero, List.set_cons_succ] at FZ
     have y0 := FZ.c 1 0 rfl rfl
     have y1 := FZ.c 1 1 rfl rfl
     have y2 := FZ.c 1 2 rfl rfl
     have y3 := FZ.c 1 3 rfl rfl
     have y4 := FZ.c 1 4 rfl rfl
     have y5 := FZ.c 1 5 rfl rfl
     have y6 := FZ.c 1 6 rfl rfl
     refine bodyPost_ret (v := .tuple #[.agg #[.slice none 0 0, .slice none 0 0, .slice none 0 0, .slice none 0 0, .slice none 0 0, .slice none 0 0, .slice none 0 0], .bool false]) ?_ rfl ⟨rfl, FZ.bel⟩
     rw [results_ctO rfl]
     go_simp
    ·skip
     have hx1 : ¬ X < 0 := hx0
     have HG2 : Hid (∀ j, j < k + 1 → 0 ≤ wv.room j) := Lib.hid (fun j hj => by
      by_cases hjk : j < k
      ·exact HG.out j hjk
      ·obtain rfl : j = k := by omega
       rw [HXE.out]; omega)
     obtain ⟨XN, hXN⟩ : ∃ z : Nat, X = (z : Int) := ⟨X.toNat, by omega⟩
     have hds := HDS2.out
     obtain ⟨EN, hEN⟩ : ∃ z : Nat, es = (z : Int) := ⟨es.toNat, by omega⟩
     subst hXN
     subst hEN
     obtain ⟨qn, hqn⟩ : ∃ z, XN / EN = z := ⟨_, rfl⟩
     have hout := HOUT.out
     rw [← Int.natCast_ediv, hqn] at hout
     have hqb : qn ≤ XN := by rw [← hqn]; exact Nat.div_le_self _ _
     have e0 : ((EN : Int) == 0) = false := by simp; omega
     have e1 : ¬ (EN : Int) = 0 := by omega
     have e2 : ¬ EN = 0 := by omega
     have DQ := Lib.hid (show IntKind.i64.wrap ((XN : Int) / (EN : Int)) = (qn : Int) by rw [← Int.natCast_ediv, hqn]; exact IntWalk.i64_in _ (by omega))
     have DQ2 := Lib.hid (show IntKind.i64.wrap ((qn : Int) + 1) = OT by rw [hout]; exact IntWalk.i64_in _ (by omega))
     have hot := HOT2.out
     have HOT3 := Lib.hid hot
     have hkr : k ≤ 1000000 := by omega
     clear hout hds hqn hqb hot HXE HOUT HDS2 HW1 HW2 HW3 HW4 HW5 HW6 hx0
     have c0_0 := F4.out.c 0 0 rfl rfl
     have c0_1 := F4.out.c 0 1 rfl rfl
     have c0_2 := F4.out.c 0 2 rfl rfl
     have c0_3 := F4.out.c 0 3 rfl rfl
     have c1_0 := F4.out.c 1 0 rfl rfl
     have c1_1 := F4.out.c 1 1 rfl rfl
     have c1_2 := F4.out.c 1 2 rfl rfl
     have c1_3 := F4.out.c 1 3 rfl rfl
     have c1_4 := F4.out.c 1 4 rfl rfl
     have c1_5 := F4.out.c 1 5 rfl rfl
     have c1_6 := F4.out.c 1 6 rfl rfl
     go_upto_region 8 with fail
     refine wp_region_parts2 (w := V3) 11 3 none [] [(fun u _ => u = .pointer (some ⟨w.heap.size + 1, 2, none⟩)), (fun u _ => u = .slice ab k cb), (fun u _ => u = .int .i64 (XN : Int)), (fun u _ => u = .pointer (some ⟨w.heap.size, 1, none⟩)), (fun u _ => u = .slice (some ⟨bS, oS, none⟩) wv.S.length cS), (fun u _ => u = .int .i64 (k : Int)), (fun u _ => u = .pointer (some ⟨bS, oS + k, none⟩)), (fun u _ => u = .int .i64 (EN : Int)), (fun u _ => u = .int .i64 (qn : Int)), (fun u _ => u = .int .i64 OT), ((IsOne OT))] [some 46, some 47, some 48, some 49, some 50, some 51, some 52, some 53, some 54, some 55, some 56, some 57, some 58, none] #[true, true, true, true, true, true, true, true, true, true, true, false, false, false] #[true, true, true, true, true, true, true, true, true, true, true, false, false, false] (by kernel_rfl) rfl (by kernel_rfl) (by kernel_rfl) rfl (by kernel_rfl) (by kernel_rfl) (.cons (carries_eq _) (.cons (carries_eq _) (.cons (carries_eq _) (.cons (carries_eq _) (.cons (carries_eq _) (.cons (carries_eq _) (.cons (carries_eq _) (.cons (carries_eq _) (.cons (carries_eq _) (.cons (carries_eq _) (.cons (isOne_carries _) .nil))))))))))) (fun vs b hvl hvb => ?_)
     obtain ⟨x0, x1, x2, x3, x4, x5, x6, x7, x8, x9, x10, x11, x12, x13, rfl⟩ : ∃ x0 x1 x2 x3 x4 x5 x6 x7 x8 x9 x10 x11 x12 x13, vs = [x0, x1, x2, x3, x4, x5, x6, x7, x8, x9, x10, x11, x12, x13] := lw14 hvl
     clear hvl
     simp only [putAll, Act.put, List.setIfInBounds_toArray, List.set_cons_zero, List.set_cons_succ] at hvb
     subst hvb
     refine ⟨(.snoc (.snoc (.snoc (.snoc (.snoc (.snoc (.snoc (.snoc (.snoc (.snoc (.snoc .zero (PartOb.intro (d := (some 46)) (r := fun u _ => u = .pointer (some ⟨w.heap.size + 1, 2, none⟩)) rfl rfl rfl rfl ?po8x0)) (PartOb.intro (d := (some 47)) (r := fun u _ => u = .slice ab k cb) rfl rfl rfl rfl ?po8x1)) (PartOb.intro (d := (some 48)) (r := fun u _ => u = .int .i64 (XN : Int)) rfl rfl rfl rfl ?po8x2)) (PartOb.intro (d := (some 49)) (r := fun u _ => u = .pointer (some ⟨w.heap.size, 1, none⟩)) rfl rfl rfl rfl ?po8x3)) (PartOb.intro (d := (some 50)) (r := fun u _ => u = .slice (some ⟨bS, oS, none⟩) wv.S.length cS) rfl rfl rfl rfl ?po8x4)) (PartOb.intro (d := (some 51)) (r := fun u _ => u = .int .i64 (k : Int)) rfl rfl rfl rfl ?po8x5)) (PartOb.intro (d := (some 52)) (r := fun u _ => u = .pointer (some ⟨bS, oS + k, none⟩)) rfl rfl rfl rfl ?po8x6)) (PartOb.intro (d := (some 53)) (r := fun u _ => u = .int .i64 (EN : Int)) rfl rfl rfl rfl ?po8x7)) (PartOb.intro (d := (some 54)) (r := fun u _ => u = .int .i64 (qn : Int)) rfl rfl rfl rfl ?po8x8)) (PartOb.intro (d := (some 55)) (r := fun u _ => u = .int .i64 OT) rfl rfl rfl rfl ?po8x9)) (PartOb.intro (d := (some 56)) (r := (IsOne OT)) rfl rfl rfl rfl ?po8x10)), ?pend8, ?pfl8⟩
     case po8x0 | po8x2 | po8x3 | po8x5 =>
      intro w1 hb1 hd KK hK
      go_simp
      exact hK.out _ _ (Below.refl _ _) rfl
     case po8x1 =>
      intro w1 hb1 hd KK hK
      obtain rfl := hd 0 (by kernel_rfl)
      have hF := F4.out.next hb1
      have k0 := hF.c 1 2 rfl rfl
      go_simp
      exact hK.out _ _ (Below.refl _ _) rfl
     case po8x4 =>
      intro w1 hb1 hd KK hK
      obtain rfl := hd 3 (by kernel_rfl)
      have hF := F4.out.next hb1
      have k0 := hF.c 0 1 rfl rfl
      go_simp
      exact hK.out _ _ (Below.refl _ _) rfl
     case po8x6 =>
      intro w1 hb1 hd KK hK
      obtain rfl := hd 4 (by kernel_rfl)
      obtain rfl := hd 5 (by kernel_rfl)
      go_simp
      exact hK.out _ _ (Below.refl _ _) rfl
     case po8x7 =>
      intro w1 hb1 hd KK hK
      obtain rfl := hd 6 (by kernel_rfl)
      have hF := F4.out.next hb1
      obtain ⟨b9, o9, he, _, hcx⟩ := (hF.l 2 rfl).cell k hkS
      cases he
      rw [Hes.out] at hcx
      go_simp
      exact hK.out _ _ (Below.refl _ _) rfl
     case po8x8 =>
      intro w1 hb1 hd KK hK
      obtain rfl := hd 2 (by kernel_rfl)
      obtain rfl := hd 7 (by kernel_rfl)
      have dx := DQ.out
      go_simp
      exact hK.out _ _ (Below.refl _ _) rfl
     case po8x9 =>
      intro w1 hb1 hd KK hK
      obtain rfl := hd 8 (by kernel_rfl)
      have dx := DQ2.out
      go_simp
      exact hK.out _ _ (Below.refl _ _) rfl
     case po8x10 =>
      intro w1 hb1 hd KK hK
      obtain rfl := hd 9 (by kernel_rfl)
      go_simp
      exact hK.out _ _ ((Below.refl _ _).alloc (Nat.le_refl _) _) ⟨_, _, rfl, oneNew w1 OT _⟩
     case pfl8 => (intro f hf; cases hf)
     case pend8 =>
     intro w1 hb1 hR hD
     obtain rfl := hR 0 (by decide)
     obtain rfl := hR 1 (by decide)
     obtain rfl := hR 2 (by decide)
     obtain rfl := hR 3 (by decide)
     obtain rfl := hR 4 (by decide)
     obtain rfl := hR 5 (by decide)
     obtain rfl := hR 6 (by decide)
     obtain rfl := hR 7 (by decide)
     obtain rfl := hR 8 (by decide)
     obtain rfl := hR 9 (by decide)
     obtain ⟨g10, c10, rfl, hO10⟩ := hR 10 (by decide)
     clear hR hD
     refine wpAny_ready (rs := [11]) (by kernel_rfl) (by simp) (AllReady.cons rfl (fun KK hK => ?_) AllReady.nil)
     have G3 := F4.out.next hb1
     refine stepApp1 23 3 infoInt Tryz.underlying23 w.heap.size (.slice ab k cb) k (wv.O.take k) OT c10 ⟨g10, 0, none⟩ _ _ rfl rfl rfl (G3.r 0 rfl) rfl hO10 hkr G3.hlo ?_
     intro g3 c3 w3 hown hgr hob
     rw [← HOT3.out] at hown
     have G4 := G3.wroteO 0 rfl hgr hown (fun g hg => by rcases hob with h | h; exact .inl (h.trans hg); exact .inr (by injection hg with hg; simp only at hg; omega))
     simp only [List.set_cons_zero, List.set_cons_succ] at G4
     clear hown hgr hob G3
     refine hK _ _ ?_
     clear hK KK
     refine wpAny_ready (rs := [12]) (by kernel_rfl) (by simp) (AllReady.cons rfl (fun KK hK => ?_) AllReady.nil)
     go_simp
     refine hK _ _ ?_
     clear hK KK
     refine wpAny_ready (rs := [13]) (by kernel_rfl) (by simp) (AllReady.cons rfl (fun KK hK => ?_) AllReady.nil)
     have q0 := G4.c 1 2 rfl rfl
     have q1 := G4.f 1 2 rfl rfl
     go_simp
     refine hK _ _ ?_
     clear hK KK
     refine wpAny_done (by kernel_rfl) ?_ _
     have G5 := Lib.hid (G4.setC 1 2 rfl (by simp) (.slice (some ⟨g3, 0, none⟩) (k + 1) c3))
     simp only [List.set_cons_zero, List.set_cons_succ] at G5
     obtain ⟨V9, hV9⟩ : ∃ V9, w3.setCell ⟨w.heap.size + 1, 2, none⟩ (.slice (some ⟨g3, 0, none⟩) (k + 1) c3) = V9 := ⟨_, rfl⟩
     rw [hV9] at G5 ⊢
     clear hV9 G4 F4 q0 q1 hb1 c0_0 c0_1 c0_2 c0_3 c1_0 c1_1 c1_2 c1_3 c1_4 c1_5 c1_6
     go_wp2
     go_roundw
     case rel => exact ⟨k + 1, some ⟨g3, 0, none⟩, c3, by omega, by go_num, HG2, G5⟩
     case measure => simp [intOf]; omega
  ·obtain rfl : k = r := by omega
   exact (HRM.out HG.out).elim
end Go.Proofs.YtadlnmckcnfacaaGreat
