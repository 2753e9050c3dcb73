import Derived.Test.YtadlnmckcnfacaaGreatVCxS
set_option linter.unusedVariables false
set_option linter.unusedSimpArgs false
namespace Go.Proofs.YtadlnmckcnfacaaGreat
open Go.RowKit Go.Rt
attribute [local go_sem] Oper.semAt_some
theorem lw10 {α : Type} {l : List α} (h : l.length = 10) : ∃ x0 x1 x2 x3 x4 x5 x6 x7 x8 x9, l = [x0, x1, x2, x3, x4, x5, x6, x7, x8, x9] := by
 match l, h with
 | [x0, x1, x2, x3, x4, x5, x6, x7, x8, x9], _ => exact ⟨x0, x1, x2, x3, x4, x5, x6, x7, x8, x9, rfl⟩
set_option maxRecDepth 100000 in
set_option maxHeartbeats 2000000 in
theorem spatialQ_any (xs : List Int) (aX aK aQ aS aP aD : Option Addr) (cX cK qn cQ cS cP cD : Nat) (wv : WinV) (w : World) (h0 : Ints .i64 w w.heap.size aX xs) (h1 : Ints .i64 w w.heap.size aK wv.K) (h2 : Ints .i64 w w.heap.size aS wv.S) (h3 : Ints .i64 w w.heap.size aP wv.P) (h4 : Ints .i64 w w.heap.size aD wv.D) (hL : wv.L = xs.drop 2) (hR : wv.R) (hx2 : xs.length = 2 + wv.L.length) :
  Calls Tryz.prog 50 #[.slice aX xs.length cX, .slice aK wv.K.length cK, .agg #[.slice aQ qn cQ, .slice aS wv.S.length cS, .slice aP wv.P.length cP, .slice aD wv.D.length cD]] w (RetLB w (spO wv) wv.okB) := by
 have F1 := Lib.hid (((Fr.start (w := w) (I := [(.i64, aX, xs), (.i64, aK, wv.K), (.i64, aS, wv.S), (.i64, aP, wv.P), (.i64, aD, wv.D)]) (by intro z hz; simp at hz; rcases hz with rfl | rfl | rfl | rfl | rfl; exact h0; exact h1; exact h2; exact h3; exact h4)).box1 (b := w.heap.size) rfl [.slice aQ qn cQ, .slice aS wv.S.length cS, .slice aP wv.P.length cP, .slice aD wv.D.length cD] 28).addNil 3)
 simp only [List.nil_append, List.cons_append] at F1
 have hLx : ∀ i : Nat, wv.L[i]?.getD 0 = xs[2 + i]?.getD 0 := fun i => by rw [hL, List.getElem?_drop]
 obtain ⟨r, hrr⟩ : ∃ r, wv.L.length = r := ⟨_, rfl⟩
 have hr2 := hR.r
 have hlen := h0.len
 have hdl := fun i (hi : i < r) => hR.dl i (by omega)
 have hdk := fun i (hi : i < r) => hR.dk i (by omega)
 have hds := fun i (hi : i < r) => hR.ds i (by omega)
 have hdp := fun i (hi : i < r) => hR.dp i (by omega)
 have hdd := fun i (hi : i < r) => hR.dd i (by omega)
 have hlK := hR.k
 have hlS := hR.s
 have hlP := hR.p
 have hlD := hR.d
 have hot := fun i (hi : i < r) => O_take wv (k := i) (by omega)
 have hOl := wv.O_len
 rw [hrr] at hr2 hlK hlS hlP hlD hOl hx2
 have hbad : ∀ i, i < r → wv.room i < 0 → wv.okB = false := fun i hi h => by
  cases h9 : wv.okB with
  | false => rfl
  | true => have := WinV.ok_room h9 (i := i) (by omega); omega
 have hgood : (∀ i, i < r → 0 ≤ wv.room i) → wv.okB = true := fun h => List.all_eq_true.2 fun i hi => decide_eq_true (h i (by have := List.mem_range.1 hi; omega))
 obtain ⟨SP, hSP⟩ : ∃ z, spO wv = z := ⟨_, rfl⟩
 obtain ⟨OKB, hOKB⟩ : ∃ z, wv.okB = z := ⟨_, rfl⟩
 have hs1 : OKB = false → SP = [] := fun h => by rw [← hSP]; unfold spO; rw [hOKB, h]; rfl
 have hs2 : OKB = true → SP = wv.O := fun h => by rw [← hSP]; unfold spO; rw [hOKB, h]; rfl
 rw [hOKB] at hbad hgood
 rw [hSP, hOKB]
 have HLX := Lib.hid hLx
 have HRR := Lib.hid hrr
 have HDL := Lib.hid hdl
 have HDK := Lib.hid hdk
 have HDS := Lib.hid hds
 have HDP := Lib.hid hdp
 have HDD := Lib.hid hdd
 have HLK := Lib.hid hlK
 have HLS := Lib.hid hlS
 have HLP := Lib.hid hlP
 have HLD := Lib.hid hlD
 have HOT := Lib.hid hot
 have HBAD := Lib.hid hbad
 have HGOOD := Lib.hid hgood
 have HS1 := Lib.hid hs1
 have HS2 := Lib.hid hs2
 have HOL := Lib.hid hOl
 have HX2 := Lib.hid hx2
 clear h0 h1 h2 h3 h4 hR hL hLx hSP hOKB hrr hdl hdk hds hdp hdd hlK hlS hlP hlD hot hbad hgood hs1 hs2 hOl hx2
 go_enter Tryz.func50, Tryz.ntmps50
 go_upto_region 1 with fail
 obtain ⟨W1, hW1⟩ : ∃ W1, w.alloc (.cells #[.slice aQ qn cQ, .slice aS wv.S.length cS, .slice aP wv.P.length cP, .slice aD wv.D.length cD] 28) = W1 := ⟨_, rfl⟩
 rw [hW1] at F1 ⊢
 clear hW1
 go_wp2
 go_loopw [8, 9] (fun s8 s9 wr => ∃ (k : Nat) (ab : Option Addr) (cb : Nat), k ≤ r ∧ s8 = .slice ab k cb ∧ s9 = .int .i64 k ∧ Hid (∀ j, j < k → 0 ≤ wv.room j) ∧ Hid (Fr w.heap.size w wr [(w.heap.size, [.slice aQ qn cQ, .slice aS wv.S.length cS, .slice aP wv.P.length cP, .slice aD wv.D.length cD])] [(.i64, aX, xs), (.i64, aK, wv.K), (.i64, aS, wv.S), (.i64, aP, wv.P), (.i64, aD, wv.D)] [⟨3, .slice ab k cb, k, (wv.O.take k).map (Value.int .i64)⟩] [])) (fun _ s9 _ => r - (intOf s9).toNat)
 case atStart => exact ⟨0, none, 0, Nat.zero_le _, rfl, rfl, Lib.hid (fun j hj => absurd hj (by omega)), F1⟩
 case round =>
  obtain ⟨k, ab, cb, hk, rfl, rfl, HG, F3⟩ := hrel
  clear F1
  obtain ⟨wo, rfl⟩ : ∃ x : World, x = wr := ⟨_, rfl⟩
  by_cases hlt : k < r
  ·skip
   have hdl := HDL.out k hlt
   have hdk := HDK.out k hlt
   have hds := HDS.out k hlt
   have hdp := HDP.out k hlt
   have hdd := HDD.out k hlt
   have hot := HOT.out k hlt
   have hxe : wv.room k = wv.L[k]?.getD 0 + 2 * (wv.P[k]?.getD 0) - (wv.D[k]?.getD 0) * ((wv.K[k]?.getD 0) - 1) - 1 := rfl
   have hout : wv.out k = wv.room k / (wv.S[k]?.getD 0) + 1 := rfl
   rw [HLX.out k] at hdl hxe
   have hkX : 2 + k < xs.length := by have := HX2.out; omega
   have hkXi : 2 + (k : Int) < (xs.length : Int) := by omega
   obtain ⟨bX, oX, rfl, _, hcX⟩ := (F3.out.l 0 rfl).cell (2 + k) hkX
   obtain ⟨el, hel⟩ : ∃ z, xs[2 + k]?.getD 0 = z := ⟨_, rfl⟩
   have hkK : k < wv.K.length := by rw [HLK.out]; exact hlt
   have hkKi : (k : Int) < (wv.K.length : Int) := by omega
   obtain ⟨bK, oK, rfl, _, hcK⟩ := (F3.out.l 1 rfl).cell k hkK
   obtain ⟨ek, hek⟩ : ∃ z, wv.K[k]?.getD 0 = z := ⟨_, rfl⟩
   have hkS : k < wv.S.length := by rw [HLS.out]; exact hlt
   have hkSi : (k : Int) < (wv.S.length : Int) := by omega
   obtain ⟨bS, oS, rfl, _, hcS⟩ := (F3.out.l 2 rfl).cell k hkS
   obtain ⟨es, hes⟩ : ∃ z, wv.S[k]?.getD 0 = z := ⟨_, rfl⟩
   have hkP : k < wv.P.length := by rw [HLP.out]; exact hlt
   have hkPi : (k : Int) < (wv.P.length : Int) := by omega
   obtain ⟨bP, oP, rfl, _, hcP⟩ := (F3.out.l 3 rfl).cell k hkP
   obtain ⟨ep, hep⟩ : ∃ z, wv.P[k]?.getD 0 = z := ⟨_, rfl⟩
   have hkD : k < wv.D.length := by rw [HLD.out]; exact hlt
   have hkDi : (k : Int) < (wv.D.length : Int) := by omega
   obtain ⟨bD, oD, rfl, _, hcD⟩ := (F3.out.l 4 rfl).cell k hkD
   obtain ⟨ed, hed⟩ : ∃ z, wv.D[k]?.getD 0 = z := ⟨_, rfl⟩
   simp only [hel, hek, hes, hep, hed] at hdl hdk hds hdp hdd hxe hout
   have Hel := Lib.hid hel
   have Hek := Lib.hid hek
   have Hes := Lib.hid hes
   have Hep := Lib.hid hep
   have Hed := Lib.hid hed
   obtain ⟨X, hX⟩ : ∃ z, wv.room k = z := ⟨_, rfl⟩
   obtain ⟨OT, hOT⟩ : ∃ z, wv.out k = z := ⟨_, rfl⟩
   rw [hX] at hxe
   rw [hX, hOT] at hout
   rw [hOT] at hot
   have hpl := fun W => places11_any el ek es ep ed X W hdl hdk hds hdp hdd hxe
   have HPL := Lib.hid hpl
   have HXE := Lib.hid hX
   have HOUT := Lib.hid hout
   have HOT2 := Lib.hid hot
   have HW0 := Lib.hid (show IntKind.i64.wrap (2 + (k : Int)) = 2 + (k : Int) from IntWalk.i64_in _ (by omega))
   have hkXa : 0 ≤ 2 + (k : Int) := by omega
   have hkXc : (2 + (k : Int)).toNat = 2 + k := by omega
   have hk0 : (0 : Int) ≤ (k : Int) := by omega
   have HDS2 := Lib.hid hds
   clear hdl hdk hds hdp hdd hot hxe hout hX hOT hel hpl hek hes hep hed hcX hcK hcS hcP hcD
   go_upto_region 5 with fail
   refine wp_region_parts2 (w := wo) 26 0 none [] [(fun u _ => u = .slice (some ⟨bX, oX, none⟩) xs.length cX), (fun u _ => u = .int .i64 (k : Int)), (fun u _ => u = .int .i64 (2 + (k : Int))), (fun u _ => u = .pointer (some ⟨bX, oX + (2 + k), none⟩)), (fun u _ => u = .int .i64 el), (fun u _ => u = .slice (some ⟨bK, oK, none⟩) wv.K.length cK), (fun u _ => u = .int .i64 (k : Int)), (fun u _ => u = .pointer (some ⟨bK, oK + k, none⟩)), (fun u _ => u = .int .i64 ek), (fun u _ => u = .pointer (some ⟨w.heap.size, 1, none⟩)), (fun u _ => u = .slice (some ⟨bS, oS, none⟩) wv.S.length cS), (fun u _ => u = .int .i64 (k : Int)), (fun u _ => u = .pointer (some ⟨bS, oS + k, none⟩)), (fun u _ => u = .int .i64 es), (fun u _ => u = .pointer (some ⟨w.heap.size, 2, none⟩)), (fun u _ => u = .slice (some ⟨bP, oP, none⟩) wv.P.length cP), (fun u _ => u = .int .i64 (k : Int)), (fun u _ => u = .pointer (some ⟨bP, oP + k, none⟩)), (fun u _ => u = .int .i64 ep), (fun u _ => u = .pointer (some ⟨w.heap.size, 3, none⟩)), (fun u _ => u = .slice (some ⟨bD, oD, none⟩) wv.D.length cD), (fun u _ => u = .int .i64 (k : Int)), (fun u _ => u = .pointer (some ⟨bD, oD + k, none⟩)), (fun u _ => u = .int .i64 ed), (fun u _ => u = .int .i64 (plcI X es)), (fun u _ => u = .int .i64 (plcI X es))] [some 17, some 18, some 19, some 20, some 21, some 22, some 23, some 24, some 25, some 26, some 27, some 28, some 29, some 30, some 31, some 32, some 33, some 34, some 35, some 36, some 37, some 38, some 39, some 40, some 41, some 10] #[true, true, true, true, true, true, true, true, true, true, true, true, true, true, true, true, true, true, true, true, true, true, true, true, true, true] #[true, true, true, true, true, true, true, true, true, true, true, true, true, true, true, true, true, true, true, true, true, true, true, true, true, true] (by kernel_rfl) rfl (by kernel_rfl) (by kernel_rfl) rfl (by kernel_rfl) (by kernel_rfl) (.cons (carries_eq _) (.cons (carries_eq _) (.cons (carries_eq _) (.cons (carries_eq _) (.cons (carries_eq _) (.cons (carries_eq _) (.cons (carries_eq _) (.cons (carries_eq _) (.cons (carries_eq _) (.cons (carries_eq _) (.cons (carries_eq _) (.cons (carries_eq _) (.cons (carries_eq _) (.cons (carries_eq _) (.cons (carries_eq _) (.cons (carries_eq _) (.cons (carries_eq _) (.cons (carries_eq _) (.cons (carries_eq _) (.cons (carries_eq _) (.cons (carries_eq _) (.cons (carries_eq _) (.cons (carries_eq _) (.cons (carries_eq _) (.cons (carries_eq _) (.cons (carries_eq _) .nil)))))))))))))))))))))))))) (fun vs b hvl hvb => ?_)
   obtain ⟨x0, x1, x2, x3, x4, x5, x6, x7, x8, x9, x10, x11, x12, x13, x14, x15, x16, x17, x18, x19, x20, x21, x22, x23, x24, x25, rfl⟩ : ∃ x0 x1 x2 x3 x4 x5 x6 x7 x8 x9 x10 x11 x12 x13 x14 x15 x16 x17 x18 x19 x20 x21 x22 x23 x24 x25, vs = [x0, x1, x2, x3, x4, x5, x6, x7, x8, x9, x10, x11, x12, x13, x14, x15, x16, x17, x18, x19, x20, x21, x22, x23, x24, x25] := lw26 hvl
   clear hvl
   simp only [putAll, Act.put, List.setIfInBounds_toArray, List.set_cons_zero, List.set_cons_succ] at hvb
   subst hvb
   refine ⟨(.snoc (.snoc (.snoc (.snoc (.snoc (.snoc (.snoc (.snoc (.snoc (.snoc (.snoc (.snoc (.snoc (.snoc (.snoc (.snoc (.snoc (.snoc (.snoc (.snoc (.snoc (.snoc (.snoc (.snoc (.snoc (.snoc .zero (PartOb.intro (d := (some 17)) (r := fun u _ => u = .slice (some ⟨bX, oX, none⟩) xs.length cX) rfl rfl rfl rfl ?po5x0)) (PartOb.intro (d := (some 18)) (r := fun u _ => u = .int .i64 (k : Int)) rfl rfl rfl rfl ?po5x1)) (PartOb.intro (d := (some 19)) (r := fun u _ => u = .int .i64 (2 + (k : Int))) rfl rfl rfl rfl ?po5x2)) (PartOb.intro (d := (some 20)) (r := fun u _ => u = .pointer (some ⟨bX, oX + (2 + k), none⟩)) rfl rfl rfl rfl ?po5x3)) (PartOb.intro (d := (some 21)) (r := fun u _ => u = .int .i64 el) rfl rfl rfl rfl ?po5x4)) (PartOb.intro (d := (some 22)) (r := fun u _ => u = .slice (some ⟨bK, oK, none⟩) wv.K.length cK) rfl rfl rfl rfl ?po5x5)) (PartOb.intro (d := (some 23)) (r := fun u _ => u = .int .i64 (k : Int)) rfl rfl rfl rfl ?po5x6)) (PartOb.intro (d := (some 24)) (r := fun u _ => u = .pointer (some ⟨bK, oK + k, none⟩)) rfl rfl rfl rfl ?po5x7)) (PartOb.intro (d := (some 25)) (r := fun u _ => u = .int .i64 ek) rfl rfl rfl rfl ?po5x8)) (PartOb.intro (d := (some 26)) (r := fun u _ => u = .pointer (some ⟨w.heap.size, 1, none⟩)) rfl rfl rfl rfl ?po5x9)) (PartOb.intro (d := (some 27)) (r := fun u _ => u = .slice (some ⟨bS, oS, none⟩) wv.S.length cS) rfl rfl rfl rfl ?po5x10)) (PartOb.intro (d := (some 28)) (r := fun u _ => u = .int .i64 (k : Int)) rfl rfl rfl rfl ?po5x11)) (PartOb.intro (d := (some 29)) (r := fun u _ => u = .pointer (some ⟨bS, oS + k, none⟩)) rfl rfl rfl rfl ?po5x12)) (PartOb.intro (d := (some 30)) (r := fun u _ => u = .int .i64 es) rfl rfl rfl rfl ?po5x13)) (PartOb.intro (d := (some 31)) (r := fun u _ => u = .pointer (some ⟨w.heap.size, 2, none⟩)) rfl rfl rfl rfl ?po5x14)) (PartOb.intro (d := (some 32)) (r := fun u _ => u = .slice (some ⟨bP, oP, none⟩) wv.P.length cP) rfl rfl rfl rfl ?po5x15)) (PartOb.intro (d := (some 33)) (r := fun u _ => u = .int .i64 (k : Int)) rfl rfl rfl rfl ?po5x16)) (PartOb.intro (d := (some 34)) (r := fun u _ => u = .pointer (some ⟨bP, oP + k, none⟩)) rfl rfl rfl rfl ?po5x17)) (PartOb.intro (d := (some 35)) (r := fun u _ => u = .int .i64 ep) rfl rfl rfl rfl ?po5x18)) (PartOb.intro (d := (some 36)) (r := fun u _ => u = .pointer (some ⟨w.heap.size, 3, none⟩)) rfl rfl rfl rfl ?po5x19)) (PartOb.intro (d := (some 37)) (r := fun u _ => u = .slice (some ⟨bD, oD, none⟩) wv.D.length cD) rfl rfl rfl rfl ?po5x20)) (PartOb.intro (d := (some 38)) (r := fun u _ => u = .int .i64 (k : Int)) rfl rfl rfl rfl ?po5x21)) (PartOb.intro (d := (some 39)) (r := fun u _ => u = .pointer (some ⟨bD, oD + k, none⟩)) rfl rfl rfl rfl ?po5x22)) (PartOb.intro (d := (some 40)) (r := fun u _ => u = .int .i64 ed) rfl rfl rfl rfl ?po5x23)) (PartOb.intro (d := (some 41)) (r := fun u _ => u = .int .i64 (plcI X es)) rfl rfl rfl rfl ?po5x24)) (PartOb.intro (d := (some 10)) (r := fun u _ => u = .int .i64 (plcI X es)) rfl rfl rfl rfl ?po5x25)), ?pend5, ?pfl5⟩
   case po5x0 | po5x1 | po5x5 | po5x6 | po5x9 | po5x11 | po5x14 | po5x16 | po5x19 | po5x21 =>
    intro w1 hb1 hd KK hK
    go_simp
    exact hK.out _ _ (Below.refl _ _) rfl
   case po5x2 =>
    intro w1 hb1 hd KK hK
    obtain rfl := hd 1 (by kernel_rfl)
    have dx := HW0.out
    go_simp
    exact hK.out _ _ (Below.refl _ _) rfl
   case po5x3 =>
    intro w1 hb1 hd KK hK
    obtain rfl := hd 0 (by kernel_rfl)
    obtain rfl := hd 2 (by kernel_rfl)
    go_simp
    exact hK.out _ _ (Below.refl _ _) rfl
   case po5x4 =>
    intro w1 hb1 hd KK hK
    obtain rfl := hd 3 (by kernel_rfl)
    have hF := F3.out.next hb1
    obtain ⟨b9, o9, he, _, hcx⟩ := (hF.l 0 rfl).cell (2 + k) hkX
    cases he
    rw [Hel.out] at hcx
    go_simp
    exact hK.out _ _ (Below.refl _ _) rfl
   case po5x7 =>
    intro w1 hb1 hd KK hK
    obtain rfl := hd 5 (by kernel_rfl)
    obtain rfl := hd 6 (by kernel_rfl)
    go_simp
    exact hK.out _ _ (Below.refl _ _) rfl
   case po5x8 =>
    intro w1 hb1 hd KK hK
    obtain rfl := hd 7 (by kernel_rfl)
    have hF := F3.out.next hb1
    obtain ⟨b9, o9, he, _, hcx⟩ := (hF.l 1 rfl).cell (k) hkK
    cases he
    rw [Hek.out] at hcx
    go_simp
    exact hK.out _ _ (Below.refl _ _) rfl
   case po5x10 =>
    intro w1 hb1 hd KK hK
    obtain rfl := hd 9 (by kernel_rfl)
    have hF := F3.out.next hb1
    have k0 := hF.c 0 1 rfl rfl
    go_simp
    exact hK.out _ _ (Below.refl _ _) rfl
   case po5x12 =>
    intro w1 hb1 hd KK hK
    obtain rfl := hd 10 (by kernel_rfl)
    obtain rfl := hd 11 (by kernel_rfl)
    go_simp
    exact hK.out _ _ (Below.refl _ _) rfl
   case po5x13 =>
    intro w1 hb1 hd KK hK
    obtain rfl := hd 12 (by kernel_rfl)
    have hF := F3.out.next hb1
    obtain ⟨b9, o9, he, _, hcx⟩ := (hF.l 2 rfl).cell (k) hkS
    cases he
    rw [Hes.out] at hcx
    go_simp
    exact hK.out _ _ (Below.refl _ _) rfl
   case po5x15 =>
    intro w1 hb1 hd KK hK
    obtain rfl := hd 14 (by kernel_rfl)
    have hF := F3.out.next hb1
    have k0 := hF.c 0 2 rfl rfl
    go_simp
    exact hK.out _ _ (Below.refl _ _) rfl
   case po5x17 =>
    intro w1 hb1 hd KK hK
    obtain rfl := hd 15 (by kernel_rfl)
    obtain rfl := hd 16 (by kernel_rfl)
    go_simp
    exact hK.out _ _ (Below.refl _ _) rfl
   case po5x18 =>
    intro w1 hb1 hd KK hK
    obtain rfl := hd 17 (by kernel_rfl)
    have hF := F3.out.next hb1
    obtain ⟨b9, o9, he, _, hcx⟩ := (hF.l 3 rfl).cell (k) hkP
    cases he
    rw [Hep.out] at hcx
    go_simp
    exact hK.out _ _ (Below.refl _ _) rfl
   case po5x20 =>
    intro w1 hb1 hd KK hK
    obtain rfl := hd 19 (by kernel_rfl)
    have hF := F3.out.next hb1
    have k0 := hF.c 0 3 rfl rfl
    go_simp
    exact hK.out _ _ (Below.refl _ _) rfl
   case po5x22 =>
    intro w1 hb1 hd KK hK
    obtain rfl := hd 20 (by kernel_rfl)
    obtain rfl := hd 21 (by kernel_rfl)
    go_simp
    exact hK.out _ _ (Below.refl _ _) rfl
   case po5x23 =>
    intro w1 hb1 hd KK hK
    obtain rfl := hd 22 (by kernel_rfl)
    have hF := F3.out.next hb1
    obtain ⟨b9, o9, he, _, hcx⟩ := (hF.l 4 rfl).cell (k) hkD
    cases he
    rw [Hed.out] at hcx
    go_simp
    exact hK.out _ _ (Below.refl _ _) rfl
   case po5x24 =>
    intro w1 hb1 hd KK hK
    obtain rfl := hd 4 (by kernel_rfl)
    obtain rfl := hd 8 (by kernel_rfl)
    obtain rfl := hd 13 (by kernel_rfl)
    obtain rfl := hd 18 (by kernel_rfl)
    obtain rfl := hd 23 (by kernel_rfl)
    go_simp
    go_at_call 85
    refine (HPL.out w1).mono ?_
    rintro e w2 ⟨rfl, rfl⟩
    (try go_wp2_with fail)
    exact hK.out _ _ (Below.refl _ _) rfl
   case po5x25 =>
    intro w1 hb1 hd KK hK
    obtain rfl := hd 0 (by kernel_rfl)
    obtain rfl := hd 1 (by kernel_rfl)
    obtain rfl := hd 2 (by kernel_rfl)
    obtain rfl := hd 3 (by kernel_rfl)
    obtain rfl := hd 4 (by kernel_rfl)
    obtain rfl := hd 5 (by kernel_rfl)
    obtain rfl := hd 6 (by kernel_rfl)
    obtain rfl := hd 7 (by kernel_rfl)
    obtain rfl := hd 8 (by kernel_rfl)
    obtain rfl := hd 9 (by kernel_rfl)
    obtain rfl := hd 10 (by kernel_rfl)
    obtain rfl := hd 11 (by kernel_rfl)
    obtain rfl := hd 12 (by kernel_rfl)
    obtain rfl := hd 13 (by kernel_rfl)
    obtain rfl := hd 14 (by kernel_rfl)
    obtain rfl := hd 15 (by kernel_rfl)
    obtain rfl := hd 16 (by kernel_rfl)
    obtain rfl := hd 17 (by kernel_rfl)
    obtain rfl := hd 18 (by kernel_rfl)
    obtain rfl := hd 19 (by kernel_rfl)
    obtain rfl := hd 20 (by kernel_rfl)
    obtain rfl := hd 21 (by kernel_rfl)
    obtain rfl := hd 22 (by kernel_rfl)
    obtain rfl := hd 23 (by kernel_rfl)
    obtain rfl := hd 24 (by kernel_rfl)
    go_simp
    exact hK.out _ _ (Below.refl _ _) rfl
   case pfl5 => (intro f hf; cases hf)
   case pend5 =>
   intro w1 hb1 hR hD
   obtain rfl := hR 0 (by decide)
   obtain rfl := hR 1 (by decide)
   obtain rfl := hR 2 (by decide)
   obtain rfl := hR 3 (by decide)
   obtain rfl := hR 4 (by decide)
   obtain rfl := hR 5 (by decide)
   obtain rfl := hR 6 (by decide)
   obtain rfl := hR 7 (by decide)
   obtain rfl := hR 8 (by decide)
   obtain rfl := hR 9 (by decide)
   obtain rfl := hR 10 (by decide)
   obtain rfl := hR 11 (by decide)
   obtain rfl := hR 12 (by decide)
   obtain rfl := hR 13 (by decide)
   obtain rfl := hR 14 (by decide)
   obtain rfl := hR 15 (by decide)
   obtain rfl := hR 16 (by decide)
   obtain rfl := hR 17 (by decide)
   obtain rfl := hR 18 (by decide)
   obtain rfl := hR 19 (by decide)
   obtain rfl := hR 20 (by decide)
   obtain rfl := hR 21 (by decide)
   obtain rfl := hR 22 (by decide)
   obtain rfl := hR 23 (by decide)
   obtain rfl := hR 24 (by decide)
   obtain rfl := hR 25 (by decide)
   clear hR hD
   refine wpAny_done (by kernel_rfl) ?_ _
   have F4 := Lib.hid (F3.out.next hb1)
   clear hb1 F3
   obtain ⟨V3, rfl⟩ : ∃ x : World, x = w1 := ⟨_, rfl⟩
   by_cases hx0 : X < 0
   ·skip
    have hz : plcI X es = 0 := by unfold plcI; rw [if_pos hx0]
    rw [hz]
    have hf := HBAD.out k hlt (by rw [HXE.out]; exact hx0)
    have hsp := HS1.out hf
    obtain rfl := hf
    obtain rfl := hsp
    clear HS1 HS2 HBAD HGOOD
    go_wp2
    go_ret2
    exact ⟨none, 0, rfl, (F4.out.less (List.nil_sublist _) (List.nil_sublist _) (List.nil_sublist _) (.refl _)).addNil _⟩
   ·skip
    have hds := HDS2.out
    have hdn := Int.ediv_nonneg (show 0 ≤ X by omega) (show 0 ≤ es by omega)
    have hz : plcI X es = OT := by unfold plcI; rw [if_neg hx0, HOUT.out]
    have hout := HOUT.out
    have hO1 : ¬ OT < 1 := by omega
    rw [hz]
    have HG2 : Hid (∀ j, j < k + 1 → 0 ≤ wv.room j) := Lib.hid (fun j hj => by
     by_cases hjk : j < k
     ·exact HG.out j hjk
     ·obtain rfl : j = k := by omega
      rw [HXE.out]; omega)
    have HKM := Lib.hid (show k ≤ 1000000 by omega)
    clear hds hdn hz hout hx0
    go_wp2_with (first | (at_builtin; refine appendI w.heap.size (.slice ab k cb) k (wv.O.take k) OT _ _ _ rfl rfl rfl (F4.out.r 0 rfl) rfl HKM.out F4.out.hlo ?_; intro v' w8 hown hbel hgr hob; obtain ⟨a8, c8, rfl, _⟩ := own_shape hown; rw [← HOT2.out] at hown; have F8 := Lib.hid (F4.out.wroteO 0 rfl hgr hown (fun g hg => by rcases hob with h | h; exact .inl (h.symm.trans hg); exact .inr (by rw [h] at hg; injection hg with hg; omega))); simp only [List.set_cons_zero, List.set_cons_succ] at F8; clear hown hbel hgr hob F4) | fail)
    go_roundw
    case rel => exact ⟨k + 1, a8, c8, by omega, by go_num, by go_num, HG2, F8⟩
    case measure => simp [intOf]; omega
  ·obtain rfl : k = r := by omega
   have hf := HGOOD.out HG.out
   have hsp := HS2.out hf
   obtain rfl := hf
   subst hsp
   have hlk := HLK.out
   have hkn : ¬ (k : Int) < (wv.K.length : Int) := by omega
   have hp1 : wv.O.take k = wv.O := List.take_of_length_le (by rw [HOL.out]; exact Nat.le_refl _)
   rw [hp1] at F3
   have HOL2 := Lib.hid HOL.out
   clear HS1 HS2 HBAD HGOOD hlk HOL
   go_wp2
   go_ret2
   have hol := HOL2.out
   exact ⟨ab, cb, by rw [hol]; rfl, by rw [hol]; exact F3.out.less (List.nil_sublist _) (List.nil_sublist _) (.refl _) (.refl _)⟩
def RetSh (w : World) (l : List Int) (z : Int) (e : Ending) (w' : World) : Prop :=
 ∃ a c, e = .returned (.tuple #[.slice a l.length c, .int .i64 z]) ∧ Fr w.heap.size w w' [] [] [⟨3, .slice a l.length c, l.length, l.map (Value.int .i64)⟩] []
theorem retSh_nil {w w' : World} {z : Int} (h : Below w.heap.size w w') : RetSh w [] z (.returned (.tuple #[.slice none 0 0, .int .i64 z])) w' :=
 ⟨none, 0, rfl, (((Fr.start (w := w) (I := []) (by simp)).next h).addNil 3)⟩
set_option maxRecDepth 100000 in
set_option maxHeartbeats 2000000 in
theorem rshape_len (a a2 aQ aS aP aD : Option Addr) (c c2 qn cQ cS cP cD : Nat) (xs ws Q : List Int) (wv : WinV) (w : World) (h : Ints .i64 w w.heap.size a xs) (h2 : Ints .i64 w w.heap.size a2 ws) (hS : Ints .i64 w w.heap.size aS wv.S) (hP : Ints .i64 w w.heap.size aP wv.P) (hD : Ints .i64 w w.heap.size aD wv.D) (hl2 : ws.length ≠ xs.length) :
  Calls Tryz.prog 22 #[.slice a xs.length c, .slice a2 ws.length c2, .agg #[.slice aQ qn cQ, .slice aS wv.S.length cS, .slice aP wv.P.length cP, .slice aD wv.D.length cD]] w (RetSh w [] 2) := by
 have hm := h.len
 have hm2 := h2.len
 have hmS := hS.len
 have F1 := Lib.hid ((Fr.start (w := w) (I := [(.i64, a, xs), (.i64, a2, ws), (.i64, aS, wv.S), (.i64, aP, wv.P), (.i64, aD, wv.D)]) (by intro z hz; simp at hz; rcases hz with rfl | rfl | rfl | rfl | rfl; exact h; exact h2; exact hS; exact hP; exact hD)).box1 (b := w.heap.size) rfl [.slice aQ qn cQ, .slice aS wv.S.length cS, .slice aP wv.P.length cP, .slice aD wv.D.length cD] 28)
 simp only [List.nil_append, List.cons_append] at F1
 have d15 : ((xs.length : Int) != (ws.length : Int)) = true := by simp; omega
 have HLW := Lib.hid hl2
 clear h h2 hS hP hD hl2
 go_enter Tryz.func22, Tryz.ntmps22
 go_upto_region 1 with fail
 obtain ⟨W1, hW1⟩ : ∃ W1, w.alloc (.cells #[.slice aQ qn cQ, .slice aS wv.S.length cS, .slice aP wv.P.length cP, .slice aD wv.D.length cD] 28) = W1 := ⟨_, rfl⟩
 rw [hW1] at F1 ⊢
 clear hW1
 have c0_0 := F1.out.c 0 0 rfl rfl
 have c0_1 := F1.out.c 0 1 rfl rfl
 have c0_2 := F1.out.c 0 2 rfl rfl
 have c0_3 := F1.out.c 0 3 rfl rfl
 go_quiet (fail)
 have F2 := Lib.hid (F1.out.drewN nq)
 obtain ⟨W2, hW2⟩ : ∃ x, W1.drewN nq = x := ⟨_, rfl⟩
 rw [hW2] at F2 ⊢
 clear hW2 F1 d15 c0_0 c0_1 c0_2 c0_3
 go_wp2
 go_ret2
 exact retSh_nil F2.out.bel
set_option maxRecDepth 100000 in
set_option maxHeartbeats 2000000 in
theorem rshape_short (a a2 aQ aS aP aD : Option Addr) (c c2 qn cQ cS cP cD : Nat) (xs ws Q : List Int) (wv : WinV) (w : World) (h : Ints .i64 w w.heap.size a xs) (h2 : Ints .i64 w w.heap.size a2 ws) (hS : Ints .i64 w w.heap.size aS wv.S) (hP : Ints .i64 w w.heap.size aP wv.P) (hD : Ints .i64 w w.heap.size aD wv.D) (hl2 : ws.length = xs.length) (hl : xs.length < 3) :
  Calls Tryz.prog 22 #[.slice a xs.length c, .slice a2 ws.length c2, .agg #[.slice aQ qn cQ, .slice aS wv.S.length cS, .slice aP wv.P.length cP, .slice aD wv.D.length cD]] w (RetSh w [] 2) := by
 have hm := h.len
 have hm2 := h2.len
 have hmS := hS.len
 have F1 := Lib.hid ((Fr.start (w := w) (I := [(.i64, a, xs), (.i64, a2, ws), (.i64, aS, wv.S), (.i64, aP, wv.P), (.i64, aD, wv.D)]) (by intro z hz; simp at hz; rcases hz with rfl | rfl | rfl | rfl | rfl; exact h; exact h2; exact hS; exact hP; exact hD)).box1 (b := w.heap.size) rfl [.slice aQ qn cQ, .slice aS wv.S.length cS, .slice aP wv.P.length cP, .slice aD wv.D.length cD] 28)
 simp only [List.nil_append, List.cons_append] at F1
 have d15 : ((xs.length : Int) != (ws.length : Int)) = false := by simp; omega
 have d19 : (xs.length : Int) < 3 := by omega
 have HLW := Lib.hid hl2
 clear h h2 hS hP hD hl2 hl
 go_enter Tryz.func22, Tryz.ntmps22
 go_upto_region 1 with fail
 obtain ⟨W1, hW1⟩ : ∃ W1, w.alloc (.cells #[.slice aQ qn cQ, .slice aS wv.S.length cS, .slice aP wv.P.length cP, .slice aD wv.D.length cD] 28) = W1 := ⟨_, rfl⟩
 rw [hW1] at F1 ⊢
 clear hW1
 have c0_0 := F1.out.c 0 0 rfl rfl
 have c0_1 := F1.out.c 0 1 rfl rfl
 have c0_2 := F1.out.c 0 2 rfl rfl
 have c0_3 := F1.out.c 0 3 rfl rfl
 go_quiet (fail)
 have F2 := Lib.hid (F1.out.drewN nq)
 obtain ⟨W2, hW2⟩ : ∃ x, W1.drewN nq = x := ⟨_, rfl⟩
 rw [hW2] at F2 ⊢
 clear hW2 F1 d15 c0_0 c0_1 c0_2 c0_3 d19
 go_wp2
 go_ret2
 exact retSh_nil F2.out.bel
set_option maxRecDepth 100000 in
set_option maxHeartbeats 2000000 in
theorem rshape_str (a a2 aQ aS aP aD : Option Addr) (c c2 qn cQ cS cP cD : Nat) (xs ws Q : List Int) (wv : WinV) (w : World) (h : Ints .i64 w w.heap.size a xs) (h2 : Ints .i64 w w.heap.size a2 ws) (hS : Ints .i64 w w.heap.size aS wv.S) (hP : Ints .i64 w w.heap.size aP wv.P) (hD : Ints .i64 w w.heap.size aD wv.D) (hl2 : ws.length = xs.length) (hl3 : 3 ≤ xs.length) (hl4 : xs.length ≤ 4) (hl : xs.length ≠ 2 + wv.S.length) :
  Calls Tryz.prog 22 #[.slice a xs.length c, .slice a2 ws.length c2, .agg #[.slice aQ qn cQ, .slice aS wv.S.length cS, .slice aP wv.P.length cP, .slice aD wv.D.length cD]] w (RetSh w [] 2) := by
 have hm := h.len
 have hm2 := h2.len
 have hmS := hS.len
 have F1 := Lib.hid ((Fr.start (w := w) (I := [(.i64, a, xs), (.i64, a2, ws), (.i64, aS, wv.S), (.i64, aP, wv.P), (.i64, aD, wv.D)]) (by intro z hz; simp at hz; rcases hz with rfl | rfl | rfl | rfl | rfl; exact h; exact h2; exact hS; exact hP; exact hD)).box1 (b := w.heap.size) rfl [.slice aQ qn cQ, .slice aS wv.S.length cS, .slice aP wv.P.length cP, .slice aD wv.D.length cD] 28)
 simp only [List.nil_append, List.cons_append] at F1
 have d15 : ((xs.length : Int) != (ws.length : Int)) = false := by simp; omega
 have d19 : ¬ (xs.length : Int) < 3 := by omega
 have d24 : ¬ (4 : Int) < (xs.length : Int) := by omega
 have d32 : ∀ [Inhabited Unit], RowKit.wrap64 ((xs.length : Int) - 2) = (xs.length : Int) - 2 := by intro _; exact IntWalk.wrap64_in _ ⟨by omega, by omega⟩
 have d33 : ((wv.S.length : Int) != (xs.length : Int) - 2) = true := by simp; omega
 have HLW := Lib.hid hl2
 clear h h2 hS hP hD hl2 hl
 go_enter Tryz.func22, Tryz.ntmps22
 go_upto_region 1 with fail
 obtain ⟨W1, hW1⟩ : ∃ W1, w.alloc (.cells #[.slice aQ qn cQ, .slice aS wv.S.length cS, .slice aP wv.P.length cP, .slice aD wv.D.length cD] 28) = W1 := ⟨_, rfl⟩
 rw [hW1] at F1 ⊢
 clear hW1
 have c0_0 := F1.out.c 0 0 rfl rfl
 have c0_1 := F1.out.c 0 1 rfl rfl
 have c0_2 := F1.out.c 0 2 rfl rfl
 have c0_3 := F1.out.c 0 3 rfl rfl
 go_quiet (fail)
 have F2 := Lib.hid (F1.out.drewN nq)
 obtain ⟨W2, hW2⟩ : ∃ x, W1.drewN nq = x := ⟨_, rfl⟩
 rw [hW2] at F2 ⊢
 clear hW2 F1 d15 c0_0 c0_1 c0_2 c0_3 d19 d24 d32 d33
 go_wp2
 go_ret2
 exact retSh_nil F2.out.bel
set_option maxRecDepth 100000 in
set_option maxHeartbeats 2000000 in
theorem rshape_ch (a a2 aQ aS aP aD : Option Addr) (c c2 qn cQ cS cP cD : Nat) (xs ws Q : List Int) (wv : WinV) (w : World) (h : Ints .i64 w w.heap.size a xs) (h2 : Ints .i64 w w.heap.size a2 ws) (hS : Ints .i64 w w.heap.size aS wv.S) (hP : Ints .i64 w w.heap.size aP wv.P) (hD : Ints .i64 w w.heap.size aD wv.D) (hl2 : ws.length = xs.length) (hl : xs.length = 2 + wv.S.length) (hs1 : 1 ≤ wv.S.length) (hs2 : wv.S.length ≤ 2) (hch : xs[1]?.getD 0 ≠ ws[1]?.getD 0) :
  Calls Tryz.prog 22 #[.slice a xs.length c, .slice a2 ws.length c2, .agg #[.slice aQ qn cQ, .slice aS wv.S.length cS, .slice aP wv.P.length cP, .slice aD wv.D.length cD]] w (RetSh w [] 2) := by
 have hm := h.len
 have hm2 := h2.len
 have hmS := hS.len
 obtain ⟨b0, o0, rfl, _, _⟩ := h.cell 0 (by omega)
 obtain ⟨b1, o1, rfl, _, _⟩ := h2.cell 0 (by omega)
 have hch0 := hch
 obtain ⟨x1, hx1⟩ : ∃ z, xs[1]?.getD 0 = z := ⟨_, rfl⟩
 obtain ⟨y1, hy1⟩ : ∃ z, ws[1]?.getD 0 = z := ⟨_, rfl⟩
 rw [hx1, hy1] at hch
 have HX1 := Lib.hid hx1
 have HY1 := Lib.hid hy1
 clear hx1 hy1
 have F1 := Lib.hid ((Fr.start (w := w) (I := [(.i64, (some ⟨b0, o0, none⟩), xs), (.i64, (some ⟨b1, o1, none⟩), ws), (.i64, aS, wv.S), (.i64, aP, wv.P), (.i64, aD, wv.D)]) (by intro z hz; simp at hz; rcases hz with rfl | rfl | rfl | rfl | rfl; exact h; exact h2; exact hS; exact hP; exact hD)).box1 (b := w.heap.size) rfl [.slice aQ qn cQ, .slice aS wv.S.length cS, .slice aP wv.P.length cP, .slice aD wv.D.length cD] 28)
 simp only [List.nil_append, List.cons_append] at F1
 have d15 : ((xs.length : Int) != (ws.length : Int)) = false := by simp; omega
 have d19 : ¬ (xs.length : Int) < 3 := by omega
 have d24 : ¬ (4 : Int) < (xs.length : Int) := by omega
 have d32 : ∀ [Inhabited Unit], RowKit.wrap64 ((xs.length : Int) - 2) = (xs.length : Int) - 2 := by intro _; exact IntWalk.wrap64_in _ ⟨by omega, by omega⟩
 have d33 : ((wv.S.length : Int) != (xs.length : Int) - 2) = false := by simp; omega
 have d42 : (x1 != y1) = true := by simpa using hch
 have g1x : (1 : Int) < (xs.length : Int) := by omega
 have g1w : (1 : Int) < (ws.length : Int) := by omega
 have HLX := Lib.hid hl
 have HS12 := Lib.hid (And.intro hs1 hs2)
 have HLW := Lib.hid hl2
 clear h h2 hS hP hD hl2 hl hch hch0 hs1 hs2
 go_enter Tryz.func22, Tryz.ntmps22
 go_upto_region 1 with fail
 obtain ⟨W1, hW1⟩ : ∃ W1, w.alloc (.cells #[.slice aQ qn cQ, .slice aS wv.S.length cS, .slice aP wv.P.length cP, .slice aD wv.D.length cD] 28) = W1 := ⟨_, rfl⟩
 rw [hW1] at F1 ⊢
 clear hW1
 have c0_0 := F1.out.c 0 0 rfl rfl
 have c0_1 := F1.out.c 0 1 rfl rfl
 have c0_2 := F1.out.c 0 2 rfl rfl
 have c0_3 := F1.out.c 0 3 rfl rfl
 obtain ⟨b9, o9, he, _, hcx⟩ := (F1.out.l 0 rfl).cell 1 (by omega)
 cases he
 obtain ⟨b9, o9, he, _, hcw⟩ := (F1.out.l 1 rfl).cell 1 (by omega)
 cases he
 rw [HX1.out] at hcx
 rw [HY1.out] at hcw
 go_quiet (fail)
 have F2 := Lib.hid (F1.out.drewN nq)
 obtain ⟨W2, hW2⟩ : ∃ x, W1.drewN nq = x := ⟨_, rfl⟩
 rw [hW2] at F2 ⊢
 clear hW2 F1 d15 c0_0 c0_1 c0_2 c0_3 d19 d24 d32 d33 d42 hcx hcw
 go_wp2
 go_ret2
 exact retSh_nil F2.out.bel
set_option maxRecDepth 100000 in
set_option maxHeartbeats 2000000 in
theorem rshape_deep (a a2 aQ aS aP aD : Option Addr) (c c2 qn cQ cS cP cD : Nat) (xs ws Q : List Int) (wv : WinV) (w : World) (h : Ints .i64 w w.heap.size a xs) (h2 : Ints .i64 w w.heap.size a2 ws) (hS : Ints .i64 w w.heap.size aS wv.S) (hP : Ints .i64 w w.heap.size aP wv.P) (hD : Ints .i64 w w.heap.size aD wv.D) (hl2 : ws.length = xs.length) (hl : xs.length = 2 + wv.S.length) (hs1 : 1 ≤ wv.S.length) (hs2 : wv.S.length ≤ 2) (hch : xs[1]?.getD 0 = ws[1]?.getD 0) (hn : numB false Q wv.S wv.P wv.D = true) (hL : wv.L = xs.drop 2) (hK : wv.K = ws.drop 2) (hg : goodB xs = true) (hg2 : goodB ws = true) (hc3 : ws.length ≤ c2) (hc4 : c2 ≤ 9223372036854775807) :
  Calls Tryz.prog 22 #[.slice a xs.length c, .slice a2 ws.length c2, .agg #[.slice aQ qn cQ, .slice aS wv.S.length cS, .slice aP wv.P.length cP, .slice aD wv.D.length cD]] w (RetSh w (zL (coutZ xs ws wv) (coS xs ws wv)) (coutZ xs ws wv)) := by
 have hm := h.len
 have hm2 := h2.len
 have hmS := hS.len
 obtain ⟨hR, hr⟩ := conv_R hL hK hg hg2 hn hl hl2
 have hr1 := hr
 have hr2 := hR.r
 have hlen2 : xs.length = 2 + wv.L.length := by rw [hL, List.length_drop]; omega
 have hlen3 : ws.length - 2 = wv.K.length := by rw [hK, List.length_drop]
 obtain ⟨b0, o0, rfl, _, _⟩ := h.cell 0 (by omega)
 obtain ⟨b1, o1, rfl, _, _⟩ := h2.cell 0 (by omega)
 have hch0 := hch
 obtain ⟨x1, hx1⟩ : ∃ z, xs[1]?.getD 0 = z := ⟨_, rfl⟩
 obtain ⟨y1, hy1⟩ : ∃ z, ws[1]?.getD 0 = z := ⟨_, rfl⟩
 rw [hx1, hy1] at hch
 have HX1 := Lib.hid hx1
 have HY1 := Lib.hid hy1
 clear hx1 hy1
 have hiK := ints_drop h2 2
 rw [← hK] at hiK
 have hsp := fun W h0 h1 h2 h3 h4 => spatialQ_any xs (some ⟨b0, o0, none⟩) (some ⟨b1, o1 + 2, none⟩) aQ aS aP aD c (c2 - 2) qn cQ cS cP cD wv W h0 h1 h2 h3 h4 hL hR hlen2
 obtain ⟨SO, hSO⟩ : ∃ l, spO wv = l := ⟨_, rfl⟩
 rw [hSO] at hsp
 obtain ⟨OKB, hok⟩ : ∃ t, wv.okB = t := ⟨_, rfl⟩
 rw [hok] at hsp
 obtain ⟨GB, hgs⟩ : ∃ t, goodB (coS xs ws wv) = t := ⟨_, rfl⟩
 have HSP := Lib.hid hsp
 clear hsp
 have hzz : coutZ xs ws wv = if wv.okB = true then (if goodB (coS xs ws wv) = true then 0 else 5) else 2 := by unfold coutZ; rw [if_pos ⟨hl, hl2, hch0⟩]
 rw [hok] at hzz
 obtain ⟨Z, hZ⟩ : ∃ z, coutZ xs ws wv = z := ⟨_, rfl⟩
 rw [hZ] at hzz ⊢
 have hz1 : OKB = false → Z = 2 := fun h9 => by rw [hzz, h9]; rfl
 have hz2 : OKB = true → goodB (coS xs ws wv) = false → Z = 5 := fun h9 h8 => by rw [hzz, h9, h8]; rfl
 have hz3 : OKB = true → goodB (coS xs ws wv) = true → Z = 0 := fun h9 h8 => by rw [hzz, h9, h8]; rfl
 clear hzz hZ
 have hso : OKB = true → SO = wv.O := fun h9 => by rw [← hSO]; unfold spO; rw [hok, if_pos h9]
 clear hSO
 have hwO : OKB = true → ∀ x ∈ SO, (Lit.int .i64 x).wf = true := fun h9 x hx => by
  rw [hso h9] at hx
  obtain ⟨i, hi, rfl⟩ := List.mem_map.1 hx
  have hi2 := List.mem_range.1 hi
  have := hR.out_pos hi2 (WinV.ok_room (hok.trans h9) hi2)
  exact wf_i64_iff.2 ⟨by omega, by omega⟩
 have HWO0 := Lib.hid hwO
 have hOl : OKB = true → SO.length = wv.L.length := fun h9 => by rw [hso h9, wv.O_len]
 have HOL0 := Lib.hid hOl
 obtain ⟨S, hSe⟩ : ∃ s, coS xs ws wv = s := ⟨_, rfl⟩
 have hSd : OKB = true → S = [xs[0]?.getD 0, ws[0]?.getD 0] ++ SO := fun h9 => by rw [← hSe, hso h9]; rfl
 rw [hSe] at hgs hz2 hz3 ⊢
 have hSwf : OKB = true → ∀ x ∈ S, (Lit.int .i64 x).wf = true := fun h9 x hx => by
  rw [hSd h9] at hx
  rcases List.mem_append.1 hx with hx | hx
  ·have h0 := goodB_dims hg _ (getD_mem (show 0 < xs.length by omega))
   have h1 := goodB_dims hg2 _ (getD_mem (show 0 < ws.length by omega))
   simp at hx
   rcases hx with rfl | rfl <;> exact wf_i64_iff.2 ⟨by omega, by omega⟩
  ·exact hwO h9 x hx
 have HSWF0 := Lib.hid hSwf
 have HSD0 := Lib.hid hSd
 have HSL0 := Lib.hid (show OKB = true → 2 + SO.length = S.length from fun h9 => by rw [hSd h9]; simp; omega)
 have hma := fun a9 c9 W (h9 : Ints .i64 W W.heap.size a9 S) => rmay_any a9 c9 W.heap.size S W h9
 rw [hgs] at hma
 rw [hgs] at hz2 hz3
 have HMA := Lib.hid hma
 have HZ1 := Lib.hid hz1
 have HZ2 := Lib.hid hz2
 have HZ3 := Lib.hid hz3
 clear hSe hgs hSd hSwf hma hso hwO hOl hz1 hz2 hz3
 have F1 := Lib.hid ((Fr.start (w := w) (I := [(.i64, (some ⟨b0, o0, none⟩), xs), (.i64, (some ⟨b1, o1, none⟩), ws), (.i64, aS, wv.S), (.i64, aP, wv.P), (.i64, aD, wv.D), (.i64, (some ⟨b1, o1 + 2, none⟩), wv.K)]) (by intro z hz; simp at hz; rcases hz with rfl | rfl | rfl | rfl | rfl | rfl; exact h; exact h2; exact hS; exact hP; exact hD; exact hiK)).box1 (b := w.heap.size) rfl [.slice aQ qn cQ, .slice aS wv.S.length cS, .slice aP wv.P.length cP, .slice aD wv.D.length cD] 28)
 simp only [List.nil_append, List.cons_append] at F1
 have d15 : ((xs.length : Int) != (ws.length : Int)) = false := by simp; omega
 have d19 : ¬ (xs.length : Int) < 3 := by omega
 have d24 : ¬ (4 : Int) < (xs.length : Int) := by omega
 have d32 : ∀ [Inhabited Unit], RowKit.wrap64 ((xs.length : Int) - 2) = (xs.length : Int) - 2 := by intro _; exact IntWalk.wrap64_in _ ⟨by omega, by omega⟩
 have d33 : ((wv.S.length : Int) != (xs.length : Int) - 2) = false := by simp; omega
 have d42 : (x1 != y1) = false := by rw [hch]; simp
 have g1x : (1 : Int) < (xs.length : Int) := by omega
 have g1w : (1 : Int) < (ws.length : Int) := by omega
 have HLX := Lib.hid hl
 have HS12 := Lib.hid (And.intro hs1 hs2)
 have HLW := Lib.hid hl2
 clear h h2 hS hP hD hl2 hl hch hch0 hs1 hs2 hR hok hg hg2 hiK hL hK hr hn
 have HRL := Lib.hid (And.intro hr1 hr2)
 have HGW := Lib.hid (show (2 : Int) ≤ (ws.length : Int) ∧ (ws.length : Int) ≤ (c2 : Int) ∧ ¬ c2 = 2 by have := HLX.out; have := HLW.out; have := HS12.out; omega)
 have HE3 := Lib.hid hlen3
 clear hlen3 hr1 hc3 hc4 hlen2 hr2
 go_enter Tryz.func22, Tryz.ntmps22
 go_upto_region 1 with fail
 obtain ⟨W1, hW1⟩ : ∃ W1, w.alloc (.cells #[.slice aQ qn cQ, .slice aS wv.S.length cS, .slice aP wv.P.length cP, .slice aD wv.D.length cD] 28) = W1 := ⟨_, rfl⟩
 rw [hW1] at F1 ⊢
 clear hW1
 have c0_0 := F1.out.c 0 0 rfl rfl
 have c0_1 := F1.out.c 0 1 rfl rfl
 have c0_2 := F1.out.c 0 2 rfl rfl
 have c0_3 := F1.out.c 0 3 rfl rfl
 obtain ⟨b9, o9, he, _, hcx⟩ := (F1.out.l 0 rfl).cell 1 (by omega)
 cases he
 obtain ⟨b9, o9, he, _, hcw⟩ := (F1.out.l 1 rfl).cell 1 (by omega)
 cases he
 rw [HX1.out] at hcx
 rw [HY1.out] at hcw
 go_quiet (fail)
 have F2 := Lib.hid (F1.out.drewN nq)
 obtain ⟨W2, hW2⟩ : ∃ x, W1.drewN nq = x := ⟨_, rfl⟩
 rw [hW2] at F2 ⊢
 clear hW2 F1 d15 c0_0 c0_1 c0_2 c0_3 d19 d24 d32 d33 d42 hcx hcw
 go_upto_region 3 with fail
 refine wp_region_parts2 (w := W2) 10 0 none [] [(fun u _ => u = .slice (some ⟨b0, o0, none⟩) xs.length c), (fun u _ => u = .slice (some ⟨b1, o1, none⟩) ws.length c2), (fun u _ => u = .slice (some ⟨b1, o1 + 2, none⟩) wv.K.length (c2 - 2)), (fun u _ => u = .agg #[.slice aQ qn cQ, .slice aS wv.S.length cS, .slice aP wv.P.length cP, .slice aD wv.D.length cD]), ((HasRow W2.heap.size SO.length (SO.map (Value.int .i64)) (fun aO cO => .tuple #[.slice aO SO.length cO, .bool OKB]))), ((HasRow W2.heap.size SO.length (SO.map (Value.int .i64)) (fun aO cO => .tuple #[.slice aO SO.length cO, .bool OKB]))), ((HasRow W2.heap.size SO.length (SO.map (Value.int .i64)) (fun aO cO => .slice aO SO.length cO))), (fun u _ => u = .bool OKB), ((HasRow W2.heap.size SO.length (SO.map (Value.int .i64)) (fun aO cO => .slice aO SO.length cO))), (fun u _ => u = .bool OKB)] [some 45, some 46, some 47, some 48, some 49, some 44, some 50, some 51, some 8, some 9] #[true, true, true, true, true, true, true, true, true, true] #[true, true, true, true, true, true, true, true, true, true] (by kernel_rfl) rfl (by kernel_rfl) (by kernel_rfl) rfl (by kernel_rfl) (by kernel_rfl) (.cons (carries_eq _) (.cons (carries_eq _) (.cons (carries_eq _) (.cons (carries_eq _) (.cons (hasRow_carries _ _ _ _) (.cons (hasRow_carries _ _ _ _) (.cons (hasRow_carries _ _ _ _) (.cons (carries_eq _) (.cons (hasRow_carries _ _ _ _) (.cons (carries_eq _) .nil)))))))))) (fun vs b hvl hvb => ?_)
 obtain ⟨x0, x1, x2, x3, x4, x5, x6, x7, x8, x9, rfl⟩ : ∃ x0 x1 x2 x3 x4 x5 x6 x7 x8 x9, vs = [x0, x1, x2, x3, x4, x5, x6, x7, x8, x9] := lw10 hvl
 clear hvl
 simp only [putAll, Act.put, List.setIfInBounds_toArray, List.set_cons_zero, List.set_cons_succ] at hvb
 subst hvb
 refine ⟨(.snoc (.snoc (.snoc (.snoc (.snoc (.snoc (.snoc (.snoc (.snoc (.snoc .zero (PartOb.intro (d := (some 45)) (r := fun u _ => u = .slice (some ⟨b0, o0, none⟩) xs.length c) rfl rfl rfl rfl ?po3x0)) (PartOb.intro (d := (some 46)) (r := fun u _ => u = .slice (some ⟨b1, o1, none⟩) ws.length c2) rfl rfl rfl rfl ?po3x1)) (PartOb.intro (d := (some 47)) (r := fun u _ => u = .slice (some ⟨b1, o1 + 2, none⟩) wv.K.length (c2 - 2)) rfl rfl rfl rfl ?po3x2)) (PartOb.intro (d := (some 48)) (r := fun u _ => u = .agg #[.slice aQ qn cQ, .slice aS wv.S.length cS, .slice aP wv.P.length cP, .slice aD wv.D.length cD]) rfl rfl rfl rfl ?po3x3)) (PartOb.intro (d := (some 49)) (r := (HasRow W2.heap.size SO.length (SO.map (Value.int .i64)) (fun aO cO => .tuple #[.slice aO SO.length cO, .bool OKB]))) rfl rfl rfl rfl ?po3x4)) (PartOb.intro (d := (some 44)) (r := (HasRow W2.heap.size SO.length (SO.map (Value.int .i64)) (fun aO cO => .tuple #[.slice aO SO.length cO, .bool OKB]))) rfl rfl rfl rfl ?po3x5)) (PartOb.intro (d := (some 50)) (r := (HasRow W2.heap.size SO.length (SO.map (Value.int .i64)) (fun aO cO => .slice aO SO.length cO))) rfl rfl rfl rfl ?po3x6)) (PartOb.intro (d := (some 51)) (r := fun u _ => u = .bool OKB) rfl rfl rfl rfl ?po3x7)) (PartOb.intro (d := (some 8)) (r := (HasRow W2.heap.size SO.length (SO.map (Value.int .i64)) (fun aO cO => .slice aO SO.length cO))) rfl rfl rfl rfl ?po3x8)) (PartOb.intro (d := (some 9)) (r := fun u _ => u = .bool OKB) rfl rfl rfl rfl ?po3x9)), ?pend3, ?pfl3⟩
 case po3x0 | po3x1 =>
  intro w1 hb1 hd KK hK
  go_simp
  exact hK.out _ _ (Below.refl _ _) rfl
 case po3x2 =>
  intro w1 hb1 hd KK hK
  obtain rfl := hd 1 (by kernel_rfl)
  have hxx := HE3.out
  obtain ⟨g1, g2, g3⟩ := HGW.out
  go_simp
  exact hK.out _ _ (Below.refl _ _) rfl
 case po3x3 =>
  intro w1 hb1 hd KK hK
  have hF := F2.out.next hb1
  have k0 := hF.c 0 0 rfl rfl
  have k1 := hF.c 0 1 rfl rfl
  have k2 := hF.c 0 2 rfl rfl
  have k3 := hF.c 0 3 rfl rfl
  go_simp
  exact hK.out _ _ (Below.refl _ _) rfl
 case po3x4 =>
  intro w1 hb1 hd KK hK
  obtain rfl := hd 0 (by kernel_rfl)
  obtain rfl := hd 2 (by kernel_rfl)
  obtain rfl := hd 3 (by kernel_rfl)
  go_simp
  have hF := F2.out.next hb1
  go_at_call 50
  refine (HSP.out w1 (hF.lw 0 rfl) (hF.lw 5 rfl) (hF.lw 2 rfl) (hF.lw 3 rfl) (hF.lw 4 rfl)).mono ?_
  rintro e w6 ⟨aO, cO, rfl, hf⟩
  (try go_wp2_with fail)
  exact hK.out _ _ hf.bel ⟨aO, cO, rfl, own_mono (hf.r 0 rfl) hb1.size⟩
 case po3x5 =>
  intro w1 hb1 hd KK hK
  obtain ⟨a4_, c4_, rfl, hO4⟩ := hd 4 (by kernel_rfl)
  go_simp
  exact hK.out _ _ (Below.refl _ _) ⟨_, _, rfl, hO4⟩
 case po3x6 =>
  intro w1 hb1 hd KK hK
  obtain ⟨a5_, c5_, rfl, hO5⟩ := hd 5 (by kernel_rfl)
  go_simp
  exact hK.out _ _ (Below.refl _ _) ⟨_, _, rfl, hO5⟩
 case po3x7 =>
  intro w1 hb1 hd KK hK
  obtain ⟨a5_, c5_, rfl, hO5⟩ := hd 5 (by kernel_rfl)
  go_simp
  exact hK.out _ _ (Below.refl _ _) rfl
 case po3x8 =>
  intro w1 hb1 hd KK hK
  obtain rfl := hd 0 (by kernel_rfl)
  obtain rfl := hd 1 (by kernel_rfl)
  obtain rfl := hd 2 (by kernel_rfl)
  obtain rfl := hd 3 (by kernel_rfl)
  obtain ⟨a4_, c4_, rfl, hO4⟩ := hd 4 (by kernel_rfl)
  obtain ⟨a5_, c5_, rfl, hO5⟩ := hd 5 (by kernel_rfl)
  obtain ⟨a6_, c6_, rfl, hO6⟩ := hd 6 (by kernel_rfl)
  go_simp
  exact hK.out _ _ (Below.refl _ _) ⟨_, _, rfl, hO6⟩
 case po3x9 =>
  intro w1 hb1 hd KK hK
  obtain rfl := hd 0 (by kernel_rfl)
  obtain rfl := hd 1 (by kernel_rfl)
  obtain rfl := hd 2 (by kernel_rfl)
  obtain rfl := hd 3 (by kernel_rfl)
  obtain ⟨a4_, c4_, rfl, hO4⟩ := hd 4 (by kernel_rfl)
  obtain ⟨a5_, c5_, rfl, hO5⟩ := hd 5 (by kernel_rfl)
  obtain ⟨a6_, c6_, rfl, hO6⟩ := hd 6 (by kernel_rfl)
  obtain rfl := hd 7 (by kernel_rfl)
  obtain ⟨a8_, c8_, rfl, hO8⟩ := hd 8 (by kernel_rfl)
  go_simp
  exact hK.out _ _ (Below.refl _ _) rfl
 case pfl3 => (intro f hf; cases hf)
 case pend3 =>
 intro w1 hb1 hR hD
 obtain rfl := hR 0 (by decide)
 obtain rfl := hR 1 (by decide)
 obtain rfl := hR 2 (by decide)
 obtain rfl := hR 3 (by decide)
 obtain ⟨a4_, c4_, rfl, hO4⟩ := hR 4 (by decide)
 obtain ⟨a5_, c5_, rfl, hO5⟩ := hR 5 (by decide)
 obtain ⟨a6_, c6_, rfl, hO6⟩ := hR 6 (by decide)
 obtain rfl := hR 7 (by decide)
 obtain ⟨a8_, c8_, rfl, hO8⟩ := hR 8 (by decide)
 obtain rfl := hR 9 (by decide)
 clear hR hD
 refine wpAny_done (by kernel_rfl) ?_ _
 have F3 := Lib.hid (F2.out.addO hb1 hO8)
 simp only [List.nil_append, List.cons_append] at F3
 clear hb1 hO4 hO5 hO6 hO8 F2
 obtain ⟨W3, rfl⟩ : ∃ x : World, x = w1 := ⟨_, rfl⟩
 cases OKB with
 | false =>
  have hz := HZ1.out rfl
  subst hz
  go_wp2
  go_ret2
  rw [zL_ne _ (by decide)]
  exact retSh_nil F3.out.bel
 | true =>
  have HWO := Lib.hid (HWO0.out rfl)
  have HOL := Lib.hid (HOL0.out rfl)
  have HSD := Lib.hid (HSD0.out rfl)
  have HSWF := Lib.hid (HSWF0.out rfl)
  have HSL := Lib.hid (HSL0.out rfl)
  clear HWO0 HOL0 HSD0 HSWF0 HSL0 HZ1
  go_upto_region 6 with fail
  have hl := HLX.out
  have hl2 := HLW.out
  have hk0 : 0 < xs.length := by omega
  have hk1 : 0 < ws.length := by omega
  have hk0i : (0 : Int) < (xs.length : Int) := by omega
  have hk1i : (0 : Int) < (ws.length : Int) := by omega
  clear hl hl2
  obtain ⟨nA, hnA⟩ : ∃ z, xs[0]?.getD 0 = z := ⟨_, rfl⟩
  obtain ⟨nB, hnB⟩ : ∃ z, ws[0]?.getD 0 = z := ⟨_, rfl⟩
  have hsd := HSD.out
  rw [hnA, hnB] at hsd
  have HD0 := Lib.hid hnA
  have HD1 := Lib.hid hnB
  have HSD2 := Lib.hid hsd
  clear hsd hnA hnB HSD
  obtain ⟨aO', cO', he, hsh⟩ := own_shape (F3.out.r 0 rfl)
  simp only [Value.slice.injEq] at he
  obtain ⟨rfl, _, rfl⟩ := he
  obtain ⟨gO, rfl, _⟩ := hsh.resolve_left (show ¬ SO.length = 0 from by have := HOL.out; have := HRL.out; omega)
  refine wp_region_parts2 (w := W3) 8 2 none [] [(fun u _ => u = .slice (some ⟨b0, o0, none⟩) xs.length c), (fun u _ => u = .pointer (some ⟨b0, o0, none⟩)), (fun u _ => u = .int .i64 nA), (fun u _ => u = .slice (some ⟨b1, o1, none⟩) ws.length c2), (fun u _ => u = .pointer (some ⟨b1, o1, none⟩)), (fun u _ => u = .int .i64 nB), ((IsRow W3.heap.size 3 2 ([nA, nB].map (Value.int .i64)))), (fun u _ => u = .slice (some ⟨gO, 0, none⟩) SO.length c8_)] [some 54, some 55, some 56, some 57, some 58, some 59, some 60, some 61, some 62, some 10] #[true, true, true, true, true, true, true, true, false, false] #[true, true, true, true, true, true, true, true, false, false] (by kernel_rfl) rfl (by kernel_rfl) (by kernel_rfl) rfl (by kernel_rfl) (by kernel_rfl) (.cons (carries_eq _) (.cons (carries_eq _) (.cons (carries_eq _) (.cons (carries_eq _) (.cons (carries_eq _) (.cons (carries_eq _) (.cons (isRow_carries _ _ _ _) (.cons (carries_eq _) .nil)))))))) (fun vs b hvl hvb => ?_)
  obtain ⟨x0, x1, x2, x3, x4, x5, x6, x7, x8, x9, rfl⟩ : ∃ x0 x1 x2 x3 x4 x5 x6 x7 x8 x9, vs = [x0, x1, x2, x3, x4, x5, x6, x7, x8, x9] := lw10 hvl
  clear hvl
  simp only [putAll, Act.put, List.setIfInBounds_toArray, List.set_cons_zero, List.set_cons_succ] at hvb
  subst hvb
  refine ⟨(.snoc (.snoc (.snoc (.snoc (.snoc (.snoc (.snoc (.snoc .zero (PartOb.intro (d := (some 54)) (r := fun u _ => u = .slice (some ⟨b0, o0, none⟩) xs.length c) rfl rfl rfl rfl ?po6x0)) (PartOb.intro (d := (some 55)) (r := fun u _ => u = .pointer (some ⟨b0, o0, none⟩)) rfl rfl rfl rfl ?po6x1)) (PartOb.intro (d := (some 56)) (r := fun u _ => u = .int .i64 nA) rfl rfl rfl rfl ?po6x2)) (PartOb.intro (d := (some 57)) (r := fun u _ => u = .slice (some ⟨b1, o1, none⟩) ws.length c2) rfl rfl rfl rfl ?po6x3)) (PartOb.intro (d := (some 58)) (r := fun u _ => u = .pointer (some ⟨b1, o1, none⟩)) rfl rfl rfl rfl ?po6x4)) (PartOb.intro (d := (some 59)) (r := fun u _ => u = .int .i64 nB) rfl rfl rfl rfl ?po6x5)) (PartOb.intro (d := (some 60)) (r := (IsRow W3.heap.size 3 2 ([nA, nB].map (Value.int .i64)))) rfl rfl rfl rfl ?po6x6)) (PartOb.intro (d := (some 61)) (r := fun u _ => u = .slice (some ⟨gO, 0, none⟩) SO.length c8_) rfl rfl rfl rfl ?po6x7)), ?pend6, ?pfl6⟩
  case po6x0 | po6x3 | po6x7 =>
   intro w1 hb1 hd KK hK
   go_simp
   exact hK.out _ _ (Below.refl _ _) rfl
  case po6x1 =>
   intro w1 hb1 hd KK hK
   obtain rfl := hd 0 (by kernel_rfl)
   go_simp
   exact hK.out _ _ (Below.refl _ _) rfl
  case po6x2 =>
   intro w1 hb1 hd KK hK
   obtain rfl := hd 1 (by kernel_rfl)
   have hF := F3.out.next hb1
   obtain ⟨b9, o9, he, _, hcx⟩ := (hF.l 0 rfl).cell 0 hk0
   cases he
   rw [Nat.add_zero, HD0.out] at hcx
   go_simp
   exact hK.out _ _ (Below.refl _ _) rfl
  case po6x4 =>
   intro w1 hb1 hd KK hK
   obtain rfl := hd 3 (by kernel_rfl)
   go_simp
   exact hK.out _ _ (Below.refl _ _) rfl
  case po6x5 =>
   intro w1 hb1 hd KK hK
   obtain rfl := hd 4 (by kernel_rfl)
   have hF := F3.out.next hb1
   obtain ⟨b9, o9, he, _, hcx⟩ := (hF.l 1 rfl).cell 0 hk1
   cases he
   rw [Nat.add_zero, HD1.out] at hcx
   go_simp
   exact hK.out _ _ (Below.refl _ _) rfl
  case po6x6 =>
   intro w1 hb1 hd KK hK
   obtain rfl := hd 2 (by kernel_rfl)
   obtain rfl := hd 5 (by kernel_rfl)
   go_simp
   exact hK.out _ _ ((Below.refl _ _).alloc (Nat.le_refl _) _) ⟨_, _, rfl, World.ownsRow_lit (base := W3.heap.size) (size := 1) (e := 3) w1 #[.int .i64 nA, .int .i64 nB] 2 hb1.size (by decide) rfl⟩
  case pfl6 => (intro f hf; cases hf)
  case pend6 =>
  intro w1 hb1 hR hD
  obtain rfl := hR 0 (by decide)
  obtain rfl := hR 1 (by decide)
  obtain rfl := hR 2 (by decide)
  obtain rfl := hR 3 (by decide)
  obtain rfl := hR 4 (by decide)
  obtain rfl := hR 5 (by decide)
  obtain ⟨a6_, c6_, rfl, hO6⟩ := hR 6 (by decide)
  obtain rfl := hR 7 (by decide)
  clear hR hD
  refine wpAny_ready (rs := [8]) (by kernel_rfl) (by simp) (AllReady.cons rfl (fun KK hK => ?_) AllReady.nil)
  have hF := F3.out.next hb1
  refine stepAppN 23 3 infoInt Tryz.underlying23 W3.heap.size (.slice a6_ 2 c6_) 2 [nA, nB] SO SO.length c8_ ⟨gO, 0, none⟩ _ _ rfl rfl rfl hO6 rfl rfl (by have := HOL.out; have := HRL.out; omega) (fun j hj => ?_) (by omega) (by have := HRL.out; have := HOL.out; omega) hb1.size ?_
  ·have hc := (hF.li 0 (k := .i64) (xs := SO) rfl HWO.out).cell j hj
   obtain ⟨b9, o9, he, _, hcx⟩ := hc
   cases he
   rw [List.getElem?_eq_getElem hj] at hcx
   have ha : (⟨gO, 0, none⟩ : Addr).add j = ⟨gO, 0 + j, none⟩ := by cases j with
    | zero => rfl
    | succ j => simp [Addr.add]
   rw [ha]
   exact hcx
  intro g9 c9 w9 hown hgr hob
  rw [← HSD2.out, HSL.out] at hown
  rw [HSL.out]
  have hb9 := hb1.grown hgr hb1.size (fun g hg => (hO6.lt g hg).1)
  refine hK _ _ ?_
  clear hK KK
  refine wpAny_ready (rs := [9]) (by kernel_rfl) (by simp) (AllReady.cons rfl (fun KK hK => ?_) AllReady.nil)
  have F9 := Lib.hid (F3.out.addO hb9 hown)
  simp only [List.cons_append, List.nil_append] at F9
  go_simp
  refine hK _ _ ?_
  clear hK KK
  refine wpAny_done (by kernel_rfl) ?_ _
  clear hb9 hown hgr hob hO6 hb1 F3
  obtain ⟨V9, rfl⟩ : ∃ x : World, x = w9 := ⟨_, rfl⟩
  cases GB with
  | false =>
   have hz := HZ2.out rfl rfl
   subst hz
   go_wp2_with (first | (go_at_call 18; refine (HMA.out _ _ _ (F9.out.li 1 (k := .i64) (xs := S) rfl HSWF.out)).mono ?_; rintro e w' ⟨rfl, rfl⟩) | fail)
   go_ret2
   rw [zL_ne _ (by decide)]
   exact retSh_nil F9.out.bel
  | true =>
   have hz := HZ3.out rfl rfl
   subst hz
   go_wp2_with (first | (go_at_call 18; refine (HMA.out _ _ _ (F9.out.li 1 (k := .i64) (xs := S) rfl HSWF.out)).mono ?_; rintro e w' ⟨rfl, rfl⟩) | fail)
   go_ret2
   rw [zL_0]
   exact ⟨_, _, rfl, F9.out.less (List.nil_sublist _) (List.nil_sublist _) (List.sublist_cons_self _ _) (.refl _)⟩
theorem rshape_all (a a2 aQ aS aP aD : Option Addr) (c c2 qn cQ cS cP cD : Nat) (xs ws Q : List Int) (wv : WinV) (w : World) (h : Ints .i64 w w.heap.size a xs) (h2 : Ints .i64 w w.heap.size a2 ws) (hS : Ints .i64 w w.heap.size aS wv.S) (hP : Ints .i64 w w.heap.size aP wv.P) (hD : Ints .i64 w w.heap.size aD wv.D) (hn : numB false Q wv.S wv.P wv.D = true) (hL : wv.L = xs.drop 2) (hK : wv.K = ws.drop 2) (hg : goodB xs = true) (hg2 : goodB ws = true) (hc3 : ws.length ≤ c2) (hc4 : c2 ≤ 9223372036854775807) :
  Calls Tryz.prog 22 #[.slice a xs.length c, .slice a2 ws.length c2, .agg #[.slice aQ qn cQ, .slice aS wv.S.length cS, .slice aP wv.P.length cP, .slice aD wv.D.length cD]] w (RetSh w (zL (coutZ xs ws wv) (coS xs ws wv)) (coutZ xs ws wv)) := by
 have hs1 : 1 ≤ wv.S.length := (num_iff.1 hn).1.1
 have hs2 : wv.S.length ≤ 2 := (num_iff.1 hn).1.2.1
 have h4 := (goodB_iff.1 hg).1
 have hbad : ¬ (xs.length = 2 + wv.S.length ∧ ws.length = xs.length ∧ xs[1]?.getD 0 = ws[1]?.getD 0) → coutZ xs ws wv = 2 := fun hh => by unfold coutZ; rw [if_neg hh]
 by_cases e1 : ws.length = xs.length
 ·by_cases e2 : xs.length = 2 + wv.S.length
  ·by_cases e3 : xs[1]?.getD 0 = ws[1]?.getD 0
   ·exact rshape_deep a a2 aQ aS aP aD c c2 qn cQ cS cP cD xs ws Q wv w h h2 hS hP hD e1 e2 hs1 hs2 e3 hn hL hK hg hg2 hc3 hc4
   ·rw [hbad (fun hh => e3 hh.2.2), zL_ne _ (by decide)]
    exact rshape_ch a a2 aQ aS aP aD c c2 qn cQ cS cP cD xs ws Q wv w h h2 hS hP hD e1 e2 hs1 hs2 e3
  ·rw [hbad (fun hh => e2 hh.1), zL_ne _ (by decide)]
   by_cases e5 : xs.length < 3
   ·exact rshape_short a a2 aQ aS aP aD c c2 qn cQ cS cP cD xs ws Q wv w h h2 hS hP hD e1 e5
   ·exact rshape_str a a2 aQ aS aP aD c c2 qn cQ cS cP cD xs ws Q wv w h h2 hS hP hD e1 (by omega) h4 e2
 ·rw [hbad (fun hh => e1 hh.2.1), zL_ne _ (by decide)]
  exact rshape_len a a2 aQ aS aP aD c c2 qn cQ cS cP cD xs ws Q wv w h h2 hS hP hD e1
end Go.Proofs.YtadlnmckcnfacaaGreat
