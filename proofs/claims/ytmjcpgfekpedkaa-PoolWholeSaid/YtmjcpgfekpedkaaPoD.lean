/- Walks: (conv.Window).Full. -/
import Derived.Test.YtmjcpgfekpedkaaPoC
set_option linter.unusedVariables false
set_option linter.unusedSimpArgs false
namespace Go.Proofs.Ytmjcpgfekpedkaa
open Go.RowKit Go.Rt
attribute [local go_sem] Oper.semAt_some
theorem lw25 {α : Type} {l0 : List α} (h0 : l0.length = 25) : ∃ x0 x1 x2 x3 x4 x5 x6 x7 x8 x9 x10 x11 x12 x13 x14 x15 x16 x17 x18 x19 x20 x21 x22 x23 x24, l0 = [x0, x1, x2, x3, x4, x5, x6, x7, x8, x9, x10, x11, x12, x13, x14, x15, x16, x17, x18, x19, x20, x21, x22, x23, x24] := by
  obtain ⟨x0, l1, rfl, h1⟩ := lwC h0
  obtain ⟨x1, l2, rfl, h2⟩ := lwC h1
  obtain ⟨x2, l3, rfl, h3⟩ := lwC h2
  obtain ⟨x3, l4, rfl, h4⟩ := lwC h3
  obtain ⟨x4, l5, rfl, h5⟩ := lwC h4
  obtain ⟨x5, l6, rfl, h6⟩ := lwC h5
  obtain ⟨x6, l7, rfl, h7⟩ := lwC h6
  obtain ⟨x7, l8, rfl, h8⟩ := lwC h7
  obtain ⟨x8, l9, rfl, h9⟩ := lwC h8
  obtain ⟨x9, l10, rfl, h10⟩ := lwC h9
  obtain ⟨x10, l11, rfl, h11⟩ := lwC h10
  obtain ⟨x11, l12, rfl, h12⟩ := lwC h11
  obtain ⟨x12, l13, rfl, h13⟩ := lwC h12
  obtain ⟨x13, l14, rfl, h14⟩ := lwC h13
  obtain ⟨x14, l15, rfl, h15⟩ := lwC h14
  obtain ⟨x15, l16, rfl, h16⟩ := lwC h15
  obtain ⟨x16, l17, rfl, h17⟩ := lwC h16
  obtain ⟨x17, l18, rfl, h18⟩ := lwC h17
  obtain ⟨x18, l19, rfl, h19⟩ := lwC h18
  obtain ⟨x19, l20, rfl, h20⟩ := lwC h19
  obtain ⟨x20, l21, rfl, h21⟩ := lwC h20
  obtain ⟨x21, l22, rfl, h22⟩ := lwC h21
  obtain ⟨x22, l23, rfl, h23⟩ := lwC h22
  obtain ⟨x23, l24, rfl, h24⟩ := lwC h23
  obtain ⟨x24, l25, rfl, h25⟩ := lwC h24
  obtain rfl := List.length_eq_zero_iff.1 h25
  exact ⟨x0, x1, x2, x3, x4, x5, x6, x7, x8, x9, x10, x11, x12, x13, x14, x15, x16, x17, x18, x19, x20, x21, x22, x23, x24, rfl⟩

/-- Does tap t of place p stand within, along dimension i? -/
def inT (wv : WinV) (i p t : Nat) : Bool := decide (0 ≤ (p : Int) * (wv.S[i]?.getD 0) + (t : Int) * (wv.D[i]?.getD 0) - wv.P[i]?.getD 0) && decide ((p : Int) * (wv.S[i]?.getD 0) + (t : Int) * (wv.D[i]?.getD 0) - wv.P[i]?.getD 0 < wv.L[i]?.getD 0)
def anyP (wv : WinV) (i p : Nat) : Bool := (List.range (wv.K[i]?.getD 0).toNat).any (inT wv i p)
theorem full_iff {wv : WinV} : wv.fullB = true ↔ ∀ i, i < wv.L.length → ∀ p, p < (wv.out i).toNat → anyP wv i p = true := by
  unfold WinV.fullB
  rw [List.all_eq_true]
  constructor
  · intro h i hi p hp
    exact List.all_eq_true.1 (h i (List.mem_range.2 hi)) p (List.mem_range.2 hp)
  · intro h i hi
    exact List.all_eq_true.2 fun p hp => h i (List.mem_range.1 hi) p (List.mem_range.1 hp)
theorem any_succ (f : Nat → Bool) (t : Nat) : (List.range (t + 1)).any f = ((List.range t).any f || f t) := by
  rw [List.range_succ, List.any_append]
  simp
set_option maxRecDepth 100000 in
set_option maxHeartbeats 2000000 in
theorem full_any (aL aK aO aQ aS aP aD : Option Addr) (cL cK cO cQ cS cP cD : Nat) (Q : List Int) (wv : WinV) (w : World) (hW : WinAt w w.heap.size aL aK aO aS aP aD wv) (hR : wv.R) (hok : wv.okB = true) :
    Calls Try.prog 83 #[.agg #[.slice aL wv.L.length cL, .slice aK wv.K.length cK, .slice aO wv.O.length cO, .slice aQ Q.length cQ, .slice aS wv.S.length cS, .slice aP wv.P.length cP, .slice aD wv.D.length cD]] w fun e w' => e = .returned (.bool wv.fullB) ∧ Below w.heap.size w w' := by
  have F1 := Lib.hid ((Fr.start (w := w) (I := [(.i64, aL, wv.L), (.i64, aK, wv.K), (.i64, aO, wv.O), (.i64, aS, wv.S), (.i64, aP, wv.P), (.i64, aD, wv.D)]) (by intro z hz; simp at hz; rcases hz with rfl | rfl | rfl | rfl | rfl | rfl; exact hW.iL; exact hW.iK; exact hW.iO; exact hW.iS; exact hW.iP; exact hW.iD)).box1 (b := w.heap.size) rfl [.slice aL wv.L.length cL, .slice aK wv.K.length cK, .slice aO wv.O.length cO, .slice aQ Q.length cQ, .slice aS wv.S.length cS, .slice aP wv.P.length cP, .slice aD wv.D.length cD] 68)
  simp only [List.nil_append] at F1
  obtain ⟨r, hrr⟩ : ∃ r, wv.L.length = r := ⟨_, rfl⟩
  have hr2 := hR.r
  have hlen := hW.iL.len
  have hdl := fun i (hi : i < r) => hR.dl i (by omega)
  have hdk := fun i (hi : i < r) => hR.dk i (by omega)
  have hds := fun i (hi : i < r) => hR.ds i (by omega)
  have hdp := fun i (hi : i < r) => hR.dp i (by omega)
  have hdd := fun i (hi : i < r) => hR.dd i (by omega)
  have hob := fun i (hi : i < r) => hR.out_pos (i := i) (by omega) (WinV.ok_room hok (by omega))
  have hog := fun i (hi : i < r) => wv.O_get (i := i) (by omega)
  have hlK := hR.k
  have hlS := hR.s
  have hlP := hR.p
  have hlD := hR.d
  have hlO := wv.O_len
  have hfi := full_iff (wv := wv)
  rw [hrr] at hr2 hlK hlS hlP hlD hlen hlO hfi
  obtain ⟨BF, hBF⟩ : ∃ x, wv.fullB = x := ⟨_, rfl⟩
  rw [hBF] at hfi ⊢
  have HRR := Lib.hid hrr
  have HDL := Lib.hid hdl
  have HDK := Lib.hid hdk
  have HDS := Lib.hid hds
  have HDP := Lib.hid hdp
  have HDD := Lib.hid hdd
  have HOB := Lib.hid hob
  have HOG := Lib.hid hog
  have HLK := Lib.hid hlK
  have HLS := Lib.hid hlS
  have HLP := Lib.hid hlP
  have HLD := Lib.hid hlD
  have HLO := Lib.hid hlO
  have HFI := Lib.hid hfi
  clear hW hR hok hBF hrr hdl hdk hds hdp hdd hob hog hlK hlS hlP hlD hlO hfi
  go_enter Try.func83, Try.ntmps83
  go_upto_region 1 with fail
  obtain ⟨W1, hW1⟩ : ∃ W1, w.alloc (.cells #[.slice aL wv.L.length cL, .slice aK wv.K.length cK, .slice aO wv.O.length cO, .slice aQ Q.length cQ, .slice aS wv.S.length cS, .slice aP wv.P.length cP, .slice aD wv.D.length cD] 68) = W1 := ⟨_, rfl⟩
  rw [hW1] at F1 ⊢
  clear hW1
  have c0_0 := F1.out.c 0 0 rfl rfl
  have c0_1 := F1.out.c 0 1 rfl rfl
  have c0_2 := F1.out.c 0 2 rfl rfl
  have c0_3 := F1.out.c 0 3 rfl rfl
  have c0_4 := F1.out.c 0 4 rfl rfl
  have c0_5 := F1.out.c 0 5 rfl rfl
  have c0_6 := F1.out.c 0 6 rfl rfl
  go_wp2
  go_loopw [12] (fun s12 wr => ∃ k : Nat, k ≤ r ∧ s12 = .int .i64 k ∧ Hid (∀ i, i < k → ∀ p, p < (wv.out i).toNat → anyP wv i p = true) ∧ Hid (Fr w.heap.size w wr [(w.heap.size, [.slice aL wv.L.length cL, .slice aK wv.K.length cK, .slice aO wv.O.length cO, .slice aQ Q.length cQ, .slice aS wv.S.length cS, .slice aP wv.P.length cP, .slice aD wv.D.length cD])] [(.i64, aL, wv.L), (.i64, aK, wv.K), (.i64, aO, wv.O), (.i64, aS, wv.S), (.i64, aP, wv.P), (.i64, aD, wv.D)] [] [])) (fun s12 _ => r - (intOf s12).toNat)
  case atStart => exact ⟨0, Nat.zero_le _, rfl, Lib.hid (fun j hj => absurd hj (by omega)), F1⟩
  case round =>
    obtain ⟨k, hk, rfl, HA, F2⟩ := hrel
    clear F1 c0_0 c0_1 c0_2 c0_3 c0_4 c0_5 c0_6
    obtain ⟨wo, rfl⟩ : ∃ x : World, x = wr := ⟨_, rfl⟩
    by_cases hlt : k < r
    · skip
      have hdl := HDL.out k hlt
      have hdk := HDK.out k hlt
      have hds := HDS.out k hlt
      have hdp := HDP.out k hlt
      have hdd := HDD.out k hlt
      have hob := HOB.out k hlt
      have hog := HOG.out k hlt
      obtain ⟨OT, hOT⟩ : ∃ z, wv.out k = z := ⟨_, rfl⟩
      rw [hOT] at hob hog
      have HOT := Lib.hid hOT
      obtain ⟨FT, hFT⟩ : ∃ f, inT wv k = f := ⟨_, rfl⟩
      have hFe : ∀ p t, FT p t = (decide (0 ≤ (p : Int) * (wv.S[k]?.getD 0) + (t : Int) * (wv.D[k]?.getD 0) - wv.P[k]?.getD 0) && decide ((p : Int) * (wv.S[k]?.getD 0) + (t : Int) * (wv.D[k]?.getD 0) - wv.P[k]?.getD 0 < wv.L[k]?.getD 0)) := fun p t => by rw [← hFT]; rfl
      have hAe : ∀ p, anyP wv k p = (List.range (wv.K[k]?.getD 0).toNat).any (FT p) := fun p => by rw [← hFT]; rfl
      have hkL : k < wv.L.length := by rw [HRR.out]; exact hlt
      have hkLi : (k : Int) < (wv.L.length : Int) := by omega
      obtain ⟨bL, oL, rfl, _, hcL⟩ := (F2.out.l 0 rfl).cell k hkL
      obtain ⟨el, hel⟩ : ∃ z, wv.L[k]?.getD 0 = z := ⟨_, rfl⟩
      have hkK : k < wv.K.length := by rw [HLK.out]; exact hlt
      have hkKi : (k : Int) < (wv.K.length : Int) := by omega
      obtain ⟨bK, oK, rfl, _, hcK⟩ := (F2.out.l 1 rfl).cell k hkK
      obtain ⟨ek, hek⟩ : ∃ z, wv.K[k]?.getD 0 = z := ⟨_, rfl⟩
      have hkO : k < wv.O.length := by rw [HLO.out]; exact hlt
      have hkOi : (k : Int) < (wv.O.length : Int) := by omega
      obtain ⟨bO, oO, rfl, _, hcO⟩ := (F2.out.l 2 rfl).cell k hkO
      obtain ⟨eo, heo⟩ : ∃ z, wv.O[k]?.getD 0 = z := ⟨_, rfl⟩
      have hkS : k < wv.S.length := by rw [HLS.out]; exact hlt
      have hkSi : (k : Int) < (wv.S.length : Int) := by omega
      obtain ⟨bS, oS, rfl, _, hcS⟩ := (F2.out.l 3 rfl).cell k hkS
      obtain ⟨es, hes⟩ : ∃ z, wv.S[k]?.getD 0 = z := ⟨_, rfl⟩
      have hkP : k < wv.P.length := by rw [HLP.out]; exact hlt
      have hkPi : (k : Int) < (wv.P.length : Int) := by omega
      obtain ⟨bP, oP, rfl, _, hcP⟩ := (F2.out.l 4 rfl).cell k hkP
      obtain ⟨ep, hep⟩ : ∃ z, wv.P[k]?.getD 0 = z := ⟨_, rfl⟩
      have hkD : k < wv.D.length := by rw [HLD.out]; exact hlt
      have hkDi : (k : Int) < (wv.D.length : Int) := by omega
      obtain ⟨bD, oD, rfl, _, hcD⟩ := (F2.out.l 5 rfl).cell k hkD
      obtain ⟨ed, hed⟩ : ∃ z, wv.D[k]?.getD 0 = z := ⟨_, rfl⟩
      simp only [hel, hek, heo, hes, hep, hed] at hdl hdk hds hdp hdd hog hFe hAe
      rw [hel] at hcL
      rw [hek] at hcK
      rw [heo] at hcO
      rw [hes] at hcS
      rw [hep] at hcP
      rw [hed] at hcD
      subst hog
      obtain ⟨ON, hON⟩ : ∃ z : Nat, eo = (z : Int) := ⟨eo.toNat, by omega⟩
      obtain ⟨KN, hKN⟩ : ∃ z : Nat, ek = (z : Int) := ⟨ek.toNat, by omega⟩
      subst hON
      subst hKN
      simp only [Int.toNat_natCast] at hAe
      have Hel := Lib.hid hel
      have Hek := Lib.hid hek
      have Heo := Lib.hid heo
      have Hes := Lib.hid hes
      have Hep := Lib.hid hep
      have Hed := Lib.hid hed
      have HFE := Lib.hid hFe
      have HAE := Lib.hid hAe
      have HDB := Lib.hid (And.intro hdl (And.intro hds (And.intro hdp hdd)))
      have hONb : ON ≤ 12288 := by omega
      have hKNb : KN ≤ 4096 := by omega
      have hk0 : (0 : Int) ≤ (k : Int) := by omega
      clear hdl hdk hds hdp hdd hob hOT hFT hFe hAe hel hek heo hes hep hed
      have c0_0 := F2.out.c 0 0 rfl rfl
      have c0_1 := F2.out.c 0 1 rfl rfl
      have c0_2 := F2.out.c 0 2 rfl rfl
      have c0_3 := F2.out.c 0 3 rfl rfl
      have c0_4 := F2.out.c 0 4 rfl rfl
      have c0_5 := F2.out.c 0 5 rfl rfl
      have c0_6 := F2.out.c 0 6 rfl rfl
      go_wp2
      (try clear hcL hcK hcO hcS hcP hcD)
      clear c0_0 c0_1 c0_2 c0_3 c0_4 c0_5 c0_6
      go_loopw [22] (fun s22 wr => ∃ p : Nat, p ≤ ON ∧ s22 = .int .i64 p ∧ Hid (∀ i, i < p → anyP wv k i = true) ∧ Hid (Fr w.heap.size w wr [(w.heap.size, [.slice (some ⟨bL, oL, none⟩) wv.L.length cL, .slice (some ⟨bK, oK, none⟩) wv.K.length cK, .slice (some ⟨bO, oO, none⟩) wv.O.length cO, .slice aQ Q.length cQ, .slice (some ⟨bS, oS, none⟩) wv.S.length cS, .slice (some ⟨bP, oP, none⟩) wv.P.length cP, .slice (some ⟨bD, oD, none⟩) wv.D.length cD])] [(.i64, (some ⟨bL, oL, none⟩), wv.L), (.i64, (some ⟨bK, oK, none⟩), wv.K), (.i64, (some ⟨bO, oO, none⟩), wv.O), (.i64, (some ⟨bS, oS, none⟩), wv.S), (.i64, (some ⟨bP, oP, none⟩), wv.P), (.i64, (some ⟨bD, oD, none⟩), wv.D)] [] [])) (fun s22 _ => ON - (intOf s22).toNat)
      case atStart => exact ⟨0, Nat.zero_le _, rfl, Lib.hid (fun j hj => absurd hj (by omega)), F2⟩
      case round =>
        obtain ⟨p, hp, rfl, HB, F3⟩ := hrel
        clear F2
        obtain ⟨wi, rfl⟩ : ∃ x : World, x = wr := ⟨_, rfl⟩
        by_cases hlp : p < ON
        · skip
          have c0_0 := F3.out.c 0 0 rfl rfl
          have c0_1 := F3.out.c 0 1 rfl rfl
          have c0_2 := F3.out.c 0 2 rfl rfl
          have c0_3 := F3.out.c 0 3 rfl rfl
          have c0_4 := F3.out.c 0 4 rfl rfl
          have c0_5 := F3.out.c 0 5 rfl rfl
          have c0_6 := F3.out.c 0 6 rfl rfl
          obtain ⟨b9, o9, he, _, hcK⟩ := (F3.out.l 1 rfl).cell k hkK
          cases he
          rw [Hek.out] at hcK
          have hpi : (p : Int) < (ON : Int) := by omega
          go_wp2
          clear hcK c0_0 c0_1 c0_2 c0_3 c0_4 c0_5 c0_6
          go_loopw [6, 30] (fun s6 s30 wr => ∃ t : Nat, t ≤ KN ∧ s30 = .int .i64 t ∧ s6 = .bool ((List.range t).any (FT p)) ∧ Hid (Fr w.heap.size w wr [(w.heap.size, [.slice (some ⟨bL, oL, none⟩) wv.L.length cL, .slice (some ⟨bK, oK, none⟩) wv.K.length cK, .slice (some ⟨bO, oO, none⟩) wv.O.length cO, .slice aQ Q.length cQ, .slice (some ⟨bS, oS, none⟩) wv.S.length cS, .slice (some ⟨bP, oP, none⟩) wv.P.length cP, .slice (some ⟨bD, oD, none⟩) wv.D.length cD])] [(.i64, (some ⟨bL, oL, none⟩), wv.L), (.i64, (some ⟨bK, oK, none⟩), wv.K), (.i64, (some ⟨bO, oO, none⟩), wv.O), (.i64, (some ⟨bS, oS, none⟩), wv.S), (.i64, (some ⟨bP, oP, none⟩), wv.P), (.i64, (some ⟨bD, oD, none⟩), wv.D)] [] [])) (fun _ s30 _ => KN - (intOf s30).toNat)
          case atStart => exact ⟨0, Nat.zero_le _, rfl, rfl, F3⟩
          case round =>
            obtain ⟨t, ht, rfl, rfl, F4⟩ := hrel
            clear F3
            obtain ⟨wu, rfl⟩ : ∃ x : World, x = wr := ⟨_, rfl⟩
            by_cases hlq : t < KN
            · skip
              have hti : (t : Int) < (KN : Int) := by omega
              have hsu := any_succ (FT p) t
              have hfe := HFE.out p t
              obtain ⟨hdl, hds, hdp, hdd⟩ := HDB.out
              have hA := mul_le4096 (A := 12288) (B := 4096) (a := (p : Int)) (b := es) (by omega) (by omega) (by omega) hds.2
              have hC := mul_le4096 (A := 4096) (B := 4096) (a := (t : Int)) (b := ed) (by omega) (by omega) (by omega) hdd.2
              obtain ⟨A, hA2⟩ : ∃ z, (p : Int) * es = z := ⟨_, rfl⟩
              obtain ⟨C, hC2⟩ : ∃ z, (t : Int) * ed = z := ⟨_, rfl⟩
              rw [hA2, hC2] at hfe
              rw [hA2] at hA
              rw [hC2] at hC
              obtain ⟨X, hX⟩ : ∃ z, A + C - ep = z := ⟨_, rfl⟩
              rw [hX] at hfe
              have HW1 := Lib.hid (show IntKind.i64.wrap ((p : Int) * es) = A by rw [hA2]; exact IntWalk.i64_in _ (by omega))
              have HW2 := Lib.hid (show IntKind.i64.wrap ((t : Int) * ed) = C by rw [hC2]; exact IntWalk.i64_in _ (by omega))
              have HW3 := Lib.hid (show IntKind.i64.wrap (A + C) = A + C from IntWalk.i64_in _ (by omega))
              have HW4 := Lib.hid (show IntKind.i64.wrap (A + C - ep) = X by rw [hX]; exact IntWalk.i64_in _ (by omega))
              obtain ⟨SB, hSB⟩ : ∃ x, (List.range t).any (FT p) = x := ⟨_, rfl⟩
              rw [hSB, hfe] at hsu
              rw [hSB]
              have HSU := Lib.hid hsu
              clear hfe hA hC hA2 hC2 hX hSB hsu hdl hds hdp hdd
              have c0_0 := F4.out.c 0 0 rfl rfl
              have c0_1 := F4.out.c 0 1 rfl rfl
              have c0_2 := F4.out.c 0 2 rfl rfl
              have c0_3 := F4.out.c 0 3 rfl rfl
              have c0_4 := F4.out.c 0 4 rfl rfl
              have c0_5 := F4.out.c 0 5 rfl rfl
              have c0_6 := F4.out.c 0 6 rfl rfl
              go_upto_region 11 with fail
              refine wp_region_inv (w := wu) 25 (fun _ _ => True) (fun _ W => Fr w.heap.size w W [(w.heap.size, [.slice (some ⟨bL, oL, none⟩) wv.L.length cL, .slice (some ⟨bK, oK, none⟩) wv.K.length cK, .slice (some ⟨bO, oO, none⟩) wv.O.length cO, .slice aQ Q.length cQ, .slice (some ⟨bS, oS, none⟩) wv.S.length cS, .slice (some ⟨bP, oP, none⟩) wv.P.length cP, .slice (some ⟨bD, oD, none⟩) wv.D.length cD])] [(.i64, (some ⟨bL, oL, none⟩), wv.L), (.i64, (some ⟨bK, oK, none⟩), wv.K), (.i64, (some ⟨bO, oO, none⟩), wv.O), (.i64, (some ⟨bS, oS, none⟩), wv.S), (.i64, (some ⟨bP, oP, none⟩), wv.P), (.i64, (some ⟨bD, oD, none⟩), wv.D)] [] []) [] [(fun u _ => u = .int .i64 (p : Int)), (fun u _ => u = .pointer (some ⟨w.heap.size, 3, none⟩)), (fun u _ => u = .pointer (some ⟨w.heap.size, 4, none⟩)), (fun u _ => u = .slice (some ⟨bS, oS, none⟩) wv.S.length cS), (fun u _ => u = .int .i64 (k : Int)), (fun u _ => u = .pointer (some ⟨bS, oS + k, none⟩)), (fun u _ => u = .int .i64 es), (fun u _ => u = .int .i64 A), (fun u _ => u = .int .i64 (t : Int)), (fun u _ => u = .pointer (some ⟨w.heap.size, 3, none⟩)), (fun u _ => u = .pointer (some ⟨w.heap.size, 6, none⟩)), (fun u _ => u = .slice (some ⟨bD, oD, none⟩) wv.D.length cD), (fun u _ => u = .int .i64 (k : Int)), (fun u _ => u = .pointer (some ⟨bD, oD + k, none⟩)), (fun u _ => u = .int .i64 ed), (fun u _ => u = .int .i64 C), (fun u _ => u = .int .i64 (A + C)), (fun u _ => u = .pointer (some ⟨w.heap.size, 3, none⟩)), (fun u _ => u = .pointer (some ⟨w.heap.size, 5, none⟩)), (fun u _ => u = .slice (some ⟨bP, oP, none⟩) wv.P.length cP), (fun u _ => u = .int .i64 (k : Int)), (fun u _ => u = .pointer (some ⟨bP, oP + k, none⟩)), (fun u _ => u = .int .i64 ep), (fun u _ => u = .int .i64 X), (fun u _ => u = .int .i64 X)] [some 33, some 34, some 35, some 36, some 37, some 38, some 39, some 40, some 41, some 42, some 43, some 44, some 45, some 46, some 47, some 48, some 49, some 50, some 51, some 52, some 53, some 54, some 55, some 56, some 8] (by kernel_rfl) (by kernel_rfl) rfl (by kernel_rfl) (by kernel_rfl) (by decide) (by decide) (fun _ _ => trivial) trivial F4.out.drew (BorneAll.at (.cons (borne_eq _) (.cons (borne_eq _) (.cons (borne_eq _) (.cons (borne_eq _) (.cons (borne_eq _) (.cons (borne_eq _) (.cons (borne_eq _) (.cons (borne_eq _) (.cons (borne_eq _) (.cons (borne_eq _) (.cons (borne_eq _) (.cons (borne_eq _) (.cons (borne_eq _) (.cons (borne_eq _) (.cons (borne_eq _) (.cons (borne_eq _) (.cons (borne_eq _) (.cons (borne_eq _) (.cons (borne_eq _) (.cons (borne_eq _) (.cons (borne_eq _) (.cons (borne_eq _) (.cons (borne_eq _) (.cons (borne_eq _) (.cons (borne_eq _) .nil)))))))))))))))))))))))))) (fun vs b hvl hvb => ?_)
              obtain ⟨x0, x1, x2, x3, x4, x5, x6, x7, x8, x9, x10, x11, x12, x13, x14, x15, x16, x17, x18, x19, x20, x21, x22, x23, x24, rfl⟩ : ∃ x0 x1 x2 x3 x4 x5 x6 x7 x8 x9 x10 x11 x12 x13 x14 x15 x16 x17 x18 x19 x20 x21 x22 x23 x24, vs = [x0, x1, x2, x3, x4, x5, x6, x7, x8, x9, x10, x11, x12, x13, x14, x15, x16, x17, x18, x19, x20, x21, x22, x23, x24] := lw25 hvl
              clear hvl
              simp only [putAll, Act.put, List.setIfInBounds_toArray, List.set_cons_zero, List.set_cons_succ] at hvb
              subst hvb
              refine ⟨(.snoc (.snoc (.snoc (.snoc (.snoc (.snoc (.snoc (.snoc (.snoc (.snoc (.snoc (.snoc (.snoc (.snoc (.snoc (.snoc (.snoc (.snoc (.snoc (.snoc (.snoc (.snoc (.snoc (.snoc (.snoc .zero (InvOb.intro (d := (some 33)) (r := fun u _ => u = .int .i64 (p : Int)) 0 0 rfl rfl rfl (by kernel_rfl) (by kernel_rfl) rfl ?io11x0)) (InvOb.intro (d := (some 34)) (r := fun u _ => u = .pointer (some ⟨w.heap.size, 3, none⟩)) 0 0 rfl rfl rfl (by kernel_rfl) (by kernel_rfl) rfl ?io11x1)) (InvOb.intro (d := (some 35)) (r := fun u _ => u = .pointer (some ⟨w.heap.size, 4, none⟩)) 0 0 rfl rfl rfl (by kernel_rfl) (by kernel_rfl) rfl ?io11x2)) (InvOb.intro (d := (some 36)) (r := fun u _ => u = .slice (some ⟨bS, oS, none⟩) wv.S.length cS) 0 0 rfl rfl rfl (by kernel_rfl) (by kernel_rfl) rfl ?io11x3)) (InvOb.intro (d := (some 37)) (r := fun u _ => u = .int .i64 (k : Int)) 0 0 rfl rfl rfl (by kernel_rfl) (by kernel_rfl) rfl ?io11x4)) (InvOb.intro (d := (some 38)) (r := fun u _ => u = .pointer (some ⟨bS, oS + k, none⟩)) 0 0 rfl rfl rfl (by kernel_rfl) (by kernel_rfl) rfl ?io11x5)) (InvOb.intro (d := (some 39)) (r := fun u _ => u = .int .i64 es) 0 0 rfl rfl rfl (by kernel_rfl) (by kernel_rfl) rfl ?io11x6)) (InvOb.intro (d := (some 40)) (r := fun u _ => u = .int .i64 A) 0 0 rfl rfl rfl (by kernel_rfl) (by kernel_rfl) rfl ?io11x7)) (InvOb.intro (d := (some 41)) (r := fun u _ => u = .int .i64 (t : Int)) 0 0 rfl rfl rfl (by kernel_rfl) (by kernel_rfl) rfl ?io11x8)) (InvOb.intro (d := (some 42)) (r := fun u _ => u = .pointer (some ⟨w.heap.size, 3, none⟩)) 0 0 rfl rfl rfl (by kernel_rfl) (by kernel_rfl) rfl ?io11x9)) (InvOb.intro (d := (some 43)) (r := fun u _ => u = .pointer (some ⟨w.heap.size, 6, none⟩)) 0 0 rfl rfl rfl (by kernel_rfl) (by kernel_rfl) rfl ?io11x10)) (InvOb.intro (d := (some 44)) (r := fun u _ => u = .slice (some ⟨bD, oD, none⟩) wv.D.length cD) 0 0 rfl rfl rfl (by kernel_rfl) (by kernel_rfl) rfl ?io11x11)) (InvOb.intro (d := (some 45)) (r := fun u _ => u = .int .i64 (k : Int)) 0 0 rfl rfl rfl (by kernel_rfl) (by kernel_rfl) rfl ?io11x12)) (InvOb.intro (d := (some 46)) (r := fun u _ => u = .pointer (some ⟨bD, oD + k, none⟩)) 0 0 rfl rfl rfl (by kernel_rfl) (by kernel_rfl) rfl ?io11x13)) (InvOb.intro (d := (some 47)) (r := fun u _ => u = .int .i64 ed) 0 0 rfl rfl rfl (by kernel_rfl) (by kernel_rfl) rfl ?io11x14)) (InvOb.intro (d := (some 48)) (r := fun u _ => u = .int .i64 C) 0 0 rfl rfl rfl (by kernel_rfl) (by kernel_rfl) rfl ?io11x15)) (InvOb.intro (d := (some 49)) (r := fun u _ => u = .int .i64 (A + C)) 0 0 rfl rfl rfl (by kernel_rfl) (by kernel_rfl) rfl ?io11x16)) (InvOb.intro (d := (some 50)) (r := fun u _ => u = .pointer (some ⟨w.heap.size, 3, none⟩)) 0 0 rfl rfl rfl (by kernel_rfl) (by kernel_rfl) rfl ?io11x17)) (InvOb.intro (d := (some 51)) (r := fun u _ => u = .pointer (some ⟨w.heap.size, 5, none⟩)) 0 0 rfl rfl rfl (by kernel_rfl) (by kernel_rfl) rfl ?io11x18)) (InvOb.intro (d := (some 52)) (r := fun u _ => u = .slice (some ⟨bP, oP, none⟩) wv.P.length cP) 0 0 rfl rfl rfl (by kernel_rfl) (by kernel_rfl) rfl ?io11x19)) (InvOb.intro (d := (some 53)) (r := fun u _ => u = .int .i64 (k : Int)) 0 0 rfl rfl rfl (by kernel_rfl) (by kernel_rfl) rfl ?io11x20)) (InvOb.intro (d := (some 54)) (r := fun u _ => u = .pointer (some ⟨bP, oP + k, none⟩)) 0 0 rfl rfl rfl (by kernel_rfl) (by kernel_rfl) rfl ?io11x21)) (InvOb.intro (d := (some 55)) (r := fun u _ => u = .int .i64 ep) 0 0 rfl rfl rfl (by kernel_rfl) (by kernel_rfl) rfl ?io11x22)) (InvOb.intro (d := (some 56)) (r := fun u _ => u = .int .i64 X) 0 0 rfl rfl rfl (by kernel_rfl) (by kernel_rfl) rfl ?io11x23)) (InvOb.intro (d := (some 8)) (r := fun u _ => u = .int .i64 X) 0 0 rfl rfl rfl (by kernel_rfl) (by kernel_rfl) rfl ?io11x24)), ?iend11⟩
              case io11x0 =>
                intro k1 w1 hk0 hk1 hb1 hS hd KK hK
                clear hd
                simp only [Act.put, List.setIfInBounds_toArray, List.set_cons_zero, List.set_cons_succ] at hK
                go_simp
                first | exact hK.out _ _ trivial hS rfl | (have hk := hK.out _ _ trivial hS rfl; revert hk; go_simp)
              case io11x1 =>
                intro k1 w1 hk0 hk1 hb1 hS hd KK hK
                clear hd
                simp only [Act.put, List.setIfInBounds_toArray, List.set_cons_zero, List.set_cons_succ] at hK
                go_simp
                first | exact hK.out _ _ trivial hS rfl | (have hk := hK.out _ _ trivial hS rfl; revert hk; go_simp)
              case io11x2 =>
                intro k1 w1 hk0 hk1 hb1 hS hd KK hK
                have d1 : x1 = .pointer (some ⟨w.heap.size, 3, none⟩) := hd 1 (by kernel_rfl)
                clear hd
                subst d1
                simp only [Act.put, List.setIfInBounds_toArray, List.set_cons_zero, List.set_cons_succ] at hK
                go_simp
                first | exact hK.out _ _ trivial hS rfl | (have hk := hK.out _ _ trivial hS rfl; revert hk; go_simp)
              case io11x3 =>
                intro k1 w1 hk0 hk1 hb1 hS hd KK hK
                have d2 : x2 = .pointer (some ⟨w.heap.size, 4, none⟩) := hd 2 (by kernel_rfl)
                clear hd
                subst d2
                have k0 := hS.c 0 4 rfl rfl
                simp only [Act.put, List.setIfInBounds_toArray, List.set_cons_zero, List.set_cons_succ] at hK
                go_simp
                first | exact hK.out _ _ trivial hS rfl | (have hk := hK.out _ _ trivial hS rfl; revert hk; go_simp)
              case io11x4 =>
                intro k1 w1 hk0 hk1 hb1 hS hd KK hK
                clear hd
                simp only [Act.put, List.setIfInBounds_toArray, List.set_cons_zero, List.set_cons_succ] at hK
                go_simp
                first | exact hK.out _ _ trivial hS rfl | (have hk := hK.out _ _ trivial hS rfl; revert hk; go_simp)
              case io11x5 =>
                intro k1 w1 hk0 hk1 hb1 hS hd KK hK
                have d3 : x3 = .slice (some ⟨bS, oS, none⟩) wv.S.length cS := hd 3 (by kernel_rfl)
                have d4 : x4 = .int .i64 (k : Int) := hd 4 (by kernel_rfl)
                clear hd
                subst d3
                subst d4
                simp only [Act.put, List.setIfInBounds_toArray, List.set_cons_zero, List.set_cons_succ] at hK
                go_simp
                first | exact hK.out _ _ trivial hS rfl | (have hk := hK.out _ _ trivial hS rfl; revert hk; go_simp)
              case io11x6 =>
                intro k1 w1 hk0 hk1 hb1 hS hd KK hK
                have d5 : x5 = .pointer (some ⟨bS, oS + k, none⟩) := hd 5 (by kernel_rfl)
                clear hd
                subst d5
                obtain ⟨b9, o9, he, _, hcx⟩ := (hS.l 3 rfl).cell k hkS
                cases he
                rw [Hes.out] at hcx
                simp only [Act.put, List.setIfInBounds_toArray, List.set_cons_zero, List.set_cons_succ] at hK
                go_simp
                first | exact hK.out _ _ trivial hS rfl | (have hk := hK.out _ _ trivial hS rfl; revert hk; go_simp)
              case io11x7 =>
                intro k1 w1 hk0 hk1 hb1 hS hd KK hK
                have d0 : x0 = .int .i64 (p : Int) := hd 0 (by kernel_rfl)
                have d6 : x6 = .int .i64 es := hd 6 (by kernel_rfl)
                clear hd
                subst d0
                subst d6
                have dx := HW1.out
                simp only [Act.put, List.setIfInBounds_toArray, List.set_cons_zero, List.set_cons_succ] at hK
                go_simp
                first | exact hK.out _ _ trivial hS rfl | (have hk := hK.out _ _ trivial hS rfl; revert hk; go_simp)
              case io11x8 =>
                intro k1 w1 hk0 hk1 hb1 hS hd KK hK
                clear hd
                simp only [Act.put, List.setIfInBounds_toArray, List.set_cons_zero, List.set_cons_succ] at hK
                go_simp
                first | exact hK.out _ _ trivial hS rfl | (have hk := hK.out _ _ trivial hS rfl; revert hk; go_simp)
              case io11x9 =>
                intro k1 w1 hk0 hk1 hb1 hS hd KK hK
                clear hd
                simp only [Act.put, List.setIfInBounds_toArray, List.set_cons_zero, List.set_cons_succ] at hK
                go_simp
                first | exact hK.out _ _ trivial hS rfl | (have hk := hK.out _ _ trivial hS rfl; revert hk; go_simp)
              case io11x10 =>
                intro k1 w1 hk0 hk1 hb1 hS hd KK hK
                have d9 : x9 = .pointer (some ⟨w.heap.size, 3, none⟩) := hd 9 (by kernel_rfl)
                clear hd
                subst d9
                simp only [Act.put, List.setIfInBounds_toArray, List.set_cons_zero, List.set_cons_succ] at hK
                go_simp
                first | exact hK.out _ _ trivial hS rfl | (have hk := hK.out _ _ trivial hS rfl; revert hk; go_simp)
              case io11x11 =>
                intro k1 w1 hk0 hk1 hb1 hS hd KK hK
                have d10 : x10 = .pointer (some ⟨w.heap.size, 6, none⟩) := hd 10 (by kernel_rfl)
                clear hd
                subst d10
                have k0 := hS.c 0 6 rfl rfl
                simp only [Act.put, List.setIfInBounds_toArray, List.set_cons_zero, List.set_cons_succ] at hK
                go_simp
                first | exact hK.out _ _ trivial hS rfl | (have hk := hK.out _ _ trivial hS rfl; revert hk; go_simp)
              case io11x12 =>
                intro k1 w1 hk0 hk1 hb1 hS hd KK hK
                clear hd
                simp only [Act.put, List.setIfInBounds_toArray, List.set_cons_zero, List.set_cons_succ] at hK
                go_simp
                first | exact hK.out _ _ trivial hS rfl | (have hk := hK.out _ _ trivial hS rfl; revert hk; go_simp)
              case io11x13 =>
                intro k1 w1 hk0 hk1 hb1 hS hd KK hK
                have d11 : x11 = .slice (some ⟨bD, oD, none⟩) wv.D.length cD := hd 11 (by kernel_rfl)
                have d12 : x12 = .int .i64 (k : Int) := hd 12 (by kernel_rfl)
                clear hd
                subst d11
                subst d12
                simp only [Act.put, List.setIfInBounds_toArray, List.set_cons_zero, List.set_cons_succ] at hK
                go_simp
                first | exact hK.out _ _ trivial hS rfl | (have hk := hK.out _ _ trivial hS rfl; revert hk; go_simp)
              case io11x14 =>
                intro k1 w1 hk0 hk1 hb1 hS hd KK hK
                have d13 : x13 = .pointer (some ⟨bD, oD + k, none⟩) := hd 13 (by kernel_rfl)
                clear hd
                subst d13
                obtain ⟨b9, o9, he, _, hcx⟩ := (hS.l 5 rfl).cell k hkD
                cases he
                rw [Hed.out] at hcx
                simp only [Act.put, List.setIfInBounds_toArray, List.set_cons_zero, List.set_cons_succ] at hK
                go_simp
                first | exact hK.out _ _ trivial hS rfl | (have hk := hK.out _ _ trivial hS rfl; revert hk; go_simp)
              case io11x15 =>
                intro k1 w1 hk0 hk1 hb1 hS hd KK hK
                have d8 : x8 = .int .i64 (t : Int) := hd 8 (by kernel_rfl)
                have d14 : x14 = .int .i64 ed := hd 14 (by kernel_rfl)
                clear hd
                subst d8
                subst d14
                have dx := HW2.out
                simp only [Act.put, List.setIfInBounds_toArray, List.set_cons_zero, List.set_cons_succ] at hK
                go_simp
                first | exact hK.out _ _ trivial hS rfl | (have hk := hK.out _ _ trivial hS rfl; revert hk; go_simp)
              case io11x16 =>
                intro k1 w1 hk0 hk1 hb1 hS hd KK hK
                have d7 : x7 = .int .i64 A := hd 7 (by kernel_rfl)
                have d15 : x15 = .int .i64 C := hd 15 (by kernel_rfl)
                clear hd
                subst d7
                subst d15
                have dx := HW3.out
                simp only [Act.put, List.setIfInBounds_toArray, List.set_cons_zero, List.set_cons_succ] at hK
                go_simp
                first | exact hK.out _ _ trivial hS rfl | (have hk := hK.out _ _ trivial hS rfl; revert hk; go_simp)
              case io11x17 =>
                intro k1 w1 hk0 hk1 hb1 hS hd KK hK
                clear hd
                simp only [Act.put, List.setIfInBounds_toArray, List.set_cons_zero, List.set_cons_succ] at hK
                go_simp
                first | exact hK.out _ _ trivial hS rfl | (have hk := hK.out _ _ trivial hS rfl; revert hk; go_simp)
              case io11x18 =>
                intro k1 w1 hk0 hk1 hb1 hS hd KK hK
                have d17 : x17 = .pointer (some ⟨w.heap.size, 3, none⟩) := hd 17 (by kernel_rfl)
                clear hd
                subst d17
                simp only [Act.put, List.setIfInBounds_toArray, List.set_cons_zero, List.set_cons_succ] at hK
                go_simp
                first | exact hK.out _ _ trivial hS rfl | (have hk := hK.out _ _ trivial hS rfl; revert hk; go_simp)
              case io11x19 =>
                intro k1 w1 hk0 hk1 hb1 hS hd KK hK
                have d18 : x18 = .pointer (some ⟨w.heap.size, 5, none⟩) := hd 18 (by kernel_rfl)
                clear hd
                subst d18
                have k0 := hS.c 0 5 rfl rfl
                simp only [Act.put, List.setIfInBounds_toArray, List.set_cons_zero, List.set_cons_succ] at hK
                go_simp
                first | exact hK.out _ _ trivial hS rfl | (have hk := hK.out _ _ trivial hS rfl; revert hk; go_simp)
              case io11x20 =>
                intro k1 w1 hk0 hk1 hb1 hS hd KK hK
                clear hd
                simp only [Act.put, List.setIfInBounds_toArray, List.set_cons_zero, List.set_cons_succ] at hK
                go_simp
                first | exact hK.out _ _ trivial hS rfl | (have hk := hK.out _ _ trivial hS rfl; revert hk; go_simp)
              case io11x21 =>
                intro k1 w1 hk0 hk1 hb1 hS hd KK hK
                have d19 : x19 = .slice (some ⟨bP, oP, none⟩) wv.P.length cP := hd 19 (by kernel_rfl)
                have d20 : x20 = .int .i64 (k : Int) := hd 20 (by kernel_rfl)
                clear hd
                subst d19
                subst d20
                simp only [Act.put, List.setIfInBounds_toArray, List.set_cons_zero, List.set_cons_succ] at hK
                go_simp
                first | exact hK.out _ _ trivial hS rfl | (have hk := hK.out _ _ trivial hS rfl; revert hk; go_simp)
              case io11x22 =>
                intro k1 w1 hk0 hk1 hb1 hS hd KK hK
                have d21 : x21 = .pointer (some ⟨bP, oP + k, none⟩) := hd 21 (by kernel_rfl)
                clear hd
                subst d21
                obtain ⟨b9, o9, he, _, hcx⟩ := (hS.l 4 rfl).cell k hkP
                cases he
                rw [Hep.out] at hcx
                simp only [Act.put, List.setIfInBounds_toArray, List.set_cons_zero, List.set_cons_succ] at hK
                go_simp
                first | exact hK.out _ _ trivial hS rfl | (have hk := hK.out _ _ trivial hS rfl; revert hk; go_simp)
              case io11x23 =>
                intro k1 w1 hk0 hk1 hb1 hS hd KK hK
                have d16 : x16 = .int .i64 (A + C) := hd 16 (by kernel_rfl)
                have d22 : x22 = .int .i64 ep := hd 22 (by kernel_rfl)
                clear hd
                subst d16
                subst d22
                have dx := HW4.out
                simp only [Act.put, List.setIfInBounds_toArray, List.set_cons_zero, List.set_cons_succ] at hK
                go_simp
                first | exact hK.out _ _ trivial hS rfl | (have hk := hK.out _ _ trivial hS rfl; revert hk; go_simp)
              case io11x24 =>
                intro k1 w1 hk0 hk1 hb1 hS hd KK hK
                have d0 : x0 = .int .i64 (p : Int) := hd 0 (by kernel_rfl)
                have d1 : x1 = .pointer (some ⟨w.heap.size, 3, none⟩) := hd 1 (by kernel_rfl)
                have d2 : x2 = .pointer (some ⟨w.heap.size, 4, none⟩) := hd 2 (by kernel_rfl)
                have d3 : x3 = .slice (some ⟨bS, oS, none⟩) wv.S.length cS := hd 3 (by kernel_rfl)
                have d4 : x4 = .int .i64 (k : Int) := hd 4 (by kernel_rfl)
                have d5 : x5 = .pointer (some ⟨bS, oS + k, none⟩) := hd 5 (by kernel_rfl)
                have d6 : x6 = .int .i64 es := hd 6 (by kernel_rfl)
                have d7 : x7 = .int .i64 A := hd 7 (by kernel_rfl)
                have d8 : x8 = .int .i64 (t : Int) := hd 8 (by kernel_rfl)
                have d9 : x9 = .pointer (some ⟨w.heap.size, 3, none⟩) := hd 9 (by kernel_rfl)
                have d10 : x10 = .pointer (some ⟨w.heap.size, 6, none⟩) := hd 10 (by kernel_rfl)
                have d11 : x11 = .slice (some ⟨bD, oD, none⟩) wv.D.length cD := hd 11 (by kernel_rfl)
                have d12 : x12 = .int .i64 (k : Int) := hd 12 (by kernel_rfl)
                have d13 : x13 = .pointer (some ⟨bD, oD + k, none⟩) := hd 13 (by kernel_rfl)
                have d14 : x14 = .int .i64 ed := hd 14 (by kernel_rfl)
                have d15 : x15 = .int .i64 C := hd 15 (by kernel_rfl)
                have d16 : x16 = .int .i64 (A + C) := hd 16 (by kernel_rfl)
                have d17 : x17 = .pointer (some ⟨w.heap.size, 3, none⟩) := hd 17 (by kernel_rfl)
                have d18 : x18 = .pointer (some ⟨w.heap.size, 5, none⟩) := hd 18 (by kernel_rfl)
                have d19 : x19 = .slice (some ⟨bP, oP, none⟩) wv.P.length cP := hd 19 (by kernel_rfl)
                have d20 : x20 = .int .i64 (k : Int) := hd 20 (by kernel_rfl)
                have d21 : x21 = .pointer (some ⟨bP, oP + k, none⟩) := hd 21 (by kernel_rfl)
                have d22 : x22 = .int .i64 ep := hd 22 (by kernel_rfl)
                have d23 : x23 = .int .i64 X := hd 23 (by kernel_rfl)
                clear hd
                subst d0
                subst d1
                subst d2
                subst d3
                subst d4
                subst d5
                subst d6
                subst d7
                subst d8
                subst d9
                subst d10
                subst d11
                subst d12
                subst d13
                subst d14
                subst d15
                subst d16
                subst d17
                subst d18
                subst d19
                subst d20
                subst d21
                subst d22
                subst d23
                simp only [Act.put, List.setIfInBounds_toArray, List.set_cons_zero, List.set_cons_succ] at hK
                go_simp
                first | exact hK.out _ _ trivial hS rfl | (have hk := hK.out _ _ trivial hS rfl; revert hk; go_simp)
              case iend11 =>
                intro w1 hb1 hS hR
                have d0 : x0 = .int .i64 (p : Int) := hR 0 (by decide)
                have d1 : x1 = .pointer (some ⟨w.heap.size, 3, none⟩) := hR 1 (by decide)
                have d2 : x2 = .pointer (some ⟨w.heap.size, 4, none⟩) := hR 2 (by decide)
                have d3 : x3 = .slice (some ⟨bS, oS, none⟩) wv.S.length cS := hR 3 (by decide)
                have d4 : x4 = .int .i64 (k : Int) := hR 4 (by decide)
                have d5 : x5 = .pointer (some ⟨bS, oS + k, none⟩) := hR 5 (by decide)
                have d6 : x6 = .int .i64 es := hR 6 (by decide)
                have d7 : x7 = .int .i64 A := hR 7 (by decide)
                have d8 : x8 = .int .i64 (t : Int) := hR 8 (by decide)
                have d9 : x9 = .pointer (some ⟨w.heap.size, 3, none⟩) := hR 9 (by decide)
                have d10 : x10 = .pointer (some ⟨w.heap.size, 6, none⟩) := hR 10 (by decide)
                have d11 : x11 = .slice (some ⟨bD, oD, none⟩) wv.D.length cD := hR 11 (by decide)
                have d12 : x12 = .int .i64 (k : Int) := hR 12 (by decide)
                have d13 : x13 = .pointer (some ⟨bD, oD + k, none⟩) := hR 13 (by decide)
                have d14 : x14 = .int .i64 ed := hR 14 (by decide)
                have d15 : x15 = .int .i64 C := hR 15 (by decide)
                have d16 : x16 = .int .i64 (A + C) := hR 16 (by decide)
                have d17 : x17 = .pointer (some ⟨w.heap.size, 3, none⟩) := hR 17 (by decide)
                have d18 : x18 = .pointer (some ⟨w.heap.size, 5, none⟩) := hR 18 (by decide)
                have d19 : x19 = .slice (some ⟨bP, oP, none⟩) wv.P.length cP := hR 19 (by decide)
                have d20 : x20 = .int .i64 (k : Int) := hR 20 (by decide)
                have d21 : x21 = .pointer (some ⟨bP, oP + k, none⟩) := hR 21 (by decide)
                have d22 : x22 = .int .i64 ep := hR 22 (by decide)
                have d23 : x23 = .int .i64 X := hR 23 (by decide)
                have d24 : x24 = .int .i64 X := hR 24 (by decide)
                clear hR
                subst d0
                subst d1
                subst d2
                subst d3
                subst d4
                subst d5
                subst d6
                subst d7
                subst d8
                subst d9
                subst d10
                subst d11
                subst d12
                subst d13
                subst d14
                subst d15
                subst d16
                subst d17
                subst d18
                subst d19
                subst d20
                subst d21
                subst d22
                subst d23
                subst d24
                try simp only [putAll, Act.put, List.setIfInBounds_toArray, List.set_cons_zero, List.set_cons_succ]
                have F5 := Lib.hid hS
                clear hS hb1 F4 HW1 HW2 HW3 HW4 c0_0 c0_1 c0_2 c0_3 c0_4 c0_5 c0_6
                obtain ⟨V5, rfl⟩ : ∃ x : World, x = w1 := ⟨_, rfl⟩
                cases SB with
                | true =>
                  have hz : (List.range (t + 1)).any (FT p) = true := by rw [HSU.out, Bool.true_or]
                  have HZ := Lib.hid hz
                  clear hz
                  go_wp2
                  go_roundw
                  case rel => exact ⟨t + 1, by omega, by go_num, by rw [HZ.out], F5⟩
                  case measure => simp [intOf]; omega
                | false =>
                  by_cases hx0 : X < 0
                  · skip
                    have d0 : ¬ (0 : Int) ≤ X := by omega
                    have hz : (List.range (t + 1)).any (FT p) = false := by rw [HSU.out, decide_eq_false (by omega : ¬ 0 ≤ X), Bool.false_and]; rfl
                    have HZ := Lib.hid hz
                    clear hz
                    go_wp2
                    go_roundw
                    case rel => exact ⟨t + 1, by omega, by go_num, by rw [HZ.out], F5⟩
                    case measure => simp [intOf]; omega
                  · skip
                    have d0 : (0 : Int) ≤ X := by omega
                    by_cases hx1 : el ≤ X
                    · skip
                      have d1 : ¬ X < el := by omega
                      have hz : (List.range (t + 1)).any (FT p) = false := by rw [HSU.out, decide_eq_false (by omega : ¬ X < el), Bool.and_false]; rfl
                      have HZ := Lib.hid hz
                      clear hz
                      go_wp2
                      go_roundw
                      case rel => exact ⟨t + 1, by omega, by go_num, by rw [HZ.out], F5⟩
                      case measure => simp [intOf]; omega
                    · skip
                      have d1 : X < el := by omega
                      have hz : (List.range (t + 1)).any (FT p) = true := by rw [HSU.out, decide_eq_true d0, decide_eq_true d1]; rfl
                      have HZ := Lib.hid hz
                      clear hz
                      go_wp2
                      go_roundw
                      case rel => exact ⟨t + 1, by omega, by go_num, by rw [HZ.out], F5⟩
                      case measure => simp [intOf]; omega
            · obtain rfl : t = KN := by omega
              rw [← HAE.out p]
              cases hap : anyP wv k p with
              | false =>
                have hbf : BF = false := by
                  cases hB : BF with
                  | false => rfl
                  | true =>
                    have h9 := HFI.out.1 hB k hlt p (by rw [HOT.out]; omega)
                    rw [hap] at h9
                    cases h9
                subst hbf
                go_wp2
                go_ret
                exact ⟨rfl, F4.out.bel⟩
              | true =>
                have HB2 : Hid (∀ i, i < p + 1 → anyP wv k i = true) := Lib.hid (fun i hi => by
                  by_cases hip : i < p
                  · exact HB.out i hip
                  · obtain rfl : i = p := by omega
                    exact hap)
                clear hap
                go_wp2
                go_roundw
                case rel => exact ⟨p + 1, by omega, by go_num, HB2, F4⟩
                case measure => simp [intOf]; omega
        · obtain rfl : p = ON := by omega
          have HA2 : Hid (∀ i, i < k + 1 → ∀ q, q < (wv.out i).toNat → anyP wv i q = true) := Lib.hid (fun i hi q hq => by
            by_cases hik : i < k
            · exact HA.out i hik q hq
            · obtain rfl : i = k := by omega
              exact HB.out q (by rw [HOT.out] at hq; omega))
          go_wp2
          go_roundw
          case rel => exact ⟨k + 1, by omega, by go_num, HA2, F3⟩
          case measure => simp [intOf]; omega
    · obtain rfl : k = r := by omega
      have hbt : BF = true := HFI.out.2 HA.out
      subst hbt
      have hkn : ¬ (k : Int) < (wv.L.length : Int) := by have := HRR.out; omega
      go_wp2
      go_ret
      exact ⟨rfl, F2.out.bel⟩
end Go.Proofs.Ytmjcpgfekpedkaa
