import Derived.Test.YtadlnmckcnfacaaGreatVPoA
import Derived.Test.YtadlnmckcnfacaaGreatVRdV
import Derived.Test.YtadlnmckcnfacaaGreatVInv
import Derived.Test.YtadlnmckcnfacaaGreatVInvIn
set_option linter.unusedVariables false
set_option linter.unusedSimpArgs false
namespace Go.Proofs.YtadlnmckcnfacaaGreat
open Go.RowKit Go.Rt

theorem lwC {α : Type} {n : Nat} {l : List α} (h : l.length = n + 1) : ∃ x t, l = x :: t ∧ t.length = n := by
 cases l with
 | nil => cases h
 | cons x t => exact ⟨x, t, rfl, Nat.succ.inj h⟩
theorem lw31 {α : Type} {l0 : List α} (h0 : l0.length = 31) : ∃ x0 x1 x2 x3 x4 x5 x6 x7 x8 x9 x10 x11 x12 x13 x14 x15 x16 x17 x18 x19 x20 x21 x22 x23 x24 x25 x26 x27 x28 x29 x30, l0 = [x0, x1, x2, x3, x4, x5, x6, x7, x8, x9, x10, x11, x12, x13, x14, x15, x16, x17, x18, x19, x20, x21, x22, x23, x24, x25, x26, x27, x28, x29, x30] := by
 obtain ⟨x0, l1, rfl, h1⟩ := lwC h0
 obtain ⟨x1, l2, rfl, h2⟩ := lwC h1
 obtain ⟨x2, l3, rfl, h3⟩ := lwC h2
 obtain ⟨x3, l4, rfl, h4⟩ := lwC h3
 obtain ⟨x4, l5, rfl, h5⟩ := lwC h4
 obtain ⟨x5, l6, rfl, h6⟩ := lwC h5
 obtain ⟨x6, l7, rfl, h7⟩ := lwC h6
 obtain ⟨x7, l8, rfl, h8⟩ := lwC h7
 obtain ⟨x8, l9, rfl, h9⟩ := lwC h8
 obtain ⟨x9, l10, rfl, h10⟩ := lwC h9
 obtain ⟨x10, l11, rfl, h11⟩ := lwC h10
 obtain ⟨x11, l12, rfl, h12⟩ := lwC h11
 obtain ⟨x12, l13, rfl, h13⟩ := lwC h12
 obtain ⟨x13, l14, rfl, h14⟩ := lwC h13
 obtain ⟨x14, l15, rfl, h15⟩ := lwC h14
 obtain ⟨x15, l16, rfl, h16⟩ := lwC h15
 obtain ⟨x16, l17, rfl, h17⟩ := lwC h16
 obtain ⟨x17, l18, rfl, h18⟩ := lwC h17
 obtain ⟨x18, l19, rfl, h19⟩ := lwC h18
 obtain ⟨x19, l20, rfl, h20⟩ := lwC h19
 obtain ⟨x20, l21, rfl, h21⟩ := lwC h20
 obtain ⟨x21, l22, rfl, h22⟩ := lwC h21
 obtain ⟨x22, l23, rfl, h23⟩ := lwC h22
 obtain ⟨x23, l24, rfl, h24⟩ := lwC h23
 obtain ⟨x24, l25, rfl, h25⟩ := lwC h24
 obtain ⟨x25, l26, rfl, h26⟩ := lwC h25
 obtain ⟨x26, l27, rfl, h27⟩ := lwC h26
 obtain ⟨x27, l28, rfl, h28⟩ := lwC h27
 obtain ⟨x28, l29, rfl, h29⟩ := lwC h28
 obtain ⟨x29, l30, rfl, h30⟩ := lwC h29
 obtain ⟨x30, l31, rfl, h31⟩ := lwC h30
 obtain rfl := List.length_eq_zero_iff.1 h31
 exact ⟨x0, x1, x2, x3, x4, x5, x6, x7, x8, x9, x10, x11, x12, x13, x14, x15, x16, x17, x18, x19, x20, x21, x22, x23, x24, x25, x26, x27, x28, x29, x30, rfl⟩

attribute [local go_sem] Oper.semAt_some
structure WinAt (w : World) (hi : Nat) (aL aK aO aS aP aD : Option Addr) (v : WinV) : Prop where
 iL : Ints .i64 w hi aL v.L
 iK : Ints .i64 w hi aK v.K
 iO : Ints .i64 w hi aO v.O
 iS : Ints .i64 w hi aS v.S
 iP : Ints .i64 w hi aP v.P
 iD : Ints .i64 w hi aD v.D
theorem WinAt.below {w w' : World} {hi B : Nat} {aL aK aO aS aP aD : Option Addr} {v : WinV} (h : WinAt w hi aL aK aO aS aP aD v) (hb : Below B w w') (hB : hi ≤ B) : WinAt w' hi aL aK aO aS aP aD v :=
 ⟨h.iL.below hb hB, h.iK.below hb hB, h.iO.below hb hB, h.iS.below hb hB, h.iP.below hb hB, h.iD.below hb hB⟩
theorem WinAt.mono {w : World} {hi hi' : Nat} {aL aK aO aS aP aD : Option Addr} {v : WinV} (h : WinAt w hi aL aK aO aS aP aD v) (hh : hi ≤ hi') : WinAt w hi' aL aK aO aS aP aD v :=
 ⟨h.iL.mono hh, h.iK.mono hh, h.iO.mono hh, h.iS.mono hh, h.iP.mono hh, h.iD.mono hh⟩
theorem count_any (a : Option Addr) (c hi : Nat) (xs : List Int) (w : World) (h : Ints .i64 w hi a xs) (hg : goodB xs = true) :
  Calls Tryz.prog 38 #[.slice a xs.length c] w fun e w' => e = .returned (.int .i64 (prodI xs)) ∧ w = w' := by
 have hs := Lib.hid (size_any a c hi xs w h hg)
 clear h hg
 go_enter Tryz.func38, Tryz.ntmps38
 go_wp2_with (first | (go_at_call 73; refine hs.out.mono ?_; rintro e w' ⟨rfl, rfl⟩))
 go_ret
 exact ⟨rfl, rfl⟩
theorem winPlaces_any (aL aK aO aQ aS aP aD : Option Addr) (cL cK cO cQ cS cP cD : Nat) (Q : List Int) (wv : WinV) (w : World) (h : Ints .i64 w w.heap.size aO wv.O) (hg : goodB wv.O = true) :
  Calls Tryz.prog 39 #[.agg #[.slice aL wv.L.length cL, .slice aK wv.K.length cK, .slice aO wv.O.length cO, .slice aQ Q.length cQ, .slice aS wv.S.length cS, .slice aP wv.P.length cP, .slice aD wv.D.length cD]] w fun e w' => e = .returned (.int .i64 (prodI wv.O)) ∧ Below w.heap.size w w' := by
 have F1 := Lib.hid ((Fr.start (w := w) (I := [(.i64, aO, wv.O)]) (by intro z hz; simp at hz; rcases hz with rfl; exact h)).box1 (b := w.heap.size) rfl [.slice aL wv.L.length cL, .slice aK wv.K.length cK, .slice aO wv.O.length cO, .slice aQ Q.length cQ, .slice aS wv.S.length cS, .slice aP wv.P.length cP, .slice aD wv.D.length cD] 77)
 have hs := fun W (h : Ints .i64 W W.heap.size aO wv.O) => count_any aO cO W.heap.size wv.O W h hg
 have HS := Lib.hid hs
 clear h hg hs
 generalize prodI wv.O = N at *
 go_enter Tryz.func39, Tryz.ntmps39
 go_upto_region 1 with fail
 simp only [List.nil_append] at F1
 obtain ⟨W1, hW1⟩ : ∃ W1, w.alloc (.cells #[.slice aL wv.L.length cL, .slice aK wv.K.length cK, .slice aO wv.O.length cO, .slice aQ Q.length cQ, .slice aS wv.S.length cS, .slice aP wv.P.length cP, .slice aD wv.D.length cD] 77) = W1 := ⟨_, rfl⟩
 rw [hW1] at F1 ⊢
 clear hW1
 have c0 := F1.out.c 0 2 rfl rfl
 go_wp2_with (first | (go_at_call 38; refine (HS.out _ (F1.out.lw 0 rfl)).mono ?_; rintro e w' ⟨rfl, rfl⟩))
 go_ret
 exact ⟨rfl, F1.out.bel⟩
theorem winTaps_any (aL aK aO aQ aS aP aD : Option Addr) (cL cK cO cQ cS cP cD : Nat) (Q : List Int) (wv : WinV) (w : World) (h : Ints .i64 w w.heap.size aK wv.K) (hg : goodB wv.K = true) :
  Calls Tryz.prog 43 #[.agg #[.slice aL wv.L.length cL, .slice aK wv.K.length cK, .slice aO wv.O.length cO, .slice aQ Q.length cQ, .slice aS wv.S.length cS, .slice aP wv.P.length cP, .slice aD wv.D.length cD]] w fun e w' => e = .returned (.int .i64 (prodI wv.K)) ∧ Below w.heap.size w w' := by
 have F1 := Lib.hid ((Fr.start (w := w) (I := [(.i64, aK, wv.K)]) (by intro z hz; simp at hz; rcases hz with rfl; exact h)).box1 (b := w.heap.size) rfl [.slice aL wv.L.length cL, .slice aK wv.K.length cK, .slice aO wv.O.length cO, .slice aQ Q.length cQ, .slice aS wv.S.length cS, .slice aP wv.P.length cP, .slice aD wv.D.length cD] 77)
 have hs := fun W (h : Ints .i64 W W.heap.size aK wv.K) => count_any aK cK W.heap.size wv.K W h hg
 have HS := Lib.hid hs
 clear h hg hs
 generalize prodI wv.K = N at *
 go_enter Tryz.func43, Tryz.ntmps43
 go_upto_region 1 with fail
 simp only [List.nil_append] at F1
 obtain ⟨W1, hW1⟩ : ∃ W1, w.alloc (.cells #[.slice aL wv.L.length cL, .slice aK wv.K.length cK, .slice aO wv.O.length cO, .slice aQ Q.length cQ, .slice aS wv.S.length cS, .slice aP wv.P.length cP, .slice aD wv.D.length cD] 77) = W1 := ⟨_, rfl⟩
 rw [hW1] at F1 ⊢
 clear hW1
 have c0 := F1.out.c 0 1 rfl rfl
 go_wp2_with (first | (go_at_call 38; refine (HS.out _ (F1.out.lw 0 rfl)).mono ?_; rintro e w' ⟨rfl, rfl⟩))
 go_ret
 exact ⟨rfl, F1.out.bel⟩
theorem stand_z (wv : WinV) (pl tp : List Int) : ∃ z, (wv.stB pl tp = true → z = wv.stI pl tp) ∧ (∀ k, k < wv.L.length → wv.inB pl tp k = false → (∀ j, j < k → wv.inB pl tp j = true) → z = wv.part pl tp k) := by
 cases hB : wv.stB pl tp with
 | true =>
  refine ⟨wv.stI pl tp, fun _ => rfl, fun k hk hf _ => ?_⟩
  have := List.all_eq_true.1 hB k (List.mem_range.2 hk)
  rw [hf] at this
  cases this
 | false =>
  have hex : ∀ r, (∃ k, k < r ∧ wv.inB pl tp k = false ∧ ∀ j, j < k → wv.inB pl tp j = true) ∨ ∀ j, j < r → wv.inB pl tp j = true := by
   intro r
   induction r with
   | zero => exact .inr fun j hj => absurd hj (by omega)
   | succ r ih =>
    rcases ih with ⟨k, hk, h1, h2⟩ | ih
    ·exact .inl ⟨k, by omega, h1, h2⟩
    ·cases h : wv.inB pl tp r with
     | true =>
      refine .inr fun j hj => ?_
      by_cases hjr : j < r
      ·exact ih j hjr
      ·obtain rfl : j = r := by omega
       exact h
     | false => exact .inl ⟨r, by omega, h, ih⟩
  rcases hex wv.L.length with ⟨k, hk, h1, h2⟩ | h
  ·refine ⟨wv.part pl tp k, fun h => absurd h (by decide), fun q hq h3 h4 => ?_⟩
   rcases Nat.lt_trichotomy q k with hlt | rfl | hgt
   ·rw [h2 q hlt] at h3; cases h3
   ·rfl
   ·rw [h4 k hgt] at h1; cases h1
  ·have : wv.stB pl tp = true := List.all_eq_true.2 fun i hi => h i (List.mem_range.1 hi)
   rw [hB] at this
   cases this
set_option maxRecDepth 100000 in
set_option maxHeartbeats 2000000 in
theorem stand_any (aL aK aO aQ aS aP aD : Option Addr) (cL cK cO cQ cS cP cD : Nat) (Q : List Int) (wv : WinV) (ap at_ : Option Addr) (cp ct : Nat) (pl tp : List Int) (w : World) (hW : WinAt w w.heap.size aL aK aO aS aP aD wv) (hp : Ints .i64 w w.heap.size ap pl) (ht : Ints .i64 w w.heap.size at_ tp) (hR : wv.R) (hr : 1 ≤ wv.L.length) (hpl : pl.length = wv.L.length) (htl : tp.length = wv.L.length)
  (hpb : ∀ i, i < wv.L.length → 0 ≤ pl[i]?.getD 0 ∧ pl[i]?.getD 0 ≤ 12288) (htb : ∀ i, i < wv.L.length → 0 ≤ tp[i]?.getD 0 ∧ tp[i]?.getD 0 ≤ 4096) (z : Int) (hz1 : wv.stB pl tp = true → z = wv.stI pl tp) (hz2 : ∀ k, k < wv.L.length → wv.inB pl tp k = false → (∀ j, j < k → wv.inB pl tp j = true) → z = wv.part pl tp k) :
  Calls Tryz.prog 76 #[.agg #[.slice aL wv.L.length cL, .slice aK wv.K.length cK, .slice aO wv.O.length cO, .slice aQ Q.length cQ, .slice aS wv.S.length cS, .slice aP wv.P.length cP, .slice aD wv.D.length cD], .slice ap pl.length cp, .slice at_ tp.length ct] w fun e w' => e = .returned (.tuple #[.int .i64 z, .bool (wv.stB pl tp)]) ∧ Below w.heap.size w w' := by
 have F1 := Lib.hid ((Fr.start (w := w) (I := [(.i64, aL, wv.L), (.i64, aK, wv.K), (.i64, aO, wv.O), (.i64, aS, wv.S), (.i64, aP, wv.P), (.i64, aD, wv.D), (.i64, ap, pl), (.i64, at_, tp)]) (by intro z hz; simp at hz; rcases hz with rfl | rfl | rfl | rfl | rfl | rfl | rfl | rfl; exact hW.iL; exact hW.iK; exact hW.iO; exact hW.iS; exact hW.iP; exact hW.iD; exact hp; exact ht)).box1 (b := w.heap.size) rfl [.slice aL wv.L.length cL, .slice aK wv.K.length cK, .slice aO wv.O.length cO, .slice aQ Q.length cQ, .slice aS wv.S.length cS, .slice aP wv.P.length cP, .slice aD wv.D.length cD] 77)
 simp only [List.nil_append] at F1
 obtain ⟨r, hrr⟩ : ∃ r, wv.L.length = r := ⟨_, rfl⟩
 have hr2 := hR.r
 have hstI := wv.part_all pl tp
 have hpz := wv.part_zero pl tp
 have hps := fun i (hi : i < r) => wv.part_succ pl tp (i := i) (by omega)
 have hpbd := fun i (hi : i ≤ r) h => WinV.part_bound hR (pl := pl) (tp := tp) (i := i) (by omega) h
 have hxle := fun i (hi : i < r) => hR.x_le (pl := pl) (tp := tp) (i := i) (by omega) (hpb i (by omega)) (htb i (by omega))
 have hdl := fun i (hi : i < r) => hR.dl i (by omega)
 have hdp := fun i (hi : i < r) => hR.dp i (by omega)
 have hlS := hR.s
 have hlP := hR.p
 have hlD := hR.d
 have hlen := hW.iL.len
 have hst : wv.stB pl tp = true ↔ ∀ j, j < r → wv.inB pl tp j = true := by rw [← hrr]; unfold WinV.stB; rw [List.all_eq_true]; exact ⟨fun h j hj => h j (List.mem_range.2 hj), fun h j hj => h j (List.mem_range.1 hj)⟩
 rw [hrr] at hr hr2 hstI hpl htl hlS hlP hlD hlen hz2
 obtain ⟨B, hB⟩ : ∃ b, wv.stB pl tp = b := ⟨_, rfl⟩
 rw [hB] at hst hz1 ⊢
 have HZ1 := Lib.hid hz1
 have HZ2 := Lib.hid hz2
 have HRR := Lib.hid hrr
 have HPI := Lib.hid hstI
 have HPZ := Lib.hid hpz
 have HPS := Lib.hid hps
 have HPB := Lib.hid hpbd
 have HXL := Lib.hid hxle
 have HDL := Lib.hid hdl
 have HDP := Lib.hid hdp
 have HLS := Lib.hid hlS
 have HLP := Lib.hid hlP
 have HLD := Lib.hid hlD
 have HPL := Lib.hid hpl
 have HTL := Lib.hid htl
 have HST := Lib.hid hst
 clear hW hp ht hR hpl htl hpb htb hstI hpz hps hpbd hxle hdl hdp hlS hlP hlD hst hB hrr hz1 hz2
 go_enter Tryz.func76, Tryz.ntmps76
 go_upto_region 1 with fail
 obtain ⟨W1, hW1⟩ : ∃ W1, w.alloc (.cells #[.slice aL wv.L.length cL, .slice aK wv.K.length cK, .slice aO wv.O.length cO, .slice aQ Q.length cQ, .slice aS wv.S.length cS, .slice aP wv.P.length cP, .slice aD wv.D.length cD] 77) = W1 := ⟨_, rfl⟩
 rw [hW1] at F1 ⊢
 clear hW1
 have c0_0 := F1.out.c 0 0 rfl rfl
 have c0_1 := F1.out.c 0 1 rfl rfl
 have c0_2 := F1.out.c 0 2 rfl rfl
 have c0_3 := F1.out.c 0 3 rfl rfl
 have c0_4 := F1.out.c 0 4 rfl rfl
 have c0_5 := F1.out.c 0 5 rfl rfl
 have c0_6 := F1.out.c 0 6 rfl rfl
 go_step3
 go_wp2
 go_step3
 go_wp2
 go_loopw [6, 7, 14] (fun s6 s7 s14 wr => ∃ k : Nat, k ≤ r ∧ s14 = .int .i64 k ∧ s6 = .int .i64 (wv.part pl tp k) ∧ s7 = .bool (decide (0 < k)) ∧ Hid (∀ j, j < k → wv.inB pl tp j = true) ∧ Hid (Fr w.heap.size w wr [(w.heap.size, [.slice aL wv.L.length cL, .slice aK wv.K.length cK, .slice aO wv.O.length cO, .slice aQ Q.length cQ, .slice aS wv.S.length cS, .slice aP wv.P.length cP, .slice aD wv.D.length cD])] [(.i64, aL, wv.L), (.i64, aK, wv.K), (.i64, aO, wv.O), (.i64, aS, wv.S), (.i64, aP, wv.P), (.i64, aD, wv.D), (.i64, ap, pl), (.i64, at_, tp)] [] [])) (fun _ _ s14 _ => r - (intOf s14).toNat)
 case atStart => exact ⟨0, Nat.zero_le _, rfl, by rw [HPZ.out], rfl, Lib.hid (fun j hj => absurd hj (by omega)), F1⟩
 case round =>
  obtain ⟨k, hk, rfl, rfl, rfl, HA, F2⟩ := hrel
  clear F1 c0_0 c0_1 c0_2 c0_3 c0_4 c0_5 c0_6
  obtain ⟨wo, rfl⟩ : ∃ x : World, x = wr := ⟨_, rfl⟩
  by_cases hlt : k < r
  ·skip
   have hpb := HPB.out k hk HA.out
   have hps := HPS.out k hlt
   have hxl := HXL.out k hlt
   have hdl := HDL.out k hlt
   have hdp := HDP.out k hlt
   have hxe : wv.x pl tp k = (pl[k]?.getD 0) * (wv.S[k]?.getD 0) + (tp[k]?.getD 0) * (wv.D[k]?.getD 0) - wv.P[k]?.getD 0 := rfl
   have hin : wv.inB pl tp k = (decide (0 ≤ wv.x pl tp k) && decide (wv.x pl tp k < wv.L[k]?.getD 0)) := rfl
   have hkL : k < wv.L.length := by rw [HRR.out]; exact hlt
   have hkLi : (k : Int) < (wv.L.length : Int) := by omega
   obtain ⟨bL, oL, rfl, _, hcL⟩ := (F2.out.l 0 rfl).cell k hkL
   obtain ⟨el, hel⟩ : ∃ z, wv.L[k]?.getD 0 = z := ⟨_, rfl⟩
   have hkS : k < wv.S.length := by rw [HLS.out]; exact hlt
   have hkSi : (k : Int) < (wv.S.length : Int) := by omega
   obtain ⟨bS, oS, rfl, _, hcS⟩ := (F2.out.l 3 rfl).cell k hkS
   obtain ⟨es, hes⟩ : ∃ z, wv.S[k]?.getD 0 = z := ⟨_, rfl⟩
   have hkP : k < wv.P.length := by rw [HLP.out]; exact hlt
   have hkPi : (k : Int) < (wv.P.length : Int) := by omega
   obtain ⟨bP, oP, rfl, _, hcP⟩ := (F2.out.l 4 rfl).cell k hkP
   obtain ⟨ep, hep⟩ : ∃ z, wv.P[k]?.getD 0 = z := ⟨_, rfl⟩
   have hkD : k < wv.D.length := by rw [HLD.out]; exact hlt
   have hkDi : (k : Int) < (wv.D.length : Int) := by omega
   obtain ⟨bD, oD, rfl, _, hcD⟩ := (F2.out.l 5 rfl).cell k hkD
   obtain ⟨ed, hed⟩ : ∃ z, wv.D[k]?.getD 0 = z := ⟨_, rfl⟩
   have hkp : k < pl.length := by rw [HPL.out]; exact hlt
   have hkpi : (k : Int) < (pl.length : Int) := by omega
   obtain ⟨bp, op, rfl, _, hcp⟩ := (F2.out.l 6 rfl).cell k hkp
   obtain ⟨yp, hyp⟩ : ∃ z, pl[k]?.getD 0 = z := ⟨_, rfl⟩
   have hkt : k < tp.length := by rw [HTL.out]; exact hlt
   have hkti : (k : Int) < (tp.length : Int) := by omega
   obtain ⟨bt, ot, rfl, _, hct⟩ := (F2.out.l 7 rfl).cell k hkt
   obtain ⟨yt, hyt⟩ : ∃ z, tp[k]?.getD 0 = z := ⟨_, rfl⟩
   simp only [hel, hes, hep, hed, hyp, hyt] at hps hxl hdl hdp hin hxe
   rw [hel] at hcL
   rw [hes] at hcS
   rw [hep] at hcP
   rw [hed] at hcD
   rw [hyp] at hcp
   rw [hyt] at hct
   have Hel := Lib.hid hel
   have Hes := Lib.hid hes
   have Hep := Lib.hid hep
   have Hed := Lib.hid hed
   have Hyp := Lib.hid hyp
   have Hyt := Lib.hid hyt
   obtain ⟨X, hX⟩ : ∃ z, wv.x pl tp k = z := ⟨_, rfl⟩
   obtain ⟨pk, hpk⟩ : ∃ z, wv.part pl tp k = z := ⟨_, rfl⟩
   obtain ⟨A, hA⟩ : ∃ z, yp * es = z := ⟨_, rfl⟩
   obtain ⟨C, hC⟩ : ∃ z, yt * ed = z := ⟨_, rfl⟩
   obtain ⟨E, hE⟩ : ∃ z, pk * el = z := ⟨_, rfl⟩
   rw [hX, hpk, hE] at hps
   rw [hX] at hin hxe
   rw [hA, hC] at hxe hxl
   rw [hpk] at hpb ⊢
   have hEb := mul_le4096 (A := 16777216) (B := 4096) hpb.1 (by omega) (by omega : 0 ≤ el) hdl.2
   rw [hE] at hEb
   have HW1 := Lib.hid (show IntKind.i64.wrap (yp * es) = A by rw [hA]; exact IntWalk.i64_in _ (by omega))
   have HW2 := Lib.hid (show IntKind.i64.wrap (yt * ed) = C by rw [hC]; exact IntWalk.i64_in _ (by omega))
   have HW3 := Lib.hid (show IntKind.i64.wrap (A + C) = A + C from IntWalk.i64_in _ (by omega))
   have HW4 := Lib.hid (show IntKind.i64.wrap (A + C - ep) = X by rw [hxe]; exact IntWalk.i64_in _ (by omega))
   have hbE : -9223372036854775808 ≤ E ∧ E ≤ 9223372036854775807 := by omega
   have hXb : -16777217 ≤ X ∧ X ≤ 100000000 := by omega
   have HIN := Lib.hid hin
   have HPK := Lib.hid hpk.symm
   have HPS2 := Lib.hid hps
   have HE := Lib.hid hE
   have HEB := Lib.hid hEb
   have HXB := Lib.hid hXb
   have hk0 : (0 : Int) ≤ (k : Int) := by omega
   clear hin hps hE hEb hX hpk hA hC hxl hdp hpb hxe hXb hbE hel hes hep hed hyp hyt
   have c0_0 := F2.out.c 0 0 rfl rfl
   have c0_1 := F2.out.c 0 1 rfl rfl
   have c0_2 := F2.out.c 0 2 rfl rfl
   have c0_3 := F2.out.c 0 3 rfl rfl
   have c0_4 := F2.out.c 0 4 rfl rfl
   have c0_5 := F2.out.c 0 5 rfl rfl
   have c0_6 := F2.out.c 0 6 rfl rfl
   go_upto_region 4 with fail
   refine wp_region_inv (w := wo) 31 (fun _ _ => True) (fun _ W => Fr w.heap.size w W [(w.heap.size, [.slice (some ⟨bL, oL, none⟩) wv.L.length cL, .slice aK wv.K.length cK, .slice aO wv.O.length cO, .slice aQ Q.length cQ, .slice (some ⟨bS, oS, none⟩) wv.S.length cS, .slice (some ⟨bP, oP, none⟩) wv.P.length cP, .slice (some ⟨bD, oD, none⟩) wv.D.length cD])] [(.i64, (some ⟨bL, oL, none⟩), wv.L), (.i64, aK, wv.K), (.i64, aO, wv.O), (.i64, (some ⟨bS, oS, none⟩), wv.S), (.i64, (some ⟨bP, oP, none⟩), wv.P), (.i64, (some ⟨bD, oD, none⟩), wv.D), (.i64, (some ⟨bp, op, none⟩), pl), (.i64, (some ⟨bt, ot, none⟩), tp)] [] []) [] [(fun u _ => u = .slice (some ⟨bp, op, none⟩) pl.length cp), (fun u _ => u = .int .i64 (k : Int)), (fun u _ => u = .pointer (some ⟨bp, op + k, none⟩)), (fun u _ => u = .int .i64 yp), (fun u _ => u = .pointer (some ⟨w.heap.size, 3, none⟩)), (fun u _ => u = .pointer (some ⟨w.heap.size, 4, none⟩)), (fun u _ => u = .slice (some ⟨bS, oS, none⟩) wv.S.length cS), (fun u _ => u = .int .i64 (k : Int)), (fun u _ => u = .pointer (some ⟨bS, oS + k, none⟩)), (fun u _ => u = .int .i64 es), (fun u _ => u = .int .i64 A), (fun u _ => u = .slice (some ⟨bt, ot, none⟩) tp.length ct), (fun u _ => u = .int .i64 (k : Int)), (fun u _ => u = .pointer (some ⟨bt, ot + k, none⟩)), (fun u _ => u = .int .i64 yt), (fun u _ => u = .pointer (some ⟨w.heap.size, 3, none⟩)), (fun u _ => u = .pointer (some ⟨w.heap.size, 6, none⟩)), (fun u _ => u = .slice (some ⟨bD, oD, none⟩) wv.D.length cD), (fun u _ => u = .int .i64 (k : Int)), (fun u _ => u = .pointer (some ⟨bD, oD + k, none⟩)), (fun u _ => u = .int .i64 ed), (fun u _ => u = .int .i64 C), (fun u _ => u = .int .i64 (A + C)), (fun u _ => u = .pointer (some ⟨w.heap.size, 3, none⟩)), (fun u _ => u = .pointer (some ⟨w.heap.size, 5, none⟩)), (fun u _ => u = .slice (some ⟨bP, oP, none⟩) wv.P.length cP), (fun u _ => u = .int .i64 (k : Int)), (fun u _ => u = .pointer (some ⟨bP, oP + k, none⟩)), (fun u _ => u = .int .i64 ep), (fun u _ => u = .int .i64 X), (fun u _ => u = .int .i64 X)] [some 19, some 20, some 21, some 22, some 23, some 24, some 25, some 26, some 27, some 28, some 29, some 30, some 31, some 32, some 33, some 34, some 35, some 36, some 37, some 38, some 39, some 40, some 41, some 42, some 43, some 44, some 45, some 46, some 47, some 48, some 10] (by kernel_rfl) (by kernel_rfl) rfl (by kernel_rfl) (by kernel_rfl) (by decide) (by decide) (fun _ _ => trivial) trivial F2.out.drew (BorneAll.at (.cons (borne_eq _) (.cons (borne_eq _) (.cons (borne_eq _) (.cons (borne_eq _) (.cons (borne_eq _) (.cons (borne_eq _) (.cons (borne_eq _) (.cons (borne_eq _) (.cons (borne_eq _) (.cons (borne_eq _) (.cons (borne_eq _) (.cons (borne_eq _) (.cons (borne_eq _) (.cons (borne_eq _) (.cons (borne_eq _) (.cons (borne_eq _) (.cons (borne_eq _) (.cons (borne_eq _) (.cons (borne_eq _) (.cons (borne_eq _) (.cons (borne_eq _) (.cons (borne_eq _) (.cons (borne_eq _) (.cons (borne_eq _) (.cons (borne_eq _) (.cons (borne_eq _) (.cons (borne_eq _) (.cons (borne_eq _) (.cons (borne_eq _) (.cons (borne_eq _) (.cons (borne_eq _) .nil)))))))))))))))))))))))))))))))) (fun vs b hvl hvb => ?_)
   obtain ⟨x0, x1, x2, x3, x4, x5, x6, x7, x8, x9, x10, x11, x12, x13, x14, x15, x16, x17, x18, x19, x20, x21, x22, x23, x24, x25, x26, x27, x28, x29, x30, rfl⟩ : ∃ x0 x1 x2 x3 x4 x5 x6 x7 x8 x9 x10 x11 x12 x13 x14 x15 x16 x17 x18 x19 x20 x21 x22 x23 x24 x25 x26 x27 x28 x29 x30, vs = [x0, x1, x2, x3, x4, x5, x6, x7, x8, x9, x10, x11, x12, x13, x14, x15, x16, x17, x18, x19, x20, x21, x22, x23, x24, x25, x26, x27, x28, x29, x30] := lw31 hvl
   clear hvl
   simp only [putAll, Act.put, List.setIfInBounds_toArray, List.set_cons_zero, List.set_cons_succ] at hvb
   subst hvb
   refine ⟨(.snoc (.snoc (.snoc (.snoc (.snoc (.snoc (.snoc (.snoc (.snoc (.snoc (.snoc (.snoc (.snoc (.snoc (.snoc (.snoc (.snoc (.snoc (.snoc (.snoc (.snoc (.snoc (.snoc (.snoc (.snoc (.snoc (.snoc (.snoc (.snoc (.snoc (.snoc .zero (InvOb.intro (d := (some 19)) (r := fun u _ => u = .slice (some ⟨bp, op, none⟩) pl.length cp) 0 0 rfl rfl rfl (by kernel_rfl) (by kernel_rfl) rfl ?io4x0)) (InvOb.intro (d := (some 20)) (r := fun u _ => u = .int .i64 (k : Int)) 0 0 rfl rfl rfl (by kernel_rfl) (by kernel_rfl) rfl ?io4x1)) (InvOb.intro (d := (some 21)) (r := fun u _ => u = .pointer (some ⟨bp, op + k, none⟩)) 0 0 rfl rfl rfl (by kernel_rfl) (by kernel_rfl) rfl ?io4x2)) (InvOb.intro (d := (some 22)) (r := fun u _ => u = .int .i64 yp) 0 0 rfl rfl rfl (by kernel_rfl) (by kernel_rfl) rfl ?io4x3)) (InvOb.intro (d := (some 23)) (r := fun u _ => u = .pointer (some ⟨w.heap.size, 3, none⟩)) 0 0 rfl rfl rfl (by kernel_rfl) (by kernel_rfl) rfl ?io4x4)) (InvOb.intro (d := (some 24)) (r := fun u _ => u = .pointer (some ⟨w.heap.size, 4, none⟩)) 0 0 rfl rfl rfl (by kernel_rfl) (by kernel_rfl) rfl ?io4x5)) (InvOb.intro (d := (some 25)) (r := fun u _ => u = .slice (some ⟨bS, oS, none⟩) wv.S.length cS) 0 0 rfl rfl rfl (by kernel_rfl) (by kernel_rfl) rfl ?io4x6)) (InvOb.intro (d := (some 26)) (r := fun u _ => u = .int .i64 (k : Int)) 0 0 rfl rfl rfl (by kernel_rfl) (by kernel_rfl) rfl ?io4x7)) (InvOb.intro (d := (some 27)) (r := fun u _ => u = .pointer (some ⟨bS, oS + k, none⟩)) 0 0 rfl rfl rfl (by kernel_rfl) (by kernel_rfl) rfl ?io4x8)) (InvOb.intro (d := (some 28)) (r := fun u _ => u = .int .i64 es) 0 0 rfl rfl rfl (by kernel_rfl) (by kernel_rfl) rfl ?io4x9)) (InvOb.intro (d := (some 29)) (r := fun u _ => u = .int .i64 A) 0 0 rfl rfl rfl (by kernel_rfl) (by kernel_rfl) rfl ?io4x10)) (InvOb.intro (d := (some 30)) (r := fun u _ => u = .slice (some ⟨bt, ot, none⟩) tp.length ct) 0 0 rfl rfl rfl (by kernel_rfl) (by kernel_rfl) rfl ?io4x11)) (InvOb.intro (d := (some 31)) (r := fun u _ => u = .int .i64 (k : Int)) 0 0 rfl rfl rfl (by kernel_rfl) (by kernel_rfl) rfl ?io4x12)) (InvOb.intro (d := (some 32)) (r := fun u _ => u = .pointer (some ⟨bt, ot + k, none⟩)) 0 0 rfl rfl rfl (by kernel_rfl) (by kernel_rfl) rfl ?io4x13)) (InvOb.intro (d := (some 33)) (r := fun u _ => u = .int .i64 yt) 0 0 rfl rfl rfl (by kernel_rfl) (by kernel_rfl) rfl ?io4x14)) (InvOb.intro (d := (some 34)) (r := fun u _ => u = .pointer (some ⟨w.heap.size, 3, none⟩)) 0 0 rfl rfl rfl (by kernel_rfl) (by kernel_rfl) rfl ?io4x15)) (InvOb.intro (d := (some 35)) (r := fun u _ => u = .pointer (some ⟨w.heap.size, 6, none⟩)) 0 0 rfl rfl rfl (by kernel_rfl) (by kernel_rfl) rfl ?io4x16)) (InvOb.intro (d := (some 36)) (r := fun u _ => u = .slice (some ⟨bD, oD, none⟩) wv.D.length cD) 0 0 rfl rfl rfl (by kernel_rfl) (by kernel_rfl) rfl ?io4x17)) (InvOb.intro (d := (some 37)) (r := fun u _ => u = .int .i64 (k : Int)) 0 0 rfl rfl rfl (by kernel_rfl) (by kernel_rfl) rfl ?io4x18)) (InvOb.intro (d := (some 38)) (r := fun u _ => u = .pointer (some ⟨bD, oD + k, none⟩)) 0 0 rfl rfl rfl (by kernel_rfl) (by kernel_rfl) rfl ?io4x19)) (InvOb.intro (d := (some 39)) (r := fun u _ => u = .int .i64 ed) 0 0 rfl rfl rfl (by kernel_rfl) (by kernel_rfl) rfl ?io4x20)) (InvOb.intro (d := (some 40)) (r := fun u _ => u = .int .i64 C) 0 0 rfl rfl rfl (by kernel_rfl) (by kernel_rfl) rfl ?io4x21)) (InvOb.intro (d := (some 41)) (r := fun u _ => u = .int .i64 (A + C)) 0 0 rfl rfl rfl (by kernel_rfl) (by kernel_rfl) rfl ?io4x22)) (InvOb.intro (d := (some 42)) (r := fun u _ => u = .pointer (some ⟨w.heap.size, 3, none⟩)) 0 0 rfl rfl rfl (by kernel_rfl) (by kernel_rfl) rfl ?io4x23)) (InvOb.intro (d := (some 43)) (r := fun u _ => u = .pointer (some ⟨w.heap.size, 5, none⟩)) 0 0 rfl rfl rfl (by kernel_rfl) (by kernel_rfl) rfl ?io4x24)) (InvOb.intro (d := (some 44)) (r := fun u _ => u = .slice (some ⟨bP, oP, none⟩) wv.P.length cP) 0 0 rfl rfl rfl (by kernel_rfl) (by kernel_rfl) rfl ?io4x25)) (InvOb.intro (d := (some 45)) (r := fun u _ => u = .int .i64 (k : Int)) 0 0 rfl rfl rfl (by kernel_rfl) (by kernel_rfl) rfl ?io4x26)) (InvOb.intro (d := (some 46)) (r := fun u _ => u = .pointer (some ⟨bP, oP + k, none⟩)) 0 0 rfl rfl rfl (by kernel_rfl) (by kernel_rfl) rfl ?io4x27)) (InvOb.intro (d := (some 47)) (r := fun u _ => u = .int .i64 ep) 0 0 rfl rfl rfl (by kernel_rfl) (by kernel_rfl) rfl ?io4x28)) (InvOb.intro (d := (some 48)) (r := fun u _ => u = .int .i64 X) 0 0 rfl rfl rfl (by kernel_rfl) (by kernel_rfl) rfl ?io4x29)) (InvOb.intro (d := (some 10)) (r := fun u _ => u = .int .i64 X) 0 0 rfl rfl rfl (by kernel_rfl) (by kernel_rfl) rfl ?io4x30)), ?iend4⟩
   case io4x0 =>
    intro k1 w1 hk0 hk1 hb1 hS hd KK hK
    go_simp
    exact hK.out _ _ trivial hS rfl
   case io4x1 =>
    intro k1 w1 hk0 hk1 hb1 hS hd KK hK
    go_simp
    exact hK.out _ _ trivial hS rfl
   case io4x2 =>
    intro k1 w1 hk0 hk1 hb1 hS hd KK hK
    obtain rfl := hd 0 (by kernel_rfl)
    obtain rfl := hd 1 (by kernel_rfl)
    go_simp
    exact hK.out _ _ trivial hS rfl
   case io4x3 =>
    intro k1 w1 hk0 hk1 hb1 hS hd KK hK
    obtain rfl := hd 2 (by kernel_rfl)
    obtain ⟨b9, o9, he, _, hcx⟩ := (hS.l 6 rfl).cell k hkp
    cases he
    rw [Hyp.out] at hcx
    go_simp
    exact hK.out _ _ trivial hS rfl
   case io4x4 =>
    intro k1 w1 hk0 hk1 hb1 hS hd KK hK
    go_simp
    exact hK.out _ _ trivial hS rfl
   case io4x5 =>
    intro k1 w1 hk0 hk1 hb1 hS hd KK hK
    obtain rfl := hd 4 (by kernel_rfl)
    go_simp
    exact hK.out _ _ trivial hS rfl
   case io4x6 =>
    intro k1 w1 hk0 hk1 hb1 hS hd KK hK
    obtain rfl := hd 5 (by kernel_rfl)
    have k0 := hS.c 0 4 rfl rfl
    go_simp
    exact hK.out _ _ trivial hS rfl
   case io4x7 =>
    intro k1 w1 hk0 hk1 hb1 hS hd KK hK
    go_simp
    exact hK.out _ _ trivial hS rfl
   case io4x8 =>
    intro k1 w1 hk0 hk1 hb1 hS hd KK hK
    obtain rfl := hd 6 (by kernel_rfl)
    obtain rfl := hd 7 (by kernel_rfl)
    go_simp
    exact hK.out _ _ trivial hS rfl
   case io4x9 =>
    intro k1 w1 hk0 hk1 hb1 hS hd KK hK
    obtain rfl := hd 8 (by kernel_rfl)
    obtain ⟨b9, o9, he, _, hcx⟩ := (hS.l 3 rfl).cell k hkS
    cases he
    rw [Hes.out] at hcx
    go_simp
    exact hK.out _ _ trivial hS rfl
   case io4x10 =>
    intro k1 w1 hk0 hk1 hb1 hS hd KK hK
    obtain rfl := hd 3 (by kernel_rfl)
    obtain rfl := hd 9 (by kernel_rfl)
    have dx := HW1.out
    go_simp
    exact hK.out _ _ trivial hS rfl
   case io4x11 =>
    intro k1 w1 hk0 hk1 hb1 hS hd KK hK
    go_simp
    exact hK.out _ _ trivial hS rfl
   case io4x12 =>
    intro k1 w1 hk0 hk1 hb1 hS hd KK hK
    go_simp
    exact hK.out _ _ trivial hS rfl
   case io4x13 =>
    intro k1 w1 hk0 hk1 hb1 hS hd KK hK
    obtain rfl := hd 11 (by kernel_rfl)
    obtain rfl := hd 12 (by kernel_rfl)
    go_simp
    exact hK.out _ _ trivial hS rfl
   case io4x14 =>
    intro k1 w1 hk0 hk1 hb1 hS hd KK hK
    obtain rfl := hd 13 (by kernel_rfl)
    obtain ⟨b9, o9, he, _, hcx⟩ := (hS.l 7 rfl).cell k hkt
    cases he
    rw [Hyt.out] at hcx
    go_simp
    exact hK.out _ _ trivial hS rfl
   case io4x15 =>
    intro k1 w1 hk0 hk1 hb1 hS hd KK hK
    go_simp
    exact hK.out _ _ trivial hS rfl
   case io4x16 =>
    intro k1 w1 hk0 hk1 hb1 hS hd KK hK
    obtain rfl := hd 15 (by kernel_rfl)
    go_simp
    exact hK.out _ _ trivial hS rfl
   case io4x17 =>
    intro k1 w1 hk0 hk1 hb1 hS hd KK hK
    obtain rfl := hd 16 (by kernel_rfl)
    have k0 := hS.c 0 6 rfl rfl
    go_simp
    exact hK.out _ _ trivial hS rfl
   case io4x18 =>
    intro k1 w1 hk0 hk1 hb1 hS hd KK hK
    go_simp
    exact hK.out _ _ trivial hS rfl
   case io4x19 =>
    intro k1 w1 hk0 hk1 hb1 hS hd KK hK
    obtain rfl := hd 17 (by kernel_rfl)
    obtain rfl := hd 18 (by kernel_rfl)
    go_simp
    exact hK.out _ _ trivial hS rfl
   case io4x20 =>
    intro k1 w1 hk0 hk1 hb1 hS hd KK hK
    obtain rfl := hd 19 (by kernel_rfl)
    obtain ⟨b9, o9, he, _, hcx⟩ := (hS.l 5 rfl).cell k hkD
    cases he
    rw [Hed.out] at hcx
    go_simp
    exact hK.out _ _ trivial hS rfl
   case io4x21 =>
    intro k1 w1 hk0 hk1 hb1 hS hd KK hK
    obtain rfl := hd 14 (by kernel_rfl)
    obtain rfl := hd 20 (by kernel_rfl)
    have dx := HW2.out
    go_simp
    exact hK.out _ _ trivial hS rfl
   case io4x22 =>
    intro k1 w1 hk0 hk1 hb1 hS hd KK hK
    obtain rfl := hd 10 (by kernel_rfl)
    obtain rfl := hd 21 (by kernel_rfl)
    have dx := HW3.out
    go_simp
    exact hK.out _ _ trivial hS rfl
   case io4x23 =>
    intro k1 w1 hk0 hk1 hb1 hS hd KK hK
    go_simp
    exact hK.out _ _ trivial hS rfl
   case io4x24 =>
    intro k1 w1 hk0 hk1 hb1 hS hd KK hK
    obtain rfl := hd 23 (by kernel_rfl)
    go_simp
    exact hK.out _ _ trivial hS rfl
   case io4x25 =>
    intro k1 w1 hk0 hk1 hb1 hS hd KK hK
    obtain rfl := hd 24 (by kernel_rfl)
    have k0 := hS.c 0 5 rfl rfl
    go_simp
    exact hK.out _ _ trivial hS rfl
   case io4x26 =>
    intro k1 w1 hk0 hk1 hb1 hS hd KK hK
    go_simp
    exact hK.out _ _ trivial hS rfl
   case io4x27 =>
    intro k1 w1 hk0 hk1 hb1 hS hd KK hK
    obtain rfl := hd 25 (by kernel_rfl)
    obtain rfl := hd 26 (by kernel_rfl)
    go_simp
    exact hK.out _ _ trivial hS rfl
   case io4x28 =>
    intro k1 w1 hk0 hk1 hb1 hS hd KK hK
    obtain rfl := hd 27 (by kernel_rfl)
    obtain ⟨b9, o9, he, _, hcx⟩ := (hS.l 4 rfl).cell k hkP
    cases he
    rw [Hep.out] at hcx
    go_simp
    exact hK.out _ _ trivial hS rfl
   case io4x29 =>
    intro k1 w1 hk0 hk1 hb1 hS hd KK hK
    obtain rfl := hd 22 (by kernel_rfl)
    obtain rfl := hd 28 (by kernel_rfl)
    have dx := HW4.out
    go_simp
    exact hK.out _ _ trivial hS rfl
   case io4x30 =>
    intro k1 w1 hk0 hk1 hb1 hS hd KK hK
    obtain rfl := hd 0 (by kernel_rfl)
    obtain rfl := hd 1 (by kernel_rfl)
    obtain rfl := hd 2 (by kernel_rfl)
    obtain rfl := hd 3 (by kernel_rfl)
    obtain rfl := hd 4 (by kernel_rfl)
    obtain rfl := hd 5 (by kernel_rfl)
    obtain rfl := hd 6 (by kernel_rfl)
    obtain rfl := hd 7 (by kernel_rfl)
    obtain rfl := hd 8 (by kernel_rfl)
    obtain rfl := hd 9 (by kernel_rfl)
    obtain rfl := hd 10 (by kernel_rfl)
    obtain rfl := hd 11 (by kernel_rfl)
    obtain rfl := hd 12 (by kernel_rfl)
    obtain rfl := hd 13 (by kernel_rfl)
    obtain rfl := hd 14 (by kernel_rfl)
    obtain rfl := hd 15 (by kernel_rfl)
    obtain rfl := hd 16 (by kernel_rfl)
    obtain rfl := hd 17 (by kernel_rfl)
    obtain rfl := hd 18 (by kernel_rfl)
    obtain rfl := hd 19 (by kernel_rfl)
    obtain rfl := hd 20 (by kernel_rfl)
    obtain rfl := hd 21 (by kernel_rfl)
    obtain rfl := hd 22 (by kernel_rfl)
    obtain rfl := hd 23 (by kernel_rfl)
    obtain rfl := hd 24 (by kernel_rfl)
    obtain rfl := hd 25 (by kernel_rfl)
    obtain rfl := hd 26 (by kernel_rfl)
    obtain rfl := hd 27 (by kernel_rfl)
    obtain rfl := hd 28 (by kernel_rfl)
    obtain rfl := hd 29 (by kernel_rfl)
    go_simp
    exact hK.out _ _ trivial hS rfl
   case iend4 =>
    intro w1 hb1 hS hR
    obtain rfl := hR 0 (by decide)
    obtain rfl := hR 1 (by decide)
    obtain rfl := hR 2 (by decide)
    obtain rfl := hR 3 (by decide)
    obtain rfl := hR 4 (by decide)
    obtain rfl := hR 5 (by decide)
    obtain rfl := hR 6 (by decide)
    obtain rfl := hR 7 (by decide)
    obtain rfl := hR 8 (by decide)
    obtain rfl := hR 9 (by decide)
    obtain rfl := hR 10 (by decide)
    obtain rfl := hR 11 (by decide)
    obtain rfl := hR 12 (by decide)
    obtain rfl := hR 13 (by decide)
    obtain rfl := hR 14 (by decide)
    obtain rfl := hR 15 (by decide)
    obtain rfl := hR 16 (by decide)
    obtain rfl := hR 17 (by decide)
    obtain rfl := hR 18 (by decide)
    obtain rfl := hR 19 (by decide)
    obtain rfl := hR 20 (by decide)
    obtain rfl := hR 21 (by decide)
    obtain rfl := hR 22 (by decide)
    obtain rfl := hR 23 (by decide)
    obtain rfl := hR 24 (by decide)
    obtain rfl := hR 25 (by decide)
    obtain rfl := hR 26 (by decide)
    obtain rfl := hR 27 (by decide)
    obtain rfl := hR 28 (by decide)
    obtain rfl := hR 29 (by decide)
    obtain rfl := hR 30 (by decide)
    clear hR
    have F3 := Lib.hid hS
    clear hS hb1 F2 c0_0 c0_1 c0_2 c0_3 c0_4 c0_5 c0_6
    obtain ⟨V3, rfl⟩ : ∃ x : World, x = w1 := ⟨_, rfl⟩
    by_cases hx0 : X < 0
    ·skip
     have hbf : B = false := by
      cases hB : B with
      | false => rfl
      | true =>
       have h9 := HST.out.1 hB k hlt
       rw [HIN.out, decide_eq_false (by omega : ¬ 0 ≤ X), Bool.false_and] at h9
       exact absurd h9 (by simp)
     subst hbf
     have d0 : ¬ (0 : Int) ≤ X := by omega
     go_wp2
     have hze : z = pk := by rw [HPK.out]; exact HZ2.out k hlt (by rw [HIN.out, decide_eq_false (by omega : ¬ 0 ≤ X), Bool.false_and]) HA.out
     go_ret2
     exact ⟨by rw [hze]; rfl, F3.out.bel⟩
    ·skip
     have d0 : (0 : Int) ≤ X := by omega
     by_cases hx1 : el ≤ X
     ·skip
      have hbf : B = false := by
       cases hB : B with
       | false => rfl
       | true =>
        have h9 := HST.out.1 hB k hlt
        rw [HIN.out, decide_eq_false (by omega : ¬ X < el), Bool.and_false] at h9
        exact absurd h9 (by simp)
      subst hbf
      have d1 : ¬ X < el := by omega
      go_wp2
      have hze : z = pk := by rw [HPK.out]; exact HZ2.out k hlt (by rw [HIN.out, decide_eq_false (by omega : ¬ X < el), Bool.and_false]) HA.out
      go_ret2
      exact ⟨by rw [hze]; rfl, F3.out.bel⟩
     ·skip
      have HA2 : Hid (∀ j, j < k + 1 → wv.inB pl tp j = true) := Lib.hid (fun j hj => by
       by_cases hjk : j < k
       ·exact HA.out j hjk
       ·obtain rfl : j = k := by omega
        rw [HIN.out, decide_eq_true d0, decide_eq_true (by omega : X < el)]; rfl)
      have d1 : X < el := by omega
      have r1 : ∀ [Inhabited Unit], RowKit.wrap64 (pk * el) = E := by intro _; rw [HE.out]; have := HEB.out; exact IntWalk.wrap64_in _ ⟨by omega, by omega⟩
      have r2 : ∀ [Inhabited Unit], RowKit.wrap64 (E + X) = wv.part pl tp (k + 1) := by intro _; rw [HPS2.out]; have := HEB.out; have := HXB.out; exact IntWalk.wrap64_in _ ⟨by omega, by omega⟩
      have r3 : ∀ [Inhabited Unit], RowKit.wrap64 (pk * el + X) = wv.part pl tp (k + 1) := by intro _; rw [HE.out]; exact r2
      go_wp2
      go_roundw
      case rel => exact ⟨k + 1, by omega, by go_num, by rw [r2], by simp, HA2, F3⟩
      case measure => simp [intOf]; omega
  ·obtain rfl : k = r := by omega
   have hbt : B = true := HST.out.2 HA.out
   subst hbt
   have hk1 : 0 < k := hr
   have hkn : ¬ (k : Int) < (wv.L.length : Int) := by have := HRR.out; omega
   go_wp2
   go_ret2
   have hze : z = wv.stI pl tp := by first | exact HZ1.out trivial | exact HZ1.out rfl
   exact ⟨by rw [hze, ← HPI.out]; rfl, F2.out.bel⟩
end Go.Proofs.YtadlnmckcnfacaaGreat
