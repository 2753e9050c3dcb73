import Derived.Test.YtadlnmckcnfacaaGreatVCxR
import Derived.Test.YtadlnmckcnfacaaGreatVCoJ
import Derived.Test.YtadlnmckcnfacaaGreatVCoV
import Derived.Test.YtadlnmckcnfacaaGreatVCoY
import Derived.Test.YtadlnmckcnfacaaGreatVRdV
set_option linter.unusedVariables false
set_option linter.unusedSimpArgs false
namespace Go.Proofs.YtadlnmckcnfacaaGreat
open Go.RowKit Go.Rt
attribute [local go_sem] Oper.semAt_some
theorem frNe {lo : Nat} {w wr : World} {B : List (Nat × List Value)} {I : List (IntKind × Option Addr × List Int)} {O : List Row} {M : List (Nat × Obj)} (h : Fr lo w wr B I O M) (i j : Nat) (hij : i < j) {q r : Row} (hi : O[i]? = some q) (hj : O[j]? = some r) : ∀ g, q.v.ownBlock = some g → r.v.ownBlock ≠ some g := by
 obtain ⟨h1, e1⟩ := List.getElem?_eq_some_iff.1 hi
 obtain ⟨h2, e2⟩ := List.getElem?_eq_some_iff.1 hj
 have := List.pairwise_iff_getElem.1 h.apO i j h1 h2 hij
 rw [e1, e2] at this
 exact this
theorem rmayF_any (f : Int) (w : World) : Calls Tryz.prog 6 #[.int .i64 f] w fun r w' => r = .returned (.bool (decide (8 ≤ f) && decide (f ≤ 32))) ∧ w = w' := by
 by_cases h1 : 8 ≤ f
 ·by_cases h2 : f ≤ 32
  ·go_enter Tryz.func6, Tryz.ntmps6
   go_wp2
   go_ret
   exact ⟨by simp [h1, h2], rfl⟩
  ·go_enter Tryz.func6, Tryz.ntmps6
   go_wp2
   go_ret
   exact ⟨by simp [h1, h2], rfl⟩
 ·go_enter Tryz.func6, Tryz.ntmps6
  go_wp2
  go_ret
  exact ⟨by simp; omega, rfl⟩
theorem row_capE {W : World} {base : Nat} {e : TypeId} {a : Option Addr} {n c m : Nat} {xs : List Value} (h : W.ownsRow base e 1 (.slice a n c) m xs) : n ≤ c ∧ c ≤ 9223372036854775807 := by
 rcases h.2 with ⟨h1, _⟩ | ⟨g', cap, cur, h1, _, _, h2, h3, _⟩
 ·cases h1; exact ⟨Nat.le_refl _, by decide⟩
 ·cases h1
  exact ⟨h2, by unfold maxLen at h3; omega⟩
theorem rconv_all (a b a2 b2 aQ aS aP aD : Option Addr) (c d c2 dw cQ cS cP cD : Nat) (xs ys ws vs Q : List Int) (wv : WinV) (f : Int) (w : World) (h0 : Ints .i64 w w.heap.size a xs) (h1 : Ints .i64 w w.heap.size b ys) (h2 : Ints .i64 w w.heap.size a2 ws) (h3 : Ints .i64 w w.heap.size b2 vs) (h4 : Ints .i64 w w.heap.size aS wv.S) (h5 : Ints .i64 w w.heap.size aP wv.P) (h6 : Ints .i64 w w.heap.size aD wv.D) (hL : wv.L = xs.drop 2) (hK : wv.K = ws.drop 2) (hc3 : ws.length ≤ c2) (hc4 : c2 ≤ 9223372036854775807) (hff : formZ xs ys ws vs Q wv f = true) :
  Calls Tryz.prog 8 #[.agg #[.slice a xs.length c, .slice b ys.length d], .agg #[.slice a2 ws.length c2, .slice b2 vs.length dw], .agg #[.slice aQ Q.length cQ, .slice aS wv.S.length cS, .slice aP wv.P.length cP, .slice aD wv.D.length cD], .int .i64 f] w (RetTF w (zL (cvZ xs ys ws vs Q wv f) (coS xs ws wv)) (zL (cvZ xs ys ws vs Q wv f) ((List.range (cvN xs ws wv)).map (cvW xs ys ws vs wv f.toNat))) (cvZ xs ys ws vs Q wv f)) := by
 have hf : 8 ≤ f := by
  have h9 := hff
  simp only [formZ, Bool.and_eq_true, decide_eq_true_eq] at h9
  exact h9.1.2.1
 obtain ⟨fn, rfl⟩ : ∃ n : Nat, f = (n : Int) := ⟨f.toNat, by omega⟩
 rw [Int.toNat_natCast]
 by_cases hz : coutZ xs ws wv = 0
 ·exact rconv_ok a b a2 b2 aQ aS aP aD c d c2 dw Q.length cQ cS cP cD xs ys ws vs Q wv fn w (Lib.hid h0) (Lib.hid h1) (Lib.hid h2) (Lib.hid h3) (Lib.hid h4) (Lib.hid h5) (Lib.hid h6) hL hK hc3 hc4 hff hz
 ·have hcv : cvZ xs ys ws vs Q wv (fn : Int) = coutZ xs ws wv := by unfold cvZ; rw [if_pos hff, if_neg hz]
  rw [hcv, zL_ne _ hz, zL_ne _ hz]
  exact rconv_bad a b a2 b2 aQ aS aP aD c d c2 dw Q.length cQ cS cP cD xs ys ws vs Q wv fn w (Lib.hid h0) (Lib.hid h1) (Lib.hid h2) (Lib.hid h3) (Lib.hid h4) (Lib.hid h5) (Lib.hid h6) hL hK hc3 hc4 hff hz
theorem cv_ok {xs ys ws vs Q : List Int} {wv : WinV} {f : Int} (hL : wv.L = xs.drop 2) (hK : wv.K = ws.drop 2) : (∀ v ∈ zL (cvZ xs ys ws vs Q wv f) (coS xs ws wv), (Lit.int .i64 v).wf = true) ∧ (zL (cvZ xs ys ws vs Q wv f) (coS xs ws wv)).length ≤ 100000 ∧ (∀ v ∈ zL (cvZ xs ys ws vs Q wv f) ((List.range (cvN xs ws wv)).map (cvW xs ys ws vs wv f.toNat)), (Lit.int .i64 v).wf = true) ∧ (zL (cvZ xs ys ws vs Q wv f) ((List.range (cvN xs ws wv)).map (cvW xs ys ws vs wv f.toNat))).length ≤ 100000 ∧ (cvZ xs ys ws vs Q wv f ≠ 0 → zL (cvZ xs ys ws vs Q wv f) (coS xs ws wv) = [] ∧ zL (cvZ xs ys ws vs Q wv f) ((List.range (cvN xs ws wv)).map (cvW xs ys ws vs wv f.toNat)) = []) := by
 by_cases hz : cvZ xs ys ws vs Q wv f = 0
 ·have hff : formZ xs ys ws vs Q wv f = true := by
   by_cases h : formZ xs ys ws vs Q wv f = true
   ·exact h
   ·have h9 := hz; unfold cvZ at h9; rw [if_neg h] at h9; cases h9
  have hcz : coutZ xs ws wv = 0 := by
   by_cases h : coutZ xs ws wv = 0
   ·exact h
   ·have h9 := hz; unfold cvZ at h9; rw [if_pos hff, if_neg h] at h9; exact h9
  have hall : allW xs ys ws vs wv f.toNat = true := by
   by_cases h : allW xs ys ws vs wv f.toNat = true
   ·exact h
   ·have h9 := hz; unfold cvZ at h9; rw [if_pos hff, if_pos hcz, if_neg h] at h9; cases h9
  obtain ⟨_, R, K⟩ := conv_ok hL hK hff hcz
  have hg := K.gS
  have hb := goodB_iff.1 hg
  have hnn := K.hNN
  rw [hz, zL_0, zL_0]
  refine ⟨wf_dims (fun x hx => by have := goodB_dims hg x hx; omega), by omega, fun v hv => ?_, by rw [List.length_map, List.length_range]; omega, fun h => absurd rfl h⟩
  obtain ⟨i, hi, rfl⟩ := List.mem_map.1 hv
  have h9 := isW_iff.1 (List.all_eq_true.1 hall i hi)
  exact wf_i64_iff.2 ⟨by omega, by omega⟩
 ·rw [zL_ne _ hz, zL_ne _ hz]
  exact ⟨by simp, by simp, by simp, by simp, fun _ => ⟨rfl, rfl⟩⟩
set_option maxRecDepth 100000 in
set_option maxHeartbeats 8000000 in
theorem convExact_any (q : Option Addr) (n c0 : Nat) (w : World) (h : AsksAt11 w w.heap.size q n) :
  Calls Tryz.prog 3 #[.slice q n c0] w fun e w' => e = .returned (.bool true) ∧ Below w.heap.size w w' := by
 have hm := h.len
 go_enter Tryz.func3, Tryz.ntmps3
 go_wp2_with fail
 go_loopw [3] (fun i wr => ∃ k : Nat, k ≤ n ∧ i = .int .i64 k ∧ Below w.heap.size w wr) (fun i _ => n - (intOf i).toNat)
 case atStart => exact ⟨0, Nat.zero_le _, rfl, Below.refl _ _⟩
 case round =>
  obtain ⟨k, hk, rfl, hbel⟩ := hrel
  obtain ⟨wo, rfl⟩ : ∃ wo : World, wo = wr := ⟨_, rfl⟩
  by_cases hend : k < n ∧ k < 4
  ·obtain ⟨hlt, h20⟩ := hend
   obtain ⟨b0, o_, ⟨a, c, b, d, xs, ys⟩, ⟨a2, c2, b2, dw, ws, vs⟩, aQ, aS, aP, aD, aI, aJ, cQ, cS, cP, cD, cI, cJ, Q, S, P, D, I, J, f, rfl, ht⟩ := h.at_ k hlt
   replace ht := ht.below hbel
   have hsz := hbel.size
   have HB := Lib.hid hbel
   obtain ⟨wv, hwv⟩ : ∃ v : WinV, v = ⟨xs.drop 2, ws.drop 2, S, P, D⟩ := ⟨_, rfl⟩
   obtain ⟨rfl, rfl, rfl⟩ : S = wv.S ∧ P = wv.P ∧ D = wv.D := by rw [hwv]; exact ⟨rfl, rfl, rfl⟩
   have HL := Lib.hid (show wv.L = xs.drop 2 by rw [hwv])
   have HK := Lib.hid (show wv.K = ws.drop 2 by rw [hwv])
   clear hwv
   have tA := ht.tA
   have tB := ht.tB
   dsimp only at tA tB
   have HI0 := Lib.hid (tA.sh.mono hsz)
   have HI1 := Lib.hid (tA.da.mono hsz)
   have HI2 := Lib.hid (tB.sh.mono hsz)
   have HI3 := Lib.hid (tB.da.mono hsz)
   have HI4 := Lib.hid (ht.tQ.mono hsz)
   have HI5 := Lib.hid (ht.tS.mono hsz)
   have HI6 := Lib.hid (ht.tP.mono hsz)
   have HI7 := Lib.hid (ht.tD.mono hsz)
   have HI8 := Lib.hid (ht.tI.mono hsz)
   have HI9 := Lib.hid (ht.tJ.mono hsz)
   have HF9 := Lib.hid (And.intro ht.f0 ht.f1)
   have HC1 := Lib.hid (And.intro tA.c1 tA.c2)
   have HC2 := Lib.hid (And.intro tA.d1 tA.d2)
   have HC3 := Lib.hid (And.intro tB.c1 tB.c2)
   have HC4 := Lib.hid (And.intro tB.d1 tB.d2)
   have HHV := Lib.hid (fun W h0 h1 h2 h3 h4 h5 h6 h7 h8 h9 => heavy11_any a b a2 b2 aQ aS aP aD aI aJ c d c2 dw cQ cS cP cD cI cJ xs ys ws vs Q wv.S wv.P wv.D I J f W h0 h1 h2 h3 h4 h5 h6 h7 h8 h9 HC3.out.1)
   have HTX := Lib.hid (fun W (h : Ints .i64 W W.heap.size a xs) (h2 : Ints .i64 W W.heap.size b ys) => tenMay_any a b c d xs ys W h h2)
   have HTW := Lib.hid (fun W (h : Ints .i64 W W.heap.size a2 ws) (h2 : Ints .i64 W W.heap.size b2 vs) => tenMay_any a2 b2 c2 dw ws vs W h h2)

   have q0 := ht.c0
   have q1 := ht.c1
   have q2 := ht.c2
   have q3 := ht.c3
   have q4 := ht.c4
   have q5 := ht.c5
   have q6 := ht.c6
   have q7 := ht.c7
   have q8 := ht.c8
   have q9 := ht.c9
   have q10 := ht.c10
   dsimp only at q0 q1 q2 q3 q4 q5 q6 q7 q8 q9 q10
   clear ht tA tB hbel h
   have F1 := Lib.hid ((Fr.start (w := wo) (I := [(.i64, a, xs), (.i64, b, ys), (.i64, a2, ws), (.i64, b2, vs), (.i64, aQ, Q), (.i64, aS, wv.S), (.i64, aP, wv.P), (.i64, aD, wv.D), (.i64, aI, I), (.i64, aJ, J)]) (by intro z hz; simp at hz; rcases hz with rfl | rfl | rfl | rfl | rfl | rfl | rfl | rfl | rfl | rfl; exact HI0.out; exact HI1.out; exact HI2.out; exact HI3.out; exact HI4.out; exact HI5.out; exact HI6.out; exact HI7.out; exact HI8.out; exact HI9.out)).box1 (b := wo.heap.size) rfl [.slice a xs.length c, .slice b ys.length d, .slice a2 ws.length c2, .slice b2 vs.length dw, .slice aQ Q.length cQ, .slice aS wv.S.length cS, .slice aP wv.P.length cP, .slice aD wv.D.length cD, .slice aI I.length cI, .slice aJ J.length cJ, .int .i64 f] 30)
   simp only [List.nil_append] at F1
   clear HI0 HI1 HI2 HI3 HI4 HI5 HI6 HI7 HI8 HI9
   go_upto_region 5 with fail
   obtain ⟨W1, hW1⟩ : ∃ W1, wo.alloc (.cells #[.slice a xs.length c, .slice b ys.length d, .slice a2 ws.length c2, .slice b2 vs.length dw, .slice aQ Q.length cQ, .slice aS wv.S.length cS, .slice aP wv.P.length cP, .slice aD wv.D.length cD, .slice aI I.length cI, .slice aJ J.length cJ, .int .i64 f] 30) = W1 := ⟨_, rfl⟩
   rw [hW1] at F1 ⊢
   clear hW1 q0 q1 q2 q3 q4 q5 q6 q7 q8 q9 q10
   have c0_0 := F1.out.c 0 0 rfl rfl
   have c0_1 := F1.out.c 0 1 rfl rfl
   have c0_2 := F1.out.c 0 2 rfl rfl
   have c0_3 := F1.out.c 0 3 rfl rfl
   have c0_4 := F1.out.c 0 4 rfl rfl
   have c0_5 := F1.out.c 0 5 rfl rfl
   have c0_6 := F1.out.c 0 6 rfl rfl
   have c0_7 := F1.out.c 0 7 rfl rfl
   have c0_8 := F1.out.c 0 8 rfl rfl
   have c0_9 := F1.out.c 0 9 rfl rfl
   have c0_10 := F1.out.c 0 10 rfl rfl
   go_upto_if 26 with (first | (go_at_call 4; refine (HHV.out W1 (F1.out.lw 0 rfl) (F1.out.lw 1 rfl) (F1.out.lw 2 rfl) (F1.out.lw 3 rfl) (F1.out.lw 4 rfl) (F1.out.lw 5 rfl) (F1.out.lw 6 rfl) (F1.out.lw 7 rfl) (F1.out.lw 8 rfl) (F1.out.lw 9 rfl)).mono ?_; rintro e w2 ⟨⟨hvB, rfl, hlt9⟩, hb⟩; have F2 := Lib.hid (F1.out.next hb); have HLT := Lib.hid hlt9; clear hb hlt9 F1 c0_0 c0_1 c0_2 c0_3 c0_4 c0_5 c0_6 c0_7 c0_8 c0_9 c0_10; have c0_0 := F2.out.c 0 0 rfl rfl; have c0_1 := F2.out.c 0 1 rfl rfl; have c0_2 := F2.out.c 0 2 rfl rfl; have c0_3 := F2.out.c 0 3 rfl rfl; have c0_4 := F2.out.c 0 4 rfl rfl; have c0_5 := F2.out.c 0 5 rfl rfl; have c0_6 := F2.out.c 0 6 rfl rfl; have c0_7 := F2.out.c 0 7 rfl rfl; have c0_8 := F2.out.c 0 8 rfl rfl; have c0_9 := F2.out.c 0 9 rfl rfl; have c0_10 := F2.out.c 0 10 rfl rfl) | fail)
   cases hvB with
   | true =>
    go_wp2
    go_ret
    exact ⟨rfl, HB.out.trans (F2.out.bel.mono HB.out.size)⟩
   | false =>
    have hli := HLT.out rfl
    have HLI := Lib.hid hli
    clear HLT HHV hli
    have hmf := rmayF_any f
    have hmy := fun W hQ hS hP hD => refMay_any false aQ aS aP aD cQ cS cP cD Q wv.S wv.P wv.D W hQ hS hP hD
    have htx := HTX.out
    have htw := HTW.out
    obtain ⟨B1, hB1⟩ : ∃ t, tenB xs ys = t := ⟨_, rfl⟩
    obtain ⟨B2, hB2⟩ : ∃ t, tenB ws vs = t := ⟨_, rfl⟩
    obtain ⟨B3, hB3⟩ : ∃ t, (decide (8 ≤ f) && decide (f ≤ 32)) = t := ⟨_, rfl⟩
    obtain ⟨B4, hB4⟩ : ∃ t, numB false Q wv.S wv.P wv.D = t := ⟨_, rfl⟩
    rw [hB1] at htx
    rw [hB2] at htw
    rw [hB3] at hmf
    rw [hB4] at hmy
    have HFZ := Lib.hid (show formZ xs ys ws vs Q wv f = ((B1 && B2) && B3 && B4) by unfold formZ; rw [hB1, hB2, hB3, hB4])
    have HTXX := Lib.hid htx
    have HTWW := Lib.hid htw
    have HMF := Lib.hid hmf
    have HMY := Lib.hid hmy
    clear HTX HTW htx htw hmf hmy hB1 hB2 hB3 hB4
    go_upto_region 8 with fail
    go_cut [48] from 27 to 48 (fun s48 wx => ∃ q : Bool, s48 = .bool q ∧ Hid (q = !((B1 && B2) && B3 && B4)) ∧ Hid (Fr wo.heap.size wo wx [(wo.heap.size, [.slice a xs.length c, .slice b ys.length d, .slice a2 ws.length c2, .slice b2 vs.length dw, .slice aQ Q.length cQ, .slice aS wv.S.length cS, .slice aP wv.P.length cP, .slice aD wv.D.length cD, .slice aI I.length cI, .slice aJ J.length cJ, .int .i64 f])] [(.i64, a, xs), (.i64, b, ys), (.i64, a2, ws), (.i64, b2, vs), (.i64, aQ, Q), (.i64, aS, wv.S), (.i64, aP, wv.P), (.i64, aD, wv.D), (.i64, aI, I), (.i64, aJ, J)] [] []))
    case first =>
     cases B1 with
     | false =>
      go_wp2_with (first | (go_at_call 5; refine (HTXX.out _ (F2.out.lw 0 rfl) (F2.out.lw 1 rfl)).mono ?_; rintro e w3 ⟨rfl, hb⟩; have F3 := Lib.hid (F2.out.next hb); clear hb F2 HTXX c0_0 c0_1 c0_2 c0_3 c0_4 c0_5 c0_6 c0_7 c0_8 c0_9 c0_10; have c0_0 := F3.out.c 0 0 rfl rfl; have c0_1 := F3.out.c 0 1 rfl rfl; have c0_2 := F3.out.c 0 2 rfl rfl; have c0_3 := F3.out.c 0 3 rfl rfl; have c0_4 := F3.out.c 0 4 rfl rfl; have c0_5 := F3.out.c 0 5 rfl rfl; have c0_6 := F3.out.c 0 6 rfl rfl; have c0_7 := F3.out.c 0 7 rfl rfl; have c0_8 := F3.out.c 0 8 rfl rfl; have c0_9 := F3.out.c 0 9 rfl rfl; have c0_10 := F3.out.c 0 10 rfl rfl) | fail)
      go_meet
      exact ⟨true, rfl, Lib.hid rfl, F3⟩
     | true =>
      cases B2 with
      | false =>
       go_wp2_with (first | (go_at_call 5; refine (HTXX.out _ (F2.out.lw 0 rfl) (F2.out.lw 1 rfl)).mono ?_; rintro e w3 ⟨rfl, hb⟩; have F3 := Lib.hid (F2.out.next hb); clear hb F2 HTXX c0_0 c0_1 c0_2 c0_3 c0_4 c0_5 c0_6 c0_7 c0_8 c0_9 c0_10; have c0_0 := F3.out.c 0 0 rfl rfl; have c0_1 := F3.out.c 0 1 rfl rfl; have c0_2 := F3.out.c 0 2 rfl rfl; have c0_3 := F3.out.c 0 3 rfl rfl; have c0_4 := F3.out.c 0 4 rfl rfl; have c0_5 := F3.out.c 0 5 rfl rfl; have c0_6 := F3.out.c 0 6 rfl rfl; have c0_7 := F3.out.c 0 7 rfl rfl; have c0_8 := F3.out.c 0 8 rfl rfl; have c0_9 := F3.out.c 0 9 rfl rfl; have c0_10 := F3.out.c 0 10 rfl rfl) | (go_at_call 5; refine (HTWW.out _ (F3.out.lw 2 rfl) (F3.out.lw 3 rfl)).mono ?_; rintro e w4 ⟨rfl, hb⟩; have F4 := Lib.hid (F3.out.next hb); clear hb F3 HTWW c0_0 c0_1 c0_2 c0_3 c0_4 c0_5 c0_6 c0_7 c0_8 c0_9 c0_10; have c0_0 := F4.out.c 0 0 rfl rfl; have c0_1 := F4.out.c 0 1 rfl rfl; have c0_2 := F4.out.c 0 2 rfl rfl; have c0_3 := F4.out.c 0 3 rfl rfl; have c0_4 := F4.out.c 0 4 rfl rfl; have c0_5 := F4.out.c 0 5 rfl rfl; have c0_6 := F4.out.c 0 6 rfl rfl; have c0_7 := F4.out.c 0 7 rfl rfl; have c0_8 := F4.out.c 0 8 rfl rfl; have c0_9 := F4.out.c 0 9 rfl rfl; have c0_10 := F4.out.c 0 10 rfl rfl) | fail)
       go_meet
       exact ⟨true, rfl, Lib.hid rfl, F4⟩
      | true =>
       cases B3 with
       | false =>
        go_wp2_with (first | (go_at_call 5; refine (HTXX.out _ (F2.out.lw 0 rfl) (F2.out.lw 1 rfl)).mono ?_; rintro e w3 ⟨rfl, hb⟩; have F3 := Lib.hid (F2.out.next hb); clear hb F2 HTXX c0_0 c0_1 c0_2 c0_3 c0_4 c0_5 c0_6 c0_7 c0_8 c0_9 c0_10; have c0_0 := F3.out.c 0 0 rfl rfl; have c0_1 := F3.out.c 0 1 rfl rfl; have c0_2 := F3.out.c 0 2 rfl rfl; have c0_3 := F3.out.c 0 3 rfl rfl; have c0_4 := F3.out.c 0 4 rfl rfl; have c0_5 := F3.out.c 0 5 rfl rfl; have c0_6 := F3.out.c 0 6 rfl rfl; have c0_7 := F3.out.c 0 7 rfl rfl; have c0_8 := F3.out.c 0 8 rfl rfl; have c0_9 := F3.out.c 0 9 rfl rfl; have c0_10 := F3.out.c 0 10 rfl rfl) | (go_at_call 5; refine (HTWW.out _ (F3.out.lw 2 rfl) (F3.out.lw 3 rfl)).mono ?_; rintro e w4 ⟨rfl, hb⟩; have F4 := Lib.hid (F3.out.next hb); clear hb F3 HTWW c0_0 c0_1 c0_2 c0_3 c0_4 c0_5 c0_6 c0_7 c0_8 c0_9 c0_10; have c0_0 := F4.out.c 0 0 rfl rfl; have c0_1 := F4.out.c 0 1 rfl rfl; have c0_2 := F4.out.c 0 2 rfl rfl; have c0_3 := F4.out.c 0 3 rfl rfl; have c0_4 := F4.out.c 0 4 rfl rfl; have c0_5 := F4.out.c 0 5 rfl rfl; have c0_6 := F4.out.c 0 6 rfl rfl; have c0_7 := F4.out.c 0 7 rfl rfl; have c0_8 := F4.out.c 0 8 rfl rfl; have c0_9 := F4.out.c 0 9 rfl rfl; have c0_10 := F4.out.c 0 10 rfl rfl) | (go_at_call 6; refine (HMF.out _).mono ?_; rintro e w' ⟨rfl, rfl⟩; skip) | fail)
        go_meet
        exact ⟨true, rfl, Lib.hid rfl, F4⟩
       | true =>
        go_wp2_with (first | (go_at_call 5; refine (HTXX.out _ (F2.out.lw 0 rfl) (F2.out.lw 1 rfl)).mono ?_; rintro e w3 ⟨rfl, hb⟩; have F3 := Lib.hid (F2.out.next hb); clear hb F2 HTXX c0_0 c0_1 c0_2 c0_3 c0_4 c0_5 c0_6 c0_7 c0_8 c0_9 c0_10; have c0_0 := F3.out.c 0 0 rfl rfl; have c0_1 := F3.out.c 0 1 rfl rfl; have c0_2 := F3.out.c 0 2 rfl rfl; have c0_3 := F3.out.c 0 3 rfl rfl; have c0_4 := F3.out.c 0 4 rfl rfl; have c0_5 := F3.out.c 0 5 rfl rfl; have c0_6 := F3.out.c 0 6 rfl rfl; have c0_7 := F3.out.c 0 7 rfl rfl; have c0_8 := F3.out.c 0 8 rfl rfl; have c0_9 := F3.out.c 0 9 rfl rfl; have c0_10 := F3.out.c 0 10 rfl rfl) | (go_at_call 5; refine (HTWW.out _ (F3.out.lw 2 rfl) (F3.out.lw 3 rfl)).mono ?_; rintro e w4 ⟨rfl, hb⟩; have F4 := Lib.hid (F3.out.next hb); clear hb F3 HTWW c0_0 c0_1 c0_2 c0_3 c0_4 c0_5 c0_6 c0_7 c0_8 c0_9 c0_10; have c0_0 := F4.out.c 0 0 rfl rfl; have c0_1 := F4.out.c 0 1 rfl rfl; have c0_2 := F4.out.c 0 2 rfl rfl; have c0_3 := F4.out.c 0 3 rfl rfl; have c0_4 := F4.out.c 0 4 rfl rfl; have c0_5 := F4.out.c 0 5 rfl rfl; have c0_6 := F4.out.c 0 6 rfl rfl; have c0_7 := F4.out.c 0 7 rfl rfl; have c0_8 := F4.out.c 0 8 rfl rfl; have c0_9 := F4.out.c 0 9 rfl rfl; have c0_10 := F4.out.c 0 10 rfl rfl) | (go_at_call 6; refine (HMF.out _).mono ?_; rintro e w' ⟨rfl, rfl⟩; skip) | (go_at_call 7; refine (HMY.out _ (F4.out.lw 4 rfl) (F4.out.lw 5 rfl) (F4.out.lw 6 rfl) (F4.out.lw 7 rfl)).mono ?_; rintro e w5 ⟨rfl, hb⟩; have F5 := Lib.hid (F4.out.next hb); clear hb F4 c0_0 c0_1 c0_2 c0_3 c0_4 c0_5 c0_6 c0_7 c0_8 c0_9 c0_10) | fail)
        go_meet
        exact ⟨!B4, rfl, Lib.hid (by cases B4 <;> rfl), F5⟩
    case rest =>
     obtain ⟨q9, rfl, HQ, F6⟩ := hcut
     clear F2 HTXX HTWW HMF HMY c0_0 c0_1 c0_2 c0_3 c0_4 c0_5 c0_6 c0_7 c0_8 c0_9 c0_10
     obtain ⟨w6, rfl⟩ : ∃ z : World, z = wc := ⟨_, rfl⟩
     have hq := HQ.out
     rw [← HFZ.out] at hq
     have HQZ := Lib.hid hq
     clear hq HQ HFZ
     obtain ⟨A0, hA0⟩ : ∃ z : Int, (if q9 = true then 1 else 0) = z := ⟨_, rfl⟩
     have EA0 := Lib.hid hA0
     clear hA0
     go_upto_if 48 with fail
     go_cut [5] from 48 to 48 (fun s5 wx => s5 = .int .i64 A0 ∧ wx = w6)
     case first =>
      cases q9 with
      | false =>
       have hz : A0 = 0 := by rw [← EA0.out]; rfl
       go_wp2
       go_meet
       exact ⟨by rw [hz], rfl⟩
      | true =>
       have hz : A0 = 1 := by rw [← EA0.out]; rfl
       go_wp2
       go_meet
       exact ⟨by rw [hz], rfl⟩
     case rest =>
      obtain ⟨rfl, rfl⟩ := hcut
      go_upto_region 11 with fail
      obtain ⟨w7, rfl⟩ : ∃ z : World, z = wc := ⟨_, rfl⟩
      obtain ⟨Y6, hY6⟩ : ∃ x, w7.heap.size = x := ⟨_, rfl⟩
      rw [hY6]
      have F7 := Lib.hid (F6.out.box1 (b := Y6) hY6 [.slice none 0 0, .slice none 0 0] 26)
      simp only [List.nil_append, List.cons_append] at F7
      obtain ⟨W7, hW7⟩ : ∃ x, (w7.alloc (.cells #[.slice none 0 0, .slice none 0 0] 26)) = x := ⟨_, rfl⟩
      rw [hW7] at F7 ⊢
      clear hW7 hY6 F6
      have okk := cv_ok (xs := xs) (ys := ys) (ws := ws) (vs := vs) (Q := Q) (wv := wv) (f := f) HL.out HK.out
      have hcp := fun (p q p2 q2 : Option Addr) (cp cq cp2 cq2 : Nat) W h h2 k k2 hQ hS hP hD h91 h92 h93 h94 => conv_any p q p2 q2 cp cq cp2 cq2 xs ys ws vs aQ aS aP aD cQ cS cP cD Q wv f W h h2 k k2 hQ hS hP hD HL.out HK.out h91 h92 h93 h94
      have hrc := fun W h0 h1 h2 h3 h4 h5 h6 hff => rconv_all a b a2 b2 aQ aS aP aD c d c2 dw cQ cS cP cD xs ys ws vs Q wv f W h0 h1 h2 h3 h4 h5 h6 HL.out HK.out HC3.out.1 HC3.out.2 hff
      have hzf : formZ xs ys ws vs Q wv f = false → cvZ xs ys ws vs Q wv f = 1 := fun h => by unfold cvZ; rw [h]; rfl
      obtain ⟨Z, hZ⟩ : ∃ z, cvZ xs ys ws vs Q wv f = z := ⟨_, rfl⟩
      rw [hZ] at okk hcp hrc hzf
      obtain ⟨SX, hSX⟩ : ∃ l, zL Z (coS xs ws wv) = l := ⟨_, rfl⟩
      obtain ⟨SY, hSY⟩ : ∃ l, zL Z ((List.range (cvN xs ws wv)).map (cvW xs ys ws vs wv f.toNat)) = l := ⟨_, rfl⟩
      rw [hSX, hSY] at okk hcp hrc
      obtain ⟨o1, o2, o3, o4, o5⟩ := okk
      have HO1 := Lib.hid o1
      have HO2 := Lib.hid o2
      have HO3 := Lib.hid o3
      have HO4 := Lib.hid o4
      have HO5 := Lib.hid o5
      have HCP := Lib.hid hcp
      have HRC := Lib.hid hrc
      have HZF := Lib.hid hzf
      have hxw := (F7.out.l 0 rfl).wf
      have hyw := (F7.out.l 1 rfl).wf
      have hww := (F7.out.l 2 rfl).wf
      have hvw := (F7.out.l 3 rfl).wf
      have HXW := Lib.hid hxw
      have HYW := Lib.hid hyw
      have HWW := Lib.hid hww
      have HVW := Lib.hid hvw
      clear o1 o2 o3 o4 o5 hcp hrc hzf hZ hSX hSY hxw hyw hww hvw
      go_upto_if 50 with fail
      go_cut [5, 6] from 5 to 98 (fun s5 s6 wx => ∃ a6 c6 b6 d6, s5 = .int .i64 Z ∧ s6 = .pointer (some ⟨Y6, 0, none⟩) ∧ Hid (Fr wo.heap.size wo wx [(wo.heap.size, [.slice a xs.length c, .slice b ys.length d, .slice a2 ws.length c2, .slice b2 vs.length dw, .slice aQ Q.length cQ, .slice aS wv.S.length cS, .slice aP wv.P.length cP, .slice aD wv.D.length cD, .slice aI I.length cI, .slice aJ J.length cJ, .int .i64 f]), (Y6, [.slice a6 SX.length c6, .slice b6 SY.length d6])] [(.i64, a, xs), (.i64, b, ys), (.i64, a2, ws), (.i64, b2, vs), (.i64, aQ, Q), (.i64, aS, wv.S), (.i64, aP, wv.P), (.i64, aD, wv.D), (.i64, aI, I), (.i64, aJ, J)] [⟨3, .slice a6 SX.length c6, SX.length, SX.map (Value.int .i64)⟩, ⟨2, .slice b6 SY.length d6, SY.length, SY.map (Value.int .i64)⟩] []))
      case first =>
       cases q9 with
       | true =>
        obtain rfl : A0 = 1 := by rw [← EA0.out]; rfl
        have hz := HZF.out (by have h9 := HQZ.out; revert h9; cases formZ xs ys ws vs Q wv f <;> simp)
        obtain ⟨n1, n2⟩ := HO5.out (by rw [hz]; decide)
        have h9 := (F7.out.addNil 3).addNil 2
        simp only [List.nil_append, List.cons_append] at h9
        clear F7
        go_wp2
        go_meet
        refine ⟨none, 0, none, 0, by rw [hz], rfl, Lib.hid ?_⟩
        rw [n1, n2]
        exact h9
       | false =>
        obtain rfl : A0 = 0 := by rw [← EA0.out]; rfl
        have hff : formZ xs ys ws vs Q wv f = true := by have h9 := HQZ.out; revert h9; cases formZ xs ys ws vs Q wv f <;> simp
        have hrr := fun W h0 h1 h2 h3 h4 h5 h6 => HRC.out W h0 h1 h2 h3 h4 h5 h6 hff
        have HRR := Lib.hid hrr
        clear hrr hff
        have c0_0 := F7.out.c 0 0 rfl rfl
        have c0_1 := F7.out.c 0 1 rfl rfl
        have c0_2 := F7.out.c 0 2 rfl rfl
        have c0_3 := F7.out.c 0 3 rfl rfl
        have c0_4 := F7.out.c 0 4 rfl rfl
        have c0_5 := F7.out.c 0 5 rfl rfl
        have c0_6 := F7.out.c 0 6 rfl rfl
        have c0_7 := F7.out.c 0 7 rfl rfl
        have c0_8 := F7.out.c 0 8 rfl rfl
        have c0_9 := F7.out.c 0 9 rfl rfl
        have c0_10 := F7.out.c 0 10 rfl rfl
        go_wp2_with (first | (go_at_call 8; refine (HRR.out _ (F7.out.lw 0 rfl) (F7.out.lw 1 rfl) (F7.out.lw 2 rfl) (F7.out.lw 3 rfl) (F7.out.lw 5 rfl) (F7.out.lw 6 rfl) (F7.out.lw 7 rfl)).mono ?_; rintro e w8 ⟨a6, c6, b6, d6, rfl, hf⟩; have FZ := Lib.hid (F7.out.join hf); simp only [List.nil_append, List.cons_append] at FZ; clear hf F7 c0_0 c0_1 c0_2 c0_3 c0_4 c0_5 c0_6 c0_7 c0_8 c0_9 c0_10; have z1_0 := FZ.out.c 1 0 rfl rfl; have z1_1 := FZ.out.c 1 1 rfl rfl; have zf1_0 := FZ.out.f 1 0 rfl rfl; have zf1_1 := FZ.out.f 1 1 rfl rfl) | fail)
        go_meet
        refine ⟨a6, c6, b6, d6, rfl, rfl, Lib.hid ?_⟩
        have h9 := FZ.out.set 1 rfl (by simp) [.slice a6 SX.length c6, .slice b6 SY.length d6] rfl
        simpa only [setL, Nat.reduceAdd, List.set_cons_zero, List.set_cons_succ, List.cons_append, List.nil_append] using h9
      case rest =>
       obtain ⟨a6, c6, b6, d6, rfl, rfl, F8⟩ := hcut
       clear F7 HRC HZF
       obtain ⟨w8, rfl⟩ : ∃ z : World, z = wc := ⟨_, rfl⟩
       have hlx := HLI.out
       have hcx := fun W (h : Ints .i64 W W.heap.size a xs) (h2 : Ints .i64 W W.heap.size b ys) => copyTen_any a b c d xs ys W h h2 (by have := hlx.1; omega) (by have := hlx.1; omega)
       have hcw := fun W (h : Ints .i64 W W.heap.size a2 ws) (h2 : Ints .i64 W W.heap.size b2 vs) => copyTen_any a2 b2 c2 dw ws vs W h h2 (by have := hlx.2.1; omega) (by have := hlx.2.1; omega)
       have HCX := Lib.hid hcx
       have HCW := Lib.hid hcw
       clear hcx hcw hlx
       have c0_0 := F8.out.c 0 0 rfl rfl
       have c0_1 := F8.out.c 0 1 rfl rfl
       have c0_2 := F8.out.c 0 2 rfl rfl
       have c0_3 := F8.out.c 0 3 rfl rfl
       have c0_4 := F8.out.c 0 4 rfl rfl
       have c0_5 := F8.out.c 0 5 rfl rfl
       have c0_6 := F8.out.c 0 6 rfl rfl
       have c0_7 := F8.out.c 0 7 rfl rfl
       have c0_8 := F8.out.c 0 8 rfl rfl
       have c0_9 := F8.out.c 0 9 rfl rfl
       have c0_10 := F8.out.c 0 10 rfl rfl
       go_upto_region 14 with (first | (go_at_call 9; refine (HCX.out _ (F8.out.lw 0 rfl) (F8.out.lw 1 rfl)).mono ?_; rintro e w9 ⟨a7, c7, b7, d7, rfl, hf⟩; have F9 := Lib.hid (F8.out.join hf); simp only [List.cons_append, List.nil_append] at F9; clear hf F8 HCX c0_0 c0_1 c0_2 c0_3 c0_4 c0_5 c0_6 c0_7 c0_8 c0_9 c0_10) | fail)
       obtain ⟨Y7, hY7⟩ : ∃ x, w9.heap.size = x := ⟨_, rfl⟩
       rw [hY7]
       have F10 := Lib.hid (F9.out.box1 (b := Y7) hY7 [.slice a7 xs.length c7, .slice b7 ys.length d7] 26)
       simp only [List.nil_append, List.cons_append] at F10
       obtain ⟨W10, hW10⟩ : ∃ x, (w9.alloc (.cells #[.slice a7 xs.length c7, .slice b7 ys.length d7] 26)) = x := ⟨_, rfl⟩
       rw [hW10] at F10 ⊢
       clear hW10 hY7 F9
       have c0_0 := F10.out.c 0 0 rfl rfl
       have c0_1 := F10.out.c 0 1 rfl rfl
       have c0_2 := F10.out.c 0 2 rfl rfl
       have c0_3 := F10.out.c 0 3 rfl rfl
       have c0_4 := F10.out.c 0 4 rfl rfl
       have c0_5 := F10.out.c 0 5 rfl rfl
       have c0_6 := F10.out.c 0 6 rfl rfl
       have c0_7 := F10.out.c 0 7 rfl rfl
       have c0_8 := F10.out.c 0 8 rfl rfl
       have c0_9 := F10.out.c 0 9 rfl rfl
       have c0_10 := F10.out.c 0 10 rfl rfl
       go_upto_region 15 with (first | (go_at_call 9; refine (HCW.out _ (F10.out.lw 2 rfl) (F10.out.lw 3 rfl)).mono ?_; rintro e w11 ⟨a8, c8, b8, d8, rfl, hf⟩; have F11 := Lib.hid (F10.out.join hf); simp only [List.cons_append, List.nil_append] at F11; clear hf F10 HCW c0_0 c0_1 c0_2 c0_3 c0_4 c0_5 c0_6 c0_7 c0_8 c0_9 c0_10) | fail)
       obtain ⟨Y8, hY8⟩ : ∃ x, w11.heap.size = x := ⟨_, rfl⟩
       rw [hY8]
       have F12 := Lib.hid (F11.out.box1 (b := Y8) hY8 [.slice a8 ws.length c8, .slice b8 vs.length d8] 26)
       simp only [List.nil_append, List.cons_append] at F12
       obtain ⟨W12, hW12⟩ : ∃ x, (w11.alloc (.cells #[.slice a8 ws.length c8, .slice b8 vs.length d8] 26)) = x := ⟨_, rfl⟩
       rw [hW12] at F12 ⊢
       clear hW12 hY8 F11
       have g1 := row_capE (F12.out.r 2 rfl)
       have g2 := row_capE (F12.out.r 4 rfl)
       have hcv := fun W h h2 k k2 hQ hS hP hD => HCP.out a7 b7 a8 b8 c7 d7 c8 d8 W h h2 k k2 hQ hS hP hD g1.1 g1.2 g2.1 g2.2
       have HCV := Lib.hid hcv
       clear hcv g1 g2
       have c0_0 := F12.out.c 0 0 rfl rfl
       have c0_1 := F12.out.c 0 1 rfl rfl
       have c0_2 := F12.out.c 0 2 rfl rfl
       have c0_3 := F12.out.c 0 3 rfl rfl
       have c0_4 := F12.out.c 0 4 rfl rfl
       have c0_5 := F12.out.c 0 5 rfl rfl
       have c0_6 := F12.out.c 0 6 rfl rfl
       have c0_7 := F12.out.c 0 7 rfl rfl
       have c0_8 := F12.out.c 0 8 rfl rfl
       have c0_9 := F12.out.c 0 9 rfl rfl
       have c0_10 := F12.out.c 0 10 rfl rfl
       have c2_0 := F12.out.c 2 0 rfl rfl
       have c2_1 := F12.out.c 2 1 rfl rfl
       have c3_0 := F12.out.c 3 0 rfl rfl
       have c3_1 := F12.out.c 3 1 rfl rfl
       go_upto_region 16 with (first | (go_at_call 10; refine (HCV.out _ (F12.out.li 2 (k := .i64) (xs := xs) rfl HXW.out) (F12.out.li 3 (k := .i64) (xs := ys) rfl HYW.out) (F12.out.li 4 (k := .i64) (xs := ws) rfl HWW.out) (F12.out.li 5 (k := .i64) (xs := vs) rfl HVW.out) (F12.out.lw 4 rfl) (F12.out.lw 5 rfl) (F12.out.lw 6 rfl) (F12.out.lw 7 rfl)).mono ?_; rintro e w13 ⟨a9, c9, b9, d9, rfl, hf⟩; have F13 := Lib.hid (F12.out.join hf); simp only [List.cons_append, List.nil_append] at F13; clear hf F12 c0_0 c0_1 c0_2 c0_3 c0_4 c0_5 c0_6 c0_7 c0_8 c0_9 c0_10 c2_0 c2_1 c3_0 c3_1) | fail)
       obtain ⟨Y9, hY9⟩ : ∃ x, w13.heap.size = x := ⟨_, rfl⟩
       rw [hY9]
       have F14 := Lib.hid (F13.out.box1 (b := Y9) hY9 [.slice a9 SX.length c9, .slice b9 SY.length d9] 26)
       simp only [List.nil_append, List.cons_append] at F14
       obtain ⟨W14, hW14⟩ : ∃ x, (w13.alloc (.cells #[.slice a9 SX.length c9, .slice b9 SY.length d9] 26)) = x := ⟨_, rfl⟩
       rw [hW14] at F14 ⊢
       clear hW14 hY9 F13
       have HIS := Lib.hid (is8_any a9 b9 a6 b6 c9 d9 c6 d6 wo.heap.size SX SY SX SY Z Z W14 (F14.out.r 6 rfl) (F14.out.r 7 rfl) (frNe F14.out 6 7 (by decide) rfl rfl) HO2.out HO4.out F14.out.hlo HO1.out HO3.out (F14.out.li 0 (k := .i64) (xs := SX) rfl HO1.out) (F14.out.li 1 (k := .i64) (xs := SY) rfl HO3.out) rfl (fun _ => ⟨rfl, rfl⟩) HO5.out)
       have c0_0 := F14.out.c 0 0 rfl rfl
       have c0_1 := F14.out.c 0 1 rfl rfl
       have c0_2 := F14.out.c 0 2 rfl rfl
       have c0_3 := F14.out.c 0 3 rfl rfl
       have c0_4 := F14.out.c 0 4 rfl rfl
       have c0_5 := F14.out.c 0 5 rfl rfl
       have c0_6 := F14.out.c 0 6 rfl rfl
       have c0_7 := F14.out.c 0 7 rfl rfl
       have c0_8 := F14.out.c 0 8 rfl rfl
       have c0_9 := F14.out.c 0 9 rfl rfl
       have c0_10 := F14.out.c 0 10 rfl rfl
       have c1_0 := F14.out.c 1 0 rfl rfl
       have c1_1 := F14.out.c 1 1 rfl rfl
       have c2_0 := F14.out.c 2 0 rfl rfl
       have c2_1 := F14.out.c 2 1 rfl rfl
       have c3_0 := F14.out.c 3 0 rfl rfl
       have c3_1 := F14.out.c 3 1 rfl rfl
       have c4_0 := F14.out.c 4 0 rfl rfl
       have c4_1 := F14.out.c 4 1 rfl rfl
       have hev := fun (p q r s : Option Addr) (cp cq cr cs : Nat) (us vt : List Int) W (h1 : Ints .i64 W W.heap.size p us) (h2 : Ints .i64 W W.heap.size q vt) (h3 : Ints .i64 W W.heap.size r us) (h4 : Ints .i64 W W.heap.size s vt) => eqTensor_any p q r s cp cq cr cs us vt us vt W h1 h2 h3 h4
       simp only [decide_true, Bool.and_true] at hev
       have HEV1 := Lib.hid (hev a7 b7 a b c7 d7 c d xs ys)
       have HEV2 := Lib.hid (hev a8 b8 a2 b2 c8 d8 c2 dw ws vs)
       clear hev
       go_wp2_with (first | (go_at_call 11; refine (HIS.out).mono ?_; rintro e w15 ⟨rfl, U1, U2, hb1, hg2, hg3⟩; have F15 := Lib.hid (((F14.out.next hb1).spoil 6 rfl hg2).spoil 6 rfl hg3); simp only [List.eraseIdx_cons_succ, List.eraseIdx_cons_zero, List.eraseIdx_zero, List.tail_cons] at F15; clear hb1 hg2 hg3 HIS F14 c0_0 c0_1 c0_2 c0_3 c0_4 c0_5 c0_6 c0_7 c0_8 c0_9 c0_10 c1_0 c1_1 c2_0 c2_1 c3_0 c3_1 c4_0 c4_1; have c0_0 := F15.out.c 0 0 rfl rfl; have c0_1 := F15.out.c 0 1 rfl rfl; have c0_2 := F15.out.c 0 2 rfl rfl; have c0_3 := F15.out.c 0 3 rfl rfl; have c0_4 := F15.out.c 0 4 rfl rfl; have c0_5 := F15.out.c 0 5 rfl rfl; have c0_6 := F15.out.c 0 6 rfl rfl; have c0_7 := F15.out.c 0 7 rfl rfl; have c0_8 := F15.out.c 0 8 rfl rfl; have c0_9 := F15.out.c 0 9 rfl rfl; have c0_10 := F15.out.c 0 10 rfl rfl; have c2_0 := F15.out.c 2 0 rfl rfl; have c2_1 := F15.out.c 2 1 rfl rfl; have c3_0 := F15.out.c 3 0 rfl rfl; have c3_1 := F15.out.c 3 1 rfl rfl) | (go_at_call 12; refine (HEV1.out _ (F15.out.li 2 (k := .i64) (xs := xs) rfl HXW.out) (F15.out.li 3 (k := .i64) (xs := ys) rfl HYW.out) (F15.out.lw 0 rfl) (F15.out.lw 1 rfl)).mono ?_; rintro e w16 ⟨rfl, hb⟩; have F16 := Lib.hid (F15.out.next hb); clear hb F15 HEV1 c0_0 c0_1 c0_2 c0_3 c0_4 c0_5 c0_6 c0_7 c0_8 c0_9 c0_10 c2_0 c2_1 c3_0 c3_1; have c0_0 := F16.out.c 0 0 rfl rfl; have c0_1 := F16.out.c 0 1 rfl rfl; have c0_2 := F16.out.c 0 2 rfl rfl; have c0_3 := F16.out.c 0 3 rfl rfl; have c0_4 := F16.out.c 0 4 rfl rfl; have c0_5 := F16.out.c 0 5 rfl rfl; have c0_6 := F16.out.c 0 6 rfl rfl; have c0_7 := F16.out.c 0 7 rfl rfl; have c0_8 := F16.out.c 0 8 rfl rfl; have c0_9 := F16.out.c 0 9 rfl rfl; have c0_10 := F16.out.c 0 10 rfl rfl; have c3_0 := F16.out.c 3 0 rfl rfl; have c3_1 := F16.out.c 3 1 rfl rfl) | (go_at_call 12; refine (HEV2.out _ (F16.out.li 4 (k := .i64) (xs := ws) rfl HWW.out) (F16.out.li 5 (k := .i64) (xs := vs) rfl HVW.out) (F16.out.lw 2 rfl) (F16.out.lw 3 rfl)).mono ?_; rintro e w17 ⟨rfl, hb⟩; have F17 := Lib.hid (F16.out.next hb); clear hb F16 c0_0 c0_1 c0_2 c0_3 c0_4 c0_5 c0_6 c0_7 c0_8 c0_9 c0_10 c3_0 c3_1) | fail)
       go_roundw
       case rel => exact ⟨k + 1, by omega, by go_num, HB.out.trans (F17.out.bel.mono HB.out.size)⟩
       case measure => simp [intOf]; omega
  ·have HB := Lib.hid hbel
   clear hbel h
   have WK := fun W => Lib.hid (wakes11_any W)
   by_cases hlt : k < n
   ·have hk15 : ¬ (k : Int) < 4 := by omega
    have hkn : (k : Int) < n := by omega
    go_wp2_with (go_at_call 13; refine ((WK _).out).mono ?_; rintro e w1 ⟨rfl, hb⟩; have HW1 := Lib.hid hb; clear hb)
    go_ret
    exact ⟨rfl, HB.out.trans (HW1.out.mono HB.out.size)⟩
   ·obtain rfl : k = n := by omega
    go_wp2_with (go_at_call 13; refine ((WK _).out).mono ?_; rintro e w1 ⟨rfl, hb⟩; have HW1 := Lib.hid hb; clear hb)
    go_ret
    exact ⟨rfl, HB.out.trans (HW1.out.mono HB.out.size)⟩
end Go.Proofs.YtadlnmckcnfacaaGreat
