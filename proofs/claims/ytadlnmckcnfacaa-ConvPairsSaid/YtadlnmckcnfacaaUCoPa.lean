import Derived.Test.YtadlnmckcnfacaaUCoPz
import Derived.Test.YtadlnmckcnfacaaUCoBk
import Derived.Test.YtadlnmckcnfacaaUCoQ
import Derived.Test.YtadlnmckcnfacaaUCoJ
import Derived.Test.YtadlnmckcnfacaaUCoV
import Derived.Test.YtadlnmckcnfacaaUCoY
import Derived.Test.YtadlnmckcnfacaaURxN
import Derived.Test.YtadlnmckcnfacaaURdV
set_option linter.unusedVariables false
set_option linter.unusedSimpArgs false
namespace Go.Proofs.Ytadlnmckcnfacaa
open Go.RowKit Go.Rt
attribute [local go_sem] Oper.semAt_some
theorem clW_isW2 {ys : List Int} (hy : ∀ y ∈ ys, isW y = true) (wv : WinV) (N T M n : Nat) : isW (clW ys wv N T M n) = true := by
 unfold clW
 split
 ·exact isW_iff.2 (get_word hy _)
 ·decide
theorem makeW (n : Nat) (hn : n ≤ 17592186044416) (w : World) : (Instr.makeSlice 24 (.int .i64 (n : Int)) (.int .i64 (n : Int))).run Try.prog w = .ok (.slice (some ⟨w.heap.size, 0, none⟩) n n) (w.alloc (.cells (madeCells #[Value.int .i64 0] n) 2)) := by
 obtain ⟨i, hi, hz0, hz1, hz2⟩ := info_parts infoI64
 have hr := run_make (P := Try.prog) w 24 2 i _ Try.underlying24 hi hz0 .i64 .i64 n n (by omega) (Int.le_refl _) (by rw [hz2]; omega) (by omega)
 simp only [Int.toNat_natCast, hz1, Nat.mul_one, Value.cells] at hr
 exact hr
theorem own_madeW (w : World) (T : TypeId) (n : Nat) (hn : n ≤ 17592186044416) : (w.alloc (.cells (madeCells #[Value.int .i64 0] n) T)).ownsRow w.heap.size T 1 (.slice (some ⟨w.heap.size, 0, none⟩) n n) n ((List.replicate n (0 : Int)).map (Value.int .i64)) := by
 rw [List.map_replicate, ← toList_madeCells_one]
 exact World.ownsRow_lit w _ n (Nat.le_refl _) (by unfold maxLen; omega) (by rw [size_madeCells, Nat.mul_one])
theorem wrap_small (x : Int) (h : -45 ≤ x ∧ x ≤ 45) : RowKit.wrap64 x = x := IntWalk.wrap64_in _ (by omega)
theorem pairs_len {xs ys Q : List Int} {wv : WinV} (hL : wv.L = xs.drop 2) (ht : tenB xs ys = true) (hz : clZ xs ys Q wv = 0) : tenB (colS xs wv) (clWs xs ys wv) = true ∧ (prodI (colS xs wv)).toNat ≤ 65536 ∧ 1 ≤ (clWs xs ys wv).length := by
 have tx := tenB_iff.1 ht
 obtain ⟨z1, z2, z3⟩ := clZ_ok hz
 obtain ⟨_, _, _, e4⟩ := colZ_ok z3
 have hp : 1 ≤ prodI (colS xs wv) := (goodB_dims e4).pos
 have hb := (goodB_iff.1 e4).2.2
 refine ⟨tenB_iff.2 ⟨e4, by rw [clWs_len]; omega, fun q hq => ?_⟩, by omega, by rw [clWs_len]; omega⟩
 unfold clWs at hq
 obtain ⟨n, _, rfl⟩ := List.mem_map.1 hq
 exact clW_isW2 tx.2.2 _ _ _ _ _
set_option maxRecDepth 100000 in
set_option maxHeartbeats 8000000 in
theorem convPairs_any (q : Option Addr) (n c0 : Nat) (w : World) (h : AsksAt11 w w.heap.size q n) :
  Calls Try.prog 4 #[.slice q n c0] w fun e w' => e = .returned (.bool true) ∧ Below w.heap.size w w' := by
 have hm := h.len
 go_enter Try.func4, Try.ntmps4
 go_wp2_with fail
 go_loopw [3] (fun i wr => ∃ k : Nat, k ≤ n ∧ i = .int .i64 k ∧ Below w.heap.size w wr) (fun i _ => n - (intOf i).toNat)
 case atStart => exact ⟨0, Nat.zero_le _, rfl, Below.refl _ _⟩
 case round =>
  obtain ⟨k, hk, rfl, hbel⟩ := hrel
  obtain ⟨wo, rfl⟩ : ∃ wo : World, wo = wr := ⟨_, rfl⟩
  by_cases hend : k < n ∧ k < 4
  ·obtain ⟨hlt, h20⟩ := hend
   obtain ⟨b0, o_, ⟨a, c, b, d, xs, ys⟩, ⟨a2, c2, b2, dw, ws, vs⟩, aQ, aS, aP, aD, aI, aJ, cQ, cS, cP, cD, cI, cJ, Q, S, P, D, I, J, f, rfl, ht⟩ := h.at_ k hlt
   replace ht := ht.below hbel
   have hsz := hbel.size
   have HB := Lib.hid hbel
   obtain ⟨wv, hwv⟩ : ∃ v : WinV, v = ⟨xs.drop 2, I, S, P, D⟩ := ⟨_, rfl⟩
   obtain ⟨rfl, rfl, rfl, rfl⟩ : I = wv.K ∧ S = wv.S ∧ P = wv.P ∧ D = wv.D := by rw [hwv]; exact ⟨rfl, rfl, rfl, rfl⟩
   have HL := Lib.hid (show wv.L = xs.drop 2 by rw [hwv])
   skip
   clear hwv
   have tA := ht.tA
   have tB := ht.tB
   dsimp only at tA tB
   have HI0 := Lib.hid (tA.sh.mono hsz)
   have HI1 := Lib.hid (tA.da.mono hsz)
   have HI2 := Lib.hid (tB.sh.mono hsz)
   have HI3 := Lib.hid (tB.da.mono hsz)
   have HI4 := Lib.hid (ht.tQ.mono hsz)
   have HI5 := Lib.hid (ht.tS.mono hsz)
   have HI6 := Lib.hid (ht.tP.mono hsz)
   have HI7 := Lib.hid (ht.tD.mono hsz)
   have HI8 := Lib.hid (ht.tI.mono hsz)
   have HI9 := Lib.hid (ht.tJ.mono hsz)
   have HF9 := Lib.hid (And.intro ht.f0 ht.f1)
   have HC1 := Lib.hid (And.intro tA.c1 tA.c2)
   have HC2 := Lib.hid (And.intro tA.d1 tA.d2)
   have HC3 := Lib.hid (And.intro tB.c1 tB.c2)
   have HC4 := Lib.hid (And.intro tB.d1 tB.d2)
   have HHV := Lib.hid (fun W h0 h1 h2 h3 h4 h5 h6 h7 h8 h9 => heavy11_any a b a2 b2 aQ aS aP aD aI aJ c d c2 dw cQ cS cP cD cI cJ xs ys ws vs Q wv.S wv.P wv.D wv.K J f W h0 h1 h2 h3 h4 h5 h6 h7 h8 h9 HC3.out.1)
   have HTX := Lib.hid (fun W (h : Ints .i64 W W.heap.size a xs) (h2 : Ints .i64 W W.heap.size b ys) => tenMay_any a b c d xs ys W h h2)
   have HTW := Lib.hid (fun W (h : Ints .i64 W W.heap.size a2 ws) (h2 : Ints .i64 W W.heap.size b2 vs) => tenMay_any a2 b2 c2 dw ws vs W h h2)

   have q0 := ht.c0
   have q1 := ht.c1
   have q2 := ht.c2
   have q3 := ht.c3
   have q4 := ht.c4
   have q5 := ht.c5
   have q6 := ht.c6
   have q7 := ht.c7
   have q8 := ht.c8
   have q9 := ht.c9
   have q10 := ht.c10
   dsimp only at q0 q1 q2 q3 q4 q5 q6 q7 q8 q9 q10
   clear ht tA tB hbel h
   have F1 := Lib.hid ((Fr.start (w := wo) (I := [(.i64, a, xs), (.i64, b, ys), (.i64, a2, ws), (.i64, b2, vs), (.i64, aQ, Q), (.i64, aS, wv.S), (.i64, aP, wv.P), (.i64, aD, wv.D), (.i64, aI, wv.K), (.i64, aJ, J)]) (by intro z hz; simp at hz; rcases hz with rfl | rfl | rfl | rfl | rfl | rfl | rfl | rfl | rfl | rfl; exact HI0.out; exact HI1.out; exact HI2.out; exact HI3.out; exact HI4.out; exact HI5.out; exact HI6.out; exact HI7.out; exact HI8.out; exact HI9.out)).box1 (b := wo.heap.size) rfl [.slice a xs.length c, .slice b ys.length d, .slice a2 ws.length c2, .slice b2 vs.length dw, .slice aQ Q.length cQ, .slice aS wv.S.length cS, .slice aP wv.P.length cP, .slice aD wv.D.length cD, .slice aI wv.K.length cI, .slice aJ J.length cJ, .int .i64 f] 30)
   simp only [List.nil_append] at F1
   clear HI0 HI1 HI2 HI3 HI4 HI5 HI6 HI7 HI8 HI9
   go_upto_region 5 with fail
   obtain ⟨W1, hW1⟩ : ∃ W1, wo.alloc (.cells #[.slice a xs.length c, .slice b ys.length d, .slice a2 ws.length c2, .slice b2 vs.length dw, .slice aQ Q.length cQ, .slice aS wv.S.length cS, .slice aP wv.P.length cP, .slice aD wv.D.length cD, .slice aI wv.K.length cI, .slice aJ J.length cJ, .int .i64 f] 30) = W1 := ⟨_, rfl⟩
   rw [hW1] at F1 ⊢
   clear hW1 q0 q1 q2 q3 q4 q5 q6 q7 q8 q9 q10
   have c0_0 := F1.out.c 0 0 rfl rfl
   have c0_1 := F1.out.c 0 1 rfl rfl
   have c0_2 := F1.out.c 0 2 rfl rfl
   have c0_3 := F1.out.c 0 3 rfl rfl
   have c0_4 := F1.out.c 0 4 rfl rfl
   have c0_5 := F1.out.c 0 5 rfl rfl
   have c0_6 := F1.out.c 0 6 rfl rfl
   have c0_7 := F1.out.c 0 7 rfl rfl
   have c0_8 := F1.out.c 0 8 rfl rfl
   have c0_9 := F1.out.c 0 9 rfl rfl
   have c0_10 := F1.out.c 0 10 rfl rfl
   go_upto_if 30 with (first | (go_at_call 7; refine (HHV.out W1 (F1.out.lw 0 rfl) (F1.out.lw 1 rfl) (F1.out.lw 2 rfl) (F1.out.lw 3 rfl) (F1.out.lw 4 rfl) (F1.out.lw 5 rfl) (F1.out.lw 6 rfl) (F1.out.lw 7 rfl) (F1.out.lw 8 rfl) (F1.out.lw 9 rfl)).mono ?_; rintro e w2 ⟨⟨hvB, rfl, hlt9⟩, hb⟩; have F2 := Lib.hid (F1.out.next hb); have HLT := Lib.hid hlt9; clear hb hlt9 F1 c0_0 c0_1 c0_2 c0_3 c0_4 c0_5 c0_6 c0_7 c0_8 c0_9 c0_10; have c0_0 := F2.out.c 0 0 rfl rfl; have c0_1 := F2.out.c 0 1 rfl rfl; have c0_2 := F2.out.c 0 2 rfl rfl; have c0_3 := F2.out.c 0 3 rfl rfl; have c0_4 := F2.out.c 0 4 rfl rfl; have c0_5 := F2.out.c 0 5 rfl rfl; have c0_6 := F2.out.c 0 6 rfl rfl; have c0_7 := F2.out.c 0 7 rfl rfl; have c0_8 := F2.out.c 0 8 rfl rfl; have c0_9 := F2.out.c 0 9 rfl rfl; have c0_10 := F2.out.c 0 10 rfl rfl) | fail)
   cases hvB with
   | true =>
    go_wp2
    go_ret
    exact ⟨rfl, HB.out.trans (F2.out.bel.mono HB.out.size)⟩
   | false =>
    clear HLT HHV HTW
    have htx := HTX.out
    clear HTX
    cases htb : tenB xs ys with
    | false =>
     rw [htb] at htx
     have HTX := Lib.hid htx
     clear htx htb
     go_wp2_with (first | (go_at_call 8; refine (HTX.out _ (F2.out.lw 0 rfl) (F2.out.lw 1 rfl)).mono ?_; rintro e w3 ⟨rfl, hb⟩; have F3 := Lib.hid (F2.out.next hb); clear hb F2 HTX c0_0 c0_1 c0_2 c0_3 c0_4 c0_5 c0_6 c0_7 c0_8 c0_9 c0_10; have c0_0 := F3.out.c 0 0 rfl rfl; have c0_1 := F3.out.c 0 1 rfl rfl; have c0_2 := F3.out.c 0 2 rfl rfl; have c0_3 := F3.out.c 0 3 rfl rfl; have c0_4 := F3.out.c 0 4 rfl rfl; have c0_5 := F3.out.c 0 5 rfl rfl; have c0_6 := F3.out.c 0 6 rfl rfl; have c0_7 := F3.out.c 0 7 rfl rfl; have c0_8 := F3.out.c 0 8 rfl rfl; have c0_9 := F3.out.c 0 9 rfl rfl; have c0_10 := F3.out.c 0 10 rfl rfl) | fail)
     go_roundw
     case rel => exact ⟨k + 1, by omega, by go_num, HB.out.trans (F3.out.bel.mono HB.out.size)⟩
     case measure => simp [intOf]; omega
    | true =>
     rw [htb] at htx
     have HTX := Lib.hid htx
     have HTB := Lib.hid htb
     clear htx htb
     have hka := fun W h => kernel_any aI cI wv.K W h
     cases hkb : wv.K.all (okI 1) with
     | false =>
      rw [hkb] at hka
      have HKA := Lib.hid hka
      clear hka hkb
      go_wp2_with (first | (go_at_call 8; refine (HTX.out _ (F2.out.lw 0 rfl) (F2.out.lw 1 rfl)).mono ?_; rintro e w3 ⟨rfl, hb⟩; have F3 := Lib.hid (F2.out.next hb); clear hb F2 HTX c0_0 c0_1 c0_2 c0_3 c0_4 c0_5 c0_6 c0_7 c0_8 c0_9 c0_10; have c0_0 := F3.out.c 0 0 rfl rfl; have c0_1 := F3.out.c 0 1 rfl rfl; have c0_2 := F3.out.c 0 2 rfl rfl; have c0_3 := F3.out.c 0 3 rfl rfl; have c0_4 := F3.out.c 0 4 rfl rfl; have c0_5 := F3.out.c 0 5 rfl rfl; have c0_6 := F3.out.c 0 6 rfl rfl; have c0_7 := F3.out.c 0 7 rfl rfl; have c0_8 := F3.out.c 0 8 rfl rfl; have c0_9 := F3.out.c 0 9 rfl rfl; have c0_10 := F3.out.c 0 10 rfl rfl) | (go_at_call 14; refine (HKA.out _ (F3.out.lw 8 rfl)).mono ?_; rintro e w' ⟨rfl, rfl⟩; skip) | fail)
      go_roundw
      case rel => exact ⟨k + 1, by omega, by go_num, HB.out.trans (F3.out.bel.mono HB.out.size)⟩
      case measure => simp [intOf]; omega
     | true =>
      rw [hkb] at hka
      have HKA := Lib.hid hka
      have HKB := Lib.hid hkb
      clear hka hkb
      go_upto_region 8 with (first | (go_at_call 8; refine (HTX.out _ (F2.out.lw 0 rfl) (F2.out.lw 1 rfl)).mono ?_; rintro e w3 ⟨rfl, hb⟩; have F3 := Lib.hid (F2.out.next hb); clear hb F2 HTX c0_0 c0_1 c0_2 c0_3 c0_4 c0_5 c0_6 c0_7 c0_8 c0_9 c0_10; have c0_0 := F3.out.c 0 0 rfl rfl; have c0_1 := F3.out.c 0 1 rfl rfl; have c0_2 := F3.out.c 0 2 rfl rfl; have c0_3 := F3.out.c 0 3 rfl rfl; have c0_4 := F3.out.c 0 4 rfl rfl; have c0_5 := F3.out.c 0 5 rfl rfl; have c0_6 := F3.out.c 0 6 rfl rfl; have c0_7 := F3.out.c 0 7 rfl rfl; have c0_8 := F3.out.c 0 8 rfl rfl; have c0_9 := F3.out.c 0 9 rfl rfl; have c0_10 := F3.out.c 0 10 rfl rfl) | (go_at_call 14; refine (HKA.out _ (F3.out.lw 8 rfl)).mono ?_; rintro e w' ⟨rfl, rfl⟩; skip) | fail)
      have hcl := fun W h h2 k hQ hS hP hD => conCols_any a b aI c d cI xs ys aQ aS aP aD cQ cS cP cD Q wv W h h2 k hQ hS hP hD HL.out HC1.out.1 HC1.out.2
      obtain ⟨y, hy⟩ : ∃ y, clZ xs ys Q wv = y := ⟨_, rfl⟩
      rw [hy] at hcl
      obtain ⟨S2, hS2⟩ : ∃ l, zL y (colS xs wv) = l := ⟨_, rfl⟩
      obtain ⟨CW, hCW⟩ : ∃ l, zL y (clWs xs ys wv) = l := ⟨_, rfl⟩
      rw [hS2, hCW] at hcl
      have HCL := Lib.hid hcl
      have Hy := Lib.hid hy
      have HS2 := Lib.hid hS2
      have HCW := Lib.hid hCW
      clear hcl hy hS2 hCW
      go_upto_region 9 with (first | (go_at_call 15; refine (HCL.out _ (F3.out.lw 0 rfl) (F3.out.lw 1 rfl) (F3.out.lw 8 rfl) (F3.out.lw 4 rfl) (F3.out.lw 5 rfl) (F3.out.lw 6 rfl) (F3.out.lw 7 rfl)).mono ?_; rintro e w4 ⟨aC, cC, bC, dC, rfl, hf⟩; have F4 := Lib.hid (F3.out.join hf); simp only [List.nil_append, List.cons_append] at F4; clear hf F3 c0_0 c0_1 c0_2 c0_3 c0_4 c0_5 c0_6 c0_7 c0_8 c0_9 c0_10) | fail)
      obtain ⟨Q5, hQ5⟩ : ∃ x, w4.heap.size = x := ⟨_, rfl⟩
      rw [hQ5]
      have F5 := Lib.hid (F4.out.box1 (b := Q5) hQ5 [.slice aC S2.length cC, .slice bC CW.length dC] 26)
      simp only [List.nil_append, List.cons_append] at F5
      obtain ⟨W5, hW5⟩ : ∃ x, (w4.alloc (.cells #[.slice aC S2.length cC, .slice bC CW.length dC] 26)) = x := ⟨_, rfl⟩
      rw [hW5] at F5 ⊢
      clear hW5 hQ5 F4
      have c1_0 := F5.out.c 1 0 rfl rfl
      have c1_1 := F5.out.c 1 1 rfl rfl
      by_cases hy0 : y = 0
      ·skip
       have hyb : (y != 0) = false := by simp [hy0]
       have hd0 := Hy.out
       rw [hy0] at hd0
       have hs2 : S2 = colS xs wv := by rw [← HS2.out, hy0, zL_0]
       have hcw : CW = clWs xs ys wv := by rw [← HCW.out, hy0, zL_0]
       obtain ⟨ht5, hb5, hl5⟩ := pairs_len HL.out HTB.out hd0
       rw [← hcw] at ht5 hl5
       rw [← hs2] at ht5
       have HT5 := Lib.hid ht5
       have HB5 := Lib.hid hb5
       have HL5 := Lib.hid hl5
       have HD0 := Lib.hid hd0
       have HS2e := Lib.hid hs2
       have HCWe := Lib.hid hcw
       have HWS := Lib.hid (show ∀ x ∈ S2, (Lit.int .i64 x).wf = true from wf_dims (fun x hx => by have := goodB_dims (tenB_iff.1 ht5).1 x hx; omega))
       have HWC := Lib.hid (show ∀ x ∈ CW, (Lit.int .i64 x).wf = true from fun x hx => by have h9 := isW_iff.1 ((tenB_iff.1 ht5).2.2 x hx); exact wf_i64_iff.2 ⟨by omega, by omega⟩)
       have hmy := fun W (h : Ints .i64 W W.heap.size aC S2) (h2 : Ints .i64 W W.heap.size bC CW) => tenMay_any aC bC cC dC S2 CW W h h2
       rw [ht5] at hmy
       have HMY := Lib.hid hmy
       clear hmy ht5 hb5 hl5 hd0 hs2 hcw
       by_cases h30 : CW.length > 3000
       ·skip
        have h3i : (3000 : Int) < (CW.length : Int) := by omega
        go_wp2_with (first | (go_at_call 11; refine (num11_any _ _).mono ?_; rintro e w' ⟨rfl, rfl⟩) | (go_at_call 8; refine (HMY.out _ (F5.out.li 0 (k := .i64) (xs := S2) rfl HWS.out) (F5.out.li 1 (k := .i64) (xs := CW) rfl HWC.out)).mono ?_; rintro e w6 ⟨rfl, hb⟩; have F6 := Lib.hid (F5.out.next hb); clear hb F5 c1_0 c1_1; have c1_0 := F6.out.c 1 0 rfl rfl; have c1_1 := F6.out.c 1 1 rfl rfl) | fail)
        go_roundw
        case rel => exact ⟨k + 1, by omega, by go_num, HB.out.trans (F6.out.bel.mono HB.out.size)⟩
        case measure => simp [intOf]; omega
       have h3i : ¬ (3000 : Int) < (CW.length : Int) := by omega
       have H30 := Lib.hid (show CW.length ≤ 3000 by omega)
       clear h30
       go_upto_region 10 with (first | (go_at_call 11; refine (num11_any _ _).mono ?_; rintro e w' ⟨rfl, rfl⟩) | (go_at_call 8; refine (HMY.out _ (F5.out.li 0 (k := .i64) (xs := S2) rfl HWS.out) (F5.out.li 1 (k := .i64) (xs := CW) rfl HWC.out)).mono ?_; rintro e w6 ⟨rfl, hb⟩; have F6 := Lib.hid (F5.out.next hb); clear hb F5 c1_0 c1_1; have c1_0 := F6.out.c 1 0 rfl rfl; have c1_1 := F6.out.c 1 1 rfl rfl) | fail)
       clear h3i hyb c1_0 c1_1
       go_cut [7] from 65 to 175 (fun s7 wx => ∃ Q7 gz, s7 = .pointer (some ⟨Q7, 0, none⟩) ∧ Hid (Fr wo.heap.size wo wx [(wo.heap.size, [.slice a xs.length c, .slice b ys.length d, .slice a2 ws.length c2, .slice b2 vs.length dw, .slice aQ Q.length cQ, .slice aS wv.S.length cS, .slice aP wv.P.length cP, .slice aD wv.D.length cD, .slice aI wv.K.length cI, .slice aJ J.length cJ, .int .i64 f]), (Q5, [.slice aC S2.length cC, .slice bC CW.length dC]), (Q7, [.slice aC S2.length cC, .slice (some ⟨gz, 0, none⟩) CW.length CW.length])] [(.i64, a, xs), (.i64, b, ys), (.i64, a2, ws), (.i64, b2, vs), (.i64, aQ, Q), (.i64, aS, wv.S), (.i64, aP, wv.P), (.i64, aD, wv.D), (.i64, aI, wv.K), (.i64, aJ, J)] [⟨3, .slice aC S2.length cC, S2.length, S2.map (Value.int .i64)⟩, ⟨2, .slice bC CW.length dC, CW.length, CW.map (Value.int .i64)⟩, ⟨2, .slice (some ⟨gz, 0, none⟩) CW.length CW.length, CW.length, (List.replicate CW.length (0 : Int)).map (Value.int .i64)⟩] []))
       case first => as_aux_lemma =>
        have FD := F6.out.drew
        refine wp_region_J (S := fun _ => True) (S1 := fun W9 => W9.cell? ⟨Q5, 0, none⟩ = some (.slice aC S2.length cC) ∧ W9.cell? ⟨Q5, 1, none⟩ = some (.slice bC CW.length dC)) (L := [0, 1, 2, 3, 4, 5, 6, 7, 8]) (by kernel_rfl) trivial ⟨FD.c 1 0 rfl rfl, FD.c 1 1 rfl rfl⟩ (fun hHeld hHeld1 => ?_)
        obtain ⟨v0, hv0⟩ : ∃ x, w6.drew = x := ⟨_, rfl⟩
        rw [hv0] at FD hHeld1 ⊢
        clear hv0
        refine takeJ1 (i := 0) (dst := (some 65)) (v := .pointer (some ⟨Q5, 0, none⟩)) rfl rfl (by kernel_rfl) (by kernel_rfl) (by kernel_rfl) (by kernel_rfl) (fun _ _ _ h => h) (by rfl) ?hyj10zn1 hHeld1 ?restj10zn1
        case hyj10zn1 =>
         intro W hSw
         go_simp
         (try with_reducible rfl)
        try simp only [Act.put, List.setIfInBounds_toArray, List.set_cons_zero, List.set_cons_succ]
        refine takeJ1 (i := 1) (dst := (some 66)) (v := .slice aC S2.length cC) rfl rfl (by kernel_rfl) (by kernel_rfl) (by kernel_rfl) (by kernel_rfl) (fun _ _ _ h => h) (by rfl) ?hyj10zn2 hHeld1 ?restj10zn2
        case hyj10zn2 =>
         intro W hSw
         obtain ⟨s0, s1⟩ := hSw
         go_simp
         (try with_reducible rfl)
        try simp only [Act.put, List.setIfInBounds_toArray, List.set_cons_zero, List.set_cons_succ]
        refine takeJ1 (i := 2) (dst := (some 67)) (v := .pointer (some ⟨Q5, 1, none⟩)) rfl rfl (by kernel_rfl) (by kernel_rfl) (by kernel_rfl) (by kernel_rfl) (fun _ _ _ h => h) (by rfl) ?hyj10zn3 hHeld1 ?restj10zn3
        case hyj10zn3 =>
         intro W hSw
         go_simp
         (try with_reducible rfl)
        try simp only [Act.put, List.setIfInBounds_toArray, List.set_cons_zero, List.set_cons_succ]
        refine takeJ1 (i := 3) (dst := (some 68)) (v := .slice bC CW.length dC) rfl rfl (by kernel_rfl) (by kernel_rfl) (by kernel_rfl) (by kernel_rfl) (fun _ _ _ h => h) (by rfl) ?hyj10zn4 hHeld1 ?restj10zn4
        case hyj10zn4 =>
         intro W hSw
         obtain ⟨s0, s1⟩ := hSw
         go_simp
         (try with_reducible rfl)
        try simp only [Act.put, List.setIfInBounds_toArray, List.set_cons_zero, List.set_cons_succ]
        refine takeJ1 (i := 4) (dst := (some 69)) (v := .int .i64 (CW.length : Int)) rfl rfl (by kernel_rfl) (by kernel_rfl) (by kernel_rfl) (by kernel_rfl) (fun _ _ _ h => h) (by rfl) ?hyj10zn5 hHeld1 ?restj10zn5
        case hyj10zn5 =>
         intro W hSw
         go_simp
         (try with_reducible rfl)
        try simp only [Act.put, List.setIfInBounds_toArray, List.set_cons_zero, List.set_cons_succ]
        refine readyJ (rs := [5, 7]) (by kernel_rfl) (by simp) ?_
        refine (AllJ.cons rfl ?op5zz1 (AllJ.cons rfl ?op7zz1 AllJ.nil))
        case op5zz1 =>
         intro K hK
         have hmk := makeW CW.length (Nat.le_trans H30.out (by decide)) v0
         go_simp
         clear hmk
         obtain ⟨gz, hgz⟩ : ∃ y, v0.heap.size = y := ⟨_, rfl⟩
         try rw [hgz]
         have G0x5 := FD.addO ((Below.refl _ _).alloc (Nat.le_refl _) (.cells (madeCells #[Value.int .i64 0] CW.length) 2)) (own_madeW v0 2 CW.length (Nat.le_trans H30.out (by decide)))
         simp only [List.cons_append, List.nil_append] at G0x5
         try rw [hgz] at G0x5
         obtain ⟨v0x5, h9_⟩ : ∃ zz, (v0.alloc (.cells (madeCells #[Value.int .i64 0] CW.length) 2)) = zz := ⟨_, rfl⟩
         rw [h9_] at G0x5 ⊢
         clear h9_ hgz
         refine hK.out _ _ (fun _ => trivial) ⟨G0x5.c 1 0 rfl rfl, G0x5.c 1 1 rfl rfl⟩ (fun hHeld hHeld1 => ?_)
         clear hK K
         try simp only [Act.put, List.setIfInBounds_toArray, List.set_cons_zero, List.set_cons_succ]
         refine takeJ1 (i := 6) (dst := (some 71)) (v := .agg #[.slice aC S2.length cC, .slice (some ⟨gz, 0, none⟩) CW.length CW.length]) rfl rfl (by kernel_rfl) (by kernel_rfl) (by kernel_rfl) (by kernel_rfl) (fun _ _ _ h => h) (by rfl) ?hyj10zn6 hHeld1 ?restj10zn6
         case hyj10zn6 =>
          intro W hSw
          go_simp
          (try with_reducible rfl)
         try simp only [Act.put, List.setIfInBounds_toArray, List.set_cons_zero, List.set_cons_succ]
         refine readyJ (rs := [7]) (by kernel_rfl) (by simp) ?_
         refine (AllJ.cons rfl ?op7zz2 AllJ.nil)
         case op7zz2 =>
          intro K hK
          go_simp
          obtain ⟨Q7, hQ7⟩ : ∃ y, v0x5.heap.size = y := ⟨_, rfl⟩
          rw [hQ7]
          have G2x7 := G0x5.box1 hQ7 [.slice none 0 0, .slice none 0 0] 26
          simp only [List.cons_append, List.nil_append] at G2x7
          obtain ⟨v2x7, h9_⟩ : ∃ zz, (v0x5.alloc (.cells #[.slice none 0 0, .slice none 0 0] 26)) = zz := ⟨_, rfl⟩
          rw [h9_] at G2x7 ⊢
          clear h9_ hQ7
          refine hK.out _ _ (fun _ => trivial) ⟨G2x7.c 1 0 rfl rfl, G2x7.c 1 1 rfl rfl⟩ (fun hHeld hHeld1 => ?_)
          clear hK K
          try simp only [Act.put, List.setIfInBounds_toArray, List.set_cons_zero, List.set_cons_succ]
          refine readyJ (rs := [8]) (by kernel_rfl) (by simp) ?_
          refine (AllJ.cons rfl ?op8zz3 AllJ.nil)
          case op8zz3 =>
           intro K hK
           have k0 := G2x7.c 2 0 rfl rfl
           have kf0 := G2x7.f 2 0 rfl rfl
           have k1 := G2x7.c 2 1 rfl rfl
           have kf1 := G2x7.f 2 1 rfl rfl
           go_simp
           have G3x8 := G2x7.set 2 rfl (by simp) [.slice aC S2.length cC, .slice (some ⟨gz, 0, none⟩) CW.length CW.length] rfl
           simp only [setL, Nat.reduceAdd, List.set_cons_zero, List.set_cons_succ] at G3x8
           clear k0 kf0 k1 kf1
           refine hK.out _ _ (fun _ => trivial) ⟨G3x8.c 1 0 rfl rfl, G3x8.c 1 1 rfl rfl⟩ (fun hHeld hHeld1 => ?_)
           clear hK K
           try simp only [Act.put, List.setIfInBounds_toArray, List.set_cons_zero, List.set_cons_succ]
           refine doneJ (by kernel_rfl) ?_
           (try dsimp only)
           go_wp2
           go_meet
           exact ⟨Q7, gz, rfl, Lib.hid G3x8⟩
        case op7zz1 =>
         intro K hK
         go_simp
         obtain ⟨Q7, hQ7⟩ : ∃ y, v0.heap.size = y := ⟨_, rfl⟩
         rw [hQ7]
         have G0x7 := FD.box1 hQ7 [.slice none 0 0, .slice none 0 0] 26
         simp only [List.cons_append, List.nil_append] at G0x7
         obtain ⟨v0x7, h9_⟩ : ∃ zz, (v0.alloc (.cells #[.slice none 0 0, .slice none 0 0] 26)) = zz := ⟨_, rfl⟩
         rw [h9_] at G0x7 ⊢
         clear h9_ hQ7
         refine hK.out _ _ (fun _ => trivial) ⟨G0x7.c 1 0 rfl rfl, G0x7.c 1 1 rfl rfl⟩ (fun hHeld hHeld1 => ?_)
         clear hK K
         try simp only [Act.put, List.setIfInBounds_toArray, List.set_cons_zero, List.set_cons_succ]
         refine readyJ (rs := [5]) (by kernel_rfl) (by simp) ?_
         refine (AllJ.cons rfl ?op5zz4 AllJ.nil)
         case op5zz4 =>
          intro K hK
          have hmk := makeW CW.length (Nat.le_trans H30.out (by decide)) v0x7
          go_simp
          clear hmk
          obtain ⟨gz, hgz⟩ : ∃ y, v0x7.heap.size = y := ⟨_, rfl⟩
          try rw [hgz]
          have G1x5 := G0x7.addO ((Below.refl _ _).alloc (Nat.le_refl _) (.cells (madeCells #[Value.int .i64 0] CW.length) 2)) (own_madeW v0x7 2 CW.length (Nat.le_trans H30.out (by decide)))
          simp only [List.cons_append, List.nil_append] at G1x5
          try rw [hgz] at G1x5
          obtain ⟨v1x5, h9_⟩ : ∃ zz, (v0x7.alloc (.cells (madeCells #[Value.int .i64 0] CW.length) 2)) = zz := ⟨_, rfl⟩
          rw [h9_] at G1x5 ⊢
          clear h9_ hgz
          refine hK.out _ _ (fun _ => trivial) ⟨G1x5.c 1 0 rfl rfl, G1x5.c 1 1 rfl rfl⟩ (fun hHeld hHeld1 => ?_)
          clear hK K
          try simp only [Act.put, List.setIfInBounds_toArray, List.set_cons_zero, List.set_cons_succ]
          refine takeJ1 (i := 6) (dst := (some 71)) (v := .agg #[.slice aC S2.length cC, .slice (some ⟨gz, 0, none⟩) CW.length CW.length]) rfl rfl (by kernel_rfl) (by kernel_rfl) (by kernel_rfl) (by kernel_rfl) (fun _ _ _ h => h) (by rfl) ?hyj10zn7 hHeld1 ?restj10zn7
          case hyj10zn7 =>
           intro W hSw
           go_simp
           (try with_reducible rfl)
          try simp only [Act.put, List.setIfInBounds_toArray, List.set_cons_zero, List.set_cons_succ]
          refine readyJ (rs := [8]) (by kernel_rfl) (by simp) ?_
          refine (AllJ.cons rfl ?op8zz5 AllJ.nil)
          case op8zz5 =>
           intro K hK
           have k0 := G1x5.c 2 0 rfl rfl
           have kf0 := G1x5.f 2 0 rfl rfl
           have k1 := G1x5.c 2 1 rfl rfl
           have kf1 := G1x5.f 2 1 rfl rfl
           go_simp
           have G3x8 := G1x5.set 2 rfl (by simp) [.slice aC S2.length cC, .slice (some ⟨gz, 0, none⟩) CW.length CW.length] rfl
           simp only [setL, Nat.reduceAdd, List.set_cons_zero, List.set_cons_succ] at G3x8
           clear k0 kf0 k1 kf1
           refine hK.out _ _ (fun _ => trivial) ⟨G3x8.c 1 0 rfl rfl, G3x8.c 1 1 rfl rfl⟩ (fun hHeld hHeld1 => ?_)
           clear hK K
           try simp only [Act.put, List.setIfInBounds_toArray, List.set_cons_zero, List.set_cons_succ]
           refine doneJ (by kernel_rfl) ?_
           (try dsimp only)
           go_wp2
           go_meet
           exact ⟨Q7, gz, rfl, Lib.hid G3x8⟩
       case rest =>
        obtain ⟨Q7, gz, rfl, F7⟩ := hcut
        clear F6
        obtain ⟨W7, rfl⟩ : ∃ x : World, x = wc := ⟨_, rfl⟩
        go_wp2
        go_loopw [8] (fun s8 wr => ∃ (r : Nat) (l : List Int), r ≤ CW.length ∧ s8 = .int .i64 r ∧ Hid (SmallW l CW.length) ∧ Hid (Fr wo.heap.size wo wr [(wo.heap.size, [.slice a xs.length c, .slice b ys.length d, .slice a2 ws.length c2, .slice b2 vs.length dw, .slice aQ Q.length cQ, .slice aS wv.S.length cS, .slice aP wv.P.length cP, .slice aD wv.D.length cD, .slice aI wv.K.length cI, .slice aJ J.length cJ, .int .i64 f]), (Q5, [.slice aC S2.length cC, .slice bC CW.length dC]), (Q7, [.slice aC S2.length cC, .slice (some ⟨gz, 0, none⟩) CW.length CW.length])] [(.i64, a, xs), (.i64, b, ys), (.i64, a2, ws), (.i64, b2, vs), (.i64, aQ, Q), (.i64, aS, wv.S), (.i64, aP, wv.P), (.i64, aD, wv.D), (.i64, aI, wv.K), (.i64, aJ, J)] [⟨3, .slice aC S2.length cC, S2.length, S2.map (Value.int .i64)⟩, ⟨2, .slice bC CW.length dC, CW.length, CW.map (Value.int .i64)⟩, ⟨2, .slice (some ⟨gz, 0, none⟩) CW.length CW.length, CW.length, (l).map (Value.int .i64)⟩] [])) (fun s8 _ => CW.length - (intOf s8).toNat)
        case atStart => exact ⟨0, List.replicate CW.length 0, Nat.zero_le _, rfl, Lib.hid (smallW_zero _), F7⟩
        case round =>
         obtain ⟨r, l, hr, rfl, HSM, F8⟩ := hrel
         clear F7
         obtain ⟨wj, rfl⟩ : ∃ x : World, x = wr := ⟨_, rfl⟩
         have c2_0 := F8.out.c 2 0 rfl rfl
         have c2_1 := F8.out.c 2 1 rfl rfl
         by_cases hlr : r < CW.length
         ·skip
          have hri : (r : Int) < (CW.length : Int) := by omega
          have hll := HSM.out.1
          have hgc : (l.map (Value.int .i64))[r]? = some (.int .i64 (l[r]'(by omega))) := by rw [List.getElem?_map, List.getElem?_eq_getElem (by omega)]; rfl
          obtain ⟨k0, kf⟩ := F8.out.rc 2 r rfl hgc
          have k9 := F8.out.c 0 10 rfl rfl
          clear hgc
          go_upto_region 13 with fail
          obtain ⟨yv, hyv⟩ : ∃ z, RowKit.wrap64 ((RowKit.wrap64 ((r : Int) * 7919 + f.tmod 100)).tmod 31 - 15) = z := ⟨_, rfl⟩
          rw [hyv]
          have hyb2 : -45 ≤ yv ∧ yv ≤ 45 := by rw [← hyv, wrap_small _ (small_rem _)]; exact small_rem _
          have G3 := F8.out.put 2 r rfl (.int .i64 yv)
          simp only [List.set_cons_zero, List.set_cons_succ] at G3
          rw [← List.map_set] at G3
          have F9 := Lib.hid G3
          have HSM2 := Lib.hid (smallW_set HSM.out r hyb2)
          clear G3 k0 kf k9 hyv hyb2 F8 c2_0 c2_1
          have h30 := H30.out
          go_wp2
          go_roundw
          case rel => exact ⟨r + 1, l.set r yv, hlr, congrArg (Value.int .i64) (by omega), HSM2, F9⟩
          case measure => simp only [intOf]; omega
         ·obtain rfl : r = CW.length := by omega
          have hri : ¬ (CW.length : Int) < (CW.length : Int) := by omega
          go_upto_region 15 with fail
          clear hri c2_0 c2_1
          have t1 := (tenB_iff.1 HTB.out)
          obtain ⟨z1, z2, z3⟩ := clZ_ok HD0.out
          have hnn : (prodI (colS xs wv)).toNat = CW.length := by rw [HCWe.out, clWs_len]
          have htl : tenB S2 l = true := tenB_iff.2 ⟨(tenB_iff.1 HT5.out).1, by rw [HSM.out.1]; exact (tenB_iff.1 HT5.out).2.1, smallW_isW HSM.out⟩
          have hbw := back_word (xs := xs) wv HSM.out HB5.out
          have hplw := pairs_law (zs := l) wv t1.2.1.symm
          rw [hnn, ← HCWe.out] at hplw
          have hbl := bkWs_len (xs := xs) (ys := ys) (zs := l) (wv := wv) t1.2.1.symm
          obtain ⟨BW, hBW⟩ : ∃ q, bkWs xs l wv = q := ⟨_, rfl⟩
          rw [hBW] at hbw hplw hbl
          have hWL : ∀ x ∈ l, (Lit.int .i64 x).wf = true := fun x hx => by have h9 := isW_iff.1 (smallW_isW HSM.out x hx); exact wf_i64_iff.2 ⟨by omega, by omega⟩
          have hWB : ∀ x ∈ BW, (Lit.int .i64 x).wf = true := fun x hx => by have h9 := isW_iff.1 (hbw x hx); exact wf_i64_iff.2 ⟨by omega, by omega⟩
          have hWX : ∀ x ∈ xs, (Lit.int .i64 x).wf = true := wf_dims (fun x hx => by have := goodB_dims t1.1 x hx; omega)
          have HBK := Lib.hid (fun W (h : Ints .i64 W W.heap.size aC S2) (h2 : Ints .i64 W W.heap.size (some ⟨gz, 0, none⟩) l) hX k hQ hS hP hD => (by have h9 := conBack_ok aC (some ⟨gz, 0, none⟩) a aI cC CW.length c cI S2 l xs aQ aS aP aD cQ cS cP cD Q wv W h h2 hX k hQ hS hP hD HL.out HC1.out.1 HC1.out.2 htl t1.1 z1 z2 z3 HS2e.out.symm (by rw [hBW]; exact hbw); rw [hBW, HSM.out.1] at h9; exact h9 : Calls Try.prog 16 #[.agg #[.slice aC S2.length cC, .slice (some ⟨gz, 0, none⟩) CW.length CW.length], .slice a xs.length c, .slice aI wv.K.length cI, .agg #[.slice aQ Q.length cQ, .slice aS wv.S.length cS, .slice aP wv.P.length cP, .slice aD wv.D.length cD]] W (RetTF W xs BW 0)))
          have HEN := Lib.hid (fun a1 c1 W (h : Ints .i64 W W.heap.size a1 xs) (h2 : Ints .i64 W W.heap.size a xs) => (by have h9 := eqNumbers_any a1 a c1 c W.heap.size xs xs W h h2; simp only [decide_true] at h9; exact h9 : Calls Try.prog 17 #[.slice a1 xs.length c1, .slice a xs.length c] W fun e w' => e = .returned (.bool true) ∧ ∃ q, w' = W.drewN q))
          obtain ⟨SL, hSL⟩ : ∃ s, pairS CW l = s := ⟨_, rfl⟩
          obtain ⟨SR, hSR⟩ : ∃ s, pairS ys BW = s := ⟨_, rfl⟩
          have HE := Lib.hid (show SL CW.length = SR ys.length by rw [← hSL, ← hSR]; exact hplw)
          have HSL0 : Hid (SL 0 = 0) := Lib.hid (by rw [← hSL]; rfl)
          have HSR0 : Hid (SR 0 = 0) := Lib.hid (by rw [← hSR]; rfl)
          have HSL1 : Hid (∀ k, SL (k + 1) = SL k + CW[k]?.getD 0 * l[k]?.getD 0) := Lib.hid (by rw [← hSL]; intro k; rfl)
          have HSR1 : Hid (∀ k, SR (k + 1) = SR k + ys[k]?.getD 0 * BW[k]?.getD 0) := Lib.hid (by rw [← hSR]; intro k; rfl)
          have HSLB : Hid (∀ k, (SL k).natAbs ≤ k * (140737488355328 * 140737488355328)) := Lib.hid (by rw [← hSL]; exact pairS_bound (tenB_iff.1 HT5.out).2.2 (smallW_isW HSM.out))
          have HSRB : Hid (∀ k, (SR k).natAbs ≤ k * (140737488355328 * 140737488355328)) := Lib.hid (by rw [← hSR]; exact pairS_bound t1.2.2 hbw)
          have HZL : Hid (∀ W, Calls Try.prog 18 #[.int .i64 0] W (RetZ W (SL 0))) := Lib.hid (by rw [HSL0.out]; exact fun W => zfrom_any 0 W (by decide) (by decide))
          have HZR : Hid (∀ W, Calls Try.prog 18 #[.int .i64 0] W (RetZ W (SR 0))) := Lib.hid (by rw [HSR0.out]; exact fun W => zfrom_any 0 W (by decide) (by decide))
          have HYL := Lib.hid (show ys.length ≤ 65536 by have h9 := (goodB_iff.1 t1.1).2.2; have := t1.2.1; omega)
          have HWL := Lib.hid hWL
          have HWB := Lib.hid hWB
          have HWX := Lib.hid hWX
          have HBL := Lib.hid hbl
          have HYW := Lib.hid t1.2.2
          have HBWW := Lib.hid hbw
          have HCWW := Lib.hid (tenB_iff.1 HT5.out).2.2
          have HLW := Lib.hid (smallW_isW HSM.out)
          clear t1 z1 z2 z3 hnn htl hbw hplw hbl hBW hWL hWB hWX hSL hSR
          have c0_0 := F8.out.c 0 0 rfl rfl
          have c0_1 := F8.out.c 0 1 rfl rfl
          have c0_2 := F8.out.c 0 2 rfl rfl
          have c0_3 := F8.out.c 0 3 rfl rfl
          have c0_4 := F8.out.c 0 4 rfl rfl
          have c0_5 := F8.out.c 0 5 rfl rfl
          have c0_6 := F8.out.c 0 6 rfl rfl
          have c0_7 := F8.out.c 0 7 rfl rfl
          have c0_8 := F8.out.c 0 8 rfl rfl
          have c0_9 := F8.out.c 0 9 rfl rfl
          have c0_10 := F8.out.c 0 10 rfl rfl
          have c1_0 := F8.out.c 1 0 rfl rfl
          have c1_1 := F8.out.c 1 1 rfl rfl
          have c2_0 := F8.out.c 2 0 rfl rfl
          have c2_1 := F8.out.c 2 1 rfl rfl
          go_upto_region 16 with (first | (go_at_call 16; refine (HBK.out _ (F8.out.li 0 (k := .i64) (xs := S2) rfl HWS.out) (F8.out.li 2 (k := .i64) (xs := l) rfl HWL.out) (F8.out.lw 0 rfl) (F8.out.lw 8 rfl) (F8.out.lw 4 rfl) (F8.out.lw 5 rfl) (F8.out.lw 6 rfl) (F8.out.lw 7 rfl)).mono ?_; rintro e w9 ⟨aB, cB, bB, dB, rfl, hf⟩; have F9 := Lib.hid (F8.out.join hf); simp only [List.nil_append, List.cons_append] at F9; clear hf F8 c0_0 c0_1 c0_2 c0_3 c0_4 c0_5 c0_6 c0_7 c0_8 c0_9 c0_10 c1_0 c1_1 c2_0 c2_1) | fail)
          obtain ⟨Q9, hQ9⟩ : ∃ x, w9.heap.size = x := ⟨_, rfl⟩
          rw [hQ9]
          have F10 := Lib.hid (F9.out.box1 (b := Q9) hQ9 [.slice aB xs.length cB, .slice bB BW.length dB] 26)
          simp only [List.nil_append, List.cons_append] at F10
          obtain ⟨W10, hW10⟩ : ∃ x, (w9.alloc (.cells #[.slice aB xs.length cB, .slice bB BW.length dB] 26)) = x := ⟨_, rfl⟩
          rw [hW10] at F10 ⊢
          clear hW10 hQ9 F9
          have c0_0 := F10.out.c 0 0 rfl rfl
          have c0_1 := F10.out.c 0 1 rfl rfl
          have c0_2 := F10.out.c 0 2 rfl rfl
          have c0_3 := F10.out.c 0 3 rfl rfl
          have c0_4 := F10.out.c 0 4 rfl rfl
          have c0_5 := F10.out.c 0 5 rfl rfl
          have c0_6 := F10.out.c 0 6 rfl rfl
          have c0_7 := F10.out.c 0 7 rfl rfl
          have c0_8 := F10.out.c 0 8 rfl rfl
          have c0_9 := F10.out.c 0 9 rfl rfl
          have c0_10 := F10.out.c 0 10 rfl rfl
          have c3_0 := F10.out.c 3 0 rfl rfl
          have c3_1 := F10.out.c 3 1 rfl rfl
          have hbl := HBL.out
          have hbi : ((BW.length : Int) != (ys.length : Int)) = false := by simp [hbl]
          go_upto_region 18 with (first | (go_at_call 11; refine (num11_any _ _).mono ?_; rintro e w' ⟨rfl, rfl⟩) | (go_at_call 17; refine (HEN.out _ _ _ (F10.out.li 3 (k := .i64) (xs := xs) rfl HWX.out) (F10.out.lw 0 rfl)).mono ?_; rintro e w11 ⟨rfl, q9, rfl⟩; have F11 := Lib.hid (F10.out.drewN q9); clear F10 c0_0 c0_1 c0_2 c0_3 c0_4 c0_5 c0_6 c0_7 c0_8 c0_9 c0_10 c3_0 c3_1; have c0_0 := F11.out.c 0 0 rfl rfl; have c0_1 := F11.out.c 0 1 rfl rfl; have c0_2 := F11.out.c 0 2 rfl rfl; have c0_3 := F11.out.c 0 3 rfl rfl; have c0_4 := F11.out.c 0 4 rfl rfl; have c0_5 := F11.out.c 0 5 rfl rfl; have c0_6 := F11.out.c 0 6 rfl rfl; have c0_7 := F11.out.c 0 7 rfl rfl; have c0_8 := F11.out.c 0 8 rfl rfl; have c0_9 := F11.out.c 0 9 rfl rfl; have c0_10 := F11.out.c 0 10 rfl rfl; have c3_0 := F11.out.c 3 0 rfl rfl; have c3_1 := F11.out.c 3 1 rfl rfl) | fail)
          obtain ⟨W11, hW11⟩ : ∃ x, W10.drewN q9 = x := ⟨_, rfl⟩
          rw [hW11] at F11 ⊢
          clear hW11 hbi hbl c0_0 c0_1 c0_2 c0_3 c0_4 c0_5 c0_6 c0_7 c0_8 c0_9 c0_10 c3_0 c3_1
          go_upto_region 19 with (first | (go_at_call 18; refine (HZL.out _).mono ?_; rintro e w12 ⟨az, cz, rfl, hN, hb⟩; have F12 := Lib.hid (F11.out.next hb); have HNL := Lib.hid hN; clear hN hb F11) | fail)
          obtain ⟨QL, hQL⟩ : ∃ x, w12.heap.size = x := ⟨_, rfl⟩
          rw [hQL]
          have F13 := Lib.hid (F12.out.box1 (b := QL) hQL [.bool (decide (SL 0 < 0)), .slice az (dig 18446744073709551616 (SL 0).natAbs).length cz] 48)
          simp only [List.nil_append, List.cons_append] at F13
          have HNL2 := Lib.hid (HNL.out.next ((Below.refl _ _).alloc (Nat.le_refl _) (.cells #[.bool (decide (SL 0 < 0)), .slice az (dig 18446744073709551616 (SL 0).natAbs).length cz] 48)))
          obtain ⟨W13, hW13⟩ : ∃ x, (w12.alloc (.cells #[.bool (decide (SL 0 < 0)), .slice az (dig 18446744073709551616 (SL 0).natAbs).length cz] 48)) = x := ⟨_, rfl⟩
          rw [hW13] at F13 HNL2 ⊢
          clear hW13 hQL F12 HNL
          go_upto_region 20 with (first | (go_at_call 18; refine (HZR.out _).mono ?_; rintro e w14 ⟨ae, ce, rfl, hN, hb⟩; have F14 := Lib.hid (F13.out.next hb); have HNR := Lib.hid hN; have HNL3 := Lib.hid (HNL2.out.next hb); clear hN hb F13 HNL2) | fail)
          obtain ⟨QR, hQR⟩ : ∃ x, w14.heap.size = x := ⟨_, rfl⟩
          rw [hQR]
          have F15 := Lib.hid (F14.out.box1 (b := QR) hQR [.bool (decide (SR 0 < 0)), .slice ae (dig 18446744073709551616 (SR 0).natAbs).length ce] 48)
          simp only [List.nil_append, List.cons_append] at F15
          have HNL4 := Lib.hid (HNL3.out.next ((Below.refl _ _).alloc (Nat.le_refl _) (.cells #[.bool (decide (SR 0 < 0)), .slice ae (dig 18446744073709551616 (SR 0).natAbs).length ce] 48)))
          have HNR2 := Lib.hid (HNR.out.next ((Below.refl _ _).alloc (Nat.le_refl _) (.cells #[.bool (decide (SR 0 < 0)), .slice ae (dig 18446744073709551616 (SR 0).natAbs).length ce] 48)))
          obtain ⟨W15, hW15⟩ : ∃ x, (w14.alloc (.cells #[.bool (decide (SR 0 < 0)), .slice ae (dig 18446744073709551616 (SR 0).natAbs).length ce] 48)) = x := ⟨_, rfl⟩
          rw [hW15] at F15 HNL4 HNR2 ⊢
          clear hW15 hQR F14 HNL3 HNR
          obtain ⟨a9_, c9_, he, hsh⟩ := own_shape (F15.out.r 1 rfl)
          simp only [Value.slice.injEq] at he
          obtain ⟨rfl, _, rfl⟩ := he
          obtain ⟨gC, rfl, _⟩ := hsh.resolve_left (show ¬ CW.length = 0 by have := HL5.out; omega)
          clear hsh
          go_wp2
          go_loopw [13] (fun s13 wx => ∃ (r : Nat) (az : Option Addr) (cz : Nat), r ≤ CW.length ∧ s13 = .int .i64 r ∧ Hid (NAt wx wx.heap.size az cz (SL r).natAbs) ∧ Hid (NAt wx wx.heap.size ae ce (SR 0).natAbs) ∧ Hid (Fr wo.heap.size wo wx [(wo.heap.size, [.slice a xs.length c, .slice b ys.length d, .slice a2 ws.length c2, .slice b2 vs.length dw, .slice aQ Q.length cQ, .slice aS wv.S.length cS, .slice aP wv.P.length cP, .slice aD wv.D.length cD, .slice aI wv.K.length cI, .slice aJ J.length cJ, .int .i64 f]), (Q5, [.slice aC S2.length cC, .slice (some ⟨gC, 0, none⟩) CW.length dC]), (Q7, [.slice aC S2.length cC, .slice (some ⟨gz, 0, none⟩) CW.length CW.length]), (Q9, [.slice aB xs.length cB, .slice bB BW.length dB]), (QL, [.bool (decide (SL r < 0)), .slice az (dig 18446744073709551616 (SL r).natAbs).length cz]), (QR, [.bool (decide (SR 0 < 0)), .slice ae (dig 18446744073709551616 (SR 0).natAbs).length ce])] [(.i64, a, xs), (.i64, b, ys), (.i64, a2, ws), (.i64, b2, vs), (.i64, aQ, Q), (.i64, aS, wv.S), (.i64, aP, wv.P), (.i64, aD, wv.D), (.i64, aI, wv.K), (.i64, aJ, J)] [⟨3, .slice aC S2.length cC, S2.length, S2.map (Value.int .i64)⟩, ⟨2, .slice (some ⟨gC, 0, none⟩) CW.length dC, CW.length, CW.map (Value.int .i64)⟩, ⟨2, .slice (some ⟨gz, 0, none⟩) CW.length CW.length, CW.length, (l).map (Value.int .i64)⟩, ⟨3, .slice aB xs.length cB, xs.length, xs.map (Value.int .i64)⟩, ⟨2, .slice bB BW.length dB, BW.length, BW.map (Value.int .i64)⟩] [])) (fun s13 _ => CW.length - (intOf s13).toNat)
          case atStart => exact ⟨0, az, cz, Nat.zero_le _, rfl, HNL4, HNR2, F15⟩
          case round =>
           obtain ⟨r, az, cz, hr, rfl, HNL, HNR, F16⟩ := hrel
           clear F15 HNL4 HNR2
           obtain ⟨wj, rfl⟩ : ∃ x : World, x = wr := ⟨_, rfl⟩
           have c2_0 := F16.out.c 2 0 rfl rfl
           have c2_1 := F16.out.c 2 1 rfl rfl
           by_cases hlr : r < CW.length
           ·skip
            have hri : (r : Int) < (CW.length : Int) := by omega
            go_upto_region 23 with fail
            clear hri c2_0 c2_1
            have hs1 := HSL1.out r
            have hsb := HSLB.out r
            have hkb : r * (140737488355328 * 140737488355328) ≤ 65536 * (140737488355328 * 140737488355328) := Nat.mul_le_mul_right _ (by have := H30.out; omega)
            obtain ⟨x, hx⟩ : ∃ x, CW[r]?.getD 0 = x := ⟨_, rfl⟩
            obtain ⟨y, hyy⟩ : ∃ x, l[r]?.getD 0 = x := ⟨_, rfl⟩
            have hxb := get_word HCWW.out r
            have hyb := get_word HLW.out r
            rw [hx] at hxb
            rw [hyy] at hyb
            rw [hx, hyy] at hs1
            have hab : x.natAbs * y.natAbs ≤ 140737488355328 * 140737488355328 := Nat.mul_le_mul (by omega) (by omega)
            rw [← Int.natAbs_mul] at hab
            have HF1 := Lib.hid (fun W => zfrom_any x W (by omega) (by omega))
            have HF2 := Lib.hid (fun W => zfrom_any y W (by omega) (by omega))
            have HT3 := Lib.hid (fun p q c d W h h2 => ztimes_any p q c d x y W h h2 (dig_word (by omega)) (dig_word (by omega)))
            have HP4 := Lib.hid (fun p q c d W h h2 => zplus_any p q c d (SL r) (x * y) (SL (r + 1)) W h h2 (dig_word (by omega)) (dig_word (by omega)) hs1.symm)
            obtain ⟨XY, hXY⟩ : ∃ z, x * y = z := ⟨_, rfl⟩
            rw [hXY] at HT3 HP4
            have HGX := Lib.hid (show (CW.map (Value.int .i64))[r]? = some (.int .i64 x) by rw [List.getElem?_map, ← hx]; rw [List.getElem?_eq_getElem (by omega)]; rfl)
            have HGY := Lib.hid (show (l.map (Value.int .i64))[r]? = some (.int .i64 y) by rw [List.getElem?_map, ← hyy]; rw [List.getElem?_eq_getElem (by rw [HSM.out.1]; omega)]; rfl)
            clear hs1 hsb hkb hxb hyb hab hXY hx hyy
            have hlr2 := HSM.out.1
            refine wp_region_parts2 (w := wj) 15 1 none [] [(fun u _ => u = .agg #[.bool (decide (SL r < 0)), .slice az (dig 18446744073709551616 (SL r).natAbs).length cz]), (fun u _ => u = .pointer (some ⟨Q5, 1, none⟩)), (fun u _ => u = .slice (some ⟨gC, 0, none⟩) CW.length dC), (fun u _ => u = .int .i64 (r : Int)), (fun u _ => u = .pointer (some ⟨gC, r, none⟩)), (fun u _ => u = .int .i64 x), ((IsZ x)), (fun u _ => u = .pointer (some ⟨Q7, 1, none⟩)), (fun u _ => u = .slice (some ⟨gz, 0, none⟩) CW.length CW.length), (fun u _ => u = .int .i64 (r : Int)), (fun u _ => u = .pointer (some ⟨gz, r, none⟩)), (fun u _ => u = .int .i64 y), ((IsZ y)), ((IsZ XY)), ((IsZ (SL (r + 1))))] [some 134, some 135, some 136, some 137, some 138, some 139, some 140, some 141, some 142, some 143, some 144, some 145, some 146, some 147, some 148, none] #[true, true, true, true, true, true, true, true, true, true, true, true, true, true, true, false] #[true, true, true, true, true, true, true, true, true, true, true, true, true, true, true, false] (by kernel_rfl) rfl (by kernel_rfl) (by kernel_rfl) rfl (by kernel_rfl) (by kernel_rfl) (.cons (carries_eq _) (.cons (carries_eq _) (.cons (carries_eq _) (.cons (carries_eq _) (.cons (carries_eq _) (.cons (carries_eq _) (.cons (isZ_carries _) (.cons (carries_eq _) (.cons (carries_eq _) (.cons (carries_eq _) (.cons (carries_eq _) (.cons (carries_eq _) (.cons (isZ_carries _) (.cons (isZ_carries _) (.cons (isZ_carries _) .nil))))))))))))))) (fun vs b hvl hvb => ?_)
            obtain ⟨x0, x1, x2, x3, x4, x5, x6, x7, x8, x9, x10, x11, x12, x13, x14, x15, rfl⟩ : ∃ x0 x1 x2 x3 x4 x5 x6 x7 x8 x9 x10 x11 x12 x13 x14 x15, vs = [x0, x1, x2, x3, x4, x5, x6, x7, x8, x9, x10, x11, x12, x13, x14, x15] := lw16 hvl
            clear hvl
            simp only [putAll, Act.put, List.setIfInBounds_toArray, List.set_cons_zero, List.set_cons_succ] at hvb
            subst hvb
            refine ⟨(.snoc (.snoc (.snoc (.snoc (.snoc (.snoc (.snoc (.snoc (.snoc (.snoc (.snoc (.snoc (.snoc (.snoc (.snoc .zero (PartOb.intro (d := (some 134)) (r := fun u _ => u = .agg #[.bool (decide (SL r < 0)), .slice az (dig 18446744073709551616 (SL r).natAbs).length cz]) rfl rfl rfl rfl ?po23x0)) (PartOb.intro (d := (some 135)) (r := fun u _ => u = .pointer (some ⟨Q5, 1, none⟩)) rfl rfl rfl rfl ?po23x1)) (PartOb.intro (d := (some 136)) (r := fun u _ => u = .slice (some ⟨gC, 0, none⟩) CW.length dC) rfl rfl rfl rfl ?po23x2)) (PartOb.intro (d := (some 137)) (r := fun u _ => u = .int .i64 (r : Int)) rfl rfl rfl rfl ?po23x3)) (PartOb.intro (d := (some 138)) (r := fun u _ => u = .pointer (some ⟨gC, r, none⟩)) rfl rfl rfl rfl ?po23x4)) (PartOb.intro (d := (some 139)) (r := fun u _ => u = .int .i64 x) rfl rfl rfl rfl ?po23x5)) (PartOb.intro (d := (some 140)) (r := (IsZ x)) rfl rfl rfl rfl ?po23x6)) (PartOb.intro (d := (some 141)) (r := fun u _ => u = .pointer (some ⟨Q7, 1, none⟩)) rfl rfl rfl rfl ?po23x7)) (PartOb.intro (d := (some 142)) (r := fun u _ => u = .slice (some ⟨gz, 0, none⟩) CW.length CW.length) rfl rfl rfl rfl ?po23x8)) (PartOb.intro (d := (some 143)) (r := fun u _ => u = .int .i64 (r : Int)) rfl rfl rfl rfl ?po23x9)) (PartOb.intro (d := (some 144)) (r := fun u _ => u = .pointer (some ⟨gz, r, none⟩)) rfl rfl rfl rfl ?po23x10)) (PartOb.intro (d := (some 145)) (r := fun u _ => u = .int .i64 y) rfl rfl rfl rfl ?po23x11)) (PartOb.intro (d := (some 146)) (r := (IsZ y)) rfl rfl rfl rfl ?po23x12)) (PartOb.intro (d := (some 147)) (r := (IsZ XY)) rfl rfl rfl rfl ?po23x13)) (PartOb.intro (d := (some 148)) (r := (IsZ (SL (r + 1)))) rfl rfl rfl rfl ?po23x14)), ?pend23, ?pfl23⟩
            case po23x0 =>
             intro w1 hb1 hd KK hK
             clear hd
             have hF := F16.out.next hb1
             have k0 := hF.c 4 0 rfl rfl
             have k1 := hF.c 4 1 rfl rfl
             simp only [Act.put, List.setIfInBounds_toArray, List.set_cons_zero, List.set_cons_succ] at hK
             go_simp
             first | exact hK.out _ _ (Below.refl _ _) rfl | (have hk := hK.out _ _ (Below.refl _ _) rfl; revert hk; go_simp)
            case po23x1 =>
             intro w1 hb1 hd KK hK
             clear hd
             simp only [Act.put, List.setIfInBounds_toArray, List.set_cons_zero, List.set_cons_succ] at hK
             go_simp
             first | exact hK.out _ _ (Below.refl _ _) rfl | (have hk := hK.out _ _ (Below.refl _ _) rfl; revert hk; go_simp)
            case po23x2 =>
             intro w1 hb1 hd KK hK
             have d1 : x1 = .pointer (some ⟨Q5, 1, none⟩) := hd 1 (by kernel_rfl)
             clear hd
             subst d1
             have hF := F16.out.next hb1
             have k1 := hF.c 1 1 rfl rfl
             simp only [Act.put, List.setIfInBounds_toArray, List.set_cons_zero, List.set_cons_succ] at hK
             go_simp
             first | exact hK.out _ _ (Below.refl _ _) rfl | (have hk := hK.out _ _ (Below.refl _ _) rfl; revert hk; go_simp)
            case po23x3 =>
             intro w1 hb1 hd KK hK
             clear hd
             simp only [Act.put, List.setIfInBounds_toArray, List.set_cons_zero, List.set_cons_succ] at hK
             go_simp
             first | exact hK.out _ _ (Below.refl _ _) rfl | (have hk := hK.out _ _ (Below.refl _ _) rfl; revert hk; go_simp)
            case po23x4 =>
             intro w1 hb1 hd KK hK
             have d2 : x2 = .slice (some ⟨gC, 0, none⟩) CW.length dC := hd 2 (by kernel_rfl)
             have d3 : x3 = .int .i64 (r : Int) := hd 3 (by kernel_rfl)
             clear hd
             subst d2
             subst d3
             have g2 : (r : Int) < (CW.length : Int) := by omega
             simp only [Act.put, List.setIfInBounds_toArray, List.set_cons_zero, List.set_cons_succ] at hK
             go_simp
             first | exact hK.out _ _ (Below.refl _ _) rfl | (have hk := hK.out _ _ (Below.refl _ _) rfl; revert hk; go_simp)
            case po23x5 =>
             intro w1 hb1 hd KK hK
             have d4 : x4 = .pointer (some ⟨gC, r, none⟩) := hd 4 (by kernel_rfl)
             clear hd
             subst d4
             have hF := F16.out.next hb1
             obtain ⟨k0, kf⟩ := hF.rc 1 r rfl HGX.out
             simp only [Act.put, List.setIfInBounds_toArray, List.set_cons_zero, List.set_cons_succ] at hK
             go_simp
             first | exact hK.out _ _ (Below.refl _ _) rfl | (have hk := hK.out _ _ (Below.refl _ _) rfl; revert hk; go_simp)
            case po23x6 =>
             intro w1 hb1 hd KK hK
             have d5 : x5 = .int .i64 x := hd 5 (by kernel_rfl)
             clear hd
             subst d5
             simp only [Act.put, List.setIfInBounds_toArray, List.set_cons_zero, List.set_cons_succ] at hK
             go_simp
             go_at_call 18
             refine (HF1.out w1).mono ?_
             rintro e w2 ⟨a2z, c2z, rfl, hN2, hb⟩
             (try go_wp2_with fail)
             first | exact hK.out _ _ hb ⟨a2z, c2z, rfl, hN2⟩ | (have hk := hK.out _ _ hb ⟨a2z, c2z, rfl, hN2⟩; revert hk; go_simp)
            case po23x7 =>
             intro w1 hb1 hd KK hK
             clear hd
             simp only [Act.put, List.setIfInBounds_toArray, List.set_cons_zero, List.set_cons_succ] at hK
             go_simp
             first | exact hK.out _ _ (Below.refl _ _) rfl | (have hk := hK.out _ _ (Below.refl _ _) rfl; revert hk; go_simp)
            case po23x8 =>
             intro w1 hb1 hd KK hK
             have d7 : x7 = .pointer (some ⟨Q7, 1, none⟩) := hd 7 (by kernel_rfl)
             clear hd
             subst d7
             have hF := F16.out.next hb1
             have k1 := hF.c 2 1 rfl rfl
             simp only [Act.put, List.setIfInBounds_toArray, List.set_cons_zero, List.set_cons_succ] at hK
             go_simp
             first | exact hK.out _ _ (Below.refl _ _) rfl | (have hk := hK.out _ _ (Below.refl _ _) rfl; revert hk; go_simp)
            case po23x9 =>
             intro w1 hb1 hd KK hK
             clear hd
             simp only [Act.put, List.setIfInBounds_toArray, List.set_cons_zero, List.set_cons_succ] at hK
             go_simp
             first | exact hK.out _ _ (Below.refl _ _) rfl | (have hk := hK.out _ _ (Below.refl _ _) rfl; revert hk; go_simp)
            case po23x10 =>
             intro w1 hb1 hd KK hK
             have d8 : x8 = .slice (some ⟨gz, 0, none⟩) CW.length CW.length := hd 8 (by kernel_rfl)
             have d9 : x9 = .int .i64 (r : Int) := hd 9 (by kernel_rfl)
             clear hd
             subst d8
             subst d9
             have g2 : (r : Int) < (CW.length : Int) := by omega
             simp only [Act.put, List.setIfInBounds_toArray, List.set_cons_zero, List.set_cons_succ] at hK
             go_simp
             first | exact hK.out _ _ (Below.refl _ _) rfl | (have hk := hK.out _ _ (Below.refl _ _) rfl; revert hk; go_simp)
            case po23x11 =>
             intro w1 hb1 hd KK hK
             have d10 : x10 = .pointer (some ⟨gz, r, none⟩) := hd 10 (by kernel_rfl)
             clear hd
             subst d10
             have hF := F16.out.next hb1
             obtain ⟨k0, kf⟩ := hF.rc 2 r rfl HGY.out
             simp only [Act.put, List.setIfInBounds_toArray, List.set_cons_zero, List.set_cons_succ] at hK
             go_simp
             first | exact hK.out _ _ (Below.refl _ _) rfl | (have hk := hK.out _ _ (Below.refl _ _) rfl; revert hk; go_simp)
            case po23x12 =>
             intro w1 hb1 hd KK hK
             have d6 : (IsZ x) x6 w1 := hd 6 (by kernel_rfl)
             have d11 : x11 = .int .i64 y := hd 11 (by kernel_rfl)
             clear hd
             obtain ⟨a6z, c6z, rfl, hN6⟩ := d6
             subst d11
             simp only [Act.put, List.setIfInBounds_toArray, List.set_cons_zero, List.set_cons_succ] at hK
             go_simp
             go_at_call 18
             refine (HF2.out w1).mono ?_
             rintro e w2 ⟨a2z, c2z, rfl, hN2, hb⟩
             (try go_wp2_with fail)
             first | exact hK.out _ _ hb ⟨a2z, c2z, rfl, hN2⟩ | (have hk := hK.out _ _ hb ⟨a2z, c2z, rfl, hN2⟩; revert hk; go_simp)
            case po23x13 =>
             intro w1 hb1 hd KK hK
             have d6 : (IsZ x) x6 w1 := hd 6 (by kernel_rfl)
             have d12 : (IsZ y) x12 w1 := hd 12 (by kernel_rfl)
             clear hd
             obtain ⟨a6z, c6z, rfl, hN6⟩ := d6
             obtain ⟨a12z, c12z, rfl, hN12⟩ := d12
             simp only [Act.put, List.setIfInBounds_toArray, List.set_cons_zero, List.set_cons_succ] at hK
             go_simp
             go_at_call 20
             refine (HT3.out _ _ _ _ w1 hN6 hN12).mono ?_
             rintro e w2 ⟨a2z, c2z, rfl, hN2, hb⟩
             (try go_wp2_with fail)
             first | exact hK.out _ _ hb ⟨a2z, c2z, rfl, hN2⟩ | (have hk := hK.out _ _ hb ⟨a2z, c2z, rfl, hN2⟩; revert hk; go_simp)
            case po23x14 =>
             intro w1 hb1 hd KK hK
             have d0 : x0 = .agg #[.bool (decide (SL r < 0)), .slice az (dig 18446744073709551616 (SL r).natAbs).length cz] := hd 0 (by kernel_rfl)
             have d13 : (IsZ XY) x13 w1 := hd 13 (by kernel_rfl)
             clear hd
             subst d0
             obtain ⟨a13z, c13z, rfl, hN13⟩ := d13
             simp only [Act.put, List.setIfInBounds_toArray, List.set_cons_zero, List.set_cons_succ] at hK
             go_simp
             go_at_call 19
             refine (HP4.out _ _ _ _ w1 (HNL.out.next hb1) hN13).mono ?_
             rintro e w2 ⟨a2z, c2z, rfl, hN2, hb⟩
             (try go_wp2_with fail)
             first | exact hK.out _ _ hb ⟨a2z, c2z, rfl, hN2⟩ | (have hk := hK.out _ _ hb ⟨a2z, c2z, rfl, hN2⟩; revert hk; go_simp)
            case pfl23 => (intro f hf; cases hf)
            case pend23 =>
            intro w1 hb1 hR hD
            have d0 : x0 = .agg #[.bool (decide (SL r < 0)), .slice az (dig 18446744073709551616 (SL r).natAbs).length cz] := hR 0 (by decide)
            have d1 : x1 = .pointer (some ⟨Q5, 1, none⟩) := hR 1 (by decide)
            have d2 : x2 = .slice (some ⟨gC, 0, none⟩) CW.length dC := hR 2 (by decide)
            have d3 : x3 = .int .i64 (r : Int) := hR 3 (by decide)
            have d4 : x4 = .pointer (some ⟨gC, r, none⟩) := hR 4 (by decide)
            have d5 : x5 = .int .i64 x := hR 5 (by decide)
            have d6 : (IsZ x) x6 w1 := hR 6 (by decide)
            have d7 : x7 = .pointer (some ⟨Q7, 1, none⟩) := hR 7 (by decide)
            have d8 : x8 = .slice (some ⟨gz, 0, none⟩) CW.length CW.length := hR 8 (by decide)
            have d9 : x9 = .int .i64 (r : Int) := hR 9 (by decide)
            have d10 : x10 = .pointer (some ⟨gz, r, none⟩) := hR 10 (by decide)
            have d11 : x11 = .int .i64 y := hR 11 (by decide)
            have d12 : (IsZ y) x12 w1 := hR 12 (by decide)
            have d13 : (IsZ XY) x13 w1 := hR 13 (by decide)
            have d14 : (IsZ (SL (r + 1))) x14 w1 := hR 14 (by decide)
            clear hR hD
            subst d0
            subst d1
            subst d2
            subst d3
            subst d4
            subst d5
            obtain ⟨a6z, c6z, rfl, hN6⟩ := d6
            subst d7
            subst d8
            subst d9
            subst d10
            subst d11
            obtain ⟨a12z, c12z, rfl, hN12⟩ := d12
            obtain ⟨a13z, c13z, rfl, hN13⟩ := d13
            obtain ⟨a14z, c14z, rfl, hN14⟩ := d14
            refine wpAny_ready (rs := [15]) (by kernel_rfl) (by simp) (AllReady.cons rfl (fun KK hK => ?_) AllReady.nil)
            have G9 := F16.out.next hb1
            have k40 := G9.c 4 0 rfl rfl
            have k41 := G9.c 4 1 rfl rfl
            have k42 := G9.f 4 0 rfl rfl
            have k43 := G9.f 4 1 rfl rfl
            go_simp
            refine hK _ _ ?_
            clear hK KK
            try simp only [putAll, Act.put, List.setIfInBounds_toArray, List.set_cons_zero, List.set_cons_succ]
            refine wpAny_done (by kernel_rfl) ?_ _
            have F17 := Lib.hid (G9.set 4 rfl (by simp) [.bool (decide (SL (r + 1) < 0)), .slice a14z (dig 18446744073709551616 (SL (r + 1)).natAbs).length c14z] rfl)
            simp only [setL, Nat.reduceAdd, List.set_cons_zero, List.set_cons_succ] at F17
            have HNL2 := Lib.hid (nat_set (q := QL) (o := 1) (v' := .slice a14z (dig 18446744073709551616 (SL (r + 1)).natAbs).length c14z) (nat_set (q := QL) (o := 0) (v' := .bool (decide (SL (r + 1) < 0))) hN14 k40 (by simp)) (v := .slice az (dig 18446744073709551616 (SL r).natAbs).length cz) (by go_simp) (by simp))
            have HNR2 := Lib.hid (nat_set (q := QL) (o := 1) (v' := .slice a14z (dig 18446744073709551616 (SL (r + 1)).natAbs).length c14z) (nat_set (q := QL) (o := 0) (v' := .bool (decide (SL (r + 1) < 0))) (HNR.out.next hb1) k40 (by simp)) (v := .slice az (dig 18446744073709551616 (SL r).natAbs).length cz) (by go_simp) (by simp))
            obtain ⟨W17, hW17⟩ : ∃ x, (w1.setCell ⟨QL, 0, none⟩ (.bool (decide (SL (r + 1) < 0)))).setCell ⟨QL, 1, none⟩ (.slice a14z (dig 18446744073709551616 (SL (r + 1)).natAbs).length c14z) = x := ⟨_, rfl⟩
            rw [hW17] at F17 HNL2 HNR2 ⊢
            clear hW17 G9 k40 k41 k42 k43 hN6 hN12 hN13 hN14 F16 HNL HNR hb1
            go_wp2
            have h30 := H30.out
            go_roundw
            case rel => exact ⟨r + 1, a14z, c14z, hlr, congrArg (Value.int .i64) (by omega), HNL2, HNR2, F17⟩
            case measure => simp only [intOf]; omega
           ·obtain rfl : r = CW.length := by omega
            have hri : ¬ (CW.length : Int) < (CW.length : Int) := by omega
            go_upto_region 24 with fail
            clear hri c2_0 c2_1
            obtain ⟨gY, oY, rfl, _, _⟩ := (F16.out.l 1 rfl).cell 0 (by have h9 := (goodB_dims (tenB_iff.1 HTB.out).1).pos; have := (tenB_iff.1 HTB.out).2.1; omega)
            obtain ⟨a9_, c9_, he, hsh⟩ := own_shape (F16.out.r 4 rfl)
            simp only [Value.slice.injEq] at he
            obtain ⟨rfl, _, rfl⟩ := he
            obtain ⟨gB, rfl, _⟩ := hsh.resolve_left (show ¬ BW.length = 0 by have h9 := (goodB_dims (tenB_iff.1 HTB.out).1).pos; have := (tenB_iff.1 HTB.out).2.1; have := HBL.out; omega)
            clear hsh
            go_wp2
            go_loopw [14] (fun s14 wx => ∃ (r : Nat) (ae : Option Addr) (ce : Nat), r ≤ BW.length ∧ s14 = .int .i64 r ∧ Hid (NAt wx wx.heap.size ae ce (SR r).natAbs) ∧ Hid (NAt wx wx.heap.size az cz (SL CW.length).natAbs) ∧ Hid (Fr wo.heap.size wo wx [(wo.heap.size, [.slice a xs.length c, .slice (some ⟨gY, oY, none⟩) ys.length d, .slice a2 ws.length c2, .slice b2 vs.length dw, .slice aQ Q.length cQ, .slice aS wv.S.length cS, .slice aP wv.P.length cP, .slice aD wv.D.length cD, .slice aI wv.K.length cI, .slice aJ J.length cJ, .int .i64 f]), (Q5, [.slice aC S2.length cC, .slice (some ⟨gC, 0, none⟩) CW.length dC]), (Q7, [.slice aC S2.length cC, .slice (some ⟨gz, 0, none⟩) CW.length CW.length]), (Q9, [.slice aB xs.length cB, .slice (some ⟨gB, 0, none⟩) BW.length dB]), (QL, [.bool (decide (SL CW.length < 0)), .slice az (dig 18446744073709551616 (SL CW.length).natAbs).length cz]), (QR, [.bool (decide (SR r < 0)), .slice ae (dig 18446744073709551616 (SR r).natAbs).length ce])] [(.i64, a, xs), (.i64, (some ⟨gY, oY, none⟩), ys), (.i64, a2, ws), (.i64, b2, vs), (.i64, aQ, Q), (.i64, aS, wv.S), (.i64, aP, wv.P), (.i64, aD, wv.D), (.i64, aI, wv.K), (.i64, aJ, J)] [⟨3, .slice aC S2.length cC, S2.length, S2.map (Value.int .i64)⟩, ⟨2, .slice (some ⟨gC, 0, none⟩) CW.length dC, CW.length, CW.map (Value.int .i64)⟩, ⟨2, .slice (some ⟨gz, 0, none⟩) CW.length CW.length, CW.length, (l).map (Value.int .i64)⟩, ⟨3, .slice aB xs.length cB, xs.length, xs.map (Value.int .i64)⟩, ⟨2, .slice (some ⟨gB, 0, none⟩) BW.length dB, BW.length, BW.map (Value.int .i64)⟩] [])) (fun s14 _ => BW.length - (intOf s14).toNat)
            case atStart => exact ⟨0, ae, ce, Nat.zero_le _, rfl, HNR, HNL, F16⟩
            case round =>
             obtain ⟨r, ae, ce, hr, rfl, HNR, HNL, F18⟩ := hrel
             clear F16
             obtain ⟨wk, rfl⟩ : ∃ x : World, x = wr := ⟨_, rfl⟩
             have c3_0 := F18.out.c 3 0 rfl rfl
             have c3_1 := F18.out.c 3 1 rfl rfl
             by_cases hlr : r < BW.length
             ·skip
              have hri : (r : Int) < (BW.length : Int) := by omega
              go_upto_region 27 with fail
              clear hri c3_0 c3_1
              have hry : r < ys.length := by have := HBL.out; omega
              have hs1 := HSR1.out r
              have hsb := HSRB.out r
              have hkb : r * (140737488355328 * 140737488355328) ≤ 65536 * (140737488355328 * 140737488355328) := Nat.mul_le_mul_right _ (by have := HYL.out; omega)
              obtain ⟨x, hx⟩ : ∃ x, ys[r]?.getD 0 = x := ⟨_, rfl⟩
              obtain ⟨y, hyy⟩ : ∃ x, BW[r]?.getD 0 = x := ⟨_, rfl⟩
              have hxb := get_word HYW.out r
              have hyb := get_word HBWW.out r
              rw [hx] at hxb
              rw [hyy] at hyb
              rw [hx, hyy] at hs1
              have hab : x.natAbs * y.natAbs ≤ 140737488355328 * 140737488355328 := Nat.mul_le_mul (by omega) (by omega)
              rw [← Int.natAbs_mul] at hab
              have HF1 := Lib.hid (fun W => zfrom_any x W (by omega) (by omega))
              have HF2 := Lib.hid (fun W => zfrom_any y W (by omega) (by omega))
              have HT3 := Lib.hid (fun p q c d W h h2 => ztimes_any p q c d x y W h h2 (dig_word (by omega)) (dig_word (by omega)))
              have HP4 := Lib.hid (fun p q c d W h h2 => zplus_any p q c d (SR r) (x * y) (SR (r + 1)) W h h2 (dig_word (by omega)) (dig_word (by omega)) hs1.symm)
              obtain ⟨XY, hXY⟩ : ∃ z, x * y = z := ⟨_, rfl⟩
              rw [hXY] at HT3 HP4
              have HXC := Lib.hid hx
              have HGY := Lib.hid (show (BW.map (Value.int .i64))[r]? = some (.int .i64 y) by rw [List.getElem?_map, ← hyy]; rw [List.getElem?_eq_getElem (by omega)]; rfl)
              clear hs1 hsb hkb hxb hyb hab hXY hx hyy
              refine wp_region_parts2 (w := wk) 16 1 none [] [(fun u _ => u = .agg #[.bool (decide (SR r < 0)), .slice ae (dig 18446744073709551616 (SR r).natAbs).length ce]), (fun u _ => u = .pointer (some ⟨wo.heap.size, 0, none⟩)), (fun u _ => u = .pointer (some ⟨wo.heap.size, 1, none⟩)), (fun u _ => u = .slice (some ⟨gY, oY, none⟩) ys.length d), (fun u _ => u = .int .i64 (r : Int)), (fun u _ => u = .pointer (some ⟨gY, oY + r, none⟩)), (fun u _ => u = .int .i64 x), ((IsZ x)), (fun u _ => u = .pointer (some ⟨Q9, 1, none⟩)), (fun u _ => u = .slice (some ⟨gB, 0, none⟩) BW.length dB), (fun u _ => u = .int .i64 (r : Int)), (fun u _ => u = .pointer (some ⟨gB, r, none⟩)), (fun u _ => u = .int .i64 y), ((IsZ y)), ((IsZ XY)), ((IsZ (SR (r + 1))))] [some 156, some 157, some 158, some 159, some 160, some 161, some 162, some 163, some 164, some 165, some 166, some 167, some 168, some 169, some 170, some 171, none] #[true, true, true, true, true, true, true, true, true, true, true, true, true, true, true, true, false] #[true, true, true, true, true, true, true, true, true, true, true, true, true, true, true, true, false] (by kernel_rfl) rfl (by kernel_rfl) (by kernel_rfl) rfl (by kernel_rfl) (by kernel_rfl) (.cons (carries_eq _) (.cons (carries_eq _) (.cons (carries_eq _) (.cons (carries_eq _) (.cons (carries_eq _) (.cons (carries_eq _) (.cons (carries_eq _) (.cons (isZ_carries _) (.cons (carries_eq _) (.cons (carries_eq _) (.cons (carries_eq _) (.cons (carries_eq _) (.cons (carries_eq _) (.cons (isZ_carries _) (.cons (isZ_carries _) (.cons (isZ_carries _) .nil)))))))))))))))) (fun vs b hvl hvb => ?_)
              obtain ⟨x0, x1, x2, x3, x4, x5, x6, x7, x8, x9, x10, x11, x12, x13, x14, x15, x16, rfl⟩ : ∃ x0 x1 x2 x3 x4 x5 x6 x7 x8 x9 x10 x11 x12 x13 x14 x15 x16, vs = [x0, x1, x2, x3, x4, x5, x6, x7, x8, x9, x10, x11, x12, x13, x14, x15, x16] := lw17 hvl
              clear hvl
              simp only [putAll, Act.put, List.setIfInBounds_toArray, List.set_cons_zero, List.set_cons_succ] at hvb
              subst hvb
              refine ⟨(.snoc (.snoc (.snoc (.snoc (.snoc (.snoc (.snoc (.snoc (.snoc (.snoc (.snoc (.snoc (.snoc (.snoc (.snoc (.snoc .zero (PartOb.intro (d := (some 156)) (r := fun u _ => u = .agg #[.bool (decide (SR r < 0)), .slice ae (dig 18446744073709551616 (SR r).natAbs).length ce]) rfl rfl rfl rfl ?po27x0)) (PartOb.intro (d := (some 157)) (r := fun u _ => u = .pointer (some ⟨wo.heap.size, 0, none⟩)) rfl rfl rfl rfl ?po27x1)) (PartOb.intro (d := (some 158)) (r := fun u _ => u = .pointer (some ⟨wo.heap.size, 1, none⟩)) rfl rfl rfl rfl ?po27x2)) (PartOb.intro (d := (some 159)) (r := fun u _ => u = .slice (some ⟨gY, oY, none⟩) ys.length d) rfl rfl rfl rfl ?po27x3)) (PartOb.intro (d := (some 160)) (r := fun u _ => u = .int .i64 (r : Int)) rfl rfl rfl rfl ?po27x4)) (PartOb.intro (d := (some 161)) (r := fun u _ => u = .pointer (some ⟨gY, oY + r, none⟩)) rfl rfl rfl rfl ?po27x5)) (PartOb.intro (d := (some 162)) (r := fun u _ => u = .int .i64 x) rfl rfl rfl rfl ?po27x6)) (PartOb.intro (d := (some 163)) (r := (IsZ x)) rfl rfl rfl rfl ?po27x7)) (PartOb.intro (d := (some 164)) (r := fun u _ => u = .pointer (some ⟨Q9, 1, none⟩)) rfl rfl rfl rfl ?po27x8)) (PartOb.intro (d := (some 165)) (r := fun u _ => u = .slice (some ⟨gB, 0, none⟩) BW.length dB) rfl rfl rfl rfl ?po27x9)) (PartOb.intro (d := (some 166)) (r := fun u _ => u = .int .i64 (r : Int)) rfl rfl rfl rfl ?po27x10)) (PartOb.intro (d := (some 167)) (r := fun u _ => u = .pointer (some ⟨gB, r, none⟩)) rfl rfl rfl rfl ?po27x11)) (PartOb.intro (d := (some 168)) (r := fun u _ => u = .int .i64 y) rfl rfl rfl rfl ?po27x12)) (PartOb.intro (d := (some 169)) (r := (IsZ y)) rfl rfl rfl rfl ?po27x13)) (PartOb.intro (d := (some 170)) (r := (IsZ XY)) rfl rfl rfl rfl ?po27x14)) (PartOb.intro (d := (some 171)) (r := (IsZ (SR (r + 1)))) rfl rfl rfl rfl ?po27x15)), ?pend27, ?pfl27⟩
              case po27x0 =>
               intro w1 hb1 hd KK hK
               clear hd
               have hF := F18.out.next hb1
               have k0 := hF.c 5 0 rfl rfl
               have k1 := hF.c 5 1 rfl rfl
               simp only [Act.put, List.setIfInBounds_toArray, List.set_cons_zero, List.set_cons_succ] at hK
               go_simp
               first | exact hK.out _ _ (Below.refl _ _) rfl | (have hk := hK.out _ _ (Below.refl _ _) rfl; revert hk; go_simp)
              case po27x1 =>
               intro w1 hb1 hd KK hK
               clear hd
               simp only [Act.put, List.setIfInBounds_toArray, List.set_cons_zero, List.set_cons_succ] at hK
               go_simp
               first | exact hK.out _ _ (Below.refl _ _) rfl | (have hk := hK.out _ _ (Below.refl _ _) rfl; revert hk; go_simp)
              case po27x2 =>
               intro w1 hb1 hd KK hK
               have d1 : x1 = .pointer (some ⟨wo.heap.size, 0, none⟩) := hd 1 (by kernel_rfl)
               clear hd
               subst d1
               simp only [Act.put, List.setIfInBounds_toArray, List.set_cons_zero, List.set_cons_succ] at hK
               go_simp
               first | exact hK.out _ _ (Below.refl _ _) rfl | (have hk := hK.out _ _ (Below.refl _ _) rfl; revert hk; go_simp)
              case po27x3 =>
               intro w1 hb1 hd KK hK
               have d2 : x2 = .pointer (some ⟨wo.heap.size, 1, none⟩) := hd 2 (by kernel_rfl)
               clear hd
               subst d2
               have hF := F18.out.next hb1
               have k1 := hF.c 0 1 rfl rfl
               simp only [Act.put, List.setIfInBounds_toArray, List.set_cons_zero, List.set_cons_succ] at hK
               go_simp
               first | exact hK.out _ _ (Below.refl _ _) rfl | (have hk := hK.out _ _ (Below.refl _ _) rfl; revert hk; go_simp)
              case po27x4 =>
               intro w1 hb1 hd KK hK
               clear hd
               simp only [Act.put, List.setIfInBounds_toArray, List.set_cons_zero, List.set_cons_succ] at hK
               go_simp
               first | exact hK.out _ _ (Below.refl _ _) rfl | (have hk := hK.out _ _ (Below.refl _ _) rfl; revert hk; go_simp)
              case po27x5 =>
               intro w1 hb1 hd KK hK
               have d3 : x3 = .slice (some ⟨gY, oY, none⟩) ys.length d := hd 3 (by kernel_rfl)
               have d4 : x4 = .int .i64 (r : Int) := hd 4 (by kernel_rfl)
               clear hd
               subst d3
               subst d4
               have g2 : (r : Int) < (ys.length : Int) := by omega
               simp only [Act.put, List.setIfInBounds_toArray, List.set_cons_zero, List.set_cons_succ] at hK
               go_simp
               first | exact hK.out _ _ (Below.refl _ _) rfl | (have hk := hK.out _ _ (Below.refl _ _) rfl; revert hk; go_simp)
              case po27x6 =>
               intro w1 hb1 hd KK hK
               have d5 : x5 = .pointer (some ⟨gY, oY + r, none⟩) := hd 5 (by kernel_rfl)
               clear hd
               subst d5
               have hF := F18.out.next hb1
               obtain ⟨b9, o9, he, _, hcx⟩ := (hF.l 1 rfl).cell r hry
               cases he
               rw [HXC.out] at hcx
               simp only [Act.put, List.setIfInBounds_toArray, List.set_cons_zero, List.set_cons_succ] at hK
               go_simp
               first | exact hK.out _ _ (Below.refl _ _) rfl | (have hk := hK.out _ _ (Below.refl _ _) rfl; revert hk; go_simp)
              case po27x7 =>
               intro w1 hb1 hd KK hK
               have d6 : x6 = .int .i64 x := hd 6 (by kernel_rfl)
               clear hd
               subst d6
               simp only [Act.put, List.setIfInBounds_toArray, List.set_cons_zero, List.set_cons_succ] at hK
               go_simp
               go_at_call 18
               refine (HF1.out w1).mono ?_
               rintro e w2 ⟨a2z, c2z, rfl, hN2, hb⟩
               (try go_wp2_with fail)
               first | exact hK.out _ _ hb ⟨a2z, c2z, rfl, hN2⟩ | (have hk := hK.out _ _ hb ⟨a2z, c2z, rfl, hN2⟩; revert hk; go_simp)
              case po27x8 =>
               intro w1 hb1 hd KK hK
               clear hd
               simp only [Act.put, List.setIfInBounds_toArray, List.set_cons_zero, List.set_cons_succ] at hK
               go_simp
               first | exact hK.out _ _ (Below.refl _ _) rfl | (have hk := hK.out _ _ (Below.refl _ _) rfl; revert hk; go_simp)
              case po27x9 =>
               intro w1 hb1 hd KK hK
               have d8 : x8 = .pointer (some ⟨Q9, 1, none⟩) := hd 8 (by kernel_rfl)
               clear hd
               subst d8
               have hF := F18.out.next hb1
               have k1 := hF.c 3 1 rfl rfl
               simp only [Act.put, List.setIfInBounds_toArray, List.set_cons_zero, List.set_cons_succ] at hK
               go_simp
               first | exact hK.out _ _ (Below.refl _ _) rfl | (have hk := hK.out _ _ (Below.refl _ _) rfl; revert hk; go_simp)
              case po27x10 =>
               intro w1 hb1 hd KK hK
               clear hd
               simp only [Act.put, List.setIfInBounds_toArray, List.set_cons_zero, List.set_cons_succ] at hK
               go_simp
               first | exact hK.out _ _ (Below.refl _ _) rfl | (have hk := hK.out _ _ (Below.refl _ _) rfl; revert hk; go_simp)
              case po27x11 =>
               intro w1 hb1 hd KK hK
               have d9 : x9 = .slice (some ⟨gB, 0, none⟩) BW.length dB := hd 9 (by kernel_rfl)
               have d10 : x10 = .int .i64 (r : Int) := hd 10 (by kernel_rfl)
               clear hd
               subst d9
               subst d10
               have g2 : (r : Int) < (BW.length : Int) := by omega
               simp only [Act.put, List.setIfInBounds_toArray, List.set_cons_zero, List.set_cons_succ] at hK
               go_simp
               first | exact hK.out _ _ (Below.refl _ _) rfl | (have hk := hK.out _ _ (Below.refl _ _) rfl; revert hk; go_simp)
              case po27x12 =>
               intro w1 hb1 hd KK hK
               have d11 : x11 = .pointer (some ⟨gB, r, none⟩) := hd 11 (by kernel_rfl)
               clear hd
               subst d11
               have hF := F18.out.next hb1
               obtain ⟨k0, kf⟩ := hF.rc 4 r rfl HGY.out
               simp only [Act.put, List.setIfInBounds_toArray, List.set_cons_zero, List.set_cons_succ] at hK
               go_simp
               first | exact hK.out _ _ (Below.refl _ _) rfl | (have hk := hK.out _ _ (Below.refl _ _) rfl; revert hk; go_simp)
              case po27x13 =>
               intro w1 hb1 hd KK hK
               have d7 : (IsZ x) x7 w1 := hd 7 (by kernel_rfl)
               have d12 : x12 = .int .i64 y := hd 12 (by kernel_rfl)
               clear hd
               obtain ⟨a7z, c7z, rfl, hN7⟩ := d7
               subst d12
               simp only [Act.put, List.setIfInBounds_toArray, List.set_cons_zero, List.set_cons_succ] at hK
               go_simp
               go_at_call 18
               refine (HF2.out w1).mono ?_
               rintro e w2 ⟨a2z, c2z, rfl, hN2, hb⟩
               (try go_wp2_with fail)
               first | exact hK.out _ _ hb ⟨a2z, c2z, rfl, hN2⟩ | (have hk := hK.out _ _ hb ⟨a2z, c2z, rfl, hN2⟩; revert hk; go_simp)
              case po27x14 =>
               intro w1 hb1 hd KK hK
               have d7 : (IsZ x) x7 w1 := hd 7 (by kernel_rfl)
               have d13 : (IsZ y) x13 w1 := hd 13 (by kernel_rfl)
               clear hd
               obtain ⟨a7z, c7z, rfl, hN7⟩ := d7
               obtain ⟨a13z, c13z, rfl, hN13⟩ := d13
               simp only [Act.put, List.setIfInBounds_toArray, List.set_cons_zero, List.set_cons_succ] at hK
               go_simp
               go_at_call 20
               refine (HT3.out _ _ _ _ w1 hN7 hN13).mono ?_
               rintro e w2 ⟨a2z, c2z, rfl, hN2, hb⟩
               (try go_wp2_with fail)
               first | exact hK.out _ _ hb ⟨a2z, c2z, rfl, hN2⟩ | (have hk := hK.out _ _ hb ⟨a2z, c2z, rfl, hN2⟩; revert hk; go_simp)
              case po27x15 =>
               intro w1 hb1 hd KK hK
               have d0 : x0 = .agg #[.bool (decide (SR r < 0)), .slice ae (dig 18446744073709551616 (SR r).natAbs).length ce] := hd 0 (by kernel_rfl)
               have d14 : (IsZ XY) x14 w1 := hd 14 (by kernel_rfl)
               clear hd
               subst d0
               obtain ⟨a14z, c14z, rfl, hN14⟩ := d14
               simp only [Act.put, List.setIfInBounds_toArray, List.set_cons_zero, List.set_cons_succ] at hK
               go_simp
               go_at_call 19
               refine (HP4.out _ _ _ _ w1 (HNR.out.next hb1) hN14).mono ?_
               rintro e w2 ⟨a2z, c2z, rfl, hN2, hb⟩
               (try go_wp2_with fail)
               first | exact hK.out _ _ hb ⟨a2z, c2z, rfl, hN2⟩ | (have hk := hK.out _ _ hb ⟨a2z, c2z, rfl, hN2⟩; revert hk; go_simp)
              case pfl27 => (intro f hf; cases hf)
              case pend27 =>
              intro w1 hb1 hR hD
              have d0 : x0 = .agg #[.bool (decide (SR r < 0)), .slice ae (dig 18446744073709551616 (SR r).natAbs).length ce] := hR 0 (by decide)
              have d1 : x1 = .pointer (some ⟨wo.heap.size, 0, none⟩) := hR 1 (by decide)
              have d2 : x2 = .pointer (some ⟨wo.heap.size, 1, none⟩) := hR 2 (by decide)
              have d3 : x3 = .slice (some ⟨gY, oY, none⟩) ys.length d := hR 3 (by decide)
              have d4 : x4 = .int .i64 (r : Int) := hR 4 (by decide)
              have d5 : x5 = .pointer (some ⟨gY, oY + r, none⟩) := hR 5 (by decide)
              have d6 : x6 = .int .i64 x := hR 6 (by decide)
              have d7 : (IsZ x) x7 w1 := hR 7 (by decide)
              have d8 : x8 = .pointer (some ⟨Q9, 1, none⟩) := hR 8 (by decide)
              have d9 : x9 = .slice (some ⟨gB, 0, none⟩) BW.length dB := hR 9 (by decide)
              have d10 : x10 = .int .i64 (r : Int) := hR 10 (by decide)
              have d11 : x11 = .pointer (some ⟨gB, r, none⟩) := hR 11 (by decide)
              have d12 : x12 = .int .i64 y := hR 12 (by decide)
              have d13 : (IsZ y) x13 w1 := hR 13 (by decide)
              have d14 : (IsZ XY) x14 w1 := hR 14 (by decide)
              have d15 : (IsZ (SR (r + 1))) x15 w1 := hR 15 (by decide)
              clear hR hD
              subst d0
              subst d1
              subst d2
              subst d3
              subst d4
              subst d5
              subst d6
              obtain ⟨a7z, c7z, rfl, hN7⟩ := d7
              subst d8
              subst d9
              subst d10
              subst d11
              subst d12
              obtain ⟨a13z, c13z, rfl, hN13⟩ := d13
              obtain ⟨a14z, c14z, rfl, hN14⟩ := d14
              obtain ⟨a15z, c15z, rfl, hN15⟩ := d15
              refine wpAny_ready (rs := [16]) (by kernel_rfl) (by simp) (AllReady.cons rfl (fun KK hK => ?_) AllReady.nil)
              have G9 := F18.out.next hb1
              have k40 := G9.c 5 0 rfl rfl
              have k41 := G9.c 5 1 rfl rfl
              have k42 := G9.f 5 0 rfl rfl
              have k43 := G9.f 5 1 rfl rfl
              go_simp
              refine hK _ _ ?_
              clear hK KK
              try simp only [putAll, Act.put, List.setIfInBounds_toArray, List.set_cons_zero, List.set_cons_succ]
              refine wpAny_done (by kernel_rfl) ?_ _
              have h30 := HYL.out
              have h31 := HBL.out
              have h32 : r ≤ 65536 := by omega
              have F19 := Lib.hid (G9.set 5 rfl (by simp) [.bool (decide (SR (r + 1) < 0)), .slice a15z (dig 18446744073709551616 (SR (r + 1)).natAbs).length c15z] rfl)
              simp only [setL, Nat.reduceAdd, List.set_cons_zero, List.set_cons_succ] at F19
              have HNR2 := Lib.hid (nat_set (q := QR) (o := 1) (v' := .slice a15z (dig 18446744073709551616 (SR (r + 1)).natAbs).length c15z) (nat_set (q := QR) (o := 0) (v' := .bool (decide (SR (r + 1) < 0))) hN15 k40 (by simp)) (v := .slice ae (dig 18446744073709551616 (SR r).natAbs).length ce) (by go_simp) (by simp))
              have HNL2 := Lib.hid (nat_set (q := QR) (o := 1) (v' := .slice a15z (dig 18446744073709551616 (SR (r + 1)).natAbs).length c15z) (nat_set (q := QR) (o := 0) (v' := .bool (decide (SR (r + 1) < 0))) (HNL.out.next hb1) k40 (by simp)) (v := .slice ae (dig 18446744073709551616 (SR r).natAbs).length ce) (by go_simp) (by simp))
              obtain ⟨W19, hW19⟩ : ∃ x, (w1.setCell ⟨QR, 0, none⟩ (.bool (decide (SR (r + 1) < 0)))).setCell ⟨QR, 1, none⟩ (.slice a15z (dig 18446744073709551616 (SR (r + 1)).natAbs).length c15z) = x := ⟨_, rfl⟩
              rw [hW19] at F19 HNR2 HNL2 ⊢
              clear hW19 G9 k40 k41 k42 k43 hN7 hN13 hN14 hN15 F18 HNL HNR hb1
              go_wp2
              go_roundw
              case rel => exact ⟨r + 1, a15z, c15z, hlr, congrArg (Value.int .i64) (by omega), HNR2, HNL2, F19⟩
              case measure => simp only [intOf]; omega
             ·obtain rfl : r = BW.length := by omega
              have hri : ¬ (BW.length : Int) < (BW.length : Int) := by omega
              go_upto_region 28 with fail
              clear hri c3_0 c3_1
              have hse := HE.out
              rw [← HBL.out] at hse
              have hlb := HSLB.out CW.length
              have hrb := HSRB.out BW.length
              have hk1 : CW.length * (140737488355328 * 140737488355328) ≤ 65536 * (140737488355328 * 140737488355328) := Nat.mul_le_mul_right _ (by have := H30.out; omega)
              have hk2 : BW.length * (140737488355328 * 140737488355328) ≤ 65536 * (140737488355328 * 140737488355328) := Nat.mul_le_mul_right _ (by have := HBL.out; have := HYL.out; omega)
              have HCM := Lib.hid (fun p q c d W h h2 => zcmp_any p q c d (SL CW.length) (SR BW.length) 0 W h h2 (dig_word (by omega)) (dig_word (by omega)) (by omega))
              clear hse hlb hrb hk1 hk2
              have c4_0 := F18.out.c 4 0 rfl rfl
              have c4_1 := F18.out.c 4 1 rfl rfl
              have c5_0 := F18.out.c 5 0 rfl rfl
              have c5_1 := F18.out.c 5 1 rfl rfl
              have hsg : sgnI 0 = 0 := rfl
              rw [hsg] at HCM
              go_wp2_with (first | (go_at_call 21; refine (HCM.out _ _ _ _ _ HNL.out HNR.out).mono ?_; rintro e w20 ⟨rfl, hb⟩; have F20 := Lib.hid (F18.out.next hb); clear hb F18) | fail)
              go_roundw
              case rel => exact ⟨k + 1, by omega, by go_num, HB.out.trans (F20.out.bel.mono HB.out.size)⟩
              case measure => simp [intOf]; omega
      ·as_aux_lemma =>
       have hyb : (y != 0) = true := by simp [hy0]
       clear hy0
       go_wp2_with (first | (go_at_call 11; refine (num11_any _ _).mono ?_; rintro e w' ⟨rfl, rfl⟩) | fail)
       go_roundw
       case rel => exact ⟨k + 1, by omega, by go_num, HB.out.trans (F5.out.bel.mono HB.out.size)⟩
       case measure => simp [intOf]; omega
  ·have HB := Lib.hid hbel
   clear hbel h
   have WK := fun W => Lib.hid (wakes11_any W)
   by_cases hlt : k < n
   ·have hk15 : ¬ (k : Int) < 4 := by omega
    have hkn : (k : Int) < n := by omega
    go_wp2_with (go_at_call 13; refine ((WK _).out).mono ?_; rintro e w1 ⟨rfl, hb⟩; have HW1 := Lib.hid hb; clear hb)
    go_ret
    exact ⟨rfl, HB.out.trans (HW1.out.mono HB.out.size)⟩
   ·obtain rfl : k = n := by omega
    go_wp2_with (go_at_call 13; refine ((WK _).out).mono ?_; rintro e w1 ⟨rfl, hb⟩; have HW1 := Lib.hid hb; clear hb)
    go_ret
    exact ⟨rfl, HB.out.trans (HW1.out.mono HB.out.size)⟩
end Go.Proofs.Ytadlnmckcnfacaa
