import Derived.Test.YtadlnmckcnfacaaGreatVRdB
import Derived.Test.YtadlnmckcnfacaaGreatVWinP
set_option linter.unusedVariables false
set_option linter.unusedSimpArgs false
namespace Go.Proofs.YtadlnmckcnfacaaGreat
open Go.RowKit Go.Rt
attribute [local go_sem] Oper.semAt_some
def okI (lo n : Int) : Bool := decide (lo ≤ n) && decide (n ≤ 4096)
theorem inside1_any (q : Nat) (lo n : Int) (w : World) (hc : w.cell? ⟨q, 0, none⟩ = some (.int .i64 lo)) :
  Calls Tryz.prog 105 #[.int .i64 n, .pointer (some ⟨q, 0, none⟩)] w fun e w' => e = .returned (.bool (!okI lo n)) ∧ w = w' := by
 by_cases h1 : n < lo
 ·have hz : okI lo n = false := by unfold okI; rw [decide_eq_false (by omega : ¬ lo ≤ n)]; rfl
  rw [hz]
  clear hz
  go_enter Tryz.func105, Tryz.ntmps105
  go_wp2
  go_ret
  exact ⟨by first | rfl | simp, rfl⟩
 ·by_cases h2 : (4096 : Int) < n
  ·have hz : okI lo n = false := by unfold okI; rw [decide_eq_false (by omega : ¬ n ≤ 4096), Bool.and_false]
   rw [hz]
   clear hz
   go_enter Tryz.func105, Tryz.ntmps105
   go_wp2
   go_ret
   exact ⟨by first | rfl | simp, rfl⟩
  ·have hz : okI lo n = true := by unfold okI; rw [decide_eq_true (by omega : lo ≤ n), decide_eq_true (by omega : n ≤ 4096)]; rfl
   rw [hz]
   clear hz
   go_enter Tryz.func105, Tryz.ntmps105
   go_wp2
   go_ret
   exact ⟨by first | rfl | simp; omega, rfl⟩
theorem indexIn_any (a : Option Addr) (c hi q : Nat) (lo : Int) (xs : List Int) (w : World) (h : Ints .i64 w hi a xs) (hq : w.cell? ⟨q, 0, none⟩ = some (.int .i64 lo)) :
  Calls Tryz.prog 118 #[.slice a xs.length c, .func (.func 105) #[] #[.pointer (some ⟨q, 0, none⟩)]] w fun e w' => (∃ i : Int, e = .returned (.int .i64 i) ∧ decide (0 ≤ i) = !(xs.all (okI lo))) ∧ w = w' := by
 obtain ⟨hm, _, hc⟩ := h
 have hg := fun n => Lib.hid (inside1_any q lo n w hq)
 have HG := Lib.hid hg
 clear hg hq
 go_enter Tryz.func118, Tryz.ntmps118
 go_wp2
 go_loop [8] (fun i => ∃ k : Nat, k ≤ xs.length ∧ i = .int .i64 k ∧ (xs.take k).all (okI lo) = true) (fun i => xs.length - (intOf i).toNat)
 case atStart => exact ⟨0, Nat.zero_le _, rfl, rfl⟩
 case round =>
  obtain ⟨k, hk, rfl, hall⟩ := hrel
  by_cases hlt : k < xs.length
  ·obtain ⟨b, off, rfl, _, hcell⟩ := hc k hlt
   clear hc
   rw [List.getElem?_eq_getElem hlt] at hcell
   simp only [Option.getD_some] at hcell
   have hg := (HG.out xs[k]).out
   cases hx : okI lo xs[k] with
   | true =>
    rw [hx] at hg
    have HA : Hid ((xs.take (k + 1)).all (okI lo) = true) := Lib.hid (by rw [take_snoc xs k hlt, List.all_append, hall]; simp [hx])
    have H1 := Lib.hid hg
    clear hall hx hg HG
    go_wp2_with (first | (go_at_call 105; refine H1.out.mono ?_; rintro e w' ⟨rfl, rfl⟩))
    go_round
    case rel => exact ⟨k + 1, by omega, by go_num, HA.out⟩
    case measure => simp [intOf]; omega
   | false =>
    rw [hx] at hg
    have HA : Hid (xs.all (okI lo) = false) := by
     cases h0 : xs.all (okI lo) with
     | false => exact Lib.hid rfl
     | true => have := List.all_eq_true.1 h0 _ (List.getElem_mem hlt); rw [hx] at this; exact absurd this (by decide)
    have H1 := Lib.hid hg
    clear hall hx hg HG
    go_wp2_with (first | (go_at_call 105; refine H1.out.mono ?_; rintro e w' ⟨rfl, rfl⟩))
    go_ret
    exact ⟨⟨k, rfl, by rw [HA.out]; simp⟩, rfl⟩
  ·have hke : k = xs.length := by omega
   subst hke
   rw [List.take_length] at hall
   have HA := Lib.hid hall
   clear hall HG
   go_wp2
   go_ret
   exact ⟨⟨-1, rfl, by rw [HA.out]; rfl⟩, rfl⟩
theorem containsIn_any (a : Option Addr) (c hi q : Nat) (lo : Int) (xs : List Int) (w : World) (h : Ints .i64 w hi a xs) (hq : w.cell? ⟨q, 0, none⟩ = some (.int .i64 lo)) :
  Calls Tryz.prog 104 #[.slice a xs.length c, .func (.func 105) #[] #[.pointer (some ⟨q, 0, none⟩)]] w fun e w' => e = .returned (.bool (!(xs.all (okI lo)))) ∧ w = w' := by
 have hg := Lib.hid (indexIn_any a c hi q lo xs w h hq)
 clear h hq
 generalize xs.all (okI lo) = B at hg ⊢
 go_enter Tryz.func104, Tryz.ntmps104
 go_wp2_with (first | (go_at_call 118; refine hg.out.mono ?_; rintro e w' ⟨⟨i, rfl, hi⟩, rfl⟩))
 go_ret
 exact ⟨by first | rfl | exact ret_bool hi, rfl⟩
theorem insideL_any (a : Option Addr) (c : Nat) (lo : Int) (xs : List Int) (w : World) (h : Ints .i64 w w.heap.size a xs) :
  Calls Tryz.prog 69 #[.slice a xs.length c, .int .i64 lo] w fun e w' => e = .returned (.bool (xs.all (okI lo))) ∧ Below w.heap.size w w' := by
 have F1 := Lib.hid ((Fr.start (w := w) (I := [(.i64, a, xs)]) (by intro z hz; simp at hz; rcases hz with rfl; exact h)).box1 (b := w.heap.size) rfl [.int .i64 lo] 3)
 have hg := fun W (h : Ints .i64 W W.heap.size a xs) (hq : W.cell? ⟨w.heap.size, 0, none⟩ = some (.int .i64 lo)) => containsIn_any a c W.heap.size w.heap.size lo xs W h hq
 have HG := Lib.hid hg
 clear h hg
 generalize xs.all (okI lo) = B at HG ⊢
 go_enter Tryz.func69, Tryz.ntmps69
 go_upto_region 1 with fail
 simp only [List.nil_append] at F1
 obtain ⟨W1, hW1⟩ : ∃ W1, w.alloc (.cells #[.int .i64 lo] 3) = W1 := ⟨_, rfl⟩
 rw [hW1] at F1 ⊢
 clear hW1
 go_wp2_with (first | (go_at_call 104; refine (HG.out _ (F1.out.lw 0 rfl) (F1.out.c 0 0 rfl rfl)).mono ?_; rintro e w' ⟨rfl, rfl⟩))
 go_ret
 exact ⟨by first | rfl | simp, F1.out.bel⟩
def numB (ker : Bool) (Q S P D : List Int) : Bool := !(((decide (S.length < 1) || decide (2 < S.length)) || decide (P.length ≠ S.length)) || decide (D.length ≠ S.length) || (if ker = true then decide (Q.length ≠ S.length) else decide (Q.length ≠ 0))) && (S.all (okI 1) && (D.all (okI 1) && (P.all (okI 0) && Q.all (okI 1))))

set_option maxRecDepth 100000 in
set_option maxHeartbeats 2000000 in
theorem convNumbers_any (ker : Bool) (aQ aS aP aD : Option Addr) (cQ cS cP cD : Nat) (Q S P D : List Int) (w : World) (hQ : Ints .i64 w w.heap.size aQ Q) (hS : Ints .i64 w w.heap.size aS S) (hP : Ints .i64 w w.heap.size aP P) (hD : Ints .i64 w w.heap.size aD D) :
  Calls Tryz.prog 35 #[.agg #[.slice aQ Q.length cQ, .slice aS S.length cS, .slice aP P.length cP, .slice aD D.length cD], .bool ker] w fun e w' => e = .returned (.bool (numB ker Q S P D)) ∧ Below w.heap.size w w' := by
 have F1 := Lib.hid ((Fr.start (w := w) (I := [(.i64, aQ, Q), (.i64, aS, S), (.i64, aP, P), (.i64, aD, D)]) (by intro z hz; simp at hz; rcases hz with rfl | rfl | rfl | rfl; exact hQ; exact hS; exact hP; exact hD)).box1 (b := w.heap.size) rfl [.slice aQ Q.length cQ, .slice aS S.length cS, .slice aP P.length cP, .slice aD D.length cD] 28)
 simp only [List.nil_append] at F1
 have l1 := hQ.len
 have l2 := hS.len
 have l3 := hP.len
 have l4 := hD.len
 obtain ⟨nB, hnB⟩ : ∃ t, (((decide (S.length < 1) || decide (2 < S.length)) || decide (P.length ≠ S.length)) || decide (D.length ≠ S.length) || (if ker = true then decide (Q.length ≠ S.length) else decide (Q.length ≠ 0))) = t := ⟨_, rfl⟩
 have hi1 := fun W (h : Ints .i64 W W.heap.size aS S) => insideL_any aS cS 1 S W h
 have hi2 := fun W (h : Ints .i64 W W.heap.size aD D) => insideL_any aD cD 1 D W h
 have hi3 := fun W (h : Ints .i64 W W.heap.size aP P) => insideL_any aP cP 0 P W h
 have hi4 := fun W (h : Ints .i64 W W.heap.size aQ Q) => insideL_any aQ cQ 1 Q W h
 have hR : numB ker Q S P D = (!nB && (S.all (okI 1) && (D.all (okI 1) && (P.all (okI 0) && Q.all (okI 1))))) := by unfold numB; rw [hnB]
 rw [hR]
 generalize S.all (okI 1) = b1 at *
 generalize D.all (okI 1) = b2 at *
 generalize P.all (okI 0) = b3 at *
 generalize Q.all (okI 1) = b4 at *
 have HNB := Lib.hid hnB
 have H1 := Lib.hid hi1
 have H2 := Lib.hid hi2
 have H3 := Lib.hid hi3
 have H4 := Lib.hid hi4
 clear hQ hS hP hD hnB hi1 hi2 hi3 hi4 hR
 go_enter Tryz.func35, Tryz.ntmps35
 go_upto_region 1 with fail
 obtain ⟨W1, hW1⟩ : ∃ W1, w.alloc (.cells #[.slice aQ Q.length cQ, .slice aS S.length cS, .slice aP P.length cP, .slice aD D.length cD] 28) = W1 := ⟨_, rfl⟩
 rw [hW1] at F1 ⊢
 clear hW1
 have c0_0 := F1.out.c 0 0 rfl rfl
 have c0_1 := F1.out.c 0 1 rfl rfl
 have c0_2 := F1.out.c 0 2 rfl rfl
 have c0_3 := F1.out.c 0 3 rfl rfl
 go_upto_region 2 with fail
 go_cut [48] from 9 to 48 (fun s48 wx => s48 = .bool nB ∧ wx = W1)
 case first =>
  by_cases g1 : S.length < 1
  ·skip
   have Gg1 := Lib.hid g1
   have dg1 : decide ((S.length : Int) < 1) = true := by first | exact bne_iff_ne.2 (by omega) | (simp; omega)
   clear g1
   obtain rfl : nB = true := by rw [← HNB.out]; simp [Gg1.out]
   go_wp2
   go_meet
   first | exact ⟨rfl, rfl⟩ | exact ⟨by simp, rfl⟩
  ·skip
   have Gg1 := Lib.hid g1
   have dg1 : decide ((S.length : Int) < 1) = false := by first | exact bne_eq_false_iff_eq.2 (by omega) | (simp; omega)
   clear g1
   by_cases g2 : 2 < S.length
   ·skip
    have Gg2 := Lib.hid g2
    have dg2 : decide ((2 : Int) < (S.length : Int)) = true := by first | exact bne_iff_ne.2 (by omega) | (simp; omega)
    clear g2
    obtain rfl : nB = true := by rw [← HNB.out]; simp [Gg1.out, Gg2.out]
    go_wp2
    go_meet
    first | exact ⟨rfl, rfl⟩ | exact ⟨by simp, rfl⟩
   ·skip
    have Gg2 := Lib.hid g2
    have dg2 : decide ((2 : Int) < (S.length : Int)) = false := by first | exact bne_eq_false_iff_eq.2 (by omega) | (simp; omega)
    clear g2
    by_cases g3 : P.length ≠ S.length
    ·skip
     have Gg3 := Lib.hid g3
     have dg3 : ((P.length : Int) != (S.length : Int)) = true := by first | exact bne_iff_ne.2 (by omega) | (simp; omega)
     clear g3
     obtain rfl : nB = true := by rw [← HNB.out]; simp [Gg1.out, Gg2.out, Gg3.out]
     go_wp2
     go_meet
     first | exact ⟨rfl, rfl⟩ | exact ⟨by simp, rfl⟩
    ·skip
     have Gg3 := Lib.hid g3
     have dg3 : ((P.length : Int) != (S.length : Int)) = false := by first | exact bne_eq_false_iff_eq.2 (by omega) | (simp; omega)
     clear g3
     by_cases g4 : D.length ≠ S.length
     ·skip
      have Gg4 := Lib.hid g4
      have dg4 : ((D.length : Int) != (S.length : Int)) = true := by first | exact bne_iff_ne.2 (by omega) | (simp; omega)
      clear g4
      obtain rfl : nB = true := by rw [← HNB.out]; simp [Gg1.out, Gg2.out, Gg3.out, Gg4.out]
      go_wp2
      go_meet
      first | exact ⟨rfl, rfl⟩ | exact ⟨by simp, rfl⟩
     ·skip
      have Gg4 := Lib.hid g4
      have dg4 : ((D.length : Int) != (S.length : Int)) = false := by first | exact bne_eq_false_iff_eq.2 (by omega) | (simp; omega)
      clear g4
      cases ker with
      | true =>
       by_cases g5 : Q.length ≠ S.length
       ·skip
        have Gg5 := Lib.hid g5
        have dg5 : ((Q.length : Int) != (S.length : Int)) = true := by first | exact bne_iff_ne.2 (by omega) | (simp; omega)
        clear g5
        obtain rfl : nB = true := by rw [← HNB.out]; simp [Gg1.out, Gg2.out, Gg3.out, Gg4.out, Gg5.out]
        go_wp2
        go_meet
        first | exact ⟨rfl, rfl⟩ | exact ⟨by simp, rfl⟩
       ·skip
        have Gg5 := Lib.hid g5
        have dg5 : ((Q.length : Int) != (S.length : Int)) = false := by first | exact bne_eq_false_iff_eq.2 (by omega) | (simp; omega)
        clear g5
        obtain rfl : nB = false := by rw [← HNB.out]; simp [Gg1.out, Gg2.out, Gg3.out, Gg4.out, Gg5.out]
        go_wp2
        go_meet
        first | exact ⟨rfl, rfl⟩ | exact ⟨by simp, rfl⟩
      | false =>
       by_cases g5 : Q.length ≠ 0
       ·skip
        have Gg5 := Lib.hid g5
        have dg5 : ((Q.length : Int) != 0) = true := by first | exact bne_iff_ne.2 (by omega) | (simp; omega)
        clear g5
        obtain rfl : nB = true := by rw [← HNB.out]; simp [Gg1.out, Gg2.out, Gg3.out, Gg4.out, Gg5.out]
        go_wp2
        go_meet
        first | exact ⟨rfl, rfl⟩ | exact ⟨by simp, rfl⟩
       ·skip
        have Gg5 := Lib.hid g5
        have dg5 : ((Q.length : Int) != 0) = false := by first | exact bne_eq_false_iff_eq.2 (by omega) | (simp; omega)
        clear g5
        obtain rfl : nB = false := by rw [← HNB.out]; simp [Gg1.out, Gg2.out, Gg3.out, Gg4.out, Gg5.out]
        go_wp2
        go_meet
        first | exact ⟨rfl, rfl⟩ | exact ⟨by simp, rfl⟩
 case rest =>
  obtain ⟨rfl, rfl⟩ := hcut
  cases nB with
  | true =>
   go_wp2
   go_ret
   exact ⟨by first | rfl | simp, F1.out.bel⟩
  | false =>
   cases b1 with
   | false =>
    go_wp2_with (first | (go_at_call_of 69 (Value.slice aS S.length cS); refine (H1.out _ (F1.out.lw 1 rfl)).mono ?_; rintro e wF2 ⟨rfl, hb⟩; have F2 := Lib.hid (F1.out.next hb); clear hb F1 c0_0 c0_1 c0_2 c0_3; have c0_0 := F2.out.c 0 0 rfl rfl; have c0_1 := F2.out.c 0 1 rfl rfl; have c0_2 := F2.out.c 0 2 rfl rfl; have c0_3 := F2.out.c 0 3 rfl rfl) | (go_at_call_of 69 (Value.slice aD D.length cD); refine (H2.out _ (F2.out.lw 3 rfl)).mono ?_; rintro e wF3 ⟨rfl, hb⟩; have F3 := Lib.hid (F2.out.next hb); clear hb F2 c0_0 c0_1 c0_2 c0_3; have c0_0 := F3.out.c 0 0 rfl rfl; have c0_1 := F3.out.c 0 1 rfl rfl; have c0_2 := F3.out.c 0 2 rfl rfl; have c0_3 := F3.out.c 0 3 rfl rfl) | (go_at_call_of 69 (Value.slice aP P.length cP); refine (H3.out _ (F3.out.lw 2 rfl)).mono ?_; rintro e wF4 ⟨rfl, hb⟩; have F4 := Lib.hid (F3.out.next hb); clear hb F3 c0_0 c0_1 c0_2 c0_3; have c0_0 := F4.out.c 0 0 rfl rfl; have c0_1 := F4.out.c 0 1 rfl rfl; have c0_2 := F4.out.c 0 2 rfl rfl; have c0_3 := F4.out.c 0 3 rfl rfl) | (go_at_call_of 69 (Value.slice aQ Q.length cQ); refine (H4.out _ (F4.out.lw 0 rfl)).mono ?_; rintro e wF5 ⟨rfl, hb⟩; have F5 := Lib.hid (F4.out.next hb); clear hb F4 c0_0 c0_1 c0_2 c0_3; have c0_0 := F5.out.c 0 0 rfl rfl; have c0_1 := F5.out.c 0 1 rfl rfl; have c0_2 := F5.out.c 0 2 rfl rfl; have c0_3 := F5.out.c 0 3 rfl rfl) | fail)
    go_ret
    exact ⟨by first | rfl | simp, F2.out.bel⟩
   | true =>
    cases b2 with
    | false =>
     go_wp2_with (first | (go_at_call_of 69 (Value.slice aS S.length cS); refine (H1.out _ (F1.out.lw 1 rfl)).mono ?_; rintro e wF2 ⟨rfl, hb⟩; have F2 := Lib.hid (F1.out.next hb); clear hb F1 c0_0 c0_1 c0_2 c0_3; have c0_0 := F2.out.c 0 0 rfl rfl; have c0_1 := F2.out.c 0 1 rfl rfl; have c0_2 := F2.out.c 0 2 rfl rfl; have c0_3 := F2.out.c 0 3 rfl rfl) | (go_at_call_of 69 (Value.slice aD D.length cD); refine (H2.out _ (F2.out.lw 3 rfl)).mono ?_; rintro e wF3 ⟨rfl, hb⟩; have F3 := Lib.hid (F2.out.next hb); clear hb F2 c0_0 c0_1 c0_2 c0_3; have c0_0 := F3.out.c 0 0 rfl rfl; have c0_1 := F3.out.c 0 1 rfl rfl; have c0_2 := F3.out.c 0 2 rfl rfl; have c0_3 := F3.out.c 0 3 rfl rfl) | (go_at_call_of 69 (Value.slice aP P.length cP); refine (H3.out _ (F3.out.lw 2 rfl)).mono ?_; rintro e wF4 ⟨rfl, hb⟩; have F4 := Lib.hid (F3.out.next hb); clear hb F3 c0_0 c0_1 c0_2 c0_3; have c0_0 := F4.out.c 0 0 rfl rfl; have c0_1 := F4.out.c 0 1 rfl rfl; have c0_2 := F4.out.c 0 2 rfl rfl; have c0_3 := F4.out.c 0 3 rfl rfl) | (go_at_call_of 69 (Value.slice aQ Q.length cQ); refine (H4.out _ (F4.out.lw 0 rfl)).mono ?_; rintro e wF5 ⟨rfl, hb⟩; have F5 := Lib.hid (F4.out.next hb); clear hb F4 c0_0 c0_1 c0_2 c0_3; have c0_0 := F5.out.c 0 0 rfl rfl; have c0_1 := F5.out.c 0 1 rfl rfl; have c0_2 := F5.out.c 0 2 rfl rfl; have c0_3 := F5.out.c 0 3 rfl rfl) | fail)
     go_ret
     exact ⟨by first | rfl | simp, F3.out.bel⟩
    | true =>
     cases b3 with
     | false =>
      go_wp2_with (first | (go_at_call_of 69 (Value.slice aS S.length cS); refine (H1.out _ (F1.out.lw 1 rfl)).mono ?_; rintro e wF2 ⟨rfl, hb⟩; have F2 := Lib.hid (F1.out.next hb); clear hb F1 c0_0 c0_1 c0_2 c0_3; have c0_0 := F2.out.c 0 0 rfl rfl; have c0_1 := F2.out.c 0 1 rfl rfl; have c0_2 := F2.out.c 0 2 rfl rfl; have c0_3 := F2.out.c 0 3 rfl rfl) | (go_at_call_of 69 (Value.slice aD D.length cD); refine (H2.out _ (F2.out.lw 3 rfl)).mono ?_; rintro e wF3 ⟨rfl, hb⟩; have F3 := Lib.hid (F2.out.next hb); clear hb F2 c0_0 c0_1 c0_2 c0_3; have c0_0 := F3.out.c 0 0 rfl rfl; have c0_1 := F3.out.c 0 1 rfl rfl; have c0_2 := F3.out.c 0 2 rfl rfl; have c0_3 := F3.out.c 0 3 rfl rfl) | (go_at_call_of 69 (Value.slice aP P.length cP); refine (H3.out _ (F3.out.lw 2 rfl)).mono ?_; rintro e wF4 ⟨rfl, hb⟩; have F4 := Lib.hid (F3.out.next hb); clear hb F3 c0_0 c0_1 c0_2 c0_3; have c0_0 := F4.out.c 0 0 rfl rfl; have c0_1 := F4.out.c 0 1 rfl rfl; have c0_2 := F4.out.c 0 2 rfl rfl; have c0_3 := F4.out.c 0 3 rfl rfl) | (go_at_call_of 69 (Value.slice aQ Q.length cQ); refine (H4.out _ (F4.out.lw 0 rfl)).mono ?_; rintro e wF5 ⟨rfl, hb⟩; have F5 := Lib.hid (F4.out.next hb); clear hb F4 c0_0 c0_1 c0_2 c0_3; have c0_0 := F5.out.c 0 0 rfl rfl; have c0_1 := F5.out.c 0 1 rfl rfl; have c0_2 := F5.out.c 0 2 rfl rfl; have c0_3 := F5.out.c 0 3 rfl rfl) | fail)
      go_ret
      exact ⟨by first | rfl | simp, F4.out.bel⟩
     | true =>
      cases b4 with
      | false =>
       go_wp2_with (first | (go_at_call_of 69 (Value.slice aS S.length cS); refine (H1.out _ (F1.out.lw 1 rfl)).mono ?_; rintro e wF2 ⟨rfl, hb⟩; have F2 := Lib.hid (F1.out.next hb); clear hb F1 c0_0 c0_1 c0_2 c0_3; have c0_0 := F2.out.c 0 0 rfl rfl; have c0_1 := F2.out.c 0 1 rfl rfl; have c0_2 := F2.out.c 0 2 rfl rfl; have c0_3 := F2.out.c 0 3 rfl rfl) | (go_at_call_of 69 (Value.slice aD D.length cD); refine (H2.out _ (F2.out.lw 3 rfl)).mono ?_; rintro e wF3 ⟨rfl, hb⟩; have F3 := Lib.hid (F2.out.next hb); clear hb F2 c0_0 c0_1 c0_2 c0_3; have c0_0 := F3.out.c 0 0 rfl rfl; have c0_1 := F3.out.c 0 1 rfl rfl; have c0_2 := F3.out.c 0 2 rfl rfl; have c0_3 := F3.out.c 0 3 rfl rfl) | (go_at_call_of 69 (Value.slice aP P.length cP); refine (H3.out _ (F3.out.lw 2 rfl)).mono ?_; rintro e wF4 ⟨rfl, hb⟩; have F4 := Lib.hid (F3.out.next hb); clear hb F3 c0_0 c0_1 c0_2 c0_3; have c0_0 := F4.out.c 0 0 rfl rfl; have c0_1 := F4.out.c 0 1 rfl rfl; have c0_2 := F4.out.c 0 2 rfl rfl; have c0_3 := F4.out.c 0 3 rfl rfl) | (go_at_call_of 69 (Value.slice aQ Q.length cQ); refine (H4.out _ (F4.out.lw 0 rfl)).mono ?_; rintro e wF5 ⟨rfl, hb⟩; have F5 := Lib.hid (F4.out.next hb); clear hb F4 c0_0 c0_1 c0_2 c0_3; have c0_0 := F5.out.c 0 0 rfl rfl; have c0_1 := F5.out.c 0 1 rfl rfl; have c0_2 := F5.out.c 0 2 rfl rfl; have c0_3 := F5.out.c 0 3 rfl rfl) | fail)
       go_ret
       exact ⟨by first | rfl | simp, F5.out.bel⟩
      | true =>
       go_wp2_with (first | (go_at_call_of 69 (Value.slice aS S.length cS); refine (H1.out _ (F1.out.lw 1 rfl)).mono ?_; rintro e wF2 ⟨rfl, hb⟩; have F2 := Lib.hid (F1.out.next hb); clear hb F1 c0_0 c0_1 c0_2 c0_3; have c0_0 := F2.out.c 0 0 rfl rfl; have c0_1 := F2.out.c 0 1 rfl rfl; have c0_2 := F2.out.c 0 2 rfl rfl; have c0_3 := F2.out.c 0 3 rfl rfl) | (go_at_call_of 69 (Value.slice aD D.length cD); refine (H2.out _ (F2.out.lw 3 rfl)).mono ?_; rintro e wF3 ⟨rfl, hb⟩; have F3 := Lib.hid (F2.out.next hb); clear hb F2 c0_0 c0_1 c0_2 c0_3; have c0_0 := F3.out.c 0 0 rfl rfl; have c0_1 := F3.out.c 0 1 rfl rfl; have c0_2 := F3.out.c 0 2 rfl rfl; have c0_3 := F3.out.c 0 3 rfl rfl) | (go_at_call_of 69 (Value.slice aP P.length cP); refine (H3.out _ (F3.out.lw 2 rfl)).mono ?_; rintro e wF4 ⟨rfl, hb⟩; have F4 := Lib.hid (F3.out.next hb); clear hb F3 c0_0 c0_1 c0_2 c0_3; have c0_0 := F4.out.c 0 0 rfl rfl; have c0_1 := F4.out.c 0 1 rfl rfl; have c0_2 := F4.out.c 0 2 rfl rfl; have c0_3 := F4.out.c 0 3 rfl rfl) | (go_at_call_of 69 (Value.slice aQ Q.length cQ); refine (H4.out _ (F4.out.lw 0 rfl)).mono ?_; rintro e wF5 ⟨rfl, hb⟩; have F5 := Lib.hid (F4.out.next hb); clear hb F4 c0_0 c0_1 c0_2 c0_3; have c0_0 := F5.out.c 0 0 rfl rfl; have c0_1 := F5.out.c 0 1 rfl rfl; have c0_2 := F5.out.c 0 2 rfl rfl; have c0_3 := F5.out.c 0 3 rfl rfl) | fail)
       go_ret
       exact ⟨by first | rfl | simp, F5.out.bel⟩
end Go.Proofs.YtadlnmckcnfacaaGreat
