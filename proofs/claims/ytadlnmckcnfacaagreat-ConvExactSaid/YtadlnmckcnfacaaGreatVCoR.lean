import Derived.Test.YtadlnmckcnfacaaGreatVCoD
import Derived.Test.YtadlnmckcnfacaaGreatVCoU
set_option linter.unusedVariables false
set_option linter.unusedSimpArgs false
namespace Go.Proofs.YtadlnmckcnfacaaGreat
open Go.RowKit Go.Rt
attribute [local go_sem] Oper.semAt_some
theorem refAll_any (a : Option Addr) (c hi : Nat) (lo : Int) (xs : List Int) (w : World) (h : Ints .i64 w hi a xs) :
  Calls Tryz.prog 21 #[.slice a xs.length c, .int .i64 lo, .int .i64 4096] w fun e w' => e = .returned (.bool (xs.all (okI lo))) ∧ w = w' := by
 obtain ⟨hm, _, hc⟩ := h
 go_enter Tryz.func21, Tryz.ntmps21
 go_wp2
 go_loop [7] (fun i => ∃ k : Nat, k ≤ xs.length ∧ i = .int .i64 k ∧ (xs.take k).all (okI lo) = true) (fun i => xs.length - (intOf i).toNat)
 case atStart => exact ⟨0, Nat.zero_le _, rfl, rfl⟩
 case round =>
  obtain ⟨k, hk, rfl, hall⟩ := hrel
  by_cases hlt : k < xs.length
  ·obtain ⟨b, off, rfl, _, hcell⟩ := hc k hlt
   clear hc
   rw [List.getElem?_eq_getElem hlt] at hcell
   simp only [Option.getD_some] at hcell
   obtain ⟨x, hx⟩ : ∃ x, xs[k] = x := ⟨_, rfl⟩
   rw [hx] at hcell
   have hmem := List.getElem_mem hlt
   rw [hx] at hmem
   have HF : okI lo x = false → Hid (xs.all (okI lo) = false) := fun hf => by
    cases h0 : xs.all (okI lo) with
    | false => exact Lib.hid rfl
    | true => have := List.all_eq_true.1 h0 _ hmem; rw [hf] at this; exact absurd this (by decide)
   have HT : okI lo x = true → Hid ((xs.take (k + 1)).all (okI lo) = true) := fun ht => Lib.hid (by rw [take_snoc xs k hlt, List.all_append, hall]; simp [hx, ht])
   have hki : (k : Int) < (xs.length : Int) := by omega
   have HF2 := Lib.hid HF
   have HT2 := Lib.hid HT
   clear hall hmem hx HF HT
   by_cases h1 : x < lo
   ·have hz := HF2.out (by unfold okI; rw [decide_eq_false (by omega : ¬ lo ≤ x)]; rfl)
    clear HF2 HT2
    go_wp2
    go_ret
    exact ⟨by rw [hz.out]; rfl, rfl⟩
   ·by_cases h2 : (4096 : Int) < x
    ·have hz := HF2.out (by unfold okI; rw [decide_eq_false (by omega : ¬ x ≤ 4096), Bool.and_false])
     clear HF2 HT2
     go_wp2
     go_ret
     exact ⟨by rw [hz.out]; rfl, rfl⟩
    ·have hz := HT2.out (by unfold okI; rw [decide_eq_true (by omega : lo ≤ x), decide_eq_true (by omega : x ≤ 4096)]; rfl)
     clear HF2 HT2
     go_wp2
     go_round
     case rel => exact ⟨k + 1, by omega, by go_num, hz.out⟩
     case measure => simp [intOf]; omega
  ·have hke : k = xs.length := by omega
   subst hke
   rw [List.take_length] at hall
   have HA := Lib.hid hall
   clear hall
   go_wp2
   go_ret
   exact ⟨by rw [HA.out]; rfl, rfl⟩
theorem refAllB (a : Option Addr) (c : Nat) (lo : Int) (xs : List Int) (w : World) (h : Ints .i64 w w.heap.size a xs) :
  Calls Tryz.prog 21 #[.slice a xs.length c, .int .i64 lo, .int .i64 4096] w fun e w' => e = .returned (.bool (xs.all (okI lo))) ∧ Below w.heap.size w w' := by
 refine (refAll_any a c w.heap.size lo xs w h).mono ?_
 rintro e w' ⟨he, rfl⟩
 exact ⟨he, Below.refl _ _⟩
set_option maxRecDepth 100000 in
set_option maxHeartbeats 2000000 in
theorem refMay_any (ker : Bool) (aQ aS aP aD : Option Addr) (cQ cS cP cD : Nat) (Q S P D : List Int) (w : World) (hQ : Ints .i64 w w.heap.size aQ Q) (hS : Ints .i64 w w.heap.size aS S) (hP : Ints .i64 w w.heap.size aP P) (hD : Ints .i64 w w.heap.size aD D) :
  Calls Tryz.prog 7 #[.agg #[.slice aQ Q.length cQ, .slice aS S.length cS, .slice aP P.length cP, .slice aD D.length cD], .bool ker] w fun e w' => e = .returned (.bool (numB ker Q S P D)) ∧ Below w.heap.size w w' := by
 have F1 := Lib.hid ((Fr.start (w := w) (I := [(.i64, aQ, Q), (.i64, aS, S), (.i64, aP, P), (.i64, aD, D)]) (by intro z hz; simp at hz; rcases hz with rfl | rfl | rfl | rfl; exact hQ; exact hS; exact hP; exact hD)).box1 (b := w.heap.size) rfl [.slice aQ Q.length cQ, .slice aS S.length cS, .slice aP P.length cP, .slice aD D.length cD] 28)
 simp only [List.nil_append] at F1
 have l1 := hQ.len
 have l2 := hS.len
 have l3 := hP.len
 have l4 := hD.len
 obtain ⟨nB, hnB⟩ : ∃ t, (((decide (S.length < 1) || decide (2 < S.length)) || decide (P.length ≠ S.length)) || decide (D.length ≠ S.length) || (if ker = true then decide (Q.length ≠ S.length) else decide (Q.length ≠ 0))) = t := ⟨_, rfl⟩
 have hi1 := fun W (h : Ints .i64 W W.heap.size aS S) => refAllB aS cS 1 S W h
 have hi2 := fun W (h : Ints .i64 W W.heap.size aD D) => refAllB aD cD 1 D W h
 have hi3 := fun W (h : Ints .i64 W W.heap.size aP P) => refAllB aP cP 0 P W h
 have hi4 := fun W (h : Ints .i64 W W.heap.size aQ Q) => refAllB aQ cQ 1 Q W h
 have hR : numB ker Q S P D = (!nB && (S.all (okI 1) && (D.all (okI 1) && (P.all (okI 0) && Q.all (okI 1))))) := by unfold numB; rw [hnB]
 rw [hR]
 generalize S.all (okI 1) = b1 at *
 generalize D.all (okI 1) = b2 at *
 generalize P.all (okI 0) = b3 at *
 generalize Q.all (okI 1) = b4 at *
 have HNB := Lib.hid hnB
 have H1 := Lib.hid hi1
 have H2 := Lib.hid hi2
 have H3 := Lib.hid hi3
 have H4 := Lib.hid hi4
 clear hQ hS hP hD hnB hi1 hi2 hi3 hi4 hR
 go_enter Tryz.func7, Tryz.ntmps7
 go_upto_region 1 with fail
 obtain ⟨W1, hW1⟩ : ∃ W1, w.alloc (.cells #[.slice aQ Q.length cQ, .slice aS S.length cS, .slice aP P.length cP, .slice aD D.length cD] 28) = W1 := ⟨_, rfl⟩
 rw [hW1] at F1 ⊢
 clear hW1
 have c0_0 := F1.out.c 0 0 rfl rfl
 have c0_1 := F1.out.c 0 1 rfl rfl
 have c0_2 := F1.out.c 0 2 rfl rfl
 have c0_3 := F1.out.c 0 3 rfl rfl
 go_upto_region 2 with fail
 go_cut [48] from 9 to 48 (fun s48 wx => s48 = .bool nB ∧ wx = W1)
 case first =>
  by_cases g1 : S.length < 1
  ·skip
   have Gg1 := Lib.hid g1
   have dg1 : decide ((S.length : Int) < 1) = true := by first | exact bne_iff_ne.2 (by omega) | (simp; omega)
   clear g1
   obtain rfl : nB = true := by rw [← HNB.out]; simp [Gg1.out]
   go_wp2
   go_meet
   first | exact ⟨rfl, rfl⟩ | exact ⟨by simp, rfl⟩
  ·skip
   have Gg1 := Lib.hid g1
   have dg1 : decide ((S.length : Int) < 1) = false := by first | exact bne_eq_false_iff_eq.2 (by omega) | (simp; omega)
   clear g1
   by_cases g2 : 2 < S.length
   ·skip
    have Gg2 := Lib.hid g2
    have dg2 : decide ((2 : Int) < (S.length : Int)) = true := by first | exact bne_iff_ne.2 (by omega) | (simp; omega)
    clear g2
    obtain rfl : nB = true := by rw [← HNB.out]; simp [Gg1.out, Gg2.out]
    go_wp2
    go_meet
    first | exact ⟨rfl, rfl⟩ | exact ⟨by simp, rfl⟩
   ·skip
    have Gg2 := Lib.hid g2
    have dg2 : decide ((2 : Int) < (S.length : Int)) = false := by first | exact bne_eq_false_iff_eq.2 (by omega) | (simp; omega)
    clear g2
    by_cases g3 : P.length ≠ S.length
    ·skip
     have Gg3 := Lib.hid g3
     have dg3 : ((P.length : Int) != (S.length : Int)) = true := by first | exact bne_iff_ne.2 (by omega) | (simp; omega)
     clear g3
     obtain rfl : nB = true := by rw [← HNB.out]; simp [Gg1.out, Gg2.out, Gg3.out]
     go_wp2
     go_meet
     first | exact ⟨rfl, rfl⟩ | exact ⟨by simp, rfl⟩
    ·skip
     have Gg3 := Lib.hid g3
     have dg3 : ((P.length : Int) != (S.length : Int)) = false := by first | exact bne_eq_false_iff_eq.2 (by omega) | (simp; omega)
     clear g3
     by_cases g4 : D.length ≠ S.length
     ·skip
      have Gg4 := Lib.hid g4
      have dg4 : ((D.length : Int) != (S.length : Int)) = true := by first | exact bne_iff_ne.2 (by omega) | (simp; omega)
      clear g4
      obtain rfl : nB = true := by rw [← HNB.out]; simp [Gg1.out, Gg2.out, Gg3.out, Gg4.out]
      go_wp2
      go_meet
      first | exact ⟨rfl, rfl⟩ | exact ⟨by simp, rfl⟩
     ·skip
      have Gg4 := Lib.hid g4
      have dg4 : ((D.length : Int) != (S.length : Int)) = false := by first | exact bne_eq_false_iff_eq.2 (by omega) | (simp; omega)
      clear g4
      cases ker with
      | true =>
       by_cases g5 : Q.length ≠ S.length
       ·skip
        have Gg5 := Lib.hid g5
        have dg5 : ((Q.length : Int) != (S.length : Int)) = true := by first | exact bne_iff_ne.2 (by omega) | (simp; omega)
        clear g5
        obtain rfl : nB = true := by rw [← HNB.out]; simp [Gg1.out, Gg2.out, Gg3.out, Gg4.out, Gg5.out]
        go_wp2
        go_meet
        first | exact ⟨rfl, rfl⟩ | exact ⟨by simp, rfl⟩
       ·skip
        have Gg5 := Lib.hid g5
        have dg5 : ((Q.length : Int) != (S.length : Int)) = false := by first | exact bne_eq_false_iff_eq.2 (by omega) | (simp; omega)
        clear g5
        obtain rfl : nB = false := by rw [← HNB.out]; simp [Gg1.out, Gg2.out, Gg3.out, Gg4.out, Gg5.out]
        go_wp2
        go_meet
        first | exact ⟨rfl, rfl⟩ | exact ⟨by simp, rfl⟩
      | false =>
       by_cases g5 : Q.length ≠ 0
       ·skip
        have Gg5 := Lib.hid g5
        have dg5 : ((Q.length : Int) != 0) = true := by first | exact bne_iff_ne.2 (by omega) | (simp; omega)
        clear g5
        obtain rfl : nB = true := by rw [← HNB.out]; simp [Gg1.out, Gg2.out, Gg3.out, Gg4.out, Gg5.out]
        go_wp2
        go_meet
        first | exact ⟨rfl, rfl⟩ | exact ⟨by simp, rfl⟩
       ·skip
        have Gg5 := Lib.hid g5
        have dg5 : ((Q.length : Int) != 0) = false := by first | exact bne_eq_false_iff_eq.2 (by omega) | (simp; omega)
        clear g5
        obtain rfl : nB = false := by rw [← HNB.out]; simp [Gg1.out, Gg2.out, Gg3.out, Gg4.out, Gg5.out]
        go_wp2
        go_meet
        first | exact ⟨rfl, rfl⟩ | exact ⟨by simp, rfl⟩
 case rest =>
  obtain ⟨rfl, rfl⟩ := hcut
  cases nB with
  | true =>
   go_wp2
   go_ret
   exact ⟨by first | rfl | simp, F1.out.bel⟩
  | false =>
   cases b1 with
   | false =>
    go_wp2_with (first | (go_at_call_of 21 (Value.slice aS S.length cS); refine (H1.out _ (F1.out.lw 1 rfl)).mono ?_; rintro e wF2 ⟨rfl, hb⟩; have F2 := Lib.hid (F1.out.next hb); clear hb F1 c0_0 c0_1 c0_2 c0_3; have c0_0 := F2.out.c 0 0 rfl rfl; have c0_1 := F2.out.c 0 1 rfl rfl; have c0_2 := F2.out.c 0 2 rfl rfl; have c0_3 := F2.out.c 0 3 rfl rfl) | (go_at_call_of 21 (Value.slice aD D.length cD); refine (H2.out _ (F2.out.lw 3 rfl)).mono ?_; rintro e wF3 ⟨rfl, hb⟩; have F3 := Lib.hid (F2.out.next hb); clear hb F2 c0_0 c0_1 c0_2 c0_3; have c0_0 := F3.out.c 0 0 rfl rfl; have c0_1 := F3.out.c 0 1 rfl rfl; have c0_2 := F3.out.c 0 2 rfl rfl; have c0_3 := F3.out.c 0 3 rfl rfl) | (go_at_call_of 21 (Value.slice aP P.length cP); refine (H3.out _ (F3.out.lw 2 rfl)).mono ?_; rintro e wF4 ⟨rfl, hb⟩; have F4 := Lib.hid (F3.out.next hb); clear hb F3 c0_0 c0_1 c0_2 c0_3; have c0_0 := F4.out.c 0 0 rfl rfl; have c0_1 := F4.out.c 0 1 rfl rfl; have c0_2 := F4.out.c 0 2 rfl rfl; have c0_3 := F4.out.c 0 3 rfl rfl) | (go_at_call_of 21 (Value.slice aQ Q.length cQ); refine (H4.out _ (F4.out.lw 0 rfl)).mono ?_; rintro e wF5 ⟨rfl, hb⟩; have F5 := Lib.hid (F4.out.next hb); clear hb F4 c0_0 c0_1 c0_2 c0_3; have c0_0 := F5.out.c 0 0 rfl rfl; have c0_1 := F5.out.c 0 1 rfl rfl; have c0_2 := F5.out.c 0 2 rfl rfl; have c0_3 := F5.out.c 0 3 rfl rfl) | fail)
    go_ret
    exact ⟨by first | rfl | simp, F2.out.bel⟩
   | true =>
    cases b2 with
    | false =>
     go_wp2_with (first | (go_at_call_of 21 (Value.slice aS S.length cS); refine (H1.out _ (F1.out.lw 1 rfl)).mono ?_; rintro e wF2 ⟨rfl, hb⟩; have F2 := Lib.hid (F1.out.next hb); clear hb F1 c0_0 c0_1 c0_2 c0_3; have c0_0 := F2.out.c 0 0 rfl rfl; have c0_1 := F2.out.c 0 1 rfl rfl; have c0_2 := F2.out.c 0 2 rfl rfl; have c0_3 := F2.out.c 0 3 rfl rfl) | (go_at_call_of 21 (Value.slice aD D.length cD); refine (H2.out _ (F2.out.lw 3 rfl)).mono ?_; rintro e wF3 ⟨rfl, hb⟩; have F3 := Lib.hid (F2.out.next hb); clear hb F2 c0_0 c0_1 c0_2 c0_3; have c0_0 := F3.out.c 0 0 rfl rfl; have c0_1 := F3.out.c 0 1 rfl rfl; have c0_2 := F3.out.c 0 2 rfl rfl; have c0_3 := F3.out.c 0 3 rfl rfl) | (go_at_call_of 21 (Value.slice aP P.length cP); refine (H3.out _ (F3.out.lw 2 rfl)).mono ?_; rintro e wF4 ⟨rfl, hb⟩; have F4 := Lib.hid (F3.out.next hb); clear hb F3 c0_0 c0_1 c0_2 c0_3; have c0_0 := F4.out.c 0 0 rfl rfl; have c0_1 := F4.out.c 0 1 rfl rfl; have c0_2 := F4.out.c 0 2 rfl rfl; have c0_3 := F4.out.c 0 3 rfl rfl) | (go_at_call_of 21 (Value.slice aQ Q.length cQ); refine (H4.out _ (F4.out.lw 0 rfl)).mono ?_; rintro e wF5 ⟨rfl, hb⟩; have F5 := Lib.hid (F4.out.next hb); clear hb F4 c0_0 c0_1 c0_2 c0_3; have c0_0 := F5.out.c 0 0 rfl rfl; have c0_1 := F5.out.c 0 1 rfl rfl; have c0_2 := F5.out.c 0 2 rfl rfl; have c0_3 := F5.out.c 0 3 rfl rfl) | fail)
     go_ret
     exact ⟨by first | rfl | simp, F3.out.bel⟩
    | true =>
     cases b3 with
     | false =>
      go_wp2_with (first | (go_at_call_of 21 (Value.slice aS S.length cS); refine (H1.out _ (F1.out.lw 1 rfl)).mono ?_; rintro e wF2 ⟨rfl, hb⟩; have F2 := Lib.hid (F1.out.next hb); clear hb F1 c0_0 c0_1 c0_2 c0_3; have c0_0 := F2.out.c 0 0 rfl rfl; have c0_1 := F2.out.c 0 1 rfl rfl; have c0_2 := F2.out.c 0 2 rfl rfl; have c0_3 := F2.out.c 0 3 rfl rfl) | (go_at_call_of 21 (Value.slice aD D.length cD); refine (H2.out _ (F2.out.lw 3 rfl)).mono ?_; rintro e wF3 ⟨rfl, hb⟩; have F3 := Lib.hid (F2.out.next hb); clear hb F2 c0_0 c0_1 c0_2 c0_3; have c0_0 := F3.out.c 0 0 rfl rfl; have c0_1 := F3.out.c 0 1 rfl rfl; have c0_2 := F3.out.c 0 2 rfl rfl; have c0_3 := F3.out.c 0 3 rfl rfl) | (go_at_call_of 21 (Value.slice aP P.length cP); refine (H3.out _ (F3.out.lw 2 rfl)).mono ?_; rintro e wF4 ⟨rfl, hb⟩; have F4 := Lib.hid (F3.out.next hb); clear hb F3 c0_0 c0_1 c0_2 c0_3; have c0_0 := F4.out.c 0 0 rfl rfl; have c0_1 := F4.out.c 0 1 rfl rfl; have c0_2 := F4.out.c 0 2 rfl rfl; have c0_3 := F4.out.c 0 3 rfl rfl) | (go_at_call_of 21 (Value.slice aQ Q.length cQ); refine (H4.out _ (F4.out.lw 0 rfl)).mono ?_; rintro e wF5 ⟨rfl, hb⟩; have F5 := Lib.hid (F4.out.next hb); clear hb F4 c0_0 c0_1 c0_2 c0_3; have c0_0 := F5.out.c 0 0 rfl rfl; have c0_1 := F5.out.c 0 1 rfl rfl; have c0_2 := F5.out.c 0 2 rfl rfl; have c0_3 := F5.out.c 0 3 rfl rfl) | fail)
      go_ret
      exact ⟨by first | rfl | simp, F4.out.bel⟩
     | true =>
      cases b4 with
      | false =>
       go_wp2_with (first | (go_at_call_of 21 (Value.slice aS S.length cS); refine (H1.out _ (F1.out.lw 1 rfl)).mono ?_; rintro e wF2 ⟨rfl, hb⟩; have F2 := Lib.hid (F1.out.next hb); clear hb F1 c0_0 c0_1 c0_2 c0_3; have c0_0 := F2.out.c 0 0 rfl rfl; have c0_1 := F2.out.c 0 1 rfl rfl; have c0_2 := F2.out.c 0 2 rfl rfl; have c0_3 := F2.out.c 0 3 rfl rfl) | (go_at_call_of 21 (Value.slice aD D.length cD); refine (H2.out _ (F2.out.lw 3 rfl)).mono ?_; rintro e wF3 ⟨rfl, hb⟩; have F3 := Lib.hid (F2.out.next hb); clear hb F2 c0_0 c0_1 c0_2 c0_3; have c0_0 := F3.out.c 0 0 rfl rfl; have c0_1 := F3.out.c 0 1 rfl rfl; have c0_2 := F3.out.c 0 2 rfl rfl; have c0_3 := F3.out.c 0 3 rfl rfl) | (go_at_call_of 21 (Value.slice aP P.length cP); refine (H3.out _ (F3.out.lw 2 rfl)).mono ?_; rintro e wF4 ⟨rfl, hb⟩; have F4 := Lib.hid (F3.out.next hb); clear hb F3 c0_0 c0_1 c0_2 c0_3; have c0_0 := F4.out.c 0 0 rfl rfl; have c0_1 := F4.out.c 0 1 rfl rfl; have c0_2 := F4.out.c 0 2 rfl rfl; have c0_3 := F4.out.c 0 3 rfl rfl) | (go_at_call_of 21 (Value.slice aQ Q.length cQ); refine (H4.out _ (F4.out.lw 0 rfl)).mono ?_; rintro e wF5 ⟨rfl, hb⟩; have F5 := Lib.hid (F4.out.next hb); clear hb F4 c0_0 c0_1 c0_2 c0_3; have c0_0 := F5.out.c 0 0 rfl rfl; have c0_1 := F5.out.c 0 1 rfl rfl; have c0_2 := F5.out.c 0 2 rfl rfl; have c0_3 := F5.out.c 0 3 rfl rfl) | fail)
       go_ret
       exact ⟨by first | rfl | simp, F5.out.bel⟩
      | true =>
       go_wp2_with (first | (go_at_call_of 21 (Value.slice aS S.length cS); refine (H1.out _ (F1.out.lw 1 rfl)).mono ?_; rintro e wF2 ⟨rfl, hb⟩; have F2 := Lib.hid (F1.out.next hb); clear hb F1 c0_0 c0_1 c0_2 c0_3; have c0_0 := F2.out.c 0 0 rfl rfl; have c0_1 := F2.out.c 0 1 rfl rfl; have c0_2 := F2.out.c 0 2 rfl rfl; have c0_3 := F2.out.c 0 3 rfl rfl) | (go_at_call_of 21 (Value.slice aD D.length cD); refine (H2.out _ (F2.out.lw 3 rfl)).mono ?_; rintro e wF3 ⟨rfl, hb⟩; have F3 := Lib.hid (F2.out.next hb); clear hb F2 c0_0 c0_1 c0_2 c0_3; have c0_0 := F3.out.c 0 0 rfl rfl; have c0_1 := F3.out.c 0 1 rfl rfl; have c0_2 := F3.out.c 0 2 rfl rfl; have c0_3 := F3.out.c 0 3 rfl rfl) | (go_at_call_of 21 (Value.slice aP P.length cP); refine (H3.out _ (F3.out.lw 2 rfl)).mono ?_; rintro e wF4 ⟨rfl, hb⟩; have F4 := Lib.hid (F3.out.next hb); clear hb F3 c0_0 c0_1 c0_2 c0_3; have c0_0 := F4.out.c 0 0 rfl rfl; have c0_1 := F4.out.c 0 1 rfl rfl; have c0_2 := F4.out.c 0 2 rfl rfl; have c0_3 := F4.out.c 0 3 rfl rfl) | (go_at_call_of 21 (Value.slice aQ Q.length cQ); refine (H4.out _ (F4.out.lw 0 rfl)).mono ?_; rintro e wF5 ⟨rfl, hb⟩; have F5 := Lib.hid (F4.out.next hb); clear hb F4 c0_0 c0_1 c0_2 c0_3; have c0_0 := F5.out.c 0 0 rfl rfl; have c0_1 := F5.out.c 0 1 rfl rfl; have c0_2 := F5.out.c 0 2 rfl rfl; have c0_3 := F5.out.c 0 3 rfl rfl) | fail)
       go_ret
       exact ⟨by first | rfl | simp, F5.out.bel⟩
def longB (K S P D : List Int) : Bool := (((decide (6 < K.length) || decide (6 < S.length)) || decide (6 < P.length)) || decide (6 < D.length))
theorem long_any (aQ aS aP aD : Option Addr) (cQ cS cP cD : Nat) (Q S P D : List Int) (w : World) (hQ : Ints .i64 w w.heap.size aQ Q) (hS : Ints .i64 w w.heap.size aS S) (hP : Ints .i64 w w.heap.size aP P) (hD : Ints .i64 w w.heap.size aD D) :
  Calls Tryz.prog 15 #[.agg #[.slice aQ Q.length cQ, .slice aS S.length cS, .slice aP P.length cP, .slice aD D.length cD]] w fun e w' => e = .returned (.bool (longB Q S P D)) ∧ Below w.heap.size w w' := by
 obtain ⟨B, hB⟩ : ∃ z, longB Q S P D = z := ⟨_, rfl⟩
 rw [hB]
 go_enter Tryz.func15, Tryz.ntmps15
 go_wp2
 obtain ⟨W1, hW1⟩ : ∃ W1, (w.alloc (.cells #[.slice aQ Q.length cQ, .slice aS S.length cS, .slice aP P.length cP, .slice aD D.length cD] 28)).alloc (.cells #[.slice aQ Q.length cQ, .slice aS S.length cS, .slice aP P.length cP, .slice aD D.length cD] 23) = W1 := ⟨_, rfl⟩
 rw [hW1]
 have F1 := Lib.hid (((Fr.start (w := w) (I := []) (by simp)).box1 (b := w.heap.size) rfl [.slice aQ Q.length cQ, .slice aS S.length cS, .slice aP P.length cP, .slice aD D.length cD] 28).box1 (b := w.heap.size + 1) (by simp) [.slice aQ Q.length cQ, .slice aS S.length cS, .slice aP P.length cP, .slice aD D.length cD] 23)
 rw [hW1] at F1
 have l1 := hQ.len
 have l2 := hS.len
 have l3 := hP.len
 have l4 := hD.len
 have c0 := F1.out.c 1 0 rfl rfl
 have c1 := F1.out.c 1 1 rfl rfl
 have c2 := F1.out.c 1 2 rfl rfl
 have c3 := F1.out.c 1 3 rfl rfl
 have HB := Lib.hid F1.out.bel
 clear hW1 F1 hQ hS hP hD
 go_loop [4] (fun i => ∃ k : Nat, k ≤ 4 ∧ i = .int .i64 k ∧ (1 ≤ k → Q.length ≤ 6) ∧ (2 ≤ k → S.length ≤ 6) ∧ (3 ≤ k → P.length ≤ 6) ∧ (4 ≤ k → D.length ≤ 6)) (fun i => 4 - (intOf i).toNat)
 case atStart => exact ⟨0, by omega, rfl, by omega, by omega, by omega, by omega⟩
 case round =>
  obtain ⟨k, hk, rfl, h1, h2, h3, h4⟩ := hrel
  rcases (show k = 0 ∨ k = 1 ∨ k = 2 ∨ k = 3 ∨ k = 4 by omega) with rfl | rfl | rfl | rfl | rfl
  ·skip
   by_cases hb : 6 < Q.length
   ·skip
    have HZ : Hid (B = true) := Lib.hid (by rw [← hB]; unfold longB; rw [decide_eq_true hb]; simp)
    have hb2 : (6 : Int) < (Q.length : Int) := by omega
    clear h1 h2 h3 h4 hB
    go_wp2
    go_ret
    exact ⟨by rw [HZ.out]; rfl, HB.out⟩
   ·skip
    have HR : Hid ((1 ≤ 1 → Q.length ≤ 6) ∧ (2 ≤ 1 → S.length ≤ 6) ∧ (3 ≤ 1 → P.length ≤ 6) ∧ (4 ≤ 1 → D.length ≤ 6)) := Lib.hid ⟨by omega, by omega, by omega, by omega⟩
    have hb2 : ¬ (6 : Int) < (Q.length : Int) := by omega
    clear h1 h2 h3 h4 hb
    go_wp2
    go_round
    case rel => exact ⟨1, by omega, by go_num, HR.out⟩
    case measure => simp [intOf]
  ·skip
   by_cases hb : 6 < S.length
   ·skip
    have HZ : Hid (B = true) := Lib.hid (by rw [← hB]; unfold longB; rw [decide_eq_true hb]; simp)
    have hb2 : (6 : Int) < (S.length : Int) := by omega
    clear h1 h2 h3 h4 hB
    go_wp2
    go_ret
    exact ⟨by rw [HZ.out]; rfl, HB.out⟩
   ·skip
    have HR : Hid ((1 ≤ 2 → Q.length ≤ 6) ∧ (2 ≤ 2 → S.length ≤ 6) ∧ (3 ≤ 2 → P.length ≤ 6) ∧ (4 ≤ 2 → D.length ≤ 6)) := Lib.hid ⟨by omega, by omega, by omega, by omega⟩
    have hb2 : ¬ (6 : Int) < (S.length : Int) := by omega
    clear h1 h2 h3 h4 hb
    go_wp2
    go_round
    case rel => exact ⟨2, by omega, by go_num, HR.out⟩
    case measure => simp [intOf]
  ·skip
   by_cases hb : 6 < P.length
   ·skip
    have HZ : Hid (B = true) := Lib.hid (by rw [← hB]; unfold longB; rw [decide_eq_true hb]; simp)
    have hb2 : (6 : Int) < (P.length : Int) := by omega
    clear h1 h2 h3 h4 hB
    go_wp2
    go_ret
    exact ⟨by rw [HZ.out]; rfl, HB.out⟩
   ·skip
    have HR : Hid ((1 ≤ 3 → Q.length ≤ 6) ∧ (2 ≤ 3 → S.length ≤ 6) ∧ (3 ≤ 3 → P.length ≤ 6) ∧ (4 ≤ 3 → D.length ≤ 6)) := Lib.hid ⟨by omega, by omega, by omega, by omega⟩
    have hb2 : ¬ (6 : Int) < (P.length : Int) := by omega
    clear h1 h2 h3 h4 hb
    go_wp2
    go_round
    case rel => exact ⟨3, by omega, by go_num, HR.out⟩
    case measure => simp [intOf]
  ·skip
   by_cases hb : 6 < D.length
   ·skip
    have HZ : Hid (B = true) := Lib.hid (by rw [← hB]; unfold longB; rw [decide_eq_true hb]; simp)
    have hb2 : (6 : Int) < (D.length : Int) := by omega
    clear h1 h2 h3 h4 hB
    go_wp2
    go_ret
    exact ⟨by rw [HZ.out]; rfl, HB.out⟩
   ·skip
    have HR : Hid ((1 ≤ 4 → Q.length ≤ 6) ∧ (2 ≤ 4 → S.length ≤ 6) ∧ (3 ≤ 4 → P.length ≤ 6) ∧ (4 ≤ 4 → D.length ≤ 6)) := Lib.hid ⟨by omega, by omega, by omega, by omega⟩
    have hb2 : ¬ (6 : Int) < (D.length : Int) := by omega
    clear h1 h2 h3 h4 hb
    go_wp2
    go_round
    case rel => exact ⟨4, by omega, by go_num, HR.out⟩
    case measure => simp [intOf]
  ·skip
   have HZ : Hid (B = false) := Lib.hid (by rw [← hB]; unfold longB; rw [decide_eq_false (by omega : ¬ 6 < Q.length), decide_eq_false (by omega : ¬ 6 < S.length), decide_eq_false (by omega : ¬ 6 < P.length), decide_eq_false (by omega : ¬ 6 < D.length)]; rfl)
   clear h1 h2 h3 h4 hB
   go_wp2
   go_ret
   exact ⟨by rw [HZ.out]; rfl, HB.out⟩
end Go.Proofs.YtadlnmckcnfacaaGreat
namespace Go.Proofs.YtadlnmckcnfacaaGreat
open Go.RowKit Go.Rt
theorem lw26 {α : Type} {l0 : List α} (h0 : l0.length = 26) : ∃ x0 x1 x2 x3 x4 x5 x6 x7 x8 x9 x10 x11 x12 x13 x14 x15 x16 x17 x18 x19 x20 x21 x22 x23 x24 x25, l0 = [x0, x1, x2, x3, x4, x5, x6, x7, x8, x9, x10, x11, x12, x13, x14, x15, x16, x17, x18, x19, x20, x21, x22, x23, x24, x25] := by
 obtain ⟨x0, l1, rfl, h1⟩ := lwC h0
 obtain ⟨x1, l2, rfl, h2⟩ := lwC h1
 obtain ⟨x2, l3, rfl, h3⟩ := lwC h2
 obtain ⟨x3, l4, rfl, h4⟩ := lwC h3
 obtain ⟨x4, l5, rfl, h5⟩ := lwC h4
 obtain ⟨x5, l6, rfl, h6⟩ := lwC h5
 obtain ⟨x6, l7, rfl, h7⟩ := lwC h6
 obtain ⟨x7, l8, rfl, h8⟩ := lwC h7
 obtain ⟨x8, l9, rfl, h9⟩ := lwC h8
 obtain ⟨x9, l10, rfl, h10⟩ := lwC h9
 obtain ⟨x10, l11, rfl, h11⟩ := lwC h10
 obtain ⟨x11, l12, rfl, h12⟩ := lwC h11
 obtain ⟨x12, l13, rfl, h13⟩ := lwC h12
 obtain ⟨x13, l14, rfl, h14⟩ := lwC h13
 obtain ⟨x14, l15, rfl, h15⟩ := lwC h14
 obtain ⟨x15, l16, rfl, h16⟩ := lwC h15
 obtain ⟨x16, l17, rfl, h17⟩ := lwC h16
 obtain ⟨x17, l18, rfl, h18⟩ := lwC h17
 obtain ⟨x18, l19, rfl, h19⟩ := lwC h18
 obtain ⟨x19, l20, rfl, h20⟩ := lwC h19
 obtain ⟨x20, l21, rfl, h21⟩ := lwC h20
 obtain ⟨x21, l22, rfl, h22⟩ := lwC h21
 obtain ⟨x22, l23, rfl, h23⟩ := lwC h22
 obtain ⟨x23, l24, rfl, h24⟩ := lwC h23
 obtain ⟨x24, l25, rfl, h25⟩ := lwC h24
 obtain ⟨x25, l26, rfl, h26⟩ := lwC h25
 obtain rfl := List.length_eq_zero_iff.1 h26
 exact ⟨x0, x1, x2, x3, x4, x5, x6, x7, x8, x9, x10, x11, x12, x13, x14, x15, x16, x17, x18, x19, x20, x21, x22, x23, x24, x25, rfl⟩
end Go.Proofs.YtadlnmckcnfacaaGreat
namespace Go.Proofs.YtadlnmckcnfacaaGreat
open Go.RowKit Go.Rt
attribute [local go_sem] Oper.semAt_some
def plcI (X es : Int) : Int := if X < 0 then 0 else X / es + 1
theorem places11_any (el ek es ep ed X : Int) (w : World) (h1 : 1 ≤ el ∧ el ≤ 4096) (h2 : 1 ≤ ek ∧ ek ≤ 4096) (h3 : 1 ≤ es ∧ es ≤ 4096) (h4 : 0 ≤ ep ∧ ep ≤ 4096) (h5 : 1 ≤ ed ∧ ed ≤ 4096) (hX : X = el + 2 * ep - ed * (ek - 1) - 1) :
  Calls Tryz.prog 85 #[.int .i64 el, .int .i64 ek, .int .i64 es, .int .i64 ep, .int .i64 ed] w fun e w' => e = .returned (.int .i64 (plcI X es)) ∧ w = w' := by
 have h6 := mul_le4096 (A := 4096) (B := 4096) (a := ed) (b := ek - 1) (by omega) h5.2 (by omega) (by omega)
 obtain ⟨A, hA⟩ : ∃ z, ed * (ek - 1) = z := ⟨_, rfl⟩
 rw [hA] at hX h6
 have w1 : IntKind.i64.wrap (2 * ep) = 2 * ep := IntWalk.i64_in _ (by omega)
 have w2 : IntKind.i64.wrap (el + 2 * ep) = el + 2 * ep := IntWalk.i64_in _ (by omega)
 have w3 : IntKind.i64.wrap (ek - 1) = ek - 1 := IntWalk.i64_in _ (by omega)
 have w4 : IntKind.i64.wrap (ed * (ek - 1)) = A := by rw [hA]; exact IntWalk.i64_in _ (by omega)
 have w5 : IntKind.i64.wrap (el + 2 * ep - A) = el + 2 * ep - A := IntWalk.i64_in _ (by omega)
 have w6 : IntKind.i64.wrap (el + 2 * ep - A - 1) = X := by rw [hX]; exact IntWalk.i64_in _ (by omega)
 obtain ⟨Z, hZ⟩ : ∃ z, plcI X es = z := ⟨_, rfl⟩
 rw [hZ]
 by_cases hx : X < 0
 ·have hz : Z = 0 := by rw [← hZ]; unfold plcI; rw [if_pos hx]
  subst hz
  clear h1 h2 h3 h4 h5 h6 hX hA hZ
  go_enter Tryz.func85, Tryz.ntmps85
  go_wp2
  go_ret
  exact ⟨rfl, rfl⟩
 ·obtain ⟨XN, hXN⟩ : ∃ z : Nat, X = (z : Int) := ⟨X.toNat, by omega⟩
  obtain ⟨EN, hEN⟩ : ∃ z : Nat, es = (z : Int) := ⟨es.toNat, by omega⟩
  subst hXN
  subst hEN
  obtain ⟨qn, hqn⟩ : ∃ z, XN / EN = z := ⟨_, rfl⟩
  have hqb : qn ≤ XN := by rw [← hqn]; exact Nat.div_le_self _ _
  have hz : Z = (qn : Int) + 1 := by rw [← hZ]; unfold plcI; rw [if_neg hx, ← Int.natCast_ediv, hqn]
  have e0 : ((EN : Int) == 0) = false := by simp; omega
  have e1 : ¬ (EN : Int) = 0 := by omega
  have e2 : ¬ EN = 0 := by omega
  have hx2 : ¬ (XN : Int) < 0 := hx
  have DQ : IntKind.i64.wrap ((XN : Int) / (EN : Int)) = (qn : Int) := by rw [← Int.natCast_ediv, hqn]; exact IntWalk.i64_in _ (by omega)
  have DQ2 : IntKind.i64.wrap ((qn : Int) + 1) = (qn : Int) + 1 := IntWalk.i64_in _ (by omega)
  have hk0 : (0 : Int) ≤ (XN : Int) := by omega
  subst hz
  clear h1 h2 h3 h4 h5 h6 hX hA hZ hx hqb hqn
  go_enter Tryz.func85, Tryz.ntmps85
  go_wp2
  go_ret
  exact ⟨rfl, rfl⟩
def spO (wv : WinV) : List Int := if wv.okB = true then wv.O else []
def RetLB (w : World) (l : List Int) (b : Bool) (e : Ending) (w' : World) : Prop :=
 ∃ a c, e = .returned (.tuple #[.slice a l.length c, .bool b]) ∧ Fr w.heap.size w w' [] [] [⟨3, .slice a l.length c, l.length, l.map (Value.int .i64)⟩] []
end Go.Proofs.YtadlnmckcnfacaaGreat
