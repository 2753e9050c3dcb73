/- Walks, taken out of other texts by program: the reference's numbers of a convolution. -/
import Derived.Test.YtadlnmckcnfacaaCoD
import Derived.Test.YtadlnmckcnfacaaCoU
set_option linter.unusedVariables false
set_option linter.unusedSimpArgs false
namespace Go.Proofs.Ytadlnmckcnfacaa
open Go.RowKit Go.Rt
attribute [local go_sem] Oper.semAt_some
theorem refAll_any (a : Option Addr) (c hi : Nat) (lo : Int) (xs : List Int) (w : World) (h : Ints .i64 w hi a xs) :
    Calls Try.prog 94 #[.slice a xs.length c, .int .i64 lo, .int .i64 4096] w fun e w' => e = .returned (.bool (xs.all (okI lo))) ∧ w = w' := by
  obtain ⟨hm, _, hc⟩ := h
  go_enter Try.func94, Try.ntmps94
  go_wp2
  go_loop [7] (fun i => ∃ k : Nat, k ≤ xs.length ∧ i = .int .i64 k ∧ (xs.take k).all (okI lo) = true) (fun i => xs.length - (intOf i).toNat)
  case atStart => exact ⟨0, Nat.zero_le _, rfl, rfl⟩
  case round =>
    obtain ⟨k, hk, rfl, hall⟩ := hrel
    by_cases hlt : k < xs.length
    · obtain ⟨b, off, rfl, _, hcell⟩ := hc k hlt
      clear hc
      rw [List.getElem?_eq_getElem hlt] at hcell
      simp only [Option.getD_some] at hcell
      obtain ⟨x, hx⟩ : ∃ x, xs[k] = x := ⟨_, rfl⟩
      rw [hx] at hcell
      have hmem := List.getElem_mem hlt
      rw [hx] at hmem
      have HF : okI lo x = false → Hid (xs.all (okI lo) = false) := fun hf => by
        cases h0 : xs.all (okI lo) with
        | false => exact Lib.hid rfl
        | true => have := List.all_eq_true.1 h0 _ hmem; rw [hf] at this; exact absurd this (by decide)
      have HT : okI lo x = true → Hid ((xs.take (k + 1)).all (okI lo) = true) := fun ht => Lib.hid (by rw [take_snoc xs k hlt, List.all_append, hall]; simp [hx, ht])
      have hki : (k : Int) < (xs.length : Int) := by omega
      have HF2 := Lib.hid HF
      have HT2 := Lib.hid HT
      clear hall hmem hx HF HT
      by_cases h1 : x < lo
      · have hz := HF2.out (by unfold okI; rw [decide_eq_false (by omega : ¬ lo ≤ x)]; rfl)
        clear HF2 HT2
        go_wp2
        go_ret
        exact ⟨by rw [hz.out]; rfl, rfl⟩
      · by_cases h2 : (4096 : Int) < x
        · have hz := HF2.out (by unfold okI; rw [decide_eq_false (by omega : ¬ x ≤ 4096), Bool.and_false])
          clear HF2 HT2
          go_wp2
          go_ret
          exact ⟨by rw [hz.out]; rfl, rfl⟩
        · have hz := HT2.out (by unfold okI; rw [decide_eq_true (by omega : lo ≤ x), decide_eq_true (by omega : x ≤ 4096)]; rfl)
          clear HF2 HT2
          go_wp2
          go_round
          case rel => exact ⟨k + 1, by omega, by go_num, hz.out⟩
          case measure => simp [intOf]; omega
    · have hke : k = xs.length := by omega
      subst hke
      rw [List.take_length] at hall
      have HA := Lib.hid hall
      clear hall
      go_wp2
      go_ret
      exact ⟨by rw [HA.out]; rfl, rfl⟩
theorem refAllB (a : Option Addr) (c : Nat) (lo : Int) (xs : List Int) (w : World) (h : Ints .i64 w w.heap.size a xs) :
    Calls Try.prog 94 #[.slice a xs.length c, .int .i64 lo, .int .i64 4096] w fun e w' => e = .returned (.bool (xs.all (okI lo))) ∧ Below w.heap.size w w' := by
  refine (refAll_any a c w.heap.size lo xs w h).mono ?_
  rintro e w' ⟨he, rfl⟩
  exact ⟨he, Below.refl _ _⟩
set_option maxRecDepth 100000 in
set_option maxHeartbeats 2000000 in
theorem refMay_any (ker : Bool) (aQ aS aP aD : Option Addr) (cQ cS cP cD : Nat) (Q S P D : List Int) (w : World) (hQ : Ints .i64 w w.heap.size aQ Q) (hS : Ints .i64 w w.heap.size aS S) (hP : Ints .i64 w w.heap.size aP P) (hD : Ints .i64 w w.heap.size aD D) :
    Calls Try.prog 62 #[.agg #[.slice aQ Q.length cQ, .slice aS S.length cS, .slice aP P.length cP, .slice aD D.length cD], .bool ker] w fun e w' => e = .returned (.bool (numB ker Q S P D)) ∧ Below w.heap.size w w' := by
  have F1 := Lib.hid ((Fr.start (w := w) (I := [(.i64, aQ, Q), (.i64, aS, S), (.i64, aP, P), (.i64, aD, D)]) (by intro z hz; simp at hz; rcases hz with rfl | rfl | rfl | rfl; exact hQ; exact hS; exact hP; exact hD)).box1 (b := w.heap.size) rfl [.slice aQ Q.length cQ, .slice aS S.length cS, .slice aP P.length cP, .slice aD D.length cD] 28)
  simp only [List.nil_append] at F1
  have l1 := hQ.len
  have l2 := hS.len
  have l3 := hP.len
  have l4 := hD.len
  obtain ⟨nB, hnB⟩ : ∃ t, (((decide (S.length < 1) || decide (2 < S.length)) || decide (P.length ≠ S.length)) || decide (D.length ≠ S.length) || (if ker = true then decide (Q.length ≠ S.length) else decide (Q.length ≠ 0))) = t := ⟨_, rfl⟩
  have hi1 := fun W (h : Ints .i64 W W.heap.size aS S) => refAllB aS cS 1 S W h
  have hi2 := fun W (h : Ints .i64 W W.heap.size aD D) => refAllB aD cD 1 D W h
  have hi3 := fun W (h : Ints .i64 W W.heap.size aP P) => refAllB aP cP 0 P W h
  have hi4 := fun W (h : Ints .i64 W W.heap.size aQ Q) => refAllB aQ cQ 1 Q W h
  have hR : numB ker Q S P D = (!nB && (S.all (okI 1) && (D.all (okI 1) && (P.all (okI 0) && Q.all (okI 1))))) := by unfold numB; rw [hnB]
  rw [hR]
  generalize S.all (okI 1) = b1 at *
  generalize D.all (okI 1) = b2 at *
  generalize P.all (okI 0) = b3 at *
  generalize Q.all (okI 1) = b4 at *
  have HNB := Lib.hid hnB
  have H1 := Lib.hid hi1
  have H2 := Lib.hid hi2
  have H3 := Lib.hid hi3
  have H4 := Lib.hid hi4
  clear hQ hS hP hD hnB hi1 hi2 hi3 hi4 hR
  go_enter Try.func62, Try.ntmps62
  go_upto_region 1 with fail
  obtain ⟨W1, hW1⟩ : ∃ W1, w.alloc (.cells #[.slice aQ Q.length cQ, .slice aS S.length cS, .slice aP P.length cP, .slice aD D.length cD] 28) = W1 := ⟨_, rfl⟩
  rw [hW1] at F1 ⊢
  clear hW1
  have c0_0 := F1.out.c 0 0 rfl rfl
  have c0_1 := F1.out.c 0 1 rfl rfl
  have c0_2 := F1.out.c 0 2 rfl rfl
  have c0_3 := F1.out.c 0 3 rfl rfl
  go_upto_region 2 with fail
  go_cut [48] from 9 to 48 (fun s48 wx => s48 = .bool nB ∧ wx = W1)
  case first =>
    by_cases g1 : S.length < 1
    · skip
      have Gg1 := Lib.hid g1
      have dg1 : decide ((S.length : Int) < 1) = true := by first | exact bne_iff_ne.2 (by omega) | (simp; omega)
      clear g1
      obtain rfl : nB = true := by rw [← HNB.out]; simp [Gg1.out]
      go_wp2
      go_meet
      first | exact ⟨rfl, rfl⟩ | exact ⟨by simp, rfl⟩
    · skip
      have Gg1 := Lib.hid g1
      have dg1 : decide ((S.length : Int) < 1) = false := by first | exact bne_eq_false_iff_eq.2 (by omega) | (simp; omega)
      clear g1
      by_cases g2 : 2 < S.length
      · skip
        have Gg2 := Lib.hid g2
        have dg2 : decide ((2 : Int) < (S.length : Int)) = true := by first | exact bne_iff_ne.2 (by omega) | (simp; omega)
        clear g2
        obtain rfl : nB = true := by rw [← HNB.out]; simp [Gg1.out, Gg2.out]
        go_wp2
        go_meet
        first | exact ⟨rfl, rfl⟩ | exact ⟨by simp, rfl⟩
      · skip
        have Gg2 := Lib.hid g2
        have dg2 : decide ((2 : Int) < (S.length : Int)) = false := by first | exact bne_eq_false_iff_eq.2 (by omega) | (simp; omega)
        clear g2
        by_cases g3 : P.length ≠ S.length
        · skip
          have Gg3 := Lib.hid g3
          have dg3 : ((P.length : Int) != (S.length : Int)) = true := by first | exact bne_iff_ne.2 (by omega) | (simp; omega)
          clear g3
          obtain rfl : nB = true := by rw [← HNB.out]; simp [Gg1.out, Gg2.out, Gg3.out]
          go_wp2
          go_meet
          first | exact ⟨rfl, rfl⟩ | exact ⟨by simp, rfl⟩
        · skip
          have Gg3 := Lib.hid g3
          have dg3 : ((P.length : Int) != (S.length : Int)) = false := by first | exact bne_eq_false_iff_eq.2 (by omega) | (simp; omega)
          clear g3
          by_cases g4 : D.length ≠ S.length
          · skip
            have Gg4 := Lib.hid g4
            have dg4 : ((D.length : Int) != (S.length : Int)) = true := by first | exact bne_iff_ne.2 (by omega) | (simp; omega)
            clear g4
            obtain rfl : nB = true := by rw [← HNB.out]; simp [Gg1.out, Gg2.out, Gg3.out, Gg4.out]
            go_wp2
            go_meet
            first | exact ⟨rfl, rfl⟩ | exact ⟨by simp, rfl⟩
          · skip
            have Gg4 := Lib.hid g4
            have dg4 : ((D.length : Int) != (S.length : Int)) = false := by first | exact bne_eq_false_iff_eq.2 (by omega) | (simp; omega)
            clear g4
            cases ker with
            | true =>
              by_cases g5 : Q.length ≠ S.length
              · skip
                have Gg5 := Lib.hid g5
                have dg5 : ((Q.length : Int) != (S.length : Int)) = true := by first | exact bne_iff_ne.2 (by omega) | (simp; omega)
                clear g5
                obtain rfl : nB = true := by rw [← HNB.out]; simp [Gg1.out, Gg2.out, Gg3.out, Gg4.out, Gg5.out]
                go_wp2
                go_meet
                first | exact ⟨rfl, rfl⟩ | exact ⟨by simp, rfl⟩
              · skip
                have Gg5 := Lib.hid g5
                have dg5 : ((Q.length : Int) != (S.length : Int)) = false := by first | exact bne_eq_false_iff_eq.2 (by omega) | (simp; omega)
                clear g5
                obtain rfl : nB = false := by rw [← HNB.out]; simp [Gg1.out, Gg2.out, Gg3.out, Gg4.out, Gg5.out]
                go_wp2
                go_meet
                first | exact ⟨rfl, rfl⟩ | exact ⟨by simp, rfl⟩
            | false =>
              by_cases g5 : Q.length ≠ 0
              · skip
                have Gg5 := Lib.hid g5
                have dg5 : ((Q.length : Int) != 0) = true := by first | exact bne_iff_ne.2 (by omega) | (simp; omega)
                clear g5
                obtain rfl : nB = true := by rw [← HNB.out]; simp [Gg1.out, Gg2.out, Gg3.out, Gg4.out, Gg5.out]
                go_wp2
                go_meet
                first | exact ⟨rfl, rfl⟩ | exact ⟨by simp, rfl⟩
              · skip
                have Gg5 := Lib.hid g5
                have dg5 : ((Q.length : Int) != 0) = false := by first | exact bne_eq_false_iff_eq.2 (by omega) | (simp; omega)
                clear g5
                obtain rfl : nB = false := by rw [← HNB.out]; simp [Gg1.out, Gg2.out, Gg3.out, Gg4.out, Gg5.out]
                go_wp2
                go_meet
                first | exact ⟨rfl, rfl⟩ | exact ⟨by simp, rfl⟩
  case rest =>
    obtain ⟨rfl, rfl⟩ := hcut
    cases nB with
    | true =>
      go_wp2
      go_ret
      exact ⟨by first | rfl | simp, F1.out.bel⟩
    | false =>
      cases b1 with
      | false =>
        go_wp2_with (first | (go_at_call_of 94 (Value.slice aS S.length cS); refine (H1.out _ (F1.out.lw 1 rfl)).mono ?_; rintro e wF2 ⟨rfl, hb⟩; have F2 := Lib.hid (F1.out.next hb); clear hb F1 c0_0 c0_1 c0_2 c0_3; have c0_0 := F2.out.c 0 0 rfl rfl; have c0_1 := F2.out.c 0 1 rfl rfl; have c0_2 := F2.out.c 0 2 rfl rfl; have c0_3 := F2.out.c 0 3 rfl rfl) | (go_at_call_of 94 (Value.slice aD D.length cD); refine (H2.out _ (F2.out.lw 3 rfl)).mono ?_; rintro e wF3 ⟨rfl, hb⟩; have F3 := Lib.hid (F2.out.next hb); clear hb F2 c0_0 c0_1 c0_2 c0_3; have c0_0 := F3.out.c 0 0 rfl rfl; have c0_1 := F3.out.c 0 1 rfl rfl; have c0_2 := F3.out.c 0 2 rfl rfl; have c0_3 := F3.out.c 0 3 rfl rfl) | (go_at_call_of 94 (Value.slice aP P.length cP); refine (H3.out _ (F3.out.lw 2 rfl)).mono ?_; rintro e wF4 ⟨rfl, hb⟩; have F4 := Lib.hid (F3.out.next hb); clear hb F3 c0_0 c0_1 c0_2 c0_3; have c0_0 := F4.out.c 0 0 rfl rfl; have c0_1 := F4.out.c 0 1 rfl rfl; have c0_2 := F4.out.c 0 2 rfl rfl; have c0_3 := F4.out.c 0 3 rfl rfl) | (go_at_call_of 94 (Value.slice aQ Q.length cQ); refine (H4.out _ (F4.out.lw 0 rfl)).mono ?_; rintro e wF5 ⟨rfl, hb⟩; have F5 := Lib.hid (F4.out.next hb); clear hb F4 c0_0 c0_1 c0_2 c0_3; have c0_0 := F5.out.c 0 0 rfl rfl; have c0_1 := F5.out.c 0 1 rfl rfl; have c0_2 := F5.out.c 0 2 rfl rfl; have c0_3 := F5.out.c 0 3 rfl rfl) | fail)
        go_ret
        exact ⟨by first | rfl | simp, F2.out.bel⟩
      | true =>
        cases b2 with
        | false =>
          go_wp2_with (first | (go_at_call_of 94 (Value.slice aS S.length cS); refine (H1.out _ (F1.out.lw 1 rfl)).mono ?_; rintro e wF2 ⟨rfl, hb⟩; have F2 := Lib.hid (F1.out.next hb); clear hb F1 c0_0 c0_1 c0_2 c0_3; have c0_0 := F2.out.c 0 0 rfl rfl; have c0_1 := F2.out.c 0 1 rfl rfl; have c0_2 := F2.out.c 0 2 rfl rfl; have c0_3 := F2.out.c 0 3 rfl rfl) | (go_at_call_of 94 (Value.slice aD D.length cD); refine (H2.out _ (F2.out.lw 3 rfl)).mono ?_; rintro e wF3 ⟨rfl, hb⟩; have F3 := Lib.hid (F2.out.next hb); clear hb F2 c0_0 c0_1 c0_2 c0_3; have c0_0 := F3.out.c 0 0 rfl rfl; have c0_1 := F3.out.c 0 1 rfl rfl; have c0_2 := F3.out.c 0 2 rfl rfl; have c0_3 := F3.out.c 0 3 rfl rfl) | (go_at_call_of 94 (Value.slice aP P.length cP); refine (H3.out _ (F3.out.lw 2 rfl)).mono ?_; rintro e wF4 ⟨rfl, hb⟩; have F4 := Lib.hid (F3.out.next hb); clear hb F3 c0_0 c0_1 c0_2 c0_3; have c0_0 := F4.out.c 0 0 rfl rfl; have c0_1 := F4.out.c 0 1 rfl rfl; have c0_2 := F4.out.c 0 2 rfl rfl; have c0_3 := F4.out.c 0 3 rfl rfl) | (go_at_call_of 94 (Value.slice aQ Q.length cQ); refine (H4.out _ (F4.out.lw 0 rfl)).mono ?_; rintro e wF5 ⟨rfl, hb⟩; have F5 := Lib.hid (F4.out.next hb); clear hb F4 c0_0 c0_1 c0_2 c0_3; have c0_0 := F5.out.c 0 0 rfl rfl; have c0_1 := F5.out.c 0 1 rfl rfl; have c0_2 := F5.out.c 0 2 rfl rfl; have c0_3 := F5.out.c 0 3 rfl rfl) | fail)
          go_ret
          exact ⟨by first | rfl | simp, F3.out.bel⟩
        | true =>
          cases b3 with
          | false =>
            go_wp2_with (first | (go_at_call_of 94 (Value.slice aS S.length cS); refine (H1.out _ (F1.out.lw 1 rfl)).mono ?_; rintro e wF2 ⟨rfl, hb⟩; have F2 := Lib.hid (F1.out.next hb); clear hb F1 c0_0 c0_1 c0_2 c0_3; have c0_0 := F2.out.c 0 0 rfl rfl; have c0_1 := F2.out.c 0 1 rfl rfl; have c0_2 := F2.out.c 0 2 rfl rfl; have c0_3 := F2.out.c 0 3 rfl rfl) | (go_at_call_of 94 (Value.slice aD D.length cD); refine (H2.out _ (F2.out.lw 3 rfl)).mono ?_; rintro e wF3 ⟨rfl, hb⟩; have F3 := Lib.hid (F2.out.next hb); clear hb F2 c0_0 c0_1 c0_2 c0_3; have c0_0 := F3.out.c 0 0 rfl rfl; have c0_1 := F3.out.c 0 1 rfl rfl; have c0_2 := F3.out.c 0 2 rfl rfl; have c0_3 := F3.out.c 0 3 rfl rfl) | (go_at_call_of 94 (Value.slice aP P.length cP); refine (H3.out _ (F3.out.lw 2 rfl)).mono ?_; rintro e wF4 ⟨rfl, hb⟩; have F4 := Lib.hid (F3.out.next hb); clear hb F3 c0_0 c0_1 c0_2 c0_3; have c0_0 := F4.out.c 0 0 rfl rfl; have c0_1 := F4.out.c 0 1 rfl rfl; have c0_2 := F4.out.c 0 2 rfl rfl; have c0_3 := F4.out.c 0 3 rfl rfl) | (go_at_call_of 94 (Value.slice aQ Q.length cQ); refine (H4.out _ (F4.out.lw 0 rfl)).mono ?_; rintro e wF5 ⟨rfl, hb⟩; have F5 := Lib.hid (F4.out.next hb); clear hb F4 c0_0 c0_1 c0_2 c0_3; have c0_0 := F5.out.c 0 0 rfl rfl; have c0_1 := F5.out.c 0 1 rfl rfl; have c0_2 := F5.out.c 0 2 rfl rfl; have c0_3 := F5.out.c 0 3 rfl rfl) | fail)
            go_ret
            exact ⟨by first | rfl | simp, F4.out.bel⟩
          | true =>
            cases b4 with
            | false =>
              go_wp2_with (first | (go_at_call_of 94 (Value.slice aS S.length cS); refine (H1.out _ (F1.out.lw 1 rfl)).mono ?_; rintro e wF2 ⟨rfl, hb⟩; have F2 := Lib.hid (F1.out.next hb); clear hb F1 c0_0 c0_1 c0_2 c0_3; have c0_0 := F2.out.c 0 0 rfl rfl; have c0_1 := F2.out.c 0 1 rfl rfl; have c0_2 := F2.out.c 0 2 rfl rfl; have c0_3 := F2.out.c 0 3 rfl rfl) | (go_at_call_of 94 (Value.slice aD D.length cD); refine (H2.out _ (F2.out.lw 3 rfl)).mono ?_; rintro e wF3 ⟨rfl, hb⟩; have F3 := Lib.hid (F2.out.next hb); clear hb F2 c0_0 c0_1 c0_2 c0_3; have c0_0 := F3.out.c 0 0 rfl rfl; have c0_1 := F3.out.c 0 1 rfl rfl; have c0_2 := F3.out.c 0 2 rfl rfl; have c0_3 := F3.out.c 0 3 rfl rfl) | (go_at_call_of 94 (Value.slice aP P.length cP); refine (H3.out _ (F3.out.lw 2 rfl)).mono ?_; rintro e wF4 ⟨rfl, hb⟩; have F4 := Lib.hid (F3.out.next hb); clear hb F3 c0_0 c0_1 c0_2 c0_3; have c0_0 := F4.out.c 0 0 rfl rfl; have c0_1 := F4.out.c 0 1 rfl rfl; have c0_2 := F4.out.c 0 2 rfl rfl; have c0_3 := F4.out.c 0 3 rfl rfl) | (go_at_call_of 94 (Value.slice aQ Q.length cQ); refine (H4.out _ (F4.out.lw 0 rfl)).mono ?_; rintro e wF5 ⟨rfl, hb⟩; have F5 := Lib.hid (F4.out.next hb); clear hb F4 c0_0 c0_1 c0_2 c0_3; have c0_0 := F5.out.c 0 0 rfl rfl; have c0_1 := F5.out.c 0 1 rfl rfl; have c0_2 := F5.out.c 0 2 rfl rfl; have c0_3 := F5.out.c 0 3 rfl rfl) | fail)
              go_ret
              exact ⟨by first | rfl | simp, F5.out.bel⟩
            | true =>
              go_wp2_with (first | (go_at_call_of 94 (Value.slice aS S.length cS); refine (H1.out _ (F1.out.lw 1 rfl)).mono ?_; rintro e wF2 ⟨rfl, hb⟩; have F2 := Lib.hid (F1.out.next hb); clear hb F1 c0_0 c0_1 c0_2 c0_3; have c0_0 := F2.out.c 0 0 rfl rfl; have c0_1 := F2.out.c 0 1 rfl rfl; have c0_2 := F2.out.c 0 2 rfl rfl; have c0_3 := F2.out.c 0 3 rfl rfl) | (go_at_call_of 94 (Value.slice aD D.length cD); refine (H2.out _ (F2.out.lw 3 rfl)).mono ?_; rintro e wF3 ⟨rfl, hb⟩; have F3 := Lib.hid (F2.out.next hb); clear hb F2 c0_0 c0_1 c0_2 c0_3; have c0_0 := F3.out.c 0 0 rfl rfl; have c0_1 := F3.out.c 0 1 rfl rfl; have c0_2 := F3.out.c 0 2 rfl rfl; have c0_3 := F3.out.c 0 3 rfl rfl) | (go_at_call_of 94 (Value.slice aP P.length cP); refine (H3.out _ (F3.out.lw 2 rfl)).mono ?_; rintro e wF4 ⟨rfl, hb⟩; have F4 := Lib.hid (F3.out.next hb); clear hb F3 c0_0 c0_1 c0_2 c0_3; have c0_0 := F4.out.c 0 0 rfl rfl; have c0_1 := F4.out.c 0 1 rfl rfl; have c0_2 := F4.out.c 0 2 rfl rfl; have c0_3 := F4.out.c 0 3 rfl rfl) | (go_at_call_of 94 (Value.slice aQ Q.length cQ); refine (H4.out _ (F4.out.lw 0 rfl)).mono ?_; rintro e wF5 ⟨rfl, hb⟩; have F5 := Lib.hid (F4.out.next hb); clear hb F4 c0_0 c0_1 c0_2 c0_3; have c0_0 := F5.out.c 0 0 rfl rfl; have c0_1 := F5.out.c 0 1 rfl rfl; have c0_2 := F5.out.c 0 2 rfl rfl; have c0_3 := F5.out.c 0 3 rfl rfl) | fail)
              go_ret
              exact ⟨by first | rfl | simp, F5.out.bel⟩
def longB (K S P D : List Int) : Bool := (((decide (6 < K.length) || decide (6 < S.length)) || decide (6 < P.length)) || decide (6 < D.length))
theorem long_any (aQ aS aP aD : Option Addr) (cQ cS cP cD : Nat) (Q S P D : List Int) (w : World) (hQ : Ints .i64 w w.heap.size aQ Q) (hS : Ints .i64 w w.heap.size aS S) (hP : Ints .i64 w w.heap.size aP P) (hD : Ints .i64 w w.heap.size aD D) :
    Calls Try.prog 25 #[.agg #[.slice aQ Q.length cQ, .slice aS S.length cS, .slice aP P.length cP, .slice aD D.length cD]] w fun e w' => e = .returned (.bool (longB Q S P D)) ∧ Below w.heap.size w w' := by
  obtain ⟨B, hB⟩ : ∃ z, longB Q S P D = z := ⟨_, rfl⟩
  rw [hB]
  go_enter Try.func25, Try.ntmps25
  go_wp2
  obtain ⟨W1, hW1⟩ : ∃ W1, (w.alloc (.cells #[.slice aQ Q.length cQ, .slice aS S.length cS, .slice aP P.length cP, .slice aD D.length cD] 28)).alloc (.cells #[.slice aQ Q.length cQ, .slice aS S.length cS, .slice aP P.length cP, .slice aD D.length cD] 23) = W1 := ⟨_, rfl⟩
  rw [hW1]
  have F1 := Lib.hid (((Fr.start (w := w) (I := []) (by simp)).box1 (b := w.heap.size) rfl [.slice aQ Q.length cQ, .slice aS S.length cS, .slice aP P.length cP, .slice aD D.length cD] 28).box1 (b := w.heap.size + 1) (by simp) [.slice aQ Q.length cQ, .slice aS S.length cS, .slice aP P.length cP, .slice aD D.length cD] 23)
  rw [hW1] at F1
  have l1 := hQ.len
  have l2 := hS.len
  have l3 := hP.len
  have l4 := hD.len
  have c0 := F1.out.c 1 0 rfl rfl
  have c1 := F1.out.c 1 1 rfl rfl
  have c2 := F1.out.c 1 2 rfl rfl
  have c3 := F1.out.c 1 3 rfl rfl
  have HB := Lib.hid F1.out.bel
  clear hW1 F1 hQ hS hP hD
  go_loop [4] (fun i => ∃ k : Nat, k ≤ 4 ∧ i = .int .i64 k ∧ (1 ≤ k → Q.length ≤ 6) ∧ (2 ≤ k → S.length ≤ 6) ∧ (3 ≤ k → P.length ≤ 6) ∧ (4 ≤ k → D.length ≤ 6)) (fun i => 4 - (intOf i).toNat)
  case atStart => exact ⟨0, by omega, rfl, by omega, by omega, by omega, by omega⟩
  case round =>
    obtain ⟨k, hk, rfl, h1, h2, h3, h4⟩ := hrel
    rcases (show k = 0 ∨ k = 1 ∨ k = 2 ∨ k = 3 ∨ k = 4 by omega) with rfl | rfl | rfl | rfl | rfl
    · skip
      by_cases hb : 6 < Q.length
      · skip
        have HZ : Hid (B = true) := Lib.hid (by rw [← hB]; unfold longB; rw [decide_eq_true hb]; simp)
        have hb2 : (6 : Int) < (Q.length : Int) := by omega
        clear h1 h2 h3 h4 hB
        go_wp2
        go_ret
        exact ⟨by rw [HZ.out]; rfl, HB.out⟩
      · skip
        have HR : Hid ((1 ≤ 1 → Q.length ≤ 6) ∧ (2 ≤ 1 → S.length ≤ 6) ∧ (3 ≤ 1 → P.length ≤ 6) ∧ (4 ≤ 1 → D.length ≤ 6)) := Lib.hid ⟨by omega, by omega, by omega, by omega⟩
        have hb2 : ¬ (6 : Int) < (Q.length : Int) := by omega
        clear h1 h2 h3 h4 hb
        go_wp2
        go_round
        case rel => exact ⟨1, by omega, by go_num, HR.out⟩
        case measure => simp [intOf]
    · skip
      by_cases hb : 6 < S.length
      · skip
        have HZ : Hid (B = true) := Lib.hid (by rw [← hB]; unfold longB; rw [decide_eq_true hb]; simp)
        have hb2 : (6 : Int) < (S.length : Int) := by omega
        clear h1 h2 h3 h4 hB
        go_wp2
        go_ret
        exact ⟨by rw [HZ.out]; rfl, HB.out⟩
      · skip
        have HR : Hid ((1 ≤ 2 → Q.length ≤ 6) ∧ (2 ≤ 2 → S.length ≤ 6) ∧ (3 ≤ 2 → P.length ≤ 6) ∧ (4 ≤ 2 → D.length ≤ 6)) := Lib.hid ⟨by omega, by omega, by omega, by omega⟩
        have hb2 : ¬ (6 : Int) < (S.length : Int) := by omega
        clear h1 h2 h3 h4 hb
        go_wp2
        go_round
        case rel => exact ⟨2, by omega, by go_num, HR.out⟩
        case measure => simp [intOf]
    · skip
      by_cases hb : 6 < P.length
      · skip
        have HZ : Hid (B = true) := Lib.hid (by rw [← hB]; unfold longB; rw [decide_eq_true hb]; simp)
        have hb2 : (6 : Int) < (P.length : Int) := by omega
        clear h1 h2 h3 h4 hB
        go_wp2
        go_ret
        exact ⟨by rw [HZ.out]; rfl, HB.out⟩
      · skip
        have HR : Hid ((1 ≤ 3 → Q.length ≤ 6) ∧ (2 ≤ 3 → S.length ≤ 6) ∧ (3 ≤ 3 → P.length ≤ 6) ∧ (4 ≤ 3 → D.length ≤ 6)) := Lib.hid ⟨by omega, by omega, by omega, by omega⟩
        have hb2 : ¬ (6 : Int) < (P.length : Int) := by omega
        clear h1 h2 h3 h4 hb
        go_wp2
        go_round
        case rel => exact ⟨3, by omega, by go_num, HR.out⟩
        case measure => simp [intOf]
    · skip
      by_cases hb : 6 < D.length
      · skip
        have HZ : Hid (B = true) := Lib.hid (by rw [← hB]; unfold longB; rw [decide_eq_true hb]; simp)
        have hb2 : (6 : Int) < (D.length : Int) := by omega
        clear h1 h2 h3 h4 hB
        go_wp2
        go_ret
        exact ⟨by rw [HZ.out]; rfl, HB.out⟩
      · skip
        have HR : Hid ((1 ≤ 4 → Q.length ≤ 6) ∧ (2 ≤ 4 → S.length ≤ 6) ∧ (3 ≤ 4 → P.length ≤ 6) ∧ (4 ≤ 4 → D.length ≤ 6)) := Lib.hid ⟨by omega, by omega, by omega, by omega⟩
        have hb2 : ¬ (6 : Int) < (D.length : Int) := by omega
        clear h1 h2 h3 h4 hb
        go_wp2
        go_round
        case rel => exact ⟨4, by omega, by go_num, HR.out⟩
        case measure => simp [intOf]
    · skip
      have HZ : Hid (B = false) := Lib.hid (by rw [← hB]; unfold longB; rw [decide_eq_false (by omega : ¬ 6 < Q.length), decide_eq_false (by omega : ¬ 6 < S.length), decide_eq_false (by omega : ¬ 6 < P.length), decide_eq_false (by omega : ¬ 6 < D.length)]; rfl)
      clear h1 h2 h3 h4 hB
      go_wp2
      go_ret
      exact ⟨by rw [HZ.out]; rfl, HB.out⟩
end Go.Proofs.Ytadlnmckcnfacaa
namespace Go.Proofs.Ytadlnmckcnfacaa
open Go.RowKit Go.Rt
theorem lw26 {α : Type} {l0 : List α} (h0 : l0.length = 26) : ∃ x0 x1 x2 x3 x4 x5 x6 x7 x8 x9 x10 x11 x12 x13 x14 x15 x16 x17 x18 x19 x20 x21 x22 x23 x24 x25, l0 = [x0, x1, x2, x3, x4, x5, x6, x7, x8, x9, x10, x11, x12, x13, x14, x15, x16, x17, x18, x19, x20, x21, x22, x23, x24, x25] := by
  obtain ⟨x0, l1, rfl, h1⟩ := lwC h0
  obtain ⟨x1, l2, rfl, h2⟩ := lwC h1
  obtain ⟨x2, l3, rfl, h3⟩ := lwC h2
  obtain ⟨x3, l4, rfl, h4⟩ := lwC h3
  obtain ⟨x4, l5, rfl, h5⟩ := lwC h4
  obtain ⟨x5, l6, rfl, h6⟩ := lwC h5
  obtain ⟨x6, l7, rfl, h7⟩ := lwC h6
  obtain ⟨x7, l8, rfl, h8⟩ := lwC h7
  obtain ⟨x8, l9, rfl, h9⟩ := lwC h8
  obtain ⟨x9, l10, rfl, h10⟩ := lwC h9
  obtain ⟨x10, l11, rfl, h11⟩ := lwC h10
  obtain ⟨x11, l12, rfl, h12⟩ := lwC h11
  obtain ⟨x12, l13, rfl, h13⟩ := lwC h12
  obtain ⟨x13, l14, rfl, h14⟩ := lwC h13
  obtain ⟨x14, l15, rfl, h15⟩ := lwC h14
  obtain ⟨x15, l16, rfl, h16⟩ := lwC h15
  obtain ⟨x16, l17, rfl, h17⟩ := lwC h16
  obtain ⟨x17, l18, rfl, h18⟩ := lwC h17
  obtain ⟨x18, l19, rfl, h19⟩ := lwC h18
  obtain ⟨x19, l20, rfl, h20⟩ := lwC h19
  obtain ⟨x20, l21, rfl, h21⟩ := lwC h20
  obtain ⟨x21, l22, rfl, h22⟩ := lwC h21
  obtain ⟨x22, l23, rfl, h23⟩ := lwC h22
  obtain ⟨x23, l24, rfl, h24⟩ := lwC h23
  obtain ⟨x24, l25, rfl, h25⟩ := lwC h24
  obtain ⟨x25, l26, rfl, h26⟩ := lwC h25
  obtain rfl := List.length_eq_zero_iff.1 h26
  exact ⟨x0, x1, x2, x3, x4, x5, x6, x7, x8, x9, x10, x11, x12, x13, x14, x15, x16, x17, x18, x19, x20, x21, x22, x23, x24, x25, rfl⟩
end Go.Proofs.Ytadlnmckcnfacaa
namespace Go.Proofs.Ytadlnmckcnfacaa
open Go.RowKit Go.Rt
attribute [local go_sem] Oper.semAt_some
def plcI (X es : Int) : Int := if X < 0 then 0 else X / es + 1
theorem places11_any (el ek es ep ed X : Int) (w : World) (h1 : 1 ≤ el ∧ el ≤ 4096) (h2 : 1 ≤ ek ∧ ek ≤ 4096) (h3 : 1 ≤ es ∧ es ≤ 4096) (h4 : 0 ≤ ep ∧ ep ≤ 4096) (h5 : 1 ≤ ed ∧ ed ≤ 4096) (hX : X = el + 2 * ep - ed * (ek - 1) - 1) :
    Calls Try.prog 95 #[.int .i64 el, .int .i64 ek, .int .i64 es, .int .i64 ep, .int .i64 ed] w fun e w' => e = .returned (.int .i64 (plcI X es)) ∧ w = w' := by
  have h6 := mul_le4096 (A := 4096) (B := 4096) (a := ed) (b := ek - 1) (by omega) h5.2 (by omega) (by omega)
  obtain ⟨A, hA⟩ : ∃ z, ed * (ek - 1) = z := ⟨_, rfl⟩
  rw [hA] at hX h6
  have w1 : IntKind.i64.wrap (2 * ep) = 2 * ep := IntWalk.i64_in _ (by omega)
  have w2 : IntKind.i64.wrap (el + 2 * ep) = el + 2 * ep := IntWalk.i64_in _ (by omega)
  have w3 : IntKind.i64.wrap (ek - 1) = ek - 1 := IntWalk.i64_in _ (by omega)
  have w4 : IntKind.i64.wrap (ed * (ek - 1)) = A := by rw [hA]; exact IntWalk.i64_in _ (by omega)
  have w5 : IntKind.i64.wrap (el + 2 * ep - A) = el + 2 * ep - A := IntWalk.i64_in _ (by omega)
  have w6 : IntKind.i64.wrap (el + 2 * ep - A - 1) = X := by rw [hX]; exact IntWalk.i64_in _ (by omega)
  obtain ⟨Z, hZ⟩ : ∃ z, plcI X es = z := ⟨_, rfl⟩
  rw [hZ]
  by_cases hx : X < 0
  · have hz : Z = 0 := by rw [← hZ]; unfold plcI; rw [if_pos hx]
    subst hz
    clear h1 h2 h3 h4 h5 h6 hX hA hZ
    go_enter Try.func95, Try.ntmps95
    go_wp2
    go_ret
    exact ⟨rfl, rfl⟩
  · obtain ⟨XN, hXN⟩ : ∃ z : Nat, X = (z : Int) := ⟨X.toNat, by omega⟩
    obtain ⟨EN, hEN⟩ : ∃ z : Nat, es = (z : Int) := ⟨es.toNat, by omega⟩
    subst hXN
    subst hEN
    obtain ⟨qn, hqn⟩ : ∃ z, XN / EN = z := ⟨_, rfl⟩
    have hqb : qn ≤ XN := by rw [← hqn]; exact Nat.div_le_self _ _
    have hz : Z = (qn : Int) + 1 := by rw [← hZ]; unfold plcI; rw [if_neg hx, ← Int.natCast_ediv, hqn]
    have e0 : ((EN : Int) == 0) = false := by simp; omega
    have e1 : ¬ (EN : Int) = 0 := by omega
    have e2 : ¬ EN = 0 := by omega
    have hx2 : ¬ (XN : Int) < 0 := hx
    have DQ : IntKind.i64.wrap ((XN : Int) / (EN : Int)) = (qn : Int) := by rw [← Int.natCast_ediv, hqn]; exact IntWalk.i64_in _ (by omega)
    have DQ2 : IntKind.i64.wrap ((qn : Int) + 1) = (qn : Int) + 1 := IntWalk.i64_in _ (by omega)
    have hk0 : (0 : Int) ≤ (XN : Int) := by omega
    subst hz
    clear h1 h2 h3 h4 h5 h6 hX hA hZ hx hqb hqn
    go_enter Try.func95, Try.ntmps95
    go_wp2
    go_ret
    exact ⟨rfl, rfl⟩
/-- The numbers of places along all dimensions, where each is at least one. -/
def spO (wv : WinV) : List Int := if wv.okB = true then wv.O else []
def RetLB (w : World) (l : List Int) (b : Bool) (e : Ending) (w' : World) : Prop :=
  ∃ a c, e = .returned (.tuple #[.slice a l.length c, .bool b]) ∧ Fr w.heap.size w w' [] [] [⟨3, .slice a l.length c, l.length, l.map (Value.int .i64)⟩] []
set_option maxRecDepth 100000 in
set_option maxHeartbeats 2000000 in
theorem spatial_any (xs : List Int) (aX aK aS aP aD : Option Addr) (cX cK cS cP cD : Nat) (wv : WinV) (w : World) (h0 : Ints .i64 w w.heap.size aX xs) (h1 : Ints .i64 w w.heap.size aK wv.K) (h2 : Ints .i64 w w.heap.size aS wv.S) (h3 : Ints .i64 w w.heap.size aP wv.P) (h4 : Ints .i64 w w.heap.size aD wv.D) (hL : wv.L = xs.drop 2) (hR : wv.R) (hx2 : xs.length = 2 + wv.L.length) :
    Calls Try.prog 63 #[.slice aX xs.length cX, .slice aK wv.K.length cK, .agg #[.slice aK wv.K.length cK, .slice aS wv.S.length cS, .slice aP wv.P.length cP, .slice aD wv.D.length cD]] w (RetLB w (spO wv) wv.okB) := by
  have F1 := Lib.hid (((Fr.start (w := w) (I := [(.i64, aX, xs), (.i64, aK, wv.K), (.i64, aS, wv.S), (.i64, aP, wv.P), (.i64, aD, wv.D)]) (by intro z hz; simp at hz; rcases hz with rfl | rfl | rfl | rfl | rfl; exact h0; exact h1; exact h2; exact h3; exact h4)).box1 (b := w.heap.size) rfl [.slice aK wv.K.length cK, .slice aS wv.S.length cS, .slice aP wv.P.length cP, .slice aD wv.D.length cD] 28).addNil 3)
  simp only [List.nil_append, List.cons_append] at F1
  have hLx : ∀ i : Nat, wv.L[i]?.getD 0 = xs[2 + i]?.getD 0 := fun i => by rw [hL, List.getElem?_drop]
  obtain ⟨r, hrr⟩ : ∃ r, wv.L.length = r := ⟨_, rfl⟩
  have hr2 := hR.r
  have hlen := h0.len
  have hdl := fun i (hi : i < r) => hR.dl i (by omega)
  have hdk := fun i (hi : i < r) => hR.dk i (by omega)
  have hds := fun i (hi : i < r) => hR.ds i (by omega)
  have hdp := fun i (hi : i < r) => hR.dp i (by omega)
  have hdd := fun i (hi : i < r) => hR.dd i (by omega)
  have hlK := hR.k
  have hlS := hR.s
  have hlP := hR.p
  have hlD := hR.d
  have hot := fun i (hi : i < r) => O_take wv (k := i) (by omega)
  have hOl := wv.O_len
  rw [hrr] at hr2 hlK hlS hlP hlD hOl hx2
  have hbad : ∀ i, i < r → wv.room i < 0 → wv.okB = false := fun i hi h => by
    cases h9 : wv.okB with
    | false => rfl
    | true => have := WinV.ok_room h9 (i := i) (by omega); omega
  have hgood : (∀ i, i < r → 0 ≤ wv.room i) → wv.okB = true := fun h => List.all_eq_true.2 fun i hi => decide_eq_true (h i (by have := List.mem_range.1 hi; omega))
  obtain ⟨SP, hSP⟩ : ∃ z, spO wv = z := ⟨_, rfl⟩
  obtain ⟨OKB, hOKB⟩ : ∃ z, wv.okB = z := ⟨_, rfl⟩
  have hs1 : OKB = false → SP = [] := fun h => by rw [← hSP]; unfold spO; rw [hOKB, h]; rfl
  have hs2 : OKB = true → SP = wv.O := fun h => by rw [← hSP]; unfold spO; rw [hOKB, h]; rfl
  rw [hOKB] at hbad hgood
  rw [hSP, hOKB]
  have HLX := Lib.hid hLx
  have HRR := Lib.hid hrr
  have HDL := Lib.hid hdl
  have HDK := Lib.hid hdk
  have HDS := Lib.hid hds
  have HDP := Lib.hid hdp
  have HDD := Lib.hid hdd
  have HLK := Lib.hid hlK
  have HLS := Lib.hid hlS
  have HLP := Lib.hid hlP
  have HLD := Lib.hid hlD
  have HOT := Lib.hid hot
  have HBAD := Lib.hid hbad
  have HGOOD := Lib.hid hgood
  have HS1 := Lib.hid hs1
  have HS2 := Lib.hid hs2
  have HOL := Lib.hid hOl
  have HX2 := Lib.hid hx2
  clear h0 h1 h2 h3 h4 hR hL hLx hSP hOKB hrr hdl hdk hds hdp hdd hlK hlS hlP hlD hot hbad hgood hs1 hs2 hOl hx2
  go_enter Try.func63, Try.ntmps63
  go_upto_region 1 with fail
  obtain ⟨W1, hW1⟩ : ∃ W1, w.alloc (.cells #[.slice aK wv.K.length cK, .slice aS wv.S.length cS, .slice aP wv.P.length cP, .slice aD wv.D.length cD] 28) = W1 := ⟨_, rfl⟩
  rw [hW1] at F1 ⊢
  clear hW1
  go_wp2
  go_loopw [8, 9] (fun s8 s9 wr => ∃ (k : Nat) (ab : Option Addr) (cb : Nat), k ≤ r ∧ s8 = .slice ab k cb ∧ s9 = .int .i64 k ∧ Hid (∀ j, j < k → 0 ≤ wv.room j) ∧ Hid (Fr w.heap.size w wr [(w.heap.size, [.slice aK wv.K.length cK, .slice aS wv.S.length cS, .slice aP wv.P.length cP, .slice aD wv.D.length cD])] [(.i64, aX, xs), (.i64, aK, wv.K), (.i64, aS, wv.S), (.i64, aP, wv.P), (.i64, aD, wv.D)] [⟨3, .slice ab k cb, k, (wv.O.take k).map (Value.int .i64)⟩] [])) (fun _ s9 _ => r - (intOf s9).toNat)
  case atStart => exact ⟨0, none, 0, Nat.zero_le _, rfl, rfl, Lib.hid (fun j hj => absurd hj (by omega)), F1⟩
  case round =>
    obtain ⟨k, ab, cb, hk, rfl, rfl, HG, F3⟩ := hrel
    clear F1
    obtain ⟨wo, rfl⟩ : ∃ x : World, x = wr := ⟨_, rfl⟩
    by_cases hlt : k < r
    · skip
      have hdl := HDL.out k hlt
      have hdk := HDK.out k hlt
      have hds := HDS.out k hlt
      have hdp := HDP.out k hlt
      have hdd := HDD.out k hlt
      have hot := HOT.out k hlt
      have hxe : wv.room k = wv.L[k]?.getD 0 + 2 * (wv.P[k]?.getD 0) - (wv.D[k]?.getD 0) * ((wv.K[k]?.getD 0) - 1) - 1 := rfl
      have hout : wv.out k = wv.room k / (wv.S[k]?.getD 0) + 1 := rfl
      rw [HLX.out k] at hdl hxe
      have hkX : 2 + k < xs.length := by have := HX2.out; omega
      have hkXi : 2 + (k : Int) < (xs.length : Int) := by omega
      obtain ⟨bX, oX, rfl, _, hcX⟩ := (F3.out.l 0 rfl).cell (2 + k) hkX
      obtain ⟨el, hel⟩ : ∃ z, xs[2 + k]?.getD 0 = z := ⟨_, rfl⟩
      have hkK : k < wv.K.length := by rw [HLK.out]; exact hlt
      have hkKi : (k : Int) < (wv.K.length : Int) := by omega
      obtain ⟨bK, oK, rfl, _, hcK⟩ := (F3.out.l 1 rfl).cell k hkK
      obtain ⟨ek, hek⟩ : ∃ z, wv.K[k]?.getD 0 = z := ⟨_, rfl⟩
      have hkS : k < wv.S.length := by rw [HLS.out]; exact hlt
      have hkSi : (k : Int) < (wv.S.length : Int) := by omega
      obtain ⟨bS, oS, rfl, _, hcS⟩ := (F3.out.l 2 rfl).cell k hkS
      obtain ⟨es, hes⟩ : ∃ z, wv.S[k]?.getD 0 = z := ⟨_, rfl⟩
      have hkP : k < wv.P.length := by rw [HLP.out]; exact hlt
      have hkPi : (k : Int) < (wv.P.length : Int) := by omega
      obtain ⟨bP, oP, rfl, _, hcP⟩ := (F3.out.l 3 rfl).cell k hkP
      obtain ⟨ep, hep⟩ : ∃ z, wv.P[k]?.getD 0 = z := ⟨_, rfl⟩
      have hkD : k < wv.D.length := by rw [HLD.out]; exact hlt
      have hkDi : (k : Int) < (wv.D.length : Int) := by omega
      obtain ⟨bD, oD, rfl, _, hcD⟩ := (F3.out.l 4 rfl).cell k hkD
      obtain ⟨ed, hed⟩ : ∃ z, wv.D[k]?.getD 0 = z := ⟨_, rfl⟩
      simp only [hel, hek, hes, hep, hed] at hdl hdk hds hdp hdd hxe hout
      have Hel := Lib.hid hel
      have Hek := Lib.hid hek
      have Hes := Lib.hid hes
      have Hep := Lib.hid hep
      have Hed := Lib.hid hed
      obtain ⟨X, hX⟩ : ∃ z, wv.room k = z := ⟨_, rfl⟩
      obtain ⟨OT, hOT⟩ : ∃ z, wv.out k = z := ⟨_, rfl⟩
      rw [hX] at hxe
      rw [hX, hOT] at hout
      rw [hOT] at hot
      have hpl := fun W => places11_any el ek es ep ed X W hdl hdk hds hdp hdd hxe
      have HPL := Lib.hid hpl
      have HXE := Lib.hid hX
      have HOUT := Lib.hid hout
      have HOT2 := Lib.hid hot
      have HW0 := Lib.hid (show IntKind.i64.wrap (2 + (k : Int)) = 2 + (k : Int) from IntWalk.i64_in _ (by omega))
      have hkXa : 0 ≤ 2 + (k : Int) := by omega
      have hkXc : (2 + (k : Int)).toNat = 2 + k := by omega
      have hk0 : (0 : Int) ≤ (k : Int) := by omega
      have HDS2 := Lib.hid hds
      clear hdl hdk hds hdp hdd hot hxe hout hX hOT hel hpl hek hes hep hed hcX hcK hcS hcP hcD
      go_upto_region 5 with fail
      refine wp_region_parts2 (w := wo) 26 0 none [] [(fun u _ => u = .slice (some ⟨bX, oX, none⟩) xs.length cX), (fun u _ => u = .int .i64 (k : Int)), (fun u _ => u = .int .i64 (2 + (k : Int))), (fun u _ => u = .pointer (some ⟨bX, oX + (2 + k), none⟩)), (fun u _ => u = .int .i64 el), (fun u _ => u = .slice (some ⟨bK, oK, none⟩) wv.K.length cK), (fun u _ => u = .int .i64 (k : Int)), (fun u _ => u = .pointer (some ⟨bK, oK + k, none⟩)), (fun u _ => u = .int .i64 ek), (fun u _ => u = .pointer (some ⟨w.heap.size, 1, none⟩)), (fun u _ => u = .slice (some ⟨bS, oS, none⟩) wv.S.length cS), (fun u _ => u = .int .i64 (k : Int)), (fun u _ => u = .pointer (some ⟨bS, oS + k, none⟩)), (fun u _ => u = .int .i64 es), (fun u _ => u = .pointer (some ⟨w.heap.size, 2, none⟩)), (fun u _ => u = .slice (some ⟨bP, oP, none⟩) wv.P.length cP), (fun u _ => u = .int .i64 (k : Int)), (fun u _ => u = .pointer (some ⟨bP, oP + k, none⟩)), (fun u _ => u = .int .i64 ep), (fun u _ => u = .pointer (some ⟨w.heap.size, 3, none⟩)), (fun u _ => u = .slice (some ⟨bD, oD, none⟩) wv.D.length cD), (fun u _ => u = .int .i64 (k : Int)), (fun u _ => u = .pointer (some ⟨bD, oD + k, none⟩)), (fun u _ => u = .int .i64 ed), (fun u _ => u = .int .i64 (plcI X es)), (fun u _ => u = .int .i64 (plcI X es))] [some 17, some 18, some 19, some 20, some 21, some 22, some 23, some 24, some 25, some 26, some 27, some 28, some 29, some 30, some 31, some 32, some 33, some 34, some 35, some 36, some 37, some 38, some 39, some 40, some 41, some 10] #[true, true, true, true, true, true, true, true, true, true, true, true, true, true, true, true, true, true, true, true, true, true, true, true, true, true] #[true, true, true, true, true, true, true, true, true, true, true, true, true, true, true, true, true, true, true, true, true, true, true, true, true, true] (by kernel_rfl) rfl (by kernel_rfl) (by kernel_rfl) rfl (by kernel_rfl) (by kernel_rfl) (.cons (carries_eq _) (.cons (carries_eq _) (.cons (carries_eq _) (.cons (carries_eq _) (.cons (carries_eq _) (.cons (carries_eq _) (.cons (carries_eq _) (.cons (carries_eq _) (.cons (carries_eq _) (.cons (carries_eq _) (.cons (carries_eq _) (.cons (carries_eq _) (.cons (carries_eq _) (.cons (carries_eq _) (.cons (carries_eq _) (.cons (carries_eq _) (.cons (carries_eq _) (.cons (carries_eq _) (.cons (carries_eq _) (.cons (carries_eq _) (.cons (carries_eq _) (.cons (carries_eq _) (.cons (carries_eq _) (.cons (carries_eq _) (.cons (carries_eq _) (.cons (carries_eq _) .nil)))))))))))))))))))))))))) (fun vs b hvl hvb => ?_)
      obtain ⟨x0, x1, x2, x3, x4, x5, x6, x7, x8, x9, x10, x11, x12, x13, x14, x15, x16, x17, x18, x19, x20, x21, x22, x23, x24, x25, rfl⟩ : ∃ x0 x1 x2 x3 x4 x5 x6 x7 x8 x9 x10 x11 x12 x13 x14 x15 x16 x17 x18 x19 x20 x21 x22 x23 x24 x25, vs = [x0, x1, x2, x3, x4, x5, x6, x7, x8, x9, x10, x11, x12, x13, x14, x15, x16, x17, x18, x19, x20, x21, x22, x23, x24, x25] := lw26 hvl
      clear hvl
      simp only [putAll, Act.put, List.setIfInBounds_toArray, List.set_cons_zero, List.set_cons_succ] at hvb
      subst hvb
      refine ⟨(.snoc (.snoc (.snoc (.snoc (.snoc (.snoc (.snoc (.snoc (.snoc (.snoc (.snoc (.snoc (.snoc (.snoc (.snoc (.snoc (.snoc (.snoc (.snoc (.snoc (.snoc (.snoc (.snoc (.snoc (.snoc (.snoc .zero (PartOb.intro (d := (some 17)) (r := fun u _ => u = .slice (some ⟨bX, oX, none⟩) xs.length cX) rfl rfl rfl rfl ?po5x0)) (PartOb.intro (d := (some 18)) (r := fun u _ => u = .int .i64 (k : Int)) rfl rfl rfl rfl ?po5x1)) (PartOb.intro (d := (some 19)) (r := fun u _ => u = .int .i64 (2 + (k : Int))) rfl rfl rfl rfl ?po5x2)) (PartOb.intro (d := (some 20)) (r := fun u _ => u = .pointer (some ⟨bX, oX + (2 + k), none⟩)) rfl rfl rfl rfl ?po5x3)) (PartOb.intro (d := (some 21)) (r := fun u _ => u = .int .i64 el) rfl rfl rfl rfl ?po5x4)) (PartOb.intro (d := (some 22)) (r := fun u _ => u = .slice (some ⟨bK, oK, none⟩) wv.K.length cK) rfl rfl rfl rfl ?po5x5)) (PartOb.intro (d := (some 23)) (r := fun u _ => u = .int .i64 (k : Int)) rfl rfl rfl rfl ?po5x6)) (PartOb.intro (d := (some 24)) (r := fun u _ => u = .pointer (some ⟨bK, oK + k, none⟩)) rfl rfl rfl rfl ?po5x7)) (PartOb.intro (d := (some 25)) (r := fun u _ => u = .int .i64 ek) rfl rfl rfl rfl ?po5x8)) (PartOb.intro (d := (some 26)) (r := fun u _ => u = .pointer (some ⟨w.heap.size, 1, none⟩)) rfl rfl rfl rfl ?po5x9)) (PartOb.intro (d := (some 27)) (r := fun u _ => u = .slice (some ⟨bS, oS, none⟩) wv.S.length cS) rfl rfl rfl rfl ?po5x10)) (PartOb.intro (d := (some 28)) (r := fun u _ => u = .int .i64 (k : Int)) rfl rfl rfl rfl ?po5x11)) (PartOb.intro (d := (some 29)) (r := fun u _ => u = .pointer (some ⟨bS, oS + k, none⟩)) rfl rfl rfl rfl ?po5x12)) (PartOb.intro (d := (some 30)) (r := fun u _ => u = .int .i64 es) rfl rfl rfl rfl ?po5x13)) (PartOb.intro (d := (some 31)) (r := fun u _ => u = .pointer (some ⟨w.heap.size, 2, none⟩)) rfl rfl rfl rfl ?po5x14)) (PartOb.intro (d := (some 32)) (r := fun u _ => u = .slice (some ⟨bP, oP, none⟩) wv.P.length cP) rfl rfl rfl rfl ?po5x15)) (PartOb.intro (d := (some 33)) (r := fun u _ => u = .int .i64 (k : Int)) rfl rfl rfl rfl ?po5x16)) (PartOb.intro (d := (some 34)) (r := fun u _ => u = .pointer (some ⟨bP, oP + k, none⟩)) rfl rfl rfl rfl ?po5x17)) (PartOb.intro (d := (some 35)) (r := fun u _ => u = .int .i64 ep) rfl rfl rfl rfl ?po5x18)) (PartOb.intro (d := (some 36)) (r := fun u _ => u = .pointer (some ⟨w.heap.size, 3, none⟩)) rfl rfl rfl rfl ?po5x19)) (PartOb.intro (d := (some 37)) (r := fun u _ => u = .slice (some ⟨bD, oD, none⟩) wv.D.length cD) rfl rfl rfl rfl ?po5x20)) (PartOb.intro (d := (some 38)) (r := fun u _ => u = .int .i64 (k : Int)) rfl rfl rfl rfl ?po5x21)) (PartOb.intro (d := (some 39)) (r := fun u _ => u = .pointer (some ⟨bD, oD + k, none⟩)) rfl rfl rfl rfl ?po5x22)) (PartOb.intro (d := (some 40)) (r := fun u _ => u = .int .i64 ed) rfl rfl rfl rfl ?po5x23)) (PartOb.intro (d := (some 41)) (r := fun u _ => u = .int .i64 (plcI X es)) rfl rfl rfl rfl ?po5x24)) (PartOb.intro (d := (some 10)) (r := fun u _ => u = .int .i64 (plcI X es)) rfl rfl rfl rfl ?po5x25)), ?pend5, ?pfl5⟩
      case po5x0 =>
        intro w1 hb1 hd KK hK
        clear hd
        simp only [Act.put, List.setIfInBounds_toArray, List.set_cons_zero, List.set_cons_succ] at hK
        go_simp
        first | exact hK.out _ _ (Below.refl _ _) rfl | (have hk := hK.out _ _ (Below.refl _ _) rfl; revert hk; go_simp)
      case po5x1 =>
        intro w1 hb1 hd KK hK
        clear hd
        simp only [Act.put, List.setIfInBounds_toArray, List.set_cons_zero, List.set_cons_succ] at hK
        go_simp
        first | exact hK.out _ _ (Below.refl _ _) rfl | (have hk := hK.out _ _ (Below.refl _ _) rfl; revert hk; go_simp)
      case po5x2 =>
        intro w1 hb1 hd KK hK
        have d1 : x1 = .int .i64 (k : Int) := hd 1 (by kernel_rfl)
        clear hd
        subst d1
        have dx := HW0.out
        simp only [Act.put, List.setIfInBounds_toArray, List.set_cons_zero, List.set_cons_succ] at hK
        go_simp
        first | exact hK.out _ _ (Below.refl _ _) rfl | (have hk := hK.out _ _ (Below.refl _ _) rfl; revert hk; go_simp)
      case po5x3 =>
        intro w1 hb1 hd KK hK
        have d0 : x0 = .slice (some ⟨bX, oX, none⟩) xs.length cX := hd 0 (by kernel_rfl)
        have d2 : x2 = .int .i64 (2 + (k : Int)) := hd 2 (by kernel_rfl)
        clear hd
        subst d0
        subst d2
        simp only [Act.put, List.setIfInBounds_toArray, List.set_cons_zero, List.set_cons_succ] at hK
        go_simp
        first | exact hK.out _ _ (Below.refl _ _) rfl | (have hk := hK.out _ _ (Below.refl _ _) rfl; revert hk; go_simp)
      case po5x4 =>
        intro w1 hb1 hd KK hK
        have d3 : x3 = .pointer (some ⟨bX, oX + (2 + k), none⟩) := hd 3 (by kernel_rfl)
        clear hd
        subst d3
        have hF := F3.out.next hb1
        obtain ⟨b9, o9, he, _, hcx⟩ := (hF.l 0 rfl).cell (2 + k) hkX
        cases he
        rw [Hel.out] at hcx
        simp only [Act.put, List.setIfInBounds_toArray, List.set_cons_zero, List.set_cons_succ] at hK
        go_simp
        first | exact hK.out _ _ (Below.refl _ _) rfl | (have hk := hK.out _ _ (Below.refl _ _) rfl; revert hk; go_simp)
      case po5x5 =>
        intro w1 hb1 hd KK hK
        clear hd
        simp only [Act.put, List.setIfInBounds_toArray, List.set_cons_zero, List.set_cons_succ] at hK
        go_simp
        first | exact hK.out _ _ (Below.refl _ _) rfl | (have hk := hK.out _ _ (Below.refl _ _) rfl; revert hk; go_simp)
      case po5x6 =>
        intro w1 hb1 hd KK hK
        clear hd
        simp only [Act.put, List.setIfInBounds_toArray, List.set_cons_zero, List.set_cons_succ] at hK
        go_simp
        first | exact hK.out _ _ (Below.refl _ _) rfl | (have hk := hK.out _ _ (Below.refl _ _) rfl; revert hk; go_simp)
      case po5x7 =>
        intro w1 hb1 hd KK hK
        have d5 : x5 = .slice (some ⟨bK, oK, none⟩) wv.K.length cK := hd 5 (by kernel_rfl)
        have d6 : x6 = .int .i64 (k : Int) := hd 6 (by kernel_rfl)
        clear hd
        subst d5
        subst d6
        simp only [Act.put, List.setIfInBounds_toArray, List.set_cons_zero, List.set_cons_succ] at hK
        go_simp
        first | exact hK.out _ _ (Below.refl _ _) rfl | (have hk := hK.out _ _ (Below.refl _ _) rfl; revert hk; go_simp)
      case po5x8 =>
        intro w1 hb1 hd KK hK
        have d7 : x7 = .pointer (some ⟨bK, oK + k, none⟩) := hd 7 (by kernel_rfl)
        clear hd
        subst d7
        have hF := F3.out.next hb1
        obtain ⟨b9, o9, he, _, hcx⟩ := (hF.l 1 rfl).cell (k) hkK
        cases he
        rw [Hek.out] at hcx
        simp only [Act.put, List.setIfInBounds_toArray, List.set_cons_zero, List.set_cons_succ] at hK
        go_simp
        first | exact hK.out _ _ (Below.refl _ _) rfl | (have hk := hK.out _ _ (Below.refl _ _) rfl; revert hk; go_simp)
      case po5x9 =>
        intro w1 hb1 hd KK hK
        clear hd
        simp only [Act.put, List.setIfInBounds_toArray, List.set_cons_zero, List.set_cons_succ] at hK
        go_simp
        first | exact hK.out _ _ (Below.refl _ _) rfl | (have hk := hK.out _ _ (Below.refl _ _) rfl; revert hk; go_simp)
      case po5x10 =>
        intro w1 hb1 hd KK hK
        have d9 : x9 = .pointer (some ⟨w.heap.size, 1, none⟩) := hd 9 (by kernel_rfl)
        clear hd
        subst d9
        have hF := F3.out.next hb1
        have k0 := hF.c 0 1 rfl rfl
        simp only [Act.put, List.setIfInBounds_toArray, List.set_cons_zero, List.set_cons_succ] at hK
        go_simp
        first | exact hK.out _ _ (Below.refl _ _) rfl | (have hk := hK.out _ _ (Below.refl _ _) rfl; revert hk; go_simp)
      case po5x11 =>
        intro w1 hb1 hd KK hK
        clear hd
        simp only [Act.put, List.setIfInBounds_toArray, List.set_cons_zero, List.set_cons_succ] at hK
        go_simp
        first | exact hK.out _ _ (Below.refl _ _) rfl | (have hk := hK.out _ _ (Below.refl _ _) rfl; revert hk; go_simp)
      case po5x12 =>
        intro w1 hb1 hd KK hK
        have d10 : x10 = .slice (some ⟨bS, oS, none⟩) wv.S.length cS := hd 10 (by kernel_rfl)
        have d11 : x11 = .int .i64 (k : Int) := hd 11 (by kernel_rfl)
        clear hd
        subst d10
        subst d11
        simp only [Act.put, List.setIfInBounds_toArray, List.set_cons_zero, List.set_cons_succ] at hK
        go_simp
        first | exact hK.out _ _ (Below.refl _ _) rfl | (have hk := hK.out _ _ (Below.refl _ _) rfl; revert hk; go_simp)
      case po5x13 =>
        intro w1 hb1 hd KK hK
        have d12 : x12 = .pointer (some ⟨bS, oS + k, none⟩) := hd 12 (by kernel_rfl)
        clear hd
        subst d12
        have hF := F3.out.next hb1
        obtain ⟨b9, o9, he, _, hcx⟩ := (hF.l 2 rfl).cell (k) hkS
        cases he
        rw [Hes.out] at hcx
        simp only [Act.put, List.setIfInBounds_toArray, List.set_cons_zero, List.set_cons_succ] at hK
        go_simp
        first | exact hK.out _ _ (Below.refl _ _) rfl | (have hk := hK.out _ _ (Below.refl _ _) rfl; revert hk; go_simp)
      case po5x14 =>
        intro w1 hb1 hd KK hK
        clear hd
        simp only [Act.put, List.setIfInBounds_toArray, List.set_cons_zero, List.set_cons_succ] at hK
        go_simp
        first | exact hK.out _ _ (Below.refl _ _) rfl | (have hk := hK.out _ _ (Below.refl _ _) rfl; revert hk; go_simp)
      case po5x15 =>
        intro w1 hb1 hd KK hK
        have d14 : x14 = .pointer (some ⟨w.heap.size, 2, none⟩) := hd 14 (by kernel_rfl)
        clear hd
        subst d14
        have hF := F3.out.next hb1
        have k0 := hF.c 0 2 rfl rfl
        simp only [Act.put, List.setIfInBounds_toArray, List.set_cons_zero, List.set_cons_succ] at hK
        go_simp
        first | exact hK.out _ _ (Below.refl _ _) rfl | (have hk := hK.out _ _ (Below.refl _ _) rfl; revert hk; go_simp)
      case po5x16 =>
        intro w1 hb1 hd KK hK
        clear hd
        simp only [Act.put, List.setIfInBounds_toArray, List.set_cons_zero, List.set_cons_succ] at hK
        go_simp
        first | exact hK.out _ _ (Below.refl _ _) rfl | (have hk := hK.out _ _ (Below.refl _ _) rfl; revert hk; go_simp)
      case po5x17 =>
        intro w1 hb1 hd KK hK
        have d15 : x15 = .slice (some ⟨bP, oP, none⟩) wv.P.length cP := hd 15 (by kernel_rfl)
        have d16 : x16 = .int .i64 (k : Int) := hd 16 (by kernel_rfl)
        clear hd
        subst d15
        subst d16
        simp only [Act.put, List.setIfInBounds_toArray, List.set_cons_zero, List.set_cons_succ] at hK
        go_simp
        first | exact hK.out _ _ (Below.refl _ _) rfl | (have hk := hK.out _ _ (Below.refl _ _) rfl; revert hk; go_simp)
      case po5x18 =>
        intro w1 hb1 hd KK hK
        have d17 : x17 = .pointer (some ⟨bP, oP + k, none⟩) := hd 17 (by kernel_rfl)
        clear hd
        subst d17
        have hF := F3.out.next hb1
        obtain ⟨b9, o9, he, _, hcx⟩ := (hF.l 3 rfl).cell (k) hkP
        cases he
        rw [Hep.out] at hcx
        simp only [Act.put, List.setIfInBounds_toArray, List.set_cons_zero, List.set_cons_succ] at hK
        go_simp
        first | exact hK.out _ _ (Below.refl _ _) rfl | (have hk := hK.out _ _ (Below.refl _ _) rfl; revert hk; go_simp)
      case po5x19 =>
        intro w1 hb1 hd KK hK
        clear hd
        simp only [Act.put, List.setIfInBounds_toArray, List.set_cons_zero, List.set_cons_succ] at hK
        go_simp
        first | exact hK.out _ _ (Below.refl _ _) rfl | (have hk := hK.out _ _ (Below.refl _ _) rfl; revert hk; go_simp)
      case po5x20 =>
        intro w1 hb1 hd KK hK
        have d19 : x19 = .pointer (some ⟨w.heap.size, 3, none⟩) := hd 19 (by kernel_rfl)
        clear hd
        subst d19
        have hF := F3.out.next hb1
        have k0 := hF.c 0 3 rfl rfl
        simp only [Act.put, List.setIfInBounds_toArray, List.set_cons_zero, List.set_cons_succ] at hK
        go_simp
        first | exact hK.out _ _ (Below.refl _ _) rfl | (have hk := hK.out _ _ (Below.refl _ _) rfl; revert hk; go_simp)
      case po5x21 =>
        intro w1 hb1 hd KK hK
        clear hd
        simp only [Act.put, List.setIfInBounds_toArray, List.set_cons_zero, List.set_cons_succ] at hK
        go_simp
        first | exact hK.out _ _ (Below.refl _ _) rfl | (have hk := hK.out _ _ (Below.refl _ _) rfl; revert hk; go_simp)
      case po5x22 =>
        intro w1 hb1 hd KK hK
        have d20 : x20 = .slice (some ⟨bD, oD, none⟩) wv.D.length cD := hd 20 (by kernel_rfl)
        have d21 : x21 = .int .i64 (k : Int) := hd 21 (by kernel_rfl)
        clear hd
        subst d20
        subst d21
        simp only [Act.put, List.setIfInBounds_toArray, List.set_cons_zero, List.set_cons_succ] at hK
        go_simp
        first | exact hK.out _ _ (Below.refl _ _) rfl | (have hk := hK.out _ _ (Below.refl _ _) rfl; revert hk; go_simp)
      case po5x23 =>
        intro w1 hb1 hd KK hK
        have d22 : x22 = .pointer (some ⟨bD, oD + k, none⟩) := hd 22 (by kernel_rfl)
        clear hd
        subst d22
        have hF := F3.out.next hb1
        obtain ⟨b9, o9, he, _, hcx⟩ := (hF.l 4 rfl).cell (k) hkD
        cases he
        rw [Hed.out] at hcx
        simp only [Act.put, List.setIfInBounds_toArray, List.set_cons_zero, List.set_cons_succ] at hK
        go_simp
        first | exact hK.out _ _ (Below.refl _ _) rfl | (have hk := hK.out _ _ (Below.refl _ _) rfl; revert hk; go_simp)
      case po5x24 =>
        intro w1 hb1 hd KK hK
        have d4 : x4 = .int .i64 el := hd 4 (by kernel_rfl)
        have d8 : x8 = .int .i64 ek := hd 8 (by kernel_rfl)
        have d13 : x13 = .int .i64 es := hd 13 (by kernel_rfl)
        have d18 : x18 = .int .i64 ep := hd 18 (by kernel_rfl)
        have d23 : x23 = .int .i64 ed := hd 23 (by kernel_rfl)
        clear hd
        subst d4
        subst d8
        subst d13
        subst d18
        subst d23
        simp only [Act.put, List.setIfInBounds_toArray, List.set_cons_zero, List.set_cons_succ] at hK
        go_simp
        go_at_call 95
        refine (HPL.out w1).mono ?_
        rintro e w2 ⟨rfl, rfl⟩
        (try go_wp2_with fail)
        first | exact hK.out _ _ (Below.refl _ _) rfl | (have hk := hK.out _ _ (Below.refl _ _) rfl; revert hk; go_simp)
      case po5x25 =>
        intro w1 hb1 hd KK hK
        have d0 : x0 = .slice (some ⟨bX, oX, none⟩) xs.length cX := hd 0 (by kernel_rfl)
        have d1 : x1 = .int .i64 (k : Int) := hd 1 (by kernel_rfl)
        have d2 : x2 = .int .i64 (2 + (k : Int)) := hd 2 (by kernel_rfl)
        have d3 : x3 = .pointer (some ⟨bX, oX + (2 + k), none⟩) := hd 3 (by kernel_rfl)
        have d4 : x4 = .int .i64 el := hd 4 (by kernel_rfl)
        have d5 : x5 = .slice (some ⟨bK, oK, none⟩) wv.K.length cK := hd 5 (by kernel_rfl)
        have d6 : x6 = .int .i64 (k : Int) := hd 6 (by kernel_rfl)
        have d7 : x7 = .pointer (some ⟨bK, oK + k, none⟩) := hd 7 (by kernel_rfl)
        have d8 : x8 = .int .i64 ek := hd 8 (by kernel_rfl)
        have d9 : x9 = .pointer (some ⟨w.heap.size, 1, none⟩) := hd 9 (by kernel_rfl)
        have d10 : x10 = .slice (some ⟨bS, oS, none⟩) wv.S.length cS := hd 10 (by kernel_rfl)
        have d11 : x11 = .int .i64 (k : Int) := hd 11 (by kernel_rfl)
        have d12 : x12 = .pointer (some ⟨bS, oS + k, none⟩) := hd 12 (by kernel_rfl)
        have d13 : x13 = .int .i64 es := hd 13 (by kernel_rfl)
        have d14 : x14 = .pointer (some ⟨w.heap.size, 2, none⟩) := hd 14 (by kernel_rfl)
        have d15 : x15 = .slice (some ⟨bP, oP, none⟩) wv.P.length cP := hd 15 (by kernel_rfl)
        have d16 : x16 = .int .i64 (k : Int) := hd 16 (by kernel_rfl)
        have d17 : x17 = .pointer (some ⟨bP, oP + k, none⟩) := hd 17 (by kernel_rfl)
        have d18 : x18 = .int .i64 ep := hd 18 (by kernel_rfl)
        have d19 : x19 = .pointer (some ⟨w.heap.size, 3, none⟩) := hd 19 (by kernel_rfl)
        have d20 : x20 = .slice (some ⟨bD, oD, none⟩) wv.D.length cD := hd 20 (by kernel_rfl)
        have d21 : x21 = .int .i64 (k : Int) := hd 21 (by kernel_rfl)
        have d22 : x22 = .pointer (some ⟨bD, oD + k, none⟩) := hd 22 (by kernel_rfl)
        have d23 : x23 = .int .i64 ed := hd 23 (by kernel_rfl)
        have d24 : x24 = .int .i64 (plcI X es) := hd 24 (by kernel_rfl)
        clear hd
        subst d0
        subst d1
        subst d2
        subst d3
        subst d4
        subst d5
        subst d6
        subst d7
        subst d8
        subst d9
        subst d10
        subst d11
        subst d12
        subst d13
        subst d14
        subst d15
        subst d16
        subst d17
        subst d18
        subst d19
        subst d20
        subst d21
        subst d22
        subst d23
        subst d24
        simp only [Act.put, List.setIfInBounds_toArray, List.set_cons_zero, List.set_cons_succ] at hK
        go_simp
        first | exact hK.out _ _ (Below.refl _ _) rfl | (have hk := hK.out _ _ (Below.refl _ _) rfl; revert hk; go_simp)
      case pfl5 => (intro f hf; cases hf)
      case pend5 =>
      intro w1 hb1 hR hD
      have d0 : x0 = .slice (some ⟨bX, oX, none⟩) xs.length cX := hR 0 (by decide)
      have d1 : x1 = .int .i64 (k : Int) := hR 1 (by decide)
      have d2 : x2 = .int .i64 (2 + (k : Int)) := hR 2 (by decide)
      have d3 : x3 = .pointer (some ⟨bX, oX + (2 + k), none⟩) := hR 3 (by decide)
      have d4 : x4 = .int .i64 el := hR 4 (by decide)
      have d5 : x5 = .slice (some ⟨bK, oK, none⟩) wv.K.length cK := hR 5 (by decide)
      have d6 : x6 = .int .i64 (k : Int) := hR 6 (by decide)
      have d7 : x7 = .pointer (some ⟨bK, oK + k, none⟩) := hR 7 (by decide)
      have d8 : x8 = .int .i64 ek := hR 8 (by decide)
      have d9 : x9 = .pointer (some ⟨w.heap.size, 1, none⟩) := hR 9 (by decide)
      have d10 : x10 = .slice (some ⟨bS, oS, none⟩) wv.S.length cS := hR 10 (by decide)
      have d11 : x11 = .int .i64 (k : Int) := hR 11 (by decide)
      have d12 : x12 = .pointer (some ⟨bS, oS + k, none⟩) := hR 12 (by decide)
      have d13 : x13 = .int .i64 es := hR 13 (by decide)
      have d14 : x14 = .pointer (some ⟨w.heap.size, 2, none⟩) := hR 14 (by decide)
      have d15 : x15 = .slice (some ⟨bP, oP, none⟩) wv.P.length cP := hR 15 (by decide)
      have d16 : x16 = .int .i64 (k : Int) := hR 16 (by decide)
      have d17 : x17 = .pointer (some ⟨bP, oP + k, none⟩) := hR 17 (by decide)
      have d18 : x18 = .int .i64 ep := hR 18 (by decide)
      have d19 : x19 = .pointer (some ⟨w.heap.size, 3, none⟩) := hR 19 (by decide)
      have d20 : x20 = .slice (some ⟨bD, oD, none⟩) wv.D.length cD := hR 20 (by decide)
      have d21 : x21 = .int .i64 (k : Int) := hR 21 (by decide)
      have d22 : x22 = .pointer (some ⟨bD, oD + k, none⟩) := hR 22 (by decide)
      have d23 : x23 = .int .i64 ed := hR 23 (by decide)
      have d24 : x24 = .int .i64 (plcI X es) := hR 24 (by decide)
      have d25 : x25 = .int .i64 (plcI X es) := hR 25 (by decide)
      clear hR hD
      subst d0
      subst d1
      subst d2
      subst d3
      subst d4
      subst d5
      subst d6
      subst d7
      subst d8
      subst d9
      subst d10
      subst d11
      subst d12
      subst d13
      subst d14
      subst d15
      subst d16
      subst d17
      subst d18
      subst d19
      subst d20
      subst d21
      subst d22
      subst d23
      subst d24
      subst d25
      refine wpAny_done (by kernel_rfl) ?_ _
      have F4 := Lib.hid (F3.out.next hb1)
      clear hb1 F3
      obtain ⟨V3, rfl⟩ : ∃ x : World, x = w1 := ⟨_, rfl⟩
      by_cases hx0 : X < 0
      · skip
        have hz : plcI X es = 0 := by unfold plcI; rw [if_pos hx0]
        rw [hz]
        have hf := HBAD.out k hlt (by rw [HXE.out]; exact hx0)
        have hsp := HS1.out hf
        obtain rfl := hf
        obtain rfl := hsp
        clear HS1 HS2 HBAD HGOOD
        go_wp2
        go_ret2
        exact ⟨none, 0, rfl, (F4.out.less (List.nil_sublist _) (List.nil_sublist _) (List.nil_sublist _) (.refl _)).addNil _⟩
      · skip
        have hds := HDS2.out
        have hdn := Int.ediv_nonneg (show 0 ≤ X by omega) (show 0 ≤ es by omega)
        have hz : plcI X es = OT := by unfold plcI; rw [if_neg hx0, HOUT.out]
        have hout := HOUT.out
        have hO1 : ¬ OT < 1 := by omega
        rw [hz]
        have HG2 : Hid (∀ j, j < k + 1 → 0 ≤ wv.room j) := Lib.hid (fun j hj => by
          by_cases hjk : j < k
          · exact HG.out j hjk
          · obtain rfl : j = k := by omega
            rw [HXE.out]; omega)
        have HKM := Lib.hid (show k ≤ 1000000 by omega)
        clear hds hdn hz hout hx0
        go_wp2_with (first | (at_builtin; refine appendI w.heap.size (.slice ab k cb) k (wv.O.take k) OT _ _ _ rfl rfl rfl (F4.out.r 0 rfl) rfl HKM.out F4.out.hlo ?_; intro v' w8 hown hbel hgr hob; obtain ⟨a8, c8, rfl, _⟩ := own_shape hown; rw [← HOT2.out] at hown; have F8 := Lib.hid (F4.out.wroteO 0 rfl hgr hown (fun g hg => by rcases hob with h | h; exact .inl (h.symm.trans hg); exact .inr (by rw [h] at hg; injection hg with hg; omega))); simp only [List.set_cons_zero, List.set_cons_succ] at F8; clear hown hbel hgr hob F4) | fail)
        go_roundw
        case rel => exact ⟨k + 1, a8, c8, by omega, by go_num, by go_num, HG2, F8⟩
        case measure => simp [intOf]; omega
    · obtain rfl : k = r := by omega
      have hf := HGOOD.out HG.out
      have hsp := HS2.out hf
      obtain rfl := hf
      subst hsp
      have hlk := HLK.out
      have hkn : ¬ (k : Int) < (wv.K.length : Int) := by omega
      have hp1 : wv.O.take k = wv.O := List.take_of_length_le (by rw [HOL.out]; exact Nat.le_refl _)
      rw [hp1] at F3
      have HOL2 := Lib.hid HOL.out
      clear HS1 HS2 HBAD HGOOD hlk HOL
      go_wp2
      go_ret2
      have hol := HOL2.out
      exact ⟨ab, cb, by rw [hol]; rfl, by rw [hol]; exact F3.out.less (List.nil_sublist _) (List.nil_sublist _) (.refl _) (.refl _)⟩
end Go.Proofs.Ytadlnmckcnfacaa
