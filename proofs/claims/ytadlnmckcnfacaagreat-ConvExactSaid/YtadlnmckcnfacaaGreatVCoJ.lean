import Derived.Test.YtadlnmckcnfacaaGreatVCoI
set_option linter.unusedVariables false
set_option linter.unusedSimpArgs false
namespace Go.Proofs.YtadlnmckcnfacaaGreat
open Go.RowKit Go.Rt
attribute [local go_sem] Oper.semAt_some
def IsBo (u : Value) (_ : World) : Prop := ∃ z : Bool, u = .bool z
theorem isBo_carries : Carries IsBo := fun _ _ _ h _ => h
def Light11 (xs ys ws vs I J : List Int) : Prop := (ys.length ≤ 60 ∧ xs.length ≤ 8) ∧ (vs.length ≤ 60 ∧ ws.length ≤ 8) ∧ I.length ≤ 6 ∧ J.length ≤ 6
def LightR11 (xs ys ws vs I J : List Int) (w : World) (e : Ending) (w' : World) : Prop := (∃ B : Bool, e = .returned (.bool B) ∧ (B = false → Light11 xs ys ws vs I J)) ∧ Below w.heap.size w w'
theorem l11_true {xs ys ws vs I J : List Int} {w w' : World} (h : Below w.heap.size w w') : LightR11 xs ys ws vs I J w (.returned (.bool true)) w' := ⟨⟨true, rfl, fun h => by cases h⟩, h⟩
theorem l11_any {xs ys ws vs I J : List Int} {w w' : World} {B : Bool} (hl : Light11 xs ys ws vs I J) (h : Below w.heap.size w w') : LightR11 xs ys ws vs I J w (.returned (.bool B)) w' := ⟨⟨B, rfl, fun _ => hl⟩, h⟩

theorem lw17 {α : Type} {l : List α} (h : l.length = 17) : ∃ x0 x1 x2 x3 x4 x5 x6 x7 x8 x9 x10 x11 x12 x13 x14 x15 x16, l = [x0, x1, x2, x3, x4, x5, x6, x7, x8, x9, x10, x11, x12, x13, x14, x15, x16] := by
 match l, h with
 | [x0, x1, x2, x3, x4, x5, x6, x7, x8, x9, x10, x11, x12, x13, x14, x15, x16], _ => exact ⟨x0, x1, x2, x3, x4, x5, x6, x7, x8, x9, x10, x11, x12, x13, x14, x15, x16, rfl⟩
set_option maxRecDepth 100000 in
set_option maxHeartbeats 8000000 in
theorem heavy11_any (a b a2 b2 aQ aS aP aD aI aJ : Option Addr) (c d c2 dw cQ cS cP cD cI cJ : Nat) (xs ys ws vs Q Sx Px Dx I J : List Int) (f : Int) (w : World) (h0 : Ints .i64 w w.heap.size a xs) (h1 : Ints .i64 w w.heap.size b ys) (h2 : Ints .i64 w w.heap.size a2 ws) (h3 : Ints .i64 w w.heap.size b2 vs) (h4 : Ints .i64 w w.heap.size aQ Q) (h5 : Ints .i64 w w.heap.size aS Sx) (h6 : Ints .i64 w w.heap.size aP Px) (h7 : Ints .i64 w w.heap.size aD Dx) (h8 : Ints .i64 w w.heap.size aI I) (h9 : Ints .i64 w w.heap.size aJ J) (hc3 : ws.length ≤ c2) :
  Calls Tryz.prog 4 #[.agg #[.slice a xs.length c, .slice b ys.length d, .slice a2 ws.length c2, .slice b2 vs.length dw, .slice aQ Q.length cQ, .slice aS Sx.length cS, .slice aP Px.length cP, .slice aD Dx.length cD, .slice aI I.length cI, .slice aJ J.length cJ, .int .i64 f]] w (LightR11 xs ys ws vs I J w) := by
 have hl0 := h0.len
 have hl1 := h1.len
 have hl2 := h2.len
 have hl3 := h3.len
 have hl8 := h8.len
 have hl9 := h9.len
 have hhv := fun W => heavyT_any a b xs.length c ys.length d 60 W hl0 hl1
 have hhw := fun W => heavyT_any a2 b2 ws.length c2 vs.length dw 60 W hl2 hl3
 have HLG := Lib.hid (fun W hK hS hP hD => long_any aQ aS aP aD cQ cS cP cD Q Sx Px Dx W hK hS hP hD)
 have HKN := Lib.hid (fun W h => kernel_any aI cI I W h)
 have HWX := Lib.hid (fun W h0 h1 h2 h3 h4 h5 => wide_any a aI aQ aS aP aD c cI cQ cS cP cD xs I Q Sx Px Dx W h0 h1 h2 h3 h4 h5)
 have HWJ := Lib.hid (fun W h0 h1 h2 h3 h4 h5 => wide_any aJ aI aQ aS aP aD cJ cI cQ cS cP cD J I Q Sx Px Dx W h0 h1 h2 h3 h4 h5)
 have HC3 := Lib.hid hc3
 have F1 := Lib.hid ((Fr.start (w := w) (I := [(.i64, a, xs), (.i64, b, ys), (.i64, a2, ws), (.i64, b2, vs), (.i64, aQ, Q), (.i64, aS, Sx), (.i64, aP, Px), (.i64, aD, Dx), (.i64, aI, I), (.i64, aJ, J)]) (by intro z hz; simp at hz; rcases hz with rfl | rfl | rfl | rfl | rfl | rfl | rfl | rfl | rfl | rfl; exact h0; exact h1; exact h2; exact h3; exact h4; exact h5; exact h6; exact h7; exact h8; exact h9)).box1 (b := w.heap.size) rfl [.slice a xs.length c, .slice b ys.length d, .slice a2 ws.length c2, .slice b2 vs.length dw, .slice aQ Q.length cQ, .slice aS Sx.length cS, .slice aP Px.length cP, .slice aD Dx.length cD, .slice aI I.length cI, .slice aJ J.length cJ, .int .i64 f] 30)
 simp only [List.nil_append] at F1
 clear h0 h1 h2 h3 h4 h5 h6 h7 h8 h9 hc3
 go_enter Tryz.func4, Tryz.ntmps4
 go_upto_region 1 with fail
 obtain ⟨W1, hW1⟩ : ∃ W1, w.alloc (.cells #[.slice a xs.length c, .slice b ys.length d, .slice a2 ws.length c2, .slice b2 vs.length dw, .slice aQ Q.length cQ, .slice aS Sx.length cS, .slice aP Px.length cP, .slice aD Dx.length cD, .slice aI I.length cI, .slice aJ J.length cJ, .int .i64 f] 30) = W1 := ⟨_, rfl⟩
 rw [hW1] at F1 ⊢
 clear hW1
 have c0_0 := F1.out.c 0 0 rfl rfl
 have c0_1 := F1.out.c 0 1 rfl rfl
 have c0_2 := F1.out.c 0 2 rfl rfl
 have c0_3 := F1.out.c 0 3 rfl rfl
 have c0_4 := F1.out.c 0 4 rfl rfl
 have c0_5 := F1.out.c 0 5 rfl rfl
 have c0_6 := F1.out.c 0 6 rfl rfl
 have c0_7 := F1.out.c 0 7 rfl rfl
 have c0_8 := F1.out.c 0 8 rfl rfl
 have c0_9 := F1.out.c 0 9 rfl rfl
 have c0_10 := F1.out.c 0 10 rfl rfl
 cases hv1 : (decide ((60 : Int) < ys.length) || decide (8 < xs.length)) with
 | true =>
  rw [hv1] at hhv
  go_wp2_with (first | (go_at_call 14; refine (hhv _).mono ?_; rintro e w2 ⟨rfl, hb⟩; have F2 := Lib.hid (F1.out.next hb); clear hb F1 c0_0 c0_1 c0_2 c0_3 c0_4 c0_5 c0_6 c0_7 c0_8 c0_9 c0_10; have c0_0 := F2.out.c 0 0 rfl rfl; have c0_1 := F2.out.c 0 1 rfl rfl; have c0_2 := F2.out.c 0 2 rfl rfl; have c0_3 := F2.out.c 0 3 rfl rfl; have c0_4 := F2.out.c 0 4 rfl rfl; have c0_5 := F2.out.c 0 5 rfl rfl; have c0_6 := F2.out.c 0 6 rfl rfl; have c0_7 := F2.out.c 0 7 rfl rfl; have c0_8 := F2.out.c 0 8 rfl rfl; have c0_9 := F2.out.c 0 9 rfl rfl; have c0_10 := F2.out.c 0 10 rfl rfl; clear hhv) | (go_at_call 14; refine (hhw _).mono ?_; rintro e w3 ⟨rfl, hb⟩; have F3 := Lib.hid (F2.out.next hb); clear hb F2 c0_0 c0_1 c0_2 c0_3 c0_4 c0_5 c0_6 c0_7 c0_8 c0_9 c0_10; have c0_0 := F3.out.c 0 0 rfl rfl; have c0_1 := F3.out.c 0 1 rfl rfl; have c0_2 := F3.out.c 0 2 rfl rfl; have c0_3 := F3.out.c 0 3 rfl rfl; have c0_4 := F3.out.c 0 4 rfl rfl; have c0_5 := F3.out.c 0 5 rfl rfl; have c0_6 := F3.out.c 0 6 rfl rfl; have c0_7 := F3.out.c 0 7 rfl rfl; have c0_8 := F3.out.c 0 8 rfl rfl; have c0_9 := F3.out.c 0 9 rfl rfl; have c0_10 := F3.out.c 0 10 rfl rfl) | (go_at_call 15; refine (HLG.out _ (F3.out.lw 4 rfl) (F3.out.lw 5 rfl) (F3.out.lw 6 rfl) (F3.out.lw 7 rfl)).mono ?_; rintro e w4 ⟨rfl, hb⟩; have F4 := Lib.hid (F3.out.next hb); clear hb F3 c0_0 c0_1 c0_2 c0_3 c0_4 c0_5 c0_6 c0_7 c0_8 c0_9 c0_10; have c0_0 := F4.out.c 0 0 rfl rfl; have c0_1 := F4.out.c 0 1 rfl rfl; have c0_2 := F4.out.c 0 2 rfl rfl; have c0_3 := F4.out.c 0 3 rfl rfl; have c0_4 := F4.out.c 0 4 rfl rfl; have c0_5 := F4.out.c 0 5 rfl rfl; have c0_6 := F4.out.c 0 6 rfl rfl; have c0_7 := F4.out.c 0 7 rfl rfl; have c0_8 := F4.out.c 0 8 rfl rfl; have c0_9 := F4.out.c 0 9 rfl rfl; have c0_10 := F4.out.c 0 10 rfl rfl) | fail)
  go_ret
  exact l11_true F2.out.bel
 | false =>
  rw [hv1] at hhv
  have HA := Lib.hid (show ys.length ≤ 60 ∧ xs.length ≤ 8 by simp only [Bool.or_eq_false_iff, decide_eq_false_iff_not] at hv1; omega)
  clear hv1
  cases hv2 : (decide ((60 : Int) < vs.length) || decide (8 < ws.length)) with
  | true =>
   rw [hv2] at hhw
   go_wp2_with (first | (go_at_call 14; refine (hhv _).mono ?_; rintro e w2 ⟨rfl, hb⟩; have F2 := Lib.hid (F1.out.next hb); clear hb F1 c0_0 c0_1 c0_2 c0_3 c0_4 c0_5 c0_6 c0_7 c0_8 c0_9 c0_10; have c0_0 := F2.out.c 0 0 rfl rfl; have c0_1 := F2.out.c 0 1 rfl rfl; have c0_2 := F2.out.c 0 2 rfl rfl; have c0_3 := F2.out.c 0 3 rfl rfl; have c0_4 := F2.out.c 0 4 rfl rfl; have c0_5 := F2.out.c 0 5 rfl rfl; have c0_6 := F2.out.c 0 6 rfl rfl; have c0_7 := F2.out.c 0 7 rfl rfl; have c0_8 := F2.out.c 0 8 rfl rfl; have c0_9 := F2.out.c 0 9 rfl rfl; have c0_10 := F2.out.c 0 10 rfl rfl; clear hhv) | (go_at_call 14; refine (hhw _).mono ?_; rintro e w3 ⟨rfl, hb⟩; have F3 := Lib.hid (F2.out.next hb); clear hb F2 c0_0 c0_1 c0_2 c0_3 c0_4 c0_5 c0_6 c0_7 c0_8 c0_9 c0_10; have c0_0 := F3.out.c 0 0 rfl rfl; have c0_1 := F3.out.c 0 1 rfl rfl; have c0_2 := F3.out.c 0 2 rfl rfl; have c0_3 := F3.out.c 0 3 rfl rfl; have c0_4 := F3.out.c 0 4 rfl rfl; have c0_5 := F3.out.c 0 5 rfl rfl; have c0_6 := F3.out.c 0 6 rfl rfl; have c0_7 := F3.out.c 0 7 rfl rfl; have c0_8 := F3.out.c 0 8 rfl rfl; have c0_9 := F3.out.c 0 9 rfl rfl; have c0_10 := F3.out.c 0 10 rfl rfl) | (go_at_call 15; refine (HLG.out _ (F3.out.lw 4 rfl) (F3.out.lw 5 rfl) (F3.out.lw 6 rfl) (F3.out.lw 7 rfl)).mono ?_; rintro e w4 ⟨rfl, hb⟩; have F4 := Lib.hid (F3.out.next hb); clear hb F3 c0_0 c0_1 c0_2 c0_3 c0_4 c0_5 c0_6 c0_7 c0_8 c0_9 c0_10; have c0_0 := F4.out.c 0 0 rfl rfl; have c0_1 := F4.out.c 0 1 rfl rfl; have c0_2 := F4.out.c 0 2 rfl rfl; have c0_3 := F4.out.c 0 3 rfl rfl; have c0_4 := F4.out.c 0 4 rfl rfl; have c0_5 := F4.out.c 0 5 rfl rfl; have c0_6 := F4.out.c 0 6 rfl rfl; have c0_7 := F4.out.c 0 7 rfl rfl; have c0_8 := F4.out.c 0 8 rfl rfl; have c0_9 := F4.out.c 0 9 rfl rfl; have c0_10 := F4.out.c 0 10 rfl rfl) | fail)
   go_ret
   exact l11_true F3.out.bel
  | false =>
   rw [hv2] at hhw
   have HB := Lib.hid (show vs.length ≤ 60 ∧ ws.length ≤ 8 by simp only [Bool.or_eq_false_iff, decide_eq_false_iff_not] at hv2; omega)
   clear hv2
   have hlg := HLG.out
   clear HLG
   cases hv3 : longB Q Sx Px Dx with
   | true =>
    rw [hv3] at hlg
    have HLG := Lib.hid hlg
    clear hlg hv3
    go_wp2_with (first | (go_at_call 14; refine (hhv _).mono ?_; rintro e w2 ⟨rfl, hb⟩; have F2 := Lib.hid (F1.out.next hb); clear hb F1 c0_0 c0_1 c0_2 c0_3 c0_4 c0_5 c0_6 c0_7 c0_8 c0_9 c0_10; have c0_0 := F2.out.c 0 0 rfl rfl; have c0_1 := F2.out.c 0 1 rfl rfl; have c0_2 := F2.out.c 0 2 rfl rfl; have c0_3 := F2.out.c 0 3 rfl rfl; have c0_4 := F2.out.c 0 4 rfl rfl; have c0_5 := F2.out.c 0 5 rfl rfl; have c0_6 := F2.out.c 0 6 rfl rfl; have c0_7 := F2.out.c 0 7 rfl rfl; have c0_8 := F2.out.c 0 8 rfl rfl; have c0_9 := F2.out.c 0 9 rfl rfl; have c0_10 := F2.out.c 0 10 rfl rfl; clear hhv) | (go_at_call 14; refine (hhw _).mono ?_; rintro e w3 ⟨rfl, hb⟩; have F3 := Lib.hid (F2.out.next hb); clear hb F2 c0_0 c0_1 c0_2 c0_3 c0_4 c0_5 c0_6 c0_7 c0_8 c0_9 c0_10; have c0_0 := F3.out.c 0 0 rfl rfl; have c0_1 := F3.out.c 0 1 rfl rfl; have c0_2 := F3.out.c 0 2 rfl rfl; have c0_3 := F3.out.c 0 3 rfl rfl; have c0_4 := F3.out.c 0 4 rfl rfl; have c0_5 := F3.out.c 0 5 rfl rfl; have c0_6 := F3.out.c 0 6 rfl rfl; have c0_7 := F3.out.c 0 7 rfl rfl; have c0_8 := F3.out.c 0 8 rfl rfl; have c0_9 := F3.out.c 0 9 rfl rfl; have c0_10 := F3.out.c 0 10 rfl rfl) | (go_at_call 15; refine (HLG.out _ (F3.out.lw 4 rfl) (F3.out.lw 5 rfl) (F3.out.lw 6 rfl) (F3.out.lw 7 rfl)).mono ?_; rintro e w4 ⟨rfl, hb⟩; have F4 := Lib.hid (F3.out.next hb); clear hb F3 c0_0 c0_1 c0_2 c0_3 c0_4 c0_5 c0_6 c0_7 c0_8 c0_9 c0_10; have c0_0 := F4.out.c 0 0 rfl rfl; have c0_1 := F4.out.c 0 1 rfl rfl; have c0_2 := F4.out.c 0 2 rfl rfl; have c0_3 := F4.out.c 0 3 rfl rfl; have c0_4 := F4.out.c 0 4 rfl rfl; have c0_5 := F4.out.c 0 5 rfl rfl; have c0_6 := F4.out.c 0 6 rfl rfl; have c0_7 := F4.out.c 0 7 rfl rfl; have c0_8 := F4.out.c 0 8 rfl rfl; have c0_9 := F4.out.c 0 9 rfl rfl; have c0_10 := F4.out.c 0 10 rfl rfl) | fail)
    go_ret
    exact l11_true F4.out.bel
   | false =>
    rw [hv3] at hlg
    have HLG := Lib.hid hlg
    clear hlg hv3
    by_cases hI6 : (6 : Int) < I.length
    ·skip
     go_wp2_with (first | (go_at_call 14; refine (hhv _).mono ?_; rintro e w2 ⟨rfl, hb⟩; have F2 := Lib.hid (F1.out.next hb); clear hb F1 c0_0 c0_1 c0_2 c0_3 c0_4 c0_5 c0_6 c0_7 c0_8 c0_9 c0_10; have c0_0 := F2.out.c 0 0 rfl rfl; have c0_1 := F2.out.c 0 1 rfl rfl; have c0_2 := F2.out.c 0 2 rfl rfl; have c0_3 := F2.out.c 0 3 rfl rfl; have c0_4 := F2.out.c 0 4 rfl rfl; have c0_5 := F2.out.c 0 5 rfl rfl; have c0_6 := F2.out.c 0 6 rfl rfl; have c0_7 := F2.out.c 0 7 rfl rfl; have c0_8 := F2.out.c 0 8 rfl rfl; have c0_9 := F2.out.c 0 9 rfl rfl; have c0_10 := F2.out.c 0 10 rfl rfl; clear hhv) | (go_at_call 14; refine (hhw _).mono ?_; rintro e w3 ⟨rfl, hb⟩; have F3 := Lib.hid (F2.out.next hb); clear hb F2 c0_0 c0_1 c0_2 c0_3 c0_4 c0_5 c0_6 c0_7 c0_8 c0_9 c0_10; have c0_0 := F3.out.c 0 0 rfl rfl; have c0_1 := F3.out.c 0 1 rfl rfl; have c0_2 := F3.out.c 0 2 rfl rfl; have c0_3 := F3.out.c 0 3 rfl rfl; have c0_4 := F3.out.c 0 4 rfl rfl; have c0_5 := F3.out.c 0 5 rfl rfl; have c0_6 := F3.out.c 0 6 rfl rfl; have c0_7 := F3.out.c 0 7 rfl rfl; have c0_8 := F3.out.c 0 8 rfl rfl; have c0_9 := F3.out.c 0 9 rfl rfl; have c0_10 := F3.out.c 0 10 rfl rfl) | (go_at_call 15; refine (HLG.out _ (F3.out.lw 4 rfl) (F3.out.lw 5 rfl) (F3.out.lw 6 rfl) (F3.out.lw 7 rfl)).mono ?_; rintro e w4 ⟨rfl, hb⟩; have F4 := Lib.hid (F3.out.next hb); clear hb F3 c0_0 c0_1 c0_2 c0_3 c0_4 c0_5 c0_6 c0_7 c0_8 c0_9 c0_10; have c0_0 := F4.out.c 0 0 rfl rfl; have c0_1 := F4.out.c 0 1 rfl rfl; have c0_2 := F4.out.c 0 2 rfl rfl; have c0_3 := F4.out.c 0 3 rfl rfl; have c0_4 := F4.out.c 0 4 rfl rfl; have c0_5 := F4.out.c 0 5 rfl rfl; have c0_6 := F4.out.c 0 6 rfl rfl; have c0_7 := F4.out.c 0 7 rfl rfl; have c0_8 := F4.out.c 0 8 rfl rfl; have c0_9 := F4.out.c 0 9 rfl rfl; have c0_10 := F4.out.c 0 10 rfl rfl) | fail)
     go_ret
     exact l11_true F4.out.bel
    by_cases hJ6 : (6 : Int) < J.length
    ·skip
     go_wp2_with (first | (go_at_call 14; refine (hhv _).mono ?_; rintro e w2 ⟨rfl, hb⟩; have F2 := Lib.hid (F1.out.next hb); clear hb F1 c0_0 c0_1 c0_2 c0_3 c0_4 c0_5 c0_6 c0_7 c0_8 c0_9 c0_10; have c0_0 := F2.out.c 0 0 rfl rfl; have c0_1 := F2.out.c 0 1 rfl rfl; have c0_2 := F2.out.c 0 2 rfl rfl; have c0_3 := F2.out.c 0 3 rfl rfl; have c0_4 := F2.out.c 0 4 rfl rfl; have c0_5 := F2.out.c 0 5 rfl rfl; have c0_6 := F2.out.c 0 6 rfl rfl; have c0_7 := F2.out.c 0 7 rfl rfl; have c0_8 := F2.out.c 0 8 rfl rfl; have c0_9 := F2.out.c 0 9 rfl rfl; have c0_10 := F2.out.c 0 10 rfl rfl; clear hhv) | (go_at_call 14; refine (hhw _).mono ?_; rintro e w3 ⟨rfl, hb⟩; have F3 := Lib.hid (F2.out.next hb); clear hb F2 c0_0 c0_1 c0_2 c0_3 c0_4 c0_5 c0_6 c0_7 c0_8 c0_9 c0_10; have c0_0 := F3.out.c 0 0 rfl rfl; have c0_1 := F3.out.c 0 1 rfl rfl; have c0_2 := F3.out.c 0 2 rfl rfl; have c0_3 := F3.out.c 0 3 rfl rfl; have c0_4 := F3.out.c 0 4 rfl rfl; have c0_5 := F3.out.c 0 5 rfl rfl; have c0_6 := F3.out.c 0 6 rfl rfl; have c0_7 := F3.out.c 0 7 rfl rfl; have c0_8 := F3.out.c 0 8 rfl rfl; have c0_9 := F3.out.c 0 9 rfl rfl; have c0_10 := F3.out.c 0 10 rfl rfl) | (go_at_call 15; refine (HLG.out _ (F3.out.lw 4 rfl) (F3.out.lw 5 rfl) (F3.out.lw 6 rfl) (F3.out.lw 7 rfl)).mono ?_; rintro e w4 ⟨rfl, hb⟩; have F4 := Lib.hid (F3.out.next hb); clear hb F3 c0_0 c0_1 c0_2 c0_3 c0_4 c0_5 c0_6 c0_7 c0_8 c0_9 c0_10; have c0_0 := F4.out.c 0 0 rfl rfl; have c0_1 := F4.out.c 0 1 rfl rfl; have c0_2 := F4.out.c 0 2 rfl rfl; have c0_3 := F4.out.c 0 3 rfl rfl; have c0_4 := F4.out.c 0 4 rfl rfl; have c0_5 := F4.out.c 0 5 rfl rfl; have c0_6 := F4.out.c 0 6 rfl rfl; have c0_7 := F4.out.c 0 7 rfl rfl; have c0_8 := F4.out.c 0 8 rfl rfl; have c0_9 := F4.out.c 0 9 rfl rfl; have c0_10 := F4.out.c 0 10 rfl rfl) | fail)
     go_ret
     exact l11_true F4.out.bel
    have HL := Lib.hid (show Light11 xs ys ws vs I J from ⟨HA.out, HB.out, by omega, by omega⟩)
    clear HA HB
    go_upto_region 3 with (first | (go_at_call 14; refine (hhv _).mono ?_; rintro e w2 ⟨rfl, hb⟩; have F2 := Lib.hid (F1.out.next hb); clear hb F1 c0_0 c0_1 c0_2 c0_3 c0_4 c0_5 c0_6 c0_7 c0_8 c0_9 c0_10; have c0_0 := F2.out.c 0 0 rfl rfl; have c0_1 := F2.out.c 0 1 rfl rfl; have c0_2 := F2.out.c 0 2 rfl rfl; have c0_3 := F2.out.c 0 3 rfl rfl; have c0_4 := F2.out.c 0 4 rfl rfl; have c0_5 := F2.out.c 0 5 rfl rfl; have c0_6 := F2.out.c 0 6 rfl rfl; have c0_7 := F2.out.c 0 7 rfl rfl; have c0_8 := F2.out.c 0 8 rfl rfl; have c0_9 := F2.out.c 0 9 rfl rfl; have c0_10 := F2.out.c 0 10 rfl rfl; clear hhv) | (go_at_call 14; refine (hhw _).mono ?_; rintro e w3 ⟨rfl, hb⟩; have F3 := Lib.hid (F2.out.next hb); clear hb F2 c0_0 c0_1 c0_2 c0_3 c0_4 c0_5 c0_6 c0_7 c0_8 c0_9 c0_10; have c0_0 := F3.out.c 0 0 rfl rfl; have c0_1 := F3.out.c 0 1 rfl rfl; have c0_2 := F3.out.c 0 2 rfl rfl; have c0_3 := F3.out.c 0 3 rfl rfl; have c0_4 := F3.out.c 0 4 rfl rfl; have c0_5 := F3.out.c 0 5 rfl rfl; have c0_6 := F3.out.c 0 6 rfl rfl; have c0_7 := F3.out.c 0 7 rfl rfl; have c0_8 := F3.out.c 0 8 rfl rfl; have c0_9 := F3.out.c 0 9 rfl rfl; have c0_10 := F3.out.c 0 10 rfl rfl) | (go_at_call 15; refine (HLG.out _ (F3.out.lw 4 rfl) (F3.out.lw 5 rfl) (F3.out.lw 6 rfl) (F3.out.lw 7 rfl)).mono ?_; rintro e w4 ⟨rfl, hb⟩; have F4 := Lib.hid (F3.out.next hb); clear hb F3 c0_0 c0_1 c0_2 c0_3 c0_4 c0_5 c0_6 c0_7 c0_8 c0_9 c0_10; have c0_0 := F4.out.c 0 0 rfl rfl; have c0_1 := F4.out.c 0 1 rfl rfl; have c0_2 := F4.out.c 0 2 rfl rfl; have c0_3 := F4.out.c 0 3 rfl rfl; have c0_4 := F4.out.c 0 4 rfl rfl; have c0_5 := F4.out.c 0 5 rfl rfl; have c0_6 := F4.out.c 0 6 rfl rfl; have c0_7 := F4.out.c 0 7 rfl rfl; have c0_8 := F4.out.c 0 8 rfl rfl; have c0_9 := F4.out.c 0 9 rfl rfl; have c0_10 := F4.out.c 0 10 rfl rfl) | fail)
    clear hhw HLG hI6 hJ6 hl0 hl1 hl2 hl3 hl8 hl9
    by_cases hw2 : (2 : Int) < ws.length
    ·skip
     have HW2 := Lib.hid hw2
     have hw2n : 0 < ws.length := by omega
     obtain ⟨g2, o2, rfl, _, _⟩ := (F4.out.l 2 rfl).cell 0 hw2n
     clear hw2n
     obtain ⟨kq, hkq⟩ : ∃ l, ws.drop 2 = l := ⟨_, rfl⟩
     have HE3 := Lib.hid (show ws.length - 2 = kq.length by rw [← hkq, List.length_drop])
     have HGW := Lib.hid (show (2 : Int) ≤ (ws.length : Int) ∧ (ws.length : Int) ≤ (c2 : Int) ∧ ¬ c2 = 2 by have := HC3.out; omega)
     have HWK := Lib.hid (fun W h0 (h1 : Ints .i64 W W.heap.size (some ⟨g2, o2, none⟩) ws) h2 h3 h4 h5 => wide_any a (some ⟨g2, o2 + 2, none⟩) aQ aS aP aD c (c2 - 2) cQ cS cP cD xs kq Q Sx Px Dx W h0 (by rw [← hkq]; exact ints_drop h1 2) h2 h3 h4 h5)
     clear hkq
     refine wp_region_parts2 (w := w4) 17 0 none [] [(fun u _ => u = .pointer (some ⟨w.heap.size, 2, none⟩)), (fun u _ => u = .pointer (some ⟨w.heap.size, 2, none⟩)), (fun u _ => u = .slice (some ⟨g2, o2, none⟩) ws.length c2), (fun u _ => u = .int .i64 (ws.length : Int)), (fun u _ => u = .bool true), (fun u _ => u = .bool true), (fun u _ => u = .pointer (some ⟨w.heap.size, 0, none⟩)), (fun u _ => u = .pointer (some ⟨w.heap.size, 0, none⟩)), (fun u _ => u = .slice a xs.length c), (fun u _ => u = .pointer (some ⟨w.heap.size, 2, none⟩)), (fun u _ => u = .pointer (some ⟨w.heap.size, 2, none⟩)), (fun u _ => u = .slice (some ⟨g2, o2, none⟩) ws.length c2), (fun u _ => u = .slice (some ⟨g2, o2 + 2, none⟩) kq.length (c2 - 2)), (fun u _ => u = .pointer (some ⟨w.heap.size, 4, none⟩)), (fun u _ => u = .agg #[.slice aQ Q.length cQ, .slice aS Sx.length cS, .slice aP Px.length cP, .slice aD Dx.length cD]), (IsBo), (IsBo)] [some 28, some 29, some 30, some 31, some 32, some 33, some 34, some 35, some 36, some 37, some 38, some 39, some 40, some 41, some 42, some 43, some 44] #[true, true, true, true, true, true, true, true, true, true, true, true, true, true, true, true, true] #[true, true, true, true, true, true, true, true, true, true, true, true, true, true, true, true, true] (by kernel_rfl) rfl (by kernel_rfl) (by kernel_rfl) rfl (by kernel_rfl) (by kernel_rfl) (.cons (carries_eq _) (.cons (carries_eq _) (.cons (carries_eq _) (.cons (carries_eq _) (.cons (carries_eq _) (.cons (carries_eq _) (.cons (carries_eq _) (.cons (carries_eq _) (.cons (carries_eq _) (.cons (carries_eq _) (.cons (carries_eq _) (.cons (carries_eq _) (.cons (carries_eq _) (.cons (carries_eq _) (.cons (carries_eq _) (.cons (isBo_carries) (.cons (isBo_carries) .nil))))))))))))))))) (fun vs b hvl hvb => ?_)
     obtain ⟨x0, x1, x2, x3, x4, x5, x6, x7, x8, x9, x10, x11, x12, x13, x14, x15, x16, rfl⟩ : ∃ x0 x1 x2 x3 x4 x5 x6 x7 x8 x9 x10 x11 x12 x13 x14 x15 x16, vs = [x0, x1, x2, x3, x4, x5, x6, x7, x8, x9, x10, x11, x12, x13, x14, x15, x16] := lw17 hvl
     clear hvl
     simp only [putAll, Act.put, List.setIfInBounds_toArray, List.set_cons_zero, List.set_cons_succ] at hvb
     subst hvb
     refine ⟨(.snoc (.snoc (.snoc (.snoc (.snoc (.snoc (.snoc (.snoc (.snoc (.snoc (.snoc (.snoc (.snoc (.snoc (.snoc (.snoc (.snoc .zero (PartOb.intro (d := (some 28)) (r := fun u _ => u = .pointer (some ⟨w.heap.size, 2, none⟩)) rfl rfl rfl rfl ?po3x0)) (PartOb.intro (d := (some 29)) (r := fun u _ => u = .pointer (some ⟨w.heap.size, 2, none⟩)) rfl rfl rfl rfl ?po3x1)) (PartOb.intro (d := (some 30)) (r := fun u _ => u = .slice (some ⟨g2, o2, none⟩) ws.length c2) rfl rfl rfl rfl ?po3x2)) (PartOb.intro (d := (some 31)) (r := fun u _ => u = .int .i64 (ws.length : Int)) rfl rfl rfl rfl ?po3x3)) (PartOb.intro (d := (some 32)) (r := fun u _ => u = .bool true) rfl rfl rfl rfl ?po3x4)) (PartOb.intro (d := (some 33)) (r := fun u _ => u = .bool true) rfl rfl rfl rfl ?po3x5)) (PartOb.intro (d := (some 34)) (r := fun u _ => u = .pointer (some ⟨w.heap.size, 0, none⟩)) rfl rfl rfl rfl ?po3x6)) (PartOb.intro (d := (some 35)) (r := fun u _ => u = .pointer (some ⟨w.heap.size, 0, none⟩)) rfl rfl rfl rfl ?po3x7)) (PartOb.intro (d := (some 36)) (r := fun u _ => u = .slice a xs.length c) rfl rfl rfl rfl ?po3x8)) (PartOb.intro (d := (some 37)) (r := fun u _ => u = .pointer (some ⟨w.heap.size, 2, none⟩)) rfl rfl rfl rfl ?po3x9)) (PartOb.intro (d := (some 38)) (r := fun u _ => u = .pointer (some ⟨w.heap.size, 2, none⟩)) rfl rfl rfl rfl ?po3x10)) (PartOb.intro (d := (some 39)) (r := fun u _ => u = .slice (some ⟨g2, o2, none⟩) ws.length c2) rfl rfl rfl rfl ?po3x11)) (PartOb.intro (d := (some 40)) (r := fun u _ => u = .slice (some ⟨g2, o2 + 2, none⟩) kq.length (c2 - 2)) rfl rfl rfl rfl ?po3x12)) (PartOb.intro (d := (some 41)) (r := fun u _ => u = .pointer (some ⟨w.heap.size, 4, none⟩)) rfl rfl rfl rfl ?po3x13)) (PartOb.intro (d := (some 42)) (r := fun u _ => u = .agg #[.slice aQ Q.length cQ, .slice aS Sx.length cS, .slice aP Px.length cP, .slice aD Dx.length cD]) rfl rfl rfl rfl ?po3x14)) (PartOb.intro (d := (some 43)) (r := IsBo) rfl rfl rfl rfl ?po3x15)) (PartOb.intro (d := (some 44)) (r := IsBo) rfl rfl rfl rfl ?po3x16)), ?pend3, ?pfl3⟩
     case po3x0 =>
      intro w1 hb1 hd KK hK
      go_simp
      exact hK.out _ _ (Below.refl _ _) rfl
     case po3x1 =>
      intro w1 hb1 hd KK hK
      obtain rfl := hd 0 (by kernel_rfl)
      go_simp
      exact hK.out _ _ (Below.refl _ _) rfl
     case po3x2 =>
      intro w1 hb1 hd KK hK
      obtain rfl := hd 1 (by kernel_rfl)
      have hF := F4.out.next hb1
      have k2 := hF.c 0 2 rfl rfl
      go_simp
      exact hK.out _ _ (Below.refl _ _) rfl
     case po3x3 =>
      intro w1 hb1 hd KK hK
      obtain rfl := hd 2 (by kernel_rfl)
      go_simp
      exact hK.out _ _ (Below.refl _ _) rfl
     case po3x4 =>
      intro w1 hb1 hd KK hK
      obtain rfl := hd 3 (by kernel_rfl)
      have hw2 := HW2.out
      go_simp
      exact hK.out _ _ (Below.refl _ _) rfl
     case po3x5 =>
      intro w1 hb1 hd KK hK
      obtain rfl := hd 4 (by kernel_rfl)
      go_simp
      exact hK.out _ _ (Below.refl _ _) rfl
     case po3x6 | po3x9 | po3x13 =>
      intro w1 hb1 hd KK hK
      obtain rfl := hd 5 (by kernel_rfl)
      go_simp
      exact hK.out _ _ (Below.refl _ _) rfl
     case po3x7 =>
      intro w1 hb1 hd KK hK
      obtain rfl := hd 5 (by kernel_rfl)
      obtain rfl := hd 6 (by kernel_rfl)
      go_simp
      exact hK.out _ _ (Below.refl _ _) rfl
     case po3x8 =>
      intro w1 hb1 hd KK hK
      obtain rfl := hd 5 (by kernel_rfl)
      obtain rfl := hd 7 (by kernel_rfl)
      have hF := F4.out.next hb1
      have k0 := hF.c 0 0 rfl rfl
      go_simp
      exact hK.out _ _ (Below.refl _ _) rfl
     case po3x10 =>
      intro w1 hb1 hd KK hK
      obtain rfl := hd 5 (by kernel_rfl)
      obtain rfl := hd 9 (by kernel_rfl)
      go_simp
      exact hK.out _ _ (Below.refl _ _) rfl
     case po3x11 =>
      intro w1 hb1 hd KK hK
      obtain rfl := hd 5 (by kernel_rfl)
      obtain rfl := hd 10 (by kernel_rfl)
      have hF := F4.out.next hb1
      have k2 := hF.c 0 2 rfl rfl
      go_simp
      exact hK.out _ _ (Below.refl _ _) rfl
     case po3x12 =>
      intro w1 hb1 hd KK hK
      obtain rfl := hd 5 (by kernel_rfl)
      obtain rfl := hd 11 (by kernel_rfl)
      have hxx := HE3.out
      obtain ⟨g1, g2_, g3⟩ := HGW.out
      go_simp
      exact hK.out _ _ (Below.refl _ _) rfl
     case po3x14 =>
      intro w1 hb1 hd KK hK
      obtain rfl := hd 5 (by kernel_rfl)
      obtain rfl := hd 13 (by kernel_rfl)
      have hF := F4.out.next hb1
      have k4 := hF.c 0 4 rfl rfl
      have k5 := hF.c 0 5 rfl rfl
      have k6 := hF.c 0 6 rfl rfl
      have k7 := hF.c 0 7 rfl rfl
      go_simp
      exact hK.out _ _ (Below.refl _ _) rfl
     case po3x15 =>
      intro w1 hb1 hd KK hK
      obtain rfl := hd 5 (by kernel_rfl)
      obtain rfl := hd 8 (by kernel_rfl)
      obtain rfl := hd 12 (by kernel_rfl)
      obtain rfl := hd 14 (by kernel_rfl)
      go_simp
      have hF := F4.out.next hb1
      go_at_call 16
      refine (HWK.out w1 (hF.lw 0 rfl) (hF.lw 2 rfl) (hF.lw 4 rfl) (hF.lw 5 rfl) (hF.lw 6 rfl) (hF.lw 7 rfl)).mono ?_
      rintro e w6 ⟨⟨z, rfl⟩, hb6⟩
      (try go_wp2_with fail)
      exact hK.out _ _ hb6 ⟨_, rfl⟩
     case po3x16 =>
      intro w1 hb1 hd KK hK
      obtain rfl := hd 5 (by kernel_rfl)
      obtain ⟨z15, rfl⟩ := hd 15 (by kernel_rfl)
      go_simp
      exact hK.out _ _ (Below.refl _ _) ⟨_, rfl⟩
     case pfl3 => (intro f hf; cases hf)
     case pend3 =>
     intro w1 hb1 hR hD
     obtain rfl := hR 0 (by decide)
     obtain rfl := hR 1 (by decide)
     obtain rfl := hR 2 (by decide)
     obtain rfl := hR 3 (by decide)
     obtain rfl := hR 4 (by decide)
     obtain rfl := hR 5 (by decide)
     obtain rfl := hR 6 (by decide)
     obtain rfl := hR 7 (by decide)
     obtain rfl := hR 8 (by decide)
     obtain rfl := hR 9 (by decide)
     obtain rfl := hR 10 (by decide)
     obtain rfl := hR 11 (by decide)
     obtain rfl := hR 12 (by decide)
     obtain rfl := hR 13 (by decide)
     obtain rfl := hR 14 (by decide)
     obtain ⟨z15, rfl⟩ := hR 15 (by decide)
     obtain ⟨z16, rfl⟩ := hR 16 (by decide)
     clear hR hD
     refine wpAny_done (by kernel_rfl) ?_ _
     have F5 := Lib.hid (F4.out.next hb1)
     clear hb1 F4 HWK HE3 HGW HW2 hw2 c0_0 c0_1 c0_2 c0_3 c0_4 c0_5 c0_6 c0_7 c0_8 c0_9 c0_10
     obtain ⟨W5, rfl⟩ : ∃ x : World, x = w1 := ⟨_, rfl⟩
     have c0_0 := F5.out.c 0 0 rfl rfl
     have c0_1 := F5.out.c 0 1 rfl rfl
     have c0_2 := F5.out.c 0 2 rfl rfl
     have c0_3 := F5.out.c 0 3 rfl rfl
     have c0_4 := F5.out.c 0 4 rfl rfl
     have c0_5 := F5.out.c 0 5 rfl rfl
     have c0_6 := F5.out.c 0 6 rfl rfl
     have c0_7 := F5.out.c 0 7 rfl rfl
     have c0_8 := F5.out.c 0 8 rfl rfl
     have c0_9 := F5.out.c 0 9 rfl rfl
     have c0_10 := F5.out.c 0 10 rfl rfl
     cases z16 with
     | true =>
      go_wp2
      go_ret
      exact l11_true F5.out.bel
     | false =>
      go_upto_region 5 with fail
      have hkn := HKN.out
      clear HKN
      cases hkB : I.all (okI 1) with
      | false =>
       rw [hkB] at hkn
       have HKN := Lib.hid hkn
       clear hkn hkB
       go_wp2_with (first | (go_at_call 17; refine (HKN.out _ (F5.out.lw 8 rfl)).mono ?_; rintro e w6 ⟨rfl, rfl⟩; skip) | fail)
       go_ret
       exact l11_any HL.out F5.out.bel
      | true =>
       rw [hkB] at hkn
       have HKN := Lib.hid hkn
       clear hkn hkB
       go_wp2_with (first | (go_at_call 17; refine (HKN.out _ (F5.out.lw 8 rfl)).mono ?_; rintro e w6 ⟨rfl, rfl⟩; skip) | (go_at_call 16; refine (HWX.out _ (F5.out.lw 0 rfl) (F5.out.lw 8 rfl) (F5.out.lw 4 rfl) (F5.out.lw 5 rfl) (F5.out.lw 6 rfl) (F5.out.lw 7 rfl)).mono ?_; rintro e w7 ⟨⟨B1, rfl⟩, hb⟩; have F7 := Lib.hid (F5.out.next hb); clear hb F5 c0_0 c0_1 c0_2 c0_3 c0_4 c0_5 c0_6 c0_7 c0_8 c0_9 c0_10; have c0_0 := F7.out.c 0 0 rfl rfl; have c0_1 := F7.out.c 0 1 rfl rfl; have c0_2 := F7.out.c 0 2 rfl rfl; have c0_3 := F7.out.c 0 3 rfl rfl; have c0_4 := F7.out.c 0 4 rfl rfl; have c0_5 := F7.out.c 0 5 rfl rfl; have c0_6 := F7.out.c 0 6 rfl rfl; have c0_7 := F7.out.c 0 7 rfl rfl; have c0_8 := F7.out.c 0 8 rfl rfl; have c0_9 := F7.out.c 0 9 rfl rfl; have c0_10 := F7.out.c 0 10 rfl rfl; cases B1) | (go_at_call 16; refine (HWJ.out _ (F7.out.lw 9 rfl) (F7.out.lw 8 rfl) (F7.out.lw 4 rfl) (F7.out.lw 5 rfl) (F7.out.lw 6 rfl) (F7.out.lw 7 rfl)).mono ?_; rintro e w8 ⟨⟨B2, rfl⟩, hb⟩; have F8 := Lib.hid (F7.out.next hb); clear hb F7 c0_0 c0_1 c0_2 c0_3 c0_4 c0_5 c0_6 c0_7 c0_8 c0_9 c0_10; have c0_0 := F8.out.c 0 0 rfl rfl; have c0_1 := F8.out.c 0 1 rfl rfl; have c0_2 := F8.out.c 0 2 rfl rfl; have c0_3 := F8.out.c 0 3 rfl rfl; have c0_4 := F8.out.c 0 4 rfl rfl; have c0_5 := F8.out.c 0 5 rfl rfl; have c0_6 := F8.out.c 0 6 rfl rfl; have c0_7 := F8.out.c 0 7 rfl rfl; have c0_8 := F8.out.c 0 8 rfl rfl; have c0_9 := F8.out.c 0 9 rfl rfl; have c0_10 := F8.out.c 0 10 rfl rfl) | fail)
       all_goals (first | (go_ret; exact l11_any HL.out F8.out.bel) | (go_ret; exact l11_any HL.out F7.out.bel))
    ·skip
     go_quiet (fail)
     go_upto_region 5 with fail
     have F5 := Lib.hid (F4.out.drewN nq)
     obtain ⟨W5, hW5⟩ : ∃ x, w4.drewN nq = x := ⟨_, rfl⟩
     rw [hW5] at F5 ⊢
     clear hW5 F4
     clear c0_0 c0_1 c0_2 c0_3 c0_4 c0_5 c0_6 c0_7 c0_8 c0_9 c0_10
     have c0_0 := F5.out.c 0 0 rfl rfl
     have c0_1 := F5.out.c 0 1 rfl rfl
     have c0_2 := F5.out.c 0 2 rfl rfl
     have c0_3 := F5.out.c 0 3 rfl rfl
     have c0_4 := F5.out.c 0 4 rfl rfl
     have c0_5 := F5.out.c 0 5 rfl rfl
     have c0_6 := F5.out.c 0 6 rfl rfl
     have c0_7 := F5.out.c 0 7 rfl rfl
     have c0_8 := F5.out.c 0 8 rfl rfl
     have c0_9 := F5.out.c 0 9 rfl rfl
     have c0_10 := F5.out.c 0 10 rfl rfl
     have hkn := HKN.out
     clear HKN
     cases hkB : I.all (okI 1) with
     | false =>
      rw [hkB] at hkn
      have HKN := Lib.hid hkn
      clear hkn hkB
      go_wp2_with (first | (go_at_call 17; refine (HKN.out _ (F5.out.lw 8 rfl)).mono ?_; rintro e w6 ⟨rfl, rfl⟩; skip) | fail)
      go_ret
      exact l11_any HL.out F5.out.bel
     | true =>
      rw [hkB] at hkn
      have HKN := Lib.hid hkn
      clear hkn hkB
      go_wp2_with (first | (go_at_call 17; refine (HKN.out _ (F5.out.lw 8 rfl)).mono ?_; rintro e w6 ⟨rfl, rfl⟩; skip) | (go_at_call 16; refine (HWX.out _ (F5.out.lw 0 rfl) (F5.out.lw 8 rfl) (F5.out.lw 4 rfl) (F5.out.lw 5 rfl) (F5.out.lw 6 rfl) (F5.out.lw 7 rfl)).mono ?_; rintro e w7 ⟨⟨B1, rfl⟩, hb⟩; have F7 := Lib.hid (F5.out.next hb); clear hb F5 c0_0 c0_1 c0_2 c0_3 c0_4 c0_5 c0_6 c0_7 c0_8 c0_9 c0_10; have c0_0 := F7.out.c 0 0 rfl rfl; have c0_1 := F7.out.c 0 1 rfl rfl; have c0_2 := F7.out.c 0 2 rfl rfl; have c0_3 := F7.out.c 0 3 rfl rfl; have c0_4 := F7.out.c 0 4 rfl rfl; have c0_5 := F7.out.c 0 5 rfl rfl; have c0_6 := F7.out.c 0 6 rfl rfl; have c0_7 := F7.out.c 0 7 rfl rfl; have c0_8 := F7.out.c 0 8 rfl rfl; have c0_9 := F7.out.c 0 9 rfl rfl; have c0_10 := F7.out.c 0 10 rfl rfl; cases B1) | (go_at_call 16; refine (HWJ.out _ (F7.out.lw 9 rfl) (F7.out.lw 8 rfl) (F7.out.lw 4 rfl) (F7.out.lw 5 rfl) (F7.out.lw 6 rfl) (F7.out.lw 7 rfl)).mono ?_; rintro e w8 ⟨⟨B2, rfl⟩, hb⟩; have F8 := Lib.hid (F7.out.next hb); clear hb F7 c0_0 c0_1 c0_2 c0_3 c0_4 c0_5 c0_6 c0_7 c0_8 c0_9 c0_10; have c0_0 := F8.out.c 0 0 rfl rfl; have c0_1 := F8.out.c 0 1 rfl rfl; have c0_2 := F8.out.c 0 2 rfl rfl; have c0_3 := F8.out.c 0 3 rfl rfl; have c0_4 := F8.out.c 0 4 rfl rfl; have c0_5 := F8.out.c 0 5 rfl rfl; have c0_6 := F8.out.c 0 6 rfl rfl; have c0_7 := F8.out.c 0 7 rfl rfl; have c0_8 := F8.out.c 0 8 rfl rfl; have c0_9 := F8.out.c 0 9 rfl rfl; have c0_10 := F8.out.c 0 10 rfl rfl) | fail)
      all_goals (first | (go_ret; exact l11_any HL.out F8.out.bel) | (go_ret; exact l11_any HL.out F7.out.bel))
end Go.Proofs.YtadlnmckcnfacaaGreat
