/- Walks: wakes of layer 31. -/
import Derived.Test.YtiejkdnkdmanmaaLoad8
set_option linter.unusedVariables false
set_option linter.unusedSimpArgs false
namespace Go.Proofs.Ytiejkdnkdmanmaa
open Go.RowKit Go.Rt
def wakS : St := ⟨1, 0, 0, 0⟩
theorem wakS_good : GoodS [] wakS := ⟨by unfold St.ok wakS; decide, by decide, by simp⟩
theorem wak_start (w : World) : Calls Try.prog 54 #[.agg #[.slice none 0 0, .int .u64 1, .int .u64 0, .int .u64 0, .int .u64 0], .int .i64 1] w (RetStart w [0] [] wakS 0) := by
  have h := start_good none 0 [] wakS 0 w wakS_good (by simp) (Ints.nil _ _ _ _) ⟨by simp, by decide⟩ (by decide)
  exact h
theorem wak_next (a a2 : Option Addr) (c c2 : Nat) (w : World) (hx : Ints .i64 w w.heap.size a [0]) (hc : c2 ≤ 9223372036854775807) :
    Calls Try.prog 50 #[.agg #[.slice a 1 c, .int .i64 0, .int .i64 0], .agg #[.slice a2 0 c2, .int .u64 (wakS.a : Nat), .int .u64 (wakS.b : Nat), .int .u64 (wakS.c : Nat), .int .u64 (wakS.d : Nat)], .int .i64 1, .int .i64 5] w (RetNext w [0] [0] 1 0 [] wakS 0) := by
  have hm : mayC [0] ((0 : Nat) : Int) ((0 : Nat) : Int) ((0 + 1 : Nat) : Int) = true := by
    rw [mayC_iff]
    refine ⟨by decide, by decide, ?_, by decide, by decide, by decide, by decide⟩
    exact axesB_once.2 (once_range 1)
  have h := lnext_good a a2 c c2 [0] [] wakS 0 0 0 5 w hm wakS_good (by simp) hx (Ints.nil _ _ _ _) ⟨by simp, hc⟩ (by decide) (by decide) (by decide)
  exact h
set_option maxRecDepth 100000 in
set_option maxHeartbeats 1000000 in
theorem wakes31_any (w : World) : Calls Try.prog 53 #[] w fun e w' => e = .returned (.bool true) ∧ Below w.heap.size w w' := by
  have hst := fun W => Lib.hid (wak_start W)
  have hnx := Lib.hid (fun a a2 c c2 W (h : Ints .i64 W W.heap.size a [0]) (hc : c2 ≤ 9223372036854775807) => wak_next a a2 c c2 W h hc)
  have F0 : Hid (Fr w.heap.size w w [] [] [] []) := Lib.hid (Fr.start (by simp))
  go_enter Try.func53, Try.ntmps53
  go_upto_region 2 with (go_at_call 54; refine (hst _).out.mono ?_; rintro e w1 ⟨ao, co, ar, cr, rfl, hfr⟩; have F1 := Lib.hid (F0.out.join hfr); simp only [List.nil_append, List.length_cons, List.length_nil, Nat.zero_add, List.map_cons, List.map_nil] at F1; clear hfr)

  obtain ⟨T, hT⟩ : ∃ T, w1.heap.size = T := ⟨_, rfl⟩
  rw [hT]
  have F2 := Lib.hid ((F1.out.box1 (b := T) hT [.slice ao 1 co, .int .i64 0, .int .i64 0] 73).box1 (b := T + 1) (by simp [hT]) [.slice ar 0 cr, .int .u64 (wakS.a : Nat), .int .u64 (wakS.b : Nat), .int .u64 (wakS.c : Nat), .int .u64 (wakS.d : Nat)] 27)
  simp only [List.nil_append, List.cons_append] at F2
  obtain ⟨W2, hW2⟩ : ∃ W2, (w1.alloc (.cells #[.slice ao 1 co, .int .i64 0, .int .i64 0] 73)).alloc (.cells #[.slice ar 0 cr, .int .u64 (wakS.a : Nat), .int .u64 (wakS.b : Nat), .int .u64 (wakS.c : Nat), .int .u64 (wakS.d : Nat)] 27) = W2 := ⟨_, rfl⟩
  rw [hW2] at F2 ⊢
  clear hW2 hT
  have c0_0 := F2.out.c 0 0 rfl rfl
  have c0_1 := F2.out.c 0 1 rfl rfl
  have c0_2 := F2.out.c 0 2 rfl rfl
  have c1_0 := F2.out.c 1 0 rfl rfl
  have c1_1 := F2.out.c 1 1 rfl rfl
  have c1_2 := F2.out.c 1 2 rfl rfl
  have c1_3 := F2.out.c 1 3 rfl rfl
  have c1_4 := F2.out.c 1 4 rfl rfl
  have hcr : cr ≤ 9223372036854775807 := by
    rcases (F2.out.r 1 rfl).2 with ⟨h, _⟩ | ⟨g2, cap, cur, h, _, _, h3, h4, _⟩
    · simp only [Value.slice.injEq] at h; omega
    · simp only [Value.slice.injEq] at h; obtain ⟨_, _, rfl⟩ := h; unfold maxLen at h4; omega
  go_upto_region 3 with (go_at_call 50; refine (hnx.out _ _ _ _ _ (F2.out.li 0 (k := .i64) (xs := [0]) rfl (by simp; exact wf_i64_iff.2 ⟨by decide, by decide⟩)) hcr).mono ?_; rintro e w3 ⟨ai, ci, ap, cp, aq, cq, rfl, hfr⟩; have F3 := Lib.hid (F2.out.join hfr); simp only [List.nil_append, List.cons_append, List.length_cons, List.length_nil, Nat.zero_add, List.map_cons, List.map_nil] at F3; clear hfr c0_0 c0_1 c0_2 c1_0 c1_1 c1_2 c1_3 c1_4)
  obtain ⟨U, hU⟩ : ∃ U, w3.heap.size = U := ⟨_, rfl⟩
  rw [hU]
  have F4 := Lib.hid ((((F3.out.box1 (b := U) hU [.slice ap 1 cp, .int .i64 1, .int .i64 0] 73).box1 (b := U + 1) (by simp [hU]) [.slice aq 0 cq, .int .u64 (wakS.a : Nat), .int .u64 (wakS.b : Nat), .int .u64 (wakS.c : Nat), .int .u64 (wakS.d : Nat)] 27)).box1 (b := U + 1 + 1) (by simp [hU]) [.int .i64 0] 3)
  simp only [List.nil_append, List.cons_append] at F4
  have heq := Lib.hid (fun a a2 c c2 W (h : Ints .i64 W W.heap.size a [0]) (h2 : Ints .i64 W W.heap.size a2 [0]) => eqNumbers_same a a2 c c2 W.heap.size [0] W h h2)
  obtain ⟨W4, hW4⟩ : ∃ W4, (w3.alloc (.cells #[.slice ap 1 cp, .int .i64 1, .int .i64 0] 73)).alloc (.cells #[.slice aq 0 cq, .int .u64 (wakS.a : Nat), .int .u64 (wakS.b : Nat), .int .u64 (wakS.c : Nat), .int .u64 (wakS.d : Nat)] 27) = W4 := ⟨_, rfl⟩
  rw [hW4]
  have hU4 : W4.heap.size = U + 1 + 1 := by rw [← hW4]; simp [hU]
  rw [hW4] at F4
  clear hW4 hU
  have hlit : Ints .i64 (W4.alloc (.cells #[.int .i64 0] 3)) (W4.alloc (.cells #[.int .i64 0] 3)).heap.size (some ⟨U + 1 + 1, 0, none⟩) [0] :=
    ⟨by simp, by simp; exact wf_i64_iff.2 ⟨by decide, by decide⟩, fun i hi => by
      obtain rfl : i = 0 := by simpa using hi
      exact ⟨U + 1 + 1, 0, rfl, by simp [hU4], F4.out.c 4 0 rfl rfl⟩⟩
  have HLIT := Lib.hid hlit
  have HB4 := Lib.hid F4.out.bel
  clear hlit
  go_wp2_with (first | (go_at_call 51; refine (num31_any _ _).mono ?_; rintro e w' ⟨rfl, rfl⟩) | (go_at_call 34; go_loud ((try rw [hU4]); refine (heq.out ai (some ⟨U + 1 + 1, 0, none⟩) ci 1 _ (F4.out.li 4 (k := .i64) (xs := [0]) rfl (by simp; exact wf_i64_iff.2 ⟨by decide, by decide⟩)) HLIT.out).mono ?_; rintro e w5 ⟨rfl, hb⟩; have HB5 := Lib.hid (HB4.out.trans (hb.mono F4.out.hlo)); clear hb)))
  go_ret
  exact ⟨rfl, HB5.out⟩
end Go.Proofs.Ytiejkdnkdmanmaa
