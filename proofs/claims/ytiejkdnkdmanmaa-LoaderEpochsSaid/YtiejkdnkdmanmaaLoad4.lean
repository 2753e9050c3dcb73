/- Walks: the next batch, refused; the first cursor. -/
import Derived.Test.YtiejkdnkdmanmaaLoad3
set_option linter.unusedVariables false
set_option linter.unusedSimpArgs false
namespace Go.Proofs.Ytiejkdnkdmanmaa
open Go.RowKit Go.Rt
def St.nil : St := ⟨0, 0, 0, 0⟩
theorem retNext_none {w w' : World} {z : Int} {B : List (Nat × List Value)} {I : List (IntKind × Option Addr × List Int)} (h : Fr w.heap.size w w' B I [] []) : RetNext w [] [] 0 0 [] St.nil z (.returned (.tuple #[.slice none 0 0, .agg #[.slice none 0 0, .int .i64 0, .int .i64 0], .agg #[.slice none 0 0, .int .u64 0, .int .u64 0, .int .u64 0, .int .u64 0], .int .i64 z])) w' :=
  ⟨none, 0, none, 0, none, 0, rfl, (((h.rows.addNil _).addNil _).addNil _)⟩

set_option maxRecDepth 100000 in
set_option maxHeartbeats 4000000 in
theorem lnext_bad (a a2 : Option Addr) (c c2 : Nat) (xs rs : List Int) (s : St) (at_ ep n size : Int) (w : World) (hs : s.ok) (hl : rs.length ≤ 9223372036854775807) (hx : Ints .i64 w w.heap.size a xs) (hbad : ¬ (mayC xs at_ ep n = true ∧ goodR rs.length s = true ∧ 1 ≤ size ∧ size ≤ 4096)) :
    Calls Try.prog 50 #[.agg #[.slice a xs.length c, .int .i64 at_, .int .i64 ep], .agg #[.slice a2 rs.length c2, .int .u64 (s.a : Nat), .int .u64 (s.b : Nat), .int .u64 (s.c : Nat), .int .u64 (s.d : Nat)], .int .i64 n, .int .i64 size] w (RetNext w [] [] 0 0 [] St.nil 1) := by
  have hgd := fun (W : World) (h : Ints .i64 W w.heap.size a xs) (hh : w.heap.size ≤ W.heap.size) => Lib.hid (good31_any a c w.heap.size xs at_ ep n W h hh)
  have hrg := fun W => Lib.hid (rgood_any a2 rs.length c2 s W hs hl)
  have HX := Lib.hid hx
  clear hx
  cases hm : mayC xs at_ ep n with
  | false =>
    rw [hm] at hgd
    clear hbad hm
    go_enter Try.func50, Try.ntmps50
    have F1 := Lib.hid ((((((Fr.start (w := w) (I := [(.i64, a, xs)]) (by intro p hp; simp at hp; subst hp; exact HX.out)).box1 (b := w.heap.size) (by simp) [.slice a xs.length c, .int .i64 at_, .int .i64 ep] 73).box1 (b := w.heap.size + 1) (by simp) [.slice a2 rs.length c2, .int .u64 (s.a : Nat), .int .u64 (s.b : Nat), .int .u64 (s.c : Nat), .int .u64 (s.d : Nat)] 27).box1 (b := w.heap.size + 1 + 1) (by simp) [.slice none 0 0] 46).box1 (b := w.heap.size + 1 + 1 + 1) (by simp) [.slice none 0 0, .int .i64 0, .int .i64 0] 73).box1 (b := w.heap.size + 1 + 1 + 1 + 1) (by simp) [.slice none 0 0, .int .u64 0, .int .u64 0, .int .u64 0, .int .u64 0] 27)
    simp only [List.nil_append, List.cons_append] at F1
    go_upto_region 1 with fail
    obtain ⟨W0, hW0⟩ : ∃ W0, (((((w.alloc (.cells #[.slice a xs.length c, .int .i64 at_, .int .i64 ep] 73)).alloc (.cells #[.slice a2 rs.length c2, .int .u64 (s.a : Nat), .int .u64 (s.b : Nat), .int .u64 (s.c : Nat), .int .u64 (s.d : Nat)] 27)).alloc (.cells #[.slice none 0 0] 46)).alloc (.cells #[.slice none 0 0, .int .i64 0, .int .i64 0] 73)).alloc (.cells #[.slice none 0 0, .int .u64 0, .int .u64 0, .int .u64 0, .int .u64 0] 27)) = W0 := ⟨_, rfl⟩
    rw [hW0] at F1 ⊢
    clear hW0
    have c0_0 := F1.out.c 0 0 rfl rfl
    have c0_1 := F1.out.c 0 1 rfl rfl
    have c0_2 := F1.out.c 0 2 rfl rfl
    have c1_0 := F1.out.c 1 0 rfl rfl
    have c1_1 := F1.out.c 1 1 rfl rfl
    have c1_2 := F1.out.c 1 2 rfl rfl
    have c1_3 := F1.out.c 1 3 rfl rfl
    have c1_4 := F1.out.c 1 4 rfl rfl
    have c2_0 := F1.out.c 2 0 rfl rfl
    have c3_0 := F1.out.c 3 0 rfl rfl
    have c3_1 := F1.out.c 3 1 rfl rfl
    have c3_2 := F1.out.c 3 2 rfl rfl
    have c4_0 := F1.out.c 4 0 rfl rfl
    have c4_1 := F1.out.c 4 1 rfl rfl
    have c4_2 := F1.out.c 4 2 rfl rfl
    have c4_3 := F1.out.c 4 3 rfl rfl
    have c4_4 := F1.out.c 4 4 rfl rfl
    have cf2_0 := F1.out.f 2 0 rfl rfl
    have cf3_0 := F1.out.f 3 0 rfl rfl
    have cf3_1 := F1.out.f 3 1 rfl rfl
    have cf3_2 := F1.out.f 3 2 rfl rfl
    have cf4_0 := F1.out.f 4 0 rfl rfl
    have cf4_1 := F1.out.f 4 1 rfl rfl
    have cf4_2 := F1.out.f 4 2 rfl rfl
    have cf4_3 := F1.out.f 4 3 rfl rfl
    have cf4_4 := F1.out.f 4 4 rfl rfl
    go_wp2_with (go_at_call 77; refine (hgd _ (F1.out.l 0 rfl) F1.out.hlo).out.mono ?_; rintro e w1 ⟨rfl, hb⟩; have F2 := Lib.hid (F1.out.next hb); clear hb c0_0 c0_1 c0_2 c1_0 c1_1 c1_2 c1_3 c1_4 c2_0 c3_0 c3_1 c3_2 c4_0 c4_1 c4_2 c4_3 c4_4 cf2_0 cf3_0 cf3_1 cf3_2 cf4_0 cf4_1 cf4_2 cf4_3 cf4_4; have d0_0 := F2.out.c 0 0 rfl rfl; have d0_1 := F2.out.c 0 1 rfl rfl; have d0_2 := F2.out.c 0 2 rfl rfl; have d1_0 := F2.out.c 1 0 rfl rfl; have d1_1 := F2.out.c 1 1 rfl rfl; have d1_2 := F2.out.c 1 2 rfl rfl; have d1_3 := F2.out.c 1 3 rfl rfl; have d1_4 := F2.out.c 1 4 rfl rfl; have d2_0 := F2.out.c 2 0 rfl rfl; have d3_0 := F2.out.c 3 0 rfl rfl; have d3_1 := F2.out.c 3 1 rfl rfl; have d3_2 := F2.out.c 3 2 rfl rfl; have d4_0 := F2.out.c 4 0 rfl rfl; have d4_1 := F2.out.c 4 1 rfl rfl; have d4_2 := F2.out.c 4 2 rfl rfl; have d4_3 := F2.out.c 4 3 rfl rfl; have d4_4 := F2.out.c 4 4 rfl rfl; have df2_0 := F2.out.f 2 0 rfl rfl; have df3_0 := F2.out.f 3 0 rfl rfl; have df3_1 := F2.out.f 3 1 rfl rfl; have df3_2 := F2.out.f 3 2 rfl rfl; have df4_0 := F2.out.f 4 0 rfl rfl; have df4_1 := F2.out.f 4 1 rfl rfl; have df4_2 := F2.out.f 4 2 rfl rfl; have df4_3 := F2.out.f 4 3 rfl rfl; have df4_4 := F2.out.f 4 4 rfl rfl)
    (try simp only [Exit.noGoto, Exit.inBlock, Exit.then])
    have FZ := (((F2.out.set 2 rfl (by simp) [.slice none 0 0] rfl).set 3 rfl (by simp) [.slice none 0 0, .int .i64 0, .int .i64 0] rfl).set 4 rfl (by simp) [.slice none 0 0, .int .u64 0, .int .u64 0, .int .u64 0, .int .u64 0] rfl)
    simp only [setL, Nat.reduceAdd, List.set_cons_zero, List.set_cons_succ] at FZ
    have z2_0 := FZ.c 2 0 rfl rfl
    have z3_0 := FZ.c 3 0 rfl rfl
    have z3_1 := FZ.c 3 1 rfl rfl
    have z3_2 := FZ.c 3 2 rfl rfl
    have z4_0 := FZ.c 4 0 rfl rfl
    have z4_1 := FZ.c 4 1 rfl rfl
    have z4_2 := FZ.c 4 2 rfl rfl
    have z4_3 := FZ.c 4 3 rfl rfl
    have z4_4 := FZ.c 4 4 rfl rfl
    refine bodyPost_ret (v := .tuple #[.slice none 0 0, .agg #[.slice none 0 0, .int .i64 0, .int .i64 0], .agg #[.slice none 0 0, .int .u64 0, .int .u64 0, .int .u64 0, .int .u64 0], .int .i64 1]) ?_ rfl (retNext_none FZ)
    rw [results_ccct rfl]
    go_simp
  | true =>
    rw [hm] at hgd
    cases hg : goodR rs.length s with
    | false =>
      rw [hg] at hrg
      clear hbad hm hg
      go_enter Try.func50, Try.ntmps50
      have F1 := Lib.hid ((((((Fr.start (w := w) (I := [(.i64, a, xs)]) (by intro p hp; simp at hp; subst hp; exact HX.out)).box1 (b := w.heap.size) (by simp) [.slice a xs.length c, .int .i64 at_, .int .i64 ep] 73).box1 (b := w.heap.size + 1) (by simp) [.slice a2 rs.length c2, .int .u64 (s.a : Nat), .int .u64 (s.b : Nat), .int .u64 (s.c : Nat), .int .u64 (s.d : Nat)] 27).box1 (b := w.heap.size + 1 + 1) (by simp) [.slice none 0 0] 46).box1 (b := w.heap.size + 1 + 1 + 1) (by simp) [.slice none 0 0, .int .i64 0, .int .i64 0] 73).box1 (b := w.heap.size + 1 + 1 + 1 + 1) (by simp) [.slice none 0 0, .int .u64 0, .int .u64 0, .int .u64 0, .int .u64 0] 27)
      simp only [List.nil_append, List.cons_append] at F1
      go_upto_region 1 with fail
      obtain ⟨W0, hW0⟩ : ∃ W0, (((((w.alloc (.cells #[.slice a xs.length c, .int .i64 at_, .int .i64 ep] 73)).alloc (.cells #[.slice a2 rs.length c2, .int .u64 (s.a : Nat), .int .u64 (s.b : Nat), .int .u64 (s.c : Nat), .int .u64 (s.d : Nat)] 27)).alloc (.cells #[.slice none 0 0] 46)).alloc (.cells #[.slice none 0 0, .int .i64 0, .int .i64 0] 73)).alloc (.cells #[.slice none 0 0, .int .u64 0, .int .u64 0, .int .u64 0, .int .u64 0] 27)) = W0 := ⟨_, rfl⟩
      rw [hW0] at F1 ⊢
      clear hW0
      have c0_0 := F1.out.c 0 0 rfl rfl
      have c0_1 := F1.out.c 0 1 rfl rfl
      have c0_2 := F1.out.c 0 2 rfl rfl
      have c1_0 := F1.out.c 1 0 rfl rfl
      have c1_1 := F1.out.c 1 1 rfl rfl
      have c1_2 := F1.out.c 1 2 rfl rfl
      have c1_3 := F1.out.c 1 3 rfl rfl
      have c1_4 := F1.out.c 1 4 rfl rfl
      have c2_0 := F1.out.c 2 0 rfl rfl
      have c3_0 := F1.out.c 3 0 rfl rfl
      have c3_1 := F1.out.c 3 1 rfl rfl
      have c3_2 := F1.out.c 3 2 rfl rfl
      have c4_0 := F1.out.c 4 0 rfl rfl
      have c4_1 := F1.out.c 4 1 rfl rfl
      have c4_2 := F1.out.c 4 2 rfl rfl
      have c4_3 := F1.out.c 4 3 rfl rfl
      have c4_4 := F1.out.c 4 4 rfl rfl
      have cf2_0 := F1.out.f 2 0 rfl rfl
      have cf3_0 := F1.out.f 3 0 rfl rfl
      have cf3_1 := F1.out.f 3 1 rfl rfl
      have cf3_2 := F1.out.f 3 2 rfl rfl
      have cf4_0 := F1.out.f 4 0 rfl rfl
      have cf4_1 := F1.out.f 4 1 rfl rfl
      have cf4_2 := F1.out.f 4 2 rfl rfl
      have cf4_3 := F1.out.f 4 3 rfl rfl
      have cf4_4 := F1.out.f 4 4 rfl rfl
      go_wp2_with (first | (go_at_call 77; refine (hgd _ (F1.out.l 0 rfl) F1.out.hlo).out.mono ?_; rintro e w1 ⟨rfl, hb⟩; have F2 := Lib.hid (F1.out.next hb); clear hb c0_0 c0_1 c0_2 c1_0 c1_1 c1_2 c1_3 c1_4 c2_0 c3_0 c3_1 c3_2 c4_0 c4_1 c4_2 c4_3 c4_4 cf2_0 cf3_0 cf3_1 cf3_2 cf4_0 cf4_1 cf4_2 cf4_3 cf4_4; have d0_0 := F2.out.c 0 0 rfl rfl; have d0_1 := F2.out.c 0 1 rfl rfl; have d0_2 := F2.out.c 0 2 rfl rfl; have d1_0 := F2.out.c 1 0 rfl rfl; have d1_1 := F2.out.c 1 1 rfl rfl; have d1_2 := F2.out.c 1 2 rfl rfl; have d1_3 := F2.out.c 1 3 rfl rfl; have d1_4 := F2.out.c 1 4 rfl rfl; have d2_0 := F2.out.c 2 0 rfl rfl; have d3_0 := F2.out.c 3 0 rfl rfl; have d3_1 := F2.out.c 3 1 rfl rfl; have d3_2 := F2.out.c 3 2 rfl rfl; have d4_0 := F2.out.c 4 0 rfl rfl; have d4_1 := F2.out.c 4 1 rfl rfl; have d4_2 := F2.out.c 4 2 rfl rfl; have d4_3 := F2.out.c 4 3 rfl rfl; have d4_4 := F2.out.c 4 4 rfl rfl; have df2_0 := F2.out.f 2 0 rfl rfl; have df3_0 := F2.out.f 3 0 rfl rfl; have df3_1 := F2.out.f 3 1 rfl rfl; have df3_2 := F2.out.f 3 2 rfl rfl; have df4_0 := F2.out.f 4 0 rfl rfl; have df4_1 := F2.out.f 4 1 rfl rfl; have df4_2 := F2.out.f 4 2 rfl rfl; have df4_3 := F2.out.f 4 3 rfl rfl; have df4_4 := F2.out.f 4 4 rfl rfl) | (go_at_call 59; refine (hrg _).out.mono ?_; rintro e w2 ⟨rfl, hb⟩; have F3 := Lib.hid (F2.out.next hb); clear hb d0_0 d0_1 d0_2 d1_0 d1_1 d1_2 d1_3 d1_4 d2_0 d3_0 d3_1 d3_2 d4_0 d4_1 d4_2 d4_3 d4_4 df2_0 df3_0 df3_1 df3_2 df4_0 df4_1 df4_2 df4_3 df4_4; have e2_0 := F3.out.c 2 0 rfl rfl; have e3_0 := F3.out.c 3 0 rfl rfl; have e3_1 := F3.out.c 3 1 rfl rfl; have e3_2 := F3.out.c 3 2 rfl rfl; have e4_0 := F3.out.c 4 0 rfl rfl; have e4_1 := F3.out.c 4 1 rfl rfl; have e4_2 := F3.out.c 4 2 rfl rfl; have e4_3 := F3.out.c 4 3 rfl rfl; have e4_4 := F3.out.c 4 4 rfl rfl; have ef2_0 := F3.out.f 2 0 rfl rfl; have ef3_0 := F3.out.f 3 0 rfl rfl; have ef3_1 := F3.out.f 3 1 rfl rfl; have ef3_2 := F3.out.f 3 2 rfl rfl; have ef4_0 := F3.out.f 4 0 rfl rfl; have ef4_1 := F3.out.f 4 1 rfl rfl; have ef4_2 := F3.out.f 4 2 rfl rfl; have ef4_3 := F3.out.f 4 3 rfl rfl; have ef4_4 := F3.out.f 4 4 rfl rfl))
      (try simp only [Exit.noGoto, Exit.inBlock, Exit.then])
      have FZ := (((F3.out.set 2 rfl (by simp) [.slice none 0 0] rfl).set 3 rfl (by simp) [.slice none 0 0, .int .i64 0, .int .i64 0] rfl).set 4 rfl (by simp) [.slice none 0 0, .int .u64 0, .int .u64 0, .int .u64 0, .int .u64 0] rfl)
      simp only [setL, Nat.reduceAdd, List.set_cons_zero, List.set_cons_succ] at FZ
      have z2_0 := FZ.c 2 0 rfl rfl
      have z3_0 := FZ.c 3 0 rfl rfl
      have z3_1 := FZ.c 3 1 rfl rfl
      have z3_2 := FZ.c 3 2 rfl rfl
      have z4_0 := FZ.c 4 0 rfl rfl
      have z4_1 := FZ.c 4 1 rfl rfl
      have z4_2 := FZ.c 4 2 rfl rfl
      have z4_3 := FZ.c 4 3 rfl rfl
      have z4_4 := FZ.c 4 4 rfl rfl
      refine bodyPost_ret (v := .tuple #[.slice none 0 0, .agg #[.slice none 0 0, .int .i64 0, .int .i64 0], .agg #[.slice none 0 0, .int .u64 0, .int .u64 0, .int .u64 0, .int .u64 0], .int .i64 1]) ?_ rfl (retNext_none FZ)
      rw [results_ccct rfl]
      go_simp
    | true =>
      rw [hg] at hrg
      have hsz : size < 1 ∨ 4096 < size := by
        apply Classical.byContradiction
        intro h
        exact hbad ⟨hm, hg, by omega, by omega⟩
      clear hbad hm hg
      rcases hsz with hsz | hsz
      · skip
        go_enter Try.func50, Try.ntmps50
        have F1 := Lib.hid ((((((Fr.start (w := w) (I := [(.i64, a, xs)]) (by intro p hp; simp at hp; subst hp; exact HX.out)).box1 (b := w.heap.size) (by simp) [.slice a xs.length c, .int .i64 at_, .int .i64 ep] 73).box1 (b := w.heap.size + 1) (by simp) [.slice a2 rs.length c2, .int .u64 (s.a : Nat), .int .u64 (s.b : Nat), .int .u64 (s.c : Nat), .int .u64 (s.d : Nat)] 27).box1 (b := w.heap.size + 1 + 1) (by simp) [.slice none 0 0] 46).box1 (b := w.heap.size + 1 + 1 + 1) (by simp) [.slice none 0 0, .int .i64 0, .int .i64 0] 73).box1 (b := w.heap.size + 1 + 1 + 1 + 1) (by simp) [.slice none 0 0, .int .u64 0, .int .u64 0, .int .u64 0, .int .u64 0] 27)
        simp only [List.nil_append, List.cons_append] at F1
        go_upto_region 1 with fail
        obtain ⟨W0, hW0⟩ : ∃ W0, (((((w.alloc (.cells #[.slice a xs.length c, .int .i64 at_, .int .i64 ep] 73)).alloc (.cells #[.slice a2 rs.length c2, .int .u64 (s.a : Nat), .int .u64 (s.b : Nat), .int .u64 (s.c : Nat), .int .u64 (s.d : Nat)] 27)).alloc (.cells #[.slice none 0 0] 46)).alloc (.cells #[.slice none 0 0, .int .i64 0, .int .i64 0] 73)).alloc (.cells #[.slice none 0 0, .int .u64 0, .int .u64 0, .int .u64 0, .int .u64 0] 27)) = W0 := ⟨_, rfl⟩
        rw [hW0] at F1 ⊢
        clear hW0
        have c0_0 := F1.out.c 0 0 rfl rfl
        have c0_1 := F1.out.c 0 1 rfl rfl
        have c0_2 := F1.out.c 0 2 rfl rfl
        have c1_0 := F1.out.c 1 0 rfl rfl
        have c1_1 := F1.out.c 1 1 rfl rfl
        have c1_2 := F1.out.c 1 2 rfl rfl
        have c1_3 := F1.out.c 1 3 rfl rfl
        have c1_4 := F1.out.c 1 4 rfl rfl
        have c2_0 := F1.out.c 2 0 rfl rfl
        have c3_0 := F1.out.c 3 0 rfl rfl
        have c3_1 := F1.out.c 3 1 rfl rfl
        have c3_2 := F1.out.c 3 2 rfl rfl
        have c4_0 := F1.out.c 4 0 rfl rfl
        have c4_1 := F1.out.c 4 1 rfl rfl
        have c4_2 := F1.out.c 4 2 rfl rfl
        have c4_3 := F1.out.c 4 3 rfl rfl
        have c4_4 := F1.out.c 4 4 rfl rfl
        have cf2_0 := F1.out.f 2 0 rfl rfl
        have cf3_0 := F1.out.f 3 0 rfl rfl
        have cf3_1 := F1.out.f 3 1 rfl rfl
        have cf3_2 := F1.out.f 3 2 rfl rfl
        have cf4_0 := F1.out.f 4 0 rfl rfl
        have cf4_1 := F1.out.f 4 1 rfl rfl
        have cf4_2 := F1.out.f 4 2 rfl rfl
        have cf4_3 := F1.out.f 4 3 rfl rfl
        have cf4_4 := F1.out.f 4 4 rfl rfl
        go_wp2_with (first | (go_at_call 77; refine (hgd _ (F1.out.l 0 rfl) F1.out.hlo).out.mono ?_; rintro e w1 ⟨rfl, hb⟩; have F2 := Lib.hid (F1.out.next hb); clear hb c0_0 c0_1 c0_2 c1_0 c1_1 c1_2 c1_3 c1_4 c2_0 c3_0 c3_1 c3_2 c4_0 c4_1 c4_2 c4_3 c4_4 cf2_0 cf3_0 cf3_1 cf3_2 cf4_0 cf4_1 cf4_2 cf4_3 cf4_4; have d0_0 := F2.out.c 0 0 rfl rfl; have d0_1 := F2.out.c 0 1 rfl rfl; have d0_2 := F2.out.c 0 2 rfl rfl; have d1_0 := F2.out.c 1 0 rfl rfl; have d1_1 := F2.out.c 1 1 rfl rfl; have d1_2 := F2.out.c 1 2 rfl rfl; have d1_3 := F2.out.c 1 3 rfl rfl; have d1_4 := F2.out.c 1 4 rfl rfl; have d2_0 := F2.out.c 2 0 rfl rfl; have d3_0 := F2.out.c 3 0 rfl rfl; have d3_1 := F2.out.c 3 1 rfl rfl; have d3_2 := F2.out.c 3 2 rfl rfl; have d4_0 := F2.out.c 4 0 rfl rfl; have d4_1 := F2.out.c 4 1 rfl rfl; have d4_2 := F2.out.c 4 2 rfl rfl; have d4_3 := F2.out.c 4 3 rfl rfl; have d4_4 := F2.out.c 4 4 rfl rfl; have df2_0 := F2.out.f 2 0 rfl rfl; have df3_0 := F2.out.f 3 0 rfl rfl; have df3_1 := F2.out.f 3 1 rfl rfl; have df3_2 := F2.out.f 3 2 rfl rfl; have df4_0 := F2.out.f 4 0 rfl rfl; have df4_1 := F2.out.f 4 1 rfl rfl; have df4_2 := F2.out.f 4 2 rfl rfl; have df4_3 := F2.out.f 4 3 rfl rfl; have df4_4 := F2.out.f 4 4 rfl rfl) | (go_at_call 59; refine (hrg _).out.mono ?_; rintro e w2 ⟨rfl, hb⟩; have F3 := Lib.hid (F2.out.next hb); clear hb d0_0 d0_1 d0_2 d1_0 d1_1 d1_2 d1_3 d1_4 d2_0 d3_0 d3_1 d3_2 d4_0 d4_1 d4_2 d4_3 d4_4 df2_0 df3_0 df3_1 df3_2 df4_0 df4_1 df4_2 df4_3 df4_4; have e2_0 := F3.out.c 2 0 rfl rfl; have e3_0 := F3.out.c 3 0 rfl rfl; have e3_1 := F3.out.c 3 1 rfl rfl; have e3_2 := F3.out.c 3 2 rfl rfl; have e4_0 := F3.out.c 4 0 rfl rfl; have e4_1 := F3.out.c 4 1 rfl rfl; have e4_2 := F3.out.c 4 2 rfl rfl; have e4_3 := F3.out.c 4 3 rfl rfl; have e4_4 := F3.out.c 4 4 rfl rfl; have ef2_0 := F3.out.f 2 0 rfl rfl; have ef3_0 := F3.out.f 3 0 rfl rfl; have ef3_1 := F3.out.f 3 1 rfl rfl; have ef3_2 := F3.out.f 3 2 rfl rfl; have ef4_0 := F3.out.f 4 0 rfl rfl; have ef4_1 := F3.out.f 4 1 rfl rfl; have ef4_2 := F3.out.f 4 2 rfl rfl; have ef4_3 := F3.out.f 4 3 rfl rfl; have ef4_4 := F3.out.f 4 4 rfl rfl))
        (try simp only [Exit.noGoto, Exit.inBlock, Exit.then])
        have FZ := (((F3.out.set 2 rfl (by simp) [.slice none 0 0] rfl).set 3 rfl (by simp) [.slice none 0 0, .int .i64 0, .int .i64 0] rfl).set 4 rfl (by simp) [.slice none 0 0, .int .u64 0, .int .u64 0, .int .u64 0, .int .u64 0] rfl)
        simp only [setL, Nat.reduceAdd, List.set_cons_zero, List.set_cons_succ] at FZ
        have z2_0 := FZ.c 2 0 rfl rfl
        have z3_0 := FZ.c 3 0 rfl rfl
        have z3_1 := FZ.c 3 1 rfl rfl
        have z3_2 := FZ.c 3 2 rfl rfl
        have z4_0 := FZ.c 4 0 rfl rfl
        have z4_1 := FZ.c 4 1 rfl rfl
        have z4_2 := FZ.c 4 2 rfl rfl
        have z4_3 := FZ.c 4 3 rfl rfl
        have z4_4 := FZ.c 4 4 rfl rfl
        refine bodyPost_ret (v := .tuple #[.slice none 0 0, .agg #[.slice none 0 0, .int .i64 0, .int .i64 0], .agg #[.slice none 0 0, .int .u64 0, .int .u64 0, .int .u64 0, .int .u64 0], .int .i64 1]) ?_ rfl (retNext_none FZ)
        rw [results_ccct rfl]
        go_simp
      · have hsz2 : ¬ size < 1 := by omega
        go_enter Try.func50, Try.ntmps50
        have F1 := Lib.hid ((((((Fr.start (w := w) (I := [(.i64, a, xs)]) (by intro p hp; simp at hp; subst hp; exact HX.out)).box1 (b := w.heap.size) (by simp) [.slice a xs.length c, .int .i64 at_, .int .i64 ep] 73).box1 (b := w.heap.size + 1) (by simp) [.slice a2 rs.length c2, .int .u64 (s.a : Nat), .int .u64 (s.b : Nat), .int .u64 (s.c : Nat), .int .u64 (s.d : Nat)] 27).box1 (b := w.heap.size + 1 + 1) (by simp) [.slice none 0 0] 46).box1 (b := w.heap.size + 1 + 1 + 1) (by simp) [.slice none 0 0, .int .i64 0, .int .i64 0] 73).box1 (b := w.heap.size + 1 + 1 + 1 + 1) (by simp) [.slice none 0 0, .int .u64 0, .int .u64 0, .int .u64 0, .int .u64 0] 27)
        simp only [List.nil_append, List.cons_append] at F1
        go_upto_region 1 with fail
        obtain ⟨W0, hW0⟩ : ∃ W0, (((((w.alloc (.cells #[.slice a xs.length c, .int .i64 at_, .int .i64 ep] 73)).alloc (.cells #[.slice a2 rs.length c2, .int .u64 (s.a : Nat), .int .u64 (s.b : Nat), .int .u64 (s.c : Nat), .int .u64 (s.d : Nat)] 27)).alloc (.cells #[.slice none 0 0] 46)).alloc (.cells #[.slice none 0 0, .int .i64 0, .int .i64 0] 73)).alloc (.cells #[.slice none 0 0, .int .u64 0, .int .u64 0, .int .u64 0, .int .u64 0] 27)) = W0 := ⟨_, rfl⟩
        rw [hW0] at F1 ⊢
        clear hW0
        have c0_0 := F1.out.c 0 0 rfl rfl
        have c0_1 := F1.out.c 0 1 rfl rfl
        have c0_2 := F1.out.c 0 2 rfl rfl
        have c1_0 := F1.out.c 1 0 rfl rfl
        have c1_1 := F1.out.c 1 1 rfl rfl
        have c1_2 := F1.out.c 1 2 rfl rfl
        have c1_3 := F1.out.c 1 3 rfl rfl
        have c1_4 := F1.out.c 1 4 rfl rfl
        have c2_0 := F1.out.c 2 0 rfl rfl
        have c3_0 := F1.out.c 3 0 rfl rfl
        have c3_1 := F1.out.c 3 1 rfl rfl
        have c3_2 := F1.out.c 3 2 rfl rfl
        have c4_0 := F1.out.c 4 0 rfl rfl
        have c4_1 := F1.out.c 4 1 rfl rfl
        have c4_2 := F1.out.c 4 2 rfl rfl
        have c4_3 := F1.out.c 4 3 rfl rfl
        have c4_4 := F1.out.c 4 4 rfl rfl
        have cf2_0 := F1.out.f 2 0 rfl rfl
        have cf3_0 := F1.out.f 3 0 rfl rfl
        have cf3_1 := F1.out.f 3 1 rfl rfl
        have cf3_2 := F1.out.f 3 2 rfl rfl
        have cf4_0 := F1.out.f 4 0 rfl rfl
        have cf4_1 := F1.out.f 4 1 rfl rfl
        have cf4_2 := F1.out.f 4 2 rfl rfl
        have cf4_3 := F1.out.f 4 3 rfl rfl
        have cf4_4 := F1.out.f 4 4 rfl rfl
        go_wp2_with (first | (go_at_call 77; refine (hgd _ (F1.out.l 0 rfl) F1.out.hlo).out.mono ?_; rintro e w1 ⟨rfl, hb⟩; have F2 := Lib.hid (F1.out.next hb); clear hb c0_0 c0_1 c0_2 c1_0 c1_1 c1_2 c1_3 c1_4 c2_0 c3_0 c3_1 c3_2 c4_0 c4_1 c4_2 c4_3 c4_4 cf2_0 cf3_0 cf3_1 cf3_2 cf4_0 cf4_1 cf4_2 cf4_3 cf4_4; have d0_0 := F2.out.c 0 0 rfl rfl; have d0_1 := F2.out.c 0 1 rfl rfl; have d0_2 := F2.out.c 0 2 rfl rfl; have d1_0 := F2.out.c 1 0 rfl rfl; have d1_1 := F2.out.c 1 1 rfl rfl; have d1_2 := F2.out.c 1 2 rfl rfl; have d1_3 := F2.out.c 1 3 rfl rfl; have d1_4 := F2.out.c 1 4 rfl rfl; have d2_0 := F2.out.c 2 0 rfl rfl; have d3_0 := F2.out.c 3 0 rfl rfl; have d3_1 := F2.out.c 3 1 rfl rfl; have d3_2 := F2.out.c 3 2 rfl rfl; have d4_0 := F2.out.c 4 0 rfl rfl; have d4_1 := F2.out.c 4 1 rfl rfl; have d4_2 := F2.out.c 4 2 rfl rfl; have d4_3 := F2.out.c 4 3 rfl rfl; have d4_4 := F2.out.c 4 4 rfl rfl; have df2_0 := F2.out.f 2 0 rfl rfl; have df3_0 := F2.out.f 3 0 rfl rfl; have df3_1 := F2.out.f 3 1 rfl rfl; have df3_2 := F2.out.f 3 2 rfl rfl; have df4_0 := F2.out.f 4 0 rfl rfl; have df4_1 := F2.out.f 4 1 rfl rfl; have df4_2 := F2.out.f 4 2 rfl rfl; have df4_3 := F2.out.f 4 3 rfl rfl; have df4_4 := F2.out.f 4 4 rfl rfl) | (go_at_call 59; refine (hrg _).out.mono ?_; rintro e w2 ⟨rfl, hb⟩; have F3 := Lib.hid (F2.out.next hb); clear hb d0_0 d0_1 d0_2 d1_0 d1_1 d1_2 d1_3 d1_4 d2_0 d3_0 d3_1 d3_2 d4_0 d4_1 d4_2 d4_3 d4_4 df2_0 df3_0 df3_1 df3_2 df4_0 df4_1 df4_2 df4_3 df4_4; have e2_0 := F3.out.c 2 0 rfl rfl; have e3_0 := F3.out.c 3 0 rfl rfl; have e3_1 := F3.out.c 3 1 rfl rfl; have e3_2 := F3.out.c 3 2 rfl rfl; have e4_0 := F3.out.c 4 0 rfl rfl; have e4_1 := F3.out.c 4 1 rfl rfl; have e4_2 := F3.out.c 4 2 rfl rfl; have e4_3 := F3.out.c 4 3 rfl rfl; have e4_4 := F3.out.c 4 4 rfl rfl; have ef2_0 := F3.out.f 2 0 rfl rfl; have ef3_0 := F3.out.f 3 0 rfl rfl; have ef3_1 := F3.out.f 3 1 rfl rfl; have ef3_2 := F3.out.f 3 2 rfl rfl; have ef4_0 := F3.out.f 4 0 rfl rfl; have ef4_1 := F3.out.f 4 1 rfl rfl; have ef4_2 := F3.out.f 4 2 rfl rfl; have ef4_3 := F3.out.f 4 3 rfl rfl; have ef4_4 := F3.out.f 4 4 rfl rfl))
        (try simp only [Exit.noGoto, Exit.inBlock, Exit.then])
        have FZ := (((F3.out.set 2 rfl (by simp) [.slice none 0 0] rfl).set 3 rfl (by simp) [.slice none 0 0, .int .i64 0, .int .i64 0] rfl).set 4 rfl (by simp) [.slice none 0 0, .int .u64 0, .int .u64 0, .int .u64 0, .int .u64 0] rfl)
        simp only [setL, Nat.reduceAdd, List.set_cons_zero, List.set_cons_succ] at FZ
        have z2_0 := FZ.c 2 0 rfl rfl
        have z3_0 := FZ.c 3 0 rfl rfl
        have z3_1 := FZ.c 3 1 rfl rfl
        have z3_2 := FZ.c 3 2 rfl rfl
        have z4_0 := FZ.c 4 0 rfl rfl
        have z4_1 := FZ.c 4 1 rfl rfl
        have z4_2 := FZ.c 4 2 rfl rfl
        have z4_3 := FZ.c 4 3 rfl rfl
        have z4_4 := FZ.c 4 4 rfl rfl
        refine bodyPost_ret (v := .tuple #[.slice none 0 0, .agg #[.slice none 0 0, .int .i64 0, .int .i64 0], .agg #[.slice none 0 0, .int .u64 0, .int .u64 0, .int .u64 0, .int .u64 0], .int .i64 1]) ?_ rfl (retNext_none FZ)
        rw [results_ccct rfl]
        go_simp
set_option maxRecDepth 100000 in
set_option maxHeartbeats 4000000 in
theorem lnext_over (a a2 : Option Addr) (c c2 : Nat) (xs rs : List Int) (s : St) (A E N size : Nat) (w : World) (hm : mayC xs (A : Int) (E : Int) ((N + 1 : Nat) : Int) = true) (hs : GoodS rs s) (hl : rs.length ≤ 4096) (hx : Ints .i64 w w.heap.size a xs) (hr : Ints .u64 w w.heap.size a2 rs) (hc : rs.length ≤ c2 ∧ c2 ≤ 9223372036854775807) (h1 : 1 ≤ size) (h2 : size ≤ 4096) (hbd : A = N + 1 ∧ E = 1048576) :
    Calls Try.prog 50 #[.agg #[.slice a xs.length c, .int .i64 (A : Int), .int .i64 (E : Int)], .agg #[.slice a2 rs.length c2, .int .u64 (s.a : Nat), .int .u64 (s.b : Nat), .int .u64 (s.c : Nat), .int .u64 (s.d : Nat)], .int .i64 ((N + 1 : Nat) : Int), .int .i64 (size : Int)] w (RetNext w [] [] 0 0 [] St.nil 5) := by
  have hmc := mayC_iff.1 hm
  obtain ⟨_, hn2, hax, _, hA2, _, hE2⟩ := hmc
  have hon := axesB_once.1 hax
  have hgd := fun (W : World) (h : Ints .i64 W w.heap.size a xs) (hh : w.heap.size ≤ W.heap.size) => Lib.hid (good31_any a c w.heap.size xs (A : Int) (E : Int) ((N + 1 : Nat) : Int) W h hh)
  rw [hm] at hgd
  have hrg := fun W => Lib.hid (rgood_any a2 rs.length c2 s W hs.1 (by omega))
  have hgR : goodR rs.length s = true := by unfold goodR; rw [hs.2.1]; simp [hl]
  rw [hgR] at hrg
  have hxl := hon.len
  obtain ⟨m, hmN⟩ : ∃ m, N + 1 = m := ⟨_, rfl⟩
  rw [hmN] at hn2 hA2 hgd hbd hon hxl ⊢
  have hm1 : 1 ≤ m := by omega
  have hm2 : m ≤ 1024 := by omega
  have hA : A ≤ m := by omega
  have hE : E ≤ 1048576 := by omega
  have HXL := Lib.hid hxl
  have HON := Lib.hid hon
  have HMN := Lib.hid hmN
  have HS := Lib.hid hs
  have HR := Lib.hid hr
  have HX := Lib.hid hx
  have HCC := Lib.hid hc
  have HCL := Lib.hid (fun W (h : Ints .i64 W W.heap.size a xs) => clone_any a c xs W h (by omega))
  have HCR := Lib.hid (fun W (h : Ints .u64 W W.heap.size a2 rs) => clone64_any a2 c2 rs W h (by omega))
  have HBD := Lib.hid hbd
  clear hmN hs hr hx hgR hm hax hon hxl hn2 hA2 hE2 hbd hc
  go_enter Try.func50, Try.ntmps50
  have F1 := Lib.hid ((((((Fr.start (w := w) (I := [(.i64, a, xs), (.u64, a2, rs)]) (by intro p hp; simp at hp; rcases hp with rfl | rfl; exact HX.out; exact HR.out)).box1 (b := w.heap.size) (by simp) [.slice a xs.length c, .int .i64 (A : Int), .int .i64 (E : Int)] 73).box1 (b := w.heap.size + 1) (by simp) [.slice a2 rs.length c2, .int .u64 (s.a : Nat), .int .u64 (s.b : Nat), .int .u64 (s.c : Nat), .int .u64 (s.d : Nat)] 27).box1 (b := w.heap.size + 1 + 1) (by simp) [.slice none 0 0] 46).box1 (b := w.heap.size + 1 + 1 + 1) (by simp) [.slice none 0 0, .int .i64 0, .int .i64 0] 73).box1 (b := w.heap.size + 1 + 1 + 1 + 1) (by simp) [.slice none 0 0, .int .u64 0, .int .u64 0, .int .u64 0, .int .u64 0] 27)
  simp only [List.nil_append, List.cons_append] at F1
  go_upto_region 1 with fail
  obtain ⟨W0, hW0⟩ : ∃ W0, (((((w.alloc (.cells #[.slice a xs.length c, .int .i64 (A : Int), .int .i64 (E : Int)] 73)).alloc (.cells #[.slice a2 rs.length c2, .int .u64 (s.a : Nat), .int .u64 (s.b : Nat), .int .u64 (s.c : Nat), .int .u64 (s.d : Nat)] 27)).alloc (.cells #[.slice none 0 0] 46)).alloc (.cells #[.slice none 0 0, .int .i64 0, .int .i64 0] 73)).alloc (.cells #[.slice none 0 0, .int .u64 0, .int .u64 0, .int .u64 0, .int .u64 0] 27)) = W0 := ⟨_, rfl⟩
  rw [hW0] at F1 ⊢
  clear hW0
  have c0_0 := F1.out.c 0 0 rfl rfl
  have c0_1 := F1.out.c 0 1 rfl rfl
  have c0_2 := F1.out.c 0 2 rfl rfl
  have c1_0 := F1.out.c 1 0 rfl rfl
  have c1_1 := F1.out.c 1 1 rfl rfl
  have c1_2 := F1.out.c 1 2 rfl rfl
  have c1_3 := F1.out.c 1 3 rfl rfl
  have c1_4 := F1.out.c 1 4 rfl rfl
  go_upto_region 3 with (first | (go_at_call 77; refine (hgd _ (F1.out.l 0 rfl) F1.out.hlo).out.mono ?_; rintro e w1 ⟨rfl, hb⟩; have F2 := Lib.hid (F1.out.next hb); clear hb; have d0_0 := F2.out.c 0 0 rfl rfl; have d0_1 := F2.out.c 0 1 rfl rfl; have d0_2 := F2.out.c 0 2 rfl rfl; have d1_0 := F2.out.c 1 0 rfl rfl; have d1_1 := F2.out.c 1 1 rfl rfl; have d1_2 := F2.out.c 1 2 rfl rfl; have d1_3 := F2.out.c 1 3 rfl rfl; have d1_4 := F2.out.c 1 4 rfl rfl) | (go_at_call 59; refine (hrg _).out.mono ?_; rintro e w2 ⟨rfl, hb⟩; have F3 := Lib.hid (F2.out.next hb); clear hb c0_0 c0_1 c0_2 c1_0 c1_1 c1_2 c1_3 c1_4 d0_0 d0_1 d0_2 d1_0 d1_1 d1_2 d1_3 d1_4))
  clear F1 F2 hgd hrg
  refine wp_region_parts2 (w := w2) 8 1 none [] [(fun u _ => u = .pointer (some ⟨w.heap.size, 0, none⟩)), (fun u _ => u = .slice a xs.length c), ((IsRow w2.heap.size 3 xs.length (xs.map (Value.int .i64)))), (fun u _ => u = .pointer (some ⟨w.heap.size, 1, none⟩)), (fun u _ => u = .int .i64 (A : Int)), (fun u _ => u = .pointer (some ⟨w.heap.size, 2, none⟩)), (fun u _ => u = .int .i64 (E : Int)), ((fun u W => ∃ ao co, u = .agg #[.slice ao xs.length co, .int .i64 (A : Int), .int .i64 (E : Int)] ∧ W.ownsRow w2.heap.size 3 1 (.slice ao xs.length co) xs.length (xs.map (Value.int .i64))))] [some 33, some 34, some 35, some 36, some 37, some 38, some 39, some 40, none] #[true, true, true, true, true, true, true, true, false] #[true, true, true, true, true, true, true, true, false] (by kernel_rfl) rfl (by kernel_rfl) (by kernel_rfl) rfl (by kernel_rfl) (by kernel_rfl) (.cons (carries_eq _) (.cons (carries_eq _) (.cons (isRow_carries _ _ _ _) (.cons (carries_eq _) (.cons (carries_eq _) (.cons (carries_eq _) (.cons (carries_eq _) (.cons ((fun u W W2 h hb => by obtain ⟨ao, co, h1, h2⟩ := h; exact ⟨ao, co, h1, own_below h2 hb (Nat.le_refl _)⟩)) .nil)))))))) (fun vs b hvl hvb => ?_)
  obtain ⟨x0, x1, x2, x3, x4, x5, x6, x7, x8, rfl⟩ : ∃ x0 x1 x2 x3 x4 x5 x6 x7 x8, vs = [x0, x1, x2, x3, x4, x5, x6, x7, x8] := lst9 hvl
  clear hvl
  simp only [putAll, Act.put, List.setIfInBounds_toArray, List.set_cons_zero, List.set_cons_succ] at hvb
  subst hvb
  refine ⟨(.snoc (.snoc (.snoc (.snoc (.snoc (.snoc (.snoc (.snoc .zero (PartOb.intro (d := (some 33)) (r := fun u _ => u = .pointer (some ⟨w.heap.size, 0, none⟩)) rfl rfl rfl rfl ?po3x0)) (PartOb.intro (d := (some 34)) (r := fun u _ => u = .slice a xs.length c) rfl rfl rfl rfl ?po3x1)) (PartOb.intro (d := (some 35)) (r := (IsRow w2.heap.size 3 xs.length (xs.map (Value.int .i64)))) rfl rfl rfl rfl ?po3x2)) (PartOb.intro (d := (some 36)) (r := fun u _ => u = .pointer (some ⟨w.heap.size, 1, none⟩)) rfl rfl rfl rfl ?po3x3)) (PartOb.intro (d := (some 37)) (r := fun u _ => u = .int .i64 (A : Int)) rfl rfl rfl rfl ?po3x4)) (PartOb.intro (d := (some 38)) (r := fun u _ => u = .pointer (some ⟨w.heap.size, 2, none⟩)) rfl rfl rfl rfl ?po3x5)) (PartOb.intro (d := (some 39)) (r := fun u _ => u = .int .i64 (E : Int)) rfl rfl rfl rfl ?po3x6)) (PartOb.intro (d := (some 40)) (r := (fun u W => ∃ ao co, u = .agg #[.slice ao xs.length co, .int .i64 (A : Int), .int .i64 (E : Int)] ∧ W.ownsRow w2.heap.size 3 1 (.slice ao xs.length co) xs.length (xs.map (Value.int .i64)))) rfl rfl rfl rfl ?po3x7)), ?pend3, ?pfl3⟩
  case po3x0 =>
    intro w1 hb1 hd KK hK
    clear hd
    simp only [Act.put, List.setIfInBounds_toArray, List.set_cons_zero, List.set_cons_succ] at hK
    go_simp
    first | exact hK.out _ _ (Below.refl _ _) rfl | (have hk := hK.out _ _ (Below.refl _ _) rfl; revert hk; go_simp)
  case po3x1 =>
    intro w1 hb1 hd KK hK
    have d0 : x0 = .pointer (some ⟨w.heap.size, 0, none⟩) := hd 0 (by kernel_rfl)
    clear hd
    subst d0
    have G := F3.out.next hb1
    have k := G.c 0 0 rfl rfl
    simp only [Act.put, List.setIfInBounds_toArray, List.set_cons_zero, List.set_cons_succ] at hK
    go_simp
    first | exact hK.out _ _ (Below.refl _ _) rfl | (have hk := hK.out _ _ (Below.refl _ _) rfl; revert hk; go_simp)
  case po3x2 =>
    intro w1 hb1 hd KK hK
    have d1 : x1 = .slice a xs.length c := hd 1 (by kernel_rfl)
    clear hd
    subst d1
    simp only [Act.put, List.setIfInBounds_toArray, List.set_cons_zero, List.set_cons_succ] at hK
    go_simp
    go_at_call 78
    refine (HCL.out _ ((F3.out.next hb1).lw 0 rfl)).mono ?_
    rintro e w3 ⟨v, rfl, hown, hb2⟩
    obtain ⟨ao, co, rfl, _⟩ := own_shape hown
    (try go_wp2_with fail)
    first | exact hK.out _ _ hb2 ⟨ao, co, rfl, own_mono hown hb1.size⟩ | (have hk := hK.out _ _ hb2 ⟨ao, co, rfl, own_mono hown hb1.size⟩; revert hk; go_simp)
  case po3x3 =>
    intro w1 hb1 hd KK hK
    clear hd
    simp only [Act.put, List.setIfInBounds_toArray, List.set_cons_zero, List.set_cons_succ] at hK
    go_simp
    first | exact hK.out _ _ (Below.refl _ _) rfl | (have hk := hK.out _ _ (Below.refl _ _) rfl; revert hk; go_simp)
  case po3x4 =>
    intro w1 hb1 hd KK hK
    have d3 : x3 = .pointer (some ⟨w.heap.size, 1, none⟩) := hd 3 (by kernel_rfl)
    clear hd
    subst d3
    have G := F3.out.next hb1
    have k := G.c 0 1 rfl rfl
    simp only [Act.put, List.setIfInBounds_toArray, List.set_cons_zero, List.set_cons_succ] at hK
    go_simp
    first | exact hK.out _ _ (Below.refl _ _) rfl | (have hk := hK.out _ _ (Below.refl _ _) rfl; revert hk; go_simp)
  case po3x5 =>
    intro w1 hb1 hd KK hK
    clear hd
    simp only [Act.put, List.setIfInBounds_toArray, List.set_cons_zero, List.set_cons_succ] at hK
    go_simp
    first | exact hK.out _ _ (Below.refl _ _) rfl | (have hk := hK.out _ _ (Below.refl _ _) rfl; revert hk; go_simp)
  case po3x6 =>
    intro w1 hb1 hd KK hK
    have d5 : x5 = .pointer (some ⟨w.heap.size, 2, none⟩) := hd 5 (by kernel_rfl)
    clear hd
    subst d5
    have G := F3.out.next hb1
    have k := G.c 0 2 rfl rfl
    simp only [Act.put, List.setIfInBounds_toArray, List.set_cons_zero, List.set_cons_succ] at hK
    go_simp
    first | exact hK.out _ _ (Below.refl _ _) rfl | (have hk := hK.out _ _ (Below.refl _ _) rfl; revert hk; go_simp)
  case po3x7 =>
    intro w1 hb1 hd KK hK
    have d2 : (IsRow w2.heap.size 3 xs.length (xs.map (Value.int .i64))) x2 w1 := hd 2 (by kernel_rfl)
    have d4 : x4 = .int .i64 (A : Int) := hd 4 (by kernel_rfl)
    have d6 : x6 = .int .i64 (E : Int) := hd 6 (by kernel_rfl)
    clear hd
    obtain ⟨ao, co, rfl, hown⟩ := d2
    subst d4
    subst d6
    simp only [Act.put, List.setIfInBounds_toArray, List.set_cons_zero, List.set_cons_succ] at hK
    go_simp
    first | exact hK.out _ _ (Below.refl _ _) ⟨ao, co, rfl, hown⟩ | (have hk := hK.out _ _ (Below.refl _ _) ⟨ao, co, rfl, hown⟩; revert hk; go_simp)
  case pfl3 => (intro f hf; cases hf)
  case pend3 =>
  intro w1 hb1 hR hD
  have d0 : x0 = .pointer (some ⟨w.heap.size, 0, none⟩) := hR 0 (by decide)
  have d1 : x1 = .slice a xs.length c := hR 1 (by decide)
  have d2 : (IsRow w2.heap.size 3 xs.length (xs.map (Value.int .i64))) x2 w1 := hR 2 (by decide)
  have d3 : x3 = .pointer (some ⟨w.heap.size, 1, none⟩) := hR 3 (by decide)
  have d4 : x4 = .int .i64 (A : Int) := hR 4 (by decide)
  have d5 : x5 = .pointer (some ⟨w.heap.size, 2, none⟩) := hR 5 (by decide)
  have d6 : x6 = .int .i64 (E : Int) := hR 6 (by decide)
  have d7 : (fun u W => ∃ ao co, u = .agg #[.slice ao xs.length co, .int .i64 (A : Int), .int .i64 (E : Int)] ∧ W.ownsRow w2.heap.size 3 1 (.slice ao xs.length co) xs.length (xs.map (Value.int .i64))) x7 w1 := hR 7 (by decide)
  clear hR hD
  subst d0
  subst d1
  obtain ⟨ao, co, rfl, hown⟩ := d2
  subst d3
  subst d4
  subst d5
  subst d6
  obtain ⟨ao, co, rfl, hown⟩ := d7
  refine wpAny_ready (rs := [8]) (by kernel_rfl) (by simp) (AllReady.cons rfl (fun KK hK => ?_) AllReady.nil)
  have G := F3.out.next hb1
  have kf0 := G.f 3 0 rfl rfl
  have kf1 := G.f 3 1 rfl rfl
  have kf2 := G.f 3 2 rfl rfl
  have k0 := G.c 3 0 rfl rfl
  have k1 := G.c 3 1 rfl rfl
  have k2 := G.c 3 2 rfl rfl
  go_simp
  refine hK _ _ ?_
  clear hK KK
  try simp only [putAll, Act.put, List.setIfInBounds_toArray, List.set_cons_zero, List.set_cons_succ]
  refine wpAny_done (by kernel_rfl) ?_ _
  have F4 := Lib.hid ((F3.out.addO hb1 hown).set 3 rfl (by simp) [.slice ao xs.length co, .int .i64 (A : Int), .int .i64 (E : Int)] rfl)
  simp only [List.nil_append, List.set_cons_zero, List.set_cons_succ] at F4
  obtain ⟨W4, hW4⟩ : ∃ W4, setL w1 (w.heap.size + 1 + 1 + 1) 0 [.slice ao xs.length co, .int .i64 (A : Int), .int .i64 (E : Int)] = W4 := ⟨_, rfl⟩
  rw [hW4] at F4
  simp only [setL, Nat.reduceAdd] at hW4
  rw [hW4]
  clear hW4 F3 G hb1 hown k0 kf0 k1 kf1 k2 kf2 x8
  go_upto_region 4 with fail
  refine wp_region_parts2 (w := W4) 6 1 none [] [(fun u _ => u = .pointer (some ⟨w.heap.size + 1, 0, none⟩)), (fun u _ => u = .slice a2 rs.length c2), ((IsRow W4.heap.size 24 rs.length (rs.map (Value.int .u64)))), (fun u _ => u = .pointer (some ⟨w.heap.size + 1, 1, none⟩)), (fun u _ => u = .agg #[.int .u64 (s.a : Nat), .int .u64 (s.b : Nat), .int .u64 (s.c : Nat), .int .u64 (s.d : Nat)]), ((fun u W => ∃ ar cr, u = .agg #[.slice ar rs.length cr, .int .u64 (s.a : Nat), .int .u64 (s.b : Nat), .int .u64 (s.c : Nat), .int .u64 (s.d : Nat)] ∧ W.ownsRow W4.heap.size 24 1 (.slice ar rs.length cr) rs.length (rs.map (Value.int .u64))))] [some 41, some 42, some 43, some 44, some 45, some 46, none] #[true, true, true, true, true, true, false] #[true, true, true, true, true, true, false] (by kernel_rfl) rfl (by kernel_rfl) (by kernel_rfl) rfl (by kernel_rfl) (by kernel_rfl) (.cons (carries_eq _) (.cons (carries_eq _) (.cons (isRow_carries _ _ _ _) (.cons (carries_eq _) (.cons (carries_eq _) (.cons ((fun u W W2 h hb => by obtain ⟨ar, cr, h1, h2⟩ := h; exact ⟨ar, cr, h1, own_below h2 hb (Nat.le_refl _)⟩)) .nil)))))) (fun vs b hvl hvb => ?_)
  obtain ⟨x0, x1, x2, x3, x4, x5, x6, rfl⟩ : ∃ x0 x1 x2 x3 x4 x5 x6, vs = [x0, x1, x2, x3, x4, x5, x6] := lst7 hvl
  clear hvl
  simp only [putAll, Act.put, List.setIfInBounds_toArray, List.set_cons_zero, List.set_cons_succ] at hvb
  subst hvb
  refine ⟨(.snoc (.snoc (.snoc (.snoc (.snoc (.snoc .zero (PartOb.intro (d := (some 41)) (r := fun u _ => u = .pointer (some ⟨w.heap.size + 1, 0, none⟩)) rfl rfl rfl rfl ?po4x0)) (PartOb.intro (d := (some 42)) (r := fun u _ => u = .slice a2 rs.length c2) rfl rfl rfl rfl ?po4x1)) (PartOb.intro (d := (some 43)) (r := (IsRow W4.heap.size 24 rs.length (rs.map (Value.int .u64)))) rfl rfl rfl rfl ?po4x2)) (PartOb.intro (d := (some 44)) (r := fun u _ => u = .pointer (some ⟨w.heap.size + 1, 1, none⟩)) rfl rfl rfl rfl ?po4x3)) (PartOb.intro (d := (some 45)) (r := fun u _ => u = .agg #[.int .u64 (s.a : Nat), .int .u64 (s.b : Nat), .int .u64 (s.c : Nat), .int .u64 (s.d : Nat)]) rfl rfl rfl rfl ?po4x4)) (PartOb.intro (d := (some 46)) (r := (fun u W => ∃ ar cr, u = .agg #[.slice ar rs.length cr, .int .u64 (s.a : Nat), .int .u64 (s.b : Nat), .int .u64 (s.c : Nat), .int .u64 (s.d : Nat)] ∧ W.ownsRow W4.heap.size 24 1 (.slice ar rs.length cr) rs.length (rs.map (Value.int .u64)))) rfl rfl rfl rfl ?po4x5)), ?pend4, ?pfl4⟩
  case po4x0 =>
    intro w1 hb1 hd KK hK
    clear hd
    simp only [Act.put, List.setIfInBounds_toArray, List.set_cons_zero, List.set_cons_succ] at hK
    go_simp
    first | exact hK.out _ _ (Below.refl _ _) rfl | (have hk := hK.out _ _ (Below.refl _ _) rfl; revert hk; go_simp)
  case po4x1 =>
    intro w1 hb1 hd KK hK
    have d0 : x0 = .pointer (some ⟨w.heap.size + 1, 0, none⟩) := hd 0 (by kernel_rfl)
    clear hd
    subst d0
    have G := F4.out.next hb1
    have k := G.c 1 0 rfl rfl
    simp only [Act.put, List.setIfInBounds_toArray, List.set_cons_zero, List.set_cons_succ] at hK
    go_simp
    first | exact hK.out _ _ (Below.refl _ _) rfl | (have hk := hK.out _ _ (Below.refl _ _) rfl; revert hk; go_simp)
  case po4x2 =>
    intro w1 hb1 hd KK hK
    have d1 : x1 = .slice a2 rs.length c2 := hd 1 (by kernel_rfl)
    clear hd
    subst d1
    simp only [Act.put, List.setIfInBounds_toArray, List.set_cons_zero, List.set_cons_succ] at hK
    go_simp
    go_at_call 79
    refine (HCR.out _ ((F4.out.next hb1).lw 1 rfl)).mono ?_
    rintro e w3 ⟨v, rfl, hown, hb2⟩
    obtain ⟨ar, cr, rfl, _⟩ := own_shape hown
    (try go_wp2_with fail)
    first | exact hK.out _ _ hb2 ⟨ar, cr, rfl, own_mono hown hb1.size⟩ | (have hk := hK.out _ _ hb2 ⟨ar, cr, rfl, own_mono hown hb1.size⟩; revert hk; go_simp)
  case po4x3 =>
    intro w1 hb1 hd KK hK
    clear hd
    simp only [Act.put, List.setIfInBounds_toArray, List.set_cons_zero, List.set_cons_succ] at hK
    go_simp
    first | exact hK.out _ _ (Below.refl _ _) rfl | (have hk := hK.out _ _ (Below.refl _ _) rfl; revert hk; go_simp)
  case po4x4 =>
    intro w1 hb1 hd KK hK
    have d3 : x3 = .pointer (some ⟨w.heap.size + 1, 1, none⟩) := hd 3 (by kernel_rfl)
    clear hd
    subst d3
    have G := F4.out.next hb1
    have k1 := G.c 1 1 rfl rfl
    have k2 := G.c 1 2 rfl rfl
    have k3 := G.c 1 3 rfl rfl
    have k4 := G.c 1 4 rfl rfl
    simp only [Act.put, List.setIfInBounds_toArray, List.set_cons_zero, List.set_cons_succ] at hK
    go_simp
    first | exact hK.out _ _ (Below.refl _ _) rfl | (have hk := hK.out _ _ (Below.refl _ _) rfl; revert hk; go_simp)
  case po4x5 =>
    intro w1 hb1 hd KK hK
    have d2 : (IsRow W4.heap.size 24 rs.length (rs.map (Value.int .u64))) x2 w1 := hd 2 (by kernel_rfl)
    have d4 : x4 = .agg #[.int .u64 (s.a : Nat), .int .u64 (s.b : Nat), .int .u64 (s.c : Nat), .int .u64 (s.d : Nat)] := hd 4 (by kernel_rfl)
    clear hd
    obtain ⟨ar, cr, rfl, hown⟩ := d2
    subst d4
    simp only [Act.put, List.setIfInBounds_toArray, List.set_cons_zero, List.set_cons_succ] at hK
    go_simp
    first | exact hK.out _ _ (Below.refl _ _) ⟨ar, cr, rfl, hown⟩ | (have hk := hK.out _ _ (Below.refl _ _) ⟨ar, cr, rfl, hown⟩; revert hk; go_simp)
  case pfl4 => (intro f hf; cases hf)
  case pend4 =>
  intro w1 hb1 hR hD
  have d0 : x0 = .pointer (some ⟨w.heap.size + 1, 0, none⟩) := hR 0 (by decide)
  have d1 : x1 = .slice a2 rs.length c2 := hR 1 (by decide)
  have d2 : (IsRow W4.heap.size 24 rs.length (rs.map (Value.int .u64))) x2 w1 := hR 2 (by decide)
  have d3 : x3 = .pointer (some ⟨w.heap.size + 1, 1, none⟩) := hR 3 (by decide)
  have d4 : x4 = .agg #[.int .u64 (s.a : Nat), .int .u64 (s.b : Nat), .int .u64 (s.c : Nat), .int .u64 (s.d : Nat)] := hR 4 (by decide)
  have d5 : (fun u W => ∃ ar cr, u = .agg #[.slice ar rs.length cr, .int .u64 (s.a : Nat), .int .u64 (s.b : Nat), .int .u64 (s.c : Nat), .int .u64 (s.d : Nat)] ∧ W.ownsRow W4.heap.size 24 1 (.slice ar rs.length cr) rs.length (rs.map (Value.int .u64))) x5 w1 := hR 5 (by decide)
  clear hR hD
  subst d0
  subst d1
  obtain ⟨ar, cr, rfl, hown⟩ := d2
  subst d3
  subst d4
  obtain ⟨ar, cr, rfl, hown⟩ := d5
  refine wpAny_ready (rs := [6]) (by kernel_rfl) (by simp) (AllReady.cons rfl (fun KK hK => ?_) AllReady.nil)
  have G := F4.out.next hb1
  have kf0 := G.f 4 0 rfl rfl
  have kf1 := G.f 4 1 rfl rfl
  have kf2 := G.f 4 2 rfl rfl
  have kf3 := G.f 4 3 rfl rfl
  have kf4 := G.f 4 4 rfl rfl
  have k0 := G.c 4 0 rfl rfl
  have k1 := G.c 4 1 rfl rfl
  have k2 := G.c 4 2 rfl rfl
  have k3 := G.c 4 3 rfl rfl
  have k4 := G.c 4 4 rfl rfl
  go_simp
  refine hK _ _ ?_
  clear hK KK
  try simp only [putAll, Act.put, List.setIfInBounds_toArray, List.set_cons_zero, List.set_cons_succ]
  refine wpAny_done (by kernel_rfl) ?_ _
  have F5 := Lib.hid ((F4.out.addO hb1 hown).set 4 rfl (by simp) [.slice ar rs.length cr, .int .u64 (s.a : Nat), .int .u64 (s.b : Nat), .int .u64 (s.c : Nat), .int .u64 (s.d : Nat)] rfl)
  simp only [List.nil_append, List.cons_append, List.set_cons_zero, List.set_cons_succ] at F5
  obtain ⟨W5, hW5⟩ : ∃ W5, setL w1 (w.heap.size + 1 + 1 + 1 + 1) 0 [.slice ar rs.length cr, .int .u64 (s.a : Nat), .int .u64 (s.b : Nat), .int .u64 (s.c : Nat), .int .u64 (s.d : Nat)] = W5 := ⟨_, rfl⟩
  rw [hW5] at F5
  simp only [setL, Nat.reduceAdd] at hW5
  rw [hW5]
  clear hW5 F4 G hb1 hown k0 kf0 k1 kf1 k2 kf2 k3 kf3 k4 kf4 x6
  have c3_0 := F5.out.c 3 0 rfl rfl
  have c3_1 := F5.out.c 3 1 rfl rfl
  have c3_2 := F5.out.c 3 2 rfl rfl
  go_upto_if 50 with fail
  have e1 : ((A : Int) == (m : Int)) = true := by have := HBD.out; simp; omega
  have e2 : ((E : Int) == 1048576) = true := by have := HBD.out; simp; omega
  have c2_0 := F5.out.c 2 0 rfl rfl
  have c4_0 := F5.out.c 4 0 rfl rfl
  have c4_1 := F5.out.c 4 1 rfl rfl
  have c4_2 := F5.out.c 4 2 rfl rfl
  have c4_3 := F5.out.c 4 3 rfl rfl
  have c4_4 := F5.out.c 4 4 rfl rfl
  have cf2_0 := F5.out.f 2 0 rfl rfl
  have cf3_0 := F5.out.f 3 0 rfl rfl
  have cf3_1 := F5.out.f 3 1 rfl rfl
  have cf3_2 := F5.out.f 3 2 rfl rfl
  have cf4_0 := F5.out.f 4 0 rfl rfl
  have cf4_1 := F5.out.f 4 1 rfl rfl
  have cf4_2 := F5.out.f 4 2 rfl rfl
  have cf4_3 := F5.out.f 4 3 rfl rfl
  have cf4_4 := F5.out.f 4 4 rfl rfl
  go_wp2
  have FZ := (((F5.out.set 2 rfl (by simp) [.slice none 0 0] rfl).set 3 rfl (by simp) [.slice none 0 0, .int .i64 0, .int .i64 0] rfl).set 4 rfl (by simp) [.slice none 0 0, .int .u64 0, .int .u64 0, .int .u64 0, .int .u64 0] rfl)
  simp only [setL, Nat.reduceAdd, List.set_cons_zero, List.set_cons_succ] at FZ
  have z2_0 := FZ.c 2 0 rfl rfl
  have z3_0 := FZ.c 3 0 rfl rfl
  have z3_1 := FZ.c 3 1 rfl rfl
  have z3_2 := FZ.c 3 2 rfl rfl
  have z4_0 := FZ.c 4 0 rfl rfl
  have z4_1 := FZ.c 4 1 rfl rfl
  have z4_2 := FZ.c 4 2 rfl rfl
  have z4_3 := FZ.c 4 3 rfl rfl
  have z4_4 := FZ.c 4 4 rfl rfl
  refine bodyPost_ret (v := .tuple #[.slice none 0 0, .agg #[.slice none 0 0, .int .i64 0, .int .i64 0], .agg #[.slice none 0 0, .int .u64 0, .int .u64 0, .int .u64 0, .int .u64 0], .int .i64 5]) ?_ rfl (retNext_none (FZ.less (List.Sublist.refl _) (List.Sublist.refl _) (List.nil_sublist _) (List.Sublist.refl _)))
  rw [results_ccct rfl]
  go_simp
end Go.Proofs.Ytiejkdnkdmanmaa
