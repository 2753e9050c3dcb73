/- Walks: the first cursor. -/
import Derived.Test.YtiejkdnkdmanmaaLoad4
set_option linter.unusedVariables false
set_option linter.unusedSimpArgs false
namespace Go.Proofs.Ytiejkdnkdmanmaa
open Go.RowKit Go.Rt
theorem lst6 {α : Type} {l : List α} (h : l.length = 6) : ∃ x0 x1 x2 x3 x4 x5, l = [x0, x1, x2, x3, x4, x5] := by
  match l, h with
  | [x0, x1, x2, x3, x4, x5], _ => exact ⟨x0, x1, x2, x3, x4, x5, rfl⟩

theorem results_cct {fn : Func} {u p z : Tmp} {tu tp : TypeId} (h : fn.results = #[.cell u tu, .cell p tp, .tmp z]) (tmps : Array Value) (P : Program) (w : World) :
    (results fn tmps).run P w = ((asAddr (tmps.getD u undef)).run P w).andThen fun a w₁ => ((loadVar tu a).run P w₁).andThen fun v w₂ => ((asAddr (tmps.getD p undef)).run P w₂).andThen fun a2 w₃ => ((loadVar tp a2).run P w₃).andThen fun v2 w₄ => .ok (.tuple #[v, v2, tmps.getD z undef]) w₄ := by
  simp only [results, h]
  simp [Sem.run_bind, Result.andThen]
/-- What loader.Start hands back. -/
def RetStart (w : World) (l : List Int) (rs : List Int) (s : St) (z : Int) (e : Ending) (w' : World) : Prop :=
  ∃ ao co ar cr, e = .returned (.tuple #[.agg #[.slice ao l.length co, .int .i64 0, .int .i64 0], .agg #[.slice ar rs.length cr, .int .u64 (s.a : Nat), .int .u64 (s.b : Nat), .int .u64 (s.c : Nat), .int .u64 (s.d : Nat)], .int .i64 z]) ∧
    Fr w.heap.size w w' [] [] [⟨3, .slice ao l.length co, l.length, l.map (Value.int .i64)⟩, ⟨24, .slice ar rs.length cr, rs.length, rs.map (Value.int .u64)⟩] []
theorem retStart_none {w w' : World} {z : Int} {B : List (Nat × List Value)} {I : List (IntKind × Option Addr × List Int)} (h : Fr w.heap.size w w' B I [] []) : RetStart w [] [] St.nil z (.returned (.tuple #[.agg #[.slice none 0 0, .int .i64 0, .int .i64 0], .agg #[.slice none 0 0, .int .u64 0, .int .u64 0, .int .u64 0, .int .u64 0], .int .i64 z])) w' :=
  ⟨none, 0, none, 0, rfl, ((h.rows.addNil _).addNil _)⟩

set_option maxRecDepth 100000 in
set_option maxHeartbeats 4000000 in
theorem start_bad (a2 : Option Addr) (c2 : Nat) (rs : List Int) (s : St) (n : Int) (w : World) (hs : s.ok) (hl : rs.length ≤ 9223372036854775807) (hbad : ¬ (goodR rs.length s = true ∧ 1 ≤ n ∧ n ≤ 1024)) :
    Calls Try.prog 54 #[.agg #[.slice a2 rs.length c2, .int .u64 (s.a : Nat), .int .u64 (s.b : Nat), .int .u64 (s.c : Nat), .int .u64 (s.d : Nat)], .int .i64 n] w (RetStart w [] [] St.nil 1) := by
  have hrg := fun W => Lib.hid (rgood_any a2 rs.length c2 s W hs hl)
  cases hg : goodR rs.length s with
  | false =>
    rw [hg] at hrg
    clear hbad hg
    go_enter Try.func54, Try.ntmps54
    have F1 := Lib.hid ((((Fr.start (w := w) (I := []) (by simp)).box1 (b := w.heap.size) (by simp) [.slice a2 rs.length c2, .int .u64 (s.a : Nat), .int .u64 (s.b : Nat), .int .u64 (s.c : Nat), .int .u64 (s.d : Nat)] 27).box1 (b := w.heap.size + 1) (by simp) [.slice none 0 0, .int .i64 0, .int .i64 0] 73).box1 (b := w.heap.size + 1 + 1) (by simp) [.slice none 0 0, .int .u64 0, .int .u64 0, .int .u64 0, .int .u64 0] 27)
    simp only [List.nil_append, List.cons_append] at F1
    go_upto_region 1 with fail
    obtain ⟨W0, hW0⟩ : ∃ W0, (((w.alloc (.cells #[.slice a2 rs.length c2, .int .u64 (s.a : Nat), .int .u64 (s.b : Nat), .int .u64 (s.c : Nat), .int .u64 (s.d : Nat)] 27)).alloc (.cells #[.slice none 0 0, .int .i64 0, .int .i64 0] 73)).alloc (.cells #[.slice none 0 0, .int .u64 0, .int .u64 0, .int .u64 0, .int .u64 0] 27)) = W0 := ⟨_, rfl⟩
    rw [hW0] at F1 ⊢
    clear hW0
    have c0_0 := F1.out.c 0 0 rfl rfl
    have c0_1 := F1.out.c 0 1 rfl rfl
    have c0_2 := F1.out.c 0 2 rfl rfl
    have c0_3 := F1.out.c 0 3 rfl rfl
    have c0_4 := F1.out.c 0 4 rfl rfl
    have c1_0 := F1.out.c 1 0 rfl rfl
    have c1_1 := F1.out.c 1 1 rfl rfl
    have c1_2 := F1.out.c 1 2 rfl rfl
    have c2_0 := F1.out.c 2 0 rfl rfl
    have c2_1 := F1.out.c 2 1 rfl rfl
    have c2_2 := F1.out.c 2 2 rfl rfl
    have c2_3 := F1.out.c 2 3 rfl rfl
    have c2_4 := F1.out.c 2 4 rfl rfl
    have cf1_0 := F1.out.f 1 0 rfl rfl
    have cf1_1 := F1.out.f 1 1 rfl rfl
    have cf1_2 := F1.out.f 1 2 rfl rfl
    have cf2_0 := F1.out.f 2 0 rfl rfl
    have cf2_1 := F1.out.f 2 1 rfl rfl
    have cf2_2 := F1.out.f 2 2 rfl rfl
    have cf2_3 := F1.out.f 2 3 rfl rfl
    have cf2_4 := F1.out.f 2 4 rfl rfl
    go_wp2_with (go_at_call 59; refine (hrg _).out.mono ?_; rintro e w2 ⟨rfl, hb⟩; have F3 := Lib.hid (F1.out.next hb); clear hb c0_0 c0_1 c0_2 c0_3 c0_4 c1_0 c1_1 c1_2 c2_0 c2_1 c2_2 c2_3 c2_4 cf1_0 cf1_1 cf1_2 cf2_0 cf2_1 cf2_2 cf2_3 cf2_4; have e0_0 := F3.out.c 0 0 rfl rfl; have e0_1 := F3.out.c 0 1 rfl rfl; have e0_2 := F3.out.c 0 2 rfl rfl; have e0_3 := F3.out.c 0 3 rfl rfl; have e0_4 := F3.out.c 0 4 rfl rfl; have e1_0 := F3.out.c 1 0 rfl rfl; have e1_1 := F3.out.c 1 1 rfl rfl; have e1_2 := F3.out.c 1 2 rfl rfl; have e2_0 := F3.out.c 2 0 rfl rfl; have e2_1 := F3.out.c 2 1 rfl rfl; have e2_2 := F3.out.c 2 2 rfl rfl; have e2_3 := F3.out.c 2 3 rfl rfl; have e2_4 := F3.out.c 2 4 rfl rfl; have ef1_0 := F3.out.f 1 0 rfl rfl; have ef1_1 := F3.out.f 1 1 rfl rfl; have ef1_2 := F3.out.f 1 2 rfl rfl; have ef2_0 := F3.out.f 2 0 rfl rfl; have ef2_1 := F3.out.f 2 1 rfl rfl; have ef2_2 := F3.out.f 2 2 rfl rfl; have ef2_3 := F3.out.f 2 3 rfl rfl; have ef2_4 := F3.out.f 2 4 rfl rfl)
    (try simp only [Exit.noGoto, Exit.inBlock, Exit.then])
    have FZ := (F3.out.set 1 rfl (by simp) [.slice none 0 0, .int .i64 0, .int .i64 0] rfl).set 2 rfl (by simp) [.slice none 0 0, .int .u64 0, .int .u64 0, .int .u64 0, .int .u64 0] rfl
    simp only [setL, Nat.reduceAdd, List.set_cons_zero, List.set_cons_succ] at FZ
    have z1_0 := FZ.c 1 0 rfl rfl
    have z1_1 := FZ.c 1 1 rfl rfl
    have z1_2 := FZ.c 1 2 rfl rfl
    have z2_0 := FZ.c 2 0 rfl rfl
    have z2_1 := FZ.c 2 1 rfl rfl
    have z2_2 := FZ.c 2 2 rfl rfl
    have z2_3 := FZ.c 2 3 rfl rfl
    have z2_4 := FZ.c 2 4 rfl rfl
    refine bodyPost_ret (v := .tuple #[.agg #[.slice none 0 0, .int .i64 0, .int .i64 0], .agg #[.slice none 0 0, .int .u64 0, .int .u64 0, .int .u64 0, .int .u64 0], .int .i64 1]) ?_ rfl (retStart_none FZ)
    rw [results_cct rfl]
    go_simp
  | true =>
    rw [hg] at hrg
    have hsz : n < 1 ∨ 1024 < n := by
      apply Classical.byContradiction
      intro h
      exact hbad ⟨hg, by omega, by omega⟩
    clear hbad hg
    rcases hsz with hsz | hsz
    · skip
      go_enter Try.func54, Try.ntmps54
      have F1 := Lib.hid ((((Fr.start (w := w) (I := []) (by simp)).box1 (b := w.heap.size) (by simp) [.slice a2 rs.length c2, .int .u64 (s.a : Nat), .int .u64 (s.b : Nat), .int .u64 (s.c : Nat), .int .u64 (s.d : Nat)] 27).box1 (b := w.heap.size + 1) (by simp) [.slice none 0 0, .int .i64 0, .int .i64 0] 73).box1 (b := w.heap.size + 1 + 1) (by simp) [.slice none 0 0, .int .u64 0, .int .u64 0, .int .u64 0, .int .u64 0] 27)
      simp only [List.nil_append, List.cons_append] at F1
      go_upto_region 1 with fail
      obtain ⟨W0, hW0⟩ : ∃ W0, (((w.alloc (.cells #[.slice a2 rs.length c2, .int .u64 (s.a : Nat), .int .u64 (s.b : Nat), .int .u64 (s.c : Nat), .int .u64 (s.d : Nat)] 27)).alloc (.cells #[.slice none 0 0, .int .i64 0, .int .i64 0] 73)).alloc (.cells #[.slice none 0 0, .int .u64 0, .int .u64 0, .int .u64 0, .int .u64 0] 27)) = W0 := ⟨_, rfl⟩
      rw [hW0] at F1 ⊢
      clear hW0
      have c0_0 := F1.out.c 0 0 rfl rfl
      have c0_1 := F1.out.c 0 1 rfl rfl
      have c0_2 := F1.out.c 0 2 rfl rfl
      have c0_3 := F1.out.c 0 3 rfl rfl
      have c0_4 := F1.out.c 0 4 rfl rfl
      have c1_0 := F1.out.c 1 0 rfl rfl
      have c1_1 := F1.out.c 1 1 rfl rfl
      have c1_2 := F1.out.c 1 2 rfl rfl
      have c2_0 := F1.out.c 2 0 rfl rfl
      have c2_1 := F1.out.c 2 1 rfl rfl
      have c2_2 := F1.out.c 2 2 rfl rfl
      have c2_3 := F1.out.c 2 3 rfl rfl
      have c2_4 := F1.out.c 2 4 rfl rfl
      have cf1_0 := F1.out.f 1 0 rfl rfl
      have cf1_1 := F1.out.f 1 1 rfl rfl
      have cf1_2 := F1.out.f 1 2 rfl rfl
      have cf2_0 := F1.out.f 2 0 rfl rfl
      have cf2_1 := F1.out.f 2 1 rfl rfl
      have cf2_2 := F1.out.f 2 2 rfl rfl
      have cf2_3 := F1.out.f 2 3 rfl rfl
      have cf2_4 := F1.out.f 2 4 rfl rfl
      go_wp2_with (go_at_call 59; refine (hrg _).out.mono ?_; rintro e w2 ⟨rfl, hb⟩; have F3 := Lib.hid (F1.out.next hb); clear hb c0_0 c0_1 c0_2 c0_3 c0_4 c1_0 c1_1 c1_2 c2_0 c2_1 c2_2 c2_3 c2_4 cf1_0 cf1_1 cf1_2 cf2_0 cf2_1 cf2_2 cf2_3 cf2_4; have e0_0 := F3.out.c 0 0 rfl rfl; have e0_1 := F3.out.c 0 1 rfl rfl; have e0_2 := F3.out.c 0 2 rfl rfl; have e0_3 := F3.out.c 0 3 rfl rfl; have e0_4 := F3.out.c 0 4 rfl rfl; have e1_0 := F3.out.c 1 0 rfl rfl; have e1_1 := F3.out.c 1 1 rfl rfl; have e1_2 := F3.out.c 1 2 rfl rfl; have e2_0 := F3.out.c 2 0 rfl rfl; have e2_1 := F3.out.c 2 1 rfl rfl; have e2_2 := F3.out.c 2 2 rfl rfl; have e2_3 := F3.out.c 2 3 rfl rfl; have e2_4 := F3.out.c 2 4 rfl rfl; have ef1_0 := F3.out.f 1 0 rfl rfl; have ef1_1 := F3.out.f 1 1 rfl rfl; have ef1_2 := F3.out.f 1 2 rfl rfl; have ef2_0 := F3.out.f 2 0 rfl rfl; have ef2_1 := F3.out.f 2 1 rfl rfl; have ef2_2 := F3.out.f 2 2 rfl rfl; have ef2_3 := F3.out.f 2 3 rfl rfl; have ef2_4 := F3.out.f 2 4 rfl rfl)
      (try simp only [Exit.noGoto, Exit.inBlock, Exit.then])
      have FZ := (F3.out.set 1 rfl (by simp) [.slice none 0 0, .int .i64 0, .int .i64 0] rfl).set 2 rfl (by simp) [.slice none 0 0, .int .u64 0, .int .u64 0, .int .u64 0, .int .u64 0] rfl
      simp only [setL, Nat.reduceAdd, List.set_cons_zero, List.set_cons_succ] at FZ
      have z1_0 := FZ.c 1 0 rfl rfl
      have z1_1 := FZ.c 1 1 rfl rfl
      have z1_2 := FZ.c 1 2 rfl rfl
      have z2_0 := FZ.c 2 0 rfl rfl
      have z2_1 := FZ.c 2 1 rfl rfl
      have z2_2 := FZ.c 2 2 rfl rfl
      have z2_3 := FZ.c 2 3 rfl rfl
      have z2_4 := FZ.c 2 4 rfl rfl
      refine bodyPost_ret (v := .tuple #[.agg #[.slice none 0 0, .int .i64 0, .int .i64 0], .agg #[.slice none 0 0, .int .u64 0, .int .u64 0, .int .u64 0, .int .u64 0], .int .i64 1]) ?_ rfl (retStart_none FZ)
      rw [results_cct rfl]
      go_simp
    · have hsz2 : ¬ n < 1 := by omega
      go_enter Try.func54, Try.ntmps54
      have F1 := Lib.hid ((((Fr.start (w := w) (I := []) (by simp)).box1 (b := w.heap.size) (by simp) [.slice a2 rs.length c2, .int .u64 (s.a : Nat), .int .u64 (s.b : Nat), .int .u64 (s.c : Nat), .int .u64 (s.d : Nat)] 27).box1 (b := w.heap.size + 1) (by simp) [.slice none 0 0, .int .i64 0, .int .i64 0] 73).box1 (b := w.heap.size + 1 + 1) (by simp) [.slice none 0 0, .int .u64 0, .int .u64 0, .int .u64 0, .int .u64 0] 27)
      simp only [List.nil_append, List.cons_append] at F1
      go_upto_region 1 with fail
      obtain ⟨W0, hW0⟩ : ∃ W0, (((w.alloc (.cells #[.slice a2 rs.length c2, .int .u64 (s.a : Nat), .int .u64 (s.b : Nat), .int .u64 (s.c : Nat), .int .u64 (s.d : Nat)] 27)).alloc (.cells #[.slice none 0 0, .int .i64 0, .int .i64 0] 73)).alloc (.cells #[.slice none 0 0, .int .u64 0, .int .u64 0, .int .u64 0, .int .u64 0] 27)) = W0 := ⟨_, rfl⟩
      rw [hW0] at F1 ⊢
      clear hW0
      have c0_0 := F1.out.c 0 0 rfl rfl
      have c0_1 := F1.out.c 0 1 rfl rfl
      have c0_2 := F1.out.c 0 2 rfl rfl
      have c0_3 := F1.out.c 0 3 rfl rfl
      have c0_4 := F1.out.c 0 4 rfl rfl
      have c1_0 := F1.out.c 1 0 rfl rfl
      have c1_1 := F1.out.c 1 1 rfl rfl
      have c1_2 := F1.out.c 1 2 rfl rfl
      have c2_0 := F1.out.c 2 0 rfl rfl
      have c2_1 := F1.out.c 2 1 rfl rfl
      have c2_2 := F1.out.c 2 2 rfl rfl
      have c2_3 := F1.out.c 2 3 rfl rfl
      have c2_4 := F1.out.c 2 4 rfl rfl
      have cf1_0 := F1.out.f 1 0 rfl rfl
      have cf1_1 := F1.out.f 1 1 rfl rfl
      have cf1_2 := F1.out.f 1 2 rfl rfl
      have cf2_0 := F1.out.f 2 0 rfl rfl
      have cf2_1 := F1.out.f 2 1 rfl rfl
      have cf2_2 := F1.out.f 2 2 rfl rfl
      have cf2_3 := F1.out.f 2 3 rfl rfl
      have cf2_4 := F1.out.f 2 4 rfl rfl
      go_wp2_with (go_at_call 59; refine (hrg _).out.mono ?_; rintro e w2 ⟨rfl, hb⟩; have F3 := Lib.hid (F1.out.next hb); clear hb c0_0 c0_1 c0_2 c0_3 c0_4 c1_0 c1_1 c1_2 c2_0 c2_1 c2_2 c2_3 c2_4 cf1_0 cf1_1 cf1_2 cf2_0 cf2_1 cf2_2 cf2_3 cf2_4; have e0_0 := F3.out.c 0 0 rfl rfl; have e0_1 := F3.out.c 0 1 rfl rfl; have e0_2 := F3.out.c 0 2 rfl rfl; have e0_3 := F3.out.c 0 3 rfl rfl; have e0_4 := F3.out.c 0 4 rfl rfl; have e1_0 := F3.out.c 1 0 rfl rfl; have e1_1 := F3.out.c 1 1 rfl rfl; have e1_2 := F3.out.c 1 2 rfl rfl; have e2_0 := F3.out.c 2 0 rfl rfl; have e2_1 := F3.out.c 2 1 rfl rfl; have e2_2 := F3.out.c 2 2 rfl rfl; have e2_3 := F3.out.c 2 3 rfl rfl; have e2_4 := F3.out.c 2 4 rfl rfl; have ef1_0 := F3.out.f 1 0 rfl rfl; have ef1_1 := F3.out.f 1 1 rfl rfl; have ef1_2 := F3.out.f 1 2 rfl rfl; have ef2_0 := F3.out.f 2 0 rfl rfl; have ef2_1 := F3.out.f 2 1 rfl rfl; have ef2_2 := F3.out.f 2 2 rfl rfl; have ef2_3 := F3.out.f 2 3 rfl rfl; have ef2_4 := F3.out.f 2 4 rfl rfl)
      (try simp only [Exit.noGoto, Exit.inBlock, Exit.then])
      have FZ := (F3.out.set 1 rfl (by simp) [.slice none 0 0, .int .i64 0, .int .i64 0] rfl).set 2 rfl (by simp) [.slice none 0 0, .int .u64 0, .int .u64 0, .int .u64 0, .int .u64 0] rfl
      simp only [setL, Nat.reduceAdd, List.set_cons_zero, List.set_cons_succ] at FZ
      have z1_0 := FZ.c 1 0 rfl rfl
      have z1_1 := FZ.c 1 1 rfl rfl
      have z1_2 := FZ.c 1 2 rfl rfl
      have z2_0 := FZ.c 2 0 rfl rfl
      have z2_1 := FZ.c 2 1 rfl rfl
      have z2_2 := FZ.c 2 2 rfl rfl
      have z2_3 := FZ.c 2 3 rfl rfl
      have z2_4 := FZ.c 2 4 rfl rfl
      refine bodyPost_ret (v := .tuple #[.agg #[.slice none 0 0, .int .i64 0, .int .i64 0], .agg #[.slice none 0 0, .int .u64 0, .int .u64 0, .int .u64 0, .int .u64 0], .int .i64 1]) ?_ rfl (retStart_none FZ)
      rw [results_cct rfl]
      go_simp

set_option maxRecDepth 100000 in
set_option maxHeartbeats 4000000 in
theorem start_good (a2 : Option Addr) (c2 : Nat) (rs : List Int) (s : St) (N : Nat) (w : World) (hs : GoodS rs s) (hl : rs.length ≤ 4096) (hr : Ints .u64 w w.heap.size a2 rs) (hc : rs.length ≤ c2 ∧ c2 ≤ 9223372036854775807) (hN : N + 1 ≤ 1024) :
    Calls Try.prog 54 #[.agg #[.slice a2 rs.length c2, .int .u64 (s.a : Nat), .int .u64 (s.b : Nat), .int .u64 (s.c : Nat), .int .u64 (s.d : Nat)], .int .i64 ((N + 1 : Nat) : Int)] w (RetStart w (lst N rs s N) (tur N rs s N).1 (tur N rs s N).2 0) := by
  have hrg := fun W => Lib.hid (rgood_any a2 rs.length c2 s W hs.1 (by omega))
  have hgR : goodR rs.length s = true := by unfold goodR; rw [hs.2.1]; simp [hl]
  rw [hgR] at hrg
  have HR := Lib.hid hr
  have HSH := Lib.hid (fun W (h : Ints .u64 W W.heap.size a2 rs) => shuffle_any a2 c2 rs s N W hs h hl hc.1 hc.2 (by omega))
  obtain ⟨m, hm⟩ : ∃ m, N + 1 = m := ⟨_, rfl⟩
  rw [hm] at HSH hN ⊢
  have hm1 : 1 ≤ m := by omega
  have HM := Lib.hid hm
  clear hm hs hr hc hgR
  go_enter Try.func54, Try.ntmps54
  have F1 := Lib.hid ((((Fr.start (w := w) (I := [(.u64, a2, rs)]) (by intro p hp; simp at hp; subst hp; exact HR.out)).box1 (b := w.heap.size) (by simp) [.slice a2 rs.length c2, .int .u64 (s.a : Nat), .int .u64 (s.b : Nat), .int .u64 (s.c : Nat), .int .u64 (s.d : Nat)] 27).box1 (b := w.heap.size + 1) (by simp) [.slice none 0 0, .int .i64 0, .int .i64 0] 73).box1 (b := w.heap.size + 1 + 1) (by simp) [.slice none 0 0, .int .u64 0, .int .u64 0, .int .u64 0, .int .u64 0] 27)
  simp only [List.nil_append, List.cons_append] at F1
  go_upto_region 1 with fail
  obtain ⟨W0, hW0⟩ : ∃ W0, (((w.alloc (.cells #[.slice a2 rs.length c2, .int .u64 (s.a : Nat), .int .u64 (s.b : Nat), .int .u64 (s.c : Nat), .int .u64 (s.d : Nat)] 27)).alloc (.cells #[.slice none 0 0, .int .i64 0, .int .i64 0] 73)).alloc (.cells #[.slice none 0 0, .int .u64 0, .int .u64 0, .int .u64 0, .int .u64 0] 27)) = W0 := ⟨_, rfl⟩
  rw [hW0] at F1 ⊢
  clear hW0
  have c0_0 := F1.out.c 0 0 rfl rfl
  have c0_1 := F1.out.c 0 1 rfl rfl
  have c0_2 := F1.out.c 0 2 rfl rfl
  have c0_3 := F1.out.c 0 3 rfl rfl
  have c0_4 := F1.out.c 0 4 rfl rfl
  go_upto_region 6 with (first | (go_at_call 59; refine (hrg _).out.mono ?_; rintro e w2 ⟨rfl, hb⟩; have F3 := Lib.hid (F1.out.next hb); clear hb c0_0 c0_1 c0_2 c0_3 c0_4; have e0_0 := F3.out.c 0 0 rfl rfl; have e0_1 := F3.out.c 0 1 rfl rfl; have e0_2 := F3.out.c 0 2 rfl rfl; have e0_3 := F3.out.c 0 3 rfl rfl; have e0_4 := F3.out.c 0 4 rfl rfl; have ef0_0 := F3.out.f 0 0 rfl rfl; have ef0_1 := F3.out.f 0 1 rfl rfl; have ef0_2 := F3.out.f 0 2 rfl rfl; have ef0_3 := F3.out.f 0 3 rfl rfl; have ef0_4 := F3.out.f 0 4 rfl rfl) | (go_at_call 80; refine (HSH.out _ (F3.out.lw 0 rfl)).mono ?_; rintro e w4 hsf; obtain ⟨al, cl, ag, cg, rfl, hfr⟩ := hsf.fr; have F4 := Lib.hid (F3.out.join hfr); simp only [List.cons_append, List.nil_append] at F4; clear hsf hfr e0_0 e0_1 e0_2 e0_3 e0_4 ef0_0 ef0_1 ef0_2 ef0_3 ef0_4; have d0_0 := F4.out.c 0 0 rfl rfl; have d0_1 := F4.out.c 0 1 rfl rfl; have d0_2 := F4.out.c 0 2 rfl rfl; have d0_3 := F4.out.c 0 3 rfl rfl; have d0_4 := F4.out.c 0 4 rfl rfl; have df0_0 := F4.out.f 0 0 rfl rfl; have df0_1 := F4.out.f 0 1 rfl rfl; have df0_2 := F4.out.f 0 2 rfl rfl; have df0_3 := F4.out.f 0 3 rfl rfl; have df0_4 := F4.out.f 0 4 rfl rfl))
  have F5 := Lib.hid (F4.out.set 0 rfl (by simp) [.slice ag (tur N rs s N).1.length cg, .int .u64 ((tur N rs s N).2.a : Nat), .int .u64 ((tur N rs s N).2.b : Nat), .int .u64 ((tur N rs s N).2.c : Nat), .int .u64 ((tur N rs s N).2.d : Nat)] rfl)
  simp only [List.set_cons_zero, List.set_cons_succ] at F5
  obtain ⟨W5, hW5⟩ : ∃ W5, setL w4 (w.heap.size) 0 [.slice ag (tur N rs s N).1.length cg, .int .u64 ((tur N rs s N).2.a : Nat), .int .u64 ((tur N rs s N).2.b : Nat), .int .u64 ((tur N rs s N).2.c : Nat), .int .u64 ((tur N rs s N).2.d : Nat)] = W5 := ⟨_, rfl⟩
  rw [hW5] at F5
  simp only [setL, Nat.reduceAdd] at hW5
  rw [hW5]
  clear hW5
  refine wp_region_inv (w := W5) 6 (fun _ _ => True) (fun k W => Fr w.heap.size w W [(w.heap.size, [.slice ag (tur N rs s N).1.length cg, .int .u64 ((tur N rs s N).2.a : Nat), .int .u64 ((tur N rs s N).2.b : Nat), .int .u64 ((tur N rs s N).2.c : Nat), .int .u64 ((tur N rs s N).2.d : Nat)]), (w.heap.size + 1, if k = 0 then [.slice none 0 0, .int .i64 0, .int .i64 0] else [.slice al (lst N rs s N).length cl, .int .i64 0, .int .i64 0]), (w.heap.size + 1 + 1, if k ≤ 1 then [.slice none 0 0, .int .u64 0, .int .u64 0, .int .u64 0, .int .u64 0] else [.slice ag (tur N rs s N).1.length cg, .int .u64 ((tur N rs s N).2.a : Nat), .int .u64 ((tur N rs s N).2.b : Nat), .int .u64 ((tur N rs s N).2.c : Nat), .int .u64 ((tur N rs s N).2.d : Nat)])] [(.u64, a2, rs)] [⟨3, .slice al (lst N rs s N).length cl, (lst N rs s N).length, (lst N rs s N).map (Value.int .i64)⟩, ⟨24, .slice ag (tur N rs s N).1.length cg, (tur N rs s N).1.length, (tur N rs s N).1.map (Value.int .u64)⟩] []) [3, 4] [(fun u _ => u = .slice al (lst N rs s N).length cl), (fun u _ => u = .agg #[.slice al (lst N rs s N).length cl, .int .i64 0, .int .i64 0]), (fun u _ => u = .agg #[.slice ag (tur N rs s N).1.length cg, .int .u64 ((tur N rs s N).2.a : Nat), .int .u64 ((tur N rs s N).2.b : Nat), .int .u64 ((tur N rs s N).2.c : Nat), .int .u64 ((tur N rs s N).2.d : Nat)]), (fun _ _ => True), (fun _ _ => True), (fun u _ => u = .int .i64 0)] [some 34, some 35, some 36, none, none, some 6] (by kernel_rfl) (by kernel_rfl) rfl (by kernel_rfl) (by kernel_rfl) (by decide) (by decide) (fun _ _ => trivial) trivial F5.out.drew (BorneAll.at (.cons (borne_eq _) (.cons (borne_eq _) (.cons (borne_eq _) (.cons (fun _ _ _ _ _ => trivial) (.cons (fun _ _ _ _ _ => trivial) (.cons (borne_eq _) .nil))))))) (fun vs b hvl hvb => ?_)
  obtain ⟨x0, x1, x2, x3, x4, x5, rfl⟩ : ∃ x0 x1 x2 x3 x4 x5, vs = [x0, x1, x2, x3, x4, x5] := lst6 hvl
  clear hvl
  simp only [putAll, Act.put, List.setIfInBounds_toArray, List.set_cons_zero, List.set_cons_succ] at hvb
  subst hvb
  refine ⟨(.snoc (.snoc (.snoc (.snoc (.snoc (.snoc .zero (InvOb.intro (d := (some 34)) (r := fun u _ => u = .slice al (lst N rs s N).length cl) 0 0 rfl rfl rfl (by kernel_rfl) (by kernel_rfl) rfl ?io6x0)) (InvOb.intro (d := (some 35)) (r := fun u _ => u = .agg #[.slice al (lst N rs s N).length cl, .int .i64 0, .int .i64 0]) 0 0 rfl rfl rfl (by kernel_rfl) (by kernel_rfl) rfl ?io6x1)) (InvOb.intro (d := (some 36)) (r := fun u _ => u = .agg #[.slice ag (tur N rs s N).1.length cg, .int .u64 ((tur N rs s N).2.a : Nat), .int .u64 ((tur N rs s N).2.b : Nat), .int .u64 ((tur N rs s N).2.c : Nat), .int .u64 ((tur N rs s N).2.d : Nat)]) 0 1 rfl rfl rfl (by kernel_rfl) (by kernel_rfl) rfl ?io6x2)) (InvOb.put (d := none) (r := fun _ _ => True) 0 rfl rfl rfl (by kernel_rfl) (by kernel_rfl) rfl ?io6x3)) (InvOb.put (d := none) (r := fun _ _ => True) 1 rfl rfl rfl (by kernel_rfl) (by kernel_rfl) rfl ?io6x4)) (InvOb.intro (d := (some 6)) (r := fun u _ => u = .int .i64 0) 2 2 rfl rfl rfl (by kernel_rfl) (by kernel_rfl) rfl ?io6x5)), ?iend6⟩
  case io6x0 =>
    intro k1 w1 hk0 hk1 hb1 hS hd KK hK
    clear hd
    simp only [Act.put, List.setIfInBounds_toArray, List.set_cons_zero, List.set_cons_succ] at hK
    go_simp
    first | exact hK.out _ _ trivial hS rfl | (have hk := hK.out _ _ trivial hS rfl; revert hk; go_simp)
  case io6x1 =>
    intro k1 w1 hk0 hk1 hb1 hS hd KK hK
    have d0 : x0 = .slice al (lst N rs s N).length cl := hd 0 (by kernel_rfl)
    clear hd
    subst d0
    simp only [Act.put, List.setIfInBounds_toArray, List.set_cons_zero, List.set_cons_succ] at hK
    go_simp
    first | exact hK.out _ _ trivial hS rfl | (have hk := hK.out _ _ trivial hS rfl; revert hk; go_simp)
  case io6x2 =>
    intro k1 w1 hk0 hk1 hb1 hS hd KK hK
    clear hd
    have k0 := hS.c 0 0 rfl rfl
    have k1 := hS.c 0 1 rfl rfl
    have k2 := hS.c 0 2 rfl rfl
    have k3 := hS.c 0 3 rfl rfl
    have k4 := hS.c 0 4 rfl rfl
    simp only [Act.put, List.setIfInBounds_toArray, List.set_cons_zero, List.set_cons_succ] at hK
    go_simp
    first | exact hK.out _ _ trivial hS rfl | (have hk := hK.out _ _ trivial hS rfl; revert hk; go_simp)
  case io6x3 =>
    intro w1 hb1 hS hd KK hK
    have d0 : x0 = .slice al (lst N rs s N).length cl := hd 0 (by kernel_rfl)
    have d1 : x1 = .agg #[.slice al (lst N rs s N).length cl, .int .i64 0, .int .i64 0] := hd 1 (by kernel_rfl)
    clear hd
    subst d0
    subst d1
    have k0 := hS.c 1 0 rfl rfl
    have k1 := hS.c 1 1 rfl rfl
    have k2 := hS.c 1 2 rfl rfl
    have kf0 := hS.f 1 0 rfl (v := .slice none 0 0) rfl
    have kf1 := hS.f 1 1 rfl (v := .int .i64 0) rfl
    have kf2 := hS.f 1 2 rfl (v := .int .i64 0) rfl
    simp only [Act.put, List.setIfInBounds_toArray, List.set_cons_zero, List.set_cons_succ] at hK
    go_simp
    first | exact hK.out undef _ trivial (hS.set 1 rfl (by simp) [.slice al (lst N rs s N).length cl, .int .i64 0, .int .i64 0] rfl) trivial | (have hk := hK.out undef _ trivial (hS.set 1 rfl (by simp) [.slice al (lst N rs s N).length cl, .int .i64 0, .int .i64 0] rfl) trivial; revert hk; go_simp)
  case io6x4 =>
    intro w1 hb1 hS hd KK hK
    have d0 : x0 = .slice al (lst N rs s N).length cl := hd 0 (by kernel_rfl)
    have d1 : x1 = .agg #[.slice al (lst N rs s N).length cl, .int .i64 0, .int .i64 0] := hd 1 (by kernel_rfl)
    have d2 : x2 = .agg #[.slice ag (tur N rs s N).1.length cg, .int .u64 ((tur N rs s N).2.a : Nat), .int .u64 ((tur N rs s N).2.b : Nat), .int .u64 ((tur N rs s N).2.c : Nat), .int .u64 ((tur N rs s N).2.d : Nat)] := hd 2 (by kernel_rfl)
    clear hd
    subst d0
    subst d1
    subst d2
    have k0 := hS.c 2 0 rfl rfl
    have k1 := hS.c 2 1 rfl rfl
    have k2 := hS.c 2 2 rfl rfl
    have k3 := hS.c 2 3 rfl rfl
    have k4 := hS.c 2 4 rfl rfl
    have kf0 := hS.f 2 0 rfl (v := .slice none 0 0) rfl
    have kf1 := hS.f 2 1 rfl (v := .int .u64 0) rfl
    have kf2 := hS.f 2 2 rfl (v := .int .u64 0) rfl
    have kf3 := hS.f 2 3 rfl (v := .int .u64 0) rfl
    have kf4 := hS.f 2 4 rfl (v := .int .u64 0) rfl
    simp only [Act.put, List.setIfInBounds_toArray, List.set_cons_zero, List.set_cons_succ] at hK
    go_simp
    first | exact hK.out undef _ trivial (hS.set 2 rfl (by simp) [.slice ag (tur N rs s N).1.length cg, .int .u64 ((tur N rs s N).2.a : Nat), .int .u64 ((tur N rs s N).2.b : Nat), .int .u64 ((tur N rs s N).2.c : Nat), .int .u64 ((tur N rs s N).2.d : Nat)] rfl) trivial | (have hk := hK.out undef _ trivial (hS.set 2 rfl (by simp) [.slice ag (tur N rs s N).1.length cg, .int .u64 ((tur N rs s N).2.a : Nat), .int .u64 ((tur N rs s N).2.b : Nat), .int .u64 ((tur N rs s N).2.c : Nat), .int .u64 ((tur N rs s N).2.d : Nat)] rfl) trivial; revert hk; go_simp)
  case io6x5 =>
    intro k1 w1 hk0 hk1 hb1 hS hd KK hK
    have d0 : x0 = .slice al (lst N rs s N).length cl := hd 0 (by kernel_rfl)
    have d1 : x1 = .agg #[.slice al (lst N rs s N).length cl, .int .i64 0, .int .i64 0] := hd 1 (by kernel_rfl)
    have d2 : x2 = .agg #[.slice ag (tur N rs s N).1.length cg, .int .u64 ((tur N rs s N).2.a : Nat), .int .u64 ((tur N rs s N).2.b : Nat), .int .u64 ((tur N rs s N).2.c : Nat), .int .u64 ((tur N rs s N).2.d : Nat)] := hd 2 (by kernel_rfl)
    clear hd
    subst d0
    subst d1
    subst d2
    simp only [Act.put, List.setIfInBounds_toArray, List.set_cons_zero, List.set_cons_succ] at hK
    go_simp
    first | exact hK.out _ _ trivial hS rfl | (have hk := hK.out _ _ trivial hS rfl; revert hk; go_simp)
  case iend6 =>
    intro w1 hb1 hS hR
    have d0 : x0 = .slice al (lst N rs s N).length cl := hR 0 (by decide)
    have d1 : x1 = .agg #[.slice al (lst N rs s N).length cl, .int .i64 0, .int .i64 0] := hR 1 (by decide)
    have d2 : x2 = .agg #[.slice ag (tur N rs s N).1.length cg, .int .u64 ((tur N rs s N).2.a : Nat), .int .u64 ((tur N rs s N).2.b : Nat), .int .u64 ((tur N rs s N).2.c : Nat), .int .u64 ((tur N rs s N).2.d : Nat)] := hR 2 (by decide)
    have d5 : x5 = .int .i64 0 := hR 5 (by decide)
    clear hR
    subst d0
    subst d1
    subst d2
    subst d5
    try simp only [putAll, Act.put, List.setIfInBounds_toArray, List.set_cons_zero, List.set_cons_succ]
    have FW := Lib.hid (show Fr w.heap.size w w1 [(w.heap.size, [.slice ag (tur N rs s N).1.length cg, .int .u64 ((tur N rs s N).2.a : Nat), .int .u64 ((tur N rs s N).2.b : Nat), .int .u64 ((tur N rs s N).2.c : Nat), .int .u64 ((tur N rs s N).2.d : Nat)]), (w.heap.size + 1, [.slice al (lst N rs s N).length cl, .int .i64 0, .int .i64 0]), (w.heap.size + 1 + 1, [.slice ag (tur N rs s N).1.length cg, .int .u64 ((tur N rs s N).2.a : Nat), .int .u64 ((tur N rs s N).2.b : Nat), .int .u64 ((tur N rs s N).2.c : Nat), .int .u64 ((tur N rs s N).2.d : Nat)])] [(.u64, a2, rs)] [⟨3, .slice al (lst N rs s N).length cl, (lst N rs s N).length, (lst N rs s N).map (Value.int .i64)⟩, ⟨24, .slice ag (tur N rs s N).1.length cg, (tur N rs s N).1.length, (tur N rs s N).1.map (Value.int .u64)⟩] [] from hS)
    clear hS hb1 F5
    go_wp2
    have c1_0 := FW.out.c 1 0 rfl rfl
    have c1_1 := FW.out.c 1 1 rfl rfl
    have c1_2 := FW.out.c 1 2 rfl rfl
    have c2_0 := FW.out.c 2 0 rfl rfl
    have c2_1 := FW.out.c 2 1 rfl rfl
    have c2_2 := FW.out.c 2 2 rfl rfl
    have c2_3 := FW.out.c 2 3 rfl rfl
    have c2_4 := FW.out.c 2 4 rfl rfl
    have hpost : RetStart w (lst N rs s N) (tur N rs s N).1 (tur N rs s N).2 0 (.returned (.tuple #[.agg #[.slice al (lst N rs s N).length cl, .int .i64 0, .int .i64 0], .agg #[.slice ag (tur N rs s N).1.length cg, .int .u64 ((tur N rs s N).2.a : Nat), .int .u64 ((tur N rs s N).2.b : Nat), .int .u64 ((tur N rs s N).2.c : Nat), .int .u64 ((tur N rs s N).2.d : Nat)], .int .i64 0])) w1 := ⟨al, cl, ag, cg, rfl, FW.out.rows⟩
    refine bodyPost_ret (v := _) ?_ rfl hpost
    rw [results_cct rfl]
    go_simp
end Go.Proofs.Ytiejkdnkdmanmaa
