import Derived.Test.YtadlnmckcnfacaaGreatVCoP
import Derived.Test.YtadlnmckcnfacaaGreatVPoE
set_option linter.unusedVariables false
set_option linter.unusedSimpArgs false
namespace Go.Proofs.YtadlnmckcnfacaaGreat
open Go.RowKit Go.Rt
attribute [local go_sem] Oper.semAt_some
theorem stepAppN {ops : Array Oper} {o : Oper} {a : Act} {w : World} {K : Act → World → Prop} {Q : Exit → Act → World → Prop} {E' : Prop} (T E : TypeId)
  (hinf : (Tryz.prog.info? E).map (fun i => (i.zero, i.size, i.bytes)) = some (some (.int .i64 0), 1, 8)) (hu : Tryz.prog.underlying T = some (.slice E))
  (base : Nat) (v : Value) (n : Nat) (xs news : List Int) (m cap : Nat) (ad : Addr) (s x : Operand) (hg : o.guard = none) (ho : o.op = .call { callee := .builtin .append, args := #[s, x], argTypes := #[T, T] })
  (hs : a.eval s = v) (hown : w.ownsRow base E 1 v n (xs.map (Value.int .i64))) (hx : a.eval x = .slice (some ad) m cap) (hl : news.length = m) (hm : 0 < m) (hc : ∀ j (hj : j < news.length), w.cell? (ad.add j) = some (.int .i64 news[j])) (hn : n ≤ 10000000) (hm2 : m ≤ 10000000) (hb : base ≤ w.heap.size)
  (hK : ∀ g cap' w', w'.ownsRow base E 1 (.slice (some ⟨g, 0, none⟩) (n + m) cap') (n + m) ((xs ++ news).map (Value.int .i64)) → w.grownBy w' v.ownBlock → (v.ownBlock = some g ∨ g = w.heap.size) → K (a.put o.dst (.slice (some ⟨g, 0, none⟩) (n + m) cap')) w') :
  if Region.wanted o (yielded ops a.tmps) = true then Oper.wp Tryz.prog o a w K Q else E' := by
 obtain ⟨i, hi, hz0, hz1, hz2⟩ := info_parts hinf
 refine step_append_lies w hg s x T ho base E i (.int .i64 0) 1 8 hu hi hz0 hz1 hz2 rfl (by decide) v n _ hs hown ad m cap (news.map (Value.int .i64)) hx (by simp [hl]) (fun j u hj => ?_) (by simp [Value.oneCell']) hm (by unfold maxLen; omega) (by omega) hb _ rfl ?_
 ·have hjl : j < news.length := by have := (List.getElem?_eq_some_iff.1 hj).1; simpa using this
  rw [List.getElem?_map, List.getElem?_eq_getElem hjl] at hj
  simp only [Option.map_some, Option.some.injEq] at hj
  rw [← hj]
  exact hc j hjl
 ·intro g cap' w' h1 h2 h3 _
  exact hK g cap' w' (by rw [List.map_append]; exact h1) h2 h3
theorem lw11 {α : Type} {l : List α} (h : l.length = 11) : ∃ x0 x1 x2 x3 x4 x5 x6 x7 x8 x9 x10, l = [x0, x1, x2, x3, x4, x5, x6, x7, x8, x9, x10] := by
 match l, h with
 | [x0, x1, x2, x3, x4, x5, x6, x7, x8, x9, x10], _ => exact ⟨x0, x1, x2, x3, x4, x5, x6, x7, x8, x9, x10, rfl⟩
theorem lw16 {α : Type} {l : List α} (h : l.length = 16) : ∃ x0 x1 x2 x3 x4 x5 x6 x7 x8 x9 x10 x11 x12 x13 x14 x15, l = [x0, x1, x2, x3, x4, x5, x6, x7, x8, x9, x10, x11, x12, x13, x14, x15] := by
 match l, h with
 | [x0, x1, x2, x3, x4, x5, x6, x7, x8, x9, x10, x11, x12, x13, x14, x15], _ => exact ⟨x0, x1, x2, x3, x4, x5, x6, x7, x8, x9, x10, x11, x12, x13, x14, x15, rfl⟩
theorem results_ctt {fn : Func} {p u v : Tmp} {ty : TypeId} (h : fn.results = #[.cell p ty, .tmp u, .tmp v]) (tmps : Array Value) (P : Program) (w : World) :
  (results fn tmps).run P w = ((asAddr (tmps.getD p undef)).run P w).andThen fun a w₁ => ((loadVar ty a).run P w₁).andThen fun x w₂ => .ok (.tuple #[x, tmps.getD u undef, tmps.getD v undef]) w₂ := by
 simp only [results, h]
 simp [Sem.run_bind, Result.andThen]
theorem ints_drop {k : IntKind} {w : World} {hi b o : Nat} {xs : List Int} (h : Ints k w hi (some ⟨b, o, none⟩) xs) (n : Nat) : Ints k w hi (some ⟨b, o + n, none⟩) (xs.drop n) :=
 ⟨by have := h.len; simp; omega, fun x hx => h.wf x (List.mem_of_mem_drop hx), fun i hi' => by
  obtain ⟨b9, o9, he, hl, hc⟩ := h.cell (n + i) (by simp at hi'; omega)
  cases he
  exact ⟨b, o + n, rfl, hl, by rw [List.getElem?_drop]; rw [Nat.add_assoc]; exact hc⟩⟩
def HasRow (base n : Nat) (xs : List Value) (f : Option Addr → Nat → Value) (u : Value) (W : World) : Prop := ∃ a c, u = f a c ∧ W.ownsRow base 3 1 (.slice a n c) n xs
theorem hasRow_carries (base n : Nat) (xs : List Value) (f : Option Addr → Nat → Value) : Carries (HasRow base n xs f) := fun u w w' ⟨a, c, h1, h2⟩ hb => ⟨a, c, h1, own_below h2 hb (Nat.le_refl _)⟩
set_option maxHeartbeats 1000000 in
theorem shaped_any (a : Option Addr) (c : Nat) (xs : List Int) (w : World) (h : Ints .i64 w w.heap.size a xs) (B : Bool) (hB : goodB xs = B) :
  Calls Tryz.prog 71 #[.slice a xs.length c] w fun e w' => e = .returned (.tuple #[if B = true then .slice a xs.length c else .slice none 0 0, .int .i64 (if B = true then 0 else 5)]) ∧ w = w' := by
 have hgd := Lib.hid (good_any a c w.heap.size xs w h)
 rw [hB] at hgd
 clear h hB
 go_enter Tryz.func71, Tryz.ntmps71
 cases B with
 | true =>
  go_wp2_with (go_at_call 100; refine hgd.out.mono ?_; rintro e w' ⟨rfl, rfl⟩)
  go_ret2
  exact ⟨rfl, rfl⟩
 | false =>
  go_wp2_with (go_at_call 100; refine hgd.out.mono ?_; rintro e w' ⟨rfl, rfl⟩)
  go_ret2
  exact ⟨rfl, rfl⟩
def RetOB (z : Int) (w : World) (e : Ending) (w' : World) : Prop := ∃ p0 p1 p2 p3 p4 p5 p6 : Option Addr × Nat × Nat, e = .returned (.tuple #[.agg #[.slice p0.1 p0.2.1 p0.2.2, .slice p1.1 p1.2.1 p1.2.2, .slice p2.1 p2.2.1 p2.2.2, .slice p3.1 p3.2.1 p3.2.2, .slice p4.1 p4.2.1 p4.2.2, .slice p5.1 p5.2.1 p5.2.2, .slice p6.1 p6.2.1 p6.2.2], .slice none 0 0, .int .i64 z]) ∧ Below w.heap.size w w'
set_option maxRecDepth 100000 in
set_option maxHeartbeats 2000000 in
theorem convOut_len (a a2 : Option Addr) (c c2 : Nat) (xs ws : List Int) (aQ aS aP aD : Option Addr) (cQ cS cP cD : Nat) (Q : List Int) (wv : WinV) (w : World) (h : Ints .i64 w w.heap.size a xs) (h2 : Ints .i64 w w.heap.size a2 ws) (hS : Ints .i64 w w.heap.size aS wv.S) (hP : Ints .i64 w w.heap.size aP wv.P) (hD : Ints .i64 w w.heap.size aD wv.D) (hn : numB false Q wv.S wv.P wv.D = true) (hl : xs.length ≠ 2 + wv.S.length) :
  Calls Tryz.prog 36 #[.slice a xs.length c, .slice a2 ws.length c2, .agg #[.slice aQ Q.length cQ, .slice aS wv.S.length cS, .slice aP wv.P.length cP, .slice aD wv.D.length cD]] w (RetOB 2 w) := by
 have hs1 : 1 ≤ wv.S.length := (num_iff.1 hn).1.1
 have hs2 : wv.S.length ≤ 2 := (num_iff.1 hn).1.2.1
 have hm := h.len
 have hm2 := h2.len
 have F1 := Lib.hid (((Fr.start (w := w) (I := [(.i64, a, xs), (.i64, a2, ws), (.i64, aS, wv.S), (.i64, aP, wv.P), (.i64, aD, wv.D)]) (by intro z hz; simp at hz; rcases hz with rfl | rfl | rfl | rfl | rfl; exact h; exact h2; exact hS; exact hP; exact hD)).box1 (b := w.heap.size) rfl [.slice aQ Q.length cQ, .slice aS wv.S.length cS, .slice aP wv.P.length cP, .slice aD wv.D.length cD] 28).box1 (b := w.heap.size + 1) (by simp) [.slice none 0 0, .slice none 0 0, .slice none 0 0, .slice none 0 0, .slice none 0 0, .slice none 0 0, .slice none 0 0] 77)
 simp only [List.nil_append, List.cons_append] at F1
 have hr2w : ∀ [Inhabited Unit], RowKit.wrap64 (2 + (wv.S.length : Int)) = 2 + (wv.S.length : Int) := by intro _; exact IntWalk.wrap64_in _ ⟨by omega, by omega⟩
 have d16 : ((xs.length : Int) != 2 + (wv.S.length : Int)) = true := by simp; omega
 clear h h2 hS hP hD hn hl
 go_enter Tryz.func36, Tryz.ntmps36
 go_upto_region 1 with fail
 obtain ⟨W1, hW1⟩ : ∃ W1, (w.alloc (.cells #[.slice aQ Q.length cQ, .slice aS wv.S.length cS, .slice aP wv.P.length cP, .slice aD wv.D.length cD] 28)).alloc (.cells #[.slice none 0 0, .slice none 0 0, .slice none 0 0, .slice none 0 0, .slice none 0 0, .slice none 0 0, .slice none 0 0] 77) = W1 := ⟨_, rfl⟩
 rw [hW1] at F1 ⊢
 clear hW1
 have c0_0 := F1.out.c 0 0 rfl rfl
 have c0_1 := F1.out.c 0 1 rfl rfl
 have c0_2 := F1.out.c 0 2 rfl rfl
 have c0_3 := F1.out.c 0 3 rfl rfl
 go_quiet (fail)
 have F2 := Lib.hid (F1.out.drewN nq)
 obtain ⟨W2, hW2⟩ : ∃ x, W1.drewN nq = x := ⟨_, rfl⟩
 rw [hW2] at F2 ⊢
 clear hW2 F1 d16 hr2w c0_0 c0_1 c0_2 c0_3
 have d1_0 := F2.out.c 1 0 rfl rfl
 have d1_1 := F2.out.c 1 1 rfl rfl
 have d1_2 := F2.out.c 1 2 rfl rfl
 have d1_3 := F2.out.c 1 3 rfl rfl
 have d1_4 := F2.out.c 1 4 rfl rfl
 have d1_5 := F2.out.c 1 5 rfl rfl
 have d1_6 := F2.out.c 1 6 rfl rfl
 have df1_0 := F2.out.f 1 0 rfl rfl
 have df1_1 := F2.out.f 1 1 rfl rfl
 have df1_2 := F2.out.f 1 2 rfl rfl
 have df1_3 := F2.out.f 1 3 rfl rfl
 have df1_4 := F2.out.f 1 4 rfl rfl
 have df1_5 := F2.out.f 1 5 rfl rfl
 have df1_6 := F2.out.f 1 6 rfl rfl
 go_wp2
 have FZ := F2.out.set 1 rfl (by simp) [.slice none 0 0, .slice none 0 0, .slice none 0 0, .slice none 0 0, .slice none 0 0, .slice none 0 0, .slice none 0 0] rfl
 simp only [setL, Nat.reduceAdd, List.set_cons_zero, List.set_cons_succ] at FZ
 have y0 := FZ.c 1 0 rfl rfl
 have y1 := FZ.c 1 1 rfl rfl
 have y2 := FZ.c 1 2 rfl rfl
 have y3 := FZ.c 1 3 rfl rfl
 have y4 := FZ.c 1 4 rfl rfl
 have y5 := FZ.c 1 5 rfl rfl
 have y6 := FZ.c 1 6 rfl rfl
 refine bodyPost_ret (v := .tuple #[.agg #[.slice none 0 0, .slice none 0 0, .slice none 0 0, .slice none 0 0, .slice none 0 0, .slice none 0 0, .slice none 0 0], .slice none 0 0, .int .i64 2]) ?_ rfl ⟨(none, 0, 0), (none, 0, 0), (none, 0, 0), (none, 0, 0), (none, 0, 0), (none, 0, 0), (none, 0, 0), rfl, FZ.bel⟩
 rw [results_ctt rfl]
 go_simp
set_option maxRecDepth 100000 in
set_option maxHeartbeats 2000000 in
theorem convOut_len2 (a a2 : Option Addr) (c c2 : Nat) (xs ws : List Int) (aQ aS aP aD : Option Addr) (cQ cS cP cD : Nat) (Q : List Int) (wv : WinV) (w : World) (h : Ints .i64 w w.heap.size a xs) (h2 : Ints .i64 w w.heap.size a2 ws) (hS : Ints .i64 w w.heap.size aS wv.S) (hP : Ints .i64 w w.heap.size aP wv.P) (hD : Ints .i64 w w.heap.size aD wv.D) (hn : numB false Q wv.S wv.P wv.D = true) (hl : xs.length = 2 + wv.S.length) (hl2 : ws.length ≠ xs.length) :
  Calls Tryz.prog 36 #[.slice a xs.length c, .slice a2 ws.length c2, .agg #[.slice aQ Q.length cQ, .slice aS wv.S.length cS, .slice aP wv.P.length cP, .slice aD wv.D.length cD]] w (RetOB 2 w) := by
 have hs1 : 1 ≤ wv.S.length := (num_iff.1 hn).1.1
 have hs2 : wv.S.length ≤ 2 := (num_iff.1 hn).1.2.1
 have hm := h.len
 have hm2 := h2.len
 have F1 := Lib.hid (((Fr.start (w := w) (I := [(.i64, a, xs), (.i64, a2, ws), (.i64, aS, wv.S), (.i64, aP, wv.P), (.i64, aD, wv.D)]) (by intro z hz; simp at hz; rcases hz with rfl | rfl | rfl | rfl | rfl; exact h; exact h2; exact hS; exact hP; exact hD)).box1 (b := w.heap.size) rfl [.slice aQ Q.length cQ, .slice aS wv.S.length cS, .slice aP wv.P.length cP, .slice aD wv.D.length cD] 28).box1 (b := w.heap.size + 1) (by simp) [.slice none 0 0, .slice none 0 0, .slice none 0 0, .slice none 0 0, .slice none 0 0, .slice none 0 0, .slice none 0 0] 77)
 simp only [List.nil_append, List.cons_append] at F1
 have hr2w : ∀ [Inhabited Unit], RowKit.wrap64 (2 + (wv.S.length : Int)) = 2 + (wv.S.length : Int) := by intro _; exact IntWalk.wrap64_in _ ⟨by omega, by omega⟩
 have d16 : ((xs.length : Int) != 2 + (wv.S.length : Int)) = false := by simp; omega
 have d22 : ((ws.length : Int) != (xs.length : Int)) = true := by simp; omega
 clear h h2 hS hP hD hn hl hl2
 go_enter Tryz.func36, Tryz.ntmps36
 go_upto_region 1 with fail
 obtain ⟨W1, hW1⟩ : ∃ W1, (w.alloc (.cells #[.slice aQ Q.length cQ, .slice aS wv.S.length cS, .slice aP wv.P.length cP, .slice aD wv.D.length cD] 28)).alloc (.cells #[.slice none 0 0, .slice none 0 0, .slice none 0 0, .slice none 0 0, .slice none 0 0, .slice none 0 0, .slice none 0 0] 77) = W1 := ⟨_, rfl⟩
 rw [hW1] at F1 ⊢
 clear hW1
 have c0_0 := F1.out.c 0 0 rfl rfl
 have c0_1 := F1.out.c 0 1 rfl rfl
 have c0_2 := F1.out.c 0 2 rfl rfl
 have c0_3 := F1.out.c 0 3 rfl rfl
 go_quiet (fail)
 have F2 := Lib.hid (F1.out.drewN nq)
 obtain ⟨W2, hW2⟩ : ∃ x, W1.drewN nq = x := ⟨_, rfl⟩
 rw [hW2] at F2 ⊢
 clear hW2 F1 d16 hr2w c0_0 c0_1 c0_2 c0_3 d22
 have d1_0 := F2.out.c 1 0 rfl rfl
 have d1_1 := F2.out.c 1 1 rfl rfl
 have d1_2 := F2.out.c 1 2 rfl rfl
 have d1_3 := F2.out.c 1 3 rfl rfl
 have d1_4 := F2.out.c 1 4 rfl rfl
 have d1_5 := F2.out.c 1 5 rfl rfl
 have d1_6 := F2.out.c 1 6 rfl rfl
 have df1_0 := F2.out.f 1 0 rfl rfl
 have df1_1 := F2.out.f 1 1 rfl rfl
 have df1_2 := F2.out.f 1 2 rfl rfl
 have df1_3 := F2.out.f 1 3 rfl rfl
 have df1_4 := F2.out.f 1 4 rfl rfl
 have df1_5 := F2.out.f 1 5 rfl rfl
 have df1_6 := F2.out.f 1 6 rfl rfl
 go_wp2
 have FZ := F2.out.set 1 rfl (by simp) [.slice none 0 0, .slice none 0 0, .slice none 0 0, .slice none 0 0, .slice none 0 0, .slice none 0 0, .slice none 0 0] rfl
 simp only [setL, Nat.reduceAdd, List.set_cons_zero, List.set_cons_succ] at FZ
 have y0 := FZ.c 1 0 rfl rfl
 have y1 := FZ.c 1 1 rfl rfl
 have y2 := FZ.c 1 2 rfl rfl
 have y3 := FZ.c 1 3 rfl rfl
 have y4 := FZ.c 1 4 rfl rfl
 have y5 := FZ.c 1 5 rfl rfl
 have y6 := FZ.c 1 6 rfl rfl
 refine bodyPost_ret (v := .tuple #[.agg #[.slice none 0 0, .slice none 0 0, .slice none 0 0, .slice none 0 0, .slice none 0 0, .slice none 0 0, .slice none 0 0], .slice none 0 0, .int .i64 2]) ?_ rfl ⟨(none, 0, 0), (none, 0, 0), (none, 0, 0), (none, 0, 0), (none, 0, 0), (none, 0, 0), (none, 0, 0), rfl, FZ.bel⟩
 rw [results_ctt rfl]
 go_simp
set_option maxRecDepth 100000 in
set_option maxHeartbeats 2000000 in
theorem convOut_ch (a a2 : Option Addr) (c c2 : Nat) (xs ws : List Int) (aQ aS aP aD : Option Addr) (cQ cS cP cD : Nat) (Q : List Int) (wv : WinV) (w : World) (h : Ints .i64 w w.heap.size a xs) (h2 : Ints .i64 w w.heap.size a2 ws) (hS : Ints .i64 w w.heap.size aS wv.S) (hP : Ints .i64 w w.heap.size aP wv.P) (hD : Ints .i64 w w.heap.size aD wv.D) (hn : numB false Q wv.S wv.P wv.D = true) (hl : xs.length = 2 + wv.S.length) (hl2 : ws.length = xs.length) (hch : xs[1]?.getD 0 ≠ ws[1]?.getD 0) :
  Calls Tryz.prog 36 #[.slice a xs.length c, .slice a2 ws.length c2, .agg #[.slice aQ Q.length cQ, .slice aS wv.S.length cS, .slice aP wv.P.length cP, .slice aD wv.D.length cD]] w (RetOB 2 w) := by
 have hs1 : 1 ≤ wv.S.length := (num_iff.1 hn).1.1
 have hs2 : wv.S.length ≤ 2 := (num_iff.1 hn).1.2.1
 have hm := h.len
 have hm2 := h2.len
 obtain ⟨b0, o0, rfl, _, _⟩ := h.cell 0 (by omega)
 obtain ⟨b1, o1, rfl, _, _⟩ := h2.cell 0 (by omega)
 obtain ⟨x1, hx1⟩ : ∃ z, xs[1]?.getD 0 = z := ⟨_, rfl⟩
 obtain ⟨y1, hy1⟩ : ∃ z, ws[1]?.getD 0 = z := ⟨_, rfl⟩
 rw [hx1, hy1] at hch
 have HX1 := Lib.hid hx1
 have HY1 := Lib.hid hy1
 clear hx1 hy1
 have F1 := Lib.hid (((Fr.start (w := w) (I := [(.i64, (some ⟨b0, o0, none⟩), xs), (.i64, (some ⟨b1, o1, none⟩), ws), (.i64, aS, wv.S), (.i64, aP, wv.P), (.i64, aD, wv.D)]) (by intro z hz; simp at hz; rcases hz with rfl | rfl | rfl | rfl | rfl; exact h; exact h2; exact hS; exact hP; exact hD)).box1 (b := w.heap.size) rfl [.slice aQ Q.length cQ, .slice aS wv.S.length cS, .slice aP wv.P.length cP, .slice aD wv.D.length cD] 28).box1 (b := w.heap.size + 1) (by simp) [.slice none 0 0, .slice none 0 0, .slice none 0 0, .slice none 0 0, .slice none 0 0, .slice none 0 0, .slice none 0 0] 77)
 simp only [List.nil_append, List.cons_append] at F1
 have hr2w : ∀ [Inhabited Unit], RowKit.wrap64 (2 + (wv.S.length : Int)) = 2 + (wv.S.length : Int) := by intro _; exact IntWalk.wrap64_in _ ⟨by omega, by omega⟩
 have d16 : ((xs.length : Int) != 2 + (wv.S.length : Int)) = false := by simp; omega
 have d22 : ((ws.length : Int) != (xs.length : Int)) = false := by simp; omega
 have d31 : (x1 != y1) = true := by simpa using hch
 have g1x : (1 : Int) < (xs.length : Int) := by omega
 have g1w : (1 : Int) < (ws.length : Int) := by omega
 have HLX := Lib.hid hl
 have HLW := Lib.hid hl2
 clear h h2 hS hP hD hn hl hl2 hch
 go_enter Tryz.func36, Tryz.ntmps36
 go_upto_region 1 with fail
 obtain ⟨W1, hW1⟩ : ∃ W1, (w.alloc (.cells #[.slice aQ Q.length cQ, .slice aS wv.S.length cS, .slice aP wv.P.length cP, .slice aD wv.D.length cD] 28)).alloc (.cells #[.slice none 0 0, .slice none 0 0, .slice none 0 0, .slice none 0 0, .slice none 0 0, .slice none 0 0, .slice none 0 0] 77) = W1 := ⟨_, rfl⟩
 rw [hW1] at F1 ⊢
 clear hW1
 have c0_0 := F1.out.c 0 0 rfl rfl
 have c0_1 := F1.out.c 0 1 rfl rfl
 have c0_2 := F1.out.c 0 2 rfl rfl
 have c0_3 := F1.out.c 0 3 rfl rfl
 obtain ⟨b9, o9, he, _, hcx⟩ := (F1.out.l 0 rfl).cell 1 (by omega)
 cases he
 obtain ⟨b9, o9, he, _, hcw⟩ := (F1.out.l 1 rfl).cell 1 (by omega)
 cases he
 rw [HX1.out] at hcx
 rw [HY1.out] at hcw
 go_quiet (fail)
 have F2 := Lib.hid (F1.out.drewN nq)
 obtain ⟨W2, hW2⟩ : ∃ x, W1.drewN nq = x := ⟨_, rfl⟩
 rw [hW2] at F2 ⊢
 clear hW2 F1 d16 hr2w c0_0 c0_1 c0_2 c0_3 d22 d31 hcx hcw
 have d1_0 := F2.out.c 1 0 rfl rfl
 have d1_1 := F2.out.c 1 1 rfl rfl
 have d1_2 := F2.out.c 1 2 rfl rfl
 have d1_3 := F2.out.c 1 3 rfl rfl
 have d1_4 := F2.out.c 1 4 rfl rfl
 have d1_5 := F2.out.c 1 5 rfl rfl
 have d1_6 := F2.out.c 1 6 rfl rfl
 have df1_0 := F2.out.f 1 0 rfl rfl
 have df1_1 := F2.out.f 1 1 rfl rfl
 have df1_2 := F2.out.f 1 2 rfl rfl
 have df1_3 := F2.out.f 1 3 rfl rfl
 have df1_4 := F2.out.f 1 4 rfl rfl
 have df1_5 := F2.out.f 1 5 rfl rfl
 have df1_6 := F2.out.f 1 6 rfl rfl
 go_wp2
 have FZ := F2.out.set 1 rfl (by simp) [.slice none 0 0, .slice none 0 0, .slice none 0 0, .slice none 0 0, .slice none 0 0, .slice none 0 0, .slice none 0 0] rfl
 simp only [setL, Nat.reduceAdd, List.set_cons_zero, List.set_cons_succ] at FZ
 have y0 := FZ.c 1 0 rfl rfl
 have y1 := FZ.c 1 1 rfl rfl
 have y2 := FZ.c 1 2 rfl rfl
 have y3 := FZ.c 1 3 rfl rfl
 have y4 := FZ.c 1 4 rfl rfl
 have y5 := FZ.c 1 5 rfl rfl
 have y6 := FZ.c 1 6 rfl rfl
 refine bodyPost_ret (v := .tuple #[.agg #[.slice none 0 0, .slice none 0 0, .slice none 0 0, .slice none 0 0, .slice none 0 0, .slice none 0 0, .slice none 0 0], .slice none 0 0, .int .i64 2]) ?_ rfl ⟨(none, 0, 0), (none, 0, 0), (none, 0, 0), (none, 0, 0), (none, 0, 0), (none, 0, 0), (none, 0, 0), rfl, FZ.bel⟩
 rw [results_ctt rfl]
 go_simp
set_option maxRecDepth 100000 in
set_option maxHeartbeats 2000000 in
theorem convOut_over (a a2 : Option Addr) (c c2 : Nat) (xs ws : List Int) (aQ aS aP aD : Option Addr) (cQ cS cP cD : Nat) (Q : List Int) (wv : WinV) (w : World) (h : Ints .i64 w w.heap.size a xs) (h2 : Ints .i64 w w.heap.size a2 ws) (hS : Ints .i64 w w.heap.size aS wv.S) (hP : Ints .i64 w w.heap.size aP wv.P) (hD : Ints .i64 w w.heap.size aD wv.D) (hn : numB false Q wv.S wv.P wv.D = true) (hl : xs.length = 2 + wv.S.length) (hl2 : ws.length = xs.length) (hch : xs[1]?.getD 0 = ws[1]?.getD 0) (hL : wv.L = xs.drop 2) (hK : wv.K = ws.drop 2) (hg : goodB xs = true) (hg2 : goodB ws = true) (hc1 : xs.length ≤ c) (hc2 : c ≤ 9223372036854775807) (hc3 : ws.length ≤ c2) (hc4 : c2 ≤ 9223372036854775807) (hok : wv.okB = false) :
  Calls Tryz.prog 36 #[.slice a xs.length c, .slice a2 ws.length c2, .agg #[.slice aQ Q.length cQ, .slice aS wv.S.length cS, .slice aP wv.P.length cP, .slice aD wv.D.length cD]] w (RetOB 2 w) := by
 have hs1 : 1 ≤ wv.S.length := (num_iff.1 hn).1.1
 have hs2 : wv.S.length ≤ 2 := (num_iff.1 hn).1.2.1
 have hm := h.len
 have hm2 := h2.len
 obtain ⟨hR, hr⟩ := conv_R hL hK hg hg2 hn hl hl2
 have hr1 := hr
 have hr2 := hR.r
 have hx4 := (goodB_iff.1 hg).1
 have hlen2 : xs.length - 2 = wv.L.length := by rw [hL, List.length_drop]
 have hlen3 : ws.length - 2 = wv.K.length := by rw [hK, List.length_drop]
 obtain ⟨b0, o0, rfl, _, _⟩ := h.cell 0 (by omega)
 obtain ⟨b1, o1, rfl, _, _⟩ := h2.cell 0 (by omega)
 obtain ⟨x1, hx1⟩ : ∃ z, xs[1]?.getD 0 = z := ⟨_, rfl⟩
 obtain ⟨y1, hy1⟩ : ∃ z, ws[1]?.getD 0 = z := ⟨_, rfl⟩
 rw [hx1, hy1] at hch
 have HX1 := Lib.hid hx1
 have HY1 := Lib.hid hy1
 clear hx1 hy1
 have hiL := ints_drop h 2
 rw [← hL] at hiL
 have hiK := ints_drop h2 2
 rw [← hK] at hiK
 have HOV := Lib.hid (fun W h0 h1 h2 h3 h4 => over_bad (some ⟨b0, o0 + 2, none⟩) (some ⟨b1, o1 + 2, none⟩) aQ aS aP aD (c - 2) (c2 - 2) cQ cS cP cD Q wv W h0 h1 h2 h3 h4 hR hok)
 have F1 := Lib.hid (((Fr.start (w := w) (I := [(.i64, (some ⟨b0, o0, none⟩), xs), (.i64, (some ⟨b1, o1, none⟩), ws), (.i64, aS, wv.S), (.i64, aP, wv.P), (.i64, aD, wv.D), (.i64, (some ⟨b0, o0 + 2, none⟩), wv.L), (.i64, (some ⟨b1, o1 + 2, none⟩), wv.K)]) (by intro z hz; simp at hz; rcases hz with rfl | rfl | rfl | rfl | rfl | rfl | rfl; exact h; exact h2; exact hS; exact hP; exact hD; exact hiL; exact hiK)).box1 (b := w.heap.size) rfl [.slice aQ Q.length cQ, .slice aS wv.S.length cS, .slice aP wv.P.length cP, .slice aD wv.D.length cD] 28).box1 (b := w.heap.size + 1) (by simp) [.slice none 0 0, .slice none 0 0, .slice none 0 0, .slice none 0 0, .slice none 0 0, .slice none 0 0, .slice none 0 0] 77)
 simp only [List.nil_append, List.cons_append] at F1
 have hr2w : ∀ [Inhabited Unit], RowKit.wrap64 (2 + (wv.S.length : Int)) = 2 + (wv.S.length : Int) := by intro _; exact IntWalk.wrap64_in _ ⟨by omega, by omega⟩
 have d16 : ((xs.length : Int) != 2 + (wv.S.length : Int)) = false := by simp; omega
 have d22 : ((ws.length : Int) != (xs.length : Int)) = false := by simp; omega
 have d31 : (x1 != y1) = false := by rw [hch]; simp
 have g1x : (1 : Int) < (xs.length : Int) := by omega
 have g1w : (1 : Int) < (ws.length : Int) := by omega
 have HLX := Lib.hid hl
 have HLW := Lib.hid hl2
 clear h h2 hS hP hD hn hl hl2 hch hR hok hg hg2 hiL hiK hL hK hr
 have HRL := Lib.hid hr1
 have HGX := Lib.hid (show (2 : Int) ≤ (xs.length : Int) ∧ (xs.length : Int) ≤ (c : Int) ∧ ¬ c = 2 by have := HLX.out; omega)
 have HGW := Lib.hid (show (2 : Int) ≤ (ws.length : Int) ∧ (ws.length : Int) ≤ (c2 : Int) ∧ ¬ c2 = 2 by have := HLX.out; have := HLW.out; omega)
 have HE2 := Lib.hid hlen2
 have HE3 := Lib.hid hlen3
 clear hlen2 hlen3 hr1
 go_enter Tryz.func36, Tryz.ntmps36
 go_upto_region 1 with fail
 obtain ⟨W1, hW1⟩ : ∃ W1, (w.alloc (.cells #[.slice aQ Q.length cQ, .slice aS wv.S.length cS, .slice aP wv.P.length cP, .slice aD wv.D.length cD] 28)).alloc (.cells #[.slice none 0 0, .slice none 0 0, .slice none 0 0, .slice none 0 0, .slice none 0 0, .slice none 0 0, .slice none 0 0] 77) = W1 := ⟨_, rfl⟩
 rw [hW1] at F1 ⊢
 clear hW1
 have c0_0 := F1.out.c 0 0 rfl rfl
 have c0_1 := F1.out.c 0 1 rfl rfl
 have c0_2 := F1.out.c 0 2 rfl rfl
 have c0_3 := F1.out.c 0 3 rfl rfl
 obtain ⟨b9, o9, he, _, hcx⟩ := (F1.out.l 0 rfl).cell 1 (by omega)
 cases he
 obtain ⟨b9, o9, he, _, hcw⟩ := (F1.out.l 1 rfl).cell 1 (by omega)
 cases he
 rw [HX1.out] at hcx
 rw [HY1.out] at hcw
 go_quiet (fail)
 have F2 := Lib.hid (F1.out.drewN nq)
 obtain ⟨W2, hW2⟩ : ∃ x, W1.drewN nq = x := ⟨_, rfl⟩
 rw [hW2] at F2 ⊢
 clear hW2 F1 d16 hr2w c0_0 c0_1 c0_2 c0_3 d22 d31 hcx hcw
 go_upto_region 3 with fail
 go_cut [9] from 9 to 42 (fun s9 wx => s9 = .bool false ∧ Hid (Fr w.heap.size w wx [(w.heap.size, [.slice aQ Q.length cQ, .slice aS wv.S.length cS, .slice aP wv.P.length cP, .slice aD wv.D.length cD]), (w.heap.size + 1, [.slice none 0 0, .slice none 0 0, .slice none 0 0, .slice none 0 0, .slice none 0 0, .slice none 0 0, .slice none 0 0])] [(.i64, (some ⟨b0, o0, none⟩), xs), (.i64, (some ⟨b1, o1, none⟩), ws), (.i64, aS, wv.S), (.i64, aP, wv.P), (.i64, aD, wv.D), (.i64, (some ⟨b0, o0 + 2, none⟩), wv.L), (.i64, (some ⟨b1, o1 + 2, none⟩), wv.K)] [] []))
 case first =>
  refine wp_region_parts2 (w := W2) 9 2 (some 8) [] [(fun u _ => u = .slice (some ⟨b0, o0, none⟩) xs.length c), (fun u _ => u = .slice (some ⟨b0, o0 + 2, none⟩) wv.L.length (c - 2)), (fun u _ => u = .slice (some ⟨b1, o1, none⟩) ws.length c2), (fun u _ => u = .slice (some ⟨b1, o1 + 2, none⟩) wv.K.length (c2 - 2)), (fun u _ => u = .agg #[.slice aQ Q.length cQ, .slice aS wv.S.length cS, .slice aP wv.P.length cP, .slice aD wv.D.length cD]), (fun u _ => u = .tuple #[.agg #[.slice none 0 0, .slice none 0 0, .slice none 0 0, .slice none 0 0, .slice none 0 0, .slice none 0 0, .slice none 0 0], .bool false]), (fun u _ => u = .tuple #[.agg #[.slice none 0 0, .slice none 0 0, .slice none 0 0, .slice none 0 0, .slice none 0 0, .slice none 0 0, .slice none 0 0], .bool false]), (fun u _ => u = .agg #[.slice none 0 0, .slice none 0 0, .slice none 0 0, .slice none 0 0, .slice none 0 0, .slice none 0 0, .slice none 0 0]), (fun u _ => u = .bool false)] [some 35, some 36, some 37, some 38, some 39, some 40, some 34, some 41, some 42, none, some 9] #[true, true, true, true, true, true, true, true, true, false, false] #[true, true, true, true, true, true, true, true, false, false, false] (by kernel_rfl) rfl (by kernel_rfl) (by kernel_rfl) rfl (by kernel_rfl) (by kernel_rfl) (.cons (carries_eq _) (.cons (carries_eq _) (.cons (carries_eq _) (.cons (carries_eq _) (.cons (carries_eq _) (.cons (carries_eq _) (.cons (carries_eq _) (.cons (carries_eq _) (.cons (carries_eq _) .nil))))))))) (fun vs b hvl hvb => ?_)
  obtain ⟨x0, x1, x2, x3, x4, x5, x6, x7, x8, x9, x10, rfl⟩ : ∃ x0 x1 x2 x3 x4 x5 x6 x7 x8 x9 x10, vs = [x0, x1, x2, x3, x4, x5, x6, x7, x8, x9, x10] := lw11 hvl
  clear hvl
  simp only [putAll, Act.put, List.setIfInBounds_toArray, List.set_cons_zero, List.set_cons_succ] at hvb
  subst hvb
  refine ⟨(.snoc (.snoc (.snoc (.snoc (.snoc (.snoc (.snoc (.snoc (.snoc .zero (PartOb.intro (d := (some 35)) (r := fun u _ => u = .slice (some ⟨b0, o0, none⟩) xs.length c) rfl rfl rfl rfl ?po3x0)) (PartOb.intro (d := (some 36)) (r := fun u _ => u = .slice (some ⟨b0, o0 + 2, none⟩) wv.L.length (c - 2)) rfl rfl rfl rfl ?po3x1)) (PartOb.intro (d := (some 37)) (r := fun u _ => u = .slice (some ⟨b1, o1, none⟩) ws.length c2) rfl rfl rfl rfl ?po3x2)) (PartOb.intro (d := (some 38)) (r := fun u _ => u = .slice (some ⟨b1, o1 + 2, none⟩) wv.K.length (c2 - 2)) rfl rfl rfl rfl ?po3x3)) (PartOb.intro (d := (some 39)) (r := fun u _ => u = .agg #[.slice aQ Q.length cQ, .slice aS wv.S.length cS, .slice aP wv.P.length cP, .slice aD wv.D.length cD]) rfl rfl rfl rfl ?po3x4)) (PartOb.intro (d := (some 40)) (r := fun u _ => u = .tuple #[.agg #[.slice none 0 0, .slice none 0 0, .slice none 0 0, .slice none 0 0, .slice none 0 0, .slice none 0 0, .slice none 0 0], .bool false]) rfl rfl rfl rfl ?po3x5)) (PartOb.intro (d := (some 34)) (r := fun u _ => u = .tuple #[.agg #[.slice none 0 0, .slice none 0 0, .slice none 0 0, .slice none 0 0, .slice none 0 0, .slice none 0 0, .slice none 0 0], .bool false]) rfl rfl rfl rfl ?po3x6)) (PartOb.intro (d := (some 41)) (r := fun u _ => u = .agg #[.slice none 0 0, .slice none 0 0, .slice none 0 0, .slice none 0 0, .slice none 0 0, .slice none 0 0, .slice none 0 0]) rfl rfl rfl rfl ?po3x7)) (PartOb.intro (d := (some 42)) (r := fun u _ => u = .bool false) rfl rfl rfl rfl ?po3x8)), ?pend3, ?pfl3⟩
  case po3x0 | po3x2 =>
   intro w1 hb1 hd KK hK
   go_simp
   exact hK.out _ _ (Below.refl _ _) rfl
  case po3x1 =>
   intro w1 hb1 hd KK hK
   obtain rfl := hd 0 (by kernel_rfl)
   have hxx := HE2.out
   obtain ⟨g1, g2, g3⟩ := HGX.out
   go_simp
   exact hK.out _ _ (Below.refl _ _) rfl
  case po3x3 =>
   intro w1 hb1 hd KK hK
   obtain rfl := hd 2 (by kernel_rfl)
   have hxx := HE3.out
   obtain ⟨g1, g2, g3⟩ := HGW.out
   go_simp
   exact hK.out _ _ (Below.refl _ _) rfl
  case po3x4 =>
   intro w1 hb1 hd KK hK
   have hF := F2.out.next hb1
   have k0 := hF.c 0 0 rfl rfl
   have k1 := hF.c 0 1 rfl rfl
   have k2 := hF.c 0 2 rfl rfl
   have k3 := hF.c 0 3 rfl rfl
   go_simp
   exact hK.out _ _ (Below.refl _ _) rfl
  case po3x5 =>
   intro w1 hb1 hd KK hK
   obtain rfl := hd 1 (by kernel_rfl)
   obtain rfl := hd 3 (by kernel_rfl)
   obtain rfl := hd 4 (by kernel_rfl)
   go_simp
   have hF := F2.out.next hb1
   go_at_call 70
   refine (HOV.out w1 (hF.lw 5 rfl) (hF.lw 6 rfl) (hF.lw 2 rfl) (hF.lw 3 rfl) (hF.lw 4 rfl)).mono ?_
   rintro e w6 ⟨rfl, hb⟩
   (try go_wp2_with fail)
   exact hK.out _ _ hb rfl
  case po3x6 =>
   intro w1 hb1 hd KK hK
   obtain rfl := hd 5 (by kernel_rfl)
   go_simp
   exact hK.out _ _ (Below.refl _ _) rfl
  case po3x7 | po3x8 =>
   intro w1 hb1 hd KK hK
   obtain rfl := hd 6 (by kernel_rfl)
   go_simp
   exact hK.out _ _ (Below.refl _ _) rfl
  case pend3 =>
   intro w1 hb1 hR hD
   obtain rfl := hR 0 (by decide)
   obtain rfl := hR 1 (by decide)
   obtain rfl := hR 2 (by decide)
   obtain rfl := hR 3 (by decide)
   obtain rfl := hR 4 (by decide)
   obtain rfl := hR 5 (by decide)
   obtain rfl := hR 6 (by decide)
   obtain rfl := hR 7 (by decide)
   obtain rfl := hR 8 (by decide)
   clear hR hD
   refine wpAny_ready (rs := [9]) (by kernel_rfl) (by simp) (AllReady.cons rfl (fun KK hK => ?_) AllReady.nil)
   have F6 := F2.out.next hb1
   have q0 := F6.c 1 0 rfl rfl
   have q1 := F6.c 1 1 rfl rfl
   have q2 := F6.c 1 2 rfl rfl
   have q3 := F6.c 1 3 rfl rfl
   have q4 := F6.c 1 4 rfl rfl
   have q5 := F6.c 1 5 rfl rfl
   have q6 := F6.c 1 6 rfl rfl
   have qf0 := F6.f 1 0 rfl rfl
   have qf1 := F6.f 1 1 rfl rfl
   have qf2 := F6.f 1 2 rfl rfl
   have qf3 := F6.f 1 3 rfl rfl
   have qf4 := F6.f 1 4 rfl rfl
   have qf5 := F6.f 1 5 rfl rfl
   have qf6 := F6.f 1 6 rfl rfl
   go_simp
   refine hK _ _ ?_
   clear hK KK
   refine wpAny_ready (rs := [10]) (by kernel_rfl) (by simp) (AllReady.cons rfl (fun KK hK => ?_) AllReady.nil)
   go_simp
   refine hK _ _ ?_
   clear hK KK
   refine wpAny_done (by kernel_rfl) ?_ _
   have F7 := Lib.hid (F6.set 1 rfl (by simp) [.slice none 0 0, .slice none 0 0, .slice none 0 0, .slice none 0 0, .slice none 0 0, .slice none 0 0, .slice none 0 0] rfl)
   simp only [setL, Nat.reduceAdd, List.set_cons_zero, List.set_cons_succ] at F7
   go_wp2
   go_meet
   exact ⟨rfl, F7⟩
  case pfl3 =>
   intro f hf hfn w1 hb1 hR hD
   injection hf with hf
   subst hf
   obtain rfl := hR 0 (by decide) (by decide)
   obtain rfl := hR 1 (by decide) (by decide)
   obtain rfl := hR 2 (by decide) (by decide)
   obtain rfl := hR 3 (by decide) (by decide)
   obtain rfl := hR 4 (by decide) (by decide)
   obtain rfl := hR 5 (by decide) (by decide)
   obtain rfl := hR 6 (by decide) (by decide)
   obtain rfl := hR 7 (by decide) (by decide)
   clear hR hD
   refine wpAny_take (i := 8) (v := .bool false) rfl (by kernel_rfl) (by kernel_rfl) (by kernel_rfl) (fun _ _ _ h => h) (.inl ⟨by rfl, fun w => by go_simp⟩) ?_
   refine wpAny_ready (rs := [9]) (by kernel_rfl) (by simp) (AllReady.cons rfl (fun KK hK => ?_) AllReady.nil)
   have F6 := F2.out.next hb1
   have q0 := F6.c 1 0 rfl rfl
   have q1 := F6.c 1 1 rfl rfl
   have q2 := F6.c 1 2 rfl rfl
   have q3 := F6.c 1 3 rfl rfl
   have q4 := F6.c 1 4 rfl rfl
   have q5 := F6.c 1 5 rfl rfl
   have q6 := F6.c 1 6 rfl rfl
   have qf0 := F6.f 1 0 rfl rfl
   have qf1 := F6.f 1 1 rfl rfl
   have qf2 := F6.f 1 2 rfl rfl
   have qf3 := F6.f 1 3 rfl rfl
   have qf4 := F6.f 1 4 rfl rfl
   have qf5 := F6.f 1 5 rfl rfl
   have qf6 := F6.f 1 6 rfl rfl
   go_simp
   refine hK _ _ ?_
   clear hK KK
   refine wpAny_ready (rs := [10]) (by kernel_rfl) (by simp) (AllReady.cons rfl (fun KK hK => ?_) AllReady.nil)
   go_simp
   refine hK _ _ ?_
   clear hK KK
   refine wpAny_done (by kernel_rfl) ?_ _
   have F7 := Lib.hid (F6.set 1 rfl (by simp) [.slice none 0 0, .slice none 0 0, .slice none 0 0, .slice none 0 0, .slice none 0 0, .slice none 0 0, .slice none 0 0] rfl)
   simp only [setL, Nat.reduceAdd, List.set_cons_zero, List.set_cons_succ] at F7
   go_wp2
   go_meet
   exact ⟨rfl, F7⟩
 case rest =>
  obtain ⟨rfl, F7⟩ := hcut
  clear F2
  obtain ⟨W7, rfl⟩ : ∃ x : World, x = wc := ⟨_, rfl⟩
  have d1_0 := F7.out.c 1 0 rfl rfl
  have d1_1 := F7.out.c 1 1 rfl rfl
  have d1_2 := F7.out.c 1 2 rfl rfl
  have d1_3 := F7.out.c 1 3 rfl rfl
  have d1_4 := F7.out.c 1 4 rfl rfl
  have d1_5 := F7.out.c 1 5 rfl rfl
  have d1_6 := F7.out.c 1 6 rfl rfl
  have df1_0 := F7.out.f 1 0 rfl rfl
  have df1_1 := F7.out.f 1 1 rfl rfl
  have df1_2 := F7.out.f 1 2 rfl rfl
  have df1_3 := F7.out.f 1 3 rfl rfl
  have df1_4 := F7.out.f 1 4 rfl rfl
  have df1_5 := F7.out.f 1 5 rfl rfl
  have df1_6 := F7.out.f 1 6 rfl rfl
  go_wp2
  have FZ := F7.out.set 1 rfl (by simp) [.slice none 0 0, .slice none 0 0, .slice none 0 0, .slice none 0 0, .slice none 0 0, .slice none 0 0, .slice none 0 0] rfl
  simp only [setL, Nat.reduceAdd, List.set_cons_zero, List.set_cons_succ] at FZ
  have y0 := FZ.c 1 0 rfl rfl
  have y1 := FZ.c 1 1 rfl rfl
  have y2 := FZ.c 1 2 rfl rfl
  have y3 := FZ.c 1 3 rfl rfl
  have y4 := FZ.c 1 4 rfl rfl
  have y5 := FZ.c 1 5 rfl rfl
  have y6 := FZ.c 1 6 rfl rfl
  refine bodyPost_ret (v := .tuple #[.agg #[.slice none 0 0, .slice none 0 0, .slice none 0 0, .slice none 0 0, .slice none 0 0, .slice none 0 0, .slice none 0 0], .slice none 0 0, .int .i64 2]) ?_ rfl ⟨(none, 0, 0), (none, 0, 0), (none, 0, 0), (none, 0, 0), (none, 0, 0), (none, 0, 0), (none, 0, 0), rfl, FZ.bel⟩
  rw [results_ctt rfl]
  go_simp
set_option maxRecDepth 100000 in
set_option maxHeartbeats 2000000 in
theorem convOut_bud (a a2 : Option Addr) (c c2 : Nat) (xs ws : List Int) (aQ aS aP aD : Option Addr) (cQ cS cP cD : Nat) (Q : List Int) (wv : WinV) (w : World) (h : Ints .i64 w w.heap.size a xs) (h2 : Ints .i64 w w.heap.size a2 ws) (hS : Ints .i64 w w.heap.size aS wv.S) (hP : Ints .i64 w w.heap.size aP wv.P) (hD : Ints .i64 w w.heap.size aD wv.D) (hn : numB false Q wv.S wv.P wv.D = true) (hl : xs.length = 2 + wv.S.length) (hl2 : ws.length = xs.length) (hch : xs[1]?.getD 0 = ws[1]?.getD 0) (hL : wv.L = xs.drop 2) (hK : wv.K = ws.drop 2) (hg : goodB xs = true) (hg2 : goodB ws = true) (hc1 : xs.length ≤ c) (hc2 : c ≤ 9223372036854775807) (hc3 : ws.length ≤ c2) (hc4 : c2 ≤ 9223372036854775807) (hok : wv.okB = true) (hgs : goodB (coS xs ws wv) = false) :
  Calls Tryz.prog 36 #[.slice a xs.length c, .slice a2 ws.length c2, .agg #[.slice aQ Q.length cQ, .slice aS wv.S.length cS, .slice aP wv.P.length cP, .slice aD wv.D.length cD]] w (RetOB 5 w) := by
 have hs1 : 1 ≤ wv.S.length := (num_iff.1 hn).1.1
 have hs2 : wv.S.length ≤ 2 := (num_iff.1 hn).1.2.1
 have hm := h.len
 have hm2 := h2.len
 obtain ⟨hR, hr⟩ := conv_R hL hK hg hg2 hn hl hl2
 have hr1 := hr
 have hr2 := hR.r
 have hx4 := (goodB_iff.1 hg).1
 have hlen2 : xs.length - 2 = wv.L.length := by rw [hL, List.length_drop]
 have hlen3 : ws.length - 2 = wv.K.length := by rw [hK, List.length_drop]
 obtain ⟨b0, o0, rfl, _, _⟩ := h.cell 0 (by omega)
 obtain ⟨b1, o1, rfl, _, _⟩ := h2.cell 0 (by omega)
 obtain ⟨x1, hx1⟩ : ∃ z, xs[1]?.getD 0 = z := ⟨_, rfl⟩
 obtain ⟨y1, hy1⟩ : ∃ z, ws[1]?.getD 0 = z := ⟨_, rfl⟩
 rw [hx1, hy1] at hch
 have HX1 := Lib.hid hx1
 have HY1 := Lib.hid hy1
 clear hx1 hy1
 have hiL := ints_drop h 2
 rw [← hL] at hiL
 have hiK := ints_drop h2 2
 rw [← hK] at hiK
 have HOV := Lib.hid (fun W h0 h1 h2 h3 h4 => over_ok (some ⟨b0, o0 + 2, none⟩) (some ⟨b1, o1 + 2, none⟩) aQ aS aP aD (c - 2) (c2 - 2) cQ cS cP cD Q wv W h0 h1 h2 h3 h4 hR hok)
 have hwO : ∀ x ∈ wv.O, (Lit.int .i64 x).wf = true := fun x hx => by
  obtain ⟨i, hi, rfl⟩ := List.mem_map.1 hx
  have hi2 := List.mem_range.1 hi
  have := hR.out_pos hi2 (WinV.ok_room hok hi2)
  exact wf_i64_iff.2 ⟨by omega, by omega⟩
 have HWO := Lib.hid hwO
 have hOl := wv.O_len
 have HOL := Lib.hid hOl
 clear hwO hOl
 obtain ⟨S, hSe⟩ : ∃ s, coS xs ws wv = s := ⟨_, rfl⟩
 have hSd : S = [xs[0]?.getD 0, ws[0]?.getD 0] ++ wv.O := by rw [← hSe]; rfl
 rw [hSe] at hgs
 have hSwf : ∀ x ∈ S, (Lit.int .i64 x).wf = true := fun x hx => by
  rw [hSd] at hx
  rcases List.mem_append.1 hx with hx | hx
  ·have h0 := goodB_dims hg _ (getD_mem (show 0 < xs.length by omega))
   have h1 := goodB_dims hg2 _ (getD_mem (show 0 < ws.length by omega))
   simp at hx
   rcases hx with rfl | rfl <;> exact wf_i64_iff.2 ⟨by omega, by omega⟩
  ·exact HWO.out x hx
 have HSWF := Lib.hid hSwf
 have HSD := Lib.hid hSd
 have hSl : 2 + wv.O.length = S.length := by rw [hSd]; simp; omega
 have HSL := Lib.hid hSl
 have hsh := fun a9 c9 W h9 => shaped_any a9 c9 S W h9 false hgs
 simp only [if_true, if_false, Bool.false_eq_true, reduceIte] at hsh
 have HSH := Lib.hid hsh
 clear hSe hgs hSd hSwf hSl hsh
 have F1 := Lib.hid (((Fr.start (w := w) (I := [(.i64, (some ⟨b0, o0, none⟩), xs), (.i64, (some ⟨b1, o1, none⟩), ws), (.i64, aS, wv.S), (.i64, aP, wv.P), (.i64, aD, wv.D), (.i64, (some ⟨b0, o0 + 2, none⟩), wv.L), (.i64, (some ⟨b1, o1 + 2, none⟩), wv.K)]) (by intro z hz; simp at hz; rcases hz with rfl | rfl | rfl | rfl | rfl | rfl | rfl; exact h; exact h2; exact hS; exact hP; exact hD; exact hiL; exact hiK)).box1 (b := w.heap.size) rfl [.slice aQ Q.length cQ, .slice aS wv.S.length cS, .slice aP wv.P.length cP, .slice aD wv.D.length cD] 28).box1 (b := w.heap.size + 1) (by simp) [.slice none 0 0, .slice none 0 0, .slice none 0 0, .slice none 0 0, .slice none 0 0, .slice none 0 0, .slice none 0 0] 77)
 simp only [List.nil_append, List.cons_append] at F1
 have hr2w : ∀ [Inhabited Unit], RowKit.wrap64 (2 + (wv.S.length : Int)) = 2 + (wv.S.length : Int) := by intro _; exact IntWalk.wrap64_in _ ⟨by omega, by omega⟩
 have d16 : ((xs.length : Int) != 2 + (wv.S.length : Int)) = false := by simp; omega
 have d22 : ((ws.length : Int) != (xs.length : Int)) = false := by simp; omega
 have d31 : (x1 != y1) = false := by rw [hch]; simp
 have g1x : (1 : Int) < (xs.length : Int) := by omega
 have g1w : (1 : Int) < (ws.length : Int) := by omega
 have HLX := Lib.hid hl
 have HLW := Lib.hid hl2
 clear h h2 hS hP hD hn hl hl2 hch hR hok hg hg2 hiL hiK hL hK hr
 have HRL := Lib.hid hr1
 have HGX := Lib.hid (show (2 : Int) ≤ (xs.length : Int) ∧ (xs.length : Int) ≤ (c : Int) ∧ ¬ c = 2 by have := HLX.out; omega)
 have HGW := Lib.hid (show (2 : Int) ≤ (ws.length : Int) ∧ (ws.length : Int) ≤ (c2 : Int) ∧ ¬ c2 = 2 by have := HLX.out; have := HLW.out; omega)
 have HE2 := Lib.hid hlen2
 have HE3 := Lib.hid hlen3
 clear hlen2 hlen3 hr1
 go_enter Tryz.func36, Tryz.ntmps36
 go_upto_region 1 with fail
 obtain ⟨W1, hW1⟩ : ∃ W1, (w.alloc (.cells #[.slice aQ Q.length cQ, .slice aS wv.S.length cS, .slice aP wv.P.length cP, .slice aD wv.D.length cD] 28)).alloc (.cells #[.slice none 0 0, .slice none 0 0, .slice none 0 0, .slice none 0 0, .slice none 0 0, .slice none 0 0, .slice none 0 0] 77) = W1 := ⟨_, rfl⟩
 rw [hW1] at F1 ⊢
 clear hW1
 have c0_0 := F1.out.c 0 0 rfl rfl
 have c0_1 := F1.out.c 0 1 rfl rfl
 have c0_2 := F1.out.c 0 2 rfl rfl
 have c0_3 := F1.out.c 0 3 rfl rfl
 obtain ⟨b9, o9, he, _, hcx⟩ := (F1.out.l 0 rfl).cell 1 (by omega)
 cases he
 obtain ⟨b9, o9, he, _, hcw⟩ := (F1.out.l 1 rfl).cell 1 (by omega)
 cases he
 rw [HX1.out] at hcx
 rw [HY1.out] at hcw
 go_quiet (fail)
 have F2 := Lib.hid (F1.out.drewN nq)
 obtain ⟨W2, hW2⟩ : ∃ x, W1.drewN nq = x := ⟨_, rfl⟩
 rw [hW2] at F2 ⊢
 clear hW2 F1 d16 hr2w c0_0 c0_1 c0_2 c0_3 d22 d31 hcx hcw
 go_upto_region 3 with fail
 go_cut [9] from 9 to 42 (fun s9 wx => s9 = .bool true ∧ ∃ aO cO, Hid (Fr w.heap.size w wx [(w.heap.size, [.slice aQ Q.length cQ, .slice aS wv.S.length cS, .slice aP wv.P.length cP, .slice aD wv.D.length cD]), (w.heap.size + 1, [.slice (some ⟨b0, o0 + 2, none⟩) wv.L.length (c - 2), .slice (some ⟨b1, o1 + 2, none⟩) wv.K.length (c2 - 2), .slice aO wv.O.length cO, .slice aQ Q.length cQ, .slice aS wv.S.length cS, .slice aP wv.P.length cP, .slice aD wv.D.length cD])] [(.i64, (some ⟨b0, o0, none⟩), xs), (.i64, (some ⟨b1, o1, none⟩), ws), (.i64, aS, wv.S), (.i64, aP, wv.P), (.i64, aD, wv.D), (.i64, (some ⟨b0, o0 + 2, none⟩), wv.L), (.i64, (some ⟨b1, o1 + 2, none⟩), wv.K)] [⟨3, .slice aO wv.O.length cO, wv.O.length, wv.O.map (Value.int .i64)⟩] []))
 case first =>
  refine wp_region_parts2 (w := W2) 9 2 (some 8) [] [(fun u _ => u = .slice (some ⟨b0, o0, none⟩) xs.length c), (fun u _ => u = .slice (some ⟨b0, o0 + 2, none⟩) wv.L.length (c - 2)), (fun u _ => u = .slice (some ⟨b1, o1, none⟩) ws.length c2), (fun u _ => u = .slice (some ⟨b1, o1 + 2, none⟩) wv.K.length (c2 - 2)), (fun u _ => u = .agg #[.slice aQ Q.length cQ, .slice aS wv.S.length cS, .slice aP wv.P.length cP, .slice aD wv.D.length cD]), ((HasRow W2.heap.size wv.O.length (wv.O.map (Value.int .i64)) (fun aO cO => .tuple #[.agg #[.slice (some ⟨b0, o0 + 2, none⟩) wv.L.length (c - 2), .slice (some ⟨b1, o1 + 2, none⟩) wv.K.length (c2 - 2), .slice aO wv.O.length cO, .slice aQ Q.length cQ, .slice aS wv.S.length cS, .slice aP wv.P.length cP, .slice aD wv.D.length cD], .bool true]))), ((HasRow W2.heap.size wv.O.length (wv.O.map (Value.int .i64)) (fun aO cO => .tuple #[.agg #[.slice (some ⟨b0, o0 + 2, none⟩) wv.L.length (c - 2), .slice (some ⟨b1, o1 + 2, none⟩) wv.K.length (c2 - 2), .slice aO wv.O.length cO, .slice aQ Q.length cQ, .slice aS wv.S.length cS, .slice aP wv.P.length cP, .slice aD wv.D.length cD], .bool true]))), ((HasRow W2.heap.size wv.O.length (wv.O.map (Value.int .i64)) (fun aO cO => .agg #[.slice (some ⟨b0, o0 + 2, none⟩) wv.L.length (c - 2), .slice (some ⟨b1, o1 + 2, none⟩) wv.K.length (c2 - 2), .slice aO wv.O.length cO, .slice aQ Q.length cQ, .slice aS wv.S.length cS, .slice aP wv.P.length cP, .slice aD wv.D.length cD]))), (fun u _ => u = .bool true)] [some 35, some 36, some 37, some 38, some 39, some 40, some 34, some 41, some 42, none, some 9] #[true, true, true, true, true, true, true, true, true, false, false] #[true, true, true, true, true, true, true, true, false, false, false] (by kernel_rfl) rfl (by kernel_rfl) (by kernel_rfl) rfl (by kernel_rfl) (by kernel_rfl) (.cons (carries_eq _) (.cons (carries_eq _) (.cons (carries_eq _) (.cons (carries_eq _) (.cons (carries_eq _) (.cons (hasRow_carries _ _ _ _) (.cons (hasRow_carries _ _ _ _) (.cons (hasRow_carries _ _ _ _) (.cons (carries_eq _) .nil))))))))) (fun vs b hvl hvb => ?_)
  obtain ⟨x0, x1, x2, x3, x4, x5, x6, x7, x8, x9, x10, rfl⟩ : ∃ x0 x1 x2 x3 x4 x5 x6 x7 x8 x9 x10, vs = [x0, x1, x2, x3, x4, x5, x6, x7, x8, x9, x10] := lw11 hvl
  clear hvl
  simp only [putAll, Act.put, List.setIfInBounds_toArray, List.set_cons_zero, List.set_cons_succ] at hvb
  subst hvb
  refine ⟨(.snoc (.snoc (.snoc (.snoc (.snoc (.snoc (.snoc (.snoc (.snoc .zero (PartOb.intro (d := (some 35)) (r := fun u _ => u = .slice (some ⟨b0, o0, none⟩) xs.length c) rfl rfl rfl rfl ?po3x0)) (PartOb.intro (d := (some 36)) (r := fun u _ => u = .slice (some ⟨b0, o0 + 2, none⟩) wv.L.length (c - 2)) rfl rfl rfl rfl ?po3x1)) (PartOb.intro (d := (some 37)) (r := fun u _ => u = .slice (some ⟨b1, o1, none⟩) ws.length c2) rfl rfl rfl rfl ?po3x2)) (PartOb.intro (d := (some 38)) (r := fun u _ => u = .slice (some ⟨b1, o1 + 2, none⟩) wv.K.length (c2 - 2)) rfl rfl rfl rfl ?po3x3)) (PartOb.intro (d := (some 39)) (r := fun u _ => u = .agg #[.slice aQ Q.length cQ, .slice aS wv.S.length cS, .slice aP wv.P.length cP, .slice aD wv.D.length cD]) rfl rfl rfl rfl ?po3x4)) (PartOb.intro (d := (some 40)) (r := (HasRow W2.heap.size wv.O.length (wv.O.map (Value.int .i64)) (fun aO cO => .tuple #[.agg #[.slice (some ⟨b0, o0 + 2, none⟩) wv.L.length (c - 2), .slice (some ⟨b1, o1 + 2, none⟩) wv.K.length (c2 - 2), .slice aO wv.O.length cO, .slice aQ Q.length cQ, .slice aS wv.S.length cS, .slice aP wv.P.length cP, .slice aD wv.D.length cD], .bool true]))) rfl rfl rfl rfl ?po3x5)) (PartOb.intro (d := (some 34)) (r := (HasRow W2.heap.size wv.O.length (wv.O.map (Value.int .i64)) (fun aO cO => .tuple #[.agg #[.slice (some ⟨b0, o0 + 2, none⟩) wv.L.length (c - 2), .slice (some ⟨b1, o1 + 2, none⟩) wv.K.length (c2 - 2), .slice aO wv.O.length cO, .slice aQ Q.length cQ, .slice aS wv.S.length cS, .slice aP wv.P.length cP, .slice aD wv.D.length cD], .bool true]))) rfl rfl rfl rfl ?po3x6)) (PartOb.intro (d := (some 41)) (r := (HasRow W2.heap.size wv.O.length (wv.O.map (Value.int .i64)) (fun aO cO => .agg #[.slice (some ⟨b0, o0 + 2, none⟩) wv.L.length (c - 2), .slice (some ⟨b1, o1 + 2, none⟩) wv.K.length (c2 - 2), .slice aO wv.O.length cO, .slice aQ Q.length cQ, .slice aS wv.S.length cS, .slice aP wv.P.length cP, .slice aD wv.D.length cD]))) rfl rfl rfl rfl ?po3x7)) (PartOb.intro (d := (some 42)) (r := fun u _ => u = .bool true) rfl rfl rfl rfl ?po3x8)), ?pend3, ?pfl3⟩
  case po3x0 | po3x2 =>
   intro w1 hb1 hd KK hK
   go_simp
   exact hK.out _ _ (Below.refl _ _) rfl
  case po3x1 =>
   intro w1 hb1 hd KK hK
   obtain rfl := hd 0 (by kernel_rfl)
   have hxx := HE2.out
   obtain ⟨g1, g2, g3⟩ := HGX.out
   go_simp
   exact hK.out _ _ (Below.refl _ _) rfl
  case po3x3 =>
   intro w1 hb1 hd KK hK
   obtain rfl := hd 2 (by kernel_rfl)
   have hxx := HE3.out
   obtain ⟨g1, g2, g3⟩ := HGW.out
   go_simp
   exact hK.out _ _ (Below.refl _ _) rfl
  case po3x4 =>
   intro w1 hb1 hd KK hK
   have hF := F2.out.next hb1
   have k0 := hF.c 0 0 rfl rfl
   have k1 := hF.c 0 1 rfl rfl
   have k2 := hF.c 0 2 rfl rfl
   have k3 := hF.c 0 3 rfl rfl
   go_simp
   exact hK.out _ _ (Below.refl _ _) rfl
  case po3x5 =>
   intro w1 hb1 hd KK hK
   obtain rfl := hd 1 (by kernel_rfl)
   obtain rfl := hd 3 (by kernel_rfl)
   obtain rfl := hd 4 (by kernel_rfl)
   go_simp
   have hF := F2.out.next hb1
   go_at_call 70
   refine (HOV.out w1 (hF.lw 5 rfl) (hF.lw 6 rfl) (hF.lw 2 rfl) (hF.lw 3 rfl) (hF.lw 4 rfl)).mono ?_
   rintro e w6 ⟨aO, cO, rfl, hf⟩
   (try go_wp2_with fail)
   exact hK.out _ _ hf.bel ⟨aO, cO, rfl, own_mono (hf.r 0 rfl) hb1.size⟩
  case po3x6 =>
   intro w1 hb1 hd KK hK
   obtain ⟨a5_, c5_, rfl, hO5⟩ := hd 5 (by kernel_rfl)
   go_simp
   exact hK.out _ _ (Below.refl _ _) ⟨_, _, rfl, hO5⟩
  case po3x7 =>
   intro w1 hb1 hd KK hK
   obtain ⟨a6_, c6_, rfl, hO6⟩ := hd 6 (by kernel_rfl)
   go_simp
   exact hK.out _ _ (Below.refl _ _) ⟨_, _, rfl, hO6⟩
  case po3x8 =>
   intro w1 hb1 hd KK hK
   obtain ⟨a6_, c6_, rfl, hO6⟩ := hd 6 (by kernel_rfl)
   go_simp
   exact hK.out _ _ (Below.refl _ _) rfl
  case pend3 =>
   intro w1 hb1 hR hD
   obtain rfl := hR 0 (by decide)
   obtain rfl := hR 1 (by decide)
   obtain rfl := hR 2 (by decide)
   obtain rfl := hR 3 (by decide)
   obtain rfl := hR 4 (by decide)
   obtain ⟨a5_, c5_, rfl, hO5⟩ := hR 5 (by decide)
   obtain ⟨a6_, c6_, rfl, hO6⟩ := hR 6 (by decide)
   obtain ⟨a7_, c7_, rfl, hO7⟩ := hR 7 (by decide)
   obtain rfl := hR 8 (by decide)
   clear hR hD
   refine wpAny_ready (rs := [9]) (by kernel_rfl) (by simp) (AllReady.cons rfl (fun KK hK => ?_) AllReady.nil)
   have F6 := F2.out.addO hb1 hO7
   simp only [List.nil_append, List.cons_append] at F6
   have q0 := F6.c 1 0 rfl rfl
   have q1 := F6.c 1 1 rfl rfl
   have q2 := F6.c 1 2 rfl rfl
   have q3 := F6.c 1 3 rfl rfl
   have q4 := F6.c 1 4 rfl rfl
   have q5 := F6.c 1 5 rfl rfl
   have q6 := F6.c 1 6 rfl rfl
   have qf0 := F6.f 1 0 rfl rfl
   have qf1 := F6.f 1 1 rfl rfl
   have qf2 := F6.f 1 2 rfl rfl
   have qf3 := F6.f 1 3 rfl rfl
   have qf4 := F6.f 1 4 rfl rfl
   have qf5 := F6.f 1 5 rfl rfl
   have qf6 := F6.f 1 6 rfl rfl
   go_simp
   refine hK _ _ ?_
   clear hK KK
   refine wpAny_ready (rs := [10]) (by kernel_rfl) (by simp) (AllReady.cons rfl (fun KK hK => ?_) AllReady.nil)
   go_simp
   refine hK _ _ ?_
   clear hK KK
   refine wpAny_done (by kernel_rfl) ?_ _
   have F7 := Lib.hid (F6.set 1 rfl (by simp) [.slice (some ⟨b0, o0 + 2, none⟩) wv.L.length (c - 2), .slice (some ⟨b1, o1 + 2, none⟩) wv.K.length (c2 - 2), .slice a7_ wv.O.length c7_, .slice aQ Q.length cQ, .slice aS wv.S.length cS, .slice aP wv.P.length cP, .slice aD wv.D.length cD] rfl)
   simp only [setL, Nat.reduceAdd, List.set_cons_zero, List.set_cons_succ] at F7
   go_wp2
   go_meet
   exact ⟨rfl, a7_, c7_, F7⟩
  case pfl3 =>
   intro f hf hfn w1 hb1 hR hD
   injection hf with hf
   subst hf
   obtain rfl := hR 0 (by decide) (by decide)
   obtain rfl := hR 1 (by decide) (by decide)
   obtain rfl := hR 2 (by decide) (by decide)
   obtain rfl := hR 3 (by decide) (by decide)
   obtain rfl := hR 4 (by decide) (by decide)
   obtain ⟨a5_, c5_, rfl, hO5⟩ := hR 5 (by decide) (by decide)
   obtain ⟨a6_, c6_, rfl, hO6⟩ := hR 6 (by decide) (by decide)
   obtain ⟨a7_, c7_, rfl, hO7⟩ := hR 7 (by decide) (by decide)
   clear hR hD
   refine wpAny_take (i := 8) (v := .bool true) rfl (by kernel_rfl) (by kernel_rfl) (by kernel_rfl) (fun _ _ _ h => h) (.inl ⟨by rfl, fun w => by go_simp⟩) ?_
   refine wpAny_ready (rs := [9]) (by kernel_rfl) (by simp) (AllReady.cons rfl (fun KK hK => ?_) AllReady.nil)
   have F6 := F2.out.addO hb1 hO7
   simp only [List.nil_append, List.cons_append] at F6
   have q0 := F6.c 1 0 rfl rfl
   have q1 := F6.c 1 1 rfl rfl
   have q2 := F6.c 1 2 rfl rfl
   have q3 := F6.c 1 3 rfl rfl
   have q4 := F6.c 1 4 rfl rfl
   have q5 := F6.c 1 5 rfl rfl
   have q6 := F6.c 1 6 rfl rfl
   have qf0 := F6.f 1 0 rfl rfl
   have qf1 := F6.f 1 1 rfl rfl
   have qf2 := F6.f 1 2 rfl rfl
   have qf3 := F6.f 1 3 rfl rfl
   have qf4 := F6.f 1 4 rfl rfl
   have qf5 := F6.f 1 5 rfl rfl
   have qf6 := F6.f 1 6 rfl rfl
   go_simp
   refine hK _ _ ?_
   clear hK KK
   refine wpAny_ready (rs := [10]) (by kernel_rfl) (by simp) (AllReady.cons rfl (fun KK hK => ?_) AllReady.nil)
   go_simp
   refine hK _ _ ?_
   clear hK KK
   refine wpAny_done (by kernel_rfl) ?_ _
   have F7 := Lib.hid (F6.set 1 rfl (by simp) [.slice (some ⟨b0, o0 + 2, none⟩) wv.L.length (c - 2), .slice (some ⟨b1, o1 + 2, none⟩) wv.K.length (c2 - 2), .slice a7_ wv.O.length c7_, .slice aQ Q.length cQ, .slice aS wv.S.length cS, .slice aP wv.P.length cP, .slice aD wv.D.length cD] rfl)
   simp only [setL, Nat.reduceAdd, List.set_cons_zero, List.set_cons_succ] at F7
   go_wp2
   go_meet
   exact ⟨rfl, a7_, c7_, F7⟩
 case rest =>
  obtain ⟨rfl, aO, cO, F7⟩ := hcut
  clear F2
  obtain ⟨W7, rfl⟩ : ∃ x : World, x = wc := ⟨_, rfl⟩
  go_upto_region 6 with fail
  have hl := HLX.out
  have hl2 := HLW.out
  have hk0 : 0 < xs.length := by omega
  have hk1 : 0 < ws.length := by omega
  have hk0i : (0 : Int) < (xs.length : Int) := by omega
  have hk1i : (0 : Int) < (ws.length : Int) := by omega
  clear hl hl2
  obtain ⟨nA, hnA⟩ : ∃ z, xs[0]?.getD 0 = z := ⟨_, rfl⟩
  obtain ⟨nB, hnB⟩ : ∃ z, ws[0]?.getD 0 = z := ⟨_, rfl⟩
  have hsd := HSD.out
  rw [hnA, hnB] at hsd
  have HD0 := Lib.hid hnA
  have HD1 := Lib.hid hnB
  have HSD2 := Lib.hid hsd
  clear hsd hnA hnB HSD
  obtain ⟨aO', cO', he, hsh⟩ := own_shape (F7.out.r 0 rfl)
  simp only [Value.slice.injEq] at he
  obtain ⟨rfl, _, rfl⟩ := he
  obtain ⟨gO, rfl, _⟩ := hsh.resolve_left (show ¬ wv.O.length = 0 from by have := HOL.out; have := HRL.out; omega)
  refine wp_region_parts2 (w := W7) 9 7 none [] [(fun u _ => u = .slice (some ⟨b0, o0, none⟩) xs.length c), (fun u _ => u = .pointer (some ⟨b0, o0, none⟩)), (fun u _ => u = .int .i64 nA), (fun u _ => u = .slice (some ⟨b1, o1, none⟩) ws.length c2), (fun u _ => u = .pointer (some ⟨b1, o1, none⟩)), (fun u _ => u = .int .i64 nB), ((IsRow W7.heap.size 3 2 ([nA, nB].map (Value.int .i64)))), (fun u _ => u = .pointer (some ⟨w.heap.size + 1, 2, none⟩)), (fun u _ => u = .slice (some ⟨gO, 0, none⟩) wv.O.length cO)] [some 47, some 48, some 49, some 50, some 51, some 52, some 53, some 54, some 55, some 56, some 57, some 46, some 58, some 59, some 7, some 8] #[true, true, true, true, true, true, true, true, true, false, false, false, false, false, false, false] #[true, true, true, true, true, true, true, true, true, false, false, false, false, false, false, false] (by kernel_rfl) rfl (by kernel_rfl) (by kernel_rfl) rfl (by kernel_rfl) (by kernel_rfl) (.cons (carries_eq _) (.cons (carries_eq _) (.cons (carries_eq _) (.cons (carries_eq _) (.cons (carries_eq _) (.cons (carries_eq _) (.cons (isRow_carries _ _ _ _) (.cons (carries_eq _) (.cons (carries_eq _) .nil))))))))) (fun vs b hvl hvb => ?_)
  obtain ⟨x0, x1, x2, x3, x4, x5, x6, x7, x8, x9, x10, x11, x12, x13, x14, x15, rfl⟩ : ∃ x0 x1 x2 x3 x4 x5 x6 x7 x8 x9 x10 x11 x12 x13 x14 x15, vs = [x0, x1, x2, x3, x4, x5, x6, x7, x8, x9, x10, x11, x12, x13, x14, x15] := lw16 hvl
  clear hvl
  simp only [putAll, Act.put, List.setIfInBounds_toArray, List.set_cons_zero, List.set_cons_succ] at hvb
  subst hvb
  refine ⟨(.snoc (.snoc (.snoc (.snoc (.snoc (.snoc (.snoc (.snoc (.snoc .zero (PartOb.intro (d := (some 47)) (r := fun u _ => u = .slice (some ⟨b0, o0, none⟩) xs.length c) rfl rfl rfl rfl ?po6x0)) (PartOb.intro (d := (some 48)) (r := fun u _ => u = .pointer (some ⟨b0, o0, none⟩)) rfl rfl rfl rfl ?po6x1)) (PartOb.intro (d := (some 49)) (r := fun u _ => u = .int .i64 nA) rfl rfl rfl rfl ?po6x2)) (PartOb.intro (d := (some 50)) (r := fun u _ => u = .slice (some ⟨b1, o1, none⟩) ws.length c2) rfl rfl rfl rfl ?po6x3)) (PartOb.intro (d := (some 51)) (r := fun u _ => u = .pointer (some ⟨b1, o1, none⟩)) rfl rfl rfl rfl ?po6x4)) (PartOb.intro (d := (some 52)) (r := fun u _ => u = .int .i64 nB) rfl rfl rfl rfl ?po6x5)) (PartOb.intro (d := (some 53)) (r := (IsRow W7.heap.size 3 2 ([nA, nB].map (Value.int .i64)))) rfl rfl rfl rfl ?po6x6)) (PartOb.intro (d := (some 54)) (r := fun u _ => u = .pointer (some ⟨w.heap.size + 1, 2, none⟩)) rfl rfl rfl rfl ?po6x7)) (PartOb.intro (d := (some 55)) (r := fun u _ => u = .slice (some ⟨gO, 0, none⟩) wv.O.length cO) rfl rfl rfl rfl ?po6x8)), ?pend6, ?pfl6⟩
  case po6x0 | po6x3 | po6x7 =>
   intro w1 hb1 hd KK hK
   go_simp
   exact hK.out _ _ (Below.refl _ _) rfl
  case po6x1 =>
   intro w1 hb1 hd KK hK
   obtain rfl := hd 0 (by kernel_rfl)
   go_simp
   exact hK.out _ _ (Below.refl _ _) rfl
  case po6x2 =>
   intro w1 hb1 hd KK hK
   obtain rfl := hd 1 (by kernel_rfl)
   have hF := F7.out.next hb1
   obtain ⟨b9, o9, he, _, hcx⟩ := (hF.l 0 rfl).cell 0 hk0
   cases he
   rw [Nat.add_zero, HD0.out] at hcx
   go_simp
   exact hK.out _ _ (Below.refl _ _) rfl
  case po6x4 =>
   intro w1 hb1 hd KK hK
   obtain rfl := hd 3 (by kernel_rfl)
   go_simp
   exact hK.out _ _ (Below.refl _ _) rfl
  case po6x5 =>
   intro w1 hb1 hd KK hK
   obtain rfl := hd 4 (by kernel_rfl)
   have hF := F7.out.next hb1
   obtain ⟨b9, o9, he, _, hcx⟩ := (hF.l 1 rfl).cell 0 hk1
   cases he
   rw [Nat.add_zero, HD1.out] at hcx
   go_simp
   exact hK.out _ _ (Below.refl _ _) rfl
  case po6x6 =>
   intro w1 hb1 hd KK hK
   obtain rfl := hd 2 (by kernel_rfl)
   obtain rfl := hd 5 (by kernel_rfl)
   go_simp
   exact hK.out _ _ ((Below.refl _ _).alloc (Nat.le_refl _) _) ⟨_, _, rfl, World.ownsRow_lit (base := W7.heap.size) (size := 1) (e := 3) w1 #[.int .i64 nA, .int .i64 nB] 2 hb1.size (by decide) rfl⟩
  case po6x8 =>
   intro w1 hb1 hd KK hK
   obtain rfl := hd 7 (by kernel_rfl)
   have hF := F7.out.next hb1
   have k2 := hF.c 1 2 rfl rfl
   go_simp
   exact hK.out _ _ (Below.refl _ _) rfl
  case pfl6 => (intro f hf; cases hf)
  case pend6 =>
  intro w1 hb1 hR hD
  obtain rfl := hR 0 (by decide)
  obtain rfl := hR 1 (by decide)
  obtain rfl := hR 2 (by decide)
  obtain rfl := hR 3 (by decide)
  obtain rfl := hR 4 (by decide)
  obtain rfl := hR 5 (by decide)
  obtain ⟨a6_, c6_, rfl, hO6⟩ := hR 6 (by decide)
  obtain rfl := hR 7 (by decide)
  obtain rfl := hR 8 (by decide)
  clear hR hD
  refine wpAny_ready (rs := [9]) (by kernel_rfl) (by simp) (AllReady.cons rfl (fun KK hK => ?_) AllReady.nil)
  have hF := F7.out.next hb1
  refine stepAppN 23 3 infoInt Tryz.underlying23 W7.heap.size (.slice a6_ 2 c6_) 2 [nA, nB] wv.O wv.O.length cO ⟨gO, 0, none⟩ _ _ rfl rfl rfl hO6 rfl rfl (by have := HOL.out; have := HRL.out; omega) (fun j hj => ?_) (by omega) (by have := HOL.out; omega) hb1.size ?_
  ·have hc := (hF.li 0 (k := .i64) (xs := wv.O) rfl HWO.out).cell j hj
   obtain ⟨b9, o9, he, _, hcx⟩ := hc
   cases he
   rw [List.getElem?_eq_getElem hj] at hcx
   have ha : (⟨gO, 0, none⟩ : Addr).add j = ⟨gO, 0 + j, none⟩ := by cases j with
    | zero => rfl
    | succ j => simp [Addr.add]
   rw [ha]
   exact hcx
  intro g9 c9 w9 hown hgr hob
  rw [← HSD2.out, HSL.out] at hown
  rw [HSL.out]
  have hb9 := hb1.grown hgr hb1.size (fun g hg => (hO6.lt g hg).1)
  refine hK _ _ ?_
  clear hK KK
  refine wpAny_ready (rs := [10]) (by kernel_rfl) (by simp) (AllReady.cons rfl (fun KK hK => ?_) AllReady.nil)
  have F9 := Lib.hid (F7.out.addO hb9 hown)
  simp only [List.cons_append, List.nil_append] at F9
  go_simp
  go_at_call 71
  refine (HSH.out (some ⟨g9, 0, none⟩) c9 _ (F9.out.li 1 (k := .i64) (xs := S) rfl HSWF.out)).mono ?_
  rintro e w' ⟨rfl, rfl⟩
  refine hK _ _ ?_
  clear hK KK
  refine wpAny_ready (rs := [11]) (by kernel_rfl) (by simp) (AllReady.cons rfl (fun KK hK => ?_) AllReady.nil)
  go_simp
  refine hK _ _ ?_
  clear hK KK
  refine wpAny_take (i := 13) (v := .int .i64 5) rfl (by kernel_rfl) (by kernel_rfl) (by kernel_rfl) (fun _ _ _ h => h) (.inl ⟨by rfl, fun w => by go_simp⟩) ?_
  refine wpAny_ready (rs := [12]) (by kernel_rfl) (by simp) (AllReady.cons rfl (fun KK hK => ?_) AllReady.nil)
  go_simp
  refine hK _ _ ?_
  clear hK KK
  refine wpAny_ready (rs := [14]) (by kernel_rfl) (by simp) (AllReady.cons rfl (fun KK hK => ?_) AllReady.nil)
  go_simp
  refine hK _ _ ?_
  clear hK KK
  refine wpAny_ready (rs := [15]) (by kernel_rfl) (by simp) (AllReady.cons rfl (fun KK hK => ?_) AllReady.nil)
  go_simp
  refine hK _ _ ?_
  clear hK KK
  refine wpAny_done (by kernel_rfl) ?_ _
  clear hb9 hown hgr hob hO6 hb1 F7
  obtain ⟨V9, rfl⟩ : ∃ x : World, x = w9 := ⟨_, rfl⟩
  have d1_0 := F9.out.c 1 0 rfl rfl
  have d1_1 := F9.out.c 1 1 rfl rfl
  have d1_2 := F9.out.c 1 2 rfl rfl
  have d1_3 := F9.out.c 1 3 rfl rfl
  have d1_4 := F9.out.c 1 4 rfl rfl
  have d1_5 := F9.out.c 1 5 rfl rfl
  have d1_6 := F9.out.c 1 6 rfl rfl
  have df1_0 := F9.out.f 1 0 rfl rfl
  have df1_1 := F9.out.f 1 1 rfl rfl
  have df1_2 := F9.out.f 1 2 rfl rfl
  have df1_3 := F9.out.f 1 3 rfl rfl
  have df1_4 := F9.out.f 1 4 rfl rfl
  have df1_5 := F9.out.f 1 5 rfl rfl
  have df1_6 := F9.out.f 1 6 rfl rfl
  go_wp2
  have FZ := F9.out.set 1 rfl (by simp) [.slice (some ⟨b0, o0 + 2, none⟩) wv.L.length (c - 2), .slice (some ⟨b1, o1 + 2, none⟩) wv.K.length (c2 - 2), .slice (some ⟨gO, 0, none⟩) wv.O.length cO, .slice aQ Q.length cQ, .slice aS wv.S.length cS, .slice aP wv.P.length cP, .slice aD wv.D.length cD] rfl
  simp only [setL, Nat.reduceAdd, List.set_cons_zero, List.set_cons_succ] at FZ
  have y0 := FZ.c 1 0 rfl rfl
  have y1 := FZ.c 1 1 rfl rfl
  have y2 := FZ.c 1 2 rfl rfl
  have y3 := FZ.c 1 3 rfl rfl
  have y4 := FZ.c 1 4 rfl rfl
  have y5 := FZ.c 1 5 rfl rfl
  have y6 := FZ.c 1 6 rfl rfl
  refine bodyPost_ret (v := .tuple #[.agg #[.slice (some ⟨b0, o0 + 2, none⟩) wv.L.length (c - 2), .slice (some ⟨b1, o1 + 2, none⟩) wv.K.length (c2 - 2), .slice (some ⟨gO, 0, none⟩) wv.O.length cO, .slice aQ Q.length cQ, .slice aS wv.S.length cS, .slice aP wv.P.length cP, .slice aD wv.D.length cD], .slice none 0 0, .int .i64 5]) ?_ rfl ⟨((some ⟨b0, o0 + 2, none⟩), wv.L.length, (c - 2)), ((some ⟨b1, o1 + 2, none⟩), wv.K.length, (c2 - 2)), ((some ⟨gO, 0, none⟩), wv.O.length, cO), (aQ, Q.length, cQ), (aS, wv.S.length, cS), (aP, wv.P.length, cP), (aD, wv.D.length, cD), rfl, FZ.bel⟩
  rw [results_ctt rfl]
  go_simp
set_option maxRecDepth 100000 in
set_option maxHeartbeats 2000000 in
theorem convOut_ok (a a2 : Option Addr) (c c2 : Nat) (xs ws : List Int) (aQ aS aP aD : Option Addr) (cQ cS cP cD : Nat) (Q : List Int) (wv : WinV) (w : World) (h : Ints .i64 w w.heap.size a xs) (h2 : Ints .i64 w w.heap.size a2 ws) (hS : Ints .i64 w w.heap.size aS wv.S) (hP : Ints .i64 w w.heap.size aP wv.P) (hD : Ints .i64 w w.heap.size aD wv.D) (hn : numB false Q wv.S wv.P wv.D = true) (hl : xs.length = 2 + wv.S.length) (hl2 : ws.length = xs.length) (hch : xs[1]?.getD 0 = ws[1]?.getD 0) (hL : wv.L = xs.drop 2) (hK : wv.K = ws.drop 2) (hg : goodB xs = true) (hg2 : goodB ws = true) (hc1 : xs.length ≤ c) (hc2 : c ≤ 9223372036854775807) (hc3 : ws.length ≤ c2) (hc4 : c2 ≤ 9223372036854775807) (hok : wv.okB = true) (hgs : goodB (coS xs ws wv) = true) :
  Calls Tryz.prog 36 #[.slice a xs.length c, .slice a2 ws.length c2, .agg #[.slice aQ Q.length cQ, .slice aS wv.S.length cS, .slice aP wv.P.length cP, .slice aD wv.D.length cD]] w (fun e w' => ∃ aL cL aK cK aO cO as_ cs_, e = .returned (.tuple #[.agg #[.slice aL wv.L.length cL, .slice aK wv.K.length cK, .slice aO wv.O.length cO, .slice aQ Q.length cQ, .slice aS wv.S.length cS, .slice aP wv.P.length cP, .slice aD wv.D.length cD], .slice as_ (coS xs ws wv).length cs_, .int .i64 0]) ∧ (∃ b0 o0, a = some ⟨b0, o0, none⟩ ∧ aL = some ⟨b0, o0 + 2, none⟩) ∧ (∃ b1 o1, a2 = some ⟨b1, o1, none⟩ ∧ aK = some ⟨b1, o1 + 2, none⟩) ∧ Fr w.heap.size w w' [] [] [⟨3, .slice aO wv.O.length cO, wv.O.length, wv.O.map (Value.int .i64)⟩, ⟨3, .slice as_ (coS xs ws wv).length cs_, (coS xs ws wv).length, (coS xs ws wv).map (Value.int .i64)⟩] []) := by
 have hs1 : 1 ≤ wv.S.length := (num_iff.1 hn).1.1
 have hs2 : wv.S.length ≤ 2 := (num_iff.1 hn).1.2.1
 have hm := h.len
 have hm2 := h2.len
 obtain ⟨hR, hr⟩ := conv_R hL hK hg hg2 hn hl hl2
 have hr1 := hr
 have hr2 := hR.r
 have hx4 := (goodB_iff.1 hg).1
 have hlen2 : xs.length - 2 = wv.L.length := by rw [hL, List.length_drop]
 have hlen3 : ws.length - 2 = wv.K.length := by rw [hK, List.length_drop]
 obtain ⟨b0, o0, rfl, _, _⟩ := h.cell 0 (by omega)
 obtain ⟨b1, o1, rfl, _, _⟩ := h2.cell 0 (by omega)
 obtain ⟨x1, hx1⟩ : ∃ z, xs[1]?.getD 0 = z := ⟨_, rfl⟩
 obtain ⟨y1, hy1⟩ : ∃ z, ws[1]?.getD 0 = z := ⟨_, rfl⟩
 rw [hx1, hy1] at hch
 have HX1 := Lib.hid hx1
 have HY1 := Lib.hid hy1
 clear hx1 hy1
 have hiL := ints_drop h 2
 rw [← hL] at hiL
 have hiK := ints_drop h2 2
 rw [← hK] at hiK
 have HOV := Lib.hid (fun W h0 h1 h2 h3 h4 => over_ok (some ⟨b0, o0 + 2, none⟩) (some ⟨b1, o1 + 2, none⟩) aQ aS aP aD (c - 2) (c2 - 2) cQ cS cP cD Q wv W h0 h1 h2 h3 h4 hR hok)
 have hwO : ∀ x ∈ wv.O, (Lit.int .i64 x).wf = true := fun x hx => by
  obtain ⟨i, hi, rfl⟩ := List.mem_map.1 hx
  have hi2 := List.mem_range.1 hi
  have := hR.out_pos hi2 (WinV.ok_room hok hi2)
  exact wf_i64_iff.2 ⟨by omega, by omega⟩
 have HWO := Lib.hid hwO
 have hOl := wv.O_len
 have HOL := Lib.hid hOl
 clear hwO hOl
 obtain ⟨S, hSe⟩ : ∃ s, coS xs ws wv = s := ⟨_, rfl⟩
 have hSd : S = [xs[0]?.getD 0, ws[0]?.getD 0] ++ wv.O := by rw [← hSe]; rfl
 rw [hSe] at hgs ⊢
 have hSwf : ∀ x ∈ S, (Lit.int .i64 x).wf = true := fun x hx => by
  rw [hSd] at hx
  rcases List.mem_append.1 hx with hx | hx
  ·have h0 := goodB_dims hg _ (getD_mem (show 0 < xs.length by omega))
   have h1 := goodB_dims hg2 _ (getD_mem (show 0 < ws.length by omega))
   simp at hx
   rcases hx with rfl | rfl <;> exact wf_i64_iff.2 ⟨by omega, by omega⟩
  ·exact HWO.out x hx
 have HSWF := Lib.hid hSwf
 have HSD := Lib.hid hSd
 have hSl : 2 + wv.O.length = S.length := by rw [hSd]; simp; omega
 have HSL := Lib.hid hSl
 have hsh := fun a9 c9 W h9 => shaped_any a9 c9 S W h9 true hgs
 simp only [if_true, if_false, Bool.false_eq_true, reduceIte] at hsh
 have HSH := Lib.hid hsh
 clear hSe hgs hSd hSwf hSl hsh
 have F1 := Lib.hid (((Fr.start (w := w) (I := [(.i64, (some ⟨b0, o0, none⟩), xs), (.i64, (some ⟨b1, o1, none⟩), ws), (.i64, aS, wv.S), (.i64, aP, wv.P), (.i64, aD, wv.D), (.i64, (some ⟨b0, o0 + 2, none⟩), wv.L), (.i64, (some ⟨b1, o1 + 2, none⟩), wv.K)]) (by intro z hz; simp at hz; rcases hz with rfl | rfl | rfl | rfl | rfl | rfl | rfl; exact h; exact h2; exact hS; exact hP; exact hD; exact hiL; exact hiK)).box1 (b := w.heap.size) rfl [.slice aQ Q.length cQ, .slice aS wv.S.length cS, .slice aP wv.P.length cP, .slice aD wv.D.length cD] 28).box1 (b := w.heap.size + 1) (by simp) [.slice none 0 0, .slice none 0 0, .slice none 0 0, .slice none 0 0, .slice none 0 0, .slice none 0 0, .slice none 0 0] 77)
 simp only [List.nil_append, List.cons_append] at F1
 have hr2w : ∀ [Inhabited Unit], RowKit.wrap64 (2 + (wv.S.length : Int)) = 2 + (wv.S.length : Int) := by intro _; exact IntWalk.wrap64_in _ ⟨by omega, by omega⟩
 have d16 : ((xs.length : Int) != 2 + (wv.S.length : Int)) = false := by simp; omega
 have d22 : ((ws.length : Int) != (xs.length : Int)) = false := by simp; omega
 have d31 : (x1 != y1) = false := by rw [hch]; simp
 have g1x : (1 : Int) < (xs.length : Int) := by omega
 have g1w : (1 : Int) < (ws.length : Int) := by omega
 have HLX := Lib.hid hl
 have HLW := Lib.hid hl2
 clear h h2 hS hP hD hn hl hl2 hch hR hok hg hg2 hiL hiK hL hK hr
 have HRL := Lib.hid hr1
 have HGX := Lib.hid (show (2 : Int) ≤ (xs.length : Int) ∧ (xs.length : Int) ≤ (c : Int) ∧ ¬ c = 2 by have := HLX.out; omega)
 have HGW := Lib.hid (show (2 : Int) ≤ (ws.length : Int) ∧ (ws.length : Int) ≤ (c2 : Int) ∧ ¬ c2 = 2 by have := HLX.out; have := HLW.out; omega)
 have HE2 := Lib.hid hlen2
 have HE3 := Lib.hid hlen3
 clear hlen2 hlen3 hr1
 go_enter Tryz.func36, Tryz.ntmps36
 go_upto_region 1 with fail
 obtain ⟨W1, hW1⟩ : ∃ W1, (w.alloc (.cells #[.slice aQ Q.length cQ, .slice aS wv.S.length cS, .slice aP wv.P.length cP, .slice aD wv.D.length cD] 28)).alloc (.cells #[.slice none 0 0, .slice none 0 0, .slice none 0 0, .slice none 0 0, .slice none 0 0, .slice none 0 0, .slice none 0 0] 77) = W1 := ⟨_, rfl⟩
 rw [hW1] at F1 ⊢
 clear hW1
 have c0_0 := F1.out.c 0 0 rfl rfl
 have c0_1 := F1.out.c 0 1 rfl rfl
 have c0_2 := F1.out.c 0 2 rfl rfl
 have c0_3 := F1.out.c 0 3 rfl rfl
 obtain ⟨b9, o9, he, _, hcx⟩ := (F1.out.l 0 rfl).cell 1 (by omega)
 cases he
 obtain ⟨b9, o9, he, _, hcw⟩ := (F1.out.l 1 rfl).cell 1 (by omega)
 cases he
 rw [HX1.out] at hcx
 rw [HY1.out] at hcw
 go_quiet (fail)
 have F2 := Lib.hid (F1.out.drewN nq)
 obtain ⟨W2, hW2⟩ : ∃ x, W1.drewN nq = x := ⟨_, rfl⟩
 rw [hW2] at F2 ⊢
 clear hW2 F1 d16 hr2w c0_0 c0_1 c0_2 c0_3 d22 d31 hcx hcw
 go_upto_region 3 with fail
 go_cut [9] from 9 to 42 (fun s9 wx => s9 = .bool true ∧ ∃ aO cO, Hid (Fr w.heap.size w wx [(w.heap.size, [.slice aQ Q.length cQ, .slice aS wv.S.length cS, .slice aP wv.P.length cP, .slice aD wv.D.length cD]), (w.heap.size + 1, [.slice (some ⟨b0, o0 + 2, none⟩) wv.L.length (c - 2), .slice (some ⟨b1, o1 + 2, none⟩) wv.K.length (c2 - 2), .slice aO wv.O.length cO, .slice aQ Q.length cQ, .slice aS wv.S.length cS, .slice aP wv.P.length cP, .slice aD wv.D.length cD])] [(.i64, (some ⟨b0, o0, none⟩), xs), (.i64, (some ⟨b1, o1, none⟩), ws), (.i64, aS, wv.S), (.i64, aP, wv.P), (.i64, aD, wv.D), (.i64, (some ⟨b0, o0 + 2, none⟩), wv.L), (.i64, (some ⟨b1, o1 + 2, none⟩), wv.K)] [⟨3, .slice aO wv.O.length cO, wv.O.length, wv.O.map (Value.int .i64)⟩] []))
 case first =>
  refine wp_region_parts2 (w := W2) 9 2 (some 8) [] [(fun u _ => u = .slice (some ⟨b0, o0, none⟩) xs.length c), (fun u _ => u = .slice (some ⟨b0, o0 + 2, none⟩) wv.L.length (c - 2)), (fun u _ => u = .slice (some ⟨b1, o1, none⟩) ws.length c2), (fun u _ => u = .slice (some ⟨b1, o1 + 2, none⟩) wv.K.length (c2 - 2)), (fun u _ => u = .agg #[.slice aQ Q.length cQ, .slice aS wv.S.length cS, .slice aP wv.P.length cP, .slice aD wv.D.length cD]), ((HasRow W2.heap.size wv.O.length (wv.O.map (Value.int .i64)) (fun aO cO => .tuple #[.agg #[.slice (some ⟨b0, o0 + 2, none⟩) wv.L.length (c - 2), .slice (some ⟨b1, o1 + 2, none⟩) wv.K.length (c2 - 2), .slice aO wv.O.length cO, .slice aQ Q.length cQ, .slice aS wv.S.length cS, .slice aP wv.P.length cP, .slice aD wv.D.length cD], .bool true]))), ((HasRow W2.heap.size wv.O.length (wv.O.map (Value.int .i64)) (fun aO cO => .tuple #[.agg #[.slice (some ⟨b0, o0 + 2, none⟩) wv.L.length (c - 2), .slice (some ⟨b1, o1 + 2, none⟩) wv.K.length (c2 - 2), .slice aO wv.O.length cO, .slice aQ Q.length cQ, .slice aS wv.S.length cS, .slice aP wv.P.length cP, .slice aD wv.D.length cD], .bool true]))), ((HasRow W2.heap.size wv.O.length (wv.O.map (Value.int .i64)) (fun aO cO => .agg #[.slice (some ⟨b0, o0 + 2, none⟩) wv.L.length (c - 2), .slice (some ⟨b1, o1 + 2, none⟩) wv.K.length (c2 - 2), .slice aO wv.O.length cO, .slice aQ Q.length cQ, .slice aS wv.S.length cS, .slice aP wv.P.length cP, .slice aD wv.D.length cD]))), (fun u _ => u = .bool true)] [some 35, some 36, some 37, some 38, some 39, some 40, some 34, some 41, some 42, none, some 9] #[true, true, true, true, true, true, true, true, true, false, false] #[true, true, true, true, true, true, true, true, false, false, false] (by kernel_rfl) rfl (by kernel_rfl) (by kernel_rfl) rfl (by kernel_rfl) (by kernel_rfl) (.cons (carries_eq _) (.cons (carries_eq _) (.cons (carries_eq _) (.cons (carries_eq _) (.cons (carries_eq _) (.cons (hasRow_carries _ _ _ _) (.cons (hasRow_carries _ _ _ _) (.cons (hasRow_carries _ _ _ _) (.cons (carries_eq _) .nil))))))))) (fun vs b hvl hvb => ?_)
  obtain ⟨x0, x1, x2, x3, x4, x5, x6, x7, x8, x9, x10, rfl⟩ : ∃ x0 x1 x2 x3 x4 x5 x6 x7 x8 x9 x10, vs = [x0, x1, x2, x3, x4, x5, x6, x7, x8, x9, x10] := lw11 hvl
  clear hvl
  simp only [putAll, Act.put, List.setIfInBounds_toArray, List.set_cons_zero, List.set_cons_succ] at hvb
  subst hvb
  refine ⟨(.snoc (.snoc (.snoc (.snoc (.snoc (.snoc (.snoc (.snoc (.snoc .zero (PartOb.intro (d := (some 35)) (r := fun u _ => u = .slice (some ⟨b0, o0, none⟩) xs.length c) rfl rfl rfl rfl ?po3x0)) (PartOb.intro (d := (some 36)) (r := fun u _ => u = .slice (some ⟨b0, o0 + 2, none⟩) wv.L.length (c - 2)) rfl rfl rfl rfl ?po3x1)) (PartOb.intro (d := (some 37)) (r := fun u _ => u = .slice (some ⟨b1, o1, none⟩) ws.length c2) rfl rfl rfl rfl ?po3x2)) (PartOb.intro (d := (some 38)) (r := fun u _ => u = .slice (some ⟨b1, o1 + 2, none⟩) wv.K.length (c2 - 2)) rfl rfl rfl rfl ?po3x3)) (PartOb.intro (d := (some 39)) (r := fun u _ => u = .agg #[.slice aQ Q.length cQ, .slice aS wv.S.length cS, .slice aP wv.P.length cP, .slice aD wv.D.length cD]) rfl rfl rfl rfl ?po3x4)) (PartOb.intro (d := (some 40)) (r := (HasRow W2.heap.size wv.O.length (wv.O.map (Value.int .i64)) (fun aO cO => .tuple #[.agg #[.slice (some ⟨b0, o0 + 2, none⟩) wv.L.length (c - 2), .slice (some ⟨b1, o1 + 2, none⟩) wv.K.length (c2 - 2), .slice aO wv.O.length cO, .slice aQ Q.length cQ, .slice aS wv.S.length cS, .slice aP wv.P.length cP, .slice aD wv.D.length cD], .bool true]))) rfl rfl rfl rfl ?po3x5)) (PartOb.intro (d := (some 34)) (r := (HasRow W2.heap.size wv.O.length (wv.O.map (Value.int .i64)) (fun aO cO => .tuple #[.agg #[.slice (some ⟨b0, o0 + 2, none⟩) wv.L.length (c - 2), .slice (some ⟨b1, o1 + 2, none⟩) wv.K.length (c2 - 2), .slice aO wv.O.length cO, .slice aQ Q.length cQ, .slice aS wv.S.length cS, .slice aP wv.P.length cP, .slice aD wv.D.length cD], .bool true]))) rfl rfl rfl rfl ?po3x6)) (PartOb.intro (d := (some 41)) (r := (HasRow W2.heap.size wv.O.length (wv.O.map (Value.int .i64)) (fun aO cO => .agg #[.slice (some ⟨b0, o0 + 2, none⟩) wv.L.length (c - 2), .slice (some ⟨b1, o1 + 2, none⟩) wv.K.length (c2 - 2), .slice aO wv.O.length cO, .slice aQ Q.length cQ, .slice aS wv.S.length cS, .slice aP wv.P.length cP, .slice aD wv.D.length cD]))) rfl rfl rfl rfl ?po3x7)) (PartOb.intro (d := (some 42)) (r := fun u _ => u = .bool true) rfl rfl rfl rfl ?po3x8)), ?pend3, ?pfl3⟩
  case po3x0 | po3x2 =>
   intro w1 hb1 hd KK hK
   go_simp
   exact hK.out _ _ (Below.refl _ _) rfl
  case po3x1 =>
   intro w1 hb1 hd KK hK
   obtain rfl := hd 0 (by kernel_rfl)
   have hxx := HE2.out
   obtain ⟨g1, g2, g3⟩ := HGX.out
   go_simp
   exact hK.out _ _ (Below.refl _ _) rfl
  case po3x3 =>
   intro w1 hb1 hd KK hK
   obtain rfl := hd 2 (by kernel_rfl)
   have hxx := HE3.out
   obtain ⟨g1, g2, g3⟩ := HGW.out
   go_simp
   exact hK.out _ _ (Below.refl _ _) rfl
  case po3x4 =>
   intro w1 hb1 hd KK hK
   have hF := F2.out.next hb1
   have k0 := hF.c 0 0 rfl rfl
   have k1 := hF.c 0 1 rfl rfl
   have k2 := hF.c 0 2 rfl rfl
   have k3 := hF.c 0 3 rfl rfl
   go_simp
   exact hK.out _ _ (Below.refl _ _) rfl
  case po3x5 =>
   intro w1 hb1 hd KK hK
   obtain rfl := hd 1 (by kernel_rfl)
   obtain rfl := hd 3 (by kernel_rfl)
   obtain rfl := hd 4 (by kernel_rfl)
   go_simp
   have hF := F2.out.next hb1
   go_at_call 70
   refine (HOV.out w1 (hF.lw 5 rfl) (hF.lw 6 rfl) (hF.lw 2 rfl) (hF.lw 3 rfl) (hF.lw 4 rfl)).mono ?_
   rintro e w6 ⟨aO, cO, rfl, hf⟩
   (try go_wp2_with fail)
   exact hK.out _ _ hf.bel ⟨aO, cO, rfl, own_mono (hf.r 0 rfl) hb1.size⟩
  case po3x6 =>
   intro w1 hb1 hd KK hK
   obtain ⟨a5_, c5_, rfl, hO5⟩ := hd 5 (by kernel_rfl)
   go_simp
   exact hK.out _ _ (Below.refl _ _) ⟨_, _, rfl, hO5⟩
  case po3x7 =>
   intro w1 hb1 hd KK hK
   obtain ⟨a6_, c6_, rfl, hO6⟩ := hd 6 (by kernel_rfl)
   go_simp
   exact hK.out _ _ (Below.refl _ _) ⟨_, _, rfl, hO6⟩
  case po3x8 =>
   intro w1 hb1 hd KK hK
   obtain ⟨a6_, c6_, rfl, hO6⟩ := hd 6 (by kernel_rfl)
   go_simp
   exact hK.out _ _ (Below.refl _ _) rfl
  case pend3 =>
   intro w1 hb1 hR hD
   obtain rfl := hR 0 (by decide)
   obtain rfl := hR 1 (by decide)
   obtain rfl := hR 2 (by decide)
   obtain rfl := hR 3 (by decide)
   obtain rfl := hR 4 (by decide)
   obtain ⟨a5_, c5_, rfl, hO5⟩ := hR 5 (by decide)
   obtain ⟨a6_, c6_, rfl, hO6⟩ := hR 6 (by decide)
   obtain ⟨a7_, c7_, rfl, hO7⟩ := hR 7 (by decide)
   obtain rfl := hR 8 (by decide)
   clear hR hD
   refine wpAny_ready (rs := [9]) (by kernel_rfl) (by simp) (AllReady.cons rfl (fun KK hK => ?_) AllReady.nil)
   have F6 := F2.out.addO hb1 hO7
   simp only [List.nil_append, List.cons_append] at F6
   have q0 := F6.c 1 0 rfl rfl
   have q1 := F6.c 1 1 rfl rfl
   have q2 := F6.c 1 2 rfl rfl
   have q3 := F6.c 1 3 rfl rfl
   have q4 := F6.c 1 4 rfl rfl
   have q5 := F6.c 1 5 rfl rfl
   have q6 := F6.c 1 6 rfl rfl
   have qf0 := F6.f 1 0 rfl rfl
   have qf1 := F6.f 1 1 rfl rfl
   have qf2 := F6.f 1 2 rfl rfl
   have qf3 := F6.f 1 3 rfl rfl
   have qf4 := F6.f 1 4 rfl rfl
   have qf5 := F6.f 1 5 rfl rfl
   have qf6 := F6.f 1 6 rfl rfl
   go_simp
   refine hK _ _ ?_
   clear hK KK
   refine wpAny_ready (rs := [10]) (by kernel_rfl) (by simp) (AllReady.cons rfl (fun KK hK => ?_) AllReady.nil)
   go_simp
   refine hK _ _ ?_
   clear hK KK
   refine wpAny_done (by kernel_rfl) ?_ _
   have F7 := Lib.hid (F6.set 1 rfl (by simp) [.slice (some ⟨b0, o0 + 2, none⟩) wv.L.length (c - 2), .slice (some ⟨b1, o1 + 2, none⟩) wv.K.length (c2 - 2), .slice a7_ wv.O.length c7_, .slice aQ Q.length cQ, .slice aS wv.S.length cS, .slice aP wv.P.length cP, .slice aD wv.D.length cD] rfl)
   simp only [setL, Nat.reduceAdd, List.set_cons_zero, List.set_cons_succ] at F7
   go_wp2
   go_meet
   exact ⟨rfl, a7_, c7_, F7⟩
  case pfl3 =>
   intro f hf hfn w1 hb1 hR hD
   injection hf with hf
   subst hf
   obtain rfl := hR 0 (by decide) (by decide)
   obtain rfl := hR 1 (by decide) (by decide)
   obtain rfl := hR 2 (by decide) (by decide)
   obtain rfl := hR 3 (by decide) (by decide)
   obtain rfl := hR 4 (by decide) (by decide)
   obtain ⟨a5_, c5_, rfl, hO5⟩ := hR 5 (by decide) (by decide)
   obtain ⟨a6_, c6_, rfl, hO6⟩ := hR 6 (by decide) (by decide)
   obtain ⟨a7_, c7_, rfl, hO7⟩ := hR 7 (by decide) (by decide)
   clear hR hD
   refine wpAny_take (i := 8) (v := .bool true) rfl (by kernel_rfl) (by kernel_rfl) (by kernel_rfl) (fun _ _ _ h => h) (.inl ⟨by rfl, fun w => by go_simp⟩) ?_
   refine wpAny_ready (rs := [9]) (by kernel_rfl) (by simp) (AllReady.cons rfl (fun KK hK => ?_) AllReady.nil)
   have F6 := F2.out.addO hb1 hO7
   simp only [List.nil_append, List.cons_append] at F6
   have q0 := F6.c 1 0 rfl rfl
   have q1 := F6.c 1 1 rfl rfl
   have q2 := F6.c 1 2 rfl rfl
   have q3 := F6.c 1 3 rfl rfl
   have q4 := F6.c 1 4 rfl rfl
   have q5 := F6.c 1 5 rfl rfl
   have q6 := F6.c 1 6 rfl rfl
   have qf0 := F6.f 1 0 rfl rfl
   have qf1 := F6.f 1 1 rfl rfl
   have qf2 := F6.f 1 2 rfl rfl
   have qf3 := F6.f 1 3 rfl rfl
   have qf4 := F6.f 1 4 rfl rfl
   have qf5 := F6.f 1 5 rfl rfl
   have qf6 := F6.f 1 6 rfl rfl
   go_simp
   refine hK _ _ ?_
   clear hK KK
   refine wpAny_ready (rs := [10]) (by kernel_rfl) (by simp) (AllReady.cons rfl (fun KK hK => ?_) AllReady.nil)
   go_simp
   refine hK _ _ ?_
   clear hK KK
   refine wpAny_done (by kernel_rfl) ?_ _
   have F7 := Lib.hid (F6.set 1 rfl (by simp) [.slice (some ⟨b0, o0 + 2, none⟩) wv.L.length (c - 2), .slice (some ⟨b1, o1 + 2, none⟩) wv.K.length (c2 - 2), .slice a7_ wv.O.length c7_, .slice aQ Q.length cQ, .slice aS wv.S.length cS, .slice aP wv.P.length cP, .slice aD wv.D.length cD] rfl)
   simp only [setL, Nat.reduceAdd, List.set_cons_zero, List.set_cons_succ] at F7
   go_wp2
   go_meet
   exact ⟨rfl, a7_, c7_, F7⟩
 case rest =>
  obtain ⟨rfl, aO, cO, F7⟩ := hcut
  clear F2
  obtain ⟨W7, rfl⟩ : ∃ x : World, x = wc := ⟨_, rfl⟩
  go_upto_region 6 with fail
  have hl := HLX.out
  have hl2 := HLW.out
  have hk0 : 0 < xs.length := by omega
  have hk1 : 0 < ws.length := by omega
  have hk0i : (0 : Int) < (xs.length : Int) := by omega
  have hk1i : (0 : Int) < (ws.length : Int) := by omega
  clear hl hl2
  obtain ⟨nA, hnA⟩ : ∃ z, xs[0]?.getD 0 = z := ⟨_, rfl⟩
  obtain ⟨nB, hnB⟩ : ∃ z, ws[0]?.getD 0 = z := ⟨_, rfl⟩
  have hsd := HSD.out
  rw [hnA, hnB] at hsd
  have HD0 := Lib.hid hnA
  have HD1 := Lib.hid hnB
  have HSD2 := Lib.hid hsd
  clear hsd hnA hnB HSD
  obtain ⟨aO', cO', he, hsh⟩ := own_shape (F7.out.r 0 rfl)
  simp only [Value.slice.injEq] at he
  obtain ⟨rfl, _, rfl⟩ := he
  obtain ⟨gO, rfl, _⟩ := hsh.resolve_left (show ¬ wv.O.length = 0 from by have := HOL.out; have := HRL.out; omega)
  refine wp_region_parts2 (w := W7) 9 7 none [] [(fun u _ => u = .slice (some ⟨b0, o0, none⟩) xs.length c), (fun u _ => u = .pointer (some ⟨b0, o0, none⟩)), (fun u _ => u = .int .i64 nA), (fun u _ => u = .slice (some ⟨b1, o1, none⟩) ws.length c2), (fun u _ => u = .pointer (some ⟨b1, o1, none⟩)), (fun u _ => u = .int .i64 nB), ((IsRow W7.heap.size 3 2 ([nA, nB].map (Value.int .i64)))), (fun u _ => u = .pointer (some ⟨w.heap.size + 1, 2, none⟩)), (fun u _ => u = .slice (some ⟨gO, 0, none⟩) wv.O.length cO)] [some 47, some 48, some 49, some 50, some 51, some 52, some 53, some 54, some 55, some 56, some 57, some 46, some 58, some 59, some 7, some 8] #[true, true, true, true, true, true, true, true, true, false, false, false, false, false, false, false] #[true, true, true, true, true, true, true, true, true, false, false, false, false, false, false, false] (by kernel_rfl) rfl (by kernel_rfl) (by kernel_rfl) rfl (by kernel_rfl) (by kernel_rfl) (.cons (carries_eq _) (.cons (carries_eq _) (.cons (carries_eq _) (.cons (carries_eq _) (.cons (carries_eq _) (.cons (carries_eq _) (.cons (isRow_carries _ _ _ _) (.cons (carries_eq _) (.cons (carries_eq _) .nil))))))))) (fun vs b hvl hvb => ?_)
  obtain ⟨x0, x1, x2, x3, x4, x5, x6, x7, x8, x9, x10, x11, x12, x13, x14, x15, rfl⟩ : ∃ x0 x1 x2 x3 x4 x5 x6 x7 x8 x9 x10 x11 x12 x13 x14 x15, vs = [x0, x1, x2, x3, x4, x5, x6, x7, x8, x9, x10, x11, x12, x13, x14, x15] := lw16 hvl
  clear hvl
  simp only [putAll, Act.put, List.setIfInBounds_toArray, List.set_cons_zero, List.set_cons_succ] at hvb
  subst hvb
  refine ⟨(.snoc (.snoc (.snoc (.snoc (.snoc (.snoc (.snoc (.snoc (.snoc .zero (PartOb.intro (d := (some 47)) (r := fun u _ => u = .slice (some ⟨b0, o0, none⟩) xs.length c) rfl rfl rfl rfl ?po6x0)) (PartOb.intro (d := (some 48)) (r := fun u _ => u = .pointer (some ⟨b0, o0, none⟩)) rfl rfl rfl rfl ?po6x1)) (PartOb.intro (d := (some 49)) (r := fun u _ => u = .int .i64 nA) rfl rfl rfl rfl ?po6x2)) (PartOb.intro (d := (some 50)) (r := fun u _ => u = .slice (some ⟨b1, o1, none⟩) ws.length c2) rfl rfl rfl rfl ?po6x3)) (PartOb.intro (d := (some 51)) (r := fun u _ => u = .pointer (some ⟨b1, o1, none⟩)) rfl rfl rfl rfl ?po6x4)) (PartOb.intro (d := (some 52)) (r := fun u _ => u = .int .i64 nB) rfl rfl rfl rfl ?po6x5)) (PartOb.intro (d := (some 53)) (r := (IsRow W7.heap.size 3 2 ([nA, nB].map (Value.int .i64)))) rfl rfl rfl rfl ?po6x6)) (PartOb.intro (d := (some 54)) (r := fun u _ => u = .pointer (some ⟨w.heap.size + 1, 2, none⟩)) rfl rfl rfl rfl ?po6x7)) (PartOb.intro (d := (some 55)) (r := fun u _ => u = .slice (some ⟨gO, 0, none⟩) wv.O.length cO) rfl rfl rfl rfl ?po6x8)), ?pend6, ?pfl6⟩
  case po6x0 | po6x3 | po6x7 =>
   intro w1 hb1 hd KK hK
   go_simp
   exact hK.out _ _ (Below.refl _ _) rfl
  case po6x1 =>
   intro w1 hb1 hd KK hK
   obtain rfl := hd 0 (by kernel_rfl)
   go_simp
   exact hK.out _ _ (Below.refl _ _) rfl
  case po6x2 =>
   intro w1 hb1 hd KK hK
   obtain rfl := hd 1 (by kernel_rfl)
   have hF := F7.out.next hb1
   obtain ⟨b9, o9, he, _, hcx⟩ := (hF.l 0 rfl).cell 0 hk0
   cases he
   rw [Nat.add_zero, HD0.out] at hcx
   go_simp
   exact hK.out _ _ (Below.refl _ _) rfl
  case po6x4 =>
   intro w1 hb1 hd KK hK
   obtain rfl := hd 3 (by kernel_rfl)
   go_simp
   exact hK.out _ _ (Below.refl _ _) rfl
  case po6x5 =>
   intro w1 hb1 hd KK hK
   obtain rfl := hd 4 (by kernel_rfl)
   have hF := F7.out.next hb1
   obtain ⟨b9, o9, he, _, hcx⟩ := (hF.l 1 rfl).cell 0 hk1
   cases he
   rw [Nat.add_zero, HD1.out] at hcx
   go_simp
   exact hK.out _ _ (Below.refl _ _) rfl
  case po6x6 =>
   intro w1 hb1 hd KK hK
   obtain rfl := hd 2 (by kernel_rfl)
   obtain rfl := hd 5 (by kernel_rfl)
   go_simp
   exact hK.out _ _ ((Below.refl _ _).alloc (Nat.le_refl _) _) ⟨_, _, rfl, World.ownsRow_lit (base := W7.heap.size) (size := 1) (e := 3) w1 #[.int .i64 nA, .int .i64 nB] 2 hb1.size (by decide) rfl⟩
  case po6x8 =>
   intro w1 hb1 hd KK hK
   obtain rfl := hd 7 (by kernel_rfl)
   have hF := F7.out.next hb1
   have k2 := hF.c 1 2 rfl rfl
   go_simp
   exact hK.out _ _ (Below.refl _ _) rfl
  case pfl6 => (intro f hf; cases hf)
  case pend6 =>
  intro w1 hb1 hR hD
  obtain rfl := hR 0 (by decide)
  obtain rfl := hR 1 (by decide)
  obtain rfl := hR 2 (by decide)
  obtain rfl := hR 3 (by decide)
  obtain rfl := hR 4 (by decide)
  obtain rfl := hR 5 (by decide)
  obtain ⟨a6_, c6_, rfl, hO6⟩ := hR 6 (by decide)
  obtain rfl := hR 7 (by decide)
  obtain rfl := hR 8 (by decide)
  clear hR hD
  refine wpAny_ready (rs := [9]) (by kernel_rfl) (by simp) (AllReady.cons rfl (fun KK hK => ?_) AllReady.nil)
  have hF := F7.out.next hb1
  refine stepAppN 23 3 infoInt Tryz.underlying23 W7.heap.size (.slice a6_ 2 c6_) 2 [nA, nB] wv.O wv.O.length cO ⟨gO, 0, none⟩ _ _ rfl rfl rfl hO6 rfl rfl (by have := HOL.out; have := HRL.out; omega) (fun j hj => ?_) (by omega) (by have := HOL.out; omega) hb1.size ?_
  ·have hc := (hF.li 0 (k := .i64) (xs := wv.O) rfl HWO.out).cell j hj
   obtain ⟨b9, o9, he, _, hcx⟩ := hc
   cases he
   rw [List.getElem?_eq_getElem hj] at hcx
   have ha : (⟨gO, 0, none⟩ : Addr).add j = ⟨gO, 0 + j, none⟩ := by cases j with
    | zero => rfl
    | succ j => simp [Addr.add]
   rw [ha]
   exact hcx
  intro g9 c9 w9 hown hgr hob
  rw [← HSD2.out, HSL.out] at hown
  rw [HSL.out]
  have hb9 := hb1.grown hgr hb1.size (fun g hg => (hO6.lt g hg).1)
  refine hK _ _ ?_
  clear hK KK
  refine wpAny_ready (rs := [10]) (by kernel_rfl) (by simp) (AllReady.cons rfl (fun KK hK => ?_) AllReady.nil)
  have F9 := Lib.hid (F7.out.addO hb9 hown)
  simp only [List.cons_append, List.nil_append] at F9
  go_simp
  go_at_call 71
  refine (HSH.out (some ⟨g9, 0, none⟩) c9 _ (F9.out.li 1 (k := .i64) (xs := S) rfl HSWF.out)).mono ?_
  rintro e w' ⟨rfl, rfl⟩
  refine hK _ _ ?_
  clear hK KK
  refine wpAny_ready (rs := [11]) (by kernel_rfl) (by simp) (AllReady.cons rfl (fun KK hK => ?_) AllReady.nil)
  go_simp
  refine hK _ _ ?_
  clear hK KK
  refine wpAny_take (i := 13) (v := .int .i64 0) rfl (by kernel_rfl) (by kernel_rfl) (by kernel_rfl) (fun _ _ _ h => h) (.inl ⟨by rfl, fun w => by go_simp⟩) ?_
  refine wpAny_ready (rs := [12]) (by kernel_rfl) (by simp) (AllReady.cons rfl (fun KK hK => ?_) AllReady.nil)
  go_simp
  refine hK _ _ ?_
  clear hK KK
  refine wpAny_ready (rs := [14]) (by kernel_rfl) (by simp) (AllReady.cons rfl (fun KK hK => ?_) AllReady.nil)
  go_simp
  refine hK _ _ ?_
  clear hK KK
  refine wpAny_ready (rs := [15]) (by kernel_rfl) (by simp) (AllReady.cons rfl (fun KK hK => ?_) AllReady.nil)
  go_simp
  refine hK _ _ ?_
  clear hK KK
  refine wpAny_done (by kernel_rfl) ?_ _
  clear hb9 hown hgr hob hO6 hb1 F7
  obtain ⟨V9, rfl⟩ : ∃ x : World, x = w9 := ⟨_, rfl⟩
  have d1_0 := F9.out.c 1 0 rfl rfl
  have d1_1 := F9.out.c 1 1 rfl rfl
  have d1_2 := F9.out.c 1 2 rfl rfl
  have d1_3 := F9.out.c 1 3 rfl rfl
  have d1_4 := F9.out.c 1 4 rfl rfl
  have d1_5 := F9.out.c 1 5 rfl rfl
  have d1_6 := F9.out.c 1 6 rfl rfl
  have df1_0 := F9.out.f 1 0 rfl rfl
  have df1_1 := F9.out.f 1 1 rfl rfl
  have df1_2 := F9.out.f 1 2 rfl rfl
  have df1_3 := F9.out.f 1 3 rfl rfl
  have df1_4 := F9.out.f 1 4 rfl rfl
  have df1_5 := F9.out.f 1 5 rfl rfl
  have df1_6 := F9.out.f 1 6 rfl rfl
  go_wp2
  have FZ := F9.out.set 1 rfl (by simp) [.slice (some ⟨b0, o0 + 2, none⟩) wv.L.length (c - 2), .slice (some ⟨b1, o1 + 2, none⟩) wv.K.length (c2 - 2), .slice (some ⟨gO, 0, none⟩) wv.O.length cO, .slice aQ Q.length cQ, .slice aS wv.S.length cS, .slice aP wv.P.length cP, .slice aD wv.D.length cD] rfl
  simp only [setL, Nat.reduceAdd, List.set_cons_zero, List.set_cons_succ] at FZ
  have y0 := FZ.c 1 0 rfl rfl
  have y1 := FZ.c 1 1 rfl rfl
  have y2 := FZ.c 1 2 rfl rfl
  have y3 := FZ.c 1 3 rfl rfl
  have y4 := FZ.c 1 4 rfl rfl
  have y5 := FZ.c 1 5 rfl rfl
  have y6 := FZ.c 1 6 rfl rfl
  refine bodyPost_ret (v := .tuple #[.agg #[.slice (some ⟨b0, o0 + 2, none⟩) wv.L.length (c - 2), .slice (some ⟨b1, o1 + 2, none⟩) wv.K.length (c2 - 2), .slice (some ⟨gO, 0, none⟩) wv.O.length cO, .slice aQ Q.length cQ, .slice aS wv.S.length cS, .slice aP wv.P.length cP, .slice aD wv.D.length cD], .slice (some ⟨g9, 0, none⟩) S.length c9, .int .i64 0]) ?_ rfl ⟨_, _, _, _, _, _, _, _, rfl, ⟨b0, o0, by simp, by simp⟩, ⟨b1, o1, by simp, by simp⟩, FZ.rows⟩
  rw [results_ctt rfl]
  go_simp
end Go.Proofs.YtadlnmckcnfacaaGreat
