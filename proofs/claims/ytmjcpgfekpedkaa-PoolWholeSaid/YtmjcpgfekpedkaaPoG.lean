/- Walks: pool.Out, pool.Windows. -/
import Derived.Test.YtmjcpgfekpedkaaPoF
set_option linter.unusedVariables false
set_option linter.unusedSimpArgs false
namespace Go.Proofs.Ytmjcpgfekpedkaa
open Go.RowKit Go.Rt
attribute [local go_sem] Oper.semAt_some
theorem stepAppN {ops : Array Oper} {o : Oper} {a : Act} {w : World} {K : Act → World → Prop} {Q : Exit → Act → World → Prop} {E' : Prop} (T E : TypeId)
  (hinf : (Try.prog.info? E).map (fun i => (i.zero, i.size, i.bytes)) = some (some (.int .i64 0), 1, 8)) (hu : Try.prog.underlying T = some (.slice E))
  (base : Nat) (v : Value) (n : Nat) (xs news : List Int) (m cap : Nat) (ad : Addr) (s x : Operand) (hg : o.guard = none) (ho : o.op = .call { callee := .builtin .append, args := #[s, x], argTypes := #[T, T] })
  (hs : a.eval s = v) (hown : w.ownsRow base E 1 v n (xs.map (Value.int .i64))) (hx : a.eval x = .slice (some ad) m cap) (hl : news.length = m) (hm : 0 < m) (hc : ∀ j (hj : j < news.length), w.cell? (ad.add j) = some (.int .i64 news[j])) (hn : n ≤ 10000000) (hm2 : m ≤ 10000000) (hb : base ≤ w.heap.size)
  (hK : ∀ g cap' w', w'.ownsRow base E 1 (.slice (some ⟨g, 0, none⟩) (n + m) cap') (n + m) ((xs ++ news).map (Value.int .i64)) → w.grownBy w' v.ownBlock → (v.ownBlock = some g ∨ g = w.heap.size) → K (a.put o.dst (.slice (some ⟨g, 0, none⟩) (n + m) cap')) w') :
  if Region.wanted o (yielded ops a.tmps) = true then Oper.wp Try.prog o a w K Q else E' := by
 obtain ⟨i, hi, hz0, hz1, hz2⟩ := info_parts hinf
 refine step_append_lies w hg s x T ho base E i (.int .i64 0) 1 8 hu hi hz0 hz1 hz2 rfl (by decide) v n _ hs hown ad m cap (news.map (Value.int .i64)) hx (by simp [hl]) (fun j u hj => ?_) (by simp [Value.oneCell']) hm (by unfold maxLen; omega) (by omega) hb _ rfl ?_
 ·have hjl : j < news.length := by have := (List.getElem?_eq_some_iff.1 hj).1; simpa using this
  rw [List.getElem?_map, List.getElem?_eq_getElem hjl] at hj
  simp only [Option.map_some, Option.some.injEq] at hj
  rw [← hj]
  exact hc j hjl
 ·intro g cap' w' h1 h2 h3 _
  exact hK g cap' w' (by rw [List.map_append]; exact h1) h2 h3
theorem lw11 {α : Type} {l : List α} (h : l.length = 11) : ∃ x0 x1 x2 x3 x4 x5 x6 x7 x8 x9 x10, l = [x0, x1, x2, x3, x4, x5, x6, x7, x8, x9, x10] := by
 match l, h with
 | [x0, x1, x2, x3, x4, x5, x6, x7, x8, x9, x10], _ => exact ⟨x0, x1, x2, x3, x4, x5, x6, x7, x8, x9, x10, rfl⟩
theorem results_ctt {fn : Func} {p u v : Tmp} {ty : TypeId} (h : fn.results = #[.cell p ty, .tmp u, .tmp v]) (tmps : Array Value) (P : Program) (w : World) :
  (results fn tmps).run P w = ((asAddr (tmps.getD p undef)).run P w).andThen fun a w₁ => ((loadVar ty a).run P w₁).andThen fun x w₂ => .ok (.tuple #[x, tmps.getD u undef, tmps.getD v undef]) w₂ := by
 simp only [results, h]
 simp [Sem.run_bind, Result.andThen]
theorem ints_drop {k : IntKind} {w : World} {hi b o : Nat} {xs : List Int} (h : Ints k w hi (some ⟨b, o, none⟩) xs) (n : Nat) : Ints k w hi (some ⟨b, o + n, none⟩) (xs.drop n) :=
 ⟨by have := h.len; simp; omega, fun x hx => h.wf x (List.mem_of_mem_drop hx), fun i hi' => by
  obtain ⟨b9, o9, he, hl, hc⟩ := h.cell (n + i) (by simp at hi'; omega)
  cases he
  exact ⟨b, o + n, rfl, hl, by rw [List.getElem?_drop]; rw [Nat.add_assoc]; exact hc⟩⟩
theorem okI_iff {lo n : Int} : okI lo n = true ↔ lo ≤ n ∧ n ≤ 4096 := by unfold okI; simp
theorem num_iff {ker : Bool} {Q S P D : List Int} : numB ker Q S P D = true ↔ (1 ≤ S.length ∧ S.length ≤ 2 ∧ P.length = S.length ∧ D.length = S.length ∧ (ker = true → Q.length = S.length) ∧ (ker = false → Q.length = 0)) ∧ (∀ x ∈ S, 1 ≤ x ∧ x ≤ 4096) ∧ (∀ x ∈ D, 1 ≤ x ∧ x ≤ 4096) ∧ (∀ x ∈ P, 0 ≤ x ∧ x ≤ 4096) ∧ (∀ x ∈ Q, 1 ≤ x ∧ x ≤ 4096) := by
 have h4 : ∀ (l : List Int) (lo : Int), l.all (okI lo) = true ↔ ∀ x ∈ l, lo ≤ x ∧ x ≤ 4096 := fun l lo => by
  rw [List.all_eq_true]
  exact ⟨fun h x hx => okI_iff.1 (h x hx), fun h x hx => okI_iff.2 (h x hx)⟩
 unfold numB
 rw [Bool.and_eq_true, Bool.and_eq_true, Bool.and_eq_true, Bool.and_eq_true, h4, h4, h4, h4]
 refine and_congr ?_ Iff.rfl
 cases ker <;> simp [-List.length_eq_zero_iff] <;> omega
theorem getD_mem {l : List Int} {i : Nat} (hi : i < l.length) : l[i]?.getD 0 ∈ l := by
 rw [List.getElem?_eq_getElem hi]
 exact List.getElem_mem hi
/-- A pool's window is one. -/
theorem win_R {wv : WinV} {xs : List Int} (hL : wv.L = xs.drop 2) (hg : goodB xs = true) (hn : numB true wv.K wv.S wv.P wv.D = true) (hl : xs.length = 2 + wv.S.length) : wv.R ∧ 1 ≤ wv.L.length := by
 obtain ⟨⟨h1, h2, h3, h4, h5, _⟩, h6, h7, h8, h9⟩ := num_iff.1 hn
 have hk := h5 rfl
 have hLl : wv.L.length = wv.S.length := by rw [hL, List.length_drop]; omega
 have hd := goodB_dims hg
 refine ⟨⟨by omega, by omega, by omega, by omega, by omega, fun i hi => ?_, fun i hi => h9 _ (getD_mem (by omega)), fun i hi => h6 _ (getD_mem (by omega)), fun i hi => h8 _ (getD_mem (by omega)), fun i hi => h7 _ (getD_mem (by omega))⟩, by omega⟩
 have := getD_mem hi
 rw [hL] at this ⊢
 exact hd _ (List.mem_of_mem_drop this)
/-- The shape of a pool's answer. -/
def poS (xs : List Int) (wv : WinV) : List Int := [xs[0]?.getD 0, xs[1]?.getD 0] ++ wv.O
/-- A value that holds a row of one's own. -/
def HasRow (base n : Nat) (xs : List Value) (f : Option Addr → Nat → Value) (u : Value) (W : World) : Prop := ∃ a c, u = f a c ∧ W.ownsRow base 3 1 (.slice a n c) n xs
theorem hasRow_carries (base n : Nat) (xs : List Value) (f : Option Addr → Nat → Value) : Carries (HasRow base n xs f) := fun u w w' ⟨a, c, h1, h2⟩ hb => ⟨a, c, h1, own_below h2 hb (Nat.le_refl _)⟩
set_option maxRecDepth 100000 in
set_option maxHeartbeats 2000000 in
theorem out_num (a : Option Addr) (c : Nat) (xs : List Int) (aK aS aP aD : Option Addr) (cK cS cP cD : Nat) (wv : WinV) (w : World) (h : Ints .i64 w w.heap.size a xs) (hK : Ints .i64 w w.heap.size aK wv.K) (hS : Ints .i64 w w.heap.size aS wv.S) (hP : Ints .i64 w w.heap.size aP wv.P) (hD : Ints .i64 w w.heap.size aD wv.D) (hn : numB true wv.K wv.S wv.P wv.D = false) :
  Calls Try.prog 56 #[.slice a xs.length c, .agg #[.slice aK wv.K.length cK, .slice aS wv.S.length cS, .slice aP wv.P.length cP, .slice aD wv.D.length cD]] w (fun e w' => e = .returned (.tuple #[.agg #[.slice none 0 0, .slice none 0 0, .slice none 0 0, .slice none 0 0, .slice none 0 0, .slice none 0 0, .slice none 0 0], .slice none 0 0, .int .i64 1]) ∧ Below w.heap.size w w') := by
 have hsn : wv.S.length ≤ 2 ∨ numB true wv.K wv.S wv.P wv.D = false := by cases hb : numB true wv.K wv.S wv.P wv.D with | false => exact .inr rfl | true => exact .inl (num_iff.1 hb).1.2.1
 have hnum := fun W h1 h2 h3 h4 => convNumbers_any true aK aS aP aD cK cS cP cD wv.K wv.S wv.P wv.D W h1 h2 h3 h4
 rw [hn] at hnum
 have HNUM := Lib.hid hnum
 have hm := h.len
 have hmS := hS.len
 have F1 := Lib.hid (((Fr.start (w := w) (I := [(.i64, a, xs), (.i64, aK, wv.K), (.i64, aS, wv.S), (.i64, aP, wv.P), (.i64, aD, wv.D)]) (by intro z hz; simp at hz; rcases hz with rfl | rfl | rfl | rfl | rfl; exact h; exact hK; exact hS; exact hP; exact hD)).box1 (b := w.heap.size) rfl [.slice aK wv.K.length cK, .slice aS wv.S.length cS, .slice aP wv.P.length cP, .slice aD wv.D.length cD] 28).box1 (b := w.heap.size + 1) (by simp) [.slice none 0 0, .slice none 0 0, .slice none 0 0, .slice none 0 0, .slice none 0 0, .slice none 0 0, .slice none 0 0] 68)
 simp only [List.nil_append, List.cons_append] at F1
 clear hsn hnum h hK hS hP hD hn
 go_enter Try.func56, Try.ntmps56
 go_upto_region 1 with fail
 obtain ⟨W1, hW1⟩ : ∃ W1, (w.alloc (.cells #[.slice aK wv.K.length cK, .slice aS wv.S.length cS, .slice aP wv.P.length cP, .slice aD wv.D.length cD] 28)).alloc (.cells #[.slice none 0 0, .slice none 0 0, .slice none 0 0, .slice none 0 0, .slice none 0 0, .slice none 0 0, .slice none 0 0] 68) = W1 := ⟨_, rfl⟩
 rw [hW1] at F1 ⊢
 clear hW1
 have c0_0 := F1.out.c 0 0 rfl rfl
 have c0_1 := F1.out.c 0 1 rfl rfl
 have c0_2 := F1.out.c 0 2 rfl rfl
 have c0_3 := F1.out.c 0 3 rfl rfl
 go_wp2_with (first | (go_at_call 81; refine (HNUM.out _ (F1.out.lw 1 rfl) (F1.out.lw 2 rfl) (F1.out.lw 3 rfl) (F1.out.lw 4 rfl)).mono ?_; rintro e w2 ⟨rfl, hb⟩; have F2 := Lib.hid (F1.out.next hb); clear hb F1 c0_0 c0_1 c0_2 c0_3; have c1_0 := F2.out.c 1 0 rfl rfl; have c1_1 := F2.out.c 1 1 rfl rfl; have c1_2 := F2.out.c 1 2 rfl rfl; have c1_3 := F2.out.c 1 3 rfl rfl; have c1_4 := F2.out.c 1 4 rfl rfl; have c1_5 := F2.out.c 1 5 rfl rfl; have c1_6 := F2.out.c 1 6 rfl rfl; have cf1_0 := F2.out.f 1 0 rfl rfl; have cf1_1 := F2.out.f 1 1 rfl rfl; have cf1_2 := F2.out.f 1 2 rfl rfl; have cf1_3 := F2.out.f 1 3 rfl rfl; have cf1_4 := F2.out.f 1 4 rfl rfl; have cf1_5 := F2.out.f 1 5 rfl rfl; have cf1_6 := F2.out.f 1 6 rfl rfl) | fail)
 have FZ := F2.out.set 1 rfl (by simp) [.slice none 0 0, .slice none 0 0, .slice none 0 0, .slice none 0 0, .slice none 0 0, .slice none 0 0, .slice none 0 0] rfl
 simp only [setL, Nat.reduceAdd, List.set_cons_zero, List.set_cons_succ] at FZ
 have y0 := FZ.c 1 0 rfl rfl
 have y1 := FZ.c 1 1 rfl rfl
 have y2 := FZ.c 1 2 rfl rfl
 have y3 := FZ.c 1 3 rfl rfl
 have y4 := FZ.c 1 4 rfl rfl
 have y5 := FZ.c 1 5 rfl rfl
 have y6 := FZ.c 1 6 rfl rfl
 refine bodyPost_ret (v := .tuple #[.agg #[.slice none 0 0, .slice none 0 0, .slice none 0 0, .slice none 0 0, .slice none 0 0, .slice none 0 0, .slice none 0 0], .slice none 0 0, .int .i64 1]) ?_ rfl ⟨rfl, FZ.bel⟩
 rw [results_ctt rfl]
 go_simp
set_option maxRecDepth 100000 in
set_option maxHeartbeats 2000000 in
theorem out_len (a : Option Addr) (c : Nat) (xs : List Int) (aK aS aP aD : Option Addr) (cK cS cP cD : Nat) (wv : WinV) (w : World) (h : Ints .i64 w w.heap.size a xs) (hK : Ints .i64 w w.heap.size aK wv.K) (hS : Ints .i64 w w.heap.size aS wv.S) (hP : Ints .i64 w w.heap.size aP wv.P) (hD : Ints .i64 w w.heap.size aD wv.D) (hn : numB true wv.K wv.S wv.P wv.D = true) (hl : xs.length ≠ 2 + wv.S.length) :
  Calls Try.prog 56 #[.slice a xs.length c, .agg #[.slice aK wv.K.length cK, .slice aS wv.S.length cS, .slice aP wv.P.length cP, .slice aD wv.D.length cD]] w (fun e w' => e = .returned (.tuple #[.agg #[.slice none 0 0, .slice none 0 0, .slice none 0 0, .slice none 0 0, .slice none 0 0, .slice none 0 0, .slice none 0 0], .slice none 0 0, .int .i64 2]) ∧ Below w.heap.size w w') := by
 have hsn : wv.S.length ≤ 2 ∨ numB true wv.K wv.S wv.P wv.D = false := by cases hb : numB true wv.K wv.S wv.P wv.D with | false => exact .inr rfl | true => exact .inl (num_iff.1 hb).1.2.1
 have hnum := fun W h1 h2 h3 h4 => convNumbers_any true aK aS aP aD cK cS cP cD wv.K wv.S wv.P wv.D W h1 h2 h3 h4
 rw [hn] at hnum
 have HNUM := Lib.hid hnum
 have hm := h.len
 have hmS := hS.len
 have F1 := Lib.hid (((Fr.start (w := w) (I := [(.i64, a, xs), (.i64, aK, wv.K), (.i64, aS, wv.S), (.i64, aP, wv.P), (.i64, aD, wv.D)]) (by intro z hz; simp at hz; rcases hz with rfl | rfl | rfl | rfl | rfl; exact h; exact hK; exact hS; exact hP; exact hD)).box1 (b := w.heap.size) rfl [.slice aK wv.K.length cK, .slice aS wv.S.length cS, .slice aP wv.P.length cP, .slice aD wv.D.length cD] 28).box1 (b := w.heap.size + 1) (by simp) [.slice none 0 0, .slice none 0 0, .slice none 0 0, .slice none 0 0, .slice none 0 0, .slice none 0 0, .slice none 0 0] 68)
 simp only [List.nil_append, List.cons_append] at F1
 have hs2 : wv.S.length ≤ 2 := by rcases hsn with h9 | h9; exact h9; rw [hn] at h9; cases h9
 clear hsn hnum h hK hS hP hD hn
 go_enter Try.func56, Try.ntmps56
 go_upto_region 1 with fail
 obtain ⟨W1, hW1⟩ : ∃ W1, (w.alloc (.cells #[.slice aK wv.K.length cK, .slice aS wv.S.length cS, .slice aP wv.P.length cP, .slice aD wv.D.length cD] 28)).alloc (.cells #[.slice none 0 0, .slice none 0 0, .slice none 0 0, .slice none 0 0, .slice none 0 0, .slice none 0 0, .slice none 0 0] 68) = W1 := ⟨_, rfl⟩
 rw [hW1] at F1 ⊢
 clear hW1
 have c0_0 := F1.out.c 0 0 rfl rfl
 have c0_1 := F1.out.c 0 1 rfl rfl
 have c0_2 := F1.out.c 0 2 rfl rfl
 have c0_3 := F1.out.c 0 3 rfl rfl
 have hr2w : ∀ [Inhabited Unit], RowKit.wrap64 (2 + (wv.S.length : Int)) = 2 + (wv.S.length : Int) := by intro _; exact IntWalk.wrap64_in _ ⟨by omega, by omega⟩
 have hli : ¬ (xs.length : Int) = 2 + (wv.S.length : Int) := by omega
 go_upto_region 3 with (first | (go_at_call 81; refine (HNUM.out _ (F1.out.lw 1 rfl) (F1.out.lw 2 rfl) (F1.out.lw 3 rfl) (F1.out.lw 4 rfl)).mono ?_; rintro e w2 ⟨rfl, hb⟩; have F2 := Lib.hid (F1.out.next hb); clear hb F1 c0_0 c0_1 c0_2 c0_3; have c0_0 := F2.out.c 0 0 rfl rfl; have c0_1 := F2.out.c 0 1 rfl rfl; have c0_2 := F2.out.c 0 2 rfl rfl; have c0_3 := F2.out.c 0 3 rfl rfl) | fail)
 have d1_0 := F2.out.c 1 0 rfl rfl
 have d1_1 := F2.out.c 1 1 rfl rfl
 have d1_2 := F2.out.c 1 2 rfl rfl
 have d1_3 := F2.out.c 1 3 rfl rfl
 have d1_4 := F2.out.c 1 4 rfl rfl
 have d1_5 := F2.out.c 1 5 rfl rfl
 have d1_6 := F2.out.c 1 6 rfl rfl
 have df1_0 := F2.out.f 1 0 rfl rfl
 have df1_1 := F2.out.f 1 1 rfl rfl
 have df1_2 := F2.out.f 1 2 rfl rfl
 have df1_3 := F2.out.f 1 3 rfl rfl
 have df1_4 := F2.out.f 1 4 rfl rfl
 have df1_5 := F2.out.f 1 5 rfl rfl
 have df1_6 := F2.out.f 1 6 rfl rfl
 have hs2 : (wv.S.length : Int) ≤ 2 ∨ (2 : Int) < (wv.S.length : Int) := by omega
 go_wp2
 have FZ := F2.out.set 1 rfl (by simp) [.slice none 0 0, .slice none 0 0, .slice none 0 0, .slice none 0 0, .slice none 0 0, .slice none 0 0, .slice none 0 0] rfl
 simp only [setL, Nat.reduceAdd, List.set_cons_zero, List.set_cons_succ] at FZ
 have y0 := FZ.c 1 0 rfl rfl
 have y1 := FZ.c 1 1 rfl rfl
 have y2 := FZ.c 1 2 rfl rfl
 have y3 := FZ.c 1 3 rfl rfl
 have y4 := FZ.c 1 4 rfl rfl
 have y5 := FZ.c 1 5 rfl rfl
 have y6 := FZ.c 1 6 rfl rfl
 refine bodyPost_ret (v := .tuple #[.agg #[.slice none 0 0, .slice none 0 0, .slice none 0 0, .slice none 0 0, .slice none 0 0, .slice none 0 0, .slice none 0 0], .slice none 0 0, .int .i64 2]) ?_ rfl ⟨rfl, FZ.bel⟩
 rw [results_ctt rfl]
 go_simp
set_option maxRecDepth 100000 in
set_option maxHeartbeats 2000000 in
theorem out_over (a : Option Addr) (c : Nat) (xs : List Int) (aK aS aP aD : Option Addr) (cK cS cP cD : Nat) (wv : WinV) (w : World) (h : Ints .i64 w w.heap.size a xs) (hK : Ints .i64 w w.heap.size aK wv.K) (hS : Ints .i64 w w.heap.size aS wv.S) (hP : Ints .i64 w w.heap.size aP wv.P) (hD : Ints .i64 w w.heap.size aD wv.D) (hn : numB true wv.K wv.S wv.P wv.D = true) (hl : xs.length = 2 + wv.S.length) (hL : wv.L = xs.drop 2) (hg : goodB xs = true) (hc1 : xs.length ≤ c) (hc2 : c ≤ 9223372036854775807) (hok : wv.okB = false) :
  Calls Try.prog 56 #[.slice a xs.length c, .agg #[.slice aK wv.K.length cK, .slice aS wv.S.length cS, .slice aP wv.P.length cP, .slice aD wv.D.length cD]] w (fun e w' => e = .returned (.tuple #[.agg #[.slice none 0 0, .slice none 0 0, .slice none 0 0, .slice none 0 0, .slice none 0 0, .slice none 0 0, .slice none 0 0], .slice none 0 0, .int .i64 2]) ∧ Below w.heap.size w w') := by
 have hsn : wv.S.length ≤ 2 ∨ numB true wv.K wv.S wv.P wv.D = false := by cases hb : numB true wv.K wv.S wv.P wv.D with | false => exact .inr rfl | true => exact .inl (num_iff.1 hb).1.2.1
 have hnum := fun W h1 h2 h3 h4 => convNumbers_any true aK aS aP aD cK cS cP cD wv.K wv.S wv.P wv.D W h1 h2 h3 h4
 rw [hn] at hnum
 have HNUM := Lib.hid hnum
 have hm := h.len
 have hmS := hS.len
 obtain ⟨hR, hr⟩ := win_R hL hg hn hl
 have hr2 := hR.r
 have hx4 := (goodB_iff.1 hg).1
 have hlen2 : xs.length - 2 = wv.L.length := by rw [hL, List.length_drop]
 obtain ⟨b0, o0, rfl, _, _⟩ := h.cell 0 (by omega)
 have hiL := ints_drop h 2
 rw [← hL] at hiL
 have HIL := Lib.hid hiL
 have HOV := Lib.hid (fun W h0 h1 h2 h3 h4 => over_bad (some ⟨b0, o0 + 2, none⟩) aK aK aS aP aD (c - 2) cK cK cS cP cD wv.K wv W h0 h1 h2 h3 h4 hR hok)
 have F1 := Lib.hid (((Fr.start (w := w) (I := [(.i64, (some ⟨b0, o0, none⟩), xs), (.i64, aK, wv.K), (.i64, aS, wv.S), (.i64, aP, wv.P), (.i64, aD, wv.D), (.i64, (some ⟨b0, o0 + 2, none⟩), wv.L)]) (by intro z hz; simp at hz; rcases hz with rfl | rfl | rfl | rfl | rfl | rfl; exact h; exact hK; exact hS; exact hP; exact hD; exact hiL)).box1 (b := w.heap.size) rfl [.slice aK wv.K.length cK, .slice aS wv.S.length cS, .slice aP wv.P.length cP, .slice aD wv.D.length cD] 28).box1 (b := w.heap.size + 1) (by simp) [.slice none 0 0, .slice none 0 0, .slice none 0 0, .slice none 0 0, .slice none 0 0, .slice none 0 0, .slice none 0 0] 68)
 simp only [List.nil_append, List.cons_append] at F1
 have hs2 : wv.S.length ≤ 2 := by rcases hsn with h9 | h9; exact h9; rw [hn] at h9; cases h9
 clear hsn hnum h hK hS hP hD hn hR hok hg hiL hL
 go_enter Try.func56, Try.ntmps56
 go_upto_region 1 with fail
 obtain ⟨W1, hW1⟩ : ∃ W1, (w.alloc (.cells #[.slice aK wv.K.length cK, .slice aS wv.S.length cS, .slice aP wv.P.length cP, .slice aD wv.D.length cD] 28)).alloc (.cells #[.slice none 0 0, .slice none 0 0, .slice none 0 0, .slice none 0 0, .slice none 0 0, .slice none 0 0, .slice none 0 0] 68) = W1 := ⟨_, rfl⟩
 rw [hW1] at F1 ⊢
 clear hW1
 have c0_0 := F1.out.c 0 0 rfl rfl
 have c0_1 := F1.out.c 0 1 rfl rfl
 have c0_2 := F1.out.c 0 2 rfl rfl
 have c0_3 := F1.out.c 0 3 rfl rfl
 have hr2w : ∀ [Inhabited Unit], RowKit.wrap64 (2 + (wv.S.length : Int)) = 2 + (wv.S.length : Int) := by intro _; exact IntWalk.wrap64_in _ ⟨by omega, by omega⟩
 have hli : (xs.length : Int) = 2 + (wv.S.length : Int) := by omega
 have HLI := Lib.hid hli
 have HLN := Lib.hid hl
 have hd9 : ((xs.length : Int) != 2 + (wv.S.length : Int)) = false := by simp; omega
 clear hli hl
 go_upto_region 3 with (first | (go_at_call 81; refine (HNUM.out _ (F1.out.lw 1 rfl) (F1.out.lw 2 rfl) (F1.out.lw 3 rfl) (F1.out.lw 4 rfl)).mono ?_; rintro e w2 ⟨rfl, hb⟩; have F2 := Lib.hid (F1.out.next hb); clear hb F1 c0_0 c0_1 c0_2 c0_3; have c0_0 := F2.out.c 0 0 rfl rfl; have c0_1 := F2.out.c 0 1 rfl rfl; have c0_2 := F2.out.c 0 2 rfl rfl; have c0_3 := F2.out.c 0 3 rfl rfl) | fail)
 go_upto_region 5 with fail
 have HSLN := Lib.hid hlen2
 clear hlen2 hd9 hr2w c0_0 c0_1 c0_2 c0_3
 obtain ⟨w2, rfl⟩ : ∃ x : World, x = w2 := ⟨_, rfl⟩
 go_cut [7] from 7 to 28 (fun s7 wx => s7 = .bool false ∧ Hid (Fr w.heap.size w wx [(w.heap.size, [.slice aK wv.K.length cK, .slice aS wv.S.length cS, .slice aP wv.P.length cP, .slice aD wv.D.length cD]), (w.heap.size + 1, [.slice none 0 0, .slice none 0 0, .slice none 0 0, .slice none 0 0, .slice none 0 0, .slice none 0 0, .slice none 0 0])] [(.i64, (some ⟨b0, o0, none⟩), xs), (.i64, aK, wv.K), (.i64, aS, wv.S), (.i64, aP, wv.P), (.i64, aD, wv.D), (.i64, (some ⟨b0, o0 + 2, none⟩), wv.L)] [] []))
 case first =>
  refine wp_region_parts2 (w := w2) 9 2 (some 8) [] [(fun u _ => u = .slice (some ⟨b0, o0, none⟩) xs.length c), (fun u _ => u = .slice (some ⟨b0, o0 + 2, none⟩) wv.L.length (c - 2)), (fun u _ => u = .pointer (some ⟨w.heap.size, 0, none⟩)), (fun u _ => u = .slice aK wv.K.length cK), (fun u _ => u = .agg #[.slice aK wv.K.length cK, .slice aS wv.S.length cS, .slice aP wv.P.length cP, .slice aD wv.D.length cD]), (fun u _ => u = .tuple #[.agg #[.slice none 0 0, .slice none 0 0, .slice none 0 0, .slice none 0 0, .slice none 0 0, .slice none 0 0, .slice none 0 0], .bool false]), (fun u _ => u = .tuple #[.agg #[.slice none 0 0, .slice none 0 0, .slice none 0 0, .slice none 0 0, .slice none 0 0, .slice none 0 0, .slice none 0 0], .bool false]), (fun u _ => u = .agg #[.slice none 0 0, .slice none 0 0, .slice none 0 0, .slice none 0 0, .slice none 0 0, .slice none 0 0, .slice none 0 0]), (fun u _ => u = .bool false)] [some 21, some 22, some 23, some 24, some 25, some 26, some 20, some 27, some 28, none, some 7] #[true, true, true, true, true, true, true, true, true, false, false] #[true, true, true, true, true, true, true, true, false, false, false] (by kernel_rfl) rfl (by kernel_rfl) (by kernel_rfl) rfl (by kernel_rfl) (by kernel_rfl) (.cons (carries_eq _) (.cons (carries_eq _) (.cons (carries_eq _) (.cons (carries_eq _) (.cons (carries_eq _) (.cons (carries_eq _) (.cons (carries_eq _) (.cons (carries_eq _) (.cons (carries_eq _) .nil))))))))) (fun vs b hvl hvb => ?_)
  obtain ⟨x0, x1, x2, x3, x4, x5, x6, x7, x8, x9, x10, rfl⟩ : ∃ x0 x1 x2 x3 x4 x5 x6 x7 x8 x9 x10, vs = [x0, x1, x2, x3, x4, x5, x6, x7, x8, x9, x10] := lw11 hvl
  clear hvl
  simp only [putAll, Act.put, List.setIfInBounds_toArray, List.set_cons_zero, List.set_cons_succ] at hvb
  subst hvb
  refine ⟨(.snoc (.snoc (.snoc (.snoc (.snoc (.snoc (.snoc (.snoc (.snoc .zero (PartOb.intro (d := (some 21)) (r := fun u _ => u = .slice (some ⟨b0, o0, none⟩) xs.length c) rfl rfl rfl rfl ?po5x0)) (PartOb.intro (d := (some 22)) (r := fun u _ => u = .slice (some ⟨b0, o0 + 2, none⟩) wv.L.length (c - 2)) rfl rfl rfl rfl ?po5x1)) (PartOb.intro (d := (some 23)) (r := fun u _ => u = .pointer (some ⟨w.heap.size, 0, none⟩)) rfl rfl rfl rfl ?po5x2)) (PartOb.intro (d := (some 24)) (r := fun u _ => u = .slice aK wv.K.length cK) rfl rfl rfl rfl ?po5x3)) (PartOb.intro (d := (some 25)) (r := fun u _ => u = .agg #[.slice aK wv.K.length cK, .slice aS wv.S.length cS, .slice aP wv.P.length cP, .slice aD wv.D.length cD]) rfl rfl rfl rfl ?po5x4)) (PartOb.intro (d := (some 26)) (r := fun u _ => u = .tuple #[.agg #[.slice none 0 0, .slice none 0 0, .slice none 0 0, .slice none 0 0, .slice none 0 0, .slice none 0 0, .slice none 0 0], .bool false]) rfl rfl rfl rfl ?po5x5)) (PartOb.intro (d := (some 20)) (r := fun u _ => u = .tuple #[.agg #[.slice none 0 0, .slice none 0 0, .slice none 0 0, .slice none 0 0, .slice none 0 0, .slice none 0 0, .slice none 0 0], .bool false]) rfl rfl rfl rfl ?po5x6)) (PartOb.intro (d := (some 27)) (r := fun u _ => u = .agg #[.slice none 0 0, .slice none 0 0, .slice none 0 0, .slice none 0 0, .slice none 0 0, .slice none 0 0, .slice none 0 0]) rfl rfl rfl rfl ?po5x7)) (PartOb.intro (d := (some 28)) (r := fun u _ => u = .bool false) rfl rfl rfl rfl ?po5x8)), ?pend5, ?pfl5⟩
  case po5x0 =>
   intro w1 hb1 hd KK hK
   clear hd
   simp only [Act.put, List.setIfInBounds_toArray, List.set_cons_zero, List.set_cons_succ] at hK
   go_simp
   first | exact hK.out _ _ (Below.refl _ _) rfl | (have hk := hK.out _ _ (Below.refl _ _) rfl; revert hk; go_simp)
  case po5x1 =>
   intro w1 hb1 hd KK hK
   have d0 : x0 = .slice (some ⟨b0, o0, none⟩) xs.length c := hd 0 (by kernel_rfl)
   clear hd
   subst d0
   have hxx := HSLN.out
   have g1 : (2 : Int) ≤ (xs.length : Int) := by omega
   have g2 : (xs.length : Int) ≤ (c : Int) := by omega
   have g3 : ¬ c = 2 := by omega
   simp only [Act.put, List.setIfInBounds_toArray, List.set_cons_zero, List.set_cons_succ] at hK
   go_simp
   first | exact hK.out _ _ (Below.refl _ _) rfl | (have hk := hK.out _ _ (Below.refl _ _) rfl; revert hk; go_simp)
  case po5x2 =>
   intro w1 hb1 hd KK hK
   clear hd
   simp only [Act.put, List.setIfInBounds_toArray, List.set_cons_zero, List.set_cons_succ] at hK
   go_simp
   first | exact hK.out _ _ (Below.refl _ _) rfl | (have hk := hK.out _ _ (Below.refl _ _) rfl; revert hk; go_simp)
  case po5x3 =>
   intro w1 hb1 hd KK hK
   have d2 : x2 = .pointer (some ⟨w.heap.size, 0, none⟩) := hd 2 (by kernel_rfl)
   clear hd
   subst d2
   have hF := F2.out.next hb1
   have k0 := hF.c 0 0 rfl rfl
   simp only [Act.put, List.setIfInBounds_toArray, List.set_cons_zero, List.set_cons_succ] at hK
   go_simp
   first | exact hK.out _ _ (Below.refl _ _) rfl | (have hk := hK.out _ _ (Below.refl _ _) rfl; revert hk; go_simp)
  case po5x4 =>
   intro w1 hb1 hd KK hK
   clear hd
   have hF := F2.out.next hb1
   have k0 := hF.c 0 0 rfl rfl
   have k1 := hF.c 0 1 rfl rfl
   have k2 := hF.c 0 2 rfl rfl
   have k3 := hF.c 0 3 rfl rfl
   simp only [Act.put, List.setIfInBounds_toArray, List.set_cons_zero, List.set_cons_succ] at hK
   go_simp
   first | exact hK.out _ _ (Below.refl _ _) rfl | (have hk := hK.out _ _ (Below.refl _ _) rfl; revert hk; go_simp)
  case po5x5 =>
   intro w1 hb1 hd KK hK
   have d1 : x1 = .slice (some ⟨b0, o0 + 2, none⟩) wv.L.length (c - 2) := hd 1 (by kernel_rfl)
   have d3 : x3 = .slice aK wv.K.length cK := hd 3 (by kernel_rfl)
   have d4 : x4 = .agg #[.slice aK wv.K.length cK, .slice aS wv.S.length cS, .slice aP wv.P.length cP, .slice aD wv.D.length cD] := hd 4 (by kernel_rfl)
   clear hd
   subst d1
   subst d3
   subst d4
   simp only [Act.put, List.setIfInBounds_toArray, List.set_cons_zero, List.set_cons_succ] at hK
   go_simp
   have hF := F2.out.next hb1
   go_at_call 82
   refine (HOV.out w1 (hF.lw 5 rfl) (hF.lw 1 rfl) (hF.lw 2 rfl) (hF.lw 3 rfl) (hF.lw 4 rfl)).mono ?_
   rintro e w6 ⟨rfl, hb⟩
   (try go_wp2_with fail)
   first | exact hK.out _ _ hb rfl | (have hk := hK.out _ _ hb rfl; revert hk; go_simp)
  case po5x6 =>
   intro w1 hb1 hd KK hK
   have d5 : x5 = .tuple #[.agg #[.slice none 0 0, .slice none 0 0, .slice none 0 0, .slice none 0 0, .slice none 0 0, .slice none 0 0, .slice none 0 0], .bool false] := hd 5 (by kernel_rfl)
   clear hd
   subst d5
   simp only [Act.put, List.setIfInBounds_toArray, List.set_cons_zero, List.set_cons_succ] at hK
   go_simp
   first | exact hK.out _ _ (Below.refl _ _) rfl | (have hk := hK.out _ _ (Below.refl _ _) rfl; revert hk; go_simp)
  case po5x7 =>
   intro w1 hb1 hd KK hK
   have d6 : x6 = .tuple #[.agg #[.slice none 0 0, .slice none 0 0, .slice none 0 0, .slice none 0 0, .slice none 0 0, .slice none 0 0, .slice none 0 0], .bool false] := hd 6 (by kernel_rfl)
   clear hd
   subst d6
   simp only [Act.put, List.setIfInBounds_toArray, List.set_cons_zero, List.set_cons_succ] at hK
   go_simp
   first | exact hK.out _ _ (Below.refl _ _) rfl | (have hk := hK.out _ _ (Below.refl _ _) rfl; revert hk; go_simp)
  case po5x8 =>
   intro w1 hb1 hd KK hK
   have d6 : x6 = .tuple #[.agg #[.slice none 0 0, .slice none 0 0, .slice none 0 0, .slice none 0 0, .slice none 0 0, .slice none 0 0, .slice none 0 0], .bool false] := hd 6 (by kernel_rfl)
   clear hd
   subst d6
   simp only [Act.put, List.setIfInBounds_toArray, List.set_cons_zero, List.set_cons_succ] at hK
   go_simp
   first | exact hK.out _ _ (Below.refl _ _) rfl | (have hk := hK.out _ _ (Below.refl _ _) rfl; revert hk; go_simp)
  case pend5 =>
   intro w1 hb1 hR hD
   have d0 : x0 = .slice (some ⟨b0, o0, none⟩) xs.length c := hR 0 (by decide)
   have d1 : x1 = .slice (some ⟨b0, o0 + 2, none⟩) wv.L.length (c - 2) := hR 1 (by decide)
   have d2 : x2 = .pointer (some ⟨w.heap.size, 0, none⟩) := hR 2 (by decide)
   have d3 : x3 = .slice aK wv.K.length cK := hR 3 (by decide)
   have d4 : x4 = .agg #[.slice aK wv.K.length cK, .slice aS wv.S.length cS, .slice aP wv.P.length cP, .slice aD wv.D.length cD] := hR 4 (by decide)
   have d5 : x5 = .tuple #[.agg #[.slice none 0 0, .slice none 0 0, .slice none 0 0, .slice none 0 0, .slice none 0 0, .slice none 0 0, .slice none 0 0], .bool false] := hR 5 (by decide)
   have d6 : x6 = .tuple #[.agg #[.slice none 0 0, .slice none 0 0, .slice none 0 0, .slice none 0 0, .slice none 0 0, .slice none 0 0, .slice none 0 0], .bool false] := hR 6 (by decide)
   have d7 : x7 = .agg #[.slice none 0 0, .slice none 0 0, .slice none 0 0, .slice none 0 0, .slice none 0 0, .slice none 0 0, .slice none 0 0] := hR 7 (by decide)
   have d8 : x8 = .bool false := hR 8 (by decide)
   clear hR hD
   subst d0
   subst d1
   subst d2
   subst d3
   subst d4
   subst d5
   subst d6
   subst d7
   subst d8
   refine wpAny_ready (rs := [9]) (by kernel_rfl) (by simp) (AllReady.cons rfl (fun KK hK => ?_) AllReady.nil)
   have F6 := F2.out.next hb1
   have q0 := F6.c 1 0 rfl rfl
   have q1 := F6.c 1 1 rfl rfl
   have q2 := F6.c 1 2 rfl rfl
   have q3 := F6.c 1 3 rfl rfl
   have q4 := F6.c 1 4 rfl rfl
   have q5 := F6.c 1 5 rfl rfl
   have q6 := F6.c 1 6 rfl rfl
   have qf0 := F6.f 1 0 rfl rfl
   have qf1 := F6.f 1 1 rfl rfl
   have qf2 := F6.f 1 2 rfl rfl
   have qf3 := F6.f 1 3 rfl rfl
   have qf4 := F6.f 1 4 rfl rfl
   have qf5 := F6.f 1 5 rfl rfl
   have qf6 := F6.f 1 6 rfl rfl
   go_simp
   refine hK _ _ ?_
   clear hK KK
   try simp only [putAll, Act.put, List.setIfInBounds_toArray, List.set_cons_zero, List.set_cons_succ]
   refine wpAny_ready (rs := [10]) (by kernel_rfl) (by simp) (AllReady.cons rfl (fun KK hK => ?_) AllReady.nil)
   go_simp
   refine hK _ _ ?_
   clear hK KK
   try simp only [putAll, Act.put, List.setIfInBounds_toArray, List.set_cons_zero, List.set_cons_succ]
   refine wpAny_done (by kernel_rfl) ?_ _
   have F7 := Lib.hid (F6.set 1 rfl (by simp) [.slice none 0 0, .slice none 0 0, .slice none 0 0, .slice none 0 0, .slice none 0 0, .slice none 0 0, .slice none 0 0] rfl)
   simp only [setL, Nat.reduceAdd, List.set_cons_zero, List.set_cons_succ] at F7
   go_wp2
   go_meet
   exact ⟨rfl, F7⟩
  case pfl5 =>
   intro f hf hfn w1 hb1 hR hD
   injection hf with hf
   subst hf
   have d0 : x0 = .slice (some ⟨b0, o0, none⟩) xs.length c := hR 0 (by decide) (by decide)
   have d1 : x1 = .slice (some ⟨b0, o0 + 2, none⟩) wv.L.length (c - 2) := hR 1 (by decide) (by decide)
   have d2 : x2 = .pointer (some ⟨w.heap.size, 0, none⟩) := hR 2 (by decide) (by decide)
   have d3 : x3 = .slice aK wv.K.length cK := hR 3 (by decide) (by decide)
   have d4 : x4 = .agg #[.slice aK wv.K.length cK, .slice aS wv.S.length cS, .slice aP wv.P.length cP, .slice aD wv.D.length cD] := hR 4 (by decide) (by decide)
   have d5 : x5 = .tuple #[.agg #[.slice none 0 0, .slice none 0 0, .slice none 0 0, .slice none 0 0, .slice none 0 0, .slice none 0 0, .slice none 0 0], .bool false] := hR 5 (by decide) (by decide)
   have d6 : x6 = .tuple #[.agg #[.slice none 0 0, .slice none 0 0, .slice none 0 0, .slice none 0 0, .slice none 0 0, .slice none 0 0, .slice none 0 0], .bool false] := hR 6 (by decide) (by decide)
   have d7 : x7 = .agg #[.slice none 0 0, .slice none 0 0, .slice none 0 0, .slice none 0 0, .slice none 0 0, .slice none 0 0, .slice none 0 0] := hR 7 (by decide) (by decide)
   clear hR hD
   subst d0
   subst d1
   subst d2
   subst d3
   subst d4
   subst d5
   subst d6
   subst d7
   refine wpAny_take (i := 8) (v := .bool false) rfl (by kernel_rfl) (by kernel_rfl) (by kernel_rfl) (fun _ _ _ h => h) (.inl ⟨by rfl, fun w => by go_simp⟩) ?_
   try simp only [putAll, Act.put, List.setIfInBounds_toArray, List.set_cons_zero, List.set_cons_succ]
   refine wpAny_ready (rs := [9]) (by kernel_rfl) (by simp) (AllReady.cons rfl (fun KK hK => ?_) AllReady.nil)
   have F6 := F2.out.next hb1
   have q0 := F6.c 1 0 rfl rfl
   have q1 := F6.c 1 1 rfl rfl
   have q2 := F6.c 1 2 rfl rfl
   have q3 := F6.c 1 3 rfl rfl
   have q4 := F6.c 1 4 rfl rfl
   have q5 := F6.c 1 5 rfl rfl
   have q6 := F6.c 1 6 rfl rfl
   have qf0 := F6.f 1 0 rfl rfl
   have qf1 := F6.f 1 1 rfl rfl
   have qf2 := F6.f 1 2 rfl rfl
   have qf3 := F6.f 1 3 rfl rfl
   have qf4 := F6.f 1 4 rfl rfl
   have qf5 := F6.f 1 5 rfl rfl
   have qf6 := F6.f 1 6 rfl rfl
   go_simp
   refine hK _ _ ?_
   clear hK KK
   try simp only [putAll, Act.put, List.setIfInBounds_toArray, List.set_cons_zero, List.set_cons_succ]
   refine wpAny_ready (rs := [10]) (by kernel_rfl) (by simp) (AllReady.cons rfl (fun KK hK => ?_) AllReady.nil)
   go_simp
   refine hK _ _ ?_
   clear hK KK
   try simp only [putAll, Act.put, List.setIfInBounds_toArray, List.set_cons_zero, List.set_cons_succ]
   refine wpAny_done (by kernel_rfl) ?_ _
   have F7 := Lib.hid (F6.set 1 rfl (by simp) [.slice none 0 0, .slice none 0 0, .slice none 0 0, .slice none 0 0, .slice none 0 0, .slice none 0 0, .slice none 0 0] rfl)
   simp only [setL, Nat.reduceAdd, List.set_cons_zero, List.set_cons_succ] at F7
   go_wp2
   go_meet
   exact ⟨rfl, F7⟩
 case rest =>
  obtain ⟨rfl, F7⟩ := hcut
  clear F2
  obtain ⟨W7, rfl⟩ : ∃ x : World, x = wc := ⟨_, rfl⟩
  have d1_0 := F7.out.c 1 0 rfl rfl
  have d1_1 := F7.out.c 1 1 rfl rfl
  have d1_2 := F7.out.c 1 2 rfl rfl
  have d1_3 := F7.out.c 1 3 rfl rfl
  have d1_4 := F7.out.c 1 4 rfl rfl
  have d1_5 := F7.out.c 1 5 rfl rfl
  have d1_6 := F7.out.c 1 6 rfl rfl
  have df1_0 := F7.out.f 1 0 rfl rfl
  have df1_1 := F7.out.f 1 1 rfl rfl
  have df1_2 := F7.out.f 1 2 rfl rfl
  have df1_3 := F7.out.f 1 3 rfl rfl
  have df1_4 := F7.out.f 1 4 rfl rfl
  have df1_5 := F7.out.f 1 5 rfl rfl
  have df1_6 := F7.out.f 1 6 rfl rfl
  go_wp2
  have FZ := F7.out.set 1 rfl (by simp) [.slice none 0 0, .slice none 0 0, .slice none 0 0, .slice none 0 0, .slice none 0 0, .slice none 0 0, .slice none 0 0] rfl
  simp only [setL, Nat.reduceAdd, List.set_cons_zero, List.set_cons_succ] at FZ
  have y0 := FZ.c 1 0 rfl rfl
  have y1 := FZ.c 1 1 rfl rfl
  have y2 := FZ.c 1 2 rfl rfl
  have y3 := FZ.c 1 3 rfl rfl
  have y4 := FZ.c 1 4 rfl rfl
  have y5 := FZ.c 1 5 rfl rfl
  have y6 := FZ.c 1 6 rfl rfl
  refine bodyPost_ret (v := .tuple #[.agg #[.slice none 0 0, .slice none 0 0, .slice none 0 0, .slice none 0 0, .slice none 0 0, .slice none 0 0, .slice none 0 0], .slice none 0 0, .int .i64 2]) ?_ rfl ⟨rfl, FZ.bel⟩
  rw [results_ctt rfl]
  go_simp
set_option maxRecDepth 100000 in
set_option maxHeartbeats 2000000 in
theorem out_full (a : Option Addr) (c : Nat) (xs : List Int) (aK aS aP aD : Option Addr) (cK cS cP cD : Nat) (wv : WinV) (w : World) (h : Ints .i64 w w.heap.size a xs) (hK : Ints .i64 w w.heap.size aK wv.K) (hS : Ints .i64 w w.heap.size aS wv.S) (hP : Ints .i64 w w.heap.size aP wv.P) (hD : Ints .i64 w w.heap.size aD wv.D) (hn : numB true wv.K wv.S wv.P wv.D = true) (hl : xs.length = 2 + wv.S.length) (hL : wv.L = xs.drop 2) (hg : goodB xs = true) (hc1 : xs.length ≤ c) (hc2 : c ≤ 9223372036854775807) (hok : wv.okB = true) (hfu : wv.fullB = false) :
  Calls Try.prog 56 #[.slice a xs.length c, .agg #[.slice aK wv.K.length cK, .slice aS wv.S.length cS, .slice aP wv.P.length cP, .slice aD wv.D.length cD]] w (fun e w' => e = .returned (.tuple #[.agg #[.slice none 0 0, .slice none 0 0, .slice none 0 0, .slice none 0 0, .slice none 0 0, .slice none 0 0, .slice none 0 0], .slice none 0 0, .int .i64 2]) ∧ Below w.heap.size w w') := by
 have hsn : wv.S.length ≤ 2 ∨ numB true wv.K wv.S wv.P wv.D = false := by cases hb : numB true wv.K wv.S wv.P wv.D with | false => exact .inr rfl | true => exact .inl (num_iff.1 hb).1.2.1
 have hnum := fun W h1 h2 h3 h4 => convNumbers_any true aK aS aP aD cK cS cP cD wv.K wv.S wv.P wv.D W h1 h2 h3 h4
 rw [hn] at hnum
 have HNUM := Lib.hid hnum
 have hm := h.len
 have hmS := hS.len
 obtain ⟨hR, hr⟩ := win_R hL hg hn hl
 have hr2 := hR.r
 have hx4 := (goodB_iff.1 hg).1
 have hlen2 : xs.length - 2 = wv.L.length := by rw [hL, List.length_drop]
 obtain ⟨b0, o0, rfl, _, _⟩ := h.cell 0 (by omega)
 have hiL := ints_drop h 2
 rw [← hL] at hiL
 have HIL := Lib.hid hiL
 have HOV := Lib.hid (fun W h0 h1 h2 h3 h4 => over_ok (some ⟨b0, o0 + 2, none⟩) aK aK aS aP aD (c - 2) cK cK cS cP cD wv.K wv W h0 h1 h2 h3 h4 hR hok)
 have HFU := Lib.hid (fun aO cO W hW => full_any (some ⟨b0, o0 + 2, none⟩) aK aO aK aS aP aD (c - 2) cK cO cK cS cP cD wv.K wv W hW hR hok)
 rw [hfu] at HFU
 have hwO : ∀ x ∈ wv.O, (Lit.int .i64 x).wf = true := fun x hx => by
  obtain ⟨i, hi, rfl⟩ := List.mem_map.1 hx
  have hi2 := List.mem_range.1 hi
  have := hR.out_pos hi2 (WinV.ok_room hok hi2)
  exact wf_i64_iff.2 ⟨by omega, by omega⟩
 have HWO := Lib.hid hwO
 have hOl := wv.O_len
 have HOL := Lib.hid hOl
 clear hwO hOl
 have F1 := Lib.hid (((Fr.start (w := w) (I := [(.i64, (some ⟨b0, o0, none⟩), xs), (.i64, aK, wv.K), (.i64, aS, wv.S), (.i64, aP, wv.P), (.i64, aD, wv.D), (.i64, (some ⟨b0, o0 + 2, none⟩), wv.L)]) (by intro z hz; simp at hz; rcases hz with rfl | rfl | rfl | rfl | rfl | rfl; exact h; exact hK; exact hS; exact hP; exact hD; exact hiL)).box1 (b := w.heap.size) rfl [.slice aK wv.K.length cK, .slice aS wv.S.length cS, .slice aP wv.P.length cP, .slice aD wv.D.length cD] 28).box1 (b := w.heap.size + 1) (by simp) [.slice none 0 0, .slice none 0 0, .slice none 0 0, .slice none 0 0, .slice none 0 0, .slice none 0 0, .slice none 0 0] 68)
 simp only [List.nil_append, List.cons_append] at F1
 have hs2 : wv.S.length ≤ 2 := by rcases hsn with h9 | h9; exact h9; rw [hn] at h9; cases h9
 clear hsn hnum h hK hS hP hD hn hR hok hg hiL hL hfu
 go_enter Try.func56, Try.ntmps56
 go_upto_region 1 with fail
 obtain ⟨W1, hW1⟩ : ∃ W1, (w.alloc (.cells #[.slice aK wv.K.length cK, .slice aS wv.S.length cS, .slice aP wv.P.length cP, .slice aD wv.D.length cD] 28)).alloc (.cells #[.slice none 0 0, .slice none 0 0, .slice none 0 0, .slice none 0 0, .slice none 0 0, .slice none 0 0, .slice none 0 0] 68) = W1 := ⟨_, rfl⟩
 rw [hW1] at F1 ⊢
 clear hW1
 have c0_0 := F1.out.c 0 0 rfl rfl
 have c0_1 := F1.out.c 0 1 rfl rfl
 have c0_2 := F1.out.c 0 2 rfl rfl
 have c0_3 := F1.out.c 0 3 rfl rfl
 have hr2w : ∀ [Inhabited Unit], RowKit.wrap64 (2 + (wv.S.length : Int)) = 2 + (wv.S.length : Int) := by intro _; exact IntWalk.wrap64_in _ ⟨by omega, by omega⟩
 have hli : (xs.length : Int) = 2 + (wv.S.length : Int) := by omega
 have HLI := Lib.hid hli
 have HLN := Lib.hid hl
 have hd9 : ((xs.length : Int) != 2 + (wv.S.length : Int)) = false := by simp; omega
 clear hli hl
 go_upto_region 3 with (first | (go_at_call 81; refine (HNUM.out _ (F1.out.lw 1 rfl) (F1.out.lw 2 rfl) (F1.out.lw 3 rfl) (F1.out.lw 4 rfl)).mono ?_; rintro e w2 ⟨rfl, hb⟩; have F2 := Lib.hid (F1.out.next hb); clear hb F1 c0_0 c0_1 c0_2 c0_3; have c0_0 := F2.out.c 0 0 rfl rfl; have c0_1 := F2.out.c 0 1 rfl rfl; have c0_2 := F2.out.c 0 2 rfl rfl; have c0_3 := F2.out.c 0 3 rfl rfl) | fail)
 go_upto_region 5 with fail
 have HSLN := Lib.hid hlen2
 clear hlen2 hd9 hr2w c0_0 c0_1 c0_2 c0_3
 obtain ⟨w2, rfl⟩ : ∃ x : World, x = w2 := ⟨_, rfl⟩
 go_cut [7] from 7 to 28 (fun s7 wx => s7 = .bool true ∧ ∃ aO cO, Hid (Fr w.heap.size w wx [(w.heap.size, [.slice aK wv.K.length cK, .slice aS wv.S.length cS, .slice aP wv.P.length cP, .slice aD wv.D.length cD]), (w.heap.size + 1, [.slice (some ⟨b0, o0 + 2, none⟩) wv.L.length (c - 2), .slice aK wv.K.length cK, .slice aO wv.O.length cO, .slice aK wv.K.length cK, .slice aS wv.S.length cS, .slice aP wv.P.length cP, .slice aD wv.D.length cD])] [(.i64, (some ⟨b0, o0, none⟩), xs), (.i64, aK, wv.K), (.i64, aS, wv.S), (.i64, aP, wv.P), (.i64, aD, wv.D), (.i64, (some ⟨b0, o0 + 2, none⟩), wv.L)] [⟨3, .slice aO wv.O.length cO, wv.O.length, wv.O.map (Value.int .i64)⟩] []))
 case first =>
  refine wp_region_parts2 (w := w2) 9 2 (some 8) [] [(fun u _ => u = .slice (some ⟨b0, o0, none⟩) xs.length c), (fun u _ => u = .slice (some ⟨b0, o0 + 2, none⟩) wv.L.length (c - 2)), (fun u _ => u = .pointer (some ⟨w.heap.size, 0, none⟩)), (fun u _ => u = .slice aK wv.K.length cK), (fun u _ => u = .agg #[.slice aK wv.K.length cK, .slice aS wv.S.length cS, .slice aP wv.P.length cP, .slice aD wv.D.length cD]), ((HasRow w2.heap.size wv.O.length (wv.O.map (Value.int .i64)) (fun aO cO => .tuple #[.agg #[.slice (some ⟨b0, o0 + 2, none⟩) wv.L.length (c - 2), .slice aK wv.K.length cK, .slice aO wv.O.length cO, .slice aK wv.K.length cK, .slice aS wv.S.length cS, .slice aP wv.P.length cP, .slice aD wv.D.length cD], .bool true]))), ((HasRow w2.heap.size wv.O.length (wv.O.map (Value.int .i64)) (fun aO cO => .tuple #[.agg #[.slice (some ⟨b0, o0 + 2, none⟩) wv.L.length (c - 2), .slice aK wv.K.length cK, .slice aO wv.O.length cO, .slice aK wv.K.length cK, .slice aS wv.S.length cS, .slice aP wv.P.length cP, .slice aD wv.D.length cD], .bool true]))), ((HasRow w2.heap.size wv.O.length (wv.O.map (Value.int .i64)) (fun aO cO => .agg #[.slice (some ⟨b0, o0 + 2, none⟩) wv.L.length (c - 2), .slice aK wv.K.length cK, .slice aO wv.O.length cO, .slice aK wv.K.length cK, .slice aS wv.S.length cS, .slice aP wv.P.length cP, .slice aD wv.D.length cD]))), (fun u _ => u = .bool true)] [some 21, some 22, some 23, some 24, some 25, some 26, some 20, some 27, some 28, none, some 7] #[true, true, true, true, true, true, true, true, true, false, false] #[true, true, true, true, true, true, true, true, false, false, false] (by kernel_rfl) rfl (by kernel_rfl) (by kernel_rfl) rfl (by kernel_rfl) (by kernel_rfl) (.cons (carries_eq _) (.cons (carries_eq _) (.cons (carries_eq _) (.cons (carries_eq _) (.cons (carries_eq _) (.cons (hasRow_carries _ _ _ _) (.cons (hasRow_carries _ _ _ _) (.cons (hasRow_carries _ _ _ _) (.cons (carries_eq _) .nil))))))))) (fun vs b hvl hvb => ?_)
  obtain ⟨x0, x1, x2, x3, x4, x5, x6, x7, x8, x9, x10, rfl⟩ : ∃ x0 x1 x2 x3 x4 x5 x6 x7 x8 x9 x10, vs = [x0, x1, x2, x3, x4, x5, x6, x7, x8, x9, x10] := lw11 hvl
  clear hvl
  simp only [putAll, Act.put, List.setIfInBounds_toArray, List.set_cons_zero, List.set_cons_succ] at hvb
  subst hvb
  refine ⟨(.snoc (.snoc (.snoc (.snoc (.snoc (.snoc (.snoc (.snoc (.snoc .zero (PartOb.intro (d := (some 21)) (r := fun u _ => u = .slice (some ⟨b0, o0, none⟩) xs.length c) rfl rfl rfl rfl ?po5x0)) (PartOb.intro (d := (some 22)) (r := fun u _ => u = .slice (some ⟨b0, o0 + 2, none⟩) wv.L.length (c - 2)) rfl rfl rfl rfl ?po5x1)) (PartOb.intro (d := (some 23)) (r := fun u _ => u = .pointer (some ⟨w.heap.size, 0, none⟩)) rfl rfl rfl rfl ?po5x2)) (PartOb.intro (d := (some 24)) (r := fun u _ => u = .slice aK wv.K.length cK) rfl rfl rfl rfl ?po5x3)) (PartOb.intro (d := (some 25)) (r := fun u _ => u = .agg #[.slice aK wv.K.length cK, .slice aS wv.S.length cS, .slice aP wv.P.length cP, .slice aD wv.D.length cD]) rfl rfl rfl rfl ?po5x4)) (PartOb.intro (d := (some 26)) (r := (HasRow w2.heap.size wv.O.length (wv.O.map (Value.int .i64)) (fun aO cO => .tuple #[.agg #[.slice (some ⟨b0, o0 + 2, none⟩) wv.L.length (c - 2), .slice aK wv.K.length cK, .slice aO wv.O.length cO, .slice aK wv.K.length cK, .slice aS wv.S.length cS, .slice aP wv.P.length cP, .slice aD wv.D.length cD], .bool true]))) rfl rfl rfl rfl ?po5x5)) (PartOb.intro (d := (some 20)) (r := (HasRow w2.heap.size wv.O.length (wv.O.map (Value.int .i64)) (fun aO cO => .tuple #[.agg #[.slice (some ⟨b0, o0 + 2, none⟩) wv.L.length (c - 2), .slice aK wv.K.length cK, .slice aO wv.O.length cO, .slice aK wv.K.length cK, .slice aS wv.S.length cS, .slice aP wv.P.length cP, .slice aD wv.D.length cD], .bool true]))) rfl rfl rfl rfl ?po5x6)) (PartOb.intro (d := (some 27)) (r := (HasRow w2.heap.size wv.O.length (wv.O.map (Value.int .i64)) (fun aO cO => .agg #[.slice (some ⟨b0, o0 + 2, none⟩) wv.L.length (c - 2), .slice aK wv.K.length cK, .slice aO wv.O.length cO, .slice aK wv.K.length cK, .slice aS wv.S.length cS, .slice aP wv.P.length cP, .slice aD wv.D.length cD]))) rfl rfl rfl rfl ?po5x7)) (PartOb.intro (d := (some 28)) (r := fun u _ => u = .bool true) rfl rfl rfl rfl ?po5x8)), ?pend5, ?pfl5⟩
  case po5x0 =>
   intro w1 hb1 hd KK hK
   clear hd
   simp only [Act.put, List.setIfInBounds_toArray, List.set_cons_zero, List.set_cons_succ] at hK
   go_simp
   first | exact hK.out _ _ (Below.refl _ _) rfl | (have hk := hK.out _ _ (Below.refl _ _) rfl; revert hk; go_simp)
  case po5x1 =>
   intro w1 hb1 hd KK hK
   have d0 : x0 = .slice (some ⟨b0, o0, none⟩) xs.length c := hd 0 (by kernel_rfl)
   clear hd
   subst d0
   have hxx := HSLN.out
   have g1 : (2 : Int) ≤ (xs.length : Int) := by omega
   have g2 : (xs.length : Int) ≤ (c : Int) := by omega
   have g3 : ¬ c = 2 := by omega
   simp only [Act.put, List.setIfInBounds_toArray, List.set_cons_zero, List.set_cons_succ] at hK
   go_simp
   first | exact hK.out _ _ (Below.refl _ _) rfl | (have hk := hK.out _ _ (Below.refl _ _) rfl; revert hk; go_simp)
  case po5x2 =>
   intro w1 hb1 hd KK hK
   clear hd
   simp only [Act.put, List.setIfInBounds_toArray, List.set_cons_zero, List.set_cons_succ] at hK
   go_simp
   first | exact hK.out _ _ (Below.refl _ _) rfl | (have hk := hK.out _ _ (Below.refl _ _) rfl; revert hk; go_simp)
  case po5x3 =>
   intro w1 hb1 hd KK hK
   have d2 : x2 = .pointer (some ⟨w.heap.size, 0, none⟩) := hd 2 (by kernel_rfl)
   clear hd
   subst d2
   have hF := F2.out.next hb1
   have k0 := hF.c 0 0 rfl rfl
   simp only [Act.put, List.setIfInBounds_toArray, List.set_cons_zero, List.set_cons_succ] at hK
   go_simp
   first | exact hK.out _ _ (Below.refl _ _) rfl | (have hk := hK.out _ _ (Below.refl _ _) rfl; revert hk; go_simp)
  case po5x4 =>
   intro w1 hb1 hd KK hK
   clear hd
   have hF := F2.out.next hb1
   have k0 := hF.c 0 0 rfl rfl
   have k1 := hF.c 0 1 rfl rfl
   have k2 := hF.c 0 2 rfl rfl
   have k3 := hF.c 0 3 rfl rfl
   simp only [Act.put, List.setIfInBounds_toArray, List.set_cons_zero, List.set_cons_succ] at hK
   go_simp
   first | exact hK.out _ _ (Below.refl _ _) rfl | (have hk := hK.out _ _ (Below.refl _ _) rfl; revert hk; go_simp)
  case po5x5 =>
   intro w1 hb1 hd KK hK
   have d1 : x1 = .slice (some ⟨b0, o0 + 2, none⟩) wv.L.length (c - 2) := hd 1 (by kernel_rfl)
   have d3 : x3 = .slice aK wv.K.length cK := hd 3 (by kernel_rfl)
   have d4 : x4 = .agg #[.slice aK wv.K.length cK, .slice aS wv.S.length cS, .slice aP wv.P.length cP, .slice aD wv.D.length cD] := hd 4 (by kernel_rfl)
   clear hd
   subst d1
   subst d3
   subst d4
   simp only [Act.put, List.setIfInBounds_toArray, List.set_cons_zero, List.set_cons_succ] at hK
   go_simp
   have hF := F2.out.next hb1
   go_at_call 82
   refine (HOV.out w1 (hF.lw 5 rfl) (hF.lw 1 rfl) (hF.lw 2 rfl) (hF.lw 3 rfl) (hF.lw 4 rfl)).mono ?_
   rintro e w6 ⟨aO, cO, rfl, hf⟩
   (try go_wp2_with fail)
   first | exact hK.out _ _ hf.bel ⟨aO, cO, rfl, own_mono (hf.r 0 rfl) hb1.size⟩ | (have hk := hK.out _ _ hf.bel ⟨aO, cO, rfl, own_mono (hf.r 0 rfl) hb1.size⟩; revert hk; go_simp)
  case po5x6 =>
   intro w1 hb1 hd KK hK
   have d5 : (HasRow w2.heap.size wv.O.length (wv.O.map (Value.int .i64)) (fun aO cO => .tuple #[.agg #[.slice (some ⟨b0, o0 + 2, none⟩) wv.L.length (c - 2), .slice aK wv.K.length cK, .slice aO wv.O.length cO, .slice aK wv.K.length cK, .slice aS wv.S.length cS, .slice aP wv.P.length cP, .slice aD wv.D.length cD], .bool true])) x5 w1 := hd 5 (by kernel_rfl)
   clear hd
   obtain ⟨a5_, c5_, rfl, hO5⟩ := d5
   simp only [Act.put, List.setIfInBounds_toArray, List.set_cons_zero, List.set_cons_succ] at hK
   go_simp
   first | exact hK.out _ _ (Below.refl _ _) ⟨_, _, rfl, hO5⟩ | (have hk := hK.out _ _ (Below.refl _ _) ⟨_, _, rfl, hO5⟩; revert hk; go_simp)
  case po5x7 =>
   intro w1 hb1 hd KK hK
   have d6 : (HasRow w2.heap.size wv.O.length (wv.O.map (Value.int .i64)) (fun aO cO => .tuple #[.agg #[.slice (some ⟨b0, o0 + 2, none⟩) wv.L.length (c - 2), .slice aK wv.K.length cK, .slice aO wv.O.length cO, .slice aK wv.K.length cK, .slice aS wv.S.length cS, .slice aP wv.P.length cP, .slice aD wv.D.length cD], .bool true])) x6 w1 := hd 6 (by kernel_rfl)
   clear hd
   obtain ⟨a6_, c6_, rfl, hO6⟩ := d6
   simp only [Act.put, List.setIfInBounds_toArray, List.set_cons_zero, List.set_cons_succ] at hK
   go_simp
   first | exact hK.out _ _ (Below.refl _ _) ⟨_, _, rfl, hO6⟩ | (have hk := hK.out _ _ (Below.refl _ _) ⟨_, _, rfl, hO6⟩; revert hk; go_simp)
  case po5x8 =>
   intro w1 hb1 hd KK hK
   have d6 : (HasRow w2.heap.size wv.O.length (wv.O.map (Value.int .i64)) (fun aO cO => .tuple #[.agg #[.slice (some ⟨b0, o0 + 2, none⟩) wv.L.length (c - 2), .slice aK wv.K.length cK, .slice aO wv.O.length cO, .slice aK wv.K.length cK, .slice aS wv.S.length cS, .slice aP wv.P.length cP, .slice aD wv.D.length cD], .bool true])) x6 w1 := hd 6 (by kernel_rfl)
   clear hd
   obtain ⟨a6_, c6_, rfl, hO6⟩ := d6
   simp only [Act.put, List.setIfInBounds_toArray, List.set_cons_zero, List.set_cons_succ] at hK
   go_simp
   first | exact hK.out _ _ (Below.refl _ _) rfl | (have hk := hK.out _ _ (Below.refl _ _) rfl; revert hk; go_simp)
  case pend5 =>
   intro w1 hb1 hR hD
   have d0 : x0 = .slice (some ⟨b0, o0, none⟩) xs.length c := hR 0 (by decide)
   have d1 : x1 = .slice (some ⟨b0, o0 + 2, none⟩) wv.L.length (c - 2) := hR 1 (by decide)
   have d2 : x2 = .pointer (some ⟨w.heap.size, 0, none⟩) := hR 2 (by decide)
   have d3 : x3 = .slice aK wv.K.length cK := hR 3 (by decide)
   have d4 : x4 = .agg #[.slice aK wv.K.length cK, .slice aS wv.S.length cS, .slice aP wv.P.length cP, .slice aD wv.D.length cD] := hR 4 (by decide)
   have d5 : (HasRow w2.heap.size wv.O.length (wv.O.map (Value.int .i64)) (fun aO cO => .tuple #[.agg #[.slice (some ⟨b0, o0 + 2, none⟩) wv.L.length (c - 2), .slice aK wv.K.length cK, .slice aO wv.O.length cO, .slice aK wv.K.length cK, .slice aS wv.S.length cS, .slice aP wv.P.length cP, .slice aD wv.D.length cD], .bool true])) x5 w1 := hR 5 (by decide)
   have d6 : (HasRow w2.heap.size wv.O.length (wv.O.map (Value.int .i64)) (fun aO cO => .tuple #[.agg #[.slice (some ⟨b0, o0 + 2, none⟩) wv.L.length (c - 2), .slice aK wv.K.length cK, .slice aO wv.O.length cO, .slice aK wv.K.length cK, .slice aS wv.S.length cS, .slice aP wv.P.length cP, .slice aD wv.D.length cD], .bool true])) x6 w1 := hR 6 (by decide)
   have d7 : (HasRow w2.heap.size wv.O.length (wv.O.map (Value.int .i64)) (fun aO cO => .agg #[.slice (some ⟨b0, o0 + 2, none⟩) wv.L.length (c - 2), .slice aK wv.K.length cK, .slice aO wv.O.length cO, .slice aK wv.K.length cK, .slice aS wv.S.length cS, .slice aP wv.P.length cP, .slice aD wv.D.length cD])) x7 w1 := hR 7 (by decide)
   have d8 : x8 = .bool true := hR 8 (by decide)
   clear hR hD
   subst d0
   subst d1
   subst d2
   subst d3
   subst d4
   obtain ⟨a5_, c5_, rfl, hO5⟩ := d5
   obtain ⟨a6_, c6_, rfl, hO6⟩ := d6
   obtain ⟨a7_, c7_, rfl, hO7⟩ := d7
   subst d8
   refine wpAny_ready (rs := [9]) (by kernel_rfl) (by simp) (AllReady.cons rfl (fun KK hK => ?_) AllReady.nil)
   have F6 := F2.out.addO hb1 hO7
   simp only [List.nil_append, List.cons_append] at F6
   skip
   have q0 := F6.c 1 0 rfl rfl
   have q1 := F6.c 1 1 rfl rfl
   have q2 := F6.c 1 2 rfl rfl
   have q3 := F6.c 1 3 rfl rfl
   have q4 := F6.c 1 4 rfl rfl
   have q5 := F6.c 1 5 rfl rfl
   have q6 := F6.c 1 6 rfl rfl
   have qf0 := F6.f 1 0 rfl rfl
   have qf1 := F6.f 1 1 rfl rfl
   have qf2 := F6.f 1 2 rfl rfl
   have qf3 := F6.f 1 3 rfl rfl
   have qf4 := F6.f 1 4 rfl rfl
   have qf5 := F6.f 1 5 rfl rfl
   have qf6 := F6.f 1 6 rfl rfl
   go_simp
   refine hK _ _ ?_
   clear hK KK
   try simp only [putAll, Act.put, List.setIfInBounds_toArray, List.set_cons_zero, List.set_cons_succ]
   refine wpAny_ready (rs := [10]) (by kernel_rfl) (by simp) (AllReady.cons rfl (fun KK hK => ?_) AllReady.nil)
   go_simp
   refine hK _ _ ?_
   clear hK KK
   try simp only [putAll, Act.put, List.setIfInBounds_toArray, List.set_cons_zero, List.set_cons_succ]
   refine wpAny_done (by kernel_rfl) ?_ _
   have F7 := Lib.hid (F6.set 1 rfl (by simp) [.slice (some ⟨b0, o0 + 2, none⟩) wv.L.length (c - 2), .slice aK wv.K.length cK, .slice a7_ wv.O.length c7_, .slice aK wv.K.length cK, .slice aS wv.S.length cS, .slice aP wv.P.length cP, .slice aD wv.D.length cD] rfl)
   simp only [setL, Nat.reduceAdd, List.set_cons_zero, List.set_cons_succ] at F7
   go_wp2
   go_meet
   exact ⟨rfl, a7_, c7_, F7⟩
  case pfl5 =>
   intro f hf hfn w1 hb1 hR hD
   injection hf with hf
   subst hf
   have d0 : x0 = .slice (some ⟨b0, o0, none⟩) xs.length c := hR 0 (by decide) (by decide)
   have d1 : x1 = .slice (some ⟨b0, o0 + 2, none⟩) wv.L.length (c - 2) := hR 1 (by decide) (by decide)
   have d2 : x2 = .pointer (some ⟨w.heap.size, 0, none⟩) := hR 2 (by decide) (by decide)
   have d3 : x3 = .slice aK wv.K.length cK := hR 3 (by decide) (by decide)
   have d4 : x4 = .agg #[.slice aK wv.K.length cK, .slice aS wv.S.length cS, .slice aP wv.P.length cP, .slice aD wv.D.length cD] := hR 4 (by decide) (by decide)
   have d5 : (HasRow w2.heap.size wv.O.length (wv.O.map (Value.int .i64)) (fun aO cO => .tuple #[.agg #[.slice (some ⟨b0, o0 + 2, none⟩) wv.L.length (c - 2), .slice aK wv.K.length cK, .slice aO wv.O.length cO, .slice aK wv.K.length cK, .slice aS wv.S.length cS, .slice aP wv.P.length cP, .slice aD wv.D.length cD], .bool true])) x5 w1 := hR 5 (by decide) (by decide)
   have d6 : (HasRow w2.heap.size wv.O.length (wv.O.map (Value.int .i64)) (fun aO cO => .tuple #[.agg #[.slice (some ⟨b0, o0 + 2, none⟩) wv.L.length (c - 2), .slice aK wv.K.length cK, .slice aO wv.O.length cO, .slice aK wv.K.length cK, .slice aS wv.S.length cS, .slice aP wv.P.length cP, .slice aD wv.D.length cD], .bool true])) x6 w1 := hR 6 (by decide) (by decide)
   have d7 : (HasRow w2.heap.size wv.O.length (wv.O.map (Value.int .i64)) (fun aO cO => .agg #[.slice (some ⟨b0, o0 + 2, none⟩) wv.L.length (c - 2), .slice aK wv.K.length cK, .slice aO wv.O.length cO, .slice aK wv.K.length cK, .slice aS wv.S.length cS, .slice aP wv.P.length cP, .slice aD wv.D.length cD])) x7 w1 := hR 7 (by decide) (by decide)
   clear hR hD
   subst d0
   subst d1
   subst d2
   subst d3
   subst d4
   obtain ⟨a5_, c5_, rfl, hO5⟩ := d5
   obtain ⟨a6_, c6_, rfl, hO6⟩ := d6
   obtain ⟨a7_, c7_, rfl, hO7⟩ := d7
   refine wpAny_take (i := 8) (v := .bool true) rfl (by kernel_rfl) (by kernel_rfl) (by kernel_rfl) (fun _ _ _ h => h) (.inl ⟨by rfl, fun w => by go_simp⟩) ?_
   try simp only [putAll, Act.put, List.setIfInBounds_toArray, List.set_cons_zero, List.set_cons_succ]
   refine wpAny_ready (rs := [9]) (by kernel_rfl) (by simp) (AllReady.cons rfl (fun KK hK => ?_) AllReady.nil)
   have F6 := F2.out.addO hb1 hO7
   simp only [List.nil_append, List.cons_append] at F6
   skip
   have q0 := F6.c 1 0 rfl rfl
   have q1 := F6.c 1 1 rfl rfl
   have q2 := F6.c 1 2 rfl rfl
   have q3 := F6.c 1 3 rfl rfl
   have q4 := F6.c 1 4 rfl rfl
   have q5 := F6.c 1 5 rfl rfl
   have q6 := F6.c 1 6 rfl rfl
   have qf0 := F6.f 1 0 rfl rfl
   have qf1 := F6.f 1 1 rfl rfl
   have qf2 := F6.f 1 2 rfl rfl
   have qf3 := F6.f 1 3 rfl rfl
   have qf4 := F6.f 1 4 rfl rfl
   have qf5 := F6.f 1 5 rfl rfl
   have qf6 := F6.f 1 6 rfl rfl
   go_simp
   refine hK _ _ ?_
   clear hK KK
   try simp only [putAll, Act.put, List.setIfInBounds_toArray, List.set_cons_zero, List.set_cons_succ]
   refine wpAny_ready (rs := [10]) (by kernel_rfl) (by simp) (AllReady.cons rfl (fun KK hK => ?_) AllReady.nil)
   go_simp
   refine hK _ _ ?_
   clear hK KK
   try simp only [putAll, Act.put, List.setIfInBounds_toArray, List.set_cons_zero, List.set_cons_succ]
   refine wpAny_done (by kernel_rfl) ?_ _
   have F7 := Lib.hid (F6.set 1 rfl (by simp) [.slice (some ⟨b0, o0 + 2, none⟩) wv.L.length (c - 2), .slice aK wv.K.length cK, .slice a7_ wv.O.length c7_, .slice aK wv.K.length cK, .slice aS wv.S.length cS, .slice aP wv.P.length cP, .slice aD wv.D.length cD] rfl)
   simp only [setL, Nat.reduceAdd, List.set_cons_zero, List.set_cons_succ] at F7
   go_wp2
   go_meet
   exact ⟨rfl, a7_, c7_, F7⟩
 case rest =>
  obtain ⟨rfl, aO, cO, F7⟩ := hcut
  clear F2
  obtain ⟨W7, rfl⟩ : ∃ x : World, x = wc := ⟨_, rfl⟩
  have d1_0 := F7.out.c 1 0 rfl rfl
  have d1_1 := F7.out.c 1 1 rfl rfl
  have d1_2 := F7.out.c 1 2 rfl rfl
  have d1_3 := F7.out.c 1 3 rfl rfl
  have d1_4 := F7.out.c 1 4 rfl rfl
  have d1_5 := F7.out.c 1 5 rfl rfl
  have d1_6 := F7.out.c 1 6 rfl rfl
  have df1_0 := F7.out.f 1 0 rfl rfl
  have df1_1 := F7.out.f 1 1 rfl rfl
  have df1_2 := F7.out.f 1 2 rfl rfl
  have df1_3 := F7.out.f 1 3 rfl rfl
  have df1_4 := F7.out.f 1 4 rfl rfl
  have df1_5 := F7.out.f 1 5 rfl rfl
  have df1_6 := F7.out.f 1 6 rfl rfl
  go_wp2_with (first | (go_at_call 83; refine (HFU.out aO cO _ ⟨F7.out.lw 5 rfl, F7.out.lw 1 rfl, F7.out.li 0 (k := .i64) (xs := wv.O) rfl HWO.out, F7.out.lw 2 rfl, F7.out.lw 3 rfl, F7.out.lw 4 rfl⟩).mono ?_; rintro e w8 ⟨rfl, hb⟩; have F8 := Lib.hid (F7.out.next hb); clear hb F7 d1_0 d1_1 d1_2 d1_3 d1_4 d1_5 d1_6 df1_0 df1_1 df1_2 df1_3 df1_4 df1_5 df1_6; have d1_0 := F8.out.c 1 0 rfl rfl; have d1_1 := F8.out.c 1 1 rfl rfl; have d1_2 := F8.out.c 1 2 rfl rfl; have d1_3 := F8.out.c 1 3 rfl rfl; have d1_4 := F8.out.c 1 4 rfl rfl; have d1_5 := F8.out.c 1 5 rfl rfl; have d1_6 := F8.out.c 1 6 rfl rfl; have df1_0 := F8.out.f 1 0 rfl rfl; have df1_1 := F8.out.f 1 1 rfl rfl; have df1_2 := F8.out.f 1 2 rfl rfl; have df1_3 := F8.out.f 1 3 rfl rfl; have df1_4 := F8.out.f 1 4 rfl rfl; have df1_5 := F8.out.f 1 5 rfl rfl; have df1_6 := F8.out.f 1 6 rfl rfl) | fail)
  have FZ := F8.out.set 1 rfl (by simp) [.slice none 0 0, .slice none 0 0, .slice none 0 0, .slice none 0 0, .slice none 0 0, .slice none 0 0, .slice none 0 0] rfl
  simp only [setL, Nat.reduceAdd, List.set_cons_zero, List.set_cons_succ] at FZ
  have y0 := FZ.c 1 0 rfl rfl
  have y1 := FZ.c 1 1 rfl rfl
  have y2 := FZ.c 1 2 rfl rfl
  have y3 := FZ.c 1 3 rfl rfl
  have y4 := FZ.c 1 4 rfl rfl
  have y5 := FZ.c 1 5 rfl rfl
  have y6 := FZ.c 1 6 rfl rfl
  refine bodyPost_ret (v := .tuple #[.agg #[.slice none 0 0, .slice none 0 0, .slice none 0 0, .slice none 0 0, .slice none 0 0, .slice none 0 0, .slice none 0 0], .slice none 0 0, .int .i64 2]) ?_ rfl ⟨rfl, FZ.bel⟩
  rw [results_ctt rfl]
  go_simp
set_option maxRecDepth 100000 in
set_option maxHeartbeats 2000000 in
theorem out_bud (a : Option Addr) (c : Nat) (xs : List Int) (aK aS aP aD : Option Addr) (cK cS cP cD : Nat) (wv : WinV) (w : World) (h : Ints .i64 w w.heap.size a xs) (hK : Ints .i64 w w.heap.size aK wv.K) (hS : Ints .i64 w w.heap.size aS wv.S) (hP : Ints .i64 w w.heap.size aP wv.P) (hD : Ints .i64 w w.heap.size aD wv.D) (hn : numB true wv.K wv.S wv.P wv.D = true) (hl : xs.length = 2 + wv.S.length) (hL : wv.L = xs.drop 2) (hg : goodB xs = true) (hc1 : xs.length ≤ c) (hc2 : c ≤ 9223372036854775807) (hok : wv.okB = true) (hfu : wv.fullB = true) (hgs : goodB (poS xs wv) = false) :
  Calls Try.prog 56 #[.slice a xs.length c, .agg #[.slice aK wv.K.length cK, .slice aS wv.S.length cS, .slice aP wv.P.length cP, .slice aD wv.D.length cD]] w (fun e w' => e = .returned (.tuple #[.agg #[.slice none 0 0, .slice none 0 0, .slice none 0 0, .slice none 0 0, .slice none 0 0, .slice none 0 0, .slice none 0 0], .slice none 0 0, .int .i64 5]) ∧ Below w.heap.size w w') := by
 have hsn : wv.S.length ≤ 2 ∨ numB true wv.K wv.S wv.P wv.D = false := by cases hb : numB true wv.K wv.S wv.P wv.D with | false => exact .inr rfl | true => exact .inl (num_iff.1 hb).1.2.1
 have hnum := fun W h1 h2 h3 h4 => convNumbers_any true aK aS aP aD cK cS cP cD wv.K wv.S wv.P wv.D W h1 h2 h3 h4
 rw [hn] at hnum
 have HNUM := Lib.hid hnum
 have hm := h.len
 have hmS := hS.len
 obtain ⟨hR, hr⟩ := win_R hL hg hn hl
 have hr2 := hR.r
 have hx4 := (goodB_iff.1 hg).1
 have hlen2 : xs.length - 2 = wv.L.length := by rw [hL, List.length_drop]
 obtain ⟨b0, o0, rfl, _, _⟩ := h.cell 0 (by omega)
 have hiL := ints_drop h 2
 rw [← hL] at hiL
 have HIL := Lib.hid hiL
 have HOV := Lib.hid (fun W h0 h1 h2 h3 h4 => over_ok (some ⟨b0, o0 + 2, none⟩) aK aK aS aP aD (c - 2) cK cK cS cP cD wv.K wv W h0 h1 h2 h3 h4 hR hok)
 have HFU := Lib.hid (fun aO cO W hW => full_any (some ⟨b0, o0 + 2, none⟩) aK aO aK aS aP aD (c - 2) cK cO cK cS cP cD wv.K wv W hW hR hok)
 rw [hfu] at HFU
 have hwO : ∀ x ∈ wv.O, (Lit.int .i64 x).wf = true := fun x hx => by
  obtain ⟨i, hi, rfl⟩ := List.mem_map.1 hx
  have hi2 := List.mem_range.1 hi
  have := hR.out_pos hi2 (WinV.ok_room hok hi2)
  exact wf_i64_iff.2 ⟨by omega, by omega⟩
 have HWO := Lib.hid hwO
 have hOl := wv.O_len
 have HOL := Lib.hid hOl
 clear hwO hOl
 obtain ⟨S, hSe⟩ : ∃ s, poS xs wv = s := ⟨_, rfl⟩
 have hSd : S = [xs[0]?.getD 0, xs[1]?.getD 0] ++ wv.O := by rw [← hSe]; rfl
 rw [hSe] at hgs
 have HGD := Lib.hid (fun (a9 : Option Addr) (c9 : Nat) W h => good_any a9 c9 (World.heap W).size S W h)
 rw [hgs] at HGD
 have hSwf : ∀ x ∈ S, (Lit.int .i64 x).wf = true := fun x hx => by
  rw [hSd] at hx
  rcases List.mem_append.1 hx with hx | hx
  ·have h0 := goodB_dims hg _ (getD_mem (show 0 < xs.length by omega))
   have h1 := goodB_dims hg _ (getD_mem (show 1 < xs.length by omega))
   simp at hx
   rcases hx with rfl | rfl <;> exact wf_i64_iff.2 ⟨by omega, by omega⟩
  ·exact HWO.out x hx
 have HSWF := Lib.hid hSwf
 have HSD := Lib.hid hSd
 have hSl : 2 + wv.O.length = S.length := by rw [hSd]; simp; omega
 have HSL := Lib.hid hSl
 clear hSe hgs hSd hSwf hSl
 have F1 := Lib.hid (((Fr.start (w := w) (I := [(.i64, (some ⟨b0, o0, none⟩), xs), (.i64, aK, wv.K), (.i64, aS, wv.S), (.i64, aP, wv.P), (.i64, aD, wv.D), (.i64, (some ⟨b0, o0 + 2, none⟩), wv.L)]) (by intro z hz; simp at hz; rcases hz with rfl | rfl | rfl | rfl | rfl | rfl; exact h; exact hK; exact hS; exact hP; exact hD; exact hiL)).box1 (b := w.heap.size) rfl [.slice aK wv.K.length cK, .slice aS wv.S.length cS, .slice aP wv.P.length cP, .slice aD wv.D.length cD] 28).box1 (b := w.heap.size + 1) (by simp) [.slice none 0 0, .slice none 0 0, .slice none 0 0, .slice none 0 0, .slice none 0 0, .slice none 0 0, .slice none 0 0] 68)
 simp only [List.nil_append, List.cons_append] at F1
 have hs2 : wv.S.length ≤ 2 := by rcases hsn with h9 | h9; exact h9; rw [hn] at h9; cases h9
 clear hsn hnum h hK hS hP hD hn hR hok hg hiL hL hfu
 go_enter Try.func56, Try.ntmps56
 go_upto_region 1 with fail
 obtain ⟨W1, hW1⟩ : ∃ W1, (w.alloc (.cells #[.slice aK wv.K.length cK, .slice aS wv.S.length cS, .slice aP wv.P.length cP, .slice aD wv.D.length cD] 28)).alloc (.cells #[.slice none 0 0, .slice none 0 0, .slice none 0 0, .slice none 0 0, .slice none 0 0, .slice none 0 0, .slice none 0 0] 68) = W1 := ⟨_, rfl⟩
 rw [hW1] at F1 ⊢
 clear hW1
 have c0_0 := F1.out.c 0 0 rfl rfl
 have c0_1 := F1.out.c 0 1 rfl rfl
 have c0_2 := F1.out.c 0 2 rfl rfl
 have c0_3 := F1.out.c 0 3 rfl rfl
 have hr2w : ∀ [Inhabited Unit], RowKit.wrap64 (2 + (wv.S.length : Int)) = 2 + (wv.S.length : Int) := by intro _; exact IntWalk.wrap64_in _ ⟨by omega, by omega⟩
 have hli : (xs.length : Int) = 2 + (wv.S.length : Int) := by omega
 have HLI := Lib.hid hli
 have HLN := Lib.hid hl
 have hd9 : ((xs.length : Int) != 2 + (wv.S.length : Int)) = false := by simp; omega
 clear hli hl
 go_upto_region 3 with (first | (go_at_call 81; refine (HNUM.out _ (F1.out.lw 1 rfl) (F1.out.lw 2 rfl) (F1.out.lw 3 rfl) (F1.out.lw 4 rfl)).mono ?_; rintro e w2 ⟨rfl, hb⟩; have F2 := Lib.hid (F1.out.next hb); clear hb F1 c0_0 c0_1 c0_2 c0_3; have c0_0 := F2.out.c 0 0 rfl rfl; have c0_1 := F2.out.c 0 1 rfl rfl; have c0_2 := F2.out.c 0 2 rfl rfl; have c0_3 := F2.out.c 0 3 rfl rfl) | fail)
 go_upto_region 5 with fail
 have HSLN := Lib.hid hlen2
 clear hlen2 hd9 hr2w c0_0 c0_1 c0_2 c0_3
 obtain ⟨w2, rfl⟩ : ∃ x : World, x = w2 := ⟨_, rfl⟩
 go_cut [7] from 7 to 28 (fun s7 wx => s7 = .bool true ∧ ∃ aO cO, Hid (Fr w.heap.size w wx [(w.heap.size, [.slice aK wv.K.length cK, .slice aS wv.S.length cS, .slice aP wv.P.length cP, .slice aD wv.D.length cD]), (w.heap.size + 1, [.slice (some ⟨b0, o0 + 2, none⟩) wv.L.length (c - 2), .slice aK wv.K.length cK, .slice aO wv.O.length cO, .slice aK wv.K.length cK, .slice aS wv.S.length cS, .slice aP wv.P.length cP, .slice aD wv.D.length cD])] [(.i64, (some ⟨b0, o0, none⟩), xs), (.i64, aK, wv.K), (.i64, aS, wv.S), (.i64, aP, wv.P), (.i64, aD, wv.D), (.i64, (some ⟨b0, o0 + 2, none⟩), wv.L)] [⟨3, .slice aO wv.O.length cO, wv.O.length, wv.O.map (Value.int .i64)⟩] []))
 case first =>
  refine wp_region_parts2 (w := w2) 9 2 (some 8) [] [(fun u _ => u = .slice (some ⟨b0, o0, none⟩) xs.length c), (fun u _ => u = .slice (some ⟨b0, o0 + 2, none⟩) wv.L.length (c - 2)), (fun u _ => u = .pointer (some ⟨w.heap.size, 0, none⟩)), (fun u _ => u = .slice aK wv.K.length cK), (fun u _ => u = .agg #[.slice aK wv.K.length cK, .slice aS wv.S.length cS, .slice aP wv.P.length cP, .slice aD wv.D.length cD]), ((HasRow w2.heap.size wv.O.length (wv.O.map (Value.int .i64)) (fun aO cO => .tuple #[.agg #[.slice (some ⟨b0, o0 + 2, none⟩) wv.L.length (c - 2), .slice aK wv.K.length cK, .slice aO wv.O.length cO, .slice aK wv.K.length cK, .slice aS wv.S.length cS, .slice aP wv.P.length cP, .slice aD wv.D.length cD], .bool true]))), ((HasRow w2.heap.size wv.O.length (wv.O.map (Value.int .i64)) (fun aO cO => .tuple #[.agg #[.slice (some ⟨b0, o0 + 2, none⟩) wv.L.length (c - 2), .slice aK wv.K.length cK, .slice aO wv.O.length cO, .slice aK wv.K.length cK, .slice aS wv.S.length cS, .slice aP wv.P.length cP, .slice aD wv.D.length cD], .bool true]))), ((HasRow w2.heap.size wv.O.length (wv.O.map (Value.int .i64)) (fun aO cO => .agg #[.slice (some ⟨b0, o0 + 2, none⟩) wv.L.length (c - 2), .slice aK wv.K.length cK, .slice aO wv.O.length cO, .slice aK wv.K.length cK, .slice aS wv.S.length cS, .slice aP wv.P.length cP, .slice aD wv.D.length cD]))), (fun u _ => u = .bool true)] [some 21, some 22, some 23, some 24, some 25, some 26, some 20, some 27, some 28, none, some 7] #[true, true, true, true, true, true, true, true, true, false, false] #[true, true, true, true, true, true, true, true, false, false, false] (by kernel_rfl) rfl (by kernel_rfl) (by kernel_rfl) rfl (by kernel_rfl) (by kernel_rfl) (.cons (carries_eq _) (.cons (carries_eq _) (.cons (carries_eq _) (.cons (carries_eq _) (.cons (carries_eq _) (.cons (hasRow_carries _ _ _ _) (.cons (hasRow_carries _ _ _ _) (.cons (hasRow_carries _ _ _ _) (.cons (carries_eq _) .nil))))))))) (fun vs b hvl hvb => ?_)
  obtain ⟨x0, x1, x2, x3, x4, x5, x6, x7, x8, x9, x10, rfl⟩ : ∃ x0 x1 x2 x3 x4 x5 x6 x7 x8 x9 x10, vs = [x0, x1, x2, x3, x4, x5, x6, x7, x8, x9, x10] := lw11 hvl
  clear hvl
  simp only [putAll, Act.put, List.setIfInBounds_toArray, List.set_cons_zero, List.set_cons_succ] at hvb
  subst hvb
  refine ⟨(.snoc (.snoc (.snoc (.snoc (.snoc (.snoc (.snoc (.snoc (.snoc .zero (PartOb.intro (d := (some 21)) (r := fun u _ => u = .slice (some ⟨b0, o0, none⟩) xs.length c) rfl rfl rfl rfl ?po5x0)) (PartOb.intro (d := (some 22)) (r := fun u _ => u = .slice (some ⟨b0, o0 + 2, none⟩) wv.L.length (c - 2)) rfl rfl rfl rfl ?po5x1)) (PartOb.intro (d := (some 23)) (r := fun u _ => u = .pointer (some ⟨w.heap.size, 0, none⟩)) rfl rfl rfl rfl ?po5x2)) (PartOb.intro (d := (some 24)) (r := fun u _ => u = .slice aK wv.K.length cK) rfl rfl rfl rfl ?po5x3)) (PartOb.intro (d := (some 25)) (r := fun u _ => u = .agg #[.slice aK wv.K.length cK, .slice aS wv.S.length cS, .slice aP wv.P.length cP, .slice aD wv.D.length cD]) rfl rfl rfl rfl ?po5x4)) (PartOb.intro (d := (some 26)) (r := (HasRow w2.heap.size wv.O.length (wv.O.map (Value.int .i64)) (fun aO cO => .tuple #[.agg #[.slice (some ⟨b0, o0 + 2, none⟩) wv.L.length (c - 2), .slice aK wv.K.length cK, .slice aO wv.O.length cO, .slice aK wv.K.length cK, .slice aS wv.S.length cS, .slice aP wv.P.length cP, .slice aD wv.D.length cD], .bool true]))) rfl rfl rfl rfl ?po5x5)) (PartOb.intro (d := (some 20)) (r := (HasRow w2.heap.size wv.O.length (wv.O.map (Value.int .i64)) (fun aO cO => .tuple #[.agg #[.slice (some ⟨b0, o0 + 2, none⟩) wv.L.length (c - 2), .slice aK wv.K.length cK, .slice aO wv.O.length cO, .slice aK wv.K.length cK, .slice aS wv.S.length cS, .slice aP wv.P.length cP, .slice aD wv.D.length cD], .bool true]))) rfl rfl rfl rfl ?po5x6)) (PartOb.intro (d := (some 27)) (r := (HasRow w2.heap.size wv.O.length (wv.O.map (Value.int .i64)) (fun aO cO => .agg #[.slice (some ⟨b0, o0 + 2, none⟩) wv.L.length (c - 2), .slice aK wv.K.length cK, .slice aO wv.O.length cO, .slice aK wv.K.length cK, .slice aS wv.S.length cS, .slice aP wv.P.length cP, .slice aD wv.D.length cD]))) rfl rfl rfl rfl ?po5x7)) (PartOb.intro (d := (some 28)) (r := fun u _ => u = .bool true) rfl rfl rfl rfl ?po5x8)), ?pend5, ?pfl5⟩
  case po5x0 =>
   intro w1 hb1 hd KK hK
   clear hd
   simp only [Act.put, List.setIfInBounds_toArray, List.set_cons_zero, List.set_cons_succ] at hK
   go_simp
   first | exact hK.out _ _ (Below.refl _ _) rfl | (have hk := hK.out _ _ (Below.refl _ _) rfl; revert hk; go_simp)
  case po5x1 =>
   intro w1 hb1 hd KK hK
   have d0 : x0 = .slice (some ⟨b0, o0, none⟩) xs.length c := hd 0 (by kernel_rfl)
   clear hd
   subst d0
   have hxx := HSLN.out
   have g1 : (2 : Int) ≤ (xs.length : Int) := by omega
   have g2 : (xs.length : Int) ≤ (c : Int) := by omega
   have g3 : ¬ c = 2 := by omega
   simp only [Act.put, List.setIfInBounds_toArray, List.set_cons_zero, List.set_cons_succ] at hK
   go_simp
   first | exact hK.out _ _ (Below.refl _ _) rfl | (have hk := hK.out _ _ (Below.refl _ _) rfl; revert hk; go_simp)
  case po5x2 =>
   intro w1 hb1 hd KK hK
   clear hd
   simp only [Act.put, List.setIfInBounds_toArray, List.set_cons_zero, List.set_cons_succ] at hK
   go_simp
   first | exact hK.out _ _ (Below.refl _ _) rfl | (have hk := hK.out _ _ (Below.refl _ _) rfl; revert hk; go_simp)
  case po5x3 =>
   intro w1 hb1 hd KK hK
   have d2 : x2 = .pointer (some ⟨w.heap.size, 0, none⟩) := hd 2 (by kernel_rfl)
   clear hd
   subst d2
   have hF := F2.out.next hb1
   have k0 := hF.c 0 0 rfl rfl
   simp only [Act.put, List.setIfInBounds_toArray, List.set_cons_zero, List.set_cons_succ] at hK
   go_simp
   first | exact hK.out _ _ (Below.refl _ _) rfl | (have hk := hK.out _ _ (Below.refl _ _) rfl; revert hk; go_simp)
  case po5x4 =>
   intro w1 hb1 hd KK hK
   clear hd
   have hF := F2.out.next hb1
   have k0 := hF.c 0 0 rfl rfl
   have k1 := hF.c 0 1 rfl rfl
   have k2 := hF.c 0 2 rfl rfl
   have k3 := hF.c 0 3 rfl rfl
   simp only [Act.put, List.setIfInBounds_toArray, List.set_cons_zero, List.set_cons_succ] at hK
   go_simp
   first | exact hK.out _ _ (Below.refl _ _) rfl | (have hk := hK.out _ _ (Below.refl _ _) rfl; revert hk; go_simp)
  case po5x5 =>
   intro w1 hb1 hd KK hK
   have d1 : x1 = .slice (some ⟨b0, o0 + 2, none⟩) wv.L.length (c - 2) := hd 1 (by kernel_rfl)
   have d3 : x3 = .slice aK wv.K.length cK := hd 3 (by kernel_rfl)
   have d4 : x4 = .agg #[.slice aK wv.K.length cK, .slice aS wv.S.length cS, .slice aP wv.P.length cP, .slice aD wv.D.length cD] := hd 4 (by kernel_rfl)
   clear hd
   subst d1
   subst d3
   subst d4
   simp only [Act.put, List.setIfInBounds_toArray, List.set_cons_zero, List.set_cons_succ] at hK
   go_simp
   have hF := F2.out.next hb1
   go_at_call 82
   refine (HOV.out w1 (hF.lw 5 rfl) (hF.lw 1 rfl) (hF.lw 2 rfl) (hF.lw 3 rfl) (hF.lw 4 rfl)).mono ?_
   rintro e w6 ⟨aO, cO, rfl, hf⟩
   (try go_wp2_with fail)
   first | exact hK.out _ _ hf.bel ⟨aO, cO, rfl, own_mono (hf.r 0 rfl) hb1.size⟩ | (have hk := hK.out _ _ hf.bel ⟨aO, cO, rfl, own_mono (hf.r 0 rfl) hb1.size⟩; revert hk; go_simp)
  case po5x6 =>
   intro w1 hb1 hd KK hK
   have d5 : (HasRow w2.heap.size wv.O.length (wv.O.map (Value.int .i64)) (fun aO cO => .tuple #[.agg #[.slice (some ⟨b0, o0 + 2, none⟩) wv.L.length (c - 2), .slice aK wv.K.length cK, .slice aO wv.O.length cO, .slice aK wv.K.length cK, .slice aS wv.S.length cS, .slice aP wv.P.length cP, .slice aD wv.D.length cD], .bool true])) x5 w1 := hd 5 (by kernel_rfl)
   clear hd
   obtain ⟨a5_, c5_, rfl, hO5⟩ := d5
   simp only [Act.put, List.setIfInBounds_toArray, List.set_cons_zero, List.set_cons_succ] at hK
   go_simp
   first | exact hK.out _ _ (Below.refl _ _) ⟨_, _, rfl, hO5⟩ | (have hk := hK.out _ _ (Below.refl _ _) ⟨_, _, rfl, hO5⟩; revert hk; go_simp)
  case po5x7 =>
   intro w1 hb1 hd KK hK
   have d6 : (HasRow w2.heap.size wv.O.length (wv.O.map (Value.int .i64)) (fun aO cO => .tuple #[.agg #[.slice (some ⟨b0, o0 + 2, none⟩) wv.L.length (c - 2), .slice aK wv.K.length cK, .slice aO wv.O.length cO, .slice aK wv.K.length cK, .slice aS wv.S.length cS, .slice aP wv.P.length cP, .slice aD wv.D.length cD], .bool true])) x6 w1 := hd 6 (by kernel_rfl)
   clear hd
   obtain ⟨a6_, c6_, rfl, hO6⟩ := d6
   simp only [Act.put, List.setIfInBounds_toArray, List.set_cons_zero, List.set_cons_succ] at hK
   go_simp
   first | exact hK.out _ _ (Below.refl _ _) ⟨_, _, rfl, hO6⟩ | (have hk := hK.out _ _ (Below.refl _ _) ⟨_, _, rfl, hO6⟩; revert hk; go_simp)
  case po5x8 =>
   intro w1 hb1 hd KK hK
   have d6 : (HasRow w2.heap.size wv.O.length (wv.O.map (Value.int .i64)) (fun aO cO => .tuple #[.agg #[.slice (some ⟨b0, o0 + 2, none⟩) wv.L.length (c - 2), .slice aK wv.K.length cK, .slice aO wv.O.length cO, .slice aK wv.K.length cK, .slice aS wv.S.length cS, .slice aP wv.P.length cP, .slice aD wv.D.length cD], .bool true])) x6 w1 := hd 6 (by kernel_rfl)
   clear hd
   obtain ⟨a6_, c6_, rfl, hO6⟩ := d6
   simp only [Act.put, List.setIfInBounds_toArray, List.set_cons_zero, List.set_cons_succ] at hK
   go_simp
   first | exact hK.out _ _ (Below.refl _ _) rfl | (have hk := hK.out _ _ (Below.refl _ _) rfl; revert hk; go_simp)
  case pend5 =>
   intro w1 hb1 hR hD
   have d0 : x0 = .slice (some ⟨b0, o0, none⟩) xs.length c := hR 0 (by decide)
   have d1 : x1 = .slice (some ⟨b0, o0 + 2, none⟩) wv.L.length (c - 2) := hR 1 (by decide)
   have d2 : x2 = .pointer (some ⟨w.heap.size, 0, none⟩) := hR 2 (by decide)
   have d3 : x3 = .slice aK wv.K.length cK := hR 3 (by decide)
   have d4 : x4 = .agg #[.slice aK wv.K.length cK, .slice aS wv.S.length cS, .slice aP wv.P.length cP, .slice aD wv.D.length cD] := hR 4 (by decide)
   have d5 : (HasRow w2.heap.size wv.O.length (wv.O.map (Value.int .i64)) (fun aO cO => .tuple #[.agg #[.slice (some ⟨b0, o0 + 2, none⟩) wv.L.length (c - 2), .slice aK wv.K.length cK, .slice aO wv.O.length cO, .slice aK wv.K.length cK, .slice aS wv.S.length cS, .slice aP wv.P.length cP, .slice aD wv.D.length cD], .bool true])) x5 w1 := hR 5 (by decide)
   have d6 : (HasRow w2.heap.size wv.O.length (wv.O.map (Value.int .i64)) (fun aO cO => .tuple #[.agg #[.slice (some ⟨b0, o0 + 2, none⟩) wv.L.length (c - 2), .slice aK wv.K.length cK, .slice aO wv.O.length cO, .slice aK wv.K.length cK, .slice aS wv.S.length cS, .slice aP wv.P.length cP, .slice aD wv.D.length cD], .bool true])) x6 w1 := hR 6 (by decide)
   have d7 : (HasRow w2.heap.size wv.O.length (wv.O.map (Value.int .i64)) (fun aO cO => .agg #[.slice (some ⟨b0, o0 + 2, none⟩) wv.L.length (c - 2), .slice aK wv.K.length cK, .slice aO wv.O.length cO, .slice aK wv.K.length cK, .slice aS wv.S.length cS, .slice aP wv.P.length cP, .slice aD wv.D.length cD])) x7 w1 := hR 7 (by decide)
   have d8 : x8 = .bool true := hR 8 (by decide)
   clear hR hD
   subst d0
   subst d1
   subst d2
   subst d3
   subst d4
   obtain ⟨a5_, c5_, rfl, hO5⟩ := d5
   obtain ⟨a6_, c6_, rfl, hO6⟩ := d6
   obtain ⟨a7_, c7_, rfl, hO7⟩ := d7
   subst d8
   refine wpAny_ready (rs := [9]) (by kernel_rfl) (by simp) (AllReady.cons rfl (fun KK hK => ?_) AllReady.nil)
   have F6 := F2.out.addO hb1 hO7
   simp only [List.nil_append, List.cons_append] at F6
   skip
   have q0 := F6.c 1 0 rfl rfl
   have q1 := F6.c 1 1 rfl rfl
   have q2 := F6.c 1 2 rfl rfl
   have q3 := F6.c 1 3 rfl rfl
   have q4 := F6.c 1 4 rfl rfl
   have q5 := F6.c 1 5 rfl rfl
   have q6 := F6.c 1 6 rfl rfl
   have qf0 := F6.f 1 0 rfl rfl
   have qf1 := F6.f 1 1 rfl rfl
   have qf2 := F6.f 1 2 rfl rfl
   have qf3 := F6.f 1 3 rfl rfl
   have qf4 := F6.f 1 4 rfl rfl
   have qf5 := F6.f 1 5 rfl rfl
   have qf6 := F6.f 1 6 rfl rfl
   go_simp
   refine hK _ _ ?_
   clear hK KK
   try simp only [putAll, Act.put, List.setIfInBounds_toArray, List.set_cons_zero, List.set_cons_succ]
   refine wpAny_ready (rs := [10]) (by kernel_rfl) (by simp) (AllReady.cons rfl (fun KK hK => ?_) AllReady.nil)
   go_simp
   refine hK _ _ ?_
   clear hK KK
   try simp only [putAll, Act.put, List.setIfInBounds_toArray, List.set_cons_zero, List.set_cons_succ]
   refine wpAny_done (by kernel_rfl) ?_ _
   have F7 := Lib.hid (F6.set 1 rfl (by simp) [.slice (some ⟨b0, o0 + 2, none⟩) wv.L.length (c - 2), .slice aK wv.K.length cK, .slice a7_ wv.O.length c7_, .slice aK wv.K.length cK, .slice aS wv.S.length cS, .slice aP wv.P.length cP, .slice aD wv.D.length cD] rfl)
   simp only [setL, Nat.reduceAdd, List.set_cons_zero, List.set_cons_succ] at F7
   go_wp2
   go_meet
   exact ⟨rfl, a7_, c7_, F7⟩
  case pfl5 =>
   intro f hf hfn w1 hb1 hR hD
   injection hf with hf
   subst hf
   have d0 : x0 = .slice (some ⟨b0, o0, none⟩) xs.length c := hR 0 (by decide) (by decide)
   have d1 : x1 = .slice (some ⟨b0, o0 + 2, none⟩) wv.L.length (c - 2) := hR 1 (by decide) (by decide)
   have d2 : x2 = .pointer (some ⟨w.heap.size, 0, none⟩) := hR 2 (by decide) (by decide)
   have d3 : x3 = .slice aK wv.K.length cK := hR 3 (by decide) (by decide)
   have d4 : x4 = .agg #[.slice aK wv.K.length cK, .slice aS wv.S.length cS, .slice aP wv.P.length cP, .slice aD wv.D.length cD] := hR 4 (by decide) (by decide)
   have d5 : (HasRow w2.heap.size wv.O.length (wv.O.map (Value.int .i64)) (fun aO cO => .tuple #[.agg #[.slice (some ⟨b0, o0 + 2, none⟩) wv.L.length (c - 2), .slice aK wv.K.length cK, .slice aO wv.O.length cO, .slice aK wv.K.length cK, .slice aS wv.S.length cS, .slice aP wv.P.length cP, .slice aD wv.D.length cD], .bool true])) x5 w1 := hR 5 (by decide) (by decide)
   have d6 : (HasRow w2.heap.size wv.O.length (wv.O.map (Value.int .i64)) (fun aO cO => .tuple #[.agg #[.slice (some ⟨b0, o0 + 2, none⟩) wv.L.length (c - 2), .slice aK wv.K.length cK, .slice aO wv.O.length cO, .slice aK wv.K.length cK, .slice aS wv.S.length cS, .slice aP wv.P.length cP, .slice aD wv.D.length cD], .bool true])) x6 w1 := hR 6 (by decide) (by decide)
   have d7 : (HasRow w2.heap.size wv.O.length (wv.O.map (Value.int .i64)) (fun aO cO => .agg #[.slice (some ⟨b0, o0 + 2, none⟩) wv.L.length (c - 2), .slice aK wv.K.length cK, .slice aO wv.O.length cO, .slice aK wv.K.length cK, .slice aS wv.S.length cS, .slice aP wv.P.length cP, .slice aD wv.D.length cD])) x7 w1 := hR 7 (by decide) (by decide)
   clear hR hD
   subst d0
   subst d1
   subst d2
   subst d3
   subst d4
   obtain ⟨a5_, c5_, rfl, hO5⟩ := d5
   obtain ⟨a6_, c6_, rfl, hO6⟩ := d6
   obtain ⟨a7_, c7_, rfl, hO7⟩ := d7
   refine wpAny_take (i := 8) (v := .bool true) rfl (by kernel_rfl) (by kernel_rfl) (by kernel_rfl) (fun _ _ _ h => h) (.inl ⟨by rfl, fun w => by go_simp⟩) ?_
   try simp only [putAll, Act.put, List.setIfInBounds_toArray, List.set_cons_zero, List.set_cons_succ]
   refine wpAny_ready (rs := [9]) (by kernel_rfl) (by simp) (AllReady.cons rfl (fun KK hK => ?_) AllReady.nil)
   have F6 := F2.out.addO hb1 hO7
   simp only [List.nil_append, List.cons_append] at F6
   skip
   have q0 := F6.c 1 0 rfl rfl
   have q1 := F6.c 1 1 rfl rfl
   have q2 := F6.c 1 2 rfl rfl
   have q3 := F6.c 1 3 rfl rfl
   have q4 := F6.c 1 4 rfl rfl
   have q5 := F6.c 1 5 rfl rfl
   have q6 := F6.c 1 6 rfl rfl
   have qf0 := F6.f 1 0 rfl rfl
   have qf1 := F6.f 1 1 rfl rfl
   have qf2 := F6.f 1 2 rfl rfl
   have qf3 := F6.f 1 3 rfl rfl
   have qf4 := F6.f 1 4 rfl rfl
   have qf5 := F6.f 1 5 rfl rfl
   have qf6 := F6.f 1 6 rfl rfl
   go_simp
   refine hK _ _ ?_
   clear hK KK
   try simp only [putAll, Act.put, List.setIfInBounds_toArray, List.set_cons_zero, List.set_cons_succ]
   refine wpAny_ready (rs := [10]) (by kernel_rfl) (by simp) (AllReady.cons rfl (fun KK hK => ?_) AllReady.nil)
   go_simp
   refine hK _ _ ?_
   clear hK KK
   try simp only [putAll, Act.put, List.setIfInBounds_toArray, List.set_cons_zero, List.set_cons_succ]
   refine wpAny_done (by kernel_rfl) ?_ _
   have F7 := Lib.hid (F6.set 1 rfl (by simp) [.slice (some ⟨b0, o0 + 2, none⟩) wv.L.length (c - 2), .slice aK wv.K.length cK, .slice a7_ wv.O.length c7_, .slice aK wv.K.length cK, .slice aS wv.S.length cS, .slice aP wv.P.length cP, .slice aD wv.D.length cD] rfl)
   simp only [setL, Nat.reduceAdd, List.set_cons_zero, List.set_cons_succ] at F7
   go_wp2
   go_meet
   exact ⟨rfl, a7_, c7_, F7⟩
 case rest =>
  obtain ⟨rfl, aO, cO, F7⟩ := hcut
  clear F2
  obtain ⟨W7, rfl⟩ : ∃ x : World, x = wc := ⟨_, rfl⟩
  have d1_0 := F7.out.c 1 0 rfl rfl
  have d1_1 := F7.out.c 1 1 rfl rfl
  have d1_2 := F7.out.c 1 2 rfl rfl
  have d1_3 := F7.out.c 1 3 rfl rfl
  have d1_4 := F7.out.c 1 4 rfl rfl
  have d1_5 := F7.out.c 1 5 rfl rfl
  have d1_6 := F7.out.c 1 6 rfl rfl
  have df1_0 := F7.out.f 1 0 rfl rfl
  have df1_1 := F7.out.f 1 1 rfl rfl
  have df1_2 := F7.out.f 1 2 rfl rfl
  have df1_3 := F7.out.f 1 3 rfl rfl
  have df1_4 := F7.out.f 1 4 rfl rfl
  have df1_5 := F7.out.f 1 5 rfl rfl
  have df1_6 := F7.out.f 1 6 rfl rfl
  go_upto_region 8 with (first | (go_at_call 83; refine (HFU.out aO cO _ ⟨F7.out.lw 5 rfl, F7.out.lw 1 rfl, F7.out.li 0 (k := .i64) (xs := wv.O) rfl HWO.out, F7.out.lw 2 rfl, F7.out.lw 3 rfl, F7.out.lw 4 rfl⟩).mono ?_; rintro e w8 ⟨rfl, hb⟩; have F8 := Lib.hid (F7.out.next hb); clear hb F7 d1_0 d1_1 d1_2 d1_3 d1_4 d1_5 d1_6 df1_0 df1_1 df1_2 df1_3 df1_4 df1_5 df1_6) | fail)
  have hl := HLN.out
  have hk0 : 0 < xs.length := by omega
  have hk1 : 1 < xs.length := by omega
  have hk0i : (0 : Int) < (xs.length : Int) := by omega
  have hk1i : (1 : Int) < (xs.length : Int) := by omega
  clear hl
  obtain ⟨w8, rfl⟩ : ∃ x : World, x = w8 := ⟨_, rfl⟩
  obtain ⟨nA, hnA⟩ : ∃ z, xs[0]?.getD 0 = z := ⟨_, rfl⟩
  obtain ⟨nB, hnB⟩ : ∃ z, xs[1]?.getD 0 = z := ⟨_, rfl⟩
  have hsd := HSD.out
  rw [hnA, hnB] at hsd
  have HD0 := Lib.hid hnA
  have HD1 := Lib.hid hnB
  have HSD2 := Lib.hid hsd
  clear hsd hnA hnB HSD
  obtain ⟨aO', cO', he, hsh⟩ := own_shape (F8.out.r 0 rfl)
  simp only [Value.slice.injEq] at he
  obtain ⟨rfl, _, rfl⟩ := he
  obtain ⟨gO, rfl, _⟩ := hsh.resolve_left (show ¬ wv.O.length = 0 from by have := HOL.out; omega)
  refine wp_region_parts2 (w := w8) 9 2 none [] [(fun u _ => u = .slice (some ⟨b0, o0, none⟩) xs.length c), (fun u _ => u = .pointer (some ⟨b0, o0, none⟩)), (fun u _ => u = .int .i64 nA), (fun u _ => u = .slice (some ⟨b0, o0, none⟩) xs.length c), (fun u _ => u = .pointer (some ⟨b0, o0 + 1, none⟩)), (fun u _ => u = .int .i64 nB), ((IsRow w8.heap.size 3 2 ([nA, nB].map (Value.int .i64)))), (fun u _ => u = .pointer (some ⟨w.heap.size + 1, 2, none⟩)), (fun u _ => u = .slice (some ⟨gO, 0, none⟩) wv.O.length cO)] [some 37, some 38, some 39, some 40, some 41, some 42, some 43, some 44, some 45, some 46, some 5] #[true, true, true, true, true, true, true, true, true, false, false] #[true, true, true, true, true, true, true, true, true, false, false] (by kernel_rfl) rfl (by kernel_rfl) (by kernel_rfl) rfl (by kernel_rfl) (by kernel_rfl) (.cons (carries_eq _) (.cons (carries_eq _) (.cons (carries_eq _) (.cons (carries_eq _) (.cons (carries_eq _) (.cons (carries_eq _) (.cons (isRow_carries _ _ _ _) (.cons (carries_eq _) (.cons (carries_eq _) .nil))))))))) (fun vs b hvl hvb => ?_)
  obtain ⟨x0, x1, x2, x3, x4, x5, x6, x7, x8, x9, x10, rfl⟩ : ∃ x0 x1 x2 x3 x4 x5 x6 x7 x8 x9 x10, vs = [x0, x1, x2, x3, x4, x5, x6, x7, x8, x9, x10] := lw11 hvl
  clear hvl
  simp only [putAll, Act.put, List.setIfInBounds_toArray, List.set_cons_zero, List.set_cons_succ] at hvb
  subst hvb
  refine ⟨(.snoc (.snoc (.snoc (.snoc (.snoc (.snoc (.snoc (.snoc (.snoc .zero (PartOb.intro (d := (some 37)) (r := fun u _ => u = .slice (some ⟨b0, o0, none⟩) xs.length c) rfl rfl rfl rfl ?po8x0)) (PartOb.intro (d := (some 38)) (r := fun u _ => u = .pointer (some ⟨b0, o0, none⟩)) rfl rfl rfl rfl ?po8x1)) (PartOb.intro (d := (some 39)) (r := fun u _ => u = .int .i64 nA) rfl rfl rfl rfl ?po8x2)) (PartOb.intro (d := (some 40)) (r := fun u _ => u = .slice (some ⟨b0, o0, none⟩) xs.length c) rfl rfl rfl rfl ?po8x3)) (PartOb.intro (d := (some 41)) (r := fun u _ => u = .pointer (some ⟨b0, o0 + 1, none⟩)) rfl rfl rfl rfl ?po8x4)) (PartOb.intro (d := (some 42)) (r := fun u _ => u = .int .i64 nB) rfl rfl rfl rfl ?po8x5)) (PartOb.intro (d := (some 43)) (r := (IsRow w8.heap.size 3 2 ([nA, nB].map (Value.int .i64)))) rfl rfl rfl rfl ?po8x6)) (PartOb.intro (d := (some 44)) (r := fun u _ => u = .pointer (some ⟨w.heap.size + 1, 2, none⟩)) rfl rfl rfl rfl ?po8x7)) (PartOb.intro (d := (some 45)) (r := fun u _ => u = .slice (some ⟨gO, 0, none⟩) wv.O.length cO) rfl rfl rfl rfl ?po8x8)), ?pend8, ?pfl8⟩
  case po8x0 =>
   intro w1 hb1 hd KK hK
   clear hd
   simp only [Act.put, List.setIfInBounds_toArray, List.set_cons_zero, List.set_cons_succ] at hK
   go_simp
   first | exact hK.out _ _ (Below.refl _ _) rfl | (have hk := hK.out _ _ (Below.refl _ _) rfl; revert hk; go_simp)
  case po8x1 =>
   intro w1 hb1 hd KK hK
   have d0 : x0 = .slice (some ⟨b0, o0, none⟩) xs.length c := hd 0 (by kernel_rfl)
   clear hd
   subst d0
   simp only [Act.put, List.setIfInBounds_toArray, List.set_cons_zero, List.set_cons_succ] at hK
   go_simp
   first | exact hK.out _ _ (Below.refl _ _) rfl | (have hk := hK.out _ _ (Below.refl _ _) rfl; revert hk; go_simp)
  case po8x2 =>
   intro w1 hb1 hd KK hK
   have d1 : x1 = .pointer (some ⟨b0, o0, none⟩) := hd 1 (by kernel_rfl)
   clear hd
   subst d1
   have hF := F8.out.next hb1
   obtain ⟨b9, o9, he, _, hcx⟩ := (hF.l 0 rfl).cell 0 hk0
   cases he
   rw [Nat.add_zero, HD0.out] at hcx
   simp only [Act.put, List.setIfInBounds_toArray, List.set_cons_zero, List.set_cons_succ] at hK
   go_simp
   first | exact hK.out _ _ (Below.refl _ _) rfl | (have hk := hK.out _ _ (Below.refl _ _) rfl; revert hk; go_simp)
  case po8x3 =>
   intro w1 hb1 hd KK hK
   clear hd
   simp only [Act.put, List.setIfInBounds_toArray, List.set_cons_zero, List.set_cons_succ] at hK
   go_simp
   first | exact hK.out _ _ (Below.refl _ _) rfl | (have hk := hK.out _ _ (Below.refl _ _) rfl; revert hk; go_simp)
  case po8x4 =>
   intro w1 hb1 hd KK hK
   have d3 : x3 = .slice (some ⟨b0, o0, none⟩) xs.length c := hd 3 (by kernel_rfl)
   clear hd
   subst d3
   simp only [Act.put, List.setIfInBounds_toArray, List.set_cons_zero, List.set_cons_succ] at hK
   go_simp
   first | exact hK.out _ _ (Below.refl _ _) rfl | (have hk := hK.out _ _ (Below.refl _ _) rfl; revert hk; go_simp)
  case po8x5 =>
   intro w1 hb1 hd KK hK
   have d4 : x4 = .pointer (some ⟨b0, o0 + 1, none⟩) := hd 4 (by kernel_rfl)
   clear hd
   subst d4
   have hF := F8.out.next hb1
   obtain ⟨b9, o9, he, _, hcx⟩ := (hF.l 0 rfl).cell 1 hk1
   cases he
   rw [HD1.out] at hcx
   simp only [Act.put, List.setIfInBounds_toArray, List.set_cons_zero, List.set_cons_succ] at hK
   go_simp
   first | exact hK.out _ _ (Below.refl _ _) rfl | (have hk := hK.out _ _ (Below.refl _ _) rfl; revert hk; go_simp)
  case po8x6 =>
   intro w1 hb1 hd KK hK
   have d2 : x2 = .int .i64 nA := hd 2 (by kernel_rfl)
   have d5 : x5 = .int .i64 nB := hd 5 (by kernel_rfl)
   clear hd
   subst d2
   subst d5
   simp only [Act.put, List.setIfInBounds_toArray, List.set_cons_zero, List.set_cons_succ] at hK
   go_simp
   first | exact hK.out _ _ ((Below.refl _ _).alloc (Nat.le_refl _) _) ⟨_, _, rfl, World.ownsRow_lit (base := w8.heap.size) (size := 1) (e := 3) w1 #[.int .i64 nA, .int .i64 nB] 2 hb1.size (by decide) rfl⟩ | (have hk := hK.out _ _ ((Below.refl _ _).alloc (Nat.le_refl _) _) ⟨_, _, rfl, World.ownsRow_lit (base := w8.heap.size) (size := 1) (e := 3) w1 #[.int .i64 nA, .int .i64 nB] 2 hb1.size (by decide) rfl⟩; revert hk; go_simp)
  case po8x7 =>
   intro w1 hb1 hd KK hK
   clear hd
   simp only [Act.put, List.setIfInBounds_toArray, List.set_cons_zero, List.set_cons_succ] at hK
   go_simp
   first | exact hK.out _ _ (Below.refl _ _) rfl | (have hk := hK.out _ _ (Below.refl _ _) rfl; revert hk; go_simp)
  case po8x8 =>
   intro w1 hb1 hd KK hK
   have d7 : x7 = .pointer (some ⟨w.heap.size + 1, 2, none⟩) := hd 7 (by kernel_rfl)
   clear hd
   subst d7
   have hF := F8.out.next hb1
   have k2 := hF.c 1 2 rfl rfl
   simp only [Act.put, List.setIfInBounds_toArray, List.set_cons_zero, List.set_cons_succ] at hK
   go_simp
   first | exact hK.out _ _ (Below.refl _ _) rfl | (have hk := hK.out _ _ (Below.refl _ _) rfl; revert hk; go_simp)
  case pfl8 => (intro f hf; cases hf)
  case pend8 =>
  intro w1 hb1 hR hD
  have d0 : x0 = .slice (some ⟨b0, o0, none⟩) xs.length c := hR 0 (by decide)
  have d1 : x1 = .pointer (some ⟨b0, o0, none⟩) := hR 1 (by decide)
  have d2 : x2 = .int .i64 nA := hR 2 (by decide)
  have d3 : x3 = .slice (some ⟨b0, o0, none⟩) xs.length c := hR 3 (by decide)
  have d4 : x4 = .pointer (some ⟨b0, o0 + 1, none⟩) := hR 4 (by decide)
  have d5 : x5 = .int .i64 nB := hR 5 (by decide)
  have d6 : (IsRow w8.heap.size 3 2 ([nA, nB].map (Value.int .i64))) x6 w1 := hR 6 (by decide)
  have d7 : x7 = .pointer (some ⟨w.heap.size + 1, 2, none⟩) := hR 7 (by decide)
  have d8 : x8 = .slice (some ⟨gO, 0, none⟩) wv.O.length cO := hR 8 (by decide)
  clear hR hD
  subst d0
  subst d1
  subst d2
  subst d3
  subst d4
  subst d5
  obtain ⟨a6_, c6_, rfl, hO6⟩ := d6
  subst d7
  subst d8
  refine wpAny_ready (rs := [9]) (by kernel_rfl) (by simp) (AllReady.cons rfl (fun KK hK => ?_) AllReady.nil)
  have hF := F8.out.next hb1
  refine stepAppN 23 3 infoInt Try.underlying23 w8.heap.size (.slice a6_ 2 c6_) 2 [nA, nB] wv.O wv.O.length cO ⟨gO, 0, none⟩ _ _ rfl rfl rfl hO6 rfl rfl (by have := HOL.out; omega) (fun j hj => ?_) (by omega) (by have := HOL.out; omega) hb1.size ?_
  ·have hc := (hF.li 0 (k := .i64) (xs := wv.O) rfl HWO.out).cell j hj
   obtain ⟨b9, o9, he, _, hcx⟩ := hc
   cases he
   rw [List.getElem?_eq_getElem hj] at hcx
   have ha : (⟨gO, 0, none⟩ : Addr).add j = ⟨gO, 0 + j, none⟩ := by cases j with
    | zero => rfl
    | succ j => simp [Addr.add]
   rw [ha]
   exact hcx
  intro g9 c9 w9 hown hgr hob
  rw [← HSD2.out, HSL.out] at hown
  rw [HSL.out]
  have hb9 := hb1.grown hgr hb1.size (fun g hg => (hO6.lt g hg).1)
  refine hK _ _ ?_
  clear hK KK
  try simp only [putAll, Act.put, List.setIfInBounds_toArray, List.set_cons_zero, List.set_cons_succ]
  refine wpAny_ready (rs := [10]) (by kernel_rfl) (by simp) (AllReady.cons rfl (fun KK hK => ?_) AllReady.nil)
  go_simp
  refine hK _ _ ?_
  clear hK KK
  try simp only [putAll, Act.put, List.setIfInBounds_toArray, List.set_cons_zero, List.set_cons_succ]
  refine wpAny_done (by kernel_rfl) ?_ _
  have F9 := Lib.hid (F8.out.addO hb9 hown)
  simp only [List.cons_append, List.nil_append] at F9
  clear hb9 hown hgr hob hO6 hb1 F8
  obtain ⟨V9, rfl⟩ : ∃ x : World, x = w9 := ⟨_, rfl⟩
  have d1_0 := F9.out.c 1 0 rfl rfl
  have d1_1 := F9.out.c 1 1 rfl rfl
  have d1_2 := F9.out.c 1 2 rfl rfl
  have d1_3 := F9.out.c 1 3 rfl rfl
  have d1_4 := F9.out.c 1 4 rfl rfl
  have d1_5 := F9.out.c 1 5 rfl rfl
  have d1_6 := F9.out.c 1 6 rfl rfl
  have df1_0 := F9.out.f 1 0 rfl rfl
  have df1_1 := F9.out.f 1 1 rfl rfl
  have df1_2 := F9.out.f 1 2 rfl rfl
  have df1_3 := F9.out.f 1 3 rfl rfl
  have df1_4 := F9.out.f 1 4 rfl rfl
  have df1_5 := F9.out.f 1 5 rfl rfl
  have df1_6 := F9.out.f 1 6 rfl rfl
  go_wp2_with (first | (go_at_call 72; refine (HGD.out (some ⟨g9, 0, none⟩) c9 _ (F9.out.li 1 (k := .i64) (xs := S) rfl HSWF.out)).mono ?_; rintro e w' ⟨rfl, rfl⟩) | fail)
  have FZ := F9.out.set 1 rfl (by simp) [.slice none 0 0, .slice none 0 0, .slice none 0 0, .slice none 0 0, .slice none 0 0, .slice none 0 0, .slice none 0 0] rfl
  simp only [setL, Nat.reduceAdd, List.set_cons_zero, List.set_cons_succ] at FZ
  have y0 := FZ.c 1 0 rfl rfl
  have y1 := FZ.c 1 1 rfl rfl
  have y2 := FZ.c 1 2 rfl rfl
  have y3 := FZ.c 1 3 rfl rfl
  have y4 := FZ.c 1 4 rfl rfl
  have y5 := FZ.c 1 5 rfl rfl
  have y6 := FZ.c 1 6 rfl rfl
  refine bodyPost_ret (v := .tuple #[.agg #[.slice none 0 0, .slice none 0 0, .slice none 0 0, .slice none 0 0, .slice none 0 0, .slice none 0 0, .slice none 0 0], .slice none 0 0, .int .i64 5]) ?_ rfl ⟨rfl, FZ.bel⟩
  rw [results_ctt rfl]
  go_simp
set_option maxRecDepth 100000 in
set_option maxHeartbeats 2000000 in
theorem out_ok (a : Option Addr) (c : Nat) (xs : List Int) (aK aS aP aD : Option Addr) (cK cS cP cD : Nat) (wv : WinV) (w : World) (h : Ints .i64 w w.heap.size a xs) (hK : Ints .i64 w w.heap.size aK wv.K) (hS : Ints .i64 w w.heap.size aS wv.S) (hP : Ints .i64 w w.heap.size aP wv.P) (hD : Ints .i64 w w.heap.size aD wv.D) (hn : numB true wv.K wv.S wv.P wv.D = true) (hl : xs.length = 2 + wv.S.length) (hL : wv.L = xs.drop 2) (hg : goodB xs = true) (hc1 : xs.length ≤ c) (hc2 : c ≤ 9223372036854775807) (hok : wv.okB = true) (hfu : wv.fullB = true) (hgs : goodB (poS xs wv) = true) :
  Calls Try.prog 56 #[.slice a xs.length c, .agg #[.slice aK wv.K.length cK, .slice aS wv.S.length cS, .slice aP wv.P.length cP, .slice aD wv.D.length cD]] w (fun e w' => ∃ aL cL aO cO as_ cs_, e = .returned (.tuple #[.agg #[.slice aL wv.L.length cL, .slice aK wv.K.length cK, .slice aO wv.O.length cO, .slice aK wv.K.length cK, .slice aS wv.S.length cS, .slice aP wv.P.length cP, .slice aD wv.D.length cD], .slice as_ (poS xs wv).length cs_, .int .i64 0]) ∧ (∃ b0 o0, a = some ⟨b0, o0, none⟩ ∧ aL = some ⟨b0, o0 + 2, none⟩) ∧ Fr w.heap.size w w' [] [] [⟨3, .slice aO wv.O.length cO, wv.O.length, wv.O.map (Value.int .i64)⟩, ⟨3, .slice as_ (poS xs wv).length cs_, (poS xs wv).length, (poS xs wv).map (Value.int .i64)⟩] []) := by
 have hsn : wv.S.length ≤ 2 ∨ numB true wv.K wv.S wv.P wv.D = false := by cases hb : numB true wv.K wv.S wv.P wv.D with | false => exact .inr rfl | true => exact .inl (num_iff.1 hb).1.2.1
 have hnum := fun W h1 h2 h3 h4 => convNumbers_any true aK aS aP aD cK cS cP cD wv.K wv.S wv.P wv.D W h1 h2 h3 h4
 rw [hn] at hnum
 have HNUM := Lib.hid hnum
 have hm := h.len
 have hmS := hS.len
 obtain ⟨hR, hr⟩ := win_R hL hg hn hl
 have hr2 := hR.r
 have hx4 := (goodB_iff.1 hg).1
 have hlen2 : xs.length - 2 = wv.L.length := by rw [hL, List.length_drop]
 obtain ⟨b0, o0, rfl, _, _⟩ := h.cell 0 (by omega)
 have hiL := ints_drop h 2
 rw [← hL] at hiL
 have HIL := Lib.hid hiL
 have HOV := Lib.hid (fun W h0 h1 h2 h3 h4 => over_ok (some ⟨b0, o0 + 2, none⟩) aK aK aS aP aD (c - 2) cK cK cS cP cD wv.K wv W h0 h1 h2 h3 h4 hR hok)
 have HFU := Lib.hid (fun aO cO W hW => full_any (some ⟨b0, o0 + 2, none⟩) aK aO aK aS aP aD (c - 2) cK cO cK cS cP cD wv.K wv W hW hR hok)
 rw [hfu] at HFU
 have hwO : ∀ x ∈ wv.O, (Lit.int .i64 x).wf = true := fun x hx => by
  obtain ⟨i, hi, rfl⟩ := List.mem_map.1 hx
  have hi2 := List.mem_range.1 hi
  have := hR.out_pos hi2 (WinV.ok_room hok hi2)
  exact wf_i64_iff.2 ⟨by omega, by omega⟩
 have HWO := Lib.hid hwO
 have hOl := wv.O_len
 have HOL := Lib.hid hOl
 clear hwO hOl
 obtain ⟨S, hSe⟩ : ∃ s, poS xs wv = s := ⟨_, rfl⟩
 have hSd : S = [xs[0]?.getD 0, xs[1]?.getD 0] ++ wv.O := by rw [← hSe]; rfl
 rw [hSe] at hgs ⊢
 have HGD := Lib.hid (fun (a9 : Option Addr) (c9 : Nat) W h => good_any a9 c9 (World.heap W).size S W h)
 rw [hgs] at HGD
 have hSwf : ∀ x ∈ S, (Lit.int .i64 x).wf = true := fun x hx => by
  rw [hSd] at hx
  rcases List.mem_append.1 hx with hx | hx
  ·have h0 := goodB_dims hg _ (getD_mem (show 0 < xs.length by omega))
   have h1 := goodB_dims hg _ (getD_mem (show 1 < xs.length by omega))
   simp at hx
   rcases hx with rfl | rfl <;> exact wf_i64_iff.2 ⟨by omega, by omega⟩
  ·exact HWO.out x hx
 have HSWF := Lib.hid hSwf
 have HSD := Lib.hid hSd
 have hSl : 2 + wv.O.length = S.length := by rw [hSd]; simp; omega
 have HSL := Lib.hid hSl
 clear hSe hgs hSd hSwf hSl
 have F1 := Lib.hid (((Fr.start (w := w) (I := [(.i64, (some ⟨b0, o0, none⟩), xs), (.i64, aK, wv.K), (.i64, aS, wv.S), (.i64, aP, wv.P), (.i64, aD, wv.D), (.i64, (some ⟨b0, o0 + 2, none⟩), wv.L)]) (by intro z hz; simp at hz; rcases hz with rfl | rfl | rfl | rfl | rfl | rfl; exact h; exact hK; exact hS; exact hP; exact hD; exact hiL)).box1 (b := w.heap.size) rfl [.slice aK wv.K.length cK, .slice aS wv.S.length cS, .slice aP wv.P.length cP, .slice aD wv.D.length cD] 28).box1 (b := w.heap.size + 1) (by simp) [.slice none 0 0, .slice none 0 0, .slice none 0 0, .slice none 0 0, .slice none 0 0, .slice none 0 0, .slice none 0 0] 68)
 simp only [List.nil_append, List.cons_append] at F1
 have hs2 : wv.S.length ≤ 2 := by rcases hsn with h9 | h9; exact h9; rw [hn] at h9; cases h9
 clear hsn hnum h hK hS hP hD hn hR hok hg hiL hL hfu
 go_enter Try.func56, Try.ntmps56
 go_upto_region 1 with fail
 obtain ⟨W1, hW1⟩ : ∃ W1, (w.alloc (.cells #[.slice aK wv.K.length cK, .slice aS wv.S.length cS, .slice aP wv.P.length cP, .slice aD wv.D.length cD] 28)).alloc (.cells #[.slice none 0 0, .slice none 0 0, .slice none 0 0, .slice none 0 0, .slice none 0 0, .slice none 0 0, .slice none 0 0] 68) = W1 := ⟨_, rfl⟩
 rw [hW1] at F1 ⊢
 clear hW1
 have c0_0 := F1.out.c 0 0 rfl rfl
 have c0_1 := F1.out.c 0 1 rfl rfl
 have c0_2 := F1.out.c 0 2 rfl rfl
 have c0_3 := F1.out.c 0 3 rfl rfl
 have hr2w : ∀ [Inhabited Unit], RowKit.wrap64 (2 + (wv.S.length : Int)) = 2 + (wv.S.length : Int) := by intro _; exact IntWalk.wrap64_in _ ⟨by omega, by omega⟩
 have hli : (xs.length : Int) = 2 + (wv.S.length : Int) := by omega
 have HLI := Lib.hid hli
 have HLN := Lib.hid hl
 have hd9 : ((xs.length : Int) != 2 + (wv.S.length : Int)) = false := by simp; omega
 clear hli hl
 go_upto_region 3 with (first | (go_at_call 81; refine (HNUM.out _ (F1.out.lw 1 rfl) (F1.out.lw 2 rfl) (F1.out.lw 3 rfl) (F1.out.lw 4 rfl)).mono ?_; rintro e w2 ⟨rfl, hb⟩; have F2 := Lib.hid (F1.out.next hb); clear hb F1 c0_0 c0_1 c0_2 c0_3; have c0_0 := F2.out.c 0 0 rfl rfl; have c0_1 := F2.out.c 0 1 rfl rfl; have c0_2 := F2.out.c 0 2 rfl rfl; have c0_3 := F2.out.c 0 3 rfl rfl) | fail)
 go_upto_region 5 with fail
 have HSLN := Lib.hid hlen2
 clear hlen2 hd9 hr2w c0_0 c0_1 c0_2 c0_3
 obtain ⟨w2, rfl⟩ : ∃ x : World, x = w2 := ⟨_, rfl⟩
 go_cut [7] from 7 to 28 (fun s7 wx => s7 = .bool true ∧ ∃ aO cO, Hid (Fr w.heap.size w wx [(w.heap.size, [.slice aK wv.K.length cK, .slice aS wv.S.length cS, .slice aP wv.P.length cP, .slice aD wv.D.length cD]), (w.heap.size + 1, [.slice (some ⟨b0, o0 + 2, none⟩) wv.L.length (c - 2), .slice aK wv.K.length cK, .slice aO wv.O.length cO, .slice aK wv.K.length cK, .slice aS wv.S.length cS, .slice aP wv.P.length cP, .slice aD wv.D.length cD])] [(.i64, (some ⟨b0, o0, none⟩), xs), (.i64, aK, wv.K), (.i64, aS, wv.S), (.i64, aP, wv.P), (.i64, aD, wv.D), (.i64, (some ⟨b0, o0 + 2, none⟩), wv.L)] [⟨3, .slice aO wv.O.length cO, wv.O.length, wv.O.map (Value.int .i64)⟩] []))
 case first =>
  refine wp_region_parts2 (w := w2) 9 2 (some 8) [] [(fun u _ => u = .slice (some ⟨b0, o0, none⟩) xs.length c), (fun u _ => u = .slice (some ⟨b0, o0 + 2, none⟩) wv.L.length (c - 2)), (fun u _ => u = .pointer (some ⟨w.heap.size, 0, none⟩)), (fun u _ => u = .slice aK wv.K.length cK), (fun u _ => u = .agg #[.slice aK wv.K.length cK, .slice aS wv.S.length cS, .slice aP wv.P.length cP, .slice aD wv.D.length cD]), ((HasRow w2.heap.size wv.O.length (wv.O.map (Value.int .i64)) (fun aO cO => .tuple #[.agg #[.slice (some ⟨b0, o0 + 2, none⟩) wv.L.length (c - 2), .slice aK wv.K.length cK, .slice aO wv.O.length cO, .slice aK wv.K.length cK, .slice aS wv.S.length cS, .slice aP wv.P.length cP, .slice aD wv.D.length cD], .bool true]))), ((HasRow w2.heap.size wv.O.length (wv.O.map (Value.int .i64)) (fun aO cO => .tuple #[.agg #[.slice (some ⟨b0, o0 + 2, none⟩) wv.L.length (c - 2), .slice aK wv.K.length cK, .slice aO wv.O.length cO, .slice aK wv.K.length cK, .slice aS wv.S.length cS, .slice aP wv.P.length cP, .slice aD wv.D.length cD], .bool true]))), ((HasRow w2.heap.size wv.O.length (wv.O.map (Value.int .i64)) (fun aO cO => .agg #[.slice (some ⟨b0, o0 + 2, none⟩) wv.L.length (c - 2), .slice aK wv.K.length cK, .slice aO wv.O.length cO, .slice aK wv.K.length cK, .slice aS wv.S.length cS, .slice aP wv.P.length cP, .slice aD wv.D.length cD]))), (fun u _ => u = .bool true)] [some 21, some 22, some 23, some 24, some 25, some 26, some 20, some 27, some 28, none, some 7] #[true, true, true, true, true, true, true, true, true, false, false] #[true, true, true, true, true, true, true, true, false, false, false] (by kernel_rfl) rfl (by kernel_rfl) (by kernel_rfl) rfl (by kernel_rfl) (by kernel_rfl) (.cons (carries_eq _) (.cons (carries_eq _) (.cons (carries_eq _) (.cons (carries_eq _) (.cons (carries_eq _) (.cons (hasRow_carries _ _ _ _) (.cons (hasRow_carries _ _ _ _) (.cons (hasRow_carries _ _ _ _) (.cons (carries_eq _) .nil))))))))) (fun vs b hvl hvb => ?_)
  obtain ⟨x0, x1, x2, x3, x4, x5, x6, x7, x8, x9, x10, rfl⟩ : ∃ x0 x1 x2 x3 x4 x5 x6 x7 x8 x9 x10, vs = [x0, x1, x2, x3, x4, x5, x6, x7, x8, x9, x10] := lw11 hvl
  clear hvl
  simp only [putAll, Act.put, List.setIfInBounds_toArray, List.set_cons_zero, List.set_cons_succ] at hvb
  subst hvb
  refine ⟨(.snoc (.snoc (.snoc (.snoc (.snoc (.snoc (.snoc (.snoc (.snoc .zero (PartOb.intro (d := (some 21)) (r := fun u _ => u = .slice (some ⟨b0, o0, none⟩) xs.length c) rfl rfl rfl rfl ?po5x0)) (PartOb.intro (d := (some 22)) (r := fun u _ => u = .slice (some ⟨b0, o0 + 2, none⟩) wv.L.length (c - 2)) rfl rfl rfl rfl ?po5x1)) (PartOb.intro (d := (some 23)) (r := fun u _ => u = .pointer (some ⟨w.heap.size, 0, none⟩)) rfl rfl rfl rfl ?po5x2)) (PartOb.intro (d := (some 24)) (r := fun u _ => u = .slice aK wv.K.length cK) rfl rfl rfl rfl ?po5x3)) (PartOb.intro (d := (some 25)) (r := fun u _ => u = .agg #[.slice aK wv.K.length cK, .slice aS wv.S.length cS, .slice aP wv.P.length cP, .slice aD wv.D.length cD]) rfl rfl rfl rfl ?po5x4)) (PartOb.intro (d := (some 26)) (r := (HasRow w2.heap.size wv.O.length (wv.O.map (Value.int .i64)) (fun aO cO => .tuple #[.agg #[.slice (some ⟨b0, o0 + 2, none⟩) wv.L.length (c - 2), .slice aK wv.K.length cK, .slice aO wv.O.length cO, .slice aK wv.K.length cK, .slice aS wv.S.length cS, .slice aP wv.P.length cP, .slice aD wv.D.length cD], .bool true]))) rfl rfl rfl rfl ?po5x5)) (PartOb.intro (d := (some 20)) (r := (HasRow w2.heap.size wv.O.length (wv.O.map (Value.int .i64)) (fun aO cO => .tuple #[.agg #[.slice (some ⟨b0, o0 + 2, none⟩) wv.L.length (c - 2), .slice aK wv.K.length cK, .slice aO wv.O.length cO, .slice aK wv.K.length cK, .slice aS wv.S.length cS, .slice aP wv.P.length cP, .slice aD wv.D.length cD], .bool true]))) rfl rfl rfl rfl ?po5x6)) (PartOb.intro (d := (some 27)) (r := (HasRow w2.heap.size wv.O.length (wv.O.map (Value.int .i64)) (fun aO cO => .agg #[.slice (some ⟨b0, o0 + 2, none⟩) wv.L.length (c - 2), .slice aK wv.K.length cK, .slice aO wv.O.length cO, .slice aK wv.K.length cK, .slice aS wv.S.length cS, .slice aP wv.P.length cP, .slice aD wv.D.length cD]))) rfl rfl rfl rfl ?po5x7)) (PartOb.intro (d := (some 28)) (r := fun u _ => u = .bool true) rfl rfl rfl rfl ?po5x8)), ?pend5, ?pfl5⟩
  case po5x0 =>
   intro w1 hb1 hd KK hK
   clear hd
   simp only [Act.put, List.setIfInBounds_toArray, List.set_cons_zero, List.set_cons_succ] at hK
   go_simp
   first | exact hK.out _ _ (Below.refl _ _) rfl | (have hk := hK.out _ _ (Below.refl _ _) rfl; revert hk; go_simp)
  case po5x1 =>
   intro w1 hb1 hd KK hK
   have d0 : x0 = .slice (some ⟨b0, o0, none⟩) xs.length c := hd 0 (by kernel_rfl)
   clear hd
   subst d0
   have hxx := HSLN.out
   have g1 : (2 : Int) ≤ (xs.length : Int) := by omega
   have g2 : (xs.length : Int) ≤ (c : Int) := by omega
   have g3 : ¬ c = 2 := by omega
   simp only [Act.put, List.setIfInBounds_toArray, List.set_cons_zero, List.set_cons_succ] at hK
   go_simp
   first | exact hK.out _ _ (Below.refl _ _) rfl | (have hk := hK.out _ _ (Below.refl _ _) rfl; revert hk; go_simp)
  case po5x2 =>
   intro w1 hb1 hd KK hK
   clear hd
   simp only [Act.put, List.setIfInBounds_toArray, List.set_cons_zero, List.set_cons_succ] at hK
   go_simp
   first | exact hK.out _ _ (Below.refl _ _) rfl | (have hk := hK.out _ _ (Below.refl _ _) rfl; revert hk; go_simp)
  case po5x3 =>
   intro w1 hb1 hd KK hK
   have d2 : x2 = .pointer (some ⟨w.heap.size, 0, none⟩) := hd 2 (by kernel_rfl)
   clear hd
   subst d2
   have hF := F2.out.next hb1
   have k0 := hF.c 0 0 rfl rfl
   simp only [Act.put, List.setIfInBounds_toArray, List.set_cons_zero, List.set_cons_succ] at hK
   go_simp
   first | exact hK.out _ _ (Below.refl _ _) rfl | (have hk := hK.out _ _ (Below.refl _ _) rfl; revert hk; go_simp)
  case po5x4 =>
   intro w1 hb1 hd KK hK
   clear hd
   have hF := F2.out.next hb1
   have k0 := hF.c 0 0 rfl rfl
   have k1 := hF.c 0 1 rfl rfl
   have k2 := hF.c 0 2 rfl rfl
   have k3 := hF.c 0 3 rfl rfl
   simp only [Act.put, List.setIfInBounds_toArray, List.set_cons_zero, List.set_cons_succ] at hK
   go_simp
   first | exact hK.out _ _ (Below.refl _ _) rfl | (have hk := hK.out _ _ (Below.refl _ _) rfl; revert hk; go_simp)
  case po5x5 =>
   intro w1 hb1 hd KK hK
   have d1 : x1 = .slice (some ⟨b0, o0 + 2, none⟩) wv.L.length (c - 2) := hd 1 (by kernel_rfl)
   have d3 : x3 = .slice aK wv.K.length cK := hd 3 (by kernel_rfl)
   have d4 : x4 = .agg #[.slice aK wv.K.length cK, .slice aS wv.S.length cS, .slice aP wv.P.length cP, .slice aD wv.D.length cD] := hd 4 (by kernel_rfl)
   clear hd
   subst d1
   subst d3
   subst d4
   simp only [Act.put, List.setIfInBounds_toArray, List.set_cons_zero, List.set_cons_succ] at hK
   go_simp
   have hF := F2.out.next hb1
   go_at_call 82
   refine (HOV.out w1 (hF.lw 5 rfl) (hF.lw 1 rfl) (hF.lw 2 rfl) (hF.lw 3 rfl) (hF.lw 4 rfl)).mono ?_
   rintro e w6 ⟨aO, cO, rfl, hf⟩
   (try go_wp2_with fail)
   first | exact hK.out _ _ hf.bel ⟨aO, cO, rfl, own_mono (hf.r 0 rfl) hb1.size⟩ | (have hk := hK.out _ _ hf.bel ⟨aO, cO, rfl, own_mono (hf.r 0 rfl) hb1.size⟩; revert hk; go_simp)
  case po5x6 =>
   intro w1 hb1 hd KK hK
   have d5 : (HasRow w2.heap.size wv.O.length (wv.O.map (Value.int .i64)) (fun aO cO => .tuple #[.agg #[.slice (some ⟨b0, o0 + 2, none⟩) wv.L.length (c - 2), .slice aK wv.K.length cK, .slice aO wv.O.length cO, .slice aK wv.K.length cK, .slice aS wv.S.length cS, .slice aP wv.P.length cP, .slice aD wv.D.length cD], .bool true])) x5 w1 := hd 5 (by kernel_rfl)
   clear hd
   obtain ⟨a5_, c5_, rfl, hO5⟩ := d5
   simp only [Act.put, List.setIfInBounds_toArray, List.set_cons_zero, List.set_cons_succ] at hK
   go_simp
   first | exact hK.out _ _ (Below.refl _ _) ⟨_, _, rfl, hO5⟩ | (have hk := hK.out _ _ (Below.refl _ _) ⟨_, _, rfl, hO5⟩; revert hk; go_simp)
  case po5x7 =>
   intro w1 hb1 hd KK hK
   have d6 : (HasRow w2.heap.size wv.O.length (wv.O.map (Value.int .i64)) (fun aO cO => .tuple #[.agg #[.slice (some ⟨b0, o0 + 2, none⟩) wv.L.length (c - 2), .slice aK wv.K.length cK, .slice aO wv.O.length cO, .slice aK wv.K.length cK, .slice aS wv.S.length cS, .slice aP wv.P.length cP, .slice aD wv.D.length cD], .bool true])) x6 w1 := hd 6 (by kernel_rfl)
   clear hd
   obtain ⟨a6_, c6_, rfl, hO6⟩ := d6
   simp only [Act.put, List.setIfInBounds_toArray, List.set_cons_zero, List.set_cons_succ] at hK
   go_simp
   first | exact hK.out _ _ (Below.refl _ _) ⟨_, _, rfl, hO6⟩ | (have hk := hK.out _ _ (Below.refl _ _) ⟨_, _, rfl, hO6⟩; revert hk; go_simp)
  case po5x8 =>
   intro w1 hb1 hd KK hK
   have d6 : (HasRow w2.heap.size wv.O.length (wv.O.map (Value.int .i64)) (fun aO cO => .tuple #[.agg #[.slice (some ⟨b0, o0 + 2, none⟩) wv.L.length (c - 2), .slice aK wv.K.length cK, .slice aO wv.O.length cO, .slice aK wv.K.length cK, .slice aS wv.S.length cS, .slice aP wv.P.length cP, .slice aD wv.D.length cD], .bool true])) x6 w1 := hd 6 (by kernel_rfl)
   clear hd
   obtain ⟨a6_, c6_, rfl, hO6⟩ := d6
   simp only [Act.put, List.setIfInBounds_toArray, List.set_cons_zero, List.set_cons_succ] at hK
   go_simp
   first | exact hK.out _ _ (Below.refl _ _) rfl | (have hk := hK.out _ _ (Below.refl _ _) rfl; revert hk; go_simp)
  case pend5 =>
   intro w1 hb1 hR hD
   have d0 : x0 = .slice (some ⟨b0, o0, none⟩) xs.length c := hR 0 (by decide)
   have d1 : x1 = .slice (some ⟨b0, o0 + 2, none⟩) wv.L.length (c - 2) := hR 1 (by decide)
   have d2 : x2 = .pointer (some ⟨w.heap.size, 0, none⟩) := hR 2 (by decide)
   have d3 : x3 = .slice aK wv.K.length cK := hR 3 (by decide)
   have d4 : x4 = .agg #[.slice aK wv.K.length cK, .slice aS wv.S.length cS, .slice aP wv.P.length cP, .slice aD wv.D.length cD] := hR 4 (by decide)
   have d5 : (HasRow w2.heap.size wv.O.length (wv.O.map (Value.int .i64)) (fun aO cO => .tuple #[.agg #[.slice (some ⟨b0, o0 + 2, none⟩) wv.L.length (c - 2), .slice aK wv.K.length cK, .slice aO wv.O.length cO, .slice aK wv.K.length cK, .slice aS wv.S.length cS, .slice aP wv.P.length cP, .slice aD wv.D.length cD], .bool true])) x5 w1 := hR 5 (by decide)
   have d6 : (HasRow w2.heap.size wv.O.length (wv.O.map (Value.int .i64)) (fun aO cO => .tuple #[.agg #[.slice (some ⟨b0, o0 + 2, none⟩) wv.L.length (c - 2), .slice aK wv.K.length cK, .slice aO wv.O.length cO, .slice aK wv.K.length cK, .slice aS wv.S.length cS, .slice aP wv.P.length cP, .slice aD wv.D.length cD], .bool true])) x6 w1 := hR 6 (by decide)
   have d7 : (HasRow w2.heap.size wv.O.length (wv.O.map (Value.int .i64)) (fun aO cO => .agg #[.slice (some ⟨b0, o0 + 2, none⟩) wv.L.length (c - 2), .slice aK wv.K.length cK, .slice aO wv.O.length cO, .slice aK wv.K.length cK, .slice aS wv.S.length cS, .slice aP wv.P.length cP, .slice aD wv.D.length cD])) x7 w1 := hR 7 (by decide)
   have d8 : x8 = .bool true := hR 8 (by decide)
   clear hR hD
   subst d0
   subst d1
   subst d2
   subst d3
   subst d4
   obtain ⟨a5_, c5_, rfl, hO5⟩ := d5
   obtain ⟨a6_, c6_, rfl, hO6⟩ := d6
   obtain ⟨a7_, c7_, rfl, hO7⟩ := d7
   subst d8
   refine wpAny_ready (rs := [9]) (by kernel_rfl) (by simp) (AllReady.cons rfl (fun KK hK => ?_) AllReady.nil)
   have F6 := F2.out.addO hb1 hO7
   simp only [List.nil_append, List.cons_append] at F6
   skip
   have q0 := F6.c 1 0 rfl rfl
   have q1 := F6.c 1 1 rfl rfl
   have q2 := F6.c 1 2 rfl rfl
   have q3 := F6.c 1 3 rfl rfl
   have q4 := F6.c 1 4 rfl rfl
   have q5 := F6.c 1 5 rfl rfl
   have q6 := F6.c 1 6 rfl rfl
   have qf0 := F6.f 1 0 rfl rfl
   have qf1 := F6.f 1 1 rfl rfl
   have qf2 := F6.f 1 2 rfl rfl
   have qf3 := F6.f 1 3 rfl rfl
   have qf4 := F6.f 1 4 rfl rfl
   have qf5 := F6.f 1 5 rfl rfl
   have qf6 := F6.f 1 6 rfl rfl
   go_simp
   refine hK _ _ ?_
   clear hK KK
   try simp only [putAll, Act.put, List.setIfInBounds_toArray, List.set_cons_zero, List.set_cons_succ]
   refine wpAny_ready (rs := [10]) (by kernel_rfl) (by simp) (AllReady.cons rfl (fun KK hK => ?_) AllReady.nil)
   go_simp
   refine hK _ _ ?_
   clear hK KK
   try simp only [putAll, Act.put, List.setIfInBounds_toArray, List.set_cons_zero, List.set_cons_succ]
   refine wpAny_done (by kernel_rfl) ?_ _
   have F7 := Lib.hid (F6.set 1 rfl (by simp) [.slice (some ⟨b0, o0 + 2, none⟩) wv.L.length (c - 2), .slice aK wv.K.length cK, .slice a7_ wv.O.length c7_, .slice aK wv.K.length cK, .slice aS wv.S.length cS, .slice aP wv.P.length cP, .slice aD wv.D.length cD] rfl)
   simp only [setL, Nat.reduceAdd, List.set_cons_zero, List.set_cons_succ] at F7
   go_wp2
   go_meet
   exact ⟨rfl, a7_, c7_, F7⟩
  case pfl5 =>
   intro f hf hfn w1 hb1 hR hD
   injection hf with hf
   subst hf
   have d0 : x0 = .slice (some ⟨b0, o0, none⟩) xs.length c := hR 0 (by decide) (by decide)
   have d1 : x1 = .slice (some ⟨b0, o0 + 2, none⟩) wv.L.length (c - 2) := hR 1 (by decide) (by decide)
   have d2 : x2 = .pointer (some ⟨w.heap.size, 0, none⟩) := hR 2 (by decide) (by decide)
   have d3 : x3 = .slice aK wv.K.length cK := hR 3 (by decide) (by decide)
   have d4 : x4 = .agg #[.slice aK wv.K.length cK, .slice aS wv.S.length cS, .slice aP wv.P.length cP, .slice aD wv.D.length cD] := hR 4 (by decide) (by decide)
   have d5 : (HasRow w2.heap.size wv.O.length (wv.O.map (Value.int .i64)) (fun aO cO => .tuple #[.agg #[.slice (some ⟨b0, o0 + 2, none⟩) wv.L.length (c - 2), .slice aK wv.K.length cK, .slice aO wv.O.length cO, .slice aK wv.K.length cK, .slice aS wv.S.length cS, .slice aP wv.P.length cP, .slice aD wv.D.length cD], .bool true])) x5 w1 := hR 5 (by decide) (by decide)
   have d6 : (HasRow w2.heap.size wv.O.length (wv.O.map (Value.int .i64)) (fun aO cO => .tuple #[.agg #[.slice (some ⟨b0, o0 + 2, none⟩) wv.L.length (c - 2), .slice aK wv.K.length cK, .slice aO wv.O.length cO, .slice aK wv.K.length cK, .slice aS wv.S.length cS, .slice aP wv.P.length cP, .slice aD wv.D.length cD], .bool true])) x6 w1 := hR 6 (by decide) (by decide)
   have d7 : (HasRow w2.heap.size wv.O.length (wv.O.map (Value.int .i64)) (fun aO cO => .agg #[.slice (some ⟨b0, o0 + 2, none⟩) wv.L.length (c - 2), .slice aK wv.K.length cK, .slice aO wv.O.length cO, .slice aK wv.K.length cK, .slice aS wv.S.length cS, .slice aP wv.P.length cP, .slice aD wv.D.length cD])) x7 w1 := hR 7 (by decide) (by decide)
   clear hR hD
   subst d0
   subst d1
   subst d2
   subst d3
   subst d4
   obtain ⟨a5_, c5_, rfl, hO5⟩ := d5
   obtain ⟨a6_, c6_, rfl, hO6⟩ := d6
   obtain ⟨a7_, c7_, rfl, hO7⟩ := d7
   refine wpAny_take (i := 8) (v := .bool true) rfl (by kernel_rfl) (by kernel_rfl) (by kernel_rfl) (fun _ _ _ h => h) (.inl ⟨by rfl, fun w => by go_simp⟩) ?_
   try simp only [putAll, Act.put, List.setIfInBounds_toArray, List.set_cons_zero, List.set_cons_succ]
   refine wpAny_ready (rs := [9]) (by kernel_rfl) (by simp) (AllReady.cons rfl (fun KK hK => ?_) AllReady.nil)
   have F6 := F2.out.addO hb1 hO7
   simp only [List.nil_append, List.cons_append] at F6
   skip
   have q0 := F6.c 1 0 rfl rfl
   have q1 := F6.c 1 1 rfl rfl
   have q2 := F6.c 1 2 rfl rfl
   have q3 := F6.c 1 3 rfl rfl
   have q4 := F6.c 1 4 rfl rfl
   have q5 := F6.c 1 5 rfl rfl
   have q6 := F6.c 1 6 rfl rfl
   have qf0 := F6.f 1 0 rfl rfl
   have qf1 := F6.f 1 1 rfl rfl
   have qf2 := F6.f 1 2 rfl rfl
   have qf3 := F6.f 1 3 rfl rfl
   have qf4 := F6.f 1 4 rfl rfl
   have qf5 := F6.f 1 5 rfl rfl
   have qf6 := F6.f 1 6 rfl rfl
   go_simp
   refine hK _ _ ?_
   clear hK KK
   try simp only [putAll, Act.put, List.setIfInBounds_toArray, List.set_cons_zero, List.set_cons_succ]
   refine wpAny_ready (rs := [10]) (by kernel_rfl) (by simp) (AllReady.cons rfl (fun KK hK => ?_) AllReady.nil)
   go_simp
   refine hK _ _ ?_
   clear hK KK
   try simp only [putAll, Act.put, List.setIfInBounds_toArray, List.set_cons_zero, List.set_cons_succ]
   refine wpAny_done (by kernel_rfl) ?_ _
   have F7 := Lib.hid (F6.set 1 rfl (by simp) [.slice (some ⟨b0, o0 + 2, none⟩) wv.L.length (c - 2), .slice aK wv.K.length cK, .slice a7_ wv.O.length c7_, .slice aK wv.K.length cK, .slice aS wv.S.length cS, .slice aP wv.P.length cP, .slice aD wv.D.length cD] rfl)
   simp only [setL, Nat.reduceAdd, List.set_cons_zero, List.set_cons_succ] at F7
   go_wp2
   go_meet
   exact ⟨rfl, a7_, c7_, F7⟩
 case rest =>
  obtain ⟨rfl, aO, cO, F7⟩ := hcut
  clear F2
  obtain ⟨W7, rfl⟩ : ∃ x : World, x = wc := ⟨_, rfl⟩
  have d1_0 := F7.out.c 1 0 rfl rfl
  have d1_1 := F7.out.c 1 1 rfl rfl
  have d1_2 := F7.out.c 1 2 rfl rfl
  have d1_3 := F7.out.c 1 3 rfl rfl
  have d1_4 := F7.out.c 1 4 rfl rfl
  have d1_5 := F7.out.c 1 5 rfl rfl
  have d1_6 := F7.out.c 1 6 rfl rfl
  have df1_0 := F7.out.f 1 0 rfl rfl
  have df1_1 := F7.out.f 1 1 rfl rfl
  have df1_2 := F7.out.f 1 2 rfl rfl
  have df1_3 := F7.out.f 1 3 rfl rfl
  have df1_4 := F7.out.f 1 4 rfl rfl
  have df1_5 := F7.out.f 1 5 rfl rfl
  have df1_6 := F7.out.f 1 6 rfl rfl
  go_upto_region 8 with (first | (go_at_call 83; refine (HFU.out aO cO _ ⟨F7.out.lw 5 rfl, F7.out.lw 1 rfl, F7.out.li 0 (k := .i64) (xs := wv.O) rfl HWO.out, F7.out.lw 2 rfl, F7.out.lw 3 rfl, F7.out.lw 4 rfl⟩).mono ?_; rintro e w8 ⟨rfl, hb⟩; have F8 := Lib.hid (F7.out.next hb); clear hb F7 d1_0 d1_1 d1_2 d1_3 d1_4 d1_5 d1_6 df1_0 df1_1 df1_2 df1_3 df1_4 df1_5 df1_6) | fail)
  have hl := HLN.out
  have hk0 : 0 < xs.length := by omega
  have hk1 : 1 < xs.length := by omega
  have hk0i : (0 : Int) < (xs.length : Int) := by omega
  have hk1i : (1 : Int) < (xs.length : Int) := by omega
  clear hl
  obtain ⟨w8, rfl⟩ : ∃ x : World, x = w8 := ⟨_, rfl⟩
  obtain ⟨nA, hnA⟩ : ∃ z, xs[0]?.getD 0 = z := ⟨_, rfl⟩
  obtain ⟨nB, hnB⟩ : ∃ z, xs[1]?.getD 0 = z := ⟨_, rfl⟩
  have hsd := HSD.out
  rw [hnA, hnB] at hsd
  have HD0 := Lib.hid hnA
  have HD1 := Lib.hid hnB
  have HSD2 := Lib.hid hsd
  clear hsd hnA hnB HSD
  obtain ⟨aO', cO', he, hsh⟩ := own_shape (F8.out.r 0 rfl)
  simp only [Value.slice.injEq] at he
  obtain ⟨rfl, _, rfl⟩ := he
  obtain ⟨gO, rfl, _⟩ := hsh.resolve_left (show ¬ wv.O.length = 0 from by have := HOL.out; omega)
  refine wp_region_parts2 (w := w8) 9 2 none [] [(fun u _ => u = .slice (some ⟨b0, o0, none⟩) xs.length c), (fun u _ => u = .pointer (some ⟨b0, o0, none⟩)), (fun u _ => u = .int .i64 nA), (fun u _ => u = .slice (some ⟨b0, o0, none⟩) xs.length c), (fun u _ => u = .pointer (some ⟨b0, o0 + 1, none⟩)), (fun u _ => u = .int .i64 nB), ((IsRow w8.heap.size 3 2 ([nA, nB].map (Value.int .i64)))), (fun u _ => u = .pointer (some ⟨w.heap.size + 1, 2, none⟩)), (fun u _ => u = .slice (some ⟨gO, 0, none⟩) wv.O.length cO)] [some 37, some 38, some 39, some 40, some 41, some 42, some 43, some 44, some 45, some 46, some 5] #[true, true, true, true, true, true, true, true, true, false, false] #[true, true, true, true, true, true, true, true, true, false, false] (by kernel_rfl) rfl (by kernel_rfl) (by kernel_rfl) rfl (by kernel_rfl) (by kernel_rfl) (.cons (carries_eq _) (.cons (carries_eq _) (.cons (carries_eq _) (.cons (carries_eq _) (.cons (carries_eq _) (.cons (carries_eq _) (.cons (isRow_carries _ _ _ _) (.cons (carries_eq _) (.cons (carries_eq _) .nil))))))))) (fun vs b hvl hvb => ?_)
  obtain ⟨x0, x1, x2, x3, x4, x5, x6, x7, x8, x9, x10, rfl⟩ : ∃ x0 x1 x2 x3 x4 x5 x6 x7 x8 x9 x10, vs = [x0, x1, x2, x3, x4, x5, x6, x7, x8, x9, x10] := lw11 hvl
  clear hvl
  simp only [putAll, Act.put, List.setIfInBounds_toArray, List.set_cons_zero, List.set_cons_succ] at hvb
  subst hvb
  refine ⟨(.snoc (.snoc (.snoc (.snoc (.snoc (.snoc (.snoc (.snoc (.snoc .zero (PartOb.intro (d := (some 37)) (r := fun u _ => u = .slice (some ⟨b0, o0, none⟩) xs.length c) rfl rfl rfl rfl ?po8x0)) (PartOb.intro (d := (some 38)) (r := fun u _ => u = .pointer (some ⟨b0, o0, none⟩)) rfl rfl rfl rfl ?po8x1)) (PartOb.intro (d := (some 39)) (r := fun u _ => u = .int .i64 nA) rfl rfl rfl rfl ?po8x2)) (PartOb.intro (d := (some 40)) (r := fun u _ => u = .slice (some ⟨b0, o0, none⟩) xs.length c) rfl rfl rfl rfl ?po8x3)) (PartOb.intro (d := (some 41)) (r := fun u _ => u = .pointer (some ⟨b0, o0 + 1, none⟩)) rfl rfl rfl rfl ?po8x4)) (PartOb.intro (d := (some 42)) (r := fun u _ => u = .int .i64 nB) rfl rfl rfl rfl ?po8x5)) (PartOb.intro (d := (some 43)) (r := (IsRow w8.heap.size 3 2 ([nA, nB].map (Value.int .i64)))) rfl rfl rfl rfl ?po8x6)) (PartOb.intro (d := (some 44)) (r := fun u _ => u = .pointer (some ⟨w.heap.size + 1, 2, none⟩)) rfl rfl rfl rfl ?po8x7)) (PartOb.intro (d := (some 45)) (r := fun u _ => u = .slice (some ⟨gO, 0, none⟩) wv.O.length cO) rfl rfl rfl rfl ?po8x8)), ?pend8, ?pfl8⟩
  case po8x0 =>
   intro w1 hb1 hd KK hK
   clear hd
   simp only [Act.put, List.setIfInBounds_toArray, List.set_cons_zero, List.set_cons_succ] at hK
   go_simp
   first | exact hK.out _ _ (Below.refl _ _) rfl | (have hk := hK.out _ _ (Below.refl _ _) rfl; revert hk; go_simp)
  case po8x1 =>
   intro w1 hb1 hd KK hK
   have d0 : x0 = .slice (some ⟨b0, o0, none⟩) xs.length c := hd 0 (by kernel_rfl)
   clear hd
   subst d0
   simp only [Act.put, List.setIfInBounds_toArray, List.set_cons_zero, List.set_cons_succ] at hK
   go_simp
   first | exact hK.out _ _ (Below.refl _ _) rfl | (have hk := hK.out _ _ (Below.refl _ _) rfl; revert hk; go_simp)
  case po8x2 =>
   intro w1 hb1 hd KK hK
   have d1 : x1 = .pointer (some ⟨b0, o0, none⟩) := hd 1 (by kernel_rfl)
   clear hd
   subst d1
   have hF := F8.out.next hb1
   obtain ⟨b9, o9, he, _, hcx⟩ := (hF.l 0 rfl).cell 0 hk0
   cases he
   rw [Nat.add_zero, HD0.out] at hcx
   simp only [Act.put, List.setIfInBounds_toArray, List.set_cons_zero, List.set_cons_succ] at hK
   go_simp
   first | exact hK.out _ _ (Below.refl _ _) rfl | (have hk := hK.out _ _ (Below.refl _ _) rfl; revert hk; go_simp)
  case po8x3 =>
   intro w1 hb1 hd KK hK
   clear hd
   simp only [Act.put, List.setIfInBounds_toArray, List.set_cons_zero, List.set_cons_succ] at hK
   go_simp
   first | exact hK.out _ _ (Below.refl _ _) rfl | (have hk := hK.out _ _ (Below.refl _ _) rfl; revert hk; go_simp)
  case po8x4 =>
   intro w1 hb1 hd KK hK
   have d3 : x3 = .slice (some ⟨b0, o0, none⟩) xs.length c := hd 3 (by kernel_rfl)
   clear hd
   subst d3
   simp only [Act.put, List.setIfInBounds_toArray, List.set_cons_zero, List.set_cons_succ] at hK
   go_simp
   first | exact hK.out _ _ (Below.refl _ _) rfl | (have hk := hK.out _ _ (Below.refl _ _) rfl; revert hk; go_simp)
  case po8x5 =>
   intro w1 hb1 hd KK hK
   have d4 : x4 = .pointer (some ⟨b0, o0 + 1, none⟩) := hd 4 (by kernel_rfl)
   clear hd
   subst d4
   have hF := F8.out.next hb1
   obtain ⟨b9, o9, he, _, hcx⟩ := (hF.l 0 rfl).cell 1 hk1
   cases he
   rw [HD1.out] at hcx
   simp only [Act.put, List.setIfInBounds_toArray, List.set_cons_zero, List.set_cons_succ] at hK
   go_simp
   first | exact hK.out _ _ (Below.refl _ _) rfl | (have hk := hK.out _ _ (Below.refl _ _) rfl; revert hk; go_simp)
  case po8x6 =>
   intro w1 hb1 hd KK hK
   have d2 : x2 = .int .i64 nA := hd 2 (by kernel_rfl)
   have d5 : x5 = .int .i64 nB := hd 5 (by kernel_rfl)
   clear hd
   subst d2
   subst d5
   simp only [Act.put, List.setIfInBounds_toArray, List.set_cons_zero, List.set_cons_succ] at hK
   go_simp
   first | exact hK.out _ _ ((Below.refl _ _).alloc (Nat.le_refl _) _) ⟨_, _, rfl, World.ownsRow_lit (base := w8.heap.size) (size := 1) (e := 3) w1 #[.int .i64 nA, .int .i64 nB] 2 hb1.size (by decide) rfl⟩ | (have hk := hK.out _ _ ((Below.refl _ _).alloc (Nat.le_refl _) _) ⟨_, _, rfl, World.ownsRow_lit (base := w8.heap.size) (size := 1) (e := 3) w1 #[.int .i64 nA, .int .i64 nB] 2 hb1.size (by decide) rfl⟩; revert hk; go_simp)
  case po8x7 =>
   intro w1 hb1 hd KK hK
   clear hd
   simp only [Act.put, List.setIfInBounds_toArray, List.set_cons_zero, List.set_cons_succ] at hK
   go_simp
   first | exact hK.out _ _ (Below.refl _ _) rfl | (have hk := hK.out _ _ (Below.refl _ _) rfl; revert hk; go_simp)
  case po8x8 =>
   intro w1 hb1 hd KK hK
   have d7 : x7 = .pointer (some ⟨w.heap.size + 1, 2, none⟩) := hd 7 (by kernel_rfl)
   clear hd
   subst d7
   have hF := F8.out.next hb1
   have k2 := hF.c 1 2 rfl rfl
   simp only [Act.put, List.setIfInBounds_toArray, List.set_cons_zero, List.set_cons_succ] at hK
   go_simp
   first | exact hK.out _ _ (Below.refl _ _) rfl | (have hk := hK.out _ _ (Below.refl _ _) rfl; revert hk; go_simp)
  case pfl8 => (intro f hf; cases hf)
  case pend8 =>
  intro w1 hb1 hR hD
  have d0 : x0 = .slice (some ⟨b0, o0, none⟩) xs.length c := hR 0 (by decide)
  have d1 : x1 = .pointer (some ⟨b0, o0, none⟩) := hR 1 (by decide)
  have d2 : x2 = .int .i64 nA := hR 2 (by decide)
  have d3 : x3 = .slice (some ⟨b0, o0, none⟩) xs.length c := hR 3 (by decide)
  have d4 : x4 = .pointer (some ⟨b0, o0 + 1, none⟩) := hR 4 (by decide)
  have d5 : x5 = .int .i64 nB := hR 5 (by decide)
  have d6 : (IsRow w8.heap.size 3 2 ([nA, nB].map (Value.int .i64))) x6 w1 := hR 6 (by decide)
  have d7 : x7 = .pointer (some ⟨w.heap.size + 1, 2, none⟩) := hR 7 (by decide)
  have d8 : x8 = .slice (some ⟨gO, 0, none⟩) wv.O.length cO := hR 8 (by decide)
  clear hR hD
  subst d0
  subst d1
  subst d2
  subst d3
  subst d4
  subst d5
  obtain ⟨a6_, c6_, rfl, hO6⟩ := d6
  subst d7
  subst d8
  refine wpAny_ready (rs := [9]) (by kernel_rfl) (by simp) (AllReady.cons rfl (fun KK hK => ?_) AllReady.nil)
  have hF := F8.out.next hb1
  refine stepAppN 23 3 infoInt Try.underlying23 w8.heap.size (.slice a6_ 2 c6_) 2 [nA, nB] wv.O wv.O.length cO ⟨gO, 0, none⟩ _ _ rfl rfl rfl hO6 rfl rfl (by have := HOL.out; omega) (fun j hj => ?_) (by omega) (by have := HOL.out; omega) hb1.size ?_
  ·have hc := (hF.li 0 (k := .i64) (xs := wv.O) rfl HWO.out).cell j hj
   obtain ⟨b9, o9, he, _, hcx⟩ := hc
   cases he
   rw [List.getElem?_eq_getElem hj] at hcx
   have ha : (⟨gO, 0, none⟩ : Addr).add j = ⟨gO, 0 + j, none⟩ := by cases j with
    | zero => rfl
    | succ j => simp [Addr.add]
   rw [ha]
   exact hcx
  intro g9 c9 w9 hown hgr hob
  rw [← HSD2.out, HSL.out] at hown
  rw [HSL.out]
  have hb9 := hb1.grown hgr hb1.size (fun g hg => (hO6.lt g hg).1)
  refine hK _ _ ?_
  clear hK KK
  try simp only [putAll, Act.put, List.setIfInBounds_toArray, List.set_cons_zero, List.set_cons_succ]
  refine wpAny_ready (rs := [10]) (by kernel_rfl) (by simp) (AllReady.cons rfl (fun KK hK => ?_) AllReady.nil)
  go_simp
  refine hK _ _ ?_
  clear hK KK
  try simp only [putAll, Act.put, List.setIfInBounds_toArray, List.set_cons_zero, List.set_cons_succ]
  refine wpAny_done (by kernel_rfl) ?_ _
  have F9 := Lib.hid (F8.out.addO hb9 hown)
  simp only [List.cons_append, List.nil_append] at F9
  clear hb9 hown hgr hob hO6 hb1 F8
  obtain ⟨V9, rfl⟩ : ∃ x : World, x = w9 := ⟨_, rfl⟩
  have d1_0 := F9.out.c 1 0 rfl rfl
  have d1_1 := F9.out.c 1 1 rfl rfl
  have d1_2 := F9.out.c 1 2 rfl rfl
  have d1_3 := F9.out.c 1 3 rfl rfl
  have d1_4 := F9.out.c 1 4 rfl rfl
  have d1_5 := F9.out.c 1 5 rfl rfl
  have d1_6 := F9.out.c 1 6 rfl rfl
  have df1_0 := F9.out.f 1 0 rfl rfl
  have df1_1 := F9.out.f 1 1 rfl rfl
  have df1_2 := F9.out.f 1 2 rfl rfl
  have df1_3 := F9.out.f 1 3 rfl rfl
  have df1_4 := F9.out.f 1 4 rfl rfl
  have df1_5 := F9.out.f 1 5 rfl rfl
  have df1_6 := F9.out.f 1 6 rfl rfl
  go_wp2_with (first | (go_at_call 72; refine (HGD.out (some ⟨g9, 0, none⟩) c9 _ (F9.out.li 1 (k := .i64) (xs := S) rfl HSWF.out)).mono ?_; rintro e w' ⟨rfl, rfl⟩) | fail)
  have FZ := F9.out.set 1 rfl (by simp) [.slice (some ⟨b0, o0 + 2, none⟩) wv.L.length (c - 2), .slice aK wv.K.length cK, .slice (some ⟨gO, 0, none⟩) wv.O.length cO, .slice aK wv.K.length cK, .slice aS wv.S.length cS, .slice aP wv.P.length cP, .slice aD wv.D.length cD] rfl
  simp only [setL, Nat.reduceAdd, List.set_cons_zero, List.set_cons_succ] at FZ
  have y0 := FZ.c 1 0 rfl rfl
  have y1 := FZ.c 1 1 rfl rfl
  have y2 := FZ.c 1 2 rfl rfl
  have y3 := FZ.c 1 3 rfl rfl
  have y4 := FZ.c 1 4 rfl rfl
  have y5 := FZ.c 1 5 rfl rfl
  have y6 := FZ.c 1 6 rfl rfl
  refine bodyPost_ret (v := .tuple #[.agg #[.slice (some ⟨b0, o0 + 2, none⟩) wv.L.length (c - 2), .slice aK wv.K.length cK, .slice (some ⟨gO, 0, none⟩) wv.O.length cO, .slice aK wv.K.length cK, .slice aS wv.S.length cS, .slice aP wv.P.length cP, .slice aD wv.D.length cD], .slice (some ⟨g9, 0, none⟩) S.length c9, .int .i64 0]) ?_ rfl ⟨_, _, _, _, _, _, rfl, ⟨b0, o0, rfl, rfl⟩, FZ.rows⟩
  rw [results_ctt rfl]
  go_simp
end Go.Proofs.Ytmjcpgfekpedkaa
