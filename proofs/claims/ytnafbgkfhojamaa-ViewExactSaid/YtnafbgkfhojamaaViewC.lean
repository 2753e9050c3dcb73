/- The argument of layer 7's laws; what is too heavy. -/
import Derived.Test.YtnafbgkfhojamaaViewB
import Derived.Test.YtnafbgkfhojamaaOpen
import Derived.Sort.AtCall
set_option linter.unusedVariables false
set_option linter.unusedSimpArgs false
namespace Go.Rt
open Go.RowKit Go.ChangeShapes Go.WideShapes Go.Deep
section
variable {H : Type} {enc : TypeId × Value → H} {P : Program} {w : World} {spare : Nat → Bool} {held : Bool}
theorem trod_ints_cap {t e : TypeId} {k : IntKind} {fuel : Nat} {v : Value} {x : DataW H × List MemPlace} (ht : P.underlying t = some (.slice e)) (he : P.underlying e = some (.int k)) (hc : P.cellsOf e = 1)
    (h : DataW.trod enc P w 0 spare held fuel t [v] = some x) : ∃ a xs c, v = .slice a xs.length c ∧ Ints k w w.heap.size a xs ∧ xs.length ≤ c ∧ c ≤ 9223372036854775807 := by
  obtain ⟨a, xs, c, rfl, hI⟩ := trod_ints ht he hc h
  refine ⟨a, xs, c, rfl, hI, ?_⟩
  rcases open_ints ht he hc h with ⟨hcs, _⟩ | ⟨a, len, cap, zs, hcs, _, hl, hm, hz, _, hcell, hwf⟩
  · simp at hcs
    obtain ⟨_, h1, h2⟩ := hcs
    rw [h1, h2]
    simp
  · simp at hcs
    obtain ⟨_, h1, h2⟩ := hcs
    unfold maxLen at hm
    omega
end
end Go.Rt
namespace Go.Proofs.Ytnafbgkfhojamaa
open Go.ChangeShapes Go.WideShapes Go.RowKit Go.Rt
/-- An element: a view, words, axes, a shape, three numbers, a tensor. -/
structure AskAt (w : World) (hi b0 o : Nat) (a b ad ax as_ tp tq : Option Addr) (c d cd cx cs cp cq : Nat) (sh st data axs ss tsh tys : List Int) (off p1 p2 p3 : Int) : Prop where
  lt : b0 < hi
  cell : ∀ j v, [.slice a sh.length c, .slice b st.length d, .int .i64 off, .slice ad data.length cd, .slice ax axs.length cx, .slice as_ ss.length cs, .int .i64 p1, .int .i64 p2, .int .i64 p3, .slice tp tsh.length cp, .slice tq tys.length cq][j]? = some v → w.cell? ⟨b0, o + j, none⟩ = some v
  iS : Ints .i64 w hi a sh
  iT : Ints .i64 w hi b st
  iD : Ints .i64 w hi ad data
  iX : Ints .i64 w hi ax axs
  iG : Ints .i64 w hi as_ ss
  iP : Ints .i64 w hi tp tsh
  iQ : Ints .i64 w hi tq tys
  r0 : -9223372036854775808 ≤ off ∧ off ≤ 9223372036854775807
  r1 : -9223372036854775808 ≤ p1 ∧ p1 ≤ 9223372036854775807
  r2 : -9223372036854775808 ≤ p2 ∧ p2 ≤ 9223372036854775807
  r3 : -9223372036854775808 ≤ p3 ∧ p3 ≤ 9223372036854775807
theorem AskAt.below {w w' : World} {hi b0 o : Nat} {a b ad ax as_ tp tq : Option Addr} {c d cd cx cs cp cq : Nat} {sh st data axs ss tsh tys : List Int} {off p1 p2 p3 : Int} (h : AskAt w hi b0 o a b ad ax as_ tp tq c d cd cx cs cp cq sh st data axs ss tsh tys off p1 p2 p3) (hb : Below hi w w') : AskAt w' hi b0 o a b ad ax as_ tp tq c d cd cx cs cp cq sh st data axs ss tsh tys off p1 p2 p3 :=
  ⟨h.lt, fun j v hv => (hb.cell (p := ⟨b0, o + j, none⟩) h.lt).trans (h.cell j v hv), h.iS.below hb (Nat.le_refl _), h.iT.below hb (Nat.le_refl _), h.iD.below hb (Nat.le_refl _), h.iX.below hb (Nat.le_refl _), h.iG.below hb (Nat.le_refl _), h.iP.below hb (Nat.le_refl _), h.iQ.below hb (Nat.le_refl _), h.r0, h.r1, h.r2, h.r3⟩
structure AsksAt (w : World) (hi : Nat) (q : Option Addr) (n : Nat) : Prop where
  len : n ≤ 9223372036854775807
  at_ : ∀ i, i < n → ∃ b0 o_, q = some ⟨b0, o_, none⟩ ∧ ∃ a b ad ax as_ tp tq c d cd cx cs cp cq sh st data axs ss tsh tys off p1 p2 p3, AskAt w hi b0 (o_ + i * 11) a b ad ax as_ tp tq c d cd cx cs cp cq sh st data axs ss tsh tys off p1 p2 p3
theorem own7 : ownKnob Try.prog.godebug = none := by kernel_rfl
theorem laidOut7 : laidOutB Try.prog = true := by kernel_rfl
theorem cellsInt7 : Try.prog.cellsOf 3 = 1 := by kernel_rfl
theorem cellsI64 : Try.prog.cellsOf 2 = 1 := by kernel_rfl
theorem cellsInts7 : Try.prog.cellsOf 23 = 1 := by kernel_rfl
theorem cellsWords7 : Try.prog.cellsOf 26 = 1 := by kernel_rfl
theorem cellsView7 : Try.prog.cellsOf 25 = 3 := by kernel_rfl
theorem cellsTen7 : Try.prog.cellsOf 28 = 2 := by kernel_rfl
theorem cellsAsk7 : Try.prog.cellsOf 30 = 11 := by kernel_rfl
theorem list11 {α : Type} {cs : List α} (h : cs.length = 11) : ∃ v0 v1 v2 v3 v4 v5 v6 v7 v8 v9 v10, cs = [v0, v1, v2, v3, v4, v5, v6, v7, v8, v9, v10] := by
  match cs, h with
  | [v0, v1, v2, v3, v4, v5, v6, v7, v8, v9, v10], _ => exact ⟨v0, v1, v2, v3, v4, v5, v6, v7, v8, v9, v10, rfl⟩
theorem view_of_trod {H : Type} {enc : TypeId × Value → H} {W : World} {spare : Nat → Bool} {held : Bool} {fuel : Nat} {v0 v1 v2 : Value} {x : DataW H × List MemPlace}
    (h : DataW.trod enc Try.prog W 0 spare held fuel 25 [v0, v1, v2] = some x) :
    ∃ a xs c b ys d k, v0 = .slice a xs.length c ∧ v1 = .slice b ys.length d ∧ v2 = .int .i64 k ∧ Ints .i64 W W.heap.size a xs ∧ Ints .i64 W W.heap.size b ys ∧ (-9223372036854775808 ≤ k ∧ k ≤ 9223372036854775807) := by
  obtain ⟨n0, y0, u0, hu0, ht0⟩ := trod_field1 Try.underlying25 h 0 _ rfl cellsInts7 (by show 0 < 3; omega)
  obtain ⟨n1, y1, u1, hu1, ht1⟩ := trod_field1 Try.underlying25 h 1 _ rfl cellsInts7 (by show 1 < 3; omega)
  obtain ⟨n2, y2, u2, hu2, ht2⟩ := trod_field1 Try.underlying25 h 2 _ rfl cellsInt7 (by show 2 < 3; omega)
  have hu0' : v0 = u0 := by simpa using hu0
  have hu1' : v1 = u1 := by simpa using hu1
  have hu2' : v2 = u2 := by simpa using hu2
  subst hu0'; subst hu1'; subst hu2'
  obtain ⟨a, xs, c, rfl, hI, _, _⟩ := trod_ints_cap Try.underlying23 Try.underlying3 cellsInt7 ht0
  obtain ⟨b, ys, d, rfl, hJ, _, _⟩ := trod_ints_cap Try.underlying23 Try.underlying3 cellsInt7 ht1
  obtain ⟨k1, hk1, _, hw1⟩ := DataW.trod_int Try.underlying3 ht2
  simp at hk1
  subst hk1
  exact ⟨a, xs, c, b, ys, d, k1, rfl, rfl, rfl, hI, hJ, wf_i64_iff.1 hw1⟩
theorem ten7_of_trod {H : Type} {enc : TypeId × Value → H} {W : World} {spare : Nat → Bool} {held : Bool} {fuel : Nat} {v0 v1 : Value} {x : DataW H × List MemPlace}
    (h : DataW.trod enc Try.prog W 0 spare held fuel 28 [v0, v1] = some x) :
    ∃ a xs c b ys d, v0 = .slice a xs.length c ∧ v1 = .slice b ys.length d ∧ Ints .i64 W W.heap.size a xs ∧ Ints .i64 W W.heap.size b ys := by
  obtain ⟨n0, y0, u0, hu0, ht0⟩ := trod_field1 Try.underlying28 h 0 _ rfl cellsInts7 (by show 0 < 2; omega)
  obtain ⟨n1, y1, u1, hu1, ht1⟩ := trod_field1 Try.underlying28 h 1 _ rfl cellsWords7 (by show 1 < 2; omega)
  have hu0' : v0 = u0 := by simpa using hu0
  have hu1' : v1 = u1 := by simpa using hu1
  subst hu0'; subst hu1'
  obtain ⟨a, xs, c, rfl, hI, _, _⟩ := trod_ints_cap Try.underlying23 Try.underlying3 cellsInt7 ht0
  obtain ⟨b, ys, d, rfl, hJ, _, _⟩ := trod_ints_cap Try.underlying26 Try.underlying2 cellsI64 ht1
  exact ⟨a, xs, c, b, ys, d, rfl, rfl, hI, hJ⟩
theorem asks_of_trod {H : Type} {enc : TypeId × Value → H} {W : World} {spare : Nat → Bool} {held : Bool} {a : Option Addr} {n c : Nat} {d : DataW H} {ps : List MemPlace}
    (h : DataW.Trod enc Try.prog W 0 spare held 22 (.slice a n c) d ps) : AsksAt W W.heap.size a n := by
  obtain ⟨fuel, hf⟩ := h
  simp only [Value.cells] at hf
  obtain ⟨a', len, cap, he, hlen, hat⟩ := trod_elems Try.underlying22 (by rw [cellsAsk7]; omega) hf
  injection he with e1 e2 e3
  subst e1; subst e2; subst e3
  refine ⟨hlen, fun i hi => ?_⟩
  obtain ⟨b, off, cs, m, y, rfl, hb, hcl, hcell, hy⟩ := hat i hi
  rw [cellsAsk7] at hcl hcell
  obtain ⟨v0, v1, v2, v3, v4, v5, v6, v7, v8, v9, v10, rfl⟩ := list11 hcl
  obtain ⟨n0, y0, ht0⟩ := trod_field Try.underlying30 hy 0 _ rfl
  have e3 : (([v0, v1, v2, v3, v4, v5, v6, v7, v8, v9, v10].drop 0).take (Try.prog.cellsOf 25)) = [v0, v1, v2] := by rw [cellsView7]; rfl
  have ht0' : DataW.trod enc Try.prog W 0 spare held n0 25 [v0, v1, v2] = some y0 := by rw [← e3]; exact ht0
  obtain ⟨n7, y7, ht7⟩ := trod_field Try.underlying30 hy 7 _ rfl
  have e5 : (([v0, v1, v2, v3, v4, v5, v6, v7, v8, v9, v10].drop 9).take (Try.prog.cellsOf 28)) = [v9, v10] := by rw [cellsTen7]; rfl
  have ht7' : DataW.trod enc Try.prog W 0 spare held n7 28 [v9, v10] = some y7 := by rw [← e5]; exact ht7
  obtain ⟨n1, y1, u3, hu3, ht1⟩ := trod_field1 Try.underlying30 hy 1 _ rfl cellsWords7 (by show 3 < 11; omega)
  obtain ⟨n2, y2, u4, hu4, ht2⟩ := trod_field1 Try.underlying30 hy 2 _ rfl cellsInts7 (by show 4 < 11; omega)
  obtain ⟨n3, y3, u5, hu5, ht3⟩ := trod_field1 Try.underlying30 hy 3 _ rfl cellsInts7 (by show 5 < 11; omega)
  obtain ⟨n4, y4, u6, hu6, ht4⟩ := trod_field1 Try.underlying30 hy 4 _ rfl cellsInt7 (by show 6 < 11; omega)
  obtain ⟨n5, y5, u7, hu7, ht5⟩ := trod_field1 Try.underlying30 hy 5 _ rfl cellsInt7 (by show 7 < 11; omega)
  obtain ⟨n6, y6, u8, hu8, ht6⟩ := trod_field1 Try.underlying30 hy 6 _ rfl cellsInt7 (by show 8 < 11; omega)
  have hu3' : v3 = u3 := by simpa using hu3
  have hu4' : v4 = u4 := by simpa using hu4
  have hu5' : v5 = u5 := by simpa using hu5
  have hu6' : v6 = u6 := by simpa using hu6
  have hu7' : v7 = u7 := by simpa using hu7
  have hu8' : v8 = u8 := by simpa using hu8
  subst hu3'; subst hu4'; subst hu5'; subst hu6'; subst hu7'; subst hu8'
  obtain ⟨a1, xs1, c1, a2, xs2, c2, k0, rfl, rfl, rfl, hI1, hI2, hk0⟩ := view_of_trod ht0'
  obtain ⟨a6, xs6, c6, a7, xs7, c7, rfl, rfl, hI6, hI7⟩ := ten7_of_trod ht7'
  obtain ⟨a3, xs3, c3, rfl, hI3, _, _⟩ := trod_ints_cap Try.underlying26 Try.underlying2 cellsI64 ht1
  obtain ⟨a4, xs4, c4, rfl, hI4, _, _⟩ := trod_ints_cap Try.underlying23 Try.underlying3 cellsInt7 ht2
  obtain ⟨a5, xs5, c5, rfl, hI5, _, _⟩ := trod_ints_cap Try.underlying23 Try.underlying3 cellsInt7 ht3
  obtain ⟨k1, hk1, _, hw1⟩ := DataW.trod_int Try.underlying3 ht4
  obtain ⟨k2, hk2, _, hw2⟩ := DataW.trod_int Try.underlying3 ht5
  obtain ⟨k3, hk3, _, hw3⟩ := DataW.trod_int Try.underlying3 ht6
  simp at hk1 hk2 hk3
  subst hk1; subst hk2; subst hk3
  refine ⟨b, off, rfl, a1, a2, a3, a4, a5, a6, a7, c1, c2, c3, c4, c5, c6, c7, xs1, xs2, xs3, xs4, xs5, xs6, xs7, k0, k1, k2, k3, hb, fun j v hj => ?_, hI1, hI2, hI3, hI4, hI5, hI6, hI7, hk0, wf_i64_iff.1 hw1, wf_i64_iff.1 hw2, wf_i64_iff.1 hw3⟩
  have hj2 : j < 11 := by have := (List.getElem?_eq_some_iff.1 hj).1; simpa using this
  exact (hcell j hj2).trans hj
/-- More than is played? -/
def heavy7 (sh : List Int) (dl tsl tl sl al : Nat) : Bool := decide ((80 : Int) < dl) || ((decide ((80 : Int) < tl) || decide (8 < tsl)) || (decide ((10 : Int) < sh.length) || (decide ((10 : Int) < sl) || (decide ((10 : Int) < al) || (goodB sh && decide ((200 : Int) < countE sh))))))
theorem heavy7_no {sh : List Int} {dl tsl tl sl al : Nat} (h : heavy7 sh dl tsl tl sl al = false) : dl ≤ 80 ∧ tl ≤ 80 ∧ tsl ≤ 8 ∧ sh.length ≤ 10 ∧ sl ≤ 10 ∧ al ≤ 10 ∧ (goodB sh = true → prodI sh ≤ 200) := by
  unfold heavy7 at h
  simp only [Bool.or_eq_false_iff, decide_eq_false_iff_not, Bool.and_eq_false_iff] at h
  obtain ⟨h1, ⟨h2, h3⟩, h4, h5, h6, h7⟩ := h
  refine ⟨by omega, by omega, by omega, by omega, by omega, by omega, fun hg => ?_⟩
  rcases h7 with h7 | h7
  · rw [hg] at h7; cases h7
  · rw [countE_good hg] at h7; omega
set_option maxRecDepth 100000 in
set_option maxHeartbeats 2000000 in
theorem heavy7_any (a b ad ax as_ tp tq : Option Addr) (c d cd cx cs cp cq : Nat) (sh st data axs ss tsh tys : List Int) (off p1 p2 p3 : Int) (w : World) (h : Ints .i64 w w.heap.size a sh) (hd : data.length ≤ 9223372036854775807) (hx : axs.length ≤ 9223372036854775807) (hs : ss.length ≤ 9223372036854775807) (ht : tsh.length ≤ 9223372036854775807) (hq : tys.length ≤ 9223372036854775807) :
    Calls Try.prog 7 #[.agg #[.slice a sh.length c, .slice b st.length d, .int .i64 off, .slice ad data.length cd, .slice ax axs.length cx, .slice as_ ss.length cs, .int .i64 p1, .int .i64 p2, .int .i64 p3, .slice tp tsh.length cp, .slice tq tys.length cq]] w fun e w' => e = .returned (.bool (heavy7 sh data.length tsh.length tys.length ss.length axs.length)) ∧ Below w.heap.size w w' := by
  have hl := h.len
  have HH := Lib.hid h
  clear h
  by_cases e0 : (data.length : Int) ≤ 80
  case neg =>
    have m0 : 80 < (data.length : Int) := by omega
    have HV : Hid (heavy7 sh data.length tsh.length tys.length ss.length axs.length = true) := Lib.hid (by unfold heavy7; simp [*]; try omega)
    go_enter Try.func7, Try.ntmps7
    have F1 := Lib.hid ((Fr.start (w := w) (I := [(.i64, a, sh)]) (by intro z hz; simp at hz; subst hz; exact HH.out)).box1 (b := w.heap.size) rfl [.slice a sh.length c, .slice b st.length d, .int .i64 off, .slice ad data.length cd, .slice ax axs.length cx, .slice as_ ss.length cs, .int .i64 p1, .int .i64 p2, .int .i64 p3, .slice tp tsh.length cp, .slice tq tys.length cq] 30)
    simp only [List.nil_append] at F1
    go_upto_region 1 with fail
    obtain ⟨W1, hW1⟩ : ∃ W1, (w.alloc (.cells #[.slice a sh.length c, .slice b st.length d, .int .i64 off, .slice ad data.length cd, .slice ax axs.length cx, .slice as_ ss.length cs, .int .i64 p1, .int .i64 p2, .int .i64 p3, .slice tp tsh.length cp, .slice tq tys.length cq] 30)) = W1 := ⟨_, rfl⟩
    rw [hW1] at F1 ⊢
    clear hW1
    have c0_0 := F1.out.c 0 0 rfl rfl
    have c0_1 := F1.out.c 0 1 rfl rfl
    have c0_2 := F1.out.c 0 2 rfl rfl
    have c0_3 := F1.out.c 0 3 rfl rfl
    have c0_4 := F1.out.c 0 4 rfl rfl
    have c0_5 := F1.out.c 0 5 rfl rfl
    have c0_6 := F1.out.c 0 6 rfl rfl
    have c0_7 := F1.out.c 0 7 rfl rfl
    have c0_8 := F1.out.c 0 8 rfl rfl
    have c0_9 := F1.out.c 0 9 rfl rfl
    have c0_10 := F1.out.c 0 10 rfl rfl
    go_wp2_with fail
    go_ret
    exact ⟨ret_bool (by first | exact HV.out.symm | (rw [HV.out]; simp only [Bool.or_eq_false_iff, decide_eq_false_iff_not]; omega)), F1.out.bel⟩
  by_cases e1 : tys.length ≤ 80 ∧ tsh.length ≤ 8
  case neg =>
    by_cases e1a : tys.length ≤ 80
    case neg =>
      have e1b : (80 : Int) < (tys.length : Int) := by omega
      have e0b : ¬ (80 : Int) < (data.length : Int) := by omega
      have HV : Hid (heavy7 sh data.length tsh.length tys.length ss.length axs.length = true) := Lib.hid (by unfold heavy7; simp [*]; try omega)
      go_enter Try.func7, Try.ntmps7
      have F1 := Lib.hid ((Fr.start (w := w) (I := [(.i64, a, sh)]) (by intro z hz; simp at hz; subst hz; exact HH.out)).box1 (b := w.heap.size) rfl [.slice a sh.length c, .slice b st.length d, .int .i64 off, .slice ad data.length cd, .slice ax axs.length cx, .slice as_ ss.length cs, .int .i64 p1, .int .i64 p2, .int .i64 p3, .slice tp tsh.length cp, .slice tq tys.length cq] 30)
      simp only [List.nil_append] at F1
      go_upto_region 1 with fail
      obtain ⟨W1, hW1⟩ : ∃ W1, (w.alloc (.cells #[.slice a sh.length c, .slice b st.length d, .int .i64 off, .slice ad data.length cd, .slice ax axs.length cx, .slice as_ ss.length cs, .int .i64 p1, .int .i64 p2, .int .i64 p3, .slice tp tsh.length cp, .slice tq tys.length cq] 30)) = W1 := ⟨_, rfl⟩
      rw [hW1] at F1 ⊢
      clear hW1
      have c0_0 := F1.out.c 0 0 rfl rfl
      have c0_1 := F1.out.c 0 1 rfl rfl
      have c0_2 := F1.out.c 0 2 rfl rfl
      have c0_3 := F1.out.c 0 3 rfl rfl
      have c0_4 := F1.out.c 0 4 rfl rfl
      have c0_5 := F1.out.c 0 5 rfl rfl
      have c0_6 := F1.out.c 0 6 rfl rfl
      have c0_7 := F1.out.c 0 7 rfl rfl
      have c0_8 := F1.out.c 0 8 rfl rfl
      have c0_9 := F1.out.c 0 9 rfl rfl
      have c0_10 := F1.out.c 0 10 rfl rfl
      go_wp2_with (first | (go_at_call 44; refine (heavyT_any tp tq tsh.length cp tys.length cq 80 W1 ht hq).mono ?_; rintro e w2 ⟨rfl, hb⟩; have F2 := Lib.hid (F1.out.next hb); clear hb F1 c0_0 c0_1 c0_2 c0_3 c0_4 c0_5 c0_6 c0_7 c0_8 c0_9 c0_10; have d0_0 := F2.out.c 0 0 rfl rfl; have d0_1 := F2.out.c 0 1 rfl rfl; have d0_2 := F2.out.c 0 2 rfl rfl; have d0_3 := F2.out.c 0 3 rfl rfl; have d0_4 := F2.out.c 0 4 rfl rfl; have d0_5 := F2.out.c 0 5 rfl rfl; have d0_6 := F2.out.c 0 6 rfl rfl; have d0_7 := F2.out.c 0 7 rfl rfl; have d0_8 := F2.out.c 0 8 rfl rfl; have d0_9 := F2.out.c 0 9 rfl rfl; have d0_10 := F2.out.c 0 10 rfl rfl))
      go_ret
      exact ⟨ret_bool (by first | exact HV.out.symm | (rw [HV.out]; simp only [Bool.or_eq_false_iff, decide_eq_false_iff_not]; omega)), F2.out.bel⟩
    have e1b : 8 < tsh.length := by omega
    have e1c : ¬ (80 : Int) < (tys.length : Int) := by omega
    have e0b : ¬ (80 : Int) < (data.length : Int) := by omega
    have HV : Hid (heavy7 sh data.length tsh.length tys.length ss.length axs.length = true) := Lib.hid (by unfold heavy7; simp [*]; try omega)
    go_enter Try.func7, Try.ntmps7
    have F1 := Lib.hid ((Fr.start (w := w) (I := [(.i64, a, sh)]) (by intro z hz; simp at hz; subst hz; exact HH.out)).box1 (b := w.heap.size) rfl [.slice a sh.length c, .slice b st.length d, .int .i64 off, .slice ad data.length cd, .slice ax axs.length cx, .slice as_ ss.length cs, .int .i64 p1, .int .i64 p2, .int .i64 p3, .slice tp tsh.length cp, .slice tq tys.length cq] 30)
    simp only [List.nil_append] at F1
    go_upto_region 1 with fail
    obtain ⟨W1, hW1⟩ : ∃ W1, (w.alloc (.cells #[.slice a sh.length c, .slice b st.length d, .int .i64 off, .slice ad data.length cd, .slice ax axs.length cx, .slice as_ ss.length cs, .int .i64 p1, .int .i64 p2, .int .i64 p3, .slice tp tsh.length cp, .slice tq tys.length cq] 30)) = W1 := ⟨_, rfl⟩
    rw [hW1] at F1 ⊢
    clear hW1
    have c0_0 := F1.out.c 0 0 rfl rfl
    have c0_1 := F1.out.c 0 1 rfl rfl
    have c0_2 := F1.out.c 0 2 rfl rfl
    have c0_3 := F1.out.c 0 3 rfl rfl
    have c0_4 := F1.out.c 0 4 rfl rfl
    have c0_5 := F1.out.c 0 5 rfl rfl
    have c0_6 := F1.out.c 0 6 rfl rfl
    have c0_7 := F1.out.c 0 7 rfl rfl
    have c0_8 := F1.out.c 0 8 rfl rfl
    have c0_9 := F1.out.c 0 9 rfl rfl
    have c0_10 := F1.out.c 0 10 rfl rfl
    go_wp2_with (first | (go_at_call 44; refine (heavyT_any tp tq tsh.length cp tys.length cq 80 W1 ht hq).mono ?_; rintro e w2 ⟨rfl, hb⟩; have F2 := Lib.hid (F1.out.next hb); clear hb F1 c0_0 c0_1 c0_2 c0_3 c0_4 c0_5 c0_6 c0_7 c0_8 c0_9 c0_10; have d0_0 := F2.out.c 0 0 rfl rfl; have d0_1 := F2.out.c 0 1 rfl rfl; have d0_2 := F2.out.c 0 2 rfl rfl; have d0_3 := F2.out.c 0 3 rfl rfl; have d0_4 := F2.out.c 0 4 rfl rfl; have d0_5 := F2.out.c 0 5 rfl rfl; have d0_6 := F2.out.c 0 6 rfl rfl; have d0_7 := F2.out.c 0 7 rfl rfl; have d0_8 := F2.out.c 0 8 rfl rfl; have d0_9 := F2.out.c 0 9 rfl rfl; have d0_10 := F2.out.c 0 10 rfl rfl))
    go_ret
    exact ⟨ret_bool (by first | exact HV.out.symm | (rw [HV.out]; simp only [Bool.or_eq_false_iff, decide_eq_false_iff_not]; omega)), F2.out.bel⟩
  by_cases e2 : (sh.length : Int) ≤ 10
  case neg =>
    have n0 : ¬ 80 < (data.length : Int) := by omega
    obtain ⟨f1, f2⟩ := e1
    have f1b : ¬ (80 : Int) < (tys.length : Int) := by omega
    have f2b : ¬ 8 < tsh.length := by omega
    have m2 : 10 < (sh.length : Int) := by omega
    have HV : Hid (heavy7 sh data.length tsh.length tys.length ss.length axs.length = true) := Lib.hid (by unfold heavy7; simp [*]; try omega)
    go_enter Try.func7, Try.ntmps7
    have F1 := Lib.hid ((Fr.start (w := w) (I := [(.i64, a, sh)]) (by intro z hz; simp at hz; subst hz; exact HH.out)).box1 (b := w.heap.size) rfl [.slice a sh.length c, .slice b st.length d, .int .i64 off, .slice ad data.length cd, .slice ax axs.length cx, .slice as_ ss.length cs, .int .i64 p1, .int .i64 p2, .int .i64 p3, .slice tp tsh.length cp, .slice tq tys.length cq] 30)
    simp only [List.nil_append] at F1
    go_upto_region 1 with fail
    obtain ⟨W1, hW1⟩ : ∃ W1, (w.alloc (.cells #[.slice a sh.length c, .slice b st.length d, .int .i64 off, .slice ad data.length cd, .slice ax axs.length cx, .slice as_ ss.length cs, .int .i64 p1, .int .i64 p2, .int .i64 p3, .slice tp tsh.length cp, .slice tq tys.length cq] 30)) = W1 := ⟨_, rfl⟩
    rw [hW1] at F1 ⊢
    clear hW1
    have c0_0 := F1.out.c 0 0 rfl rfl
    have c0_1 := F1.out.c 0 1 rfl rfl
    have c0_2 := F1.out.c 0 2 rfl rfl
    have c0_3 := F1.out.c 0 3 rfl rfl
    have c0_4 := F1.out.c 0 4 rfl rfl
    have c0_5 := F1.out.c 0 5 rfl rfl
    have c0_6 := F1.out.c 0 6 rfl rfl
    have c0_7 := F1.out.c 0 7 rfl rfl
    have c0_8 := F1.out.c 0 8 rfl rfl
    have c0_9 := F1.out.c 0 9 rfl rfl
    have c0_10 := F1.out.c 0 10 rfl rfl
    go_wp2_with (first | (go_at_call 44; refine (heavyT_any tp tq tsh.length cp tys.length cq 80 W1 ht hq).mono ?_; rintro e w2 ⟨rfl, hb⟩; have F2 := Lib.hid (F1.out.next hb); clear hb F1 c0_0 c0_1 c0_2 c0_3 c0_4 c0_5 c0_6 c0_7 c0_8 c0_9 c0_10; have d0_0 := F2.out.c 0 0 rfl rfl; have d0_1 := F2.out.c 0 1 rfl rfl; have d0_2 := F2.out.c 0 2 rfl rfl; have d0_3 := F2.out.c 0 3 rfl rfl; have d0_4 := F2.out.c 0 4 rfl rfl; have d0_5 := F2.out.c 0 5 rfl rfl; have d0_6 := F2.out.c 0 6 rfl rfl; have d0_7 := F2.out.c 0 7 rfl rfl; have d0_8 := F2.out.c 0 8 rfl rfl; have d0_9 := F2.out.c 0 9 rfl rfl; have d0_10 := F2.out.c 0 10 rfl rfl))
    go_ret
    exact ⟨ret_bool (by first | exact HV.out.symm | (rw [HV.out]; simp only [Bool.or_eq_false_iff, decide_eq_false_iff_not]; omega)), F2.out.bel⟩
  by_cases e3 : (ss.length : Int) ≤ 10
  case neg =>
    have n0 : ¬ 80 < (data.length : Int) := by omega
    obtain ⟨f1, f2⟩ := e1
    have f1b : ¬ (80 : Int) < (tys.length : Int) := by omega
    have f2b : ¬ 8 < tsh.length := by omega
    have n2 : ¬ 10 < (sh.length : Int) := by omega
    have m3 : 10 < (ss.length : Int) := by omega
    have HV : Hid (heavy7 sh data.length tsh.length tys.length ss.length axs.length = true) := Lib.hid (by unfold heavy7; simp [*]; try omega)
    go_enter Try.func7, Try.ntmps7
    have F1 := Lib.hid ((Fr.start (w := w) (I := [(.i64, a, sh)]) (by intro z hz; simp at hz; subst hz; exact HH.out)).box1 (b := w.heap.size) rfl [.slice a sh.length c, .slice b st.length d, .int .i64 off, .slice ad data.length cd, .slice ax axs.length cx, .slice as_ ss.length cs, .int .i64 p1, .int .i64 p2, .int .i64 p3, .slice tp tsh.length cp, .slice tq tys.length cq] 30)
    simp only [List.nil_append] at F1
    go_upto_region 1 with fail
    obtain ⟨W1, hW1⟩ : ∃ W1, (w.alloc (.cells #[.slice a sh.length c, .slice b st.length d, .int .i64 off, .slice ad data.length cd, .slice ax axs.length cx, .slice as_ ss.length cs, .int .i64 p1, .int .i64 p2, .int .i64 p3, .slice tp tsh.length cp, .slice tq tys.length cq] 30)) = W1 := ⟨_, rfl⟩
    rw [hW1] at F1 ⊢
    clear hW1
    have c0_0 := F1.out.c 0 0 rfl rfl
    have c0_1 := F1.out.c 0 1 rfl rfl
    have c0_2 := F1.out.c 0 2 rfl rfl
    have c0_3 := F1.out.c 0 3 rfl rfl
    have c0_4 := F1.out.c 0 4 rfl rfl
    have c0_5 := F1.out.c 0 5 rfl rfl
    have c0_6 := F1.out.c 0 6 rfl rfl
    have c0_7 := F1.out.c 0 7 rfl rfl
    have c0_8 := F1.out.c 0 8 rfl rfl
    have c0_9 := F1.out.c 0 9 rfl rfl
    have c0_10 := F1.out.c 0 10 rfl rfl
    go_wp2_with (first | (go_at_call 44; refine (heavyT_any tp tq tsh.length cp tys.length cq 80 W1 ht hq).mono ?_; rintro e w2 ⟨rfl, hb⟩; have F2 := Lib.hid (F1.out.next hb); clear hb F1 c0_0 c0_1 c0_2 c0_3 c0_4 c0_5 c0_6 c0_7 c0_8 c0_9 c0_10; have d0_0 := F2.out.c 0 0 rfl rfl; have d0_1 := F2.out.c 0 1 rfl rfl; have d0_2 := F2.out.c 0 2 rfl rfl; have d0_3 := F2.out.c 0 3 rfl rfl; have d0_4 := F2.out.c 0 4 rfl rfl; have d0_5 := F2.out.c 0 5 rfl rfl; have d0_6 := F2.out.c 0 6 rfl rfl; have d0_7 := F2.out.c 0 7 rfl rfl; have d0_8 := F2.out.c 0 8 rfl rfl; have d0_9 := F2.out.c 0 9 rfl rfl; have d0_10 := F2.out.c 0 10 rfl rfl))
    go_ret
    exact ⟨ret_bool (by first | exact HV.out.symm | (rw [HV.out]; simp only [Bool.or_eq_false_iff, decide_eq_false_iff_not]; omega)), F2.out.bel⟩
  by_cases e4 : (axs.length : Int) ≤ 10
  case neg =>
    have n0 : ¬ 80 < (data.length : Int) := by omega
    obtain ⟨f1, f2⟩ := e1
    have f1b : ¬ (80 : Int) < (tys.length : Int) := by omega
    have f2b : ¬ 8 < tsh.length := by omega
    have n2 : ¬ 10 < (sh.length : Int) := by omega
    have n3 : ¬ 10 < (ss.length : Int) := by omega
    have m4 : 10 < (axs.length : Int) := by omega
    have HV : Hid (heavy7 sh data.length tsh.length tys.length ss.length axs.length = true) := Lib.hid (by unfold heavy7; simp [*]; try omega)
    go_enter Try.func7, Try.ntmps7
    have F1 := Lib.hid ((Fr.start (w := w) (I := [(.i64, a, sh)]) (by intro z hz; simp at hz; subst hz; exact HH.out)).box1 (b := w.heap.size) rfl [.slice a sh.length c, .slice b st.length d, .int .i64 off, .slice ad data.length cd, .slice ax axs.length cx, .slice as_ ss.length cs, .int .i64 p1, .int .i64 p2, .int .i64 p3, .slice tp tsh.length cp, .slice tq tys.length cq] 30)
    simp only [List.nil_append] at F1
    go_upto_region 1 with fail
    obtain ⟨W1, hW1⟩ : ∃ W1, (w.alloc (.cells #[.slice a sh.length c, .slice b st.length d, .int .i64 off, .slice ad data.length cd, .slice ax axs.length cx, .slice as_ ss.length cs, .int .i64 p1, .int .i64 p2, .int .i64 p3, .slice tp tsh.length cp, .slice tq tys.length cq] 30)) = W1 := ⟨_, rfl⟩
    rw [hW1] at F1 ⊢
    clear hW1
    have c0_0 := F1.out.c 0 0 rfl rfl
    have c0_1 := F1.out.c 0 1 rfl rfl
    have c0_2 := F1.out.c 0 2 rfl rfl
    have c0_3 := F1.out.c 0 3 rfl rfl
    have c0_4 := F1.out.c 0 4 rfl rfl
    have c0_5 := F1.out.c 0 5 rfl rfl
    have c0_6 := F1.out.c 0 6 rfl rfl
    have c0_7 := F1.out.c 0 7 rfl rfl
    have c0_8 := F1.out.c 0 8 rfl rfl
    have c0_9 := F1.out.c 0 9 rfl rfl
    have c0_10 := F1.out.c 0 10 rfl rfl
    go_wp2_with (first | (go_at_call 44; refine (heavyT_any tp tq tsh.length cp tys.length cq 80 W1 ht hq).mono ?_; rintro e w2 ⟨rfl, hb⟩; have F2 := Lib.hid (F1.out.next hb); clear hb F1 c0_0 c0_1 c0_2 c0_3 c0_4 c0_5 c0_6 c0_7 c0_8 c0_9 c0_10; have d0_0 := F2.out.c 0 0 rfl rfl; have d0_1 := F2.out.c 0 1 rfl rfl; have d0_2 := F2.out.c 0 2 rfl rfl; have d0_3 := F2.out.c 0 3 rfl rfl; have d0_4 := F2.out.c 0 4 rfl rfl; have d0_5 := F2.out.c 0 5 rfl rfl; have d0_6 := F2.out.c 0 6 rfl rfl; have d0_7 := F2.out.c 0 7 rfl rfl; have d0_8 := F2.out.c 0 8 rfl rfl; have d0_9 := F2.out.c 0 9 rfl rfl; have d0_10 := F2.out.c 0 10 rfl rfl))
    go_ret
    exact ⟨ret_bool (by first | exact HV.out.symm | (rw [HV.out]; simp only [Bool.or_eq_false_iff, decide_eq_false_iff_not]; omega)), F2.out.bel⟩
  have n0 : ¬ 80 < (data.length : Int) := by omega
  obtain ⟨f1, f2⟩ := e1
  have f1b : ¬ (80 : Int) < (tys.length : Int) := by omega
  have f2b : ¬ 8 < tsh.length := by omega
  have n2 : ¬ 10 < (sh.length : Int) := by omega
  have n3 : ¬ 10 < (ss.length : Int) := by omega
  have n4 : ¬ 10 < (axs.length : Int) := by omega
  cases hg : goodB sh with
  | false =>
    have hmy := rmay_any a c w.heap.size sh
    have HV : Hid (heavy7 sh data.length tsh.length tys.length ss.length axs.length = false) := Lib.hid (by unfold heavy7; simp [*]; try omega)
    go_enter Try.func7, Try.ntmps7
    have F1 := Lib.hid ((Fr.start (w := w) (I := [(.i64, a, sh)]) (by intro z hz; simp at hz; subst hz; exact HH.out)).box1 (b := w.heap.size) rfl [.slice a sh.length c, .slice b st.length d, .int .i64 off, .slice ad data.length cd, .slice ax axs.length cx, .slice as_ ss.length cs, .int .i64 p1, .int .i64 p2, .int .i64 p3, .slice tp tsh.length cp, .slice tq tys.length cq] 30)
    simp only [List.nil_append] at F1
    go_upto_region 1 with fail
    obtain ⟨W1, hW1⟩ : ∃ W1, (w.alloc (.cells #[.slice a sh.length c, .slice b st.length d, .int .i64 off, .slice ad data.length cd, .slice ax axs.length cx, .slice as_ ss.length cs, .int .i64 p1, .int .i64 p2, .int .i64 p3, .slice tp tsh.length cp, .slice tq tys.length cq] 30)) = W1 := ⟨_, rfl⟩
    rw [hW1] at F1 ⊢
    clear hW1
    have c0_0 := F1.out.c 0 0 rfl rfl
    have c0_1 := F1.out.c 0 1 rfl rfl
    have c0_2 := F1.out.c 0 2 rfl rfl
    have c0_3 := F1.out.c 0 3 rfl rfl
    have c0_4 := F1.out.c 0 4 rfl rfl
    have c0_5 := F1.out.c 0 5 rfl rfl
    have c0_6 := F1.out.c 0 6 rfl rfl
    have c0_7 := F1.out.c 0 7 rfl rfl
    have c0_8 := F1.out.c 0 8 rfl rfl
    have c0_9 := F1.out.c 0 9 rfl rfl
    have c0_10 := F1.out.c 0 10 rfl rfl
    go_wp2_with (first | (go_at_call 44; refine (heavyT_any tp tq tsh.length cp tys.length cq 80 W1 ht hq).mono ?_; rintro e w2 ⟨rfl, hb⟩; have F2 := Lib.hid (F1.out.next hb); clear hb F1 c0_0 c0_1 c0_2 c0_3 c0_4 c0_5 c0_6 c0_7 c0_8 c0_9 c0_10; have d0_0 := F2.out.c 0 0 rfl rfl; have d0_1 := F2.out.c 0 1 rfl rfl; have d0_2 := F2.out.c 0 2 rfl rfl; have d0_3 := F2.out.c 0 3 rfl rfl; have d0_4 := F2.out.c 0 4 rfl rfl; have d0_5 := F2.out.c 0 5 rfl rfl; have d0_6 := F2.out.c 0 6 rfl rfl; have d0_7 := F2.out.c 0 7 rfl rfl; have d0_8 := F2.out.c 0 8 rfl rfl; have d0_9 := F2.out.c 0 9 rfl rfl; have d0_10 := F2.out.c 0 10 rfl rfl) | (go_at_call 31; refine (rmay_any a c _ sh w2 (F2.out.lw 0 rfl)).mono ?_; rintro e w' ⟨rfl, rfl⟩))
    go_ret
    exact ⟨ret_bool (by first | exact HV.out.symm | (rw [HV.out]; simp only [Bool.or_eq_false_iff, decide_eq_false_iff_not]; omega)), F2.out.bel⟩
  | true =>
    have HG := Lib.hid hg
    obtain ⟨T, hT⟩ : ∃ T, countE sh = T := ⟨_, rfl⟩
    by_cases e9 : 200 < T
    · skip
      have HV : Hid (heavy7 sh data.length tsh.length tys.length ss.length axs.length = true) := Lib.hid (by unfold heavy7; simp [*]; try omega)
      go_enter Try.func7, Try.ntmps7
      have F1 := Lib.hid ((Fr.start (w := w) (I := [(.i64, a, sh)]) (by intro z hz; simp at hz; subst hz; exact HH.out)).box1 (b := w.heap.size) rfl [.slice a sh.length c, .slice b st.length d, .int .i64 off, .slice ad data.length cd, .slice ax axs.length cx, .slice as_ ss.length cs, .int .i64 p1, .int .i64 p2, .int .i64 p3, .slice tp tsh.length cp, .slice tq tys.length cq] 30)
      simp only [List.nil_append] at F1
      go_upto_region 1 with fail
      obtain ⟨W1, hW1⟩ : ∃ W1, (w.alloc (.cells #[.slice a sh.length c, .slice b st.length d, .int .i64 off, .slice ad data.length cd, .slice ax axs.length cx, .slice as_ ss.length cs, .int .i64 p1, .int .i64 p2, .int .i64 p3, .slice tp tsh.length cp, .slice tq tys.length cq] 30)) = W1 := ⟨_, rfl⟩
      rw [hW1] at F1 ⊢
      clear hW1
      have c0_0 := F1.out.c 0 0 rfl rfl
      have c0_1 := F1.out.c 0 1 rfl rfl
      have c0_2 := F1.out.c 0 2 rfl rfl
      have c0_3 := F1.out.c 0 3 rfl rfl
      have c0_4 := F1.out.c 0 4 rfl rfl
      have c0_5 := F1.out.c 0 5 rfl rfl
      have c0_6 := F1.out.c 0 6 rfl rfl
      have c0_7 := F1.out.c 0 7 rfl rfl
      have c0_8 := F1.out.c 0 8 rfl rfl
      have c0_9 := F1.out.c 0 9 rfl rfl
      have c0_10 := F1.out.c 0 10 rfl rfl
      go_wp2_with (first | (go_at_call 44; refine (heavyT_any tp tq tsh.length cp tys.length cq 80 W1 ht hq).mono ?_; rintro e w2 ⟨rfl, hb⟩; have F2 := Lib.hid (F1.out.next hb); clear hb F1 c0_0 c0_1 c0_2 c0_3 c0_4 c0_5 c0_6 c0_7 c0_8 c0_9 c0_10; have d0_0 := F2.out.c 0 0 rfl rfl; have d0_1 := F2.out.c 0 1 rfl rfl; have d0_2 := F2.out.c 0 2 rfl rfl; have d0_3 := F2.out.c 0 3 rfl rfl; have d0_4 := F2.out.c 0 4 rfl rfl; have d0_5 := F2.out.c 0 5 rfl rfl; have d0_6 := F2.out.c 0 6 rfl rfl; have d0_7 := F2.out.c 0 7 rfl rfl; have d0_8 := F2.out.c 0 8 rfl rfl; have d0_9 := F2.out.c 0 9 rfl rfl; have d0_10 := F2.out.c 0 10 rfl rfl) | (go_at_call 31; refine (rmay_any a c _ sh w2 (F2.out.lw 0 rfl)).mono ?_; rintro e w' ⟨rfl, rfl⟩) | (go_at_call 27; refine (rcount_any a c _ sh w2 (F2.out.lw 0 rfl) (goodB_dims HG.out)).mono ?_; rintro e w' ⟨rfl, rfl⟩))
      go_ret
      exact ⟨ret_bool (by first | exact HV.out.symm | (rw [HV.out]; simp only [Bool.or_eq_false_iff, decide_eq_false_iff_not]; omega)), F2.out.bel⟩
    · skip
      have HV : Hid (heavy7 sh data.length tsh.length tys.length ss.length axs.length = false) := Lib.hid (by unfold heavy7; simp [*]; try omega)
      go_enter Try.func7, Try.ntmps7
      have F1 := Lib.hid ((Fr.start (w := w) (I := [(.i64, a, sh)]) (by intro z hz; simp at hz; subst hz; exact HH.out)).box1 (b := w.heap.size) rfl [.slice a sh.length c, .slice b st.length d, .int .i64 off, .slice ad data.length cd, .slice ax axs.length cx, .slice as_ ss.length cs, .int .i64 p1, .int .i64 p2, .int .i64 p3, .slice tp tsh.length cp, .slice tq tys.length cq] 30)
      simp only [List.nil_append] at F1
      go_upto_region 1 with fail
      obtain ⟨W1, hW1⟩ : ∃ W1, (w.alloc (.cells #[.slice a sh.length c, .slice b st.length d, .int .i64 off, .slice ad data.length cd, .slice ax axs.length cx, .slice as_ ss.length cs, .int .i64 p1, .int .i64 p2, .int .i64 p3, .slice tp tsh.length cp, .slice tq tys.length cq] 30)) = W1 := ⟨_, rfl⟩
      rw [hW1] at F1 ⊢
      clear hW1
      have c0_0 := F1.out.c 0 0 rfl rfl
      have c0_1 := F1.out.c 0 1 rfl rfl
      have c0_2 := F1.out.c 0 2 rfl rfl
      have c0_3 := F1.out.c 0 3 rfl rfl
      have c0_4 := F1.out.c 0 4 rfl rfl
      have c0_5 := F1.out.c 0 5 rfl rfl
      have c0_6 := F1.out.c 0 6 rfl rfl
      have c0_7 := F1.out.c 0 7 rfl rfl
      have c0_8 := F1.out.c 0 8 rfl rfl
      have c0_9 := F1.out.c 0 9 rfl rfl
      have c0_10 := F1.out.c 0 10 rfl rfl
      go_wp2_with (first | (go_at_call 44; refine (heavyT_any tp tq tsh.length cp tys.length cq 80 W1 ht hq).mono ?_; rintro e w2 ⟨rfl, hb⟩; have F2 := Lib.hid (F1.out.next hb); clear hb F1 c0_0 c0_1 c0_2 c0_3 c0_4 c0_5 c0_6 c0_7 c0_8 c0_9 c0_10; have d0_0 := F2.out.c 0 0 rfl rfl; have d0_1 := F2.out.c 0 1 rfl rfl; have d0_2 := F2.out.c 0 2 rfl rfl; have d0_3 := F2.out.c 0 3 rfl rfl; have d0_4 := F2.out.c 0 4 rfl rfl; have d0_5 := F2.out.c 0 5 rfl rfl; have d0_6 := F2.out.c 0 6 rfl rfl; have d0_7 := F2.out.c 0 7 rfl rfl; have d0_8 := F2.out.c 0 8 rfl rfl; have d0_9 := F2.out.c 0 9 rfl rfl; have d0_10 := F2.out.c 0 10 rfl rfl) | (go_at_call 31; refine (rmay_any a c _ sh w2 (F2.out.lw 0 rfl)).mono ?_; rintro e w' ⟨rfl, rfl⟩) | (go_at_call 27; refine (rcount_any a c _ sh w2 (F2.out.lw 0 rfl) (goodB_dims HG.out)).mono ?_; rintro e w' ⟨rfl, rfl⟩))
      go_ret
      exact ⟨ret_bool (by first | exact HV.out.symm | (rw [HV.out]; simp only [Bool.or_eq_false_iff, decide_eq_false_iff_not]; omega)), F2.out.bel⟩
end Go.Proofs.Ytnafbgkfhojamaa
