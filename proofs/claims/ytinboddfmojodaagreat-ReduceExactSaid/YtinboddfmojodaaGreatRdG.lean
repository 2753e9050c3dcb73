/- Layer 9: small functions, the argument in memory. -/
import Derived.Test.YtinboddfmojodaaGreatRdM
import Derived.Test.YtinboddfmojodaaGreatRdU
set_option linter.unusedVariables false
set_option linter.unusedSimpArgs false
namespace Go.Proofs.YtinboddfmojodaaGreat
open Go.ChangeShapes Go.WideShapes Go.RowKit Go.Rt

theorem num9_any (e : Int) (w : World) : Calls Tryz.prog 39 #[.int .i64 e] w fun r w' => r = .returned (.int .i64 e) ∧ w = w' := by
  go_enter Tryz.func39, Tryz.ntmps39
  go_wp2
  go_ret
  exact ⟨by first | rfl | simp, rfl⟩
theorem wakesS (W : World) (b0 b1 b2 : Nat) (h1 : Ints .i64 W W.heap.size (some ⟨b0, 0, none⟩) [2, 2]) (h2 : Ints .i64 W W.heap.size (some ⟨b1, 0, none⟩) [1, 2, 3, 4]) (h3 : Ints .i64 W W.heap.size (some ⟨b2, 0, none⟩) [0]) :
    Calls Tryz.prog 10 #[.agg #[.slice (some ⟨b0, 0, none⟩) 2 2, .slice (some ⟨b1, 0, none⟩) 4 4], .slice (some ⟨b2, 0, none⟩) 1 1] W (RetTF W [2] [4, 6] 0) := by
  have h := rsum_all _ _ _ 2 4 1 [2, 2] [1, 2, 3, 4] [0] W h1 h2 h3
  have e1 : smX false [2, 2] [1, 2, 3, 4] [0] = [2] := by decide +kernel
  have e2 : smY false [2, 2] [1, 2, 3, 4] [0] = [4, 6] := by decide +kernel
  have e3 : smZ false [2, 2] [1, 2, 3, 4] [0] = 0 := by decide +kernel
  rw [e1, e2, e3] at h
  exact h
set_option maxRecDepth 100000 in
theorem wakes9_any (w : World) : Calls Tryz.prog 16 #[] w fun e w' => e = .returned (.bool true) ∧ Below w.heap.size w w' := by
  have F1 := Lib.hid ((((Fr.start (w := w) (I := []) (by intro z hz; simp at hz)).box1 (b := w.heap.size) rfl [.int .i64 2, .int .i64 2] 3).box1 (b := w.heap.size + 1) (by simp) [.int .i64 1, .int .i64 2, .int .i64 3, .int .i64 4] 2).box1 (b := w.heap.size + 1 + 1) (by simp) [.int .i64 0] 3)
  simp only [List.nil_append, List.cons_append] at F1
  have hs := fun W h1 h2 h3 => wakesS W w.heap.size (w.heap.size + 1) (w.heap.size + 1 + 1) h1 h2 h3
  have HS := Lib.hid hs
  clear hs
  go_enter Tryz.func16, Tryz.ntmps16
  go_upto_region 2 with (go_at_call 10; refine (HS.out _ (ints_of_box (xs := [2, 2]) (F1.out.box _ (List.mem_of_getElem? (i := 0) rfl)).1 (F1.out.bl 0 rfl).2 (by decide) (by decide)) (ints_of_box (xs := [1, 2, 3, 4]) (F1.out.box _ (List.mem_of_getElem? (i := 1) rfl)).1 (F1.out.bl 1 rfl).2 (by decide) (by decide)) (ints_of_box (xs := [0]) (F1.out.box _ (List.mem_of_getElem? (i := 2) rfl)).1 (F1.out.bl 2 rfl).2 (by decide) (by decide))).mono ?_; rintro e w2 ⟨ax, cx, ay, cy, rfl, hf⟩; have F2 := Lib.hid (F1.out.join hf); simp only [List.nil_append, List.cons_append] at F2; clear hf F1)
  obtain ⟨Q, hQ⟩ : ∃ x, w2.heap.size = x := ⟨_, rfl⟩
  have F3 := Lib.hid (F2.out.box1 (b := Q) hQ [.slice ax 1 cx, .slice ay 2 cy] 26)
  simp only [List.nil_append, List.cons_append, List.length_cons, List.length_nil, Nat.reduceAdd, Nat.zero_add] at F3
  have hb : ∀ (W : World), Below w2.heap.size w2 W → W.heap.size = W.heap.size := fun _ _ => rfl
  simp only [List.length_cons, List.length_nil, Nat.reduceAdd, Nat.zero_add, hQ]
  obtain ⟨W3, hW3⟩ : ∃ x, w2.alloc (.cells #[.slice ax 1 cx, .slice ay 2 cy] 26) = x := ⟨_, rfl⟩
  rw [hW3] at F3 ⊢
  clear hW3 F2 hb
  have c0 := F3.out.c 3 0 rfl rfl
  have c1 := F3.out.c 3 1 rfl rfl
  have F4 := Lib.hid (F3.out.box1 (b := W3.heap.size) rfl [.int .i64 4, .int .i64 6] 2)
  simp only [List.nil_append, List.cons_append] at F4
  have hev := fun W (h : Ints .i64 W W.heap.size ay [4, 6]) (h2 : Ints .i64 W W.heap.size (some ⟨W3.heap.size, 0, none⟩) [4, 6]) => eqWords_any ay _ cy 2 W.heap.size [4, 6] [4, 6] W h h2
  have HEV := Lib.hid hev
  clear hev
  go_wp2_with (first | (go_at_call 39; refine (num9_any _ _).mono ?_; rintro e w' ⟨rfl, rfl⟩) | (go_at_call 38; refine (HEV.out _ (F4.out.li 1 (k := .i64) (xs := [4, 6]) rfl (by decide)) (ints_of_box (xs := [4, 6]) (F4.out.box _ (List.mem_of_getElem? (i := 4) rfl)).1 (F4.out.bl 4 rfl).2 (by decide) (by decide))).mono ?_; rintro e w' ⟨rfl, q9, rfl⟩) | fail)
  go_ret
  exact ⟨by first | rfl | simp, (F4.out.drewN q9).bel⟩
/-- An element of layer 9's statements: a tensor, axes, an axis. -/
structure AskAt9 (w : World) (hi b o : Nat) (p : TenV) (ai : Option Addr) (ci : Nat) (axes : List Int) (x : Int) : Prop where
  lt : b < hi
  c0 : w.cell? ⟨b, o, none⟩ = some (.slice p.a p.xs.length p.c)
  c1 : w.cell? ⟨b, o + 1, none⟩ = some (.slice p.b p.ys.length p.d)
  c2 : w.cell? ⟨b, o + 2, none⟩ = some (.slice ai axes.length ci)
  c3 : w.cell? ⟨b, o + 3, none⟩ = some (.int .i64 x)
  tA : Ten w hi p.a p.c p.b p.d p.xs p.ys
  tI : Ints .i64 w hi ai axes
  i1 : axes.length ≤ ci
  i2 : ci ≤ 9223372036854775807
  x0 : -9223372036854775808 ≤ x
  x1 : x ≤ 9223372036854775807
theorem AskAt9.below {w w' : World} {hi b o : Nat} {p : TenV} {ai : Option Addr} {ci : Nat} {axes : List Int} {x : Int} (h : AskAt9 w hi b o p ai ci axes x) (hb : Below hi w w') : AskAt9 w' hi b o p ai ci axes x :=
  ⟨h.lt, (hb.cell (p := ⟨b, o, none⟩) h.lt).trans h.c0, (hb.cell (p := ⟨b, o + 1, none⟩) h.lt).trans h.c1, (hb.cell (p := ⟨b, o + 2, none⟩) h.lt).trans h.c2, (hb.cell (p := ⟨b, o + 3, none⟩) h.lt).trans h.c3,
   h.tA.below hb (Nat.le_refl _), h.tI.below hb (Nat.le_refl _), h.i1, h.i2, h.x0, h.x1⟩
structure AsksAt9 (w : World) (hi : Nat) (a : Option Addr) (n : Nat) : Prop where
  len : n ≤ 9223372036854775807
  at_ : ∀ i, i < n → ∃ b off p ai ci axes x, a = some ⟨b, off, none⟩ ∧ AskAt9 w hi b (off + i * 4) p ai ci axes x
theorem cellsAsk1 : Tryz.prog.cellsOf 28 = 4 := by kernel_rfl
theorem list4 {α : Type} {cs : List α} (h : cs.length = 4) : ∃ a b c d, cs = [a, b, c, d] := by
  match cs, h with
  | [a, b, c, d], _ => exact ⟨a, b, c, d, rfl⟩
theorem asks9_of_trod {H : Type} {enc : TypeId × Value → H} {W : World} {spare : Nat → Bool} {held : Bool} {a : Option Addr} {n c : Nat} {d : DataW H} {ps : List MemPlace}
    (h : DataW.Trod enc Tryz.prog W 0 spare held 22 (.slice a n c) d ps) : AsksAt9 W W.heap.size a n := by
  obtain ⟨fuel, hf⟩ := h
  simp only [Value.cells] at hf
  obtain ⟨a', len, cap, he, hlen, hat⟩ := trod_elems Tryz.underlying22 (by rw [cellsAsk1]; omega) hf
  injection he with e1 e2 e3
  subst e1; subst e2; subst e3
  refine ⟨hlen, fun i hi => ?_⟩
  obtain ⟨b, off, cs, m, y, rfl, hb, hcl, hcell, hy⟩ := hat i hi
  rw [cellsAsk1] at hcl hcell
  obtain ⟨v0, v1, v2, v3, rfl⟩ := list4 hcl
  obtain ⟨n0, y0, ht0⟩ := trod_field Tryz.underlying28 hy 0 _ rfl
  have q0 : (([v0, v1, v2, v3].drop 0).take (Tryz.prog.cellsOf 26)) = [v0, v1] := by rw [cellsT1]; rfl
  have ht0' : DataW.trod enc Tryz.prog W 0 spare held n0 26 [v0, v1] = some y0 := by rw [← q0]; exact ht0
  obtain ⟨n1, y1, u2, hu2, ht2⟩ := trod_field1 Tryz.underlying28 hy 1 _ rfl cellsSl1 (by show 2 < 4; omega)
  obtain ⟨n4, y4, u3, hu3, ht3⟩ := trod_field1 Tryz.underlying28 hy 2 _ rfl cellsN1 (by show 3 < 4; omega)
  have e2 : v2 = u2 := by simpa using hu2
  have e3 : v3 = u3 := by simpa using hu3
  subst e2; subst e3
  obtain ⟨p, rfl, rfl, hA⟩ := ten_of_trod ht0'
  obtain ⟨ai, ids, ci, rfl, hI, hc, hc2⟩ := trod_ints_cap Tryz.underlying23 Tryz.underlying3 cellsN1 ht2
  obtain ⟨k, hk, _, wk⟩ := DataW.trod_int Tryz.underlying3 ht3
  simp at hk
  subst hk
  obtain ⟨k0, k1⟩ := wf_i64_iff.1 wk
  exact ⟨b, off, p, ai, ci, ids, k, rfl, hb, hcell 0 (by omega), hcell 1 (by omega), hcell 2 (by omega), hcell 3 (by omega), hA, hI, hc, hc2, k0, k1⟩
end Go.Proofs.YtinboddfmojodaaGreat
