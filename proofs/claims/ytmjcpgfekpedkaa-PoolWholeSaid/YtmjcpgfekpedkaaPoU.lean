/- Layer 12: small functions, the argument in memory. -/
import Derived.Test.YtmjcpgfekpedkaaPoT
import Derived.Test.YtmjcpgfekpedkaaRdM
import Derived.Test.YtmjcpgfekpedkaaRdU
import Derived.Test.YtmjcpgfekpedkaaRdV
import Derived.Test.YtmjcpgfekpedkaaRdX
set_option linter.unusedVariables false
set_option linter.unusedSimpArgs false
namespace Go.Proofs.Ytmjcpgfekpedkaa
open Go.ChangeShapes Go.WideShapes Go.RowKit Go.Rt
theorem num12_any (e : Int) (w : World) : Calls Try.prog 12 #[.int .i64 e] w fun r w' => r = .returned (.int .i64 e) ∧ w = w' := by
  go_enter Try.func12, Try.ntmps12
  go_wp2
  go_ret
  exact ⟨by first | rfl | simp, rfl⟩
theorem wakesM (W : World) (b0 b1 b2 b3 b4 b5 : Nat) (h0 : Ints .i64 W W.heap.size (some ⟨b0, 0, none⟩) [1, 1, 3]) (h1 : Ints .i64 W W.heap.size (some ⟨b1, 0, none⟩) [1, 5, 5]) (h2 : Ints .i64 W W.heap.size (some ⟨b2, 0, none⟩) [3]) (h3 : Ints .i64 W W.heap.size (some ⟨b3, 0, none⟩) [1]) (h4 : Ints .i64 W W.heap.size (some ⟨b4, 0, none⟩) [0]) (h5 : Ints .i64 W W.heap.size (some ⟨b5, 0, none⟩) [1]) :
    Calls Try.prog 10 #[.agg #[.slice (some ⟨b0, 0, none⟩) 3 3, .slice (some ⟨b1, 0, none⟩) 3 3], .agg #[.slice (some ⟨b2, 0, none⟩) 1 1, .slice (some ⟨b3, 0, none⟩) 1 1, .slice (some ⟨b4, 0, none⟩) 1 1, .slice (some ⟨b5, 0, none⟩) 1 1]] W (RetPX W [1, 1, 1] [5] [1] 0) := by
  have h := pmax_all (some ⟨b0, 0, none⟩) (some ⟨b1, 0, none⟩) 3 3 [1, 1, 3] [1, 5, 5] (some ⟨b2, 0, none⟩) (some ⟨b3, 0, none⟩) (some ⟨b4, 0, none⟩) (some ⟨b5, 0, none⟩) 1 1 1 1 ⟨[3], [3], [1], [0], [1]⟩ W h0 h1 h2 h3 h4 h5 rfl (by decide) (by decide) (fun _ => by decide +kernel)
  have e0 : winZ [1, 1, 3] [1, 5, 5] ⟨[3], [3], [1], [0], [1]⟩ = 0 := by decide +kernel
  have e1 : poS [1, 1, 3] ⟨[3], [3], [1], [0], [1]⟩ = [1, 1, 1] := by decide +kernel
  have e2 : (List.range (poN [1, 1, 3] ⟨[3], [3], [1], [0], [1]⟩)).map (poV [1, 5, 5] ⟨[3], [3], [1], [0], [1]⟩) = [5] := by decide +kernel
  have e3 : (List.range (poN [1, 1, 3] ⟨[3], [3], [1], [0], [1]⟩)).map (poP [1, 5, 5] ⟨[3], [3], [1], [0], [1]⟩) = [1] := by decide +kernel
  rw [e0, e1, e2, e3] at h
  exact h
set_option maxRecDepth 100000 in
theorem wakes12_any (w : World) : Calls Try.prog 14 #[] w fun e w' => e = .returned (.bool true) ∧ Below w.heap.size w w' := by
  have F1 := Lib.hid (((((((Fr.start (w := w) (I := []) (by intro z hz; simp at hz)).box1 (b := w.heap.size) (by simp) [.int .i64 1, .int .i64 1, .int .i64 3] 3).box1 (b := w.heap.size + 1) (by simp) [.int .i64 1, .int .i64 5, .int .i64 5] 2).box1 (b := w.heap.size + 1 + 1) (by simp) [.int .i64 3] 3).box1 (b := w.heap.size + 1 + 1 + 1) (by simp) [.int .i64 1] 3).box1 (b := w.heap.size + 1 + 1 + 1 + 1) (by simp) [.int .i64 0] 3).box1 (b := w.heap.size + 1 + 1 + 1 + 1 + 1) (by simp) [.int .i64 1] 3)
  simp only [List.nil_append, List.cons_append] at F1
  have HS := Lib.hid (fun W h0 h1 h2 h3 h4 h5 => wakesM W (w.heap.size) (w.heap.size + 1) (w.heap.size + 1 + 1) (w.heap.size + 1 + 1 + 1) (w.heap.size + 1 + 1 + 1 + 1) (w.heap.size + 1 + 1 + 1 + 1 + 1) h0 h1 h2 h3 h4 h5)
  go_enter Try.func14, Try.ntmps14
  go_upto_region 2 with (go_at_call 10; refine (HS.out _ (ints_of_box (xs := [1, 1, 3]) (F1.out.box _ (List.mem_of_getElem? (i := 0) rfl)).1 (F1.out.bl 0 rfl).2 (by decide) (by decide)) (ints_of_box (xs := [1, 5, 5]) (F1.out.box _ (List.mem_of_getElem? (i := 1) rfl)).1 (F1.out.bl 1 rfl).2 (by decide) (by decide)) (ints_of_box (xs := [3]) (F1.out.box _ (List.mem_of_getElem? (i := 2) rfl)).1 (F1.out.bl 2 rfl).2 (by decide) (by decide)) (ints_of_box (xs := [1]) (F1.out.box _ (List.mem_of_getElem? (i := 3) rfl)).1 (F1.out.bl 3 rfl).2 (by decide) (by decide)) (ints_of_box (xs := [0]) (F1.out.box _ (List.mem_of_getElem? (i := 4) rfl)).1 (F1.out.bl 4 rfl).2 (by decide) (by decide)) (ints_of_box (xs := [1]) (F1.out.box _ (List.mem_of_getElem? (i := 5) rfl)).1 (F1.out.bl 5 rfl).2 (by decide) (by decide))).mono ?_; rintro e w2 ⟨ax, cx, ay, cy, ap, cp, rfl, hf⟩; have F2 := Lib.hid (F1.out.join hf); simp only [List.nil_append, List.cons_append] at F2; clear hf F1)
  obtain ⟨Q, hQ⟩ : ∃ x, w2.heap.size = x := ⟨_, rfl⟩
  have F3 := Lib.hid (F2.out.box1 (b := Q) hQ [.slice ax 3 cx, .slice ay 1 cy] 26)
  simp only [List.nil_append, List.cons_append, List.length_cons, List.length_nil, Nat.reduceAdd, Nat.zero_add] at F3
  simp only [List.length_cons, List.length_nil, Nat.reduceAdd, Nat.zero_add, hQ]
  obtain ⟨W3, hW3⟩ : ∃ x, w2.alloc (.cells #[.slice ax 3 cx, .slice ay 1 cy] 26) = x := ⟨_, rfl⟩
  rw [hW3] at F3 ⊢
  clear hW3 F2
  have c0 := F3.out.c 6 0 rfl rfl
  have c1 := F3.out.c 6 1 rfl rfl
  have F4 := Lib.hid (F3.out.box1 (b := W3.heap.size) rfl [.int .i64 5] 2)
  simp only [List.nil_append, List.cons_append] at F4
  have HEV := Lib.hid (fun W (h : Ints .i64 W W.heap.size ay [5]) (h2 : Ints .i64 W W.heap.size (some ⟨W3.heap.size, 0, none⟩) [5]) => eqWords_any ay _ cy 1 W.heap.size [5] [5] W h h2)
  have HEN := Lib.hid (fun W (h : Ints .i64 W W.heap.size ap [1]) (h2 : Ints .i64 W W.heap.size (some ⟨W3.heap.size + 1, 0, none⟩) [1]) => eqNumbers_any ap _ cp 1 W.heap.size [1] [1] W h h2)
  go_wp2_with (first | (go_at_call 12; refine (num12_any _ _).mono ?_; rintro e w' ⟨rfl, rfl⟩) | (go_at_call 20; refine (HEV.out _ (F4.out.li 1 (k := .i64) (xs := [5]) rfl (by decide)) (ints_of_box (xs := [5]) (F4.out.box _ (List.mem_of_getElem? (i := 7) rfl)).1 (F4.out.bl 7 rfl).2 (by decide) (by decide))).mono ?_; rintro e w' ⟨rfl, q9, rfl⟩; have F5 := Lib.hid ((F4.out.drewN q9).box1 (b := W3.heap.size + 1) (by simp) [.int .i64 1] 3); simp only [List.nil_append, List.cons_append] at F5; clear F4) | (go_at_call 13; refine (HEN.out _ (F5.out.li 2 (k := .i64) (xs := [1]) rfl (by decide)) (ints_of_box (xs := [1]) (F5.out.box _ (List.mem_of_getElem? (i := 8) rfl)).1 (F5.out.bl 8 rfl).2 (by decide) (by decide))).mono ?_; rintro e w' ⟨rfl, q8, rfl⟩) | fail)
  go_ret
  exact ⟨by first | rfl | simp, (F5.out.drewN q8).bel⟩
/-- An element of layer 12's statements: a tensor, a pool's numbers. -/
structure AskAt12 (w : World) (hi b o : Nat) (p : TenV) (aK aS aP aD : Option Addr) (cK cS cP cD : Nat) (K S P D : List Int) : Prop where
  lt : b < hi
  c0 : w.cell? ⟨b, o, none⟩ = some (.slice p.a p.xs.length p.c)
  c1 : w.cell? ⟨b, o + 1, none⟩ = some (.slice p.b p.ys.length p.d)
  c2 : w.cell? ⟨b, o + 2, none⟩ = some (.slice aK K.length cK)
  c3 : w.cell? ⟨b, o + 3, none⟩ = some (.slice aS S.length cS)
  c4 : w.cell? ⟨b, o + 4, none⟩ = some (.slice aP P.length cP)
  c5 : w.cell? ⟨b, o + 5, none⟩ = some (.slice aD D.length cD)
  tA : Ten w hi p.a p.c p.b p.d p.xs p.ys
  tK : Ints .i64 w hi aK K
  tS : Ints .i64 w hi aS S
  tP : Ints .i64 w hi aP P
  tD : Ints .i64 w hi aD D
theorem AskAt12.below {w w' : World} {hi b o : Nat} {p : TenV} {aK aS aP aD : Option Addr} {cK cS cP cD : Nat} {K S P D : List Int} (h : AskAt12 w hi b o p aK aS aP aD cK cS cP cD K S P D) (hb : Below hi w w') : AskAt12 w' hi b o p aK aS aP aD cK cS cP cD K S P D :=
  ⟨h.lt, (hb.cell (p := ⟨b, o, none⟩) h.lt).trans h.c0, (hb.cell (p := ⟨b, o + 1, none⟩) h.lt).trans h.c1, (hb.cell (p := ⟨b, o + 2, none⟩) h.lt).trans h.c2, (hb.cell (p := ⟨b, o + 3, none⟩) h.lt).trans h.c3, (hb.cell (p := ⟨b, o + 4, none⟩) h.lt).trans h.c4, (hb.cell (p := ⟨b, o + 5, none⟩) h.lt).trans h.c5,
   h.tA.below hb (Nat.le_refl _), h.tK.below hb (Nat.le_refl _), h.tS.below hb (Nat.le_refl _), h.tP.below hb (Nat.le_refl _), h.tD.below hb (Nat.le_refl _)⟩
structure AsksAt12 (w : World) (hi : Nat) (a : Option Addr) (n : Nat) : Prop where
  len : n ≤ 9223372036854775807
  at_ : ∀ i, i < n → ∃ b off p aK aS aP aD cK cS cP cD K S P D, a = some ⟨b, off, none⟩ ∧ AskAt12 w hi b (off + i * 6) p aK aS aP aD cK cS cP cD K S P D
theorem cellsAsk12 : Try.prog.cellsOf 30 = 6 := by kernel_rfl
theorem cellsC12 : Try.prog.cellsOf 28 = 4 := by kernel_rfl
theorem list6 {α : Type} {cs : List α} (h : cs.length = 6) : ∃ a b c d e f, cs = [a, b, c, d, e, f] := by
  match cs, h with
  | [a, b, c, d, e, f], _ => exact ⟨a, b, c, d, e, f, rfl⟩
theorem asks12_of_trod {H : Type} {enc : TypeId × Value → H} {W : World} {spare : Nat → Bool} {held : Bool} {a : Option Addr} {n c : Nat} {d : DataW H} {ps : List MemPlace}
    (h : DataW.Trod enc Try.prog W 0 spare held 22 (.slice a n c) d ps) : AsksAt12 W W.heap.size a n := by
  obtain ⟨fuel, hf⟩ := h
  simp only [Value.cells] at hf
  obtain ⟨a', len, cap, he, hlen, hat⟩ := trod_elems Try.underlying22 (by rw [cellsAsk12]; omega) hf
  injection he with e1 e2 e3
  subst e1; subst e2; subst e3
  refine ⟨hlen, fun i hi => ?_⟩
  obtain ⟨b, off, cs, m, y, rfl, hb, hcl, hcell, hy⟩ := hat i hi
  rw [cellsAsk12] at hcl hcell
  obtain ⟨v0, v1, v2, v3, v4, v5, rfl⟩ := list6 hcl
  obtain ⟨n0, y0, ht0⟩ := trod_field Try.underlying30 hy 0 _ rfl
  have q0 : (([v0, v1, v2, v3, v4, v5].drop 0).take (Try.prog.cellsOf 26)) = [v0, v1] := by rw [cellsT1]; rfl
  have ht0' : DataW.trod enc Try.prog W 0 spare held n0 26 [v0, v1] = some y0 := by rw [← q0]; exact ht0
  obtain ⟨n1, y1, ht1⟩ := trod_field Try.underlying30 hy 1 _ rfl
  have q1 : (([v0, v1, v2, v3, v4, v5].drop 2).take (Try.prog.cellsOf 28)) = [v2, v3, v4, v5] := by rw [cellsC12]; rfl
  have ht1' : DataW.trod enc Try.prog W 0 spare held n1 28 [v2, v3, v4, v5] = some y1 := by rw [← q1]; exact ht1
  obtain ⟨m2, z2, u2, hu2, g2⟩ := trod_field1 Try.underlying28 ht1' 0 _ rfl cellsSl1 (by show 0 < 4; omega)
  obtain ⟨m3, z3, u3, hu3, g3⟩ := trod_field1 Try.underlying28 ht1' 1 _ rfl cellsSl1 (by show 1 < 4; omega)
  obtain ⟨m4, z4, u4, hu4, g4⟩ := trod_field1 Try.underlying28 ht1' 2 _ rfl cellsSl1 (by show 2 < 4; omega)
  obtain ⟨m5, z5, u5, hu5, g5⟩ := trod_field1 Try.underlying28 ht1' 3 _ rfl cellsSl1 (by show 3 < 4; omega)
  have e2 : v2 = u2 := by simpa using hu2
  have e3 : v3 = u3 := by simpa using hu3
  have e4 : v4 = u4 := by simpa using hu4
  have e5 : v5 = u5 := by simpa using hu5
  subst e2; subst e3; subst e4; subst e5
  obtain ⟨p, rfl, rfl, hA⟩ := ten_of_trod ht0'
  obtain ⟨aK, K, cK, rfl, hK, _, _⟩ := trod_ints_cap Try.underlying23 Try.underlying3 cellsN1 g2
  obtain ⟨aS, S, cS, rfl, hS, _, _⟩ := trod_ints_cap Try.underlying23 Try.underlying3 cellsN1 g3
  obtain ⟨aP, P, cP, rfl, hP, _, _⟩ := trod_ints_cap Try.underlying23 Try.underlying3 cellsN1 g4
  obtain ⟨aD, D, cD, rfl, hD, _, _⟩ := trod_ints_cap Try.underlying23 Try.underlying3 cellsN1 g5
  exact ⟨b, off, p, aK, aS, aP, aD, cK, cS, cP, cD, K, S, P, D, rfl, hb, hcell 0 (by omega), hcell 1 (by omega), hcell 2 (by omega), hcell 3 (by omega), hcell 4 (by omega), hcell 5 (by omega), hA, hK, hS, hP, hD⟩
end Go.Proofs.Ytmjcpgfekpedkaa
