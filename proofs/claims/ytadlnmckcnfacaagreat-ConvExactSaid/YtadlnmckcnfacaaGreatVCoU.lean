import Derived.Test.YtadlnmckcnfacaaGreatVCoP
set_option linter.unusedVariables false
set_option linter.unusedSimpArgs false
namespace Go.Proofs.YtadlnmckcnfacaaGreat
open Go.RowKit Go.Rt
structure AskAt11 (w : World) (hi b o : Nat) (p r : TenV) (aQ aS aP aD aI aJ : Option Addr) (cQ cS cP cD cI cJ : Nat) (Q S P D I J : List Int) (f : Int) : Prop where
 lt : b < hi
 c0 : w.cell? ⟨b, o, none⟩ = some (.slice p.a p.xs.length p.c)
 c1 : w.cell? ⟨b, o + 1, none⟩ = some (.slice p.b p.ys.length p.d)
 c2 : w.cell? ⟨b, o + 2, none⟩ = some (.slice r.a r.xs.length r.c)
 c3 : w.cell? ⟨b, o + 3, none⟩ = some (.slice r.b r.ys.length r.d)
 c4 : w.cell? ⟨b, o + 4, none⟩ = some (.slice aQ Q.length cQ)
 c5 : w.cell? ⟨b, o + 5, none⟩ = some (.slice aS S.length cS)
 c6 : w.cell? ⟨b, o + 6, none⟩ = some (.slice aP P.length cP)
 c7 : w.cell? ⟨b, o + 7, none⟩ = some (.slice aD D.length cD)
 c8 : w.cell? ⟨b, o + 8, none⟩ = some (.slice aI I.length cI)
 c9 : w.cell? ⟨b, o + 9, none⟩ = some (.slice aJ J.length cJ)
 c10 : w.cell? ⟨b, o + 10, none⟩ = some (.int .i64 f)
 tA : Ten w hi p.a p.c p.b p.d p.xs p.ys
 tB : Ten w hi r.a r.c r.b r.d r.xs r.ys
 tQ : Ints .i64 w hi aQ Q
 tS : Ints .i64 w hi aS S
 tP : Ints .i64 w hi aP P
 tD : Ints .i64 w hi aD D
 tI : Ints .i64 w hi aI I
 tJ : Ints .i64 w hi aJ J
 kI : I.length ≤ cI ∧ cI ≤ 9223372036854775807
 kJ : J.length ≤ cJ ∧ cJ ≤ 9223372036854775807
 f0 : -9223372036854775808 ≤ f
 f1 : f ≤ 9223372036854775807
theorem AskAt11.below {w w' : World} {hi b o : Nat} {p r : TenV} {aQ aS aP aD aI aJ : Option Addr} {cQ cS cP cD cI cJ : Nat} {Q S P D I J : List Int} {f : Int} (h : AskAt11 w hi b o p r aQ aS aP aD aI aJ cQ cS cP cD cI cJ Q S P D I J f) (hb : Below hi w w') : AskAt11 w' hi b o p r aQ aS aP aD aI aJ cQ cS cP cD cI cJ Q S P D I J f :=
 ⟨h.lt, (hb.cell (p := ⟨b, o, none⟩) h.lt).trans h.c0, (hb.cell (p := ⟨b, o + 1, none⟩) h.lt).trans h.c1, (hb.cell (p := ⟨b, o + 2, none⟩) h.lt).trans h.c2, (hb.cell (p := ⟨b, o + 3, none⟩) h.lt).trans h.c3, (hb.cell (p := ⟨b, o + 4, none⟩) h.lt).trans h.c4, (hb.cell (p := ⟨b, o + 5, none⟩) h.lt).trans h.c5, (hb.cell (p := ⟨b, o + 6, none⟩) h.lt).trans h.c6, (hb.cell (p := ⟨b, o + 7, none⟩) h.lt).trans h.c7, (hb.cell (p := ⟨b, o + 8, none⟩) h.lt).trans h.c8, (hb.cell (p := ⟨b, o + 9, none⟩) h.lt).trans h.c9, (hb.cell (p := ⟨b, o + 10, none⟩) h.lt).trans h.c10, h.tA.below hb (Nat.le_refl _), h.tB.below hb (Nat.le_refl _), h.tQ.below hb (Nat.le_refl _), h.tS.below hb (Nat.le_refl _), h.tP.below hb (Nat.le_refl _), h.tD.below hb (Nat.le_refl _), h.tI.below hb (Nat.le_refl _), h.tJ.below hb (Nat.le_refl _), h.kI, h.kJ, h.f0, h.f1⟩
structure AsksAt11 (w : World) (hi : Nat) (a : Option Addr) (n : Nat) : Prop where
 len : n ≤ 9223372036854775807
 at_ : ∀ i, i < n → ∃ b off p r aQ aS aP aD aI aJ cQ cS cP cD cI cJ Q S P D I J f, a = some ⟨b, off, none⟩ ∧ AskAt11 w hi b (off + i * 11) p r aQ aS aP aD aI aJ cQ cS cP cD cI cJ Q S P D I J f
theorem cellsAsk11 : Tryz.prog.cellsOf 30 = 11 := by kernel_rfl
theorem cellsC11 : Tryz.prog.cellsOf 28 = 4 := by kernel_rfl
theorem list11 {α : Type} {cs : List α} (h : cs.length = 11) : ∃ a b c d e f g h i j k, cs = [a, b, c, d, e, f, g, h, i, j, k] := by
 match cs, h with
 | [a, b, c, d, e, f, g, h, i, j, k], _ => exact ⟨a, b, c, d, e, f, g, h, i, j, k, rfl⟩
theorem asks11_of_trod {H : Type} {enc : TypeId × Value → H} {W : World} {spare : Nat → Bool} {held : Bool} {a : Option Addr} {n c : Nat} {d : DataW H} {ps : List MemPlace}
  (h : DataW.Trod enc Tryz.prog W 0 spare held 22 (.slice a n c) d ps) : AsksAt11 W W.heap.size a n := by
 obtain ⟨fuel, hf⟩ := h
 simp only [Value.cells] at hf
 obtain ⟨a', len, cap, he, hlen, hat⟩ := trod_elems Tryz.underlying22 (by rw [cellsAsk11]; omega) hf
 injection he with e1 e2 e3
 subst e1; subst e2; subst e3
 refine ⟨hlen, fun i hi => ?_⟩
 obtain ⟨b, off, cs, m, y, rfl, hb, hcl, hcell, hy⟩ := hat i hi
 rw [cellsAsk11] at hcl hcell
 obtain ⟨v0, v1, v2, v3, v4, v5, v6, v7, v8, v9, v10, rfl⟩ := list11 hcl
 obtain ⟨n0, y0, ht0⟩ := trod_field Tryz.underlying30 hy 0 _ rfl
 have q0 : (([v0, v1, v2, v3, v4, v5, v6, v7, v8, v9, v10].drop 0).take (Tryz.prog.cellsOf 26)) = [v0, v1] := by rw [cellsT1]; rfl
 have ht0' : DataW.trod enc Tryz.prog W 0 spare held n0 26 [v0, v1] = some y0 := by rw [← q0]; exact ht0
 obtain ⟨n1, y1, ht1⟩ := trod_field Tryz.underlying30 hy 1 _ rfl
 have q1 : (([v0, v1, v2, v3, v4, v5, v6, v7, v8, v9, v10].drop 2).take (Tryz.prog.cellsOf 26)) = [v2, v3] := by rw [cellsT1]; rfl
 have ht1' : DataW.trod enc Tryz.prog W 0 spare held n1 26 [v2, v3] = some y1 := by rw [← q1]; exact ht1
 obtain ⟨n2, y2, ht2⟩ := trod_field Tryz.underlying30 hy 2 _ rfl
 have q2 : (([v0, v1, v2, v3, v4, v5, v6, v7, v8, v9, v10].drop 4).take (Tryz.prog.cellsOf 28)) = [v4, v5, v6, v7] := by rw [cellsC11]; rfl
 have ht2' : DataW.trod enc Tryz.prog W 0 spare held n2 28 [v4, v5, v6, v7] = some y2 := by rw [← q2]; exact ht2
 obtain ⟨m4, z4, u4, hu4, g4⟩ := trod_field1 Tryz.underlying28 ht2' 0 _ rfl cellsSl1 (by show 0 < 4; omega)
 obtain ⟨m5, z5, u5, hu5, g5⟩ := trod_field1 Tryz.underlying28 ht2' 1 _ rfl cellsSl1 (by show 1 < 4; omega)
 obtain ⟨m6, z6, u6, hu6, g6⟩ := trod_field1 Tryz.underlying28 ht2' 2 _ rfl cellsSl1 (by show 2 < 4; omega)
 obtain ⟨m7, z7, u7, hu7, g7⟩ := trod_field1 Tryz.underlying28 ht2' 3 _ rfl cellsSl1 (by show 3 < 4; omega)
 obtain ⟨m8, z8, u8, hu8, g8⟩ := trod_field1 Tryz.underlying30 hy 3 _ rfl cellsSl1 (by show 8 < 11; omega)
 obtain ⟨m9, z9, u9, hu9, g9⟩ := trod_field1 Tryz.underlying30 hy 4 _ rfl cellsSl1 (by show 9 < 11; omega)
 obtain ⟨m10, z10, u10, hu10, g10⟩ := trod_field1 Tryz.underlying30 hy 5 _ rfl cellsN1 (by show 10 < 11; omega)
 have e4 : v4 = u4 := by simpa using hu4
 have e5 : v5 = u5 := by simpa using hu5
 have e6 : v6 = u6 := by simpa using hu6
 have e7 : v7 = u7 := by simpa using hu7
 have e8 : v8 = u8 := by simpa using hu8
 have e9 : v9 = u9 := by simpa using hu9
 have e10 : v10 = u10 := by simpa using hu10
 subst e4; subst e5; subst e6; subst e7; subst e8; subst e9; subst e10
 obtain ⟨p, rfl, rfl, hA⟩ := ten_of_trod ht0'
 obtain ⟨r, rfl, rfl, hB⟩ := ten_of_trod ht1'
 obtain ⟨aQ, Q, cQ, rfl, hQ, hQc, hQd⟩ := trod_ints_cap Tryz.underlying23 Tryz.underlying3 cellsN1 g4
 obtain ⟨aS, S, cS, rfl, hS, hSc, hSd⟩ := trod_ints_cap Tryz.underlying23 Tryz.underlying3 cellsN1 g5
 obtain ⟨aP, P, cP, rfl, hP, hPc, hPd⟩ := trod_ints_cap Tryz.underlying23 Tryz.underlying3 cellsN1 g6
 obtain ⟨aD, D, cD, rfl, hD, hDc, hDd⟩ := trod_ints_cap Tryz.underlying23 Tryz.underlying3 cellsN1 g7
 obtain ⟨aI, I, cI, rfl, hI, hIc, hId⟩ := trod_ints_cap Tryz.underlying23 Tryz.underlying3 cellsN1 g8
 obtain ⟨aJ, J, cJ, rfl, hJ, hJc, hJd⟩ := trod_ints_cap Tryz.underlying23 Tryz.underlying3 cellsN1 g9
 obtain ⟨f, hk, _, wk⟩ := DataW.trod_int Tryz.underlying3 g10
 simp at hk
 subst hk
 obtain ⟨k0, k1⟩ := wf_i64_iff.1 wk
 exact ⟨b, off, p, r, aQ, aS, aP, aD, aI, aJ, cQ, cS, cP, cD, cI, cJ, Q, S, P, D, I, J, f, rfl, hb, hcell 0 (by omega), hcell 1 (by omega), hcell 2 (by omega), hcell 3 (by omega), hcell 4 (by omega), hcell 5 (by omega), hcell 6 (by omega), hcell 7 (by omega), hcell 8 (by omega), hcell 9 (by omega), hcell 10 (by omega), hA, hB, hQ, hS, hP, hD, hI, hJ, ⟨hIc, hId⟩, ⟨hJc, hJd⟩, k0, k1⟩
end Go.Proofs.YtadlnmckcnfacaaGreat
