/- Layer 1's argument in memory, and out of the reading of a list. -/
import Derived.Test.YtlbmpdidmckgkaaWide6
import Derived.Test.YtlbmpdidmckgkaaOpen
set_option linter.unusedVariables false
set_option linter.unusedSimpArgs false
namespace Go.Proofs.Ytlbmpdidmckgkaa
open Go.ChangeShapes Go.WideShapes Go.RowKit Go.Rt

/-- An element of layer 1's statements: two wide numbers, two words, a count. -/
structure PairAt (w : World) (hi b o : Nat) (ah al bh bl x y n : Int) : Prop where
  lt : b < hi
  c0 : w.cell? ⟨b, o, none⟩ = some (.int .i64 ah)
  c1 : w.cell? ⟨b, o + 1, none⟩ = some (.int .u64 al)
  c2 : w.cell? ⟨b, o + 2, none⟩ = some (.int .i64 bh)
  c3 : w.cell? ⟨b, o + 3, none⟩ = some (.int .u64 bl)
  c4 : w.cell? ⟨b, o + 4, none⟩ = some (.int .i64 x)
  c5 : w.cell? ⟨b, o + 5, none⟩ = some (.int .i64 y)
  c6 : w.cell? ⟨b, o + 6, none⟩ = some (.int .i64 n)
  a : WR ah al
  b' : WR bh bl
  x0 : -9223372036854775808 ≤ x
  x1 : x ≤ 9223372036854775807
  y0 : -9223372036854775808 ≤ y
  y1 : y ≤ 9223372036854775807
  n0 : -9223372036854775808 ≤ n
  n1 : n ≤ 9223372036854775807

theorem PairAt.below {w w' : World} {hi b o : Nat} {ah al bh bl x y n : Int} (h : PairAt w hi b o ah al bh bl x y n) (hb : Below hi w w') : PairAt w' hi b o ah al bh bl x y n :=
  ⟨h.lt, (hb.cell (p := ⟨b, o, none⟩) h.lt).trans h.c0, (hb.cell (p := ⟨b, o + 1, none⟩) h.lt).trans h.c1, (hb.cell (p := ⟨b, o + 2, none⟩) h.lt).trans h.c2, (hb.cell (p := ⟨b, o + 3, none⟩) h.lt).trans h.c3,
   (hb.cell (p := ⟨b, o + 4, none⟩) h.lt).trans h.c4, (hb.cell (p := ⟨b, o + 5, none⟩) h.lt).trans h.c5, (hb.cell (p := ⟨b, o + 6, none⟩) h.lt).trans h.c6, h.a, h.b', h.x0, h.x1, h.y0, h.y1, h.n0, h.n1⟩

/-- The argument of layer 1's statements. -/
structure PairsAt (w : World) (hi : Nat) (a : Option Addr) (n : Nat) : Prop where
  len : n ≤ 9223372036854775807
  at_ : ∀ i, i < n → ∃ b off ah al bh bl x y m, a = some ⟨b, off, none⟩ ∧ PairAt w hi b (off + i * 7) ah al bh bl x y m

theorem own1 : ownKnob Try.prog.godebug = none := by kernel_rfl
theorem laidOut1 : laidOutB Try.prog = true := by kernel_rfl
theorem cellsU1 : Try.prog.cellsOf 23 = 1 := by kernel_rfl
theorem cellsI1 : Try.prog.cellsOf 2 = 1 := by kernel_rfl
theorem cellsN1 : Try.prog.cellsOf 3 = 1 := by kernel_rfl
theorem cellsW1 : Try.prog.cellsOf 25 = 2 := by kernel_rfl
theorem cellsTwo1 : Try.prog.cellsOf 27 = 7 := by kernel_rfl

theorem list7 {α : Type} {cs : List α} (h : cs.length = 7) : ∃ a b c d e f g, cs = [a, b, c, d, e, f, g] := by
  match cs, h with
  | [a, b, c, d, e, f, g], _ => exact ⟨a, b, c, d, e, f, g, rfl⟩

theorem wide_of_trod {H : Type} {enc : TypeId × Value → H} {W : World} {spare : Nat → Bool} {held : Bool} {fuel : Nat} {v0 v1 : Value} {x : DataW H × List MemPlace}
    (h : DataW.trod enc Try.prog W 0 spare held fuel 25 [v0, v1] = some x) : ∃ a b, v0 = .int .i64 a ∧ v1 = .int .u64 b ∧ WR a b := by
  obtain ⟨n0, y0, u0, hu0, ht0⟩ := trod_field1 Try.underlying25 h 0 _ rfl cellsI1 (by show 0 < 2; omega)
  obtain ⟨n1, y1, u1, hu1, ht1⟩ := trod_field1 Try.underlying25 h 1 _ rfl cellsU1 (by show 1 < 2; omega)
  have e0 : v0 = u0 := by simpa using hu0
  have e1 : v1 = u1 := by simpa using hu1
  subst e0; subst e1
  obtain ⟨p, hp, _, wp⟩ := DataW.trod_int Try.underlying2 ht0
  obtain ⟨q, hq, _, wq⟩ := DataW.trod_int Try.underlying23 ht1
  simp at hp hq
  subst hp; subst hq
  obtain ⟨p0, p1⟩ := wf_i64_iff.1 wp
  obtain ⟨q0, q1⟩ := wf_u64_iff.1 wq
  exact ⟨p, q, rfl, rfl, p0, p1, q0, q1⟩

theorem pairs_of_trod {H : Type} {enc : TypeId × Value → H} {W : World} {spare : Nat → Bool} {held : Bool} {a : Option Addr} {n c : Nat} {d : DataW H} {ps : List MemPlace}
    (h : DataW.Trod enc Try.prog W 0 spare held 22 (.slice a n c) d ps) : PairsAt W W.heap.size a n := by
  obtain ⟨fuel, hf⟩ := h
  simp only [Value.cells] at hf
  obtain ⟨a', len, cap, he, hlen, hat⟩ := trod_elems Try.underlying22 (by rw [cellsTwo1]; omega) hf
  injection he with e1 e2 e3
  subst e1; subst e2; subst e3
  refine ⟨hlen, fun i hi => ?_⟩
  obtain ⟨b, off, cs, m, y, rfl, hb, hcl, hcell, hy⟩ := hat i hi
  rw [cellsTwo1] at hcl hcell
  obtain ⟨v0, v1, v2, v3, v4, v5, v6, rfl⟩ := list7 hcl
  obtain ⟨n0, y0, ht0⟩ := trod_field Try.underlying27 hy 0 _ rfl
  have q0 : (([v0, v1, v2, v3, v4, v5, v6].drop 0).take (Try.prog.cellsOf 25)) = [v0, v1] := by rw [cellsW1]; rfl
  have ht0' : DataW.trod enc Try.prog W 0 spare held n0 25 [v0, v1] = some y0 := by rw [← q0]; exact ht0
  obtain ⟨n1, y1, ht1⟩ := trod_field Try.underlying27 hy 1 _ rfl
  have q1 : (([v0, v1, v2, v3, v4, v5, v6].drop 2).take (Try.prog.cellsOf 25)) = [v2, v3] := by rw [cellsW1]; rfl
  have ht1' : DataW.trod enc Try.prog W 0 spare held n1 25 [v2, v3] = some y1 := by rw [← q1]; exact ht1
  obtain ⟨n2, y2, u4, hu4, ht4⟩ := trod_field1 Try.underlying27 hy 2 _ rfl cellsI1 (by show 4 < 7; omega)
  obtain ⟨n3, y3, u5, hu5, ht5⟩ := trod_field1 Try.underlying27 hy 3 _ rfl cellsI1 (by show 5 < 7; omega)
  obtain ⟨n4, y4, u6, hu6, ht6⟩ := trod_field1 Try.underlying27 hy 4 _ rfl cellsN1 (by show 6 < 7; omega)
  have e4 : v4 = u4 := by simpa using hu4
  have e5 : v5 = u5 := by simpa using hu5
  have e6 : v6 = u6 := by simpa using hu6
  subst e4; subst e5; subst e6
  obtain ⟨ah, al, rfl, rfl, hA⟩ := wide_of_trod ht0'
  obtain ⟨bh, bl, rfl, rfl, hB⟩ := wide_of_trod ht1'
  obtain ⟨x, hx, _, wx⟩ := DataW.trod_int Try.underlying2 ht4
  obtain ⟨z, hz, _, wz⟩ := DataW.trod_int Try.underlying2 ht5
  obtain ⟨k, hk, _, wk⟩ := DataW.trod_int Try.underlying3 ht6
  simp at hx hz hk
  subst hx; subst hz; subst hk
  obtain ⟨x0, x1⟩ := wf_i64_iff.1 wx
  obtain ⟨z0, z1⟩ := wf_i64_iff.1 wz
  obtain ⟨k0, k1⟩ := wf_i64_iff.1 wk
  exact ⟨b, off, ah, al, bh, bl, x, z, k, rfl, hb, (hcell 0 (by omega)), (hcell 1 (by omega)), (hcell 2 (by omega)), (hcell 3 (by omega)), (hcell 4 (by omega)), (hcell 5 (by omega)), (hcell 6 (by omega)), hA, hB, x0, x1, z0, z1, k0, k1⟩
end Go.Proofs.Ytlbmpdidmckgkaa
