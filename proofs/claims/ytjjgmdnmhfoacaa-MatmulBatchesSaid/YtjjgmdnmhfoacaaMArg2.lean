/- A new tensor of two axes, in a variable of its own. -/
import Derived.Test.YtjjgmdnmhfoacaaMArg
import Derived.Test.YtjjgmdnmhfoacaaMTurnsP
set_option linter.unusedVariables false
set_option linter.unusedSimpArgs false
namespace Go.Proofs.Ytjjgmdnmhfoacaa
open Go.RowKit Go.Rt
theorem one_start (w : World) (x y : Int) (hx : (Lit.int .i64 x).wf = true) (hy : (Lit.int .i64 y).wf = true) (n : Nat) (hn : n ≤ 17592186044416) (W : World)
    (hW : ((w.alloc (.cells #[.int .i64 x, .int .i64 y] 3)).alloc (.cells (madeCells #[Value.int .i64 0] n) 2)).alloc (.cells #[.slice (some ⟨w.heap.size, 0, none⟩) 2 2, .slice (some ⟨w.heap.size + 1, 0, none⟩) n n] 26) = W) :
    Fill W W (w.heap.size + 1) (w.heap.size + 1 + 1) (w.heap.size + 1) n n (.slice (some ⟨w.heap.size, 0, none⟩) 2 2) (.slice (some ⟨w.heap.size + 1, 0, none⟩) n n) (List.replicate n 0) ∧ Ints .i64 W (w.heap.size + 1) (some ⟨w.heap.size, 0, none⟩) [x, y] ∧ Below w.heap.size w W ∧ W.heap.size = w.heap.size + 1 + 1 + 1 := by
  subst hW
  obtain ⟨w1, hw1⟩ : ∃ w1, w.alloc (.cells #[.int .i64 x, .int .i64 y] 3) = w1 := ⟨_, rfl⟩
  have s1 : w1.heap.size = w.heap.size + 1 := by rw [← hw1]; simp
  have b1 : Below w.heap.size w w1 := by rw [← hw1]; exact (Below.refl _ _).alloc (Nat.le_refl _) _
  have I1 : Ints .i64 w1 w1.heap.size (some ⟨w.heap.size, 0, none⟩) [x, y] := by rw [← hw1]; exact ints2 (by simp [go_sem]) (by simp [go_sem]) hx hy
  rw [hw1]
  clear hw1
  have row := World.ownsRow_lit (base := w1.heap.size) (e := 2) (size := 1) w1 (madeCells #[Value.int .i64 0] n) n (Nat.le_refl _) (by unfold maxLen; omega) (by rw [size_madeCells, Nat.mul_one])
  rw [made_zeros] at row
  obtain ⟨w2, hw2⟩ : ∃ w2, w1.alloc (.cells (madeCells #[Value.int .i64 0] n) 2) = w2 := ⟨_, rfl⟩
  have s2 : w2.heap.size = w1.heap.size + 1 := by rw [← hw2]; simp
  have b2 : Below w1.heap.size w1 w2 := by rw [← hw2]; exact (Below.refl _ _).alloc (Nat.le_refl _) _
  rw [hw2] at row ⊢
  clear hw2
  have X := box2_new w2 (.slice (some ⟨w.heap.size, 0, none⟩) 2 2) (.slice (some ⟨w.heap.size + 1, 0, none⟩) n n) 26
  have b3 : Below w2.heap.size w2 (w2.alloc (.cells #[.slice (some ⟨w.heap.size, 0, none⟩) 2 2, .slice (some ⟨w.heap.size + 1, 0, none⟩) n n] 26)) := (Below.refl _ _).alloc (Nat.le_refl _) _
  rw [s1] at row
  have hs : w2.heap.size = w.heap.size + 1 + 1 := by omega
  have row3 := own_below row b3 (Nat.le_refl _)
  have I3 := (I1.below b2 (Nat.le_refl _)).below b3 (by omega)
  rw [s1] at I3
  rw [hs] at X
  refine ⟨⟨Nat.le_refl _, Below.refl _ _, row3, X⟩, I3, b1.trans ((b2.mono (by omega)).trans (b3.mono (by omega))), ?_⟩
  simp
  omega

theorem turns_facts {R m f : Nat} {xsA ysA xsB ysB : List Int} (hxA : xsA = [(R : Int), (m : Int)]) (tA : tenB xsA ysA = true) (tB : tenB xsB ysB = true) (h : mulE xsA ysA xsB ysB f = 0) (hb : xsB.length = 2) :
    ∃ C : Nat, xsB = [(m : Int), (C : Int)] ∧ (1 ≤ C ∧ C ≤ 4096 ∧ R * C ≤ 65536) ∧ (mulX xsA ysA xsB ysB f).length = 2 ∧ (mulY xsA ysA xsB ysB f).length = R * C ∧
      tenB (swapL xsA) (turnL xsA ysA) = true ∧ tenB (swapL xsB) (turnL xsB ysB) = true ∧ tenB (mulX xsA ysA xsB ysB f) (mulY xsA ysA xsB ysB f) = true ∧
      mulE (swapL xsB) (turnL xsB ysB) (swapL xsA) (turnL xsA ysA) f = 0 ∧ mulX (swapL xsB) (turnL xsB ysB) (swapL xsA) (turnL xsA ysA) f = swapL (mulX xsA ysA xsB ysB f) ∧
      mulY (swapL xsB) (turnL xsB ysB) (swapL xsA) (turnL xsA ysA) f = turnL (mulX xsA ysA xsB ysB f) (mulY xsA ysA xsB ysB f) ∧
      ∀ r, r < R → tenB [((1 : Nat) : Int), (m : Int)] ((ysA.drop (r * m)).take m) = true ∧ mulE [((1 : Nat) : Int), (m : Int)] ((ysA.drop (r * m)).take m) xsB ysB f = 0 ∧
        mulY [((1 : Nat) : Int), (m : Int)] ((ysA.drop (r * m)).take m) xsB ysB f = ((mulY xsA ysA xsB ysB f).drop (r * C)).take C := by
  obtain ⟨J, C, rfl⟩ := list2 hb (tenB_iff.1 tB).1
  subst hxA
  obtain ⟨rfl, hg, _⟩ := (mul2_iff _ _ _ _ _ _ _).1 h
  have g := good2_iff.1 hg
  obtain ⟨e1, e2⟩ := mulY2 h
  obtain ⟨e3, e4, e5⟩ := mul_turned tA tB h
  have t1 := turn_ten tA (Nat.le_refl 2)
  have t2 := turn_ten tB (Nat.le_refl 2)
  have t3 := mul_ten h
  rw [swap2, swap2, e2, swap2]
  rw [swap2] at t1 t2
  rw [e2] at t3
  exact ⟨C, rfl, ⟨g.2.1.1, g.2.1.2, g.2.2⟩, rfl, by rw [e1]; simp, t1, t2, t3, e3, e4, e5, fun r hr => mul_row tA tB h hr⟩

theorem held9 {V W W2 : World} {a1 a2 a3 a4 a5 a6 a7 a8 a9 : Addr} {v1 v2 v3 v4 v5 v6 v7 v8 v9 : Value} (h : Below V.heap.size V W ∧ W.cell? a1 = some v1 ∧ W.cell? a2 = some v2 ∧ W.cell? a3 = some v3 ∧ W.cell? a4 = some v4 ∧ W.cell? a5 = some v5 ∧ W.cell? a6 = some v6 ∧ W.cell? a7 = some v7 ∧ W.cell? a8 = some v8 ∧ W.cell? a9 = some v9) (hb : Below W.heap.size W W2) : Below V.heap.size V W2 ∧ W2.cell? a1 = some v1 ∧ W2.cell? a2 = some v2 ∧ W2.cell? a3 = some v3 ∧ W2.cell? a4 = some v4 ∧ W2.cell? a5 = some v5 ∧ W2.cell? a6 = some v6 ∧ W2.cell? a7 = some v7 ∧ W2.cell? a8 = some v8 ∧ W2.cell? a9 = some v9 := by
  obtain ⟨h0, h1, h2, h3, h4, h5, h6, h7, h8, h9⟩ := h
  exact ⟨h0.trans (hb.mono h0.size), (hb.cell (World.block_lt_of_cell? W _ h1)).trans h1, (hb.cell (World.block_lt_of_cell? W _ h2)).trans h2, (hb.cell (World.block_lt_of_cell? W _ h3)).trans h3, (hb.cell (World.block_lt_of_cell? W _ h4)).trans h4, (hb.cell (World.block_lt_of_cell? W _ h5)).trans h5, (hb.cell (World.block_lt_of_cell? W _ h6)).trans h6, (hb.cell (World.block_lt_of_cell? W _ h7)).trans h7, (hb.cell (World.block_lt_of_cell? W _ h8)).trans h8, (hb.cell (World.block_lt_of_cell? W _ h9)).trans h9⟩
theorem held9B {V W : World} {p : Prop} (h : Below V.heap.size V W ∧ p) : Below V.heap.size V W := h.1
end Go.Proofs.Ytjjgmdnmhfoacaa
