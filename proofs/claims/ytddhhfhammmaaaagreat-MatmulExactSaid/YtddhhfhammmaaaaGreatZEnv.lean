/- What a walk over numbers with a sign carries: variables of two cells, numbers in memory, and that nothing older has turned. -/
import Derived.Test.YtddhhfhammmaaaaGreatN18
set_option linter.unusedVariables false
set_option linter.unusedSimpArgs false
namespace Go.Proofs.YtddhhfhammmaaaaGreat
open Go.RowKit Go.Rt

theorem nres_cc {fn : Func} {p q : Tmp} {ty ty2 : TypeId} (h : fn.results = #[.cell p ty, .cell q ty2]) (tmps : Array Value) (P : Program) (w : World) :
    (results fn tmps).run P w = ((asAddr (tmps.getD p undef)).run P w).andThen fun a w₁ => ((loadVar ty a).run P w₁).andThen fun v w₂ => ((asAddr (tmps.getD q undef)).run P w₂).andThen fun a₂ w₃ => ((loadVar ty2 a₂).run P w₃).andThen fun v₂ w₄ => .ok (.tuple #[v, v₂]) w₄ := by
  simp only [results, h]
  simp [Sem.run_bind, Result.andThen]
structure ZEnv (B : Nat) (w0 W : World) (L : List (Nat × Value × Value)) (N : List (Option Addr × Nat × Nat)) : Prop where
  hB : B ≤ W.heap.size
  bel : Below B w0 W
  boxes : ∀ p ∈ L, NBox2 W p.1 p.2.1 p.2.2 ∧ p.1 < W.heap.size
  nums : ∀ p ∈ N, NAt W W.heap.size p.1 p.2.1 p.2.2
section
variable {B : Nat} {w0 W W' : World} {L : List (Nat × Value × Value)} {N : List (Option Addr × Nat × Nat)}
theorem ZEnv.start (w : World) : ZEnv w.heap.size w w [] [] := ⟨Nat.le_refl _, Below.refl _ _, by simp, by simp⟩
theorem ZEnv.next (h : ZEnv B w0 W L N) (hb : Below W.heap.size W W') : ZEnv B w0 W' L N :=
  ⟨Nat.le_trans h.hB hb.size, h.bel.trans (hb.mono h.hB), fun p hp => ⟨(h.boxes p hp).1.below hb (h.boxes p hp).2, Nat.lt_of_lt_of_le (h.boxes p hp).2 hb.size⟩, fun p hp => (h.nums p hp).next hb⟩
theorem ZEnv.addN (h : ZEnv B w0 W L N) {a : Option Addr} {c m : Nat} (hN : NAt W W.heap.size a c m) : ZEnv B w0 W L ((a, c, m) :: N) :=
  ⟨h.hB, h.bel, h.boxes, fun p hp => by
    rcases List.mem_cons.1 hp with rfl | hp
    · exact hN
    · exact h.nums p hp⟩
theorem ZEnv.addB (h : ZEnv B w0 W L N) {b : Nat} {v0 v1 : Value} (hX : NBox2 W b v0 v1) : ZEnv B w0 W ((b, v0, v1) :: L) N :=
  ⟨h.hB, h.bel, fun p hp => by
    rcases List.mem_cons.1 hp with rfl | hp
    · exact ⟨hX, World.block_lt_of_cell? W _ hX.c0⟩
    · exact h.boxes p hp, h.nums⟩
theorem ZEnv.alloc (h : ZEnv B w0 W L N) (o : Obj) : ZEnv B w0 (W.alloc o) L N := h.next ((Below.refl _ _).alloc (Nat.le_refl _) _)
theorem ZEnv.box (h : ZEnv B w0 W L N) (i : Nat) {b : Nat} {v0 v1 : Value} (hi : L[i]? = some (b, v0, v1)) : NBox2 W b v0 v1 := (h.boxes _ (List.mem_of_getElem? hi)).1
theorem ZEnv.lt (h : ZEnv B w0 W L N) (i : Nat) {b : Nat} {v0 v1 : Value} (hi : L[i]? = some (b, v0, v1)) : b < W.heap.size := (h.boxes _ (List.mem_of_getElem? hi)).2
theorem ZEnv.num (h : ZEnv B w0 W L N) (i : Nat) {a : Option Addr} {c m : Nat} (hi : N[i]? = some (a, c, m)) : NAt W W.heap.size a c m := h.nums _ (List.mem_of_getElem? hi)
/-- A variable of a number written anew (the one in front). -/
theorem ZEnv.store {b : Nat} {v0 v1 : Value} (h : ZEnv B w0 W ((b, v0, v1) :: L) N) (hne : ∀ p ∈ L, p.1 ≠ b) (hb : B ≤ b) (h0 : ∀ x, v0 ≠ .int .u64 x) (h1 : ∀ x, v1 ≠ .int .u64 x) (y0 y1 : Value) :
    ZEnv B w0 ((W.setCell ⟨b, 0, none⟩ y0).setCell ⟨b, 1, none⟩ y1) ((b, y0, y1) :: L) N := by
  have hX := h.box 0 (b := b) rfl
  have hlt := World.block_lt_of_cell? W _ hX.c0
  have hs : ((W.setCell ⟨b, 0, none⟩ y0).setCell ⟨b, 1, none⟩ y1).heap.size = W.heap.size := by simp
  refine ⟨by rw [hs]; exact h.hB, (h.bel.setCell hb _).setCell hb _, fun p hp => ?_, fun p hp => ?_⟩
  · rcases List.mem_cons.1 hp with rfl | hp
    · obtain ⟨c0, c1, f0, f1⟩ := hX
      refine ⟨⟨?_, ?_, ?_, ?_⟩, by rw [hs]; exact hlt⟩ <;> go_simp
    · have hn := hne p hp
      obtain ⟨⟨c0, c1, f0, f1⟩, hl⟩ := h.boxes p (List.mem_cons_of_mem _ hp)
      refine ⟨⟨?_, ?_, ?_, ?_⟩, by rw [hs]; exact hl⟩
      · rw [World.cell?_setCell_far _ _ _ _ (Ne.symm hn), World.cell?_setCell_far _ _ _ _ (Ne.symm hn)]; exact c0
      · rw [World.cell?_setCell_far _ _ _ _ (Ne.symm hn), World.cell?_setCell_far _ _ _ _ (Ne.symm hn)]; exact c1
      · go_simp
      · go_simp
  · obtain ⟨c0, c1, f0, f1⟩ := hX
    refine nat_set (v := v1) (nat_set (h.nums p hp) c0 h0) ?_ h1
    go_simp
/-- Fewer of the variables, in another order. -/
theorem ZEnv.sub (h : ZEnv B w0 W L N) (L' : List (Nat × Value × Value)) (hs : ∀ p ∈ L', p ∈ L) : ZEnv B w0 W L' N := ⟨h.hB, h.bel, fun p hp => h.boxes p (hs p hp), h.nums⟩
theorem ZEnv.subN (h : ZEnv B w0 W L N) (N' : List (Option Addr × Nat × Nat)) (hs : ∀ p ∈ N', p ∈ N) : ZEnv B w0 W L N' := ⟨h.hB, h.bel, h.boxes, fun p hp => h.nums p (hs p hp)⟩
end
theorem zbox_made (W : World) (v0 v1 : Value) (t : TypeId) : NBox2 (W.alloc (.cells #[v0, v1] t)) W.heap.size v0 v1 := by constructor <;> go_simp
theorem bool_int {b : Bool} : ∀ x, Value.bool b ≠ .int .u64 x := by intro x h; cases h
theorem slice_int {a : Option Addr} {n c : Nat} : ∀ x, Value.slice a n c ≠ .int .u64 x := by intro x h; cases h
/-- Two numbers with a sign handed back. -/
def RetZZ (w : World) (x y : Int) (e : Ending) (w' : World) : Prop := ∃ a c b d, e = .returned (.tuple #[.agg #[.bool (decide (x < 0)), .slice a (dig 18446744073709551616 x.natAbs).length c], .agg #[.bool (decide (y < 0)), .slice b (dig 18446744073709551616 y.natAbs).length d]]) ∧ NAt w' w'.heap.size a c x.natAbs ∧ NAt w' w'.heap.size b d y.natAbs ∧ Below w.heap.size w w'
/-- The quotient of numbers with a sign, rounded down, by sizes. -/
def floorZ (x y : Int) : Int := sgnZ (decide (x < 0) != decide (y < 0)) (x.natAbs / y.natAbs) - (if ((decide (x < 0) != decide (y < 0)) && decide (0 < x.natAbs % y.natAbs)) = true then 1 else 0)
theorem dig_fits {m : Nat} (k : Nat) (h : m < 2 ^ k) (hk : k ≤ 6400000) : (dig 18446744073709551616 m).length ≤ 400000 := by
  have := dig_len_shift m k h
  omega
end Go.Proofs.YtddhhfhammmaaaaGreat
