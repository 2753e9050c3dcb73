import Derived.Test.YtadlnmckcnfacaaGreatVBase
import Derived.WalkSmall
set_option linter.unusedVariables false
set_option linter.unusedSimpArgs false
namespace Go.Rt
open Go.RowKit

structure Env (k : IntKind) (e : TypeId) (B : Nat) (w0 W : World) (L : List (Option Addr × List Int)) (O : List (Nat × Option Addr × Nat × List Int)) (C : List (Addr × Value)) : Prop where
  hB : B ≤ W.heap.size
  bel : Below B w0 W
  lives : ∀ p ∈ L, Ints k W W.heap.size p.1 p.2
  owns : ∀ p ∈ O, W.ownsRow p.1 e 1 (.slice p.2.1 p.2.2.2.length p.2.2.1) p.2.2.2.length (p.2.2.2.map (Value.int k)) ∧ B ≤ p.1 ∧ p.1 ≤ W.heap.size
  cells : ∀ p ∈ C, W.cell? p.1 = some p.2 ∧ p.1.block < W.heap.size

section
variable {k : IntKind} {e : TypeId} {B : Nat} {w0 W W' : World} {L : List (Option Addr × List Int)} {O : List (Nat × Option Addr × Nat × List Int)} {C : List (Addr × Value)}

theorem Env.next (h : Env k e B w0 W L O C) (hb : Below W.heap.size W W') : Env k e B w0 W' L O C :=
  ⟨Nat.le_trans h.hB hb.size, h.bel.trans (hb.mono h.hB), fun p hp => ((h.lives p hp).below hb (Nat.le_refl _)).mono hb.size,
   fun p hp => ⟨own_below (h.owns p hp).1 hb (Nat.le_refl _), (h.owns p hp).2.1, Nat.le_trans (h.owns p hp).2.2 hb.size⟩,
   fun p hp => ⟨(hb.cell (p := p.1) (h.cells p hp).2).trans (h.cells p hp).1, Nat.lt_of_lt_of_le (h.cells p hp).2 hb.size⟩⟩

theorem Env.drewN (h : Env k e B w0 W L O C) (q : Nat) : Env k e B w0 (W.drewN q) L O C := h.next (below_drewN (Below.refl _ _) q)
theorem Env.alloc (h : Env k e B w0 W L O C) (o : Obj) : Env k e B w0 (W.alloc o) L O C := h.next ((Below.refl _ _).alloc (Nat.le_refl _) _)

theorem Env.cell (h : Env k e B w0 W L O C) {a : Addr} {v : Value} (hp : (a, v) ∈ C) : W.cell? a = some v := (h.cells _ hp).1
theorem Env.own (h : Env k e B w0 W L O C) {b : Nat} {a : Option Addr} {c : Nat} {xs : List Int} (hp : (b, a, c, xs) ∈ O) : W.ownsRow b e 1 (.slice a xs.length c) xs.length (xs.map (Value.int k)) := (h.owns _ hp).1
theorem Env.addL (h : Env k e B w0 W L O C) {a : Option Addr} {xs : List Int} (hi : Ints k W W.heap.size a xs) : Env k e B w0 W ((a, xs) :: L) O C :=
  ⟨h.hB, h.bel, fun p hp => by
    rcases List.mem_cons.1 hp with rfl | hp
    · exact hi
    · exact h.lives p hp, h.owns, h.cells⟩
theorem Env.addO (h : Env k e B w0 W L O C) {b c : Nat} {a : Option Addr} {xs : List Int} (hb : B ≤ b) (hbs : b ≤ W.heap.size)
    (ho : W.ownsRow b e 1 (.slice a xs.length c) xs.length (xs.map (Value.int k))) : Env k e B w0 W L ((b, a, c, xs) :: O) C :=
  ⟨h.hB, h.bel, h.lives, fun p hp => by
    rcases List.mem_cons.1 hp with rfl | hp
    · exact ⟨ho, hb, hbs⟩
    · exact h.owns p hp, h.cells⟩
theorem Env.made (h : Env k e B w0 W L O C) (hb : Below W.heap.size W W') {v : Value} {xs : List Int} (ho : W'.ownsRow W.heap.size e 1 v xs.length (xs.map (Value.int k))) (hwf : ∀ x ∈ xs, (Lit.int k x).wf = true) :
    ∃ a c, v = .slice a xs.length c ∧ Env k e B w0 W' ((a, xs) :: L) ((W.heap.size, a, c, xs) :: O) C := by
  obtain ⟨a, c, rfl, hi⟩ := own_ints ho hwf
  exact ⟨a, c, rfl, ((h.next hb).addL hi).addO h.hB hb.size ho⟩
theorem Env.start (k : IntKind) (e : TypeId) (W : World) : Env k e W.heap.size W W [] [] [] := ⟨Nat.le_refl _, Below.refl _ _, by simp, by simp, by simp⟩
end
end Go.Rt
