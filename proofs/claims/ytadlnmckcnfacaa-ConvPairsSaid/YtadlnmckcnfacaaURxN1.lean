import Derived.Test.YtadlnmckcnfacaaRows
import Derived.Test.YtadlnmckcnfacaaURdU
import Derived.BigQuiet
import Derived.BigRegion
import Derived.Deep.Cut
import Derived.Deep.CutBlock
import Derived.Deep.CutRange
import Derived.Deep.LoopGhost
import Derived.Deep.RegionHeld3
import Derived.Deep.RegionWith
import Derived.WalkMore
set_option linter.unusedVariables false
set_option linter.unusedSimpArgs false
namespace Go.Proofs.Ytadlnmckcnfacaa
open Go.RowKit Go.Rt
theorem valB_zeros (B n : Nat) : valB B (List.replicate n 0) = 0 := by
 induction n with
 | zero => rfl
 | succ n ih => rw [List.replicate_succ, valB, ih]; rfl
theorem make_u32 (n : Nat) (hn : n ≤ 17592186044416) (w : World) : (Instr.makeSlice 128 (.int .i64 (n : Int)) (.int .i64 (n : Int))).run Try.prog w = .ok (.slice (some ⟨w.heap.size, 0, none⟩) n n) (w.alloc (.cells (madeCells #[Value.int .u32 0] n) 130)) := by
 obtain ⟨i, hi, hz0, hz1, hz2⟩ := info_parts infoU32n
 have hr := run_make (P := Try.prog) w 128 130 i (.int .u32 0) Try.underlying128 hi hz0 .i64 .i64 n n (by omega) (Int.le_refl _) (by rw [hz2]; omega) (by omega)
 simp only [Int.toNat_natCast, hz1, Nat.mul_one, Value.cells] at hr
 exact hr
theorem valB_set {B : Nat} : ∀ (L : List Int) (j old d : Nat), j < L.length → L[j]?.getD 0 = (old : Int) → valB B (L.set j (d : Int)) + B ^ j * old = valB B L + B ^ j * d
 | x :: r, 0, old, d, _, h => by
  have : x = old := by simpa using h
  subst this
  simp [valB]
  omega
 | x :: r, j + 1, old, d, hj, h => by
  have ih := valB_set (B := B) r j old d (by simpa using hj) (by simpa using h)
  rw [List.set_cons_succ, valB, valB, Nat.pow_succ, Nat.mul_comm (B ^ j) B, Nat.mul_assoc, Nat.mul_assoc, Nat.add_assoc, ← Nat.mul_add, ih, Nat.mul_add]
  omega
theorem stored_u32 {w : World} {base g n cap : Nat} {L : List Int} (h : w.ownsRow base 130 1 (.slice (some ⟨g, 0, none⟩) n cap) n (L.map (Value.int .u32))) (j : Nat) (x : Int) : (w.setCell ⟨g, j, none⟩ (.int .u32 x)).ownsRow base 130 1 (.slice (some ⟨g, 0, none⟩) n cap) n ((L.set j x).map (Value.int .u32)) := by
 have := (h.stored j (.int .u32 x)).1
 rwa [map_set] at this
theorem below_drewN0 (w : World) (q : Nat) : Below w.heap.size w (w.drewN q) :=
 ⟨rfl, rfl, rfl, Nat.le_refl _, fun _ _ => rfl⟩
end Go.Proofs.Ytadlnmckcnfacaa
