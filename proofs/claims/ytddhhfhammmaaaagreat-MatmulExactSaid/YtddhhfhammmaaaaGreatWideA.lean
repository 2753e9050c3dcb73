/- Negatives of wide numbers; claims on a region's values; what a rounded quotient of two words may be. -/
import Derived.Test.YtddhhfhammmaaaaGreatParts
import Derived.Test.YtddhhfhammmaaaaGreatN16
import Derived.WalkMore
set_option linter.unusedVariables false
set_option linter.unusedSimpArgs false
namespace Go.Proofs.YtddhhfhammmaaaaGreat
open Go.RowKit Go.Rt

/-- Claims on values. -/
def IsZ (z : Int) (u : Value) (w : World) : Prop := ∃ a c, u = .agg #[.bool (decide (z < 0)), .slice a (dig 18446744073709551616 z.natAbs).length c] ∧ NAt w w.heap.size a c z.natAbs
theorem isZ_carries (z : Int) : Carries (IsZ z) := fun _ _ _ ⟨a, c, h, hN⟩ hb => ⟨a, c, h, hN.next hb⟩
def IsBox (W : World) (v0 v1 : Value) (u : Value) (w : World) : Prop := ∃ b, u = .pointer (some ⟨b, 0, none⟩) ∧ W.heap.size ≤ b ∧ b < w.heap.size ∧ NBox2 w b v0 v1
theorem isBox_carries (W : World) (v0 v1 : Value) : Carries (IsBox W v0 v1) := fun _ _ _ ⟨b, h, h1, h2, h3⟩ hb => ⟨b, h, h1, Nat.lt_of_lt_of_le h2 hb.size, h3.below hb h2⟩
theorem dig_small {m : Nat} (h : m < 18446744073709551616 ^ 1000) : (dig 18446744073709551616 m).length ≤ 1000000 := Nat.le_trans (dig_len_le (by decide) 1000 m h) (by decide)
theorem dig_word {z : Int} (h : -340282366920938463463374607431768211456 ≤ z ∧ z ≤ 340282366920938463463374607431768211456) : (dig 18446744073709551616 z.natAbs).length ≤ 1000000 :=
  Nat.le_trans (dig_len_le (by decide) 3 _ (by have : z.natAbs < 18446744073709551616 ^ 3 := by rw [show (18446744073709551616 : Nat) ^ 3 = 6277101735386680763835789423207666416102355444464034512896 by decide]; omega
                                               exact this)) (by decide)
end Go.Proofs.YtddhhfhammmaaaaGreat
