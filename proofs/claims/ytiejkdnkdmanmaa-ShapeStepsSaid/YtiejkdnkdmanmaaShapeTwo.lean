/- The argument of layer 6's statements, in memory. -/
import Derived.Test.YtiejkdnkdmanmaaEnv
set_option linter.unusedVariables false
set_option linter.unusedSimpArgs false
namespace Go.Proofs.Ytiejkdnkdmanmaa
open Go.RowKit Go.Rt

/-- An element of layer 6's statements: three lists and a number, at block b from offset o on. -/
structure TwoAt (w : World) (hi b o : Nat) (aS aT aI : Option Addr) (S T I : List Int) (cS cT cI : Nat) (n : Int) : Prop where
  lt : b < hi
  c0 : w.cell? ⟨b, o, none⟩ = some (.slice aS S.length cS)
  c1 : w.cell? ⟨b, o + 1, none⟩ = some (.slice aT T.length cT)
  c2 : w.cell? ⟨b, o + 2, none⟩ = some (.slice aI I.length cI)
  c3 : w.cell? ⟨b, o + 3, none⟩ = some (.int .i64 n)
  iS : Ints .i64 w hi aS S
  iT : Ints .i64 w hi aT T
  iI : Ints .i64 w hi aI I
  n0 : -9223372036854775808 ≤ n
  n1 : n ≤ 9223372036854775807

theorem TwoAt.below {w w' : World} {hi b o : Nat} {aS aT aI : Option Addr} {S T I : List Int} {cS cT cI : Nat} {n : Int} (h : TwoAt w hi b o aS aT aI S T I cS cT cI n) (hb : Below hi w w') :
    TwoAt w' hi b o aS aT aI S T I cS cT cI n :=
  ⟨h.lt, (hb.cell (p := ⟨b, o, none⟩) h.lt).trans h.c0, (hb.cell (p := ⟨b, o + 1, none⟩) h.lt).trans h.c1, (hb.cell (p := ⟨b, o + 2, none⟩) h.lt).trans h.c2, (hb.cell (p := ⟨b, o + 3, none⟩) h.lt).trans h.c3,
   h.iS.below hb (Nat.le_refl _), h.iT.below hb (Nat.le_refl _), h.iI.below hb (Nat.le_refl _), h.n0, h.n1⟩

/-- The argument of layer 6's statements. -/
structure TwosAt (w : World) (hi : Nat) (a : Option Addr) (n : Nat) : Prop where
  len : n ≤ 9223372036854775807
  at_ : ∀ i, i < n → ∃ b off aS aT aI S T I cS cT cI m, a = some ⟨b, off, none⟩ ∧ TwoAt w hi b (off + i * 4) aS aT aI S T I cS cT cI m

end Go.Proofs.Ytiejkdnkdmanmaa
