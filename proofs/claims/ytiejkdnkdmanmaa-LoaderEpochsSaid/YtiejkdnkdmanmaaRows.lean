/-
  No cell of these rows narrows 'for every input' (looked for: loops, veiled, ifaces, maps, wideKeys, modest, calm, conditions, laid).
  DERIVED. THE GIVEN ROWS OF THIS SEAT. 10 by the template 'for every input the law returns true; each argument reads behind the call as it read before'; 0 by the template 'total and deterministic' (their statements: YtiejkdnkdmanmaaTotals.lean).
  GIVEN WITH THE SEED: the statements are not yours to turn. If you find one false, say at which input.
  Laid BY PROGRAM, IN A SANDBOX (cutbox-rows.mjs): the forced cells as the released guide's own fill.sh prints them over the translation 9cecf51d082b6543… (all of the seat's roots in one cut). By AI agents, Wed Nov 11 2026. No macro, syntax, notation, axiom, sorry.
-/
import Derived.Test.YtiejkdnkdmanmaaChecked
import GoSem.Claim
import GoSem.ClaimJoined
import GoSem.ClaimMapViews
import Derived.JoinedTies
import Derived.KernelRfl
namespace Go.Proofs.Ytiejkdnkdmanmaa
/- THE CELL 'sum', in the pinned program and in every row, IS THE sha256 OF THE DUMP (.gsa) THAT YtiejkdnkdmanmaaProg.lean LOADS. Nothing in Lean hashes anything: it is a label: what it is worth is what the hold of that sum in a sandbox is worth. -/
noncomputable def Try.pinned : Pinned := { name := "ytiejkdnkdmanmaa", sum := "9cecf51d082b654304787c64d1fb2f602499f11580496a65409589c86e45fcf9", checked := Try.checked }
namespace Rows
def none {H : Type} : Left H := { results := [], args := [] }

/-- 'ratchetlaw24.RngFair': WHATEVER THE INPUT: true; the input reads as it did. -/
def rngFairSpec : ChangeSpec := { name := "rngFair", fn := fun _ => fun
  | [d] => { results := [.lit (.bool true)], args := [d] }
  | _ => none }
def rngFairRow : OpenClaim := { program := "ytiejkdnkdmanmaa", sum := "9cecf51d082b654304787c64d1fb2f602499f11580496a65409589c86e45fcf9", func := "ratchet/ratchetlaw24.RngFair", spec := "rngFair", unfollowed := true, recurses := true, apart := false }
def RngFairSaid : Prop := rngFairRow.holds Try.pinned (OpenSpec.ofChange rngFairSpec)

/-- ITS FALSE NEIGHBOUR: 'it returns false'. Refute it at one input. -/
def rngFairWrong : ChangeSpec := { name := "rngFair", fn := fun _ => fun
  | [d] => { results := [.lit (.bool false)], args := [d] }
  | _ => none }
def RngFairWrongFalsely : Prop := rngFairRow.holds Try.pinned (OpenSpec.ofChange rngFairWrong)

/-- 'ratchetlaw24.RngPowers': WHATEVER THE INPUT: true; the input reads as it did. -/
def rngPowersSpec : ChangeSpec := { name := "rngPowers", fn := fun _ => fun
  | [d] => { results := [.lit (.bool true)], args := [d] }
  | _ => none }
def rngPowersRow : OpenClaim := { program := "ytiejkdnkdmanmaa", sum := "9cecf51d082b654304787c64d1fb2f602499f11580496a65409589c86e45fcf9", func := "ratchet/ratchetlaw24.RngPowers", spec := "rngPowers", unfollowed := true, recurses := true, apart := false }
def RngPowersSaid : Prop := rngPowersRow.holds Try.pinned (OpenSpec.ofChange rngPowersSpec)

/-- ITS FALSE NEIGHBOUR: 'it returns false'. Refute it at one input. -/
def rngPowersWrong : ChangeSpec := { name := "rngPowers", fn := fun _ => fun
  | [d] => { results := [.lit (.bool false)], args := [d] }
  | _ => none }
def RngPowersWrongFalsely : Prop := rngPowersRow.holds Try.pinned (OpenSpec.ofChange rngPowersWrong)

/-- 'ratchetlaw24.RngExact': WHATEVER THE INPUT: true; the input reads as it did. -/
def rngExactSpec : ChangeSpec := { name := "rngExact", fn := fun _ => fun
  | [d] => { results := [.lit (.bool true)], args := [d] }
  | _ => none }
def rngExactRow : OpenClaim := { program := "ytiejkdnkdmanmaa", sum := "9cecf51d082b654304787c64d1fb2f602499f11580496a65409589c86e45fcf9", func := "ratchet/ratchetlaw24.RngExact", spec := "rngExact", unfollowed := true, recurses := true, apart := false }
def RngExactSaid : Prop := rngExactRow.holds Try.pinned (OpenSpec.ofChange rngExactSpec)

/-- ITS FALSE NEIGHBOUR: 'it returns false'. Refute it at one input. -/
def rngExactWrong : ChangeSpec := { name := "rngExact", fn := fun _ => fun
  | [d] => { results := [.lit (.bool false)], args := [d] }
  | _ => none }
def RngExactWrongFalsely : Prop := rngExactRow.holds Try.pinned (OpenSpec.ofChange rngExactWrong)

/-- 'ratchetlaw6.ShapeSteps': WHATEVER THE INPUT: true; the input reads as it did. -/
def shapeStepsSpec : ChangeSpec := { name := "shapeSteps", fn := fun _ => fun
  | [d] => { results := [.lit (.bool true)], args := [d] }
  | _ => none }
def shapeStepsRow : OpenClaim := { program := "ytiejkdnkdmanmaa", sum := "9cecf51d082b654304787c64d1fb2f602499f11580496a65409589c86e45fcf9", func := "ratchet/ratchetlaw6.ShapeSteps", spec := "shapeSteps", apart := false }
def ShapeStepsSaid : Prop := shapeStepsRow.holds Try.pinned (OpenSpec.ofChange shapeStepsSpec)

/-- ITS FALSE NEIGHBOUR: 'it returns false'. Refute it at one input. -/
def shapeStepsWrong : ChangeSpec := { name := "shapeSteps", fn := fun _ => fun
  | [d] => { results := [.lit (.bool false)], args := [d] }
  | _ => none }
def ShapeStepsWrongFalsely : Prop := shapeStepsRow.holds Try.pinned (OpenSpec.ofChange shapeStepsWrong)

/-- 'ratchetlaw6.ShapeExact': WHATEVER THE INPUT: true; the input reads as it did. -/
def shapeExactSpec : ChangeSpec := { name := "shapeExact", fn := fun _ => fun
  | [d] => { results := [.lit (.bool true)], args := [d] }
  | _ => none }
def shapeExactRow : OpenClaim := { program := "ytiejkdnkdmanmaa", sum := "9cecf51d082b654304787c64d1fb2f602499f11580496a65409589c86e45fcf9", func := "ratchet/ratchetlaw6.ShapeExact", spec := "shapeExact", apart := false }
def ShapeExactSaid : Prop := shapeExactRow.holds Try.pinned (OpenSpec.ofChange shapeExactSpec)

/-- ITS FALSE NEIGHBOUR: 'it returns false'. Refute it at one input. -/
def shapeExactWrong : ChangeSpec := { name := "shapeExact", fn := fun _ => fun
  | [d] => { results := [.lit (.bool false)], args := [d] }
  | _ => none }
def ShapeExactWrongFalsely : Prop := shapeExactRow.holds Try.pinned (OpenSpec.ofChange shapeExactWrong)

/-- 'ratchetlaw6.ShapeSpreads': WHATEVER THE INPUT: true; the input reads as it did. -/
def shapeSpreadsSpec : ChangeSpec := { name := "shapeSpreads", fn := fun _ => fun
  | [d] => { results := [.lit (.bool true)], args := [d] }
  | _ => none }
def shapeSpreadsRow : OpenClaim := { program := "ytiejkdnkdmanmaa", sum := "9cecf51d082b654304787c64d1fb2f602499f11580496a65409589c86e45fcf9", func := "ratchet/ratchetlaw6.ShapeSpreads", spec := "shapeSpreads", apart := false }
def ShapeSpreadsSaid : Prop := shapeSpreadsRow.holds Try.pinned (OpenSpec.ofChange shapeSpreadsSpec)

/-- ITS FALSE NEIGHBOUR: 'it returns false'. Refute it at one input. -/
def shapeSpreadsWrong : ChangeSpec := { name := "shapeSpreads", fn := fun _ => fun
  | [d] => { results := [.lit (.bool false)], args := [d] }
  | _ => none }
def ShapeSpreadsWrongFalsely : Prop := shapeSpreadsRow.holds Try.pinned (OpenSpec.ofChange shapeSpreadsWrong)

/-- 'ratchetlaw6.ShapeBack': WHATEVER THE INPUT: true; the input reads as it did. -/
def shapeBackSpec : ChangeSpec := { name := "shapeBack", fn := fun _ => fun
  | [d] => { results := [.lit (.bool true)], args := [d] }
  | _ => none }
def shapeBackRow : OpenClaim := { program := "ytiejkdnkdmanmaa", sum := "9cecf51d082b654304787c64d1fb2f602499f11580496a65409589c86e45fcf9", func := "ratchet/ratchetlaw6.ShapeBack", spec := "shapeBack", apart := false }
def ShapeBackSaid : Prop := shapeBackRow.holds Try.pinned (OpenSpec.ofChange shapeBackSpec)

/-- ITS FALSE NEIGHBOUR: 'it returns false'. Refute it at one input. -/
def shapeBackWrong : ChangeSpec := { name := "shapeBack", fn := fun _ => fun
  | [d] => { results := [.lit (.bool false)], args := [d] }
  | _ => none }
def ShapeBackWrongFalsely : Prop := shapeBackRow.holds Try.pinned (OpenSpec.ofChange shapeBackWrong)

/-- 'ratchetlaw31.LoaderSizes': WHATEVER THE INPUT: true; the input reads as it did. -/
def loaderSizesSpec : ChangeSpec := { name := "loaderSizes", fn := fun _ => fun
  | [d] => { results := [.lit (.bool true)], args := [d] }
  | _ => none }
def loaderSizesRow : OpenClaim := { program := "ytiejkdnkdmanmaa", sum := "9cecf51d082b654304787c64d1fb2f602499f11580496a65409589c86e45fcf9", func := "ratchet/ratchetlaw31.LoaderSizes", spec := "loaderSizes", unfollowed := true, recurses := true, apart := false }
def LoaderSizesSaid : Prop := loaderSizesRow.holds Try.pinned (OpenSpec.ofChange loaderSizesSpec)

/-- ITS FALSE NEIGHBOUR: 'it returns false'. Refute it at one input. -/
def loaderSizesWrong : ChangeSpec := { name := "loaderSizes", fn := fun _ => fun
  | [d] => { results := [.lit (.bool false)], args := [d] }
  | _ => none }
def LoaderSizesWrongFalsely : Prop := loaderSizesRow.holds Try.pinned (OpenSpec.ofChange loaderSizesWrong)

/-- 'ratchetlaw31.LoaderEpochs': WHATEVER THE INPUT: true; the input reads as it did. -/
def loaderEpochsSpec : ChangeSpec := { name := "loaderEpochs", fn := fun _ => fun
  | [d] => { results := [.lit (.bool true)], args := [d] }
  | _ => none }
def loaderEpochsRow : OpenClaim := { program := "ytiejkdnkdmanmaa", sum := "9cecf51d082b654304787c64d1fb2f602499f11580496a65409589c86e45fcf9", func := "ratchet/ratchetlaw31.LoaderEpochs", spec := "loaderEpochs", unfollowed := true, recurses := true, apart := false }
def LoaderEpochsSaid : Prop := loaderEpochsRow.holds Try.pinned (OpenSpec.ofChange loaderEpochsSpec)

/-- ITS FALSE NEIGHBOUR: 'it returns false'. Refute it at one input. -/
def loaderEpochsWrong : ChangeSpec := { name := "loaderEpochs", fn := fun _ => fun
  | [d] => { results := [.lit (.bool false)], args := [d] }
  | _ => none }
def LoaderEpochsWrongFalsely : Prop := loaderEpochsRow.holds Try.pinned (OpenSpec.ofChange loaderEpochsWrong)

/-- 'ratchetlaw31.LoaderExact': WHATEVER THE INPUT: true; the input reads as it did. -/
def loaderExactSpec : ChangeSpec := { name := "loaderExact", fn := fun _ => fun
  | [d] => { results := [.lit (.bool true)], args := [d] }
  | _ => none }
def loaderExactRow : OpenClaim := { program := "ytiejkdnkdmanmaa", sum := "9cecf51d082b654304787c64d1fb2f602499f11580496a65409589c86e45fcf9", func := "ratchet/ratchetlaw31.LoaderExact", spec := "loaderExact", unfollowed := true, recurses := true, apart := false }
def LoaderExactSaid : Prop := loaderExactRow.holds Try.pinned (OpenSpec.ofChange loaderExactSpec)

/-- ITS FALSE NEIGHBOUR: 'it returns false'. Refute it at one input. -/
def loaderExactWrong : ChangeSpec := { name := "loaderExact", fn := fun _ => fun
  | [d] => { results := [.lit (.bool false)], args := [d] }
  | _ => none }
def LoaderExactWrongFalsely : Prop := loaderExactRow.holds Try.pinned (OpenSpec.ofChange loaderExactWrong)

/- THE SECOND FORM. 'bulk': how many values and letters a reading holds, each counted each time it is reached (what is shared counts as often as it is met; a slice's spare places count too). A statement '..UptoSaid' is the law's where the arguments, and the package variables that the reading takes, are together of bulk at most 1048576: NARROWER than '..Said'. Prove '..Said' where nothing that the law and all that it calls make is longer than what came in: it says more and counts as full. Else prove '..UptoSaid'. A law counts once. -/
mutual
def uptoBulk {H : Type} : DataW H → Nat
  | .lit (.string bytes) => bytes.length + 1
  | .lit _ => 1
  | .nil => 1
  | .ptr d => uptoBulk d + 1
  | .slice elems spare => uptoBulkAll elems + uptoBulkAll spare + 1
  | .agg parts => uptoBulkAll parts + 1
  | .iface _ d => uptoBulk d + 1
  | .map entries => uptoBulkEntries entries + 1
  | .held _ => 1
def uptoBulkAll {H : Type} : List (DataW H) → Nat
  | [] => 0
  | d :: r => uptoBulk d + uptoBulkAll r
def uptoBulkEntries {H : Type} : List (Lit × DataW H) → Nat
  | [] => 0
  | x :: r => uptoBulkEntry x + uptoBulkEntries r
def uptoBulkEntry {H : Type} : Lit × DataW H → Nat
  | (.string bytes, d) => bytes.length + uptoBulk d + 1
  | (_, d) => uptoBulk d + 1
 end
def uptoSmall : (H : Type) → List (DataW H) → Bool := fun _ ds => decide (uptoBulkAll ds ≤ 1048576)
def OpenSpec.upto (s : _root_.Go.ChangeSpec) : _root_.Go.OpenSpec := { _root_.Go.OpenSpec.ofChange s with cond := some uptoSmall }

/-- 'ratchetlaw24.RngFair', WHERE WHAT IT READS IS OF BULK AT MOST 1048576: true; the input reads as it did. -/
def rngFairUptoRow : OpenClaim := { program := "ytiejkdnkdmanmaa", sum := "9cecf51d082b654304787c64d1fb2f602499f11580496a65409589c86e45fcf9", func := "ratchet/ratchetlaw24.RngFair", spec := "rngFair", unfollowed := true, recurses := true, apart := false, narrowed := true }
def RngFairUptoSaid : Prop := rngFairUptoRow.holds Try.pinned (OpenSpec.upto rngFairSpec)

/-- 'ratchetlaw24.RngPowers', WHERE WHAT IT READS IS OF BULK AT MOST 1048576: true; the input reads as it did. -/
def rngPowersUptoRow : OpenClaim := { program := "ytiejkdnkdmanmaa", sum := "9cecf51d082b654304787c64d1fb2f602499f11580496a65409589c86e45fcf9", func := "ratchet/ratchetlaw24.RngPowers", spec := "rngPowers", unfollowed := true, recurses := true, apart := false, narrowed := true }
def RngPowersUptoSaid : Prop := rngPowersUptoRow.holds Try.pinned (OpenSpec.upto rngPowersSpec)

/-- 'ratchetlaw24.RngExact', WHERE WHAT IT READS IS OF BULK AT MOST 1048576: true; the input reads as it did. -/
def rngExactUptoRow : OpenClaim := { program := "ytiejkdnkdmanmaa", sum := "9cecf51d082b654304787c64d1fb2f602499f11580496a65409589c86e45fcf9", func := "ratchet/ratchetlaw24.RngExact", spec := "rngExact", unfollowed := true, recurses := true, apart := false, narrowed := true }
def RngExactUptoSaid : Prop := rngExactUptoRow.holds Try.pinned (OpenSpec.upto rngExactSpec)

/-- 'ratchetlaw6.ShapeSteps', WHERE WHAT IT READS IS OF BULK AT MOST 1048576: true; the input reads as it did. -/
def shapeStepsUptoRow : OpenClaim := { program := "ytiejkdnkdmanmaa", sum := "9cecf51d082b654304787c64d1fb2f602499f11580496a65409589c86e45fcf9", func := "ratchet/ratchetlaw6.ShapeSteps", spec := "shapeSteps", apart := false, narrowed := true }
def ShapeStepsUptoSaid : Prop := shapeStepsUptoRow.holds Try.pinned (OpenSpec.upto shapeStepsSpec)

/-- 'ratchetlaw6.ShapeExact', WHERE WHAT IT READS IS OF BULK AT MOST 1048576: true; the input reads as it did. -/
def shapeExactUptoRow : OpenClaim := { program := "ytiejkdnkdmanmaa", sum := "9cecf51d082b654304787c64d1fb2f602499f11580496a65409589c86e45fcf9", func := "ratchet/ratchetlaw6.ShapeExact", spec := "shapeExact", apart := false, narrowed := true }
def ShapeExactUptoSaid : Prop := shapeExactUptoRow.holds Try.pinned (OpenSpec.upto shapeExactSpec)

/-- 'ratchetlaw6.ShapeSpreads', WHERE WHAT IT READS IS OF BULK AT MOST 1048576: true; the input reads as it did. -/
def shapeSpreadsUptoRow : OpenClaim := { program := "ytiejkdnkdmanmaa", sum := "9cecf51d082b654304787c64d1fb2f602499f11580496a65409589c86e45fcf9", func := "ratchet/ratchetlaw6.ShapeSpreads", spec := "shapeSpreads", apart := false, narrowed := true }
def ShapeSpreadsUptoSaid : Prop := shapeSpreadsUptoRow.holds Try.pinned (OpenSpec.upto shapeSpreadsSpec)

/-- 'ratchetlaw6.ShapeBack', WHERE WHAT IT READS IS OF BULK AT MOST 1048576: true; the input reads as it did. -/
def shapeBackUptoRow : OpenClaim := { program := "ytiejkdnkdmanmaa", sum := "9cecf51d082b654304787c64d1fb2f602499f11580496a65409589c86e45fcf9", func := "ratchet/ratchetlaw6.ShapeBack", spec := "shapeBack", apart := false, narrowed := true }
def ShapeBackUptoSaid : Prop := shapeBackUptoRow.holds Try.pinned (OpenSpec.upto shapeBackSpec)

/-- 'ratchetlaw31.LoaderSizes', WHERE WHAT IT READS IS OF BULK AT MOST 1048576: true; the input reads as it did. -/
def loaderSizesUptoRow : OpenClaim := { program := "ytiejkdnkdmanmaa", sum := "9cecf51d082b654304787c64d1fb2f602499f11580496a65409589c86e45fcf9", func := "ratchet/ratchetlaw31.LoaderSizes", spec := "loaderSizes", unfollowed := true, recurses := true, apart := false, narrowed := true }
def LoaderSizesUptoSaid : Prop := loaderSizesUptoRow.holds Try.pinned (OpenSpec.upto loaderSizesSpec)

/-- 'ratchetlaw31.LoaderEpochs', WHERE WHAT IT READS IS OF BULK AT MOST 1048576: true; the input reads as it did. -/
def loaderEpochsUptoRow : OpenClaim := { program := "ytiejkdnkdmanmaa", sum := "9cecf51d082b654304787c64d1fb2f602499f11580496a65409589c86e45fcf9", func := "ratchet/ratchetlaw31.LoaderEpochs", spec := "loaderEpochs", unfollowed := true, recurses := true, apart := false, narrowed := true }
def LoaderEpochsUptoSaid : Prop := loaderEpochsUptoRow.holds Try.pinned (OpenSpec.upto loaderEpochsSpec)

/-- 'ratchetlaw31.LoaderExact', WHERE WHAT IT READS IS OF BULK AT MOST 1048576: true; the input reads as it did. -/
def loaderExactUptoRow : OpenClaim := { program := "ytiejkdnkdmanmaa", sum := "9cecf51d082b654304787c64d1fb2f602499f11580496a65409589c86e45fcf9", func := "ratchet/ratchetlaw31.LoaderExact", spec := "loaderExact", unfollowed := true, recurses := true, apart := false, narrowed := true }
def LoaderExactUptoSaid : Prop := loaderExactUptoRow.holds Try.pinned (OpenSpec.upto loaderExactSpec)

end Rows
end Go.Proofs.Ytiejkdnkdmanmaa
