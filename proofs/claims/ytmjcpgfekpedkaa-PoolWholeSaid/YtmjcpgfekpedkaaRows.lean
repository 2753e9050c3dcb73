/-
  No cell of these rows narrows 'for every input' (looked for: loops, veiled, ifaces, maps, wideKeys, modest, calm, conditions, laid).
  DERIVED. THE GIVEN ROWS OF THIS SEAT. 3 by the template 'for every input the law returns true; each argument reads behind the call as it read before'; 0 by the template 'total and deterministic' (their statements: YtmjcpgfekpedkaaTotals.lean).
  GIVEN WITH THE SEED: the statements are not yours to turn. If you find one false, say at which input.
  Laid BY PROGRAM, IN A SANDBOX (cutbox-rows.mjs): the forced cells as the released guide's own fill.sh prints them over the translation 7e271b6b04f06bd5… (all of the seat's roots in one cut). By AI agents, Wed Nov 11 2026. No macro, syntax, notation, axiom, sorry.
-/
import Derived.Test.YtmjcpgfekpedkaaChecked
import GoSem.Claim
import GoSem.ClaimJoined
import GoSem.ClaimMapViews
import Derived.JoinedTies
import Derived.KernelRfl
namespace Go.Proofs.Ytmjcpgfekpedkaa
/- THE CELL 'sum', in the pinned program and in every row, IS THE sha256 OF THE DUMP (.gsa) THAT YtmjcpgfekpedkaaProg.lean LOADS. Nothing in Lean hashes anything: it is a label: what it is worth is what the hold of that sum in a sandbox is worth. -/
noncomputable def Try.pinned : Pinned := { name := "ytmjcpgfekpedkaa", sum := "7e271b6b04f06bd5bea0e6f616c7e3c4ad4547885b9b1d8a71cca56c0da7e857", checked := Try.checked }
namespace Rows
def none {H : Type} : Left H := { results := [], args := [] }

/-- 'ratchetlaw12.PoolMoves': WHATEVER THE INPUT: true; the input reads as it did. -/
def poolMovesSpec : ChangeSpec := { name := "poolMoves", fn := fun _ => fun
  | [d] => { results := [.lit (.bool true)], args := [d] }
  | _ => none }
def poolMovesRow : OpenClaim := { program := "ytmjcpgfekpedkaa", sum := "7e271b6b04f06bd5bea0e6f616c7e3c4ad4547885b9b1d8a71cca56c0da7e857", func := "ratchet/ratchetlaw12.PoolMoves", spec := "poolMoves", inPlace := ["math/bits.Add64", "math/bits.Sub64"], unfollowed := true, recurses := true, named := ["math/bits.divideError", "math/bits.overflowError"], apart := false }
def PoolMovesSaid : Prop := poolMovesRow.holds Try.pinned (OpenSpec.ofChange poolMovesSpec)

/-- ITS FALSE NEIGHBOUR: 'it returns false'. Refute it at one input. -/
def poolMovesWrong : ChangeSpec := { name := "poolMoves", fn := fun _ => fun
  | [d] => { results := [.lit (.bool false)], args := [d] }
  | _ => none }
def PoolMovesWrongFalsely : Prop := poolMovesRow.holds Try.pinned (OpenSpec.ofChange poolMovesWrong)

/-- 'ratchetlaw12.PoolBetween': WHATEVER THE INPUT: true; the input reads as it did. -/
def poolBetweenSpec : ChangeSpec := { name := "poolBetween", fn := fun _ => fun
  | [d] => { results := [.lit (.bool true)], args := [d] }
  | _ => none }
def poolBetweenRow : OpenClaim := { program := "ytmjcpgfekpedkaa", sum := "7e271b6b04f06bd5bea0e6f616c7e3c4ad4547885b9b1d8a71cca56c0da7e857", func := "ratchet/ratchetlaw12.PoolBetween", spec := "poolBetween", inPlace := ["math/bits.Add64", "math/bits.Sub64"], unfollowed := true, recurses := true, named := ["math/bits.divideError", "math/bits.overflowError"], apart := false }
def PoolBetweenSaid : Prop := poolBetweenRow.holds Try.pinned (OpenSpec.ofChange poolBetweenSpec)

/-- ITS FALSE NEIGHBOUR: 'it returns false'. Refute it at one input. -/
def poolBetweenWrong : ChangeSpec := { name := "poolBetween", fn := fun _ => fun
  | [d] => { results := [.lit (.bool false)], args := [d] }
  | _ => none }
def PoolBetweenWrongFalsely : Prop := poolBetweenRow.holds Try.pinned (OpenSpec.ofChange poolBetweenWrong)

/-- 'ratchetlaw12.PoolWhole': WHATEVER THE INPUT: true; the input reads as it did. -/
def poolWholeSpec : ChangeSpec := { name := "poolWhole", fn := fun _ => fun
  | [d] => { results := [.lit (.bool true)], args := [d] }
  | _ => none }
def poolWholeRow : OpenClaim := { program := "ytmjcpgfekpedkaa", sum := "7e271b6b04f06bd5bea0e6f616c7e3c4ad4547885b9b1d8a71cca56c0da7e857", func := "ratchet/ratchetlaw12.PoolWhole", spec := "poolWhole", inPlace := ["math/bits.Add64", "math/bits.Sub64"], unfollowed := true, recurses := true, named := ["math/bits.divideError", "math/bits.overflowError"], apart := false }
def PoolWholeSaid : Prop := poolWholeRow.holds Try.pinned (OpenSpec.ofChange poolWholeSpec)

/-- ITS FALSE NEIGHBOUR: 'it returns false'. Refute it at one input. -/
def poolWholeWrong : ChangeSpec := { name := "poolWhole", fn := fun _ => fun
  | [d] => { results := [.lit (.bool false)], args := [d] }
  | _ => none }
def PoolWholeWrongFalsely : Prop := poolWholeRow.holds Try.pinned (OpenSpec.ofChange poolWholeWrong)

/- THE SECOND FORM. 'bulk': how many values and letters a reading holds, each counted each time it is reached (what is shared counts as often as it is met; a slice's spare places count too). A statement '..UptoSaid' is the law's where the arguments, and the package variables that the reading takes, are together of bulk at most 1048576: NARROWER than '..Said'. Prove '..Said' where nothing that the law and all that it calls make is longer than what came in: it says more and counts as full. Else prove '..UptoSaid'. A law counts once. -/
mutual
def uptoBulk {H : Type} : DataW H → Nat
  | .lit (.string bytes) => bytes.length + 1
  | .lit _ => 1
  | .nil => 1
  | .ptr d => uptoBulk d + 1
  | .slice elems spare => uptoBulkAll elems + uptoBulkAll spare + 1
  | .agg parts => uptoBulkAll parts + 1
  | .iface _ d => uptoBulk d + 1
  | .map entries => uptoBulkEntries entries + 1
  | .held _ => 1
def uptoBulkAll {H : Type} : List (DataW H) → Nat
  | [] => 0
  | d :: r => uptoBulk d + uptoBulkAll r
def uptoBulkEntries {H : Type} : List (Lit × DataW H) → Nat
  | [] => 0
  | x :: r => uptoBulkEntry x + uptoBulkEntries r
def uptoBulkEntry {H : Type} : Lit × DataW H → Nat
  | (.string bytes, d) => bytes.length + uptoBulk d + 1
  | (_, d) => uptoBulk d + 1
 end
def uptoSmall : (H : Type) → List (DataW H) → Bool := fun _ ds => decide (uptoBulkAll ds ≤ 1048576)
def OpenSpec.upto (s : _root_.Go.ChangeSpec) : _root_.Go.OpenSpec := { _root_.Go.OpenSpec.ofChange s with cond := some uptoSmall }

/-- 'ratchetlaw12.PoolMoves', WHERE WHAT IT READS IS OF BULK AT MOST 1048576: true; the input reads as it did. -/
def poolMovesUptoRow : OpenClaim := { program := "ytmjcpgfekpedkaa", sum := "7e271b6b04f06bd5bea0e6f616c7e3c4ad4547885b9b1d8a71cca56c0da7e857", func := "ratchet/ratchetlaw12.PoolMoves", spec := "poolMoves", inPlace := ["math/bits.Add64", "math/bits.Sub64"], unfollowed := true, recurses := true, named := ["math/bits.divideError", "math/bits.overflowError"], apart := false, narrowed := true }
def PoolMovesUptoSaid : Prop := poolMovesUptoRow.holds Try.pinned (OpenSpec.upto poolMovesSpec)

/-- 'ratchetlaw12.PoolBetween', WHERE WHAT IT READS IS OF BULK AT MOST 1048576: true; the input reads as it did. -/
def poolBetweenUptoRow : OpenClaim := { program := "ytmjcpgfekpedkaa", sum := "7e271b6b04f06bd5bea0e6f616c7e3c4ad4547885b9b1d8a71cca56c0da7e857", func := "ratchet/ratchetlaw12.PoolBetween", spec := "poolBetween", inPlace := ["math/bits.Add64", "math/bits.Sub64"], unfollowed := true, recurses := true, named := ["math/bits.divideError", "math/bits.overflowError"], apart := false, narrowed := true }
def PoolBetweenUptoSaid : Prop := poolBetweenUptoRow.holds Try.pinned (OpenSpec.upto poolBetweenSpec)

/-- 'ratchetlaw12.PoolWhole', WHERE WHAT IT READS IS OF BULK AT MOST 1048576: true; the input reads as it did. -/
def poolWholeUptoRow : OpenClaim := { program := "ytmjcpgfekpedkaa", sum := "7e271b6b04f06bd5bea0e6f616c7e3c4ad4547885b9b1d8a71cca56c0da7e857", func := "ratchet/ratchetlaw12.PoolWhole", spec := "poolWhole", inPlace := ["math/bits.Add64", "math/bits.Sub64"], unfollowed := true, recurses := true, named := ["math/bits.divideError", "math/bits.overflowError"], apart := false, narrowed := true }
def PoolWholeUptoSaid : Prop := poolWholeUptoRow.holds Try.pinned (OpenSpec.upto poolWholeSpec)

end Rows
end Go.Proofs.Ytmjcpgfekpedkaa
