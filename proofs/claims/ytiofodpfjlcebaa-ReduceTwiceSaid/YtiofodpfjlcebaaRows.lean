/-
  No cell of these rows narrows 'for every input' (looked for: loops, veiled, ifaces, maps, wideKeys, modest, calm, conditions, laid).
  DERIVED. THE GIVEN ROWS OF THIS SEAT. 3 by the template 'for every input the law returns true; each argument reads behind the call as it read before'; 0 by the template 'total and deterministic' (their statements: YtiofodpfjlcebaaTotals.lean).
  GIVEN WITH THE SEED: the statements are not yours to turn. If you find one false, say at which input.
  Laid BY PROGRAM, IN A SANDBOX (cutbox-rows.mjs): the forced cells as the released guide's own fill.sh prints them over the translation 8edae74560c27b9a… (all of the seat's roots in one cut). By AI agents, Wed Nov 11 2026. No macro, syntax, notation, axiom, sorry.
-/
import Derived.Test.YtiofodpfjlcebaaChecked
import GoSem.Claim
import GoSem.ClaimJoined
import GoSem.ClaimMapViews
import Derived.JoinedTies
import Derived.KernelRfl
namespace Go.Proofs.Ytiofodpfjlcebaa
/- THE CELL 'sum', in the pinned program and in every row, IS THE sha256 OF THE DUMP (.gsa) THAT YtiofodpfjlcebaaProg.lean LOADS. Nothing in Lean hashes anything: it is a label: what it is worth is what the hold of that sum in a sandbox is worth. -/
noncomputable def Try.pinned : Pinned := { name := "ytiofodpfjlcebaa", sum := "8edae74560c27b9a2057d5380c78980a78602e36ae827eb4b6f279b152da3194", checked := Try.checked }
namespace Rows
def none {H : Type} : Left H := { results := [], args := [] }

/-- 'ratchetlaw9.ReduceMeans': WHATEVER THE INPUT: true; the input reads as it did. -/
def reduceMeansSpec : ChangeSpec := { name := "reduceMeans", fn := fun _ => fun
  | [d] => { results := [.lit (.bool true)], args := [d] }
  | _ => none }
def reduceMeansRow : OpenClaim := { program := "ytiofodpfjlcebaa", sum := "8edae74560c27b9a2057d5380c78980a78602e36ae827eb4b6f279b152da3194", func := "ratchet/ratchetlaw9.ReduceMeans", spec := "reduceMeans", inPlace := ["math/bits.Add64", "math/bits.Sub64"], unfollowed := true, recurses := true, named := ["math/bits.divideError", "math/bits.overflowError"], apart := false }
def ReduceMeansSaid : Prop := reduceMeansRow.holds Try.pinned (OpenSpec.ofChange reduceMeansSpec)

/-- ITS FALSE NEIGHBOUR: 'it returns false'. Refute it at one input. -/
def reduceMeansWrong : ChangeSpec := { name := "reduceMeans", fn := fun _ => fun
  | [d] => { results := [.lit (.bool false)], args := [d] }
  | _ => none }
def ReduceMeansWrongFalsely : Prop := reduceMeansRow.holds Try.pinned (OpenSpec.ofChange reduceMeansWrong)

/-- 'ratchetlaw9.ReduceTwice': WHATEVER THE INPUT: true; the input reads as it did. -/
def reduceTwiceSpec : ChangeSpec := { name := "reduceTwice", fn := fun _ => fun
  | [d] => { results := [.lit (.bool true)], args := [d] }
  | _ => none }
def reduceTwiceRow : OpenClaim := { program := "ytiofodpfjlcebaa", sum := "8edae74560c27b9a2057d5380c78980a78602e36ae827eb4b6f279b152da3194", func := "ratchet/ratchetlaw9.ReduceTwice", spec := "reduceTwice", inPlace := ["math/bits.Add64", "math/bits.Sub64"], unfollowed := true, recurses := true, named := ["math/bits.divideError", "math/bits.overflowError"], apart := false }
def ReduceTwiceSaid : Prop := reduceTwiceRow.holds Try.pinned (OpenSpec.ofChange reduceTwiceSpec)

/-- ITS FALSE NEIGHBOUR: 'it returns false'. Refute it at one input. -/
def reduceTwiceWrong : ChangeSpec := { name := "reduceTwice", fn := fun _ => fun
  | [d] => { results := [.lit (.bool false)], args := [d] }
  | _ => none }
def ReduceTwiceWrongFalsely : Prop := reduceTwiceRow.holds Try.pinned (OpenSpec.ofChange reduceTwiceWrong)

/-- 'ratchetlaw9.ReduceTurned': WHATEVER THE INPUT: true; the input reads as it did. -/
def reduceTurnedSpec : ChangeSpec := { name := "reduceTurned", fn := fun _ => fun
  | [d] => { results := [.lit (.bool true)], args := [d] }
  | _ => none }
def reduceTurnedRow : OpenClaim := { program := "ytiofodpfjlcebaa", sum := "8edae74560c27b9a2057d5380c78980a78602e36ae827eb4b6f279b152da3194", func := "ratchet/ratchetlaw9.ReduceTurned", spec := "reduceTurned", inPlace := ["math/bits.Add64", "math/bits.Sub64"], unfollowed := true, recurses := true, named := ["math/bits.divideError", "math/bits.overflowError"], apart := false }
def ReduceTurnedSaid : Prop := reduceTurnedRow.holds Try.pinned (OpenSpec.ofChange reduceTurnedSpec)

/-- ITS FALSE NEIGHBOUR: 'it returns false'. Refute it at one input. -/
def reduceTurnedWrong : ChangeSpec := { name := "reduceTurned", fn := fun _ => fun
  | [d] => { results := [.lit (.bool false)], args := [d] }
  | _ => none }
def ReduceTurnedWrongFalsely : Prop := reduceTurnedRow.holds Try.pinned (OpenSpec.ofChange reduceTurnedWrong)

/- THE SECOND FORM. 'bulk': how many values and letters a reading holds, each counted each time it is reached (what is shared counts as often as it is met; a slice's spare places count too). A statement '..UptoSaid' is the law's where the arguments, and the package variables that the reading takes, are together of bulk at most 1048576: NARROWER than '..Said'. Prove '..Said' where nothing that the law and all that it calls make is longer than what came in: it says more and counts as full. Else prove '..UptoSaid'. A law counts once. -/
mutual
def uptoBulk {H : Type} : DataW H → Nat
  | .lit (.string bytes) => bytes.length + 1
  | .lit _ => 1
  | .nil => 1
  | .ptr d => uptoBulk d + 1
  | .slice elems spare => uptoBulkAll elems + uptoBulkAll spare + 1
  | .agg parts => uptoBulkAll parts + 1
  | .iface _ d => uptoBulk d + 1
  | .map entries => uptoBulkEntries entries + 1
  | .held _ => 1
def uptoBulkAll {H : Type} : List (DataW H) → Nat
  | [] => 0
  | d :: r => uptoBulk d + uptoBulkAll r
def uptoBulkEntries {H : Type} : List (Lit × DataW H) → Nat
  | [] => 0
  | x :: r => uptoBulkEntry x + uptoBulkEntries r
def uptoBulkEntry {H : Type} : Lit × DataW H → Nat
  | (.string bytes, d) => bytes.length + uptoBulk d + 1
  | (_, d) => uptoBulk d + 1
 end
def uptoSmall : (H : Type) → List (DataW H) → Bool := fun _ ds => decide (uptoBulkAll ds ≤ 1048576)
def OpenSpec.upto (s : _root_.Go.ChangeSpec) : _root_.Go.OpenSpec := { _root_.Go.OpenSpec.ofChange s with cond := some uptoSmall }

/-- 'ratchetlaw9.ReduceMeans', WHERE WHAT IT READS IS OF BULK AT MOST 1048576: true; the input reads as it did. -/
def reduceMeansUptoRow : OpenClaim := { program := "ytiofodpfjlcebaa", sum := "8edae74560c27b9a2057d5380c78980a78602e36ae827eb4b6f279b152da3194", func := "ratchet/ratchetlaw9.ReduceMeans", spec := "reduceMeans", inPlace := ["math/bits.Add64", "math/bits.Sub64"], unfollowed := true, recurses := true, named := ["math/bits.divideError", "math/bits.overflowError"], apart := false, narrowed := true }
def ReduceMeansUptoSaid : Prop := reduceMeansUptoRow.holds Try.pinned (OpenSpec.upto reduceMeansSpec)

/-- 'ratchetlaw9.ReduceTwice', WHERE WHAT IT READS IS OF BULK AT MOST 1048576: true; the input reads as it did. -/
def reduceTwiceUptoRow : OpenClaim := { program := "ytiofodpfjlcebaa", sum := "8edae74560c27b9a2057d5380c78980a78602e36ae827eb4b6f279b152da3194", func := "ratchet/ratchetlaw9.ReduceTwice", spec := "reduceTwice", inPlace := ["math/bits.Add64", "math/bits.Sub64"], unfollowed := true, recurses := true, named := ["math/bits.divideError", "math/bits.overflowError"], apart := false, narrowed := true }
def ReduceTwiceUptoSaid : Prop := reduceTwiceUptoRow.holds Try.pinned (OpenSpec.upto reduceTwiceSpec)

/-- 'ratchetlaw9.ReduceTurned', WHERE WHAT IT READS IS OF BULK AT MOST 1048576: true; the input reads as it did. -/
def reduceTurnedUptoRow : OpenClaim := { program := "ytiofodpfjlcebaa", sum := "8edae74560c27b9a2057d5380c78980a78602e36ae827eb4b6f279b152da3194", func := "ratchet/ratchetlaw9.ReduceTurned", spec := "reduceTurned", inPlace := ["math/bits.Add64", "math/bits.Sub64"], unfollowed := true, recurses := true, named := ["math/bits.divideError", "math/bits.overflowError"], apart := false, narrowed := true }
def ReduceTurnedUptoSaid : Prop := reduceTurnedUptoRow.holds Try.pinned (OpenSpec.upto reduceTurnedSpec)

end Rows
end Go.Proofs.Ytiofodpfjlcebaa
