/-
  No cell of these rows narrows 'for every input' (looked for: loops, veiled, ifaces, maps, wideKeys, modest, calm, conditions, laid).
  DERIVED. THE GIVEN ROWS OF THIS SEAT. 4 by the template 'for every input the law returns true; each argument reads behind the call as it read before'; 0 by the template 'total and deterministic' (their statements: YtadlnmckcnfacaaTotals.lean).
  GIVEN WITH THE SEED: the statements are not yours to turn. If you find one false, say at which input.
  Laid BY PROGRAM, IN A SANDBOX (cutbox-rows.mjs): the forced cells as the released guide's own fill.sh prints them over the translation 4122a3ae3104f531… (all of the seat's roots in one cut). By AI agents, Wed Nov 11 2026. No macro, syntax, notation, axiom, sorry.
-/
import Derived.Test.YtadlnmckcnfacaaChecked
import GoSem.Claim
import GoSem.ClaimJoined
import GoSem.ClaimMapViews
import Derived.JoinedTies
import Derived.KernelRfl
namespace Go.Proofs.Ytadlnmckcnfacaa
/- THE CELL 'sum', in the pinned program and in every row, IS THE sha256 OF THE DUMP (.gsa) THAT YtadlnmckcnfacaaProg.lean LOADS. Nothing in Lean hashes anything: it is a label: what it is worth is what the hold of that sum in a sandbox is worth. -/
noncomputable def Try.pinned : Pinned := { name := "ytadlnmckcnfacaa", sum := "4122a3ae3104f531fec79dc4b6e9f27b05fd7a6ca731d45dd2d5c81e6284621b", checked := Try.checked }
namespace Rows
def none {H : Type} : Left H := { results := [], args := [] }

/-- 'ratchetlaw11.ConvAlone': WHATEVER THE INPUT: true; the input reads as it did. -/
def convAloneSpec : ChangeSpec := { name := "convAlone", fn := fun _ => fun
  | [d] => { results := [.lit (.bool true)], args := [d] }
  | _ => none }
def convAloneRow : OpenClaim := { program := "ytadlnmckcnfacaa", sum := "4122a3ae3104f531fec79dc4b6e9f27b05fd7a6ca731d45dd2d5c81e6284621b", func := "ratchet/ratchetlaw11.ConvAlone", spec := "convAlone", inPlace := ["math/bits.Add64", "math/bits.Sub64"], unfollowed := true, recurses := true, apart := false }
def ConvAloneSaid : Prop := convAloneRow.holds Try.pinned (OpenSpec.ofChange convAloneSpec)

/-- ITS FALSE NEIGHBOUR: 'it returns false'. Refute it at one input. -/
def convAloneWrong : ChangeSpec := { name := "convAlone", fn := fun _ => fun
  | [d] => { results := [.lit (.bool false)], args := [d] }
  | _ => none }
def ConvAloneWrongFalsely : Prop := convAloneRow.holds Try.pinned (OpenSpec.ofChange convAloneWrong)

/-- 'ratchetlaw11.ConvPairs': WHATEVER THE INPUT: true; the input reads as it did. -/
def convPairsSpec : ChangeSpec := { name := "convPairs", fn := fun _ => fun
  | [d] => { results := [.lit (.bool true)], args := [d] }
  | _ => none }
def convPairsRow : OpenClaim := { program := "ytadlnmckcnfacaa", sum := "4122a3ae3104f531fec79dc4b6e9f27b05fd7a6ca731d45dd2d5c81e6284621b", func := "ratchet/ratchetlaw11.ConvPairs", spec := "convPairs", inPlace := ["math/bits.Add64", "math/bits.Sub64"], unfollowed := true, recurses := true, apart := false }
def ConvPairsSaid : Prop := convPairsRow.holds Try.pinned (OpenSpec.ofChange convPairsSpec)

/-- ITS FALSE NEIGHBOUR: 'it returns false'. Refute it at one input. -/
def convPairsWrong : ChangeSpec := { name := "convPairs", fn := fun _ => fun
  | [d] => { results := [.lit (.bool false)], args := [d] }
  | _ => none }
def ConvPairsWrongFalsely : Prop := convPairsRow.holds Try.pinned (OpenSpec.ofChange convPairsWrong)

/-- 'ratchetlaw11.ConvOnes': WHATEVER THE INPUT: true; the input reads as it did. -/
def convOnesSpec : ChangeSpec := { name := "convOnes", fn := fun _ => fun
  | [d] => { results := [.lit (.bool true)], args := [d] }
  | _ => none }
def convOnesRow : OpenClaim := { program := "ytadlnmckcnfacaa", sum := "4122a3ae3104f531fec79dc4b6e9f27b05fd7a6ca731d45dd2d5c81e6284621b", func := "ratchet/ratchetlaw11.ConvOnes", spec := "convOnes", inPlace := ["math/bits.Add64", "math/bits.Sub64"], unfollowed := true, recurses := true, apart := false }
def ConvOnesSaid : Prop := convOnesRow.holds Try.pinned (OpenSpec.ofChange convOnesSpec)

/-- ITS FALSE NEIGHBOUR: 'it returns false'. Refute it at one input. -/
def convOnesWrong : ChangeSpec := { name := "convOnes", fn := fun _ => fun
  | [d] => { results := [.lit (.bool false)], args := [d] }
  | _ => none }
def ConvOnesWrongFalsely : Prop := convOnesRow.holds Try.pinned (OpenSpec.ofChange convOnesWrong)

/-- 'ratchetlaw11.ConvProduct': WHATEVER THE INPUT: true; the input reads as it did. -/
def convProductSpec : ChangeSpec := { name := "convProduct", fn := fun _ => fun
  | [d] => { results := [.lit (.bool true)], args := [d] }
  | _ => none }
def convProductRow : OpenClaim := { program := "ytadlnmckcnfacaa", sum := "4122a3ae3104f531fec79dc4b6e9f27b05fd7a6ca731d45dd2d5c81e6284621b", func := "ratchet/ratchetlaw11.ConvProduct", spec := "convProduct", inPlace := ["math/bits.Add64", "math/bits.Sub64"], unfollowed := true, recurses := true, apart := false }
def ConvProductSaid : Prop := convProductRow.holds Try.pinned (OpenSpec.ofChange convProductSpec)

/-- ITS FALSE NEIGHBOUR: 'it returns false'. Refute it at one input. -/
def convProductWrong : ChangeSpec := { name := "convProduct", fn := fun _ => fun
  | [d] => { results := [.lit (.bool false)], args := [d] }
  | _ => none }
def ConvProductWrongFalsely : Prop := convProductRow.holds Try.pinned (OpenSpec.ofChange convProductWrong)

/- THE SECOND FORM. 'bulk': how many values and letters a reading holds, each counted each time it is reached (what is shared counts as often as it is met; a slice's spare places count too). A statement '..UptoSaid' is the law's where the arguments, and the package variables that the reading takes, are together of bulk at most 1048576: NARROWER than '..Said'. Prove '..Said' where nothing that the law and all that it calls make is longer than what came in: it says more and counts as full. Else prove '..UptoSaid'. A law counts once. -/
mutual
def uptoBulk {H : Type} : DataW H → Nat
  | .lit (.string bytes) => bytes.length + 1
  | .lit _ => 1
  | .nil => 1
  | .ptr d => uptoBulk d + 1
  | .slice elems spare => uptoBulkAll elems + uptoBulkAll spare + 1
  | .agg parts => uptoBulkAll parts + 1
  | .iface _ d => uptoBulk d + 1
  | .map entries => uptoBulkEntries entries + 1
  | .held _ => 1
def uptoBulkAll {H : Type} : List (DataW H) → Nat
  | [] => 0
  | d :: r => uptoBulk d + uptoBulkAll r
def uptoBulkEntries {H : Type} : List (Lit × DataW H) → Nat
  | [] => 0
  | x :: r => uptoBulkEntry x + uptoBulkEntries r
def uptoBulkEntry {H : Type} : Lit × DataW H → Nat
  | (.string bytes, d) => bytes.length + uptoBulk d + 1
  | (_, d) => uptoBulk d + 1
 end
def uptoSmall : (H : Type) → List (DataW H) → Bool := fun _ ds => decide (uptoBulkAll ds ≤ 1048576)
def OpenSpec.upto (s : _root_.Go.ChangeSpec) : _root_.Go.OpenSpec := { _root_.Go.OpenSpec.ofChange s with cond := some uptoSmall }

/-- 'ratchetlaw11.ConvAlone', WHERE WHAT IT READS IS OF BULK AT MOST 1048576: true; the input reads as it did. -/
def convAloneUptoRow : OpenClaim := { program := "ytadlnmckcnfacaa", sum := "4122a3ae3104f531fec79dc4b6e9f27b05fd7a6ca731d45dd2d5c81e6284621b", func := "ratchet/ratchetlaw11.ConvAlone", spec := "convAlone", inPlace := ["math/bits.Add64", "math/bits.Sub64"], unfollowed := true, recurses := true, apart := false, narrowed := true }
def ConvAloneUptoSaid : Prop := convAloneUptoRow.holds Try.pinned (OpenSpec.upto convAloneSpec)

/-- 'ratchetlaw11.ConvPairs', WHERE WHAT IT READS IS OF BULK AT MOST 1048576: true; the input reads as it did. -/
def convPairsUptoRow : OpenClaim := { program := "ytadlnmckcnfacaa", sum := "4122a3ae3104f531fec79dc4b6e9f27b05fd7a6ca731d45dd2d5c81e6284621b", func := "ratchet/ratchetlaw11.ConvPairs", spec := "convPairs", inPlace := ["math/bits.Add64", "math/bits.Sub64"], unfollowed := true, recurses := true, apart := false, narrowed := true }
def ConvPairsUptoSaid : Prop := convPairsUptoRow.holds Try.pinned (OpenSpec.upto convPairsSpec)

/-- 'ratchetlaw11.ConvOnes', WHERE WHAT IT READS IS OF BULK AT MOST 1048576: true; the input reads as it did. -/
def convOnesUptoRow : OpenClaim := { program := "ytadlnmckcnfacaa", sum := "4122a3ae3104f531fec79dc4b6e9f27b05fd7a6ca731d45dd2d5c81e6284621b", func := "ratchet/ratchetlaw11.ConvOnes", spec := "convOnes", inPlace := ["math/bits.Add64", "math/bits.Sub64"], unfollowed := true, recurses := true, apart := false, narrowed := true }
def ConvOnesUptoSaid : Prop := convOnesUptoRow.holds Try.pinned (OpenSpec.upto convOnesSpec)

/-- 'ratchetlaw11.ConvProduct', WHERE WHAT IT READS IS OF BULK AT MOST 1048576: true; the input reads as it did. -/
def convProductUptoRow : OpenClaim := { program := "ytadlnmckcnfacaa", sum := "4122a3ae3104f531fec79dc4b6e9f27b05fd7a6ca731d45dd2d5c81e6284621b", func := "ratchet/ratchetlaw11.ConvProduct", spec := "convProduct", inPlace := ["math/bits.Add64", "math/bits.Sub64"], unfollowed := true, recurses := true, apart := false, narrowed := true }
def ConvProductUptoSaid : Prop := convProductUptoRow.holds Try.pinned (OpenSpec.upto convProductSpec)

end Rows
end Go.Proofs.Ytadlnmckcnfacaa
