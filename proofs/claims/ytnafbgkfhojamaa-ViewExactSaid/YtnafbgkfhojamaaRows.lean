/-
  No cell of these rows narrows 'for every input' (looked for: loops, veiled, ifaces, maps, wideKeys, modest, calm, conditions, laid).
  DERIVED. THE GIVEN ROWS OF THIS SEAT. 4 by the template 'for every input the law returns true; each argument reads behind the call as it read before'; 0 by the template 'total and deterministic' (their statements: YtnafbgkfhojamaaTotals.lean).
  GIVEN WITH THE SEED: the statements are not yours to turn. If you find one false, say at which input.
  Laid BY PROGRAM, IN A SANDBOX (cutbox-rows.mjs): the forced cells as the released guide's own fill.sh prints them over the translation ba74712b21911552… (all of the seat's roots in one cut). By AI agents, Wed Nov 11 2026. No macro, syntax, notation, axiom, sorry.
-/
import Derived.Test.YtnafbgkfhojamaaChecked
import GoSem.Claim
import GoSem.ClaimJoined
import GoSem.ClaimMapViews
import Derived.JoinedTies
import Derived.KernelRfl
namespace Go.Proofs.Ytnafbgkfhojamaa
/- THE CELL 'sum', in the pinned program and in every row, IS THE sha256 OF THE DUMP (.gsa) THAT YtnafbgkfhojamaaProg.lean LOADS. Nothing in Lean hashes anything: it is a label: what it is worth is what the hold of that sum in a sandbox is worth. -/
noncomputable def Try.pinned : Pinned := { name := "ytnafbgkfhojamaa", sum := "ba74712b2191155250acb69cf6c6e4ee2672570299c137a29f5b715793a968c9", checked := Try.checked }
namespace Rows
def none {H : Type} : Left H := { results := [], args := [] }

/-- 'ratchetlaw7.ViewCopies': WHATEVER THE INPUT: true; the input reads as it did. -/
def viewCopiesSpec : ChangeSpec := { name := "viewCopies", fn := fun _ => fun
  | [d] => { results := [.lit (.bool true)], args := [d] }
  | _ => none }
def viewCopiesRow : OpenClaim := { program := "ytnafbgkfhojamaa", sum := "ba74712b2191155250acb69cf6c6e4ee2672570299c137a29f5b715793a968c9", func := "ratchet/ratchetlaw7.ViewCopies", spec := "viewCopies", unfollowed := true, recurses := true, apart := false }
def ViewCopiesSaid : Prop := viewCopiesRow.holds Try.pinned (OpenSpec.ofChange viewCopiesSpec)

/-- ITS FALSE NEIGHBOUR: 'it returns false'. Refute it at one input. -/
def viewCopiesWrong : ChangeSpec := { name := "viewCopies", fn := fun _ => fun
  | [d] => { results := [.lit (.bool false)], args := [d] }
  | _ => none }
def ViewCopiesWrongFalsely : Prop := viewCopiesRow.holds Try.pinned (OpenSpec.ofChange viewCopiesWrong)

/-- 'ratchetlaw7.ViewBack': WHATEVER THE INPUT: true; the input reads as it did. -/
def viewBackSpec : ChangeSpec := { name := "viewBack", fn := fun _ => fun
  | [d] => { results := [.lit (.bool true)], args := [d] }
  | _ => none }
def viewBackRow : OpenClaim := { program := "ytnafbgkfhojamaa", sum := "ba74712b2191155250acb69cf6c6e4ee2672570299c137a29f5b715793a968c9", func := "ratchet/ratchetlaw7.ViewBack", spec := "viewBack", unfollowed := true, recurses := true, apart := false }
def ViewBackSaid : Prop := viewBackRow.holds Try.pinned (OpenSpec.ofChange viewBackSpec)

/-- ITS FALSE NEIGHBOUR: 'it returns false'. Refute it at one input. -/
def viewBackWrong : ChangeSpec := { name := "viewBack", fn := fun _ => fun
  | [d] => { results := [.lit (.bool false)], args := [d] }
  | _ => none }
def ViewBackWrongFalsely : Prop := viewBackRow.holds Try.pinned (OpenSpec.ofChange viewBackWrong)

/-- 'ratchetlaw7.ViewWidens': WHATEVER THE INPUT: true; the input reads as it did. -/
def viewWidensSpec : ChangeSpec := { name := "viewWidens", fn := fun _ => fun
  | [d] => { results := [.lit (.bool true)], args := [d] }
  | _ => none }
def viewWidensRow : OpenClaim := { program := "ytnafbgkfhojamaa", sum := "ba74712b2191155250acb69cf6c6e4ee2672570299c137a29f5b715793a968c9", func := "ratchet/ratchetlaw7.ViewWidens", spec := "viewWidens", unfollowed := true, recurses := true, apart := false }
def ViewWidensSaid : Prop := viewWidensRow.holds Try.pinned (OpenSpec.ofChange viewWidensSpec)

/-- ITS FALSE NEIGHBOUR: 'it returns false'. Refute it at one input. -/
def viewWidensWrong : ChangeSpec := { name := "viewWidens", fn := fun _ => fun
  | [d] => { results := [.lit (.bool false)], args := [d] }
  | _ => none }
def ViewWidensWrongFalsely : Prop := viewWidensRow.holds Try.pinned (OpenSpec.ofChange viewWidensWrong)

/-- 'ratchetlaw7.ViewExact': WHATEVER THE INPUT: true; the input reads as it did. -/
def viewExactSpec : ChangeSpec := { name := "viewExact", fn := fun _ => fun
  | [d] => { results := [.lit (.bool true)], args := [d] }
  | _ => none }
def viewExactRow : OpenClaim := { program := "ytnafbgkfhojamaa", sum := "ba74712b2191155250acb69cf6c6e4ee2672570299c137a29f5b715793a968c9", func := "ratchet/ratchetlaw7.ViewExact", spec := "viewExact", unfollowed := true, recurses := true, apart := false }
def ViewExactSaid : Prop := viewExactRow.holds Try.pinned (OpenSpec.ofChange viewExactSpec)

/-- ITS FALSE NEIGHBOUR: 'it returns false'. Refute it at one input. -/
def viewExactWrong : ChangeSpec := { name := "viewExact", fn := fun _ => fun
  | [d] => { results := [.lit (.bool false)], args := [d] }
  | _ => none }
def ViewExactWrongFalsely : Prop := viewExactRow.holds Try.pinned (OpenSpec.ofChange viewExactWrong)

/- THE SECOND FORM. 'bulk': how many values and letters a reading holds, each counted each time it is reached (what is shared counts as often as it is met; a slice's spare places count too). A statement '..UptoSaid' is the law's where the arguments, and the package variables that the reading takes, are together of bulk at most 1048576: NARROWER than '..Said'. Prove '..Said' where nothing that the law and all that it calls make is longer than what came in: it says more and counts as full. Else prove '..UptoSaid'. A law counts once. -/
mutual
def uptoBulk {H : Type} : DataW H → Nat
  | .lit (.string bytes) => bytes.length + 1
  | .lit _ => 1
  | .nil => 1
  | .ptr d => uptoBulk d + 1
  | .slice elems spare => uptoBulkAll elems + uptoBulkAll spare + 1
  | .agg parts => uptoBulkAll parts + 1
  | .iface _ d => uptoBulk d + 1
  | .map entries => uptoBulkEntries entries + 1
  | .held _ => 1
def uptoBulkAll {H : Type} : List (DataW H) → Nat
  | [] => 0
  | d :: r => uptoBulk d + uptoBulkAll r
def uptoBulkEntries {H : Type} : List (Lit × DataW H) → Nat
  | [] => 0
  | x :: r => uptoBulkEntry x + uptoBulkEntries r
def uptoBulkEntry {H : Type} : Lit × DataW H → Nat
  | (.string bytes, d) => bytes.length + uptoBulk d + 1
  | (_, d) => uptoBulk d + 1
 end
def uptoSmall : (H : Type) → List (DataW H) → Bool := fun _ ds => decide (uptoBulkAll ds ≤ 1048576)
def OpenSpec.upto (s : _root_.Go.ChangeSpec) : _root_.Go.OpenSpec := { _root_.Go.OpenSpec.ofChange s with cond := some uptoSmall }

/-- 'ratchetlaw7.ViewCopies', WHERE WHAT IT READS IS OF BULK AT MOST 1048576: true; the input reads as it did. -/
def viewCopiesUptoRow : OpenClaim := { program := "ytnafbgkfhojamaa", sum := "ba74712b2191155250acb69cf6c6e4ee2672570299c137a29f5b715793a968c9", func := "ratchet/ratchetlaw7.ViewCopies", spec := "viewCopies", unfollowed := true, recurses := true, apart := false, narrowed := true }
def ViewCopiesUptoSaid : Prop := viewCopiesUptoRow.holds Try.pinned (OpenSpec.upto viewCopiesSpec)

/-- 'ratchetlaw7.ViewBack', WHERE WHAT IT READS IS OF BULK AT MOST 1048576: true; the input reads as it did. -/
def viewBackUptoRow : OpenClaim := { program := "ytnafbgkfhojamaa", sum := "ba74712b2191155250acb69cf6c6e4ee2672570299c137a29f5b715793a968c9", func := "ratchet/ratchetlaw7.ViewBack", spec := "viewBack", unfollowed := true, recurses := true, apart := false, narrowed := true }
def ViewBackUptoSaid : Prop := viewBackUptoRow.holds Try.pinned (OpenSpec.upto viewBackSpec)

/-- 'ratchetlaw7.ViewWidens', WHERE WHAT IT READS IS OF BULK AT MOST 1048576: true; the input reads as it did. -/
def viewWidensUptoRow : OpenClaim := { program := "ytnafbgkfhojamaa", sum := "ba74712b2191155250acb69cf6c6e4ee2672570299c137a29f5b715793a968c9", func := "ratchet/ratchetlaw7.ViewWidens", spec := "viewWidens", unfollowed := true, recurses := true, apart := false, narrowed := true }
def ViewWidensUptoSaid : Prop := viewWidensUptoRow.holds Try.pinned (OpenSpec.upto viewWidensSpec)

/-- 'ratchetlaw7.ViewExact', WHERE WHAT IT READS IS OF BULK AT MOST 1048576: true; the input reads as it did. -/
def viewExactUptoRow : OpenClaim := { program := "ytnafbgkfhojamaa", sum := "ba74712b2191155250acb69cf6c6e4ee2672570299c137a29f5b715793a968c9", func := "ratchet/ratchetlaw7.ViewExact", spec := "viewExact", unfollowed := true, recurses := true, apart := false, narrowed := true }
def ViewExactUptoSaid : Prop := viewExactUptoRow.holds Try.pinned (OpenSpec.upto viewExactSpec)

end Rows
end Go.Proofs.Ytnafbgkfhojamaa
