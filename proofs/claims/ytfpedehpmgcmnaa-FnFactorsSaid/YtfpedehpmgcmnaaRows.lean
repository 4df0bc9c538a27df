/-
  No cell of these rows narrows 'for every input' (looked for: loops, veiled, ifaces, maps, wideKeys, modest, calm, conditions, laid).
  DERIVED. THE GIVEN ROWS OF THIS SEAT. 5 by the template 'for every input the law returns true; each argument reads behind the call as it read before'; 0 by the template 'total and deterministic' (their statements: YtfpedehpmgcmnaaTotals.lean).
  GIVEN WITH THE SEED: the statements are not yours to turn. If you find one false, say at which input.
  Laid BY PROGRAM, IN A SANDBOX (cutbox-rows.mjs): the forced cells as the released guide's own fill.sh prints them over the translation 87f720e08a10a1aa… (all of the seat's roots in one cut). By AI agents, Wed Nov 11 2026. No macro, syntax, notation, axiom, sorry.
-/
import Derived.Test.YtfpedehpmgcmnaaChecked
import GoSem.Claim
import GoSem.ClaimJoined
import GoSem.ClaimMapViews
import Derived.JoinedTies
import Derived.KernelRfl
namespace Go.Proofs.Ytfpedehpmgcmnaa
/- THE CELL 'sum', in the pinned program and in every row, IS THE sha256 OF THE DUMP (.gsa) THAT YtfpedehpmgcmnaaProg.lean LOADS. Nothing in Lean hashes anything: it is a label: what it is worth is what the hold of that sum in a sandbox is worth. -/
noncomputable def Try.pinned : Pinned := { name := "ytfpedehpmgcmnaa", sum := "87f720e08a10a1aa4f29642eaab44d5b30e3ef02feff1945368d8bde436ef89b", checked := Try.checked }
namespace Rows
def none {H : Type} : Left H := { results := [], args := [] }

/-- 'laws.FnExactIsReciprocityProof': WHATEVER THE INPUT: true; the input reads as it did. -/
def fnExactIsReciprocityProofSpec : ChangeSpec := { name := "fnExactIsReciprocityProof", fn := fun _ => fun
  | [d] => { results := [.lit (.bool true)], args := [d] }
  | _ => none }
def fnExactIsReciprocityProofRow : OpenClaim := { program := "ytfpedehpmgcmnaa", sum := "87f720e08a10a1aa4f29642eaab44d5b30e3ef02feff1945368d8bde436ef89b", func := "loop.example/g01066/laws.FnExactIsReciprocityProof", spec := "fnExactIsReciprocityProof", apart := false }
def FnExactIsReciprocityProofSaid : Prop := fnExactIsReciprocityProofRow.holds Try.pinned (OpenSpec.ofChange fnExactIsReciprocityProofSpec)

/-- ITS FALSE NEIGHBOUR: 'it returns false'. Refute it at one input. -/
def fnExactIsReciprocityProofWrong : ChangeSpec := { name := "fnExactIsReciprocityProof", fn := fun _ => fun
  | [d] => { results := [.lit (.bool false)], args := [d] }
  | _ => none }
def FnExactIsReciprocityProofWrongFalsely : Prop := fnExactIsReciprocityProofRow.holds Try.pinned (OpenSpec.ofChange fnExactIsReciprocityProofWrong)

/-- 'laws.FnExactReciprocityProof': WHATEVER THE INPUT: true; the input reads as it did. -/
def fnExactReciprocityProofSpec : ChangeSpec := { name := "fnExactReciprocityProof", fn := fun _ => fun
  | [d1, d2] => { results := [.lit (.bool true)], args := [d1, d2] }
  | _ => none }
def fnExactReciprocityProofRow : OpenClaim := { program := "ytfpedehpmgcmnaa", sum := "87f720e08a10a1aa4f29642eaab44d5b30e3ef02feff1945368d8bde436ef89b", func := "loop.example/g01066/laws.FnExactReciprocityProof", spec := "fnExactReciprocityProof", apart := false }
def FnExactReciprocityProofSaid : Prop := fnExactReciprocityProofRow.holds Try.pinned (OpenSpec.ofChange fnExactReciprocityProofSpec)

/-- ITS FALSE NEIGHBOUR: 'it returns false'. Refute it at one input. -/
def fnExactReciprocityProofWrong : ChangeSpec := { name := "fnExactReciprocityProof", fn := fun _ => fun
  | [d1, d2] => { results := [.lit (.bool false)], args := [d1, d2] }
  | _ => none }
def FnExactReciprocityProofWrongFalsely : Prop := fnExactReciprocityProofRow.holds Try.pinned (OpenSpec.ofChange fnExactReciprocityProofWrong)

/-- 'laws.FnExactPrimitiveFormsWithLeading': WHATEVER THE INPUT: true; the input reads as it did. -/
def fnExactPrimitiveFormsWithLeadingSpec : ChangeSpec := { name := "fnExactPrimitiveFormsWithLeading", fn := fun _ => fun
  | [d1, d2] => { results := [.lit (.bool true)], args := [d1, d2] }
  | _ => none }
def fnExactPrimitiveFormsWithLeadingRow : OpenClaim := { program := "ytfpedehpmgcmnaa", sum := "87f720e08a10a1aa4f29642eaab44d5b30e3ef02feff1945368d8bde436ef89b", func := "loop.example/g01066/laws.FnExactPrimitiveFormsWithLeading", spec := "fnExactPrimitiveFormsWithLeading", apart := false }
def FnExactPrimitiveFormsWithLeadingSaid : Prop := fnExactPrimitiveFormsWithLeadingRow.holds Try.pinned (OpenSpec.ofChange fnExactPrimitiveFormsWithLeadingSpec)

/-- ITS FALSE NEIGHBOUR: 'it returns false'. Refute it at one input. -/
def fnExactPrimitiveFormsWithLeadingWrong : ChangeSpec := { name := "fnExactPrimitiveFormsWithLeading", fn := fun _ => fun
  | [d1, d2] => { results := [.lit (.bool false)], args := [d1, d2] }
  | _ => none }
def FnExactPrimitiveFormsWithLeadingWrongFalsely : Prop := fnExactPrimitiveFormsWithLeadingRow.holds Try.pinned (OpenSpec.ofChange fnExactPrimitiveFormsWithLeadingWrong)

/-- 'laws.FnFactors': WHATEVER THE INPUT: true; the input reads as it did. -/
def fnFactorsSpec : ChangeSpec := { name := "fnFactors", fn := fun _ => fun
  | [d1, d2] => { results := [.lit (.bool true)], args := [d1, d2] }
  | _ => none }
def fnFactorsRow : OpenClaim := { program := "ytfpedehpmgcmnaa", sum := "87f720e08a10a1aa4f29642eaab44d5b30e3ef02feff1945368d8bde436ef89b", func := "loop.example/g01066/laws.FnFactors", spec := "fnFactors", apart := false }
def FnFactorsSaid : Prop := fnFactorsRow.holds Try.pinned (OpenSpec.ofChange fnFactorsSpec)

/-- ITS FALSE NEIGHBOUR: 'it returns false'. Refute it at one input. -/
def fnFactorsWrong : ChangeSpec := { name := "fnFactors", fn := fun _ => fun
  | [d1, d2] => { results := [.lit (.bool false)], args := [d1, d2] }
  | _ => none }
def FnFactorsWrongFalsely : Prop := fnFactorsRow.holds Try.pinned (OpenSpec.ofChange fnFactorsWrong)

/-- 'laws.FnBezout': WHATEVER THE INPUT: true; the input reads as it did. -/
def fnBezoutSpec : ChangeSpec := { name := "fnBezout", fn := fun _ => fun
  | [d1, d2] => { results := [.lit (.bool true)], args := [d1, d2] }
  | _ => none }
def fnBezoutRow : OpenClaim := { program := "ytfpedehpmgcmnaa", sum := "87f720e08a10a1aa4f29642eaab44d5b30e3ef02feff1945368d8bde436ef89b", func := "loop.example/g01066/laws.FnBezout", spec := "fnBezout", apart := false }
def FnBezoutSaid : Prop := fnBezoutRow.holds Try.pinned (OpenSpec.ofChange fnBezoutSpec)

/-- ITS FALSE NEIGHBOUR: 'it returns false'. Refute it at one input. -/
def fnBezoutWrong : ChangeSpec := { name := "fnBezout", fn := fun _ => fun
  | [d1, d2] => { results := [.lit (.bool false)], args := [d1, d2] }
  | _ => none }
def FnBezoutWrongFalsely : Prop := fnBezoutRow.holds Try.pinned (OpenSpec.ofChange fnBezoutWrong)

/- THE SECOND FORM. 'bulk': how many values and letters a reading holds, each counted each time it is reached (what is shared counts as often as it is met; a slice's spare places count too). A statement '..UptoSaid' is the law's where the arguments, and the package variables that the reading takes, are together of bulk at most 1048576: NARROWER than '..Said'. Prove '..Said' where nothing that the law and all that it calls make is longer than what came in: it says more and counts as full. Else prove '..UptoSaid'. A law counts once. -/
mutual
def uptoBulk {H : Type} : DataW H → Nat
  | .lit (.string bytes) => bytes.length + 1
  | .lit _ => 1
  | .nil => 1
  | .ptr d => uptoBulk d + 1
  | .slice elems spare => uptoBulkAll elems + uptoBulkAll spare + 1
  | .agg parts => uptoBulkAll parts + 1
  | .iface _ d => uptoBulk d + 1
  | .map entries => uptoBulkEntries entries + 1
  | .held _ => 1
def uptoBulkAll {H : Type} : List (DataW H) → Nat
  | [] => 0
  | d :: r => uptoBulk d + uptoBulkAll r
def uptoBulkEntries {H : Type} : List (Lit × DataW H) → Nat
  | [] => 0
  | x :: r => uptoBulkEntry x + uptoBulkEntries r
def uptoBulkEntry {H : Type} : Lit × DataW H → Nat
  | (.string bytes, d) => bytes.length + uptoBulk d + 1
  | (_, d) => uptoBulk d + 1
 end
def uptoSmall : (H : Type) → List (DataW H) → Bool := fun _ ds => decide (uptoBulkAll ds ≤ 1048576)
def OpenSpec.upto (s : _root_.Go.ChangeSpec) : _root_.Go.OpenSpec := { _root_.Go.OpenSpec.ofChange s with cond := some uptoSmall }

/-- 'laws.FnExactIsReciprocityProof', WHERE WHAT IT READS IS OF BULK AT MOST 1048576: true; the input reads as it did. -/
def fnExactIsReciprocityProofUptoRow : OpenClaim := { program := "ytfpedehpmgcmnaa", sum := "87f720e08a10a1aa4f29642eaab44d5b30e3ef02feff1945368d8bde436ef89b", func := "loop.example/g01066/laws.FnExactIsReciprocityProof", spec := "fnExactIsReciprocityProof", apart := false, narrowed := true }
def FnExactIsReciprocityProofUptoSaid : Prop := fnExactIsReciprocityProofUptoRow.holds Try.pinned (OpenSpec.upto fnExactIsReciprocityProofSpec)

/-- 'laws.FnExactReciprocityProof', WHERE WHAT IT READS IS OF BULK AT MOST 1048576: true; the input reads as it did. -/
def fnExactReciprocityProofUptoRow : OpenClaim := { program := "ytfpedehpmgcmnaa", sum := "87f720e08a10a1aa4f29642eaab44d5b30e3ef02feff1945368d8bde436ef89b", func := "loop.example/g01066/laws.FnExactReciprocityProof", spec := "fnExactReciprocityProof", apart := false, narrowed := true }
def FnExactReciprocityProofUptoSaid : Prop := fnExactReciprocityProofUptoRow.holds Try.pinned (OpenSpec.upto fnExactReciprocityProofSpec)

/-- 'laws.FnExactPrimitiveFormsWithLeading', WHERE WHAT IT READS IS OF BULK AT MOST 1048576: true; the input reads as it did. -/
def fnExactPrimitiveFormsWithLeadingUptoRow : OpenClaim := { program := "ytfpedehpmgcmnaa", sum := "87f720e08a10a1aa4f29642eaab44d5b30e3ef02feff1945368d8bde436ef89b", func := "loop.example/g01066/laws.FnExactPrimitiveFormsWithLeading", spec := "fnExactPrimitiveFormsWithLeading", apart := false, narrowed := true }
def FnExactPrimitiveFormsWithLeadingUptoSaid : Prop := fnExactPrimitiveFormsWithLeadingUptoRow.holds Try.pinned (OpenSpec.upto fnExactPrimitiveFormsWithLeadingSpec)

/-- 'laws.FnFactors', WHERE WHAT IT READS IS OF BULK AT MOST 1048576: true; the input reads as it did. -/
def fnFactorsUptoRow : OpenClaim := { program := "ytfpedehpmgcmnaa", sum := "87f720e08a10a1aa4f29642eaab44d5b30e3ef02feff1945368d8bde436ef89b", func := "loop.example/g01066/laws.FnFactors", spec := "fnFactors", apart := false, narrowed := true }
def FnFactorsUptoSaid : Prop := fnFactorsUptoRow.holds Try.pinned (OpenSpec.upto fnFactorsSpec)

/-- 'laws.FnBezout', WHERE WHAT IT READS IS OF BULK AT MOST 1048576: true; the input reads as it did. -/
def fnBezoutUptoRow : OpenClaim := { program := "ytfpedehpmgcmnaa", sum := "87f720e08a10a1aa4f29642eaab44d5b30e3ef02feff1945368d8bde436ef89b", func := "loop.example/g01066/laws.FnBezout", spec := "fnBezout", apart := false, narrowed := true }
def FnBezoutUptoSaid : Prop := fnBezoutUptoRow.holds Try.pinned (OpenSpec.upto fnBezoutSpec)

end Rows
end Go.Proofs.Ytfpedehpmgcmnaa
