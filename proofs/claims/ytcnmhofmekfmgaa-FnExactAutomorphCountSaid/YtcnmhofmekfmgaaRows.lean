/-
  No cell of these rows narrows 'for every input' (looked for: loops, veiled, ifaces, maps, wideKeys, modest, calm, conditions, laid).
  DERIVED. THE GIVEN ROWS OF THIS SEAT. 12 by the template 'for every input the law returns true; each argument reads behind the call as it read before'; 0 by the template 'total and deterministic' (their statements: YtcnmhofmekfmgaaTotals.lean).
  GIVEN WITH THE SEED: the statements are not yours to turn. If you find one false, say at which input.
  Laid BY PROGRAM, IN A SANDBOX (cutbox-rows.mjs): the forced cells as the released guide's own fill.sh prints them over the translation 545a254b55c1a93b… (all of the seat's roots in one cut). By AI agents, Wed Nov 11 2026. No macro, syntax, notation, axiom, sorry.
-/
import Derived.Test.YtcnmhofmekfmgaaChecked
import GoSem.Claim
import GoSem.ClaimJoined
import GoSem.ClaimMapViews
import Derived.JoinedTies
import Derived.KernelRfl
namespace Go.Proofs.Ytcnmhofmekfmgaa
/- THE CELL 'sum', in the pinned program and in every row, IS THE sha256 OF THE DUMP (.gsa) THAT YtcnmhofmekfmgaaProg.lean LOADS. Nothing in Lean hashes anything: it is a label: what it is worth is what the hold of that sum in a sandbox is worth. -/
noncomputable def Try.pinned : Pinned := { name := "ytcnmhofmekfmgaa", sum := "545a254b55c1a93bd57c75475bd209f1a9d6d0fff8a4b6ca7aebca7dd42c3c3b", checked := Try.checked }
namespace Rows
def none {H : Type} : Left H := { results := [], args := [] }

/-- 'laws.FnExactIsPrime': WHATEVER THE INPUT: true; the input reads as it did. -/
def fnExactIsPrimeSpec : ChangeSpec := { name := "fnExactIsPrime", fn := fun _ => fun
  | [d] => { results := [.lit (.bool true)], args := [d] }
  | _ => none }
def fnExactIsPrimeRow : OpenClaim := { program := "ytcnmhofmekfmgaa", sum := "545a254b55c1a93bd57c75475bd209f1a9d6d0fff8a4b6ca7aebca7dd42c3c3b", func := "loop.example/g01066/laws.FnExactIsPrime", spec := "fnExactIsPrime", apart := false }
def FnExactIsPrimeSaid : Prop := fnExactIsPrimeRow.holds Try.pinned (OpenSpec.ofChange fnExactIsPrimeSpec)

/-- ITS FALSE NEIGHBOUR: 'it returns false'. Refute it at one input. -/
def fnExactIsPrimeWrong : ChangeSpec := { name := "fnExactIsPrime", fn := fun _ => fun
  | [d] => { results := [.lit (.bool false)], args := [d] }
  | _ => none }
def FnExactIsPrimeWrongFalsely : Prop := fnExactIsPrimeRow.holds Try.pinned (OpenSpec.ofChange fnExactIsPrimeWrong)

/-- 'laws.FnExactGreatestDivisor': WHATEVER THE INPUT: true; the input reads as it did. -/
def fnExactGreatestDivisorSpec : ChangeSpec := { name := "fnExactGreatestDivisor", fn := fun _ => fun
  | [d1, d2] => { results := [.lit (.bool true)], args := [d1, d2] }
  | _ => none }
def fnExactGreatestDivisorRow : OpenClaim := { program := "ytcnmhofmekfmgaa", sum := "545a254b55c1a93bd57c75475bd209f1a9d6d0fff8a4b6ca7aebca7dd42c3c3b", func := "loop.example/g01066/laws.FnExactGreatestDivisor", spec := "fnExactGreatestDivisor", apart := false }
def FnExactGreatestDivisorSaid : Prop := fnExactGreatestDivisorRow.holds Try.pinned (OpenSpec.ofChange fnExactGreatestDivisorSpec)

/-- ITS FALSE NEIGHBOUR: 'it returns false'. Refute it at one input. -/
def fnExactGreatestDivisorWrong : ChangeSpec := { name := "fnExactGreatestDivisor", fn := fun _ => fun
  | [d1, d2] => { results := [.lit (.bool false)], args := [d1, d2] }
  | _ => none }
def FnExactGreatestDivisorWrongFalsely : Prop := fnExactGreatestDivisorRow.holds Try.pinned (OpenSpec.ofChange fnExactGreatestDivisorWrong)

/-- 'laws.FnExactSquareRoot': WHATEVER THE INPUT: true; the input reads as it did. -/
def fnExactSquareRootSpec : ChangeSpec := { name := "fnExactSquareRoot", fn := fun _ => fun
  | [d] => { results := [.lit (.bool true)], args := [d] }
  | _ => none }
def fnExactSquareRootRow : OpenClaim := { program := "ytcnmhofmekfmgaa", sum := "545a254b55c1a93bd57c75475bd209f1a9d6d0fff8a4b6ca7aebca7dd42c3c3b", func := "loop.example/g01066/laws.FnExactSquareRoot", spec := "fnExactSquareRoot", apart := false }
def FnExactSquareRootSaid : Prop := fnExactSquareRootRow.holds Try.pinned (OpenSpec.ofChange fnExactSquareRootSpec)

/-- ITS FALSE NEIGHBOUR: 'it returns false'. Refute it at one input. -/
def fnExactSquareRootWrong : ChangeSpec := { name := "fnExactSquareRoot", fn := fun _ => fun
  | [d] => { results := [.lit (.bool false)], args := [d] }
  | _ => none }
def FnExactSquareRootWrongFalsely : Prop := fnExactSquareRootRow.holds Try.pinned (OpenSpec.ofChange fnExactSquareRootWrong)

/-- 'laws.FnExactFloorDivide': WHATEVER THE INPUT: true; the input reads as it did. -/
def fnExactFloorDivideSpec : ChangeSpec := { name := "fnExactFloorDivide", fn := fun _ => fun
  | [d1, d2] => { results := [.lit (.bool true)], args := [d1, d2] }
  | _ => none }
def fnExactFloorDivideRow : OpenClaim := { program := "ytcnmhofmekfmgaa", sum := "545a254b55c1a93bd57c75475bd209f1a9d6d0fff8a4b6ca7aebca7dd42c3c3b", func := "loop.example/g01066/laws.FnExactFloorDivide", spec := "fnExactFloorDivide", apart := false }
def FnExactFloorDivideSaid : Prop := fnExactFloorDivideRow.holds Try.pinned (OpenSpec.ofChange fnExactFloorDivideSpec)

/-- ITS FALSE NEIGHBOUR: 'it returns false'. Refute it at one input. -/
def fnExactFloorDivideWrong : ChangeSpec := { name := "fnExactFloorDivide", fn := fun _ => fun
  | [d1, d2] => { results := [.lit (.bool false)], args := [d1, d2] }
  | _ => none }
def FnExactFloorDivideWrongFalsely : Prop := fnExactFloorDivideRow.holds Try.pinned (OpenSpec.ofChange fnExactFloorDivideWrong)

/-- 'laws.FnExactSquareFreePart': WHATEVER THE INPUT: true; the input reads as it did. -/
def fnExactSquareFreePartSpec : ChangeSpec := { name := "fnExactSquareFreePart", fn := fun _ => fun
  | [d] => { results := [.lit (.bool true)], args := [d] }
  | _ => none }
def fnExactSquareFreePartRow : OpenClaim := { program := "ytcnmhofmekfmgaa", sum := "545a254b55c1a93bd57c75475bd209f1a9d6d0fff8a4b6ca7aebca7dd42c3c3b", func := "loop.example/g01066/laws.FnExactSquareFreePart", spec := "fnExactSquareFreePart", apart := false }
def FnExactSquareFreePartSaid : Prop := fnExactSquareFreePartRow.holds Try.pinned (OpenSpec.ofChange fnExactSquareFreePartSpec)

/-- ITS FALSE NEIGHBOUR: 'it returns false'. Refute it at one input. -/
def fnExactSquareFreePartWrong : ChangeSpec := { name := "fnExactSquareFreePart", fn := fun _ => fun
  | [d] => { results := [.lit (.bool false)], args := [d] }
  | _ => none }
def FnExactSquareFreePartWrongFalsely : Prop := fnExactSquareFreePartRow.holds Try.pinned (OpenSpec.ofChange fnExactSquareFreePartWrong)

/-- 'laws.FnExactContent': WHATEVER THE INPUT: true; the input reads as it did. -/
def fnExactContentSpec : ChangeSpec := { name := "fnExactContent", fn := fun _ => fun
  | [d] => { results := [.lit (.bool true)], args := [d] }
  | _ => none }
def fnExactContentRow : OpenClaim := { program := "ytcnmhofmekfmgaa", sum := "545a254b55c1a93bd57c75475bd209f1a9d6d0fff8a4b6ca7aebca7dd42c3c3b", func := "loop.example/g01066/laws.FnExactContent", spec := "fnExactContent", apart := false }
def FnExactContentSaid : Prop := fnExactContentRow.holds Try.pinned (OpenSpec.ofChange fnExactContentSpec)

/-- ITS FALSE NEIGHBOUR: 'it returns false'. Refute it at one input. -/
def fnExactContentWrong : ChangeSpec := { name := "fnExactContent", fn := fun _ => fun
  | [d] => { results := [.lit (.bool false)], args := [d] }
  | _ => none }
def FnExactContentWrongFalsely : Prop := fnExactContentRow.holds Try.pinned (OpenSpec.ofChange fnExactContentWrong)

/-- 'laws.FnExactIsPrimitive': WHATEVER THE INPUT: true; the input reads as it did. -/
def fnExactIsPrimitiveSpec : ChangeSpec := { name := "fnExactIsPrimitive", fn := fun _ => fun
  | [d] => { results := [.lit (.bool true)], args := [d] }
  | _ => none }
def fnExactIsPrimitiveRow : OpenClaim := { program := "ytcnmhofmekfmgaa", sum := "545a254b55c1a93bd57c75475bd209f1a9d6d0fff8a4b6ca7aebca7dd42c3c3b", func := "loop.example/g01066/laws.FnExactIsPrimitive", spec := "fnExactIsPrimitive", apart := false }
def FnExactIsPrimitiveSaid : Prop := fnExactIsPrimitiveRow.holds Try.pinned (OpenSpec.ofChange fnExactIsPrimitiveSpec)

/-- ITS FALSE NEIGHBOUR: 'it returns false'. Refute it at one input. -/
def fnExactIsPrimitiveWrong : ChangeSpec := { name := "fnExactIsPrimitive", fn := fun _ => fun
  | [d] => { results := [.lit (.bool false)], args := [d] }
  | _ => none }
def FnExactIsPrimitiveWrongFalsely : Prop := fnExactIsPrimitiveRow.holds Try.pinned (OpenSpec.ofChange fnExactIsPrimitiveWrong)

/-- 'laws.FnExactPowerModulo': WHATEVER THE INPUT: true; the input reads as it did. -/
def fnExactPowerModuloSpec : ChangeSpec := { name := "fnExactPowerModulo", fn := fun _ => fun
  | [d1, d2, d3] => { results := [.lit (.bool true)], args := [d1, d2, d3] }
  | _ => none }
def fnExactPowerModuloRow : OpenClaim := { program := "ytcnmhofmekfmgaa", sum := "545a254b55c1a93bd57c75475bd209f1a9d6d0fff8a4b6ca7aebca7dd42c3c3b", func := "loop.example/g01066/laws.FnExactPowerModulo", spec := "fnExactPowerModulo", apart := false }
def FnExactPowerModuloSaid : Prop := fnExactPowerModuloRow.holds Try.pinned (OpenSpec.ofChange fnExactPowerModuloSpec)

/-- ITS FALSE NEIGHBOUR: 'it returns false'. Refute it at one input. -/
def fnExactPowerModuloWrong : ChangeSpec := { name := "fnExactPowerModulo", fn := fun _ => fun
  | [d1, d2, d3] => { results := [.lit (.bool false)], args := [d1, d2, d3] }
  | _ => none }
def FnExactPowerModuloWrongFalsely : Prop := fnExactPowerModuloRow.holds Try.pinned (OpenSpec.ofChange fnExactPowerModuloWrong)

/-- 'laws.FnExactExponentIn': WHATEVER THE INPUT: true; the input reads as it did. -/
def fnExactExponentInSpec : ChangeSpec := { name := "fnExactExponentIn", fn := fun _ => fun
  | [d1, d2] => { results := [.lit (.bool true)], args := [d1, d2] }
  | _ => none }
def fnExactExponentInRow : OpenClaim := { program := "ytcnmhofmekfmgaa", sum := "545a254b55c1a93bd57c75475bd209f1a9d6d0fff8a4b6ca7aebca7dd42c3c3b", func := "loop.example/g01066/laws.FnExactExponentIn", spec := "fnExactExponentIn", apart := false }
def FnExactExponentInSaid : Prop := fnExactExponentInRow.holds Try.pinned (OpenSpec.ofChange fnExactExponentInSpec)

/-- ITS FALSE NEIGHBOUR: 'it returns false'. Refute it at one input. -/
def fnExactExponentInWrong : ChangeSpec := { name := "fnExactExponentIn", fn := fun _ => fun
  | [d1, d2] => { results := [.lit (.bool false)], args := [d1, d2] }
  | _ => none }
def FnExactExponentInWrongFalsely : Prop := fnExactExponentInRow.holds Try.pinned (OpenSpec.ofChange fnExactExponentInWrong)

/-- 'laws.FnExactEisensteinCount': WHATEVER THE INPUT: true; the input reads as it did. -/
def fnExactEisensteinCountSpec : ChangeSpec := { name := "fnExactEisensteinCount", fn := fun _ => fun
  | [d1, d2] => { results := [.lit (.bool true)], args := [d1, d2] }
  | _ => none }
def fnExactEisensteinCountRow : OpenClaim := { program := "ytcnmhofmekfmgaa", sum := "545a254b55c1a93bd57c75475bd209f1a9d6d0fff8a4b6ca7aebca7dd42c3c3b", func := "loop.example/g01066/laws.FnExactEisensteinCount", spec := "fnExactEisensteinCount", apart := false }
def FnExactEisensteinCountSaid : Prop := fnExactEisensteinCountRow.holds Try.pinned (OpenSpec.ofChange fnExactEisensteinCountSpec)

/-- ITS FALSE NEIGHBOUR: 'it returns false'. Refute it at one input. -/
def fnExactEisensteinCountWrong : ChangeSpec := { name := "fnExactEisensteinCount", fn := fun _ => fun
  | [d1, d2] => { results := [.lit (.bool false)], args := [d1, d2] }
  | _ => none }
def FnExactEisensteinCountWrongFalsely : Prop := fnExactEisensteinCountRow.holds Try.pinned (OpenSpec.ofChange fnExactEisensteinCountWrong)

/-- 'laws.FnExactAutomorphCount': WHATEVER THE INPUT: true; the input reads as it did. -/
def fnExactAutomorphCountSpec : ChangeSpec := { name := "fnExactAutomorphCount", fn := fun _ => fun
  | [d] => { results := [.lit (.bool true)], args := [d] }
  | _ => none }
def fnExactAutomorphCountRow : OpenClaim := { program := "ytcnmhofmekfmgaa", sum := "545a254b55c1a93bd57c75475bd209f1a9d6d0fff8a4b6ca7aebca7dd42c3c3b", func := "loop.example/g01066/laws.FnExactAutomorphCount", spec := "fnExactAutomorphCount", apart := false }
def FnExactAutomorphCountSaid : Prop := fnExactAutomorphCountRow.holds Try.pinned (OpenSpec.ofChange fnExactAutomorphCountSpec)

/-- ITS FALSE NEIGHBOUR: 'it returns false'. Refute it at one input. -/
def fnExactAutomorphCountWrong : ChangeSpec := { name := "fnExactAutomorphCount", fn := fun _ => fun
  | [d] => { results := [.lit (.bool false)], args := [d] }
  | _ => none }
def FnExactAutomorphCountWrongFalsely : Prop := fnExactAutomorphCountRow.holds Try.pinned (OpenSpec.ofChange fnExactAutomorphCountWrong)

/-- 'laws.FnExactGaussCount': WHATEVER THE INPUT: true; the input reads as it did. -/
def fnExactGaussCountSpec : ChangeSpec := { name := "fnExactGaussCount", fn := fun _ => fun
  | [d1, d2] => { results := [.lit (.bool true)], args := [d1, d2] }
  | _ => none }
def fnExactGaussCountRow : OpenClaim := { program := "ytcnmhofmekfmgaa", sum := "545a254b55c1a93bd57c75475bd209f1a9d6d0fff8a4b6ca7aebca7dd42c3c3b", func := "loop.example/g01066/laws.FnExactGaussCount", spec := "fnExactGaussCount", apart := false }
def FnExactGaussCountSaid : Prop := fnExactGaussCountRow.holds Try.pinned (OpenSpec.ofChange fnExactGaussCountSpec)

/-- ITS FALSE NEIGHBOUR: 'it returns false'. Refute it at one input. -/
def fnExactGaussCountWrong : ChangeSpec := { name := "fnExactGaussCount", fn := fun _ => fun
  | [d1, d2] => { results := [.lit (.bool false)], args := [d1, d2] }
  | _ => none }
def FnExactGaussCountWrongFalsely : Prop := fnExactGaussCountRow.holds Try.pinned (OpenSpec.ofChange fnExactGaussCountWrong)

/- THE SECOND FORM. 'bulk': how many values and letters a reading holds, each counted each time it is reached (what is shared counts as often as it is met; a slice's spare places count too). A statement '..UptoSaid' is the law's where the arguments, and the package variables that the reading takes, are together of bulk at most 1048576: NARROWER than '..Said'. Prove '..Said' where nothing that the law and all that it calls make is longer than what came in: it says more and counts as full. Else prove '..UptoSaid'. A law counts once. -/
mutual
def uptoBulk {H : Type} : DataW H → Nat
  | .lit (.string bytes) => bytes.length + 1
  | .lit _ => 1
  | .nil => 1
  | .ptr d => uptoBulk d + 1
  | .slice elems spare => uptoBulkAll elems + uptoBulkAll spare + 1
  | .agg parts => uptoBulkAll parts + 1
  | .iface _ d => uptoBulk d + 1
  | .map entries => uptoBulkEntries entries + 1
  | .held _ => 1
def uptoBulkAll {H : Type} : List (DataW H) → Nat
  | [] => 0
  | d :: r => uptoBulk d + uptoBulkAll r
def uptoBulkEntries {H : Type} : List (Lit × DataW H) → Nat
  | [] => 0
  | x :: r => uptoBulkEntry x + uptoBulkEntries r
def uptoBulkEntry {H : Type} : Lit × DataW H → Nat
  | (.string bytes, d) => bytes.length + uptoBulk d + 1
  | (_, d) => uptoBulk d + 1
 end
def uptoSmall : (H : Type) → List (DataW H) → Bool := fun _ ds => decide (uptoBulkAll ds ≤ 1048576)
def OpenSpec.upto (s : _root_.Go.ChangeSpec) : _root_.Go.OpenSpec := { _root_.Go.OpenSpec.ofChange s with cond := some uptoSmall }

/-- 'laws.FnExactIsPrime', WHERE WHAT IT READS IS OF BULK AT MOST 1048576: true; the input reads as it did. -/
def fnExactIsPrimeUptoRow : OpenClaim := { program := "ytcnmhofmekfmgaa", sum := "545a254b55c1a93bd57c75475bd209f1a9d6d0fff8a4b6ca7aebca7dd42c3c3b", func := "loop.example/g01066/laws.FnExactIsPrime", spec := "fnExactIsPrime", apart := false, narrowed := true }
def FnExactIsPrimeUptoSaid : Prop := fnExactIsPrimeUptoRow.holds Try.pinned (OpenSpec.upto fnExactIsPrimeSpec)

/-- 'laws.FnExactGreatestDivisor', WHERE WHAT IT READS IS OF BULK AT MOST 1048576: true; the input reads as it did. -/
def fnExactGreatestDivisorUptoRow : OpenClaim := { program := "ytcnmhofmekfmgaa", sum := "545a254b55c1a93bd57c75475bd209f1a9d6d0fff8a4b6ca7aebca7dd42c3c3b", func := "loop.example/g01066/laws.FnExactGreatestDivisor", spec := "fnExactGreatestDivisor", apart := false, narrowed := true }
def FnExactGreatestDivisorUptoSaid : Prop := fnExactGreatestDivisorUptoRow.holds Try.pinned (OpenSpec.upto fnExactGreatestDivisorSpec)

/-- 'laws.FnExactSquareRoot', WHERE WHAT IT READS IS OF BULK AT MOST 1048576: true; the input reads as it did. -/
def fnExactSquareRootUptoRow : OpenClaim := { program := "ytcnmhofmekfmgaa", sum := "545a254b55c1a93bd57c75475bd209f1a9d6d0fff8a4b6ca7aebca7dd42c3c3b", func := "loop.example/g01066/laws.FnExactSquareRoot", spec := "fnExactSquareRoot", apart := false, narrowed := true }
def FnExactSquareRootUptoSaid : Prop := fnExactSquareRootUptoRow.holds Try.pinned (OpenSpec.upto fnExactSquareRootSpec)

/-- 'laws.FnExactFloorDivide', WHERE WHAT IT READS IS OF BULK AT MOST 1048576: true; the input reads as it did. -/
def fnExactFloorDivideUptoRow : OpenClaim := { program := "ytcnmhofmekfmgaa", sum := "545a254b55c1a93bd57c75475bd209f1a9d6d0fff8a4b6ca7aebca7dd42c3c3b", func := "loop.example/g01066/laws.FnExactFloorDivide", spec := "fnExactFloorDivide", apart := false, narrowed := true }
def FnExactFloorDivideUptoSaid : Prop := fnExactFloorDivideUptoRow.holds Try.pinned (OpenSpec.upto fnExactFloorDivideSpec)

/-- 'laws.FnExactSquareFreePart', WHERE WHAT IT READS IS OF BULK AT MOST 1048576: true; the input reads as it did. -/
def fnExactSquareFreePartUptoRow : OpenClaim := { program := "ytcnmhofmekfmgaa", sum := "545a254b55c1a93bd57c75475bd209f1a9d6d0fff8a4b6ca7aebca7dd42c3c3b", func := "loop.example/g01066/laws.FnExactSquareFreePart", spec := "fnExactSquareFreePart", apart := false, narrowed := true }
def FnExactSquareFreePartUptoSaid : Prop := fnExactSquareFreePartUptoRow.holds Try.pinned (OpenSpec.upto fnExactSquareFreePartSpec)

/-- 'laws.FnExactContent', WHERE WHAT IT READS IS OF BULK AT MOST 1048576: true; the input reads as it did. -/
def fnExactContentUptoRow : OpenClaim := { program := "ytcnmhofmekfmgaa", sum := "545a254b55c1a93bd57c75475bd209f1a9d6d0fff8a4b6ca7aebca7dd42c3c3b", func := "loop.example/g01066/laws.FnExactContent", spec := "fnExactContent", apart := false, narrowed := true }
def FnExactContentUptoSaid : Prop := fnExactContentUptoRow.holds Try.pinned (OpenSpec.upto fnExactContentSpec)

/-- 'laws.FnExactIsPrimitive', WHERE WHAT IT READS IS OF BULK AT MOST 1048576: true; the input reads as it did. -/
def fnExactIsPrimitiveUptoRow : OpenClaim := { program := "ytcnmhofmekfmgaa", sum := "545a254b55c1a93bd57c75475bd209f1a9d6d0fff8a4b6ca7aebca7dd42c3c3b", func := "loop.example/g01066/laws.FnExactIsPrimitive", spec := "fnExactIsPrimitive", apart := false, narrowed := true }
def FnExactIsPrimitiveUptoSaid : Prop := fnExactIsPrimitiveUptoRow.holds Try.pinned (OpenSpec.upto fnExactIsPrimitiveSpec)

/-- 'laws.FnExactPowerModulo', WHERE WHAT IT READS IS OF BULK AT MOST 1048576: true; the input reads as it did. -/
def fnExactPowerModuloUptoRow : OpenClaim := { program := "ytcnmhofmekfmgaa", sum := "545a254b55c1a93bd57c75475bd209f1a9d6d0fff8a4b6ca7aebca7dd42c3c3b", func := "loop.example/g01066/laws.FnExactPowerModulo", spec := "fnExactPowerModulo", apart := false, narrowed := true }
def FnExactPowerModuloUptoSaid : Prop := fnExactPowerModuloUptoRow.holds Try.pinned (OpenSpec.upto fnExactPowerModuloSpec)

/-- 'laws.FnExactExponentIn', WHERE WHAT IT READS IS OF BULK AT MOST 1048576: true; the input reads as it did. -/
def fnExactExponentInUptoRow : OpenClaim := { program := "ytcnmhofmekfmgaa", sum := "545a254b55c1a93bd57c75475bd209f1a9d6d0fff8a4b6ca7aebca7dd42c3c3b", func := "loop.example/g01066/laws.FnExactExponentIn", spec := "fnExactExponentIn", apart := false, narrowed := true }
def FnExactExponentInUptoSaid : Prop := fnExactExponentInUptoRow.holds Try.pinned (OpenSpec.upto fnExactExponentInSpec)

/-- 'laws.FnExactEisensteinCount', WHERE WHAT IT READS IS OF BULK AT MOST 1048576: true; the input reads as it did. -/
def fnExactEisensteinCountUptoRow : OpenClaim := { program := "ytcnmhofmekfmgaa", sum := "545a254b55c1a93bd57c75475bd209f1a9d6d0fff8a4b6ca7aebca7dd42c3c3b", func := "loop.example/g01066/laws.FnExactEisensteinCount", spec := "fnExactEisensteinCount", apart := false, narrowed := true }
def FnExactEisensteinCountUptoSaid : Prop := fnExactEisensteinCountUptoRow.holds Try.pinned (OpenSpec.upto fnExactEisensteinCountSpec)

/-- 'laws.FnExactAutomorphCount', WHERE WHAT IT READS IS OF BULK AT MOST 1048576: true; the input reads as it did. -/
def fnExactAutomorphCountUptoRow : OpenClaim := { program := "ytcnmhofmekfmgaa", sum := "545a254b55c1a93bd57c75475bd209f1a9d6d0fff8a4b6ca7aebca7dd42c3c3b", func := "loop.example/g01066/laws.FnExactAutomorphCount", spec := "fnExactAutomorphCount", apart := false, narrowed := true }
def FnExactAutomorphCountUptoSaid : Prop := fnExactAutomorphCountUptoRow.holds Try.pinned (OpenSpec.upto fnExactAutomorphCountSpec)

/-- 'laws.FnExactGaussCount', WHERE WHAT IT READS IS OF BULK AT MOST 1048576: true; the input reads as it did. -/
def fnExactGaussCountUptoRow : OpenClaim := { program := "ytcnmhofmekfmgaa", sum := "545a254b55c1a93bd57c75475bd209f1a9d6d0fff8a4b6ca7aebca7dd42c3c3b", func := "loop.example/g01066/laws.FnExactGaussCount", spec := "fnExactGaussCount", apart := false, narrowed := true }
def FnExactGaussCountUptoSaid : Prop := fnExactGaussCountUptoRow.holds Try.pinned (OpenSpec.upto fnExactGaussCountSpec)

end Rows
end Go.Proofs.Ytcnmhofmekfmgaa
