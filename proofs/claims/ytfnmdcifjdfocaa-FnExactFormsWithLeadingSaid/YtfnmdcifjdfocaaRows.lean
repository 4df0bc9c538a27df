/-
  No cell of these rows narrows 'for every input' (looked for: loops, veiled, ifaces, maps, wideKeys, modest, calm, conditions, laid).
  DERIVED. THE GIVEN ROWS OF THIS SEAT. 12 by the template 'for every input the law returns true; each argument reads behind the call as it read before'; 0 by the template 'total and deterministic' (their statements: YtfnmdcifjdfocaaTotals.lean).
  GIVEN WITH THE SEED: the statements are not yours to turn. If you find one false, say at which input.
  Laid BY PROGRAM, IN A SANDBOX (cutbox-rows.mjs): the forced cells as the released guide's own fill.sh prints them over the translation 5d3cc51dbde22ccc… (all of the seat's roots in one cut). By AI agents, Wed Nov 11 2026. No macro, syntax, notation, axiom, sorry.
-/
import Derived.Test.YtfnmdcifjdfocaaChecked
import GoSem.Claim
import GoSem.ClaimJoined
import GoSem.ClaimMapViews
import Derived.JoinedTies
import Derived.KernelRfl
namespace Go.Proofs.Ytfnmdcifjdfocaa
/- THE CELL 'sum', in the pinned program and in every row, IS THE sha256 OF THE DUMP (.gsa) THAT YtfnmdcifjdfocaaProg.lean LOADS. Nothing in Lean hashes anything: it is a label: what it is worth is what the hold of that sum in a sandbox is worth. -/
noncomputable def Try.pinned : Pinned := { name := "ytfnmdcifjdfocaa", sum := "5d3cc51dbde22cccebce92c317d95603ca40889aaeac40f96269bce869a60cc9", checked := Try.checked }
namespace Rows
def none {H : Type} : Left H := { results := [], args := [] }

/-- 'laws.FnExactCountSquareRoots': WHATEVER THE INPUT: true; the input reads as it did. -/
def fnExactCountSquareRootsSpec : ChangeSpec := { name := "fnExactCountSquareRoots", fn := fun _ => fun
  | [d1, d2] => { results := [.lit (.bool true)], args := [d1, d2] }
  | _ => none }
def fnExactCountSquareRootsRow : OpenClaim := { program := "ytfnmdcifjdfocaa", sum := "5d3cc51dbde22cccebce92c317d95603ca40889aaeac40f96269bce869a60cc9", func := "loop.example/g01066/laws.FnExactCountSquareRoots", spec := "fnExactCountSquareRoots", apart := false }
def FnExactCountSquareRootsSaid : Prop := fnExactCountSquareRootsRow.holds Try.pinned (OpenSpec.ofChange fnExactCountSquareRootsSpec)

/-- ITS FALSE NEIGHBOUR: 'it returns false'. Refute it at one input. -/
def fnExactCountSquareRootsWrong : ChangeSpec := { name := "fnExactCountSquareRoots", fn := fun _ => fun
  | [d1, d2] => { results := [.lit (.bool false)], args := [d1, d2] }
  | _ => none }
def FnExactCountSquareRootsWrongFalsely : Prop := fnExactCountSquareRootsRow.holds Try.pinned (OpenSpec.ofChange fnExactCountSquareRootsWrong)

/-- 'laws.FnExactSquareResidues': WHATEVER THE INPUT: true; the input reads as it did. -/
def fnExactSquareResiduesSpec : ChangeSpec := { name := "fnExactSquareResidues", fn := fun _ => fun
  | [d] => { results := [.lit (.bool true)], args := [d] }
  | _ => none }
def fnExactSquareResiduesRow : OpenClaim := { program := "ytfnmdcifjdfocaa", sum := "5d3cc51dbde22cccebce92c317d95603ca40889aaeac40f96269bce869a60cc9", func := "loop.example/g01066/laws.FnExactSquareResidues", spec := "fnExactSquareResidues", apart := false }
def FnExactSquareResiduesSaid : Prop := fnExactSquareResiduesRow.holds Try.pinned (OpenSpec.ofChange fnExactSquareResiduesSpec)

/-- ITS FALSE NEIGHBOUR: 'it returns false'. Refute it at one input. -/
def fnExactSquareResiduesWrong : ChangeSpec := { name := "fnExactSquareResidues", fn := fun _ => fun
  | [d] => { results := [.lit (.bool false)], args := [d] }
  | _ => none }
def FnExactSquareResiduesWrongFalsely : Prop := fnExactSquareResiduesRow.holds Try.pinned (OpenSpec.ofChange fnExactSquareResiduesWrong)

/-- 'laws.FnExactQuadraticRoots': WHATEVER THE INPUT: true; the input reads as it did. -/
def fnExactQuadraticRootsSpec : ChangeSpec := { name := "fnExactQuadraticRoots", fn := fun _ => fun
  | [d1, d2, d3, d4] => { results := [.lit (.bool true)], args := [d1, d2, d3, d4] }
  | _ => none }
def fnExactQuadraticRootsRow : OpenClaim := { program := "ytfnmdcifjdfocaa", sum := "5d3cc51dbde22cccebce92c317d95603ca40889aaeac40f96269bce869a60cc9", func := "loop.example/g01066/laws.FnExactQuadraticRoots", spec := "fnExactQuadraticRoots", apart := false }
def FnExactQuadraticRootsSaid : Prop := fnExactQuadraticRootsRow.holds Try.pinned (OpenSpec.ofChange fnExactQuadraticRootsSpec)

/-- ITS FALSE NEIGHBOUR: 'it returns false'. Refute it at one input. -/
def fnExactQuadraticRootsWrong : ChangeSpec := { name := "fnExactQuadraticRoots", fn := fun _ => fun
  | [d1, d2, d3, d4] => { results := [.lit (.bool false)], args := [d1, d2, d3, d4] }
  | _ => none }
def FnExactQuadraticRootsWrongFalsely : Prop := fnExactQuadraticRootsRow.holds Try.pinned (OpenSpec.ofChange fnExactQuadraticRootsWrong)

/-- 'laws.FnExactEuclidRemainders': WHATEVER THE INPUT: true; the input reads as it did. -/
def fnExactEuclidRemaindersSpec : ChangeSpec := { name := "fnExactEuclidRemainders", fn := fun _ => fun
  | [d1, d2] => { results := [.lit (.bool true)], args := [d1, d2] }
  | _ => none }
def fnExactEuclidRemaindersRow : OpenClaim := { program := "ytfnmdcifjdfocaa", sum := "5d3cc51dbde22cccebce92c317d95603ca40889aaeac40f96269bce869a60cc9", func := "loop.example/g01066/laws.FnExactEuclidRemainders", spec := "fnExactEuclidRemainders", apart := false }
def FnExactEuclidRemaindersSaid : Prop := fnExactEuclidRemaindersRow.holds Try.pinned (OpenSpec.ofChange fnExactEuclidRemaindersSpec)

/-- ITS FALSE NEIGHBOUR: 'it returns false'. Refute it at one input. -/
def fnExactEuclidRemaindersWrong : ChangeSpec := { name := "fnExactEuclidRemainders", fn := fun _ => fun
  | [d1, d2] => { results := [.lit (.bool false)], args := [d1, d2] }
  | _ => none }
def FnExactEuclidRemaindersWrongFalsely : Prop := fnExactEuclidRemaindersRow.holds Try.pinned (OpenSpec.ofChange fnExactEuclidRemaindersWrong)

/-- 'laws.FnExactSquareRootsModulo': WHATEVER THE INPUT: true; the input reads as it did. -/
def fnExactSquareRootsModuloSpec : ChangeSpec := { name := "fnExactSquareRootsModulo", fn := fun _ => fun
  | [d1, d2] => { results := [.lit (.bool true)], args := [d1, d2] }
  | _ => none }
def fnExactSquareRootsModuloRow : OpenClaim := { program := "ytfnmdcifjdfocaa", sum := "5d3cc51dbde22cccebce92c317d95603ca40889aaeac40f96269bce869a60cc9", func := "loop.example/g01066/laws.FnExactSquareRootsModulo", spec := "fnExactSquareRootsModulo", apart := false }
def FnExactSquareRootsModuloSaid : Prop := fnExactSquareRootsModuloRow.holds Try.pinned (OpenSpec.ofChange fnExactSquareRootsModuloSpec)

/-- ITS FALSE NEIGHBOUR: 'it returns false'. Refute it at one input. -/
def fnExactSquareRootsModuloWrong : ChangeSpec := { name := "fnExactSquareRootsModulo", fn := fun _ => fun
  | [d1, d2] => { results := [.lit (.bool false)], args := [d1, d2] }
  | _ => none }
def FnExactSquareRootsModuloWrongFalsely : Prop := fnExactSquareRootsModuloRow.holds Try.pinned (OpenSpec.ofChange fnExactSquareRootsModuloWrong)

/-- 'laws.FnExactRootsOfDiscriminant': WHATEVER THE INPUT: true; the input reads as it did. -/
def fnExactRootsOfDiscriminantSpec : ChangeSpec := { name := "fnExactRootsOfDiscriminant", fn := fun _ => fun
  | [d1, d2] => { results := [.lit (.bool true)], args := [d1, d2] }
  | _ => none }
def fnExactRootsOfDiscriminantRow : OpenClaim := { program := "ytfnmdcifjdfocaa", sum := "5d3cc51dbde22cccebce92c317d95603ca40889aaeac40f96269bce869a60cc9", func := "loop.example/g01066/laws.FnExactRootsOfDiscriminant", spec := "fnExactRootsOfDiscriminant", apart := false }
def FnExactRootsOfDiscriminantSaid : Prop := fnExactRootsOfDiscriminantRow.holds Try.pinned (OpenSpec.ofChange fnExactRootsOfDiscriminantSpec)

/-- ITS FALSE NEIGHBOUR: 'it returns false'. Refute it at one input. -/
def fnExactRootsOfDiscriminantWrong : ChangeSpec := { name := "fnExactRootsOfDiscriminant", fn := fun _ => fun
  | [d1, d2] => { results := [.lit (.bool false)], args := [d1, d2] }
  | _ => none }
def FnExactRootsOfDiscriminantWrongFalsely : Prop := fnExactRootsOfDiscriminantRow.holds Try.pinned (OpenSpec.ofChange fnExactRootsOfDiscriminantWrong)

/-- 'laws.FnExactPrimeFactors': WHATEVER THE INPUT: true; the input reads as it did. -/
def fnExactPrimeFactorsSpec : ChangeSpec := { name := "fnExactPrimeFactors", fn := fun _ => fun
  | [d] => { results := [.lit (.bool true)], args := [d] }
  | _ => none }
def fnExactPrimeFactorsRow : OpenClaim := { program := "ytfnmdcifjdfocaa", sum := "5d3cc51dbde22cccebce92c317d95603ca40889aaeac40f96269bce869a60cc9", func := "loop.example/g01066/laws.FnExactPrimeFactors", spec := "fnExactPrimeFactors", apart := false }
def FnExactPrimeFactorsSaid : Prop := fnExactPrimeFactorsRow.holds Try.pinned (OpenSpec.ofChange fnExactPrimeFactorsSpec)

/-- ITS FALSE NEIGHBOUR: 'it returns false'. Refute it at one input. -/
def fnExactPrimeFactorsWrong : ChangeSpec := { name := "fnExactPrimeFactors", fn := fun _ => fun
  | [d] => { results := [.lit (.bool false)], args := [d] }
  | _ => none }
def FnExactPrimeFactorsWrongFalsely : Prop := fnExactPrimeFactorsRow.holds Try.pinned (OpenSpec.ofChange fnExactPrimeFactorsWrong)

/-- 'laws.FnExactMobius': WHATEVER THE INPUT: true; the input reads as it did. -/
def fnExactMobiusSpec : ChangeSpec := { name := "fnExactMobius", fn := fun _ => fun
  | [d] => { results := [.lit (.bool true)], args := [d] }
  | _ => none }
def fnExactMobiusRow : OpenClaim := { program := "ytfnmdcifjdfocaa", sum := "5d3cc51dbde22cccebce92c317d95603ca40889aaeac40f96269bce869a60cc9", func := "loop.example/g01066/laws.FnExactMobius", spec := "fnExactMobius", apart := false }
def FnExactMobiusSaid : Prop := fnExactMobiusRow.holds Try.pinned (OpenSpec.ofChange fnExactMobiusSpec)

/-- ITS FALSE NEIGHBOUR: 'it returns false'. Refute it at one input. -/
def fnExactMobiusWrong : ChangeSpec := { name := "fnExactMobius", fn := fun _ => fun
  | [d] => { results := [.lit (.bool false)], args := [d] }
  | _ => none }
def FnExactMobiusWrongFalsely : Prop := fnExactMobiusRow.holds Try.pinned (OpenSpec.ofChange fnExactMobiusWrong)

/-- 'laws.FnExactDivisors': WHATEVER THE INPUT: true; the input reads as it did. -/
def fnExactDivisorsSpec : ChangeSpec := { name := "fnExactDivisors", fn := fun _ => fun
  | [d] => { results := [.lit (.bool true)], args := [d] }
  | _ => none }
def fnExactDivisorsRow : OpenClaim := { program := "ytfnmdcifjdfocaa", sum := "5d3cc51dbde22cccebce92c317d95603ca40889aaeac40f96269bce869a60cc9", func := "loop.example/g01066/laws.FnExactDivisors", spec := "fnExactDivisors", apart := false }
def FnExactDivisorsSaid : Prop := fnExactDivisorsRow.holds Try.pinned (OpenSpec.ofChange fnExactDivisorsSpec)

/-- ITS FALSE NEIGHBOUR: 'it returns false'. Refute it at one input. -/
def fnExactDivisorsWrong : ChangeSpec := { name := "fnExactDivisors", fn := fun _ => fun
  | [d] => { results := [.lit (.bool false)], args := [d] }
  | _ => none }
def FnExactDivisorsWrongFalsely : Prop := fnExactDivisorsRow.holds Try.pinned (OpenSpec.ofChange fnExactDivisorsWrong)

/-- 'laws.FnExactNormFromRoot': WHATEVER THE INPUT: true; the input reads as it did. -/
def fnExactNormFromRootSpec : ChangeSpec := { name := "fnExactNormFromRoot", fn := fun _ => fun
  | [d1, d2, d3] => { results := [.lit (.bool true)], args := [d1, d2, d3] }
  | _ => none }
def fnExactNormFromRootRow : OpenClaim := { program := "ytfnmdcifjdfocaa", sum := "5d3cc51dbde22cccebce92c317d95603ca40889aaeac40f96269bce869a60cc9", func := "loop.example/g01066/laws.FnExactNormFromRoot", spec := "fnExactNormFromRoot", apart := false }
def FnExactNormFromRootSaid : Prop := fnExactNormFromRootRow.holds Try.pinned (OpenSpec.ofChange fnExactNormFromRootSpec)

/-- ITS FALSE NEIGHBOUR: 'it returns false'. Refute it at one input. -/
def fnExactNormFromRootWrong : ChangeSpec := { name := "fnExactNormFromRoot", fn := fun _ => fun
  | [d1, d2, d3] => { results := [.lit (.bool false)], args := [d1, d2, d3] }
  | _ => none }
def FnExactNormFromRootWrongFalsely : Prop := fnExactNormFromRootRow.holds Try.pinned (OpenSpec.ofChange fnExactNormFromRootWrong)

/-- 'laws.FnExactPermutationSign': WHATEVER THE INPUT: true; the input reads as it did. -/
def fnExactPermutationSignSpec : ChangeSpec := { name := "fnExactPermutationSign", fn := fun _ => fun
  | [d1, d2] => { results := [.lit (.bool true)], args := [d1, d2] }
  | _ => none }
def fnExactPermutationSignRow : OpenClaim := { program := "ytfnmdcifjdfocaa", sum := "5d3cc51dbde22cccebce92c317d95603ca40889aaeac40f96269bce869a60cc9", func := "loop.example/g01066/laws.FnExactPermutationSign", spec := "fnExactPermutationSign", apart := false }
def FnExactPermutationSignSaid : Prop := fnExactPermutationSignRow.holds Try.pinned (OpenSpec.ofChange fnExactPermutationSignSpec)

/-- ITS FALSE NEIGHBOUR: 'it returns false'. Refute it at one input. -/
def fnExactPermutationSignWrong : ChangeSpec := { name := "fnExactPermutationSign", fn := fun _ => fun
  | [d1, d2] => { results := [.lit (.bool false)], args := [d1, d2] }
  | _ => none }
def FnExactPermutationSignWrongFalsely : Prop := fnExactPermutationSignRow.holds Try.pinned (OpenSpec.ofChange fnExactPermutationSignWrong)

/-- 'laws.FnExactFormsWithLeading': WHATEVER THE INPUT: true; the input reads as it did. -/
def fnExactFormsWithLeadingSpec : ChangeSpec := { name := "fnExactFormsWithLeading", fn := fun _ => fun
  | [d1, d2] => { results := [.lit (.bool true)], args := [d1, d2] }
  | _ => none }
def fnExactFormsWithLeadingRow : OpenClaim := { program := "ytfnmdcifjdfocaa", sum := "5d3cc51dbde22cccebce92c317d95603ca40889aaeac40f96269bce869a60cc9", func := "loop.example/g01066/laws.FnExactFormsWithLeading", spec := "fnExactFormsWithLeading", apart := false }
def FnExactFormsWithLeadingSaid : Prop := fnExactFormsWithLeadingRow.holds Try.pinned (OpenSpec.ofChange fnExactFormsWithLeadingSpec)

/-- ITS FALSE NEIGHBOUR: 'it returns false'. Refute it at one input. -/
def fnExactFormsWithLeadingWrong : ChangeSpec := { name := "fnExactFormsWithLeading", fn := fun _ => fun
  | [d1, d2] => { results := [.lit (.bool false)], args := [d1, d2] }
  | _ => none }
def FnExactFormsWithLeadingWrongFalsely : Prop := fnExactFormsWithLeadingRow.holds Try.pinned (OpenSpec.ofChange fnExactFormsWithLeadingWrong)

/- THE SECOND FORM. 'bulk': how many values and letters a reading holds, each counted each time it is reached (what is shared counts as often as it is met; a slice's spare places count too). A statement '..UptoSaid' is the law's where the arguments, and the package variables that the reading takes, are together of bulk at most 1048576: NARROWER than '..Said'. Prove '..Said' where nothing that the law and all that it calls make is longer than what came in: it says more and counts as full. Else prove '..UptoSaid'. A law counts once. -/
mutual
def uptoBulk {H : Type} : DataW H → Nat
  | .lit (.string bytes) => bytes.length + 1
  | .lit _ => 1
  | .nil => 1
  | .ptr d => uptoBulk d + 1
  | .slice elems spare => uptoBulkAll elems + uptoBulkAll spare + 1
  | .agg parts => uptoBulkAll parts + 1
  | .iface _ d => uptoBulk d + 1
  | .map entries => uptoBulkEntries entries + 1
  | .held _ => 1
def uptoBulkAll {H : Type} : List (DataW H) → Nat
  | [] => 0
  | d :: r => uptoBulk d + uptoBulkAll r
def uptoBulkEntries {H : Type} : List (Lit × DataW H) → Nat
  | [] => 0
  | x :: r => uptoBulkEntry x + uptoBulkEntries r
def uptoBulkEntry {H : Type} : Lit × DataW H → Nat
  | (.string bytes, d) => bytes.length + uptoBulk d + 1
  | (_, d) => uptoBulk d + 1
 end
def uptoSmall : (H : Type) → List (DataW H) → Bool := fun _ ds => decide (uptoBulkAll ds ≤ 1048576)
def OpenSpec.upto (s : _root_.Go.ChangeSpec) : _root_.Go.OpenSpec := { _root_.Go.OpenSpec.ofChange s with cond := some uptoSmall }

/-- 'laws.FnExactCountSquareRoots', WHERE WHAT IT READS IS OF BULK AT MOST 1048576: true; the input reads as it did. -/
def fnExactCountSquareRootsUptoRow : OpenClaim := { program := "ytfnmdcifjdfocaa", sum := "5d3cc51dbde22cccebce92c317d95603ca40889aaeac40f96269bce869a60cc9", func := "loop.example/g01066/laws.FnExactCountSquareRoots", spec := "fnExactCountSquareRoots", apart := false, narrowed := true }
def FnExactCountSquareRootsUptoSaid : Prop := fnExactCountSquareRootsUptoRow.holds Try.pinned (OpenSpec.upto fnExactCountSquareRootsSpec)

/-- 'laws.FnExactSquareResidues', WHERE WHAT IT READS IS OF BULK AT MOST 1048576: true; the input reads as it did. -/
def fnExactSquareResiduesUptoRow : OpenClaim := { program := "ytfnmdcifjdfocaa", sum := "5d3cc51dbde22cccebce92c317d95603ca40889aaeac40f96269bce869a60cc9", func := "loop.example/g01066/laws.FnExactSquareResidues", spec := "fnExactSquareResidues", apart := false, narrowed := true }
def FnExactSquareResiduesUptoSaid : Prop := fnExactSquareResiduesUptoRow.holds Try.pinned (OpenSpec.upto fnExactSquareResiduesSpec)

/-- 'laws.FnExactQuadraticRoots', WHERE WHAT IT READS IS OF BULK AT MOST 1048576: true; the input reads as it did. -/
def fnExactQuadraticRootsUptoRow : OpenClaim := { program := "ytfnmdcifjdfocaa", sum := "5d3cc51dbde22cccebce92c317d95603ca40889aaeac40f96269bce869a60cc9", func := "loop.example/g01066/laws.FnExactQuadraticRoots", spec := "fnExactQuadraticRoots", apart := false, narrowed := true }
def FnExactQuadraticRootsUptoSaid : Prop := fnExactQuadraticRootsUptoRow.holds Try.pinned (OpenSpec.upto fnExactQuadraticRootsSpec)

/-- 'laws.FnExactEuclidRemainders', WHERE WHAT IT READS IS OF BULK AT MOST 1048576: true; the input reads as it did. -/
def fnExactEuclidRemaindersUptoRow : OpenClaim := { program := "ytfnmdcifjdfocaa", sum := "5d3cc51dbde22cccebce92c317d95603ca40889aaeac40f96269bce869a60cc9", func := "loop.example/g01066/laws.FnExactEuclidRemainders", spec := "fnExactEuclidRemainders", apart := false, narrowed := true }
def FnExactEuclidRemaindersUptoSaid : Prop := fnExactEuclidRemaindersUptoRow.holds Try.pinned (OpenSpec.upto fnExactEuclidRemaindersSpec)

/-- 'laws.FnExactSquareRootsModulo', WHERE WHAT IT READS IS OF BULK AT MOST 1048576: true; the input reads as it did. -/
def fnExactSquareRootsModuloUptoRow : OpenClaim := { program := "ytfnmdcifjdfocaa", sum := "5d3cc51dbde22cccebce92c317d95603ca40889aaeac40f96269bce869a60cc9", func := "loop.example/g01066/laws.FnExactSquareRootsModulo", spec := "fnExactSquareRootsModulo", apart := false, narrowed := true }
def FnExactSquareRootsModuloUptoSaid : Prop := fnExactSquareRootsModuloUptoRow.holds Try.pinned (OpenSpec.upto fnExactSquareRootsModuloSpec)

/-- 'laws.FnExactRootsOfDiscriminant', WHERE WHAT IT READS IS OF BULK AT MOST 1048576: true; the input reads as it did. -/
def fnExactRootsOfDiscriminantUptoRow : OpenClaim := { program := "ytfnmdcifjdfocaa", sum := "5d3cc51dbde22cccebce92c317d95603ca40889aaeac40f96269bce869a60cc9", func := "loop.example/g01066/laws.FnExactRootsOfDiscriminant", spec := "fnExactRootsOfDiscriminant", apart := false, narrowed := true }
def FnExactRootsOfDiscriminantUptoSaid : Prop := fnExactRootsOfDiscriminantUptoRow.holds Try.pinned (OpenSpec.upto fnExactRootsOfDiscriminantSpec)

/-- 'laws.FnExactPrimeFactors', WHERE WHAT IT READS IS OF BULK AT MOST 1048576: true; the input reads as it did. -/
def fnExactPrimeFactorsUptoRow : OpenClaim := { program := "ytfnmdcifjdfocaa", sum := "5d3cc51dbde22cccebce92c317d95603ca40889aaeac40f96269bce869a60cc9", func := "loop.example/g01066/laws.FnExactPrimeFactors", spec := "fnExactPrimeFactors", apart := false, narrowed := true }
def FnExactPrimeFactorsUptoSaid : Prop := fnExactPrimeFactorsUptoRow.holds Try.pinned (OpenSpec.upto fnExactPrimeFactorsSpec)

/-- 'laws.FnExactMobius', WHERE WHAT IT READS IS OF BULK AT MOST 1048576: true; the input reads as it did. -/
def fnExactMobiusUptoRow : OpenClaim := { program := "ytfnmdcifjdfocaa", sum := "5d3cc51dbde22cccebce92c317d95603ca40889aaeac40f96269bce869a60cc9", func := "loop.example/g01066/laws.FnExactMobius", spec := "fnExactMobius", apart := false, narrowed := true }
def FnExactMobiusUptoSaid : Prop := fnExactMobiusUptoRow.holds Try.pinned (OpenSpec.upto fnExactMobiusSpec)

/-- 'laws.FnExactDivisors', WHERE WHAT IT READS IS OF BULK AT MOST 1048576: true; the input reads as it did. -/
def fnExactDivisorsUptoRow : OpenClaim := { program := "ytfnmdcifjdfocaa", sum := "5d3cc51dbde22cccebce92c317d95603ca40889aaeac40f96269bce869a60cc9", func := "loop.example/g01066/laws.FnExactDivisors", spec := "fnExactDivisors", apart := false, narrowed := true }
def FnExactDivisorsUptoSaid : Prop := fnExactDivisorsUptoRow.holds Try.pinned (OpenSpec.upto fnExactDivisorsSpec)

/-- 'laws.FnExactNormFromRoot', WHERE WHAT IT READS IS OF BULK AT MOST 1048576: true; the input reads as it did. -/
def fnExactNormFromRootUptoRow : OpenClaim := { program := "ytfnmdcifjdfocaa", sum := "5d3cc51dbde22cccebce92c317d95603ca40889aaeac40f96269bce869a60cc9", func := "loop.example/g01066/laws.FnExactNormFromRoot", spec := "fnExactNormFromRoot", apart := false, narrowed := true }
def FnExactNormFromRootUptoSaid : Prop := fnExactNormFromRootUptoRow.holds Try.pinned (OpenSpec.upto fnExactNormFromRootSpec)

/-- 'laws.FnExactPermutationSign', WHERE WHAT IT READS IS OF BULK AT MOST 1048576: true; the input reads as it did. -/
def fnExactPermutationSignUptoRow : OpenClaim := { program := "ytfnmdcifjdfocaa", sum := "5d3cc51dbde22cccebce92c317d95603ca40889aaeac40f96269bce869a60cc9", func := "loop.example/g01066/laws.FnExactPermutationSign", spec := "fnExactPermutationSign", apart := false, narrowed := true }
def FnExactPermutationSignUptoSaid : Prop := fnExactPermutationSignUptoRow.holds Try.pinned (OpenSpec.upto fnExactPermutationSignSpec)

/-- 'laws.FnExactFormsWithLeading', WHERE WHAT IT READS IS OF BULK AT MOST 1048576: true; the input reads as it did. -/
def fnExactFormsWithLeadingUptoRow : OpenClaim := { program := "ytfnmdcifjdfocaa", sum := "5d3cc51dbde22cccebce92c317d95603ca40889aaeac40f96269bce869a60cc9", func := "loop.example/g01066/laws.FnExactFormsWithLeading", spec := "fnExactFormsWithLeading", apart := false, narrowed := true }
def FnExactFormsWithLeadingUptoSaid : Prop := fnExactFormsWithLeadingUptoRow.holds Try.pinned (OpenSpec.upto fnExactFormsWithLeadingSpec)

end Rows
end Go.Proofs.Ytfnmdcifjdfocaa
