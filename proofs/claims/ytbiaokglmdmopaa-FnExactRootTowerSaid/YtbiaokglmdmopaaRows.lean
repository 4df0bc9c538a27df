/-
  No cell of these rows narrows 'for every input' (looked for: loops, veiled, ifaces, maps, wideKeys, modest, calm, conditions, laid).
  DERIVED. THE GIVEN ROWS OF THIS SEAT. 12 by the template 'for every input the law returns true; each argument reads behind the call as it read before'; 0 by the template 'total and deterministic' (their statements: YtbiaokglmdmopaaTotals.lean).
  GIVEN WITH THE SEED: the statements are not yours to turn. If you find one false, say at which input.
  Laid BY PROGRAM, IN A SANDBOX (cutbox-rows.mjs): the forced cells as the released guide's own fill.sh prints them over the translation 4a94643a498e2ecc… (all of the seat's roots in one cut). By AI agents, Wed Nov 11 2026. No macro, syntax, notation, axiom, sorry.
-/
import Derived.Test.YtbiaokglmdmopaaChecked
import GoSem.Claim
import GoSem.ClaimJoined
import GoSem.ClaimMapViews
import Derived.JoinedTies
import Derived.KernelRfl
namespace Go.Proofs.Ytbiaokglmdmopaa
/- THE CELL 'sum', in the pinned program and in every row, IS THE sha256 OF THE DUMP (.gsa) THAT YtbiaokglmdmopaaProg.lean LOADS. Nothing in Lean hashes anything: it is a label: what it is worth is what the hold of that sum in a sandbox is worth. -/
noncomputable def Try.pinned : Pinned := { name := "ytbiaokglmdmopaa", sum := "4a94643a498e2ecc4115cbda9d2172380a960e2dfc7979820dac4beec6f5cc2c", checked := Try.checked }
namespace Rows
def none {H : Type} : Left H := { results := [], args := [] }

/-- 'laws.FnExactInverseModulo': WHATEVER THE INPUT: true; the input reads as it did. -/
def fnExactInverseModuloSpec : ChangeSpec := { name := "fnExactInverseModulo", fn := fun _ => fun
  | [d1, d2] => { results := [.lit (.bool true)], args := [d1, d2] }
  | _ => none }
def fnExactInverseModuloRow : OpenClaim := { program := "ytbiaokglmdmopaa", sum := "4a94643a498e2ecc4115cbda9d2172380a960e2dfc7979820dac4beec6f5cc2c", func := "loop.example/g01066/laws.FnExactInverseModulo", spec := "fnExactInverseModulo", apart := false }
def FnExactInverseModuloSaid : Prop := fnExactInverseModuloRow.holds Try.pinned (OpenSpec.ofChange fnExactInverseModuloSpec)

/-- ITS FALSE NEIGHBOUR: 'it returns false'. Refute it at one input. -/
def fnExactInverseModuloWrong : ChangeSpec := { name := "fnExactInverseModulo", fn := fun _ => fun
  | [d1, d2] => { results := [.lit (.bool false)], args := [d1, d2] }
  | _ => none }
def FnExactInverseModuloWrongFalsely : Prop := fnExactInverseModuloRow.holds Try.pinned (OpenSpec.ofChange fnExactInverseModuloWrong)

/-- 'laws.FnExactRootModuloPrime': WHATEVER THE INPUT: true; the input reads as it did. -/
def fnExactRootModuloPrimeSpec : ChangeSpec := { name := "fnExactRootModuloPrime", fn := fun _ => fun
  | [d1, d2] => { results := [.lit (.bool true)], args := [d1, d2] }
  | _ => none }
def fnExactRootModuloPrimeRow : OpenClaim := { program := "ytbiaokglmdmopaa", sum := "4a94643a498e2ecc4115cbda9d2172380a960e2dfc7979820dac4beec6f5cc2c", func := "loop.example/g01066/laws.FnExactRootModuloPrime", spec := "fnExactRootModuloPrime", apart := false }
def FnExactRootModuloPrimeSaid : Prop := fnExactRootModuloPrimeRow.holds Try.pinned (OpenSpec.ofChange fnExactRootModuloPrimeSpec)

/-- ITS FALSE NEIGHBOUR: 'it returns false'. Refute it at one input. -/
def fnExactRootModuloPrimeWrong : ChangeSpec := { name := "fnExactRootModuloPrime", fn := fun _ => fun
  | [d1, d2] => { results := [.lit (.bool false)], args := [d1, d2] }
  | _ => none }
def FnExactRootModuloPrimeWrongFalsely : Prop := fnExactRootModuloPrimeRow.holds Try.pinned (OpenSpec.ofChange fnExactRootModuloPrimeWrong)

/-- 'laws.FnExactCommonResidue': WHATEVER THE INPUT: true; the input reads as it did. -/
def fnExactCommonResidueSpec : ChangeSpec := { name := "fnExactCommonResidue", fn := fun _ => fun
  | [d1, d2, d3, d4] => { results := [.lit (.bool true)], args := [d1, d2, d3, d4] }
  | _ => none }
def fnExactCommonResidueRow : OpenClaim := { program := "ytbiaokglmdmopaa", sum := "4a94643a498e2ecc4115cbda9d2172380a960e2dfc7979820dac4beec6f5cc2c", func := "loop.example/g01066/laws.FnExactCommonResidue", spec := "fnExactCommonResidue", apart := false }
def FnExactCommonResidueSaid : Prop := fnExactCommonResidueRow.holds Try.pinned (OpenSpec.ofChange fnExactCommonResidueSpec)

/-- ITS FALSE NEIGHBOUR: 'it returns false'. Refute it at one input. -/
def fnExactCommonResidueWrong : ChangeSpec := { name := "fnExactCommonResidue", fn := fun _ => fun
  | [d1, d2, d3, d4] => { results := [.lit (.bool false)], args := [d1, d2, d3, d4] }
  | _ => none }
def FnExactCommonResidueWrongFalsely : Prop := fnExactCommonResidueRow.holds Try.pinned (OpenSpec.ofChange fnExactCommonResidueWrong)

/-- 'laws.FnExactJacobiSymbol': WHATEVER THE INPUT: true; the input reads as it did. -/
def fnExactJacobiSymbolSpec : ChangeSpec := { name := "fnExactJacobiSymbol", fn := fun _ => fun
  | [d1, d2] => { results := [.lit (.bool true)], args := [d1, d2] }
  | _ => none }
def fnExactJacobiSymbolRow : OpenClaim := { program := "ytbiaokglmdmopaa", sum := "4a94643a498e2ecc4115cbda9d2172380a960e2dfc7979820dac4beec6f5cc2c", func := "loop.example/g01066/laws.FnExactJacobiSymbol", spec := "fnExactJacobiSymbol", apart := false }
def FnExactJacobiSymbolSaid : Prop := fnExactJacobiSymbolRow.holds Try.pinned (OpenSpec.ofChange fnExactJacobiSymbolSpec)

/-- ITS FALSE NEIGHBOUR: 'it returns false'. Refute it at one input. -/
def fnExactJacobiSymbolWrong : ChangeSpec := { name := "fnExactJacobiSymbol", fn := fun _ => fun
  | [d1, d2] => { results := [.lit (.bool false)], args := [d1, d2] }
  | _ => none }
def FnExactJacobiSymbolWrongFalsely : Prop := fnExactJacobiSymbolRow.holds Try.pinned (OpenSpec.ofChange fnExactJacobiSymbolWrong)

/-- 'laws.FnExactCombineRoots': WHATEVER THE INPUT: true; the input reads as it did. -/
def fnExactCombineRootsSpec : ChangeSpec := { name := "fnExactCombineRoots", fn := fun _ => fun
  | [d1, d2, d3, d4, d5] => { results := [.lit (.bool true)], args := [d1, d2, d3, d4, d5] }
  | _ => none }
def fnExactCombineRootsRow : OpenClaim := { program := "ytbiaokglmdmopaa", sum := "4a94643a498e2ecc4115cbda9d2172380a960e2dfc7979820dac4beec6f5cc2c", func := "loop.example/g01066/laws.FnExactCombineRoots", spec := "fnExactCombineRoots", apart := false }
def FnExactCombineRootsSaid : Prop := fnExactCombineRootsRow.holds Try.pinned (OpenSpec.ofChange fnExactCombineRootsSpec)

/-- ITS FALSE NEIGHBOUR: 'it returns false'. Refute it at one input. -/
def fnExactCombineRootsWrong : ChangeSpec := { name := "fnExactCombineRoots", fn := fun _ => fun
  | [d1, d2, d3, d4, d5] => { results := [.lit (.bool false)], args := [d1, d2, d3, d4, d5] }
  | _ => none }
def FnExactCombineRootsWrongFalsely : Prop := fnExactCombineRootsRow.holds Try.pinned (OpenSpec.ofChange fnExactCombineRootsWrong)

/-- 'laws.FnExactLiftRoot': WHATEVER THE INPUT: true; the input reads as it did. -/
def fnExactLiftRootSpec : ChangeSpec := { name := "fnExactLiftRoot", fn := fun _ => fun
  | [d1, d2, d3, d4] => { results := [.lit (.bool true)], args := [d1, d2, d3, d4] }
  | _ => none }
def fnExactLiftRootRow : OpenClaim := { program := "ytbiaokglmdmopaa", sum := "4a94643a498e2ecc4115cbda9d2172380a960e2dfc7979820dac4beec6f5cc2c", func := "loop.example/g01066/laws.FnExactLiftRoot", spec := "fnExactLiftRoot", apart := false }
def FnExactLiftRootSaid : Prop := fnExactLiftRootRow.holds Try.pinned (OpenSpec.ofChange fnExactLiftRootSpec)

/-- ITS FALSE NEIGHBOUR: 'it returns false'. Refute it at one input. -/
def fnExactLiftRootWrong : ChangeSpec := { name := "fnExactLiftRoot", fn := fun _ => fun
  | [d1, d2, d3, d4] => { results := [.lit (.bool false)], args := [d1, d2, d3, d4] }
  | _ => none }
def FnExactLiftRootWrongFalsely : Prop := fnExactLiftRootRow.holds Try.pinned (OpenSpec.ofChange fnExactLiftRootWrong)

/-- 'laws.FnExactBezout': WHATEVER THE INPUT: true; the input reads as it did. -/
def fnExactBezoutSpec : ChangeSpec := { name := "fnExactBezout", fn := fun _ => fun
  | [d1, d2] => { results := [.lit (.bool true)], args := [d1, d2] }
  | _ => none }
def fnExactBezoutRow : OpenClaim := { program := "ytbiaokglmdmopaa", sum := "4a94643a498e2ecc4115cbda9d2172380a960e2dfc7979820dac4beec6f5cc2c", func := "loop.example/g01066/laws.FnExactBezout", spec := "fnExactBezout", apart := false }
def FnExactBezoutSaid : Prop := fnExactBezoutRow.holds Try.pinned (OpenSpec.ofChange fnExactBezoutSpec)

/-- ITS FALSE NEIGHBOUR: 'it returns false'. Refute it at one input. -/
def fnExactBezoutWrong : ChangeSpec := { name := "fnExactBezout", fn := fun _ => fun
  | [d1, d2] => { results := [.lit (.bool false)], args := [d1, d2] }
  | _ => none }
def FnExactBezoutWrongFalsely : Prop := fnExactBezoutRow.holds Try.pinned (OpenSpec.ofChange fnExactBezoutWrong)

/-- 'laws.FnExactLegendreSymbol': WHATEVER THE INPUT: true; the input reads as it did. -/
def fnExactLegendreSymbolSpec : ChangeSpec := { name := "fnExactLegendreSymbol", fn := fun _ => fun
  | [d1, d2] => { results := [.lit (.bool true)], args := [d1, d2] }
  | _ => none }
def fnExactLegendreSymbolRow : OpenClaim := { program := "ytbiaokglmdmopaa", sum := "4a94643a498e2ecc4115cbda9d2172380a960e2dfc7979820dac4beec6f5cc2c", func := "loop.example/g01066/laws.FnExactLegendreSymbol", spec := "fnExactLegendreSymbol", apart := false }
def FnExactLegendreSymbolSaid : Prop := fnExactLegendreSymbolRow.holds Try.pinned (OpenSpec.ofChange fnExactLegendreSymbolSpec)

/-- ITS FALSE NEIGHBOUR: 'it returns false'. Refute it at one input. -/
def fnExactLegendreSymbolWrong : ChangeSpec := { name := "fnExactLegendreSymbol", fn := fun _ => fun
  | [d1, d2] => { results := [.lit (.bool false)], args := [d1, d2] }
  | _ => none }
def FnExactLegendreSymbolWrongFalsely : Prop := fnExactLegendreSymbolRow.holds Try.pinned (OpenSpec.ofChange fnExactLegendreSymbolWrong)

/-- 'laws.FnExactLeastNonresidue': WHATEVER THE INPUT: true; the input reads as it did. -/
def fnExactLeastNonresidueSpec : ChangeSpec := { name := "fnExactLeastNonresidue", fn := fun _ => fun
  | [d] => { results := [.lit (.bool true)], args := [d] }
  | _ => none }
def fnExactLeastNonresidueRow : OpenClaim := { program := "ytbiaokglmdmopaa", sum := "4a94643a498e2ecc4115cbda9d2172380a960e2dfc7979820dac4beec6f5cc2c", func := "loop.example/g01066/laws.FnExactLeastNonresidue", spec := "fnExactLeastNonresidue", apart := false }
def FnExactLeastNonresidueSaid : Prop := fnExactLeastNonresidueRow.holds Try.pinned (OpenSpec.ofChange fnExactLeastNonresidueSpec)

/-- ITS FALSE NEIGHBOUR: 'it returns false'. Refute it at one input. -/
def fnExactLeastNonresidueWrong : ChangeSpec := { name := "fnExactLeastNonresidue", fn := fun _ => fun
  | [d] => { results := [.lit (.bool false)], args := [d] }
  | _ => none }
def FnExactLeastNonresidueWrongFalsely : Prop := fnExactLeastNonresidueRow.holds Try.pinned (OpenSpec.ofChange fnExactLeastNonresidueWrong)

/-- 'laws.FnExactKroneckerSymbol': WHATEVER THE INPUT: true; the input reads as it did. -/
def fnExactKroneckerSymbolSpec : ChangeSpec := { name := "fnExactKroneckerSymbol", fn := fun _ => fun
  | [d1, d2] => { results := [.lit (.bool true)], args := [d1, d2] }
  | _ => none }
def fnExactKroneckerSymbolRow : OpenClaim := { program := "ytbiaokglmdmopaa", sum := "4a94643a498e2ecc4115cbda9d2172380a960e2dfc7979820dac4beec6f5cc2c", func := "loop.example/g01066/laws.FnExactKroneckerSymbol", spec := "fnExactKroneckerSymbol", apart := false }
def FnExactKroneckerSymbolSaid : Prop := fnExactKroneckerSymbolRow.holds Try.pinned (OpenSpec.ofChange fnExactKroneckerSymbolSpec)

/-- ITS FALSE NEIGHBOUR: 'it returns false'. Refute it at one input. -/
def fnExactKroneckerSymbolWrong : ChangeSpec := { name := "fnExactKroneckerSymbol", fn := fun _ => fun
  | [d1, d2] => { results := [.lit (.bool false)], args := [d1, d2] }
  | _ => none }
def FnExactKroneckerSymbolWrongFalsely : Prop := fnExactKroneckerSymbolRow.holds Try.pinned (OpenSpec.ofChange fnExactKroneckerSymbolWrong)

/-- 'laws.FnExactSymbolSum': WHATEVER THE INPUT: true; the input reads as it did. -/
def fnExactSymbolSumSpec : ChangeSpec := { name := "fnExactSymbolSum", fn := fun _ => fun
  | [d1, d2] => { results := [.lit (.bool true)], args := [d1, d2] }
  | _ => none }
def fnExactSymbolSumRow : OpenClaim := { program := "ytbiaokglmdmopaa", sum := "4a94643a498e2ecc4115cbda9d2172380a960e2dfc7979820dac4beec6f5cc2c", func := "loop.example/g01066/laws.FnExactSymbolSum", spec := "fnExactSymbolSum", apart := false }
def FnExactSymbolSumSaid : Prop := fnExactSymbolSumRow.holds Try.pinned (OpenSpec.ofChange fnExactSymbolSumSpec)

/-- ITS FALSE NEIGHBOUR: 'it returns false'. Refute it at one input. -/
def fnExactSymbolSumWrong : ChangeSpec := { name := "fnExactSymbolSum", fn := fun _ => fun
  | [d1, d2] => { results := [.lit (.bool false)], args := [d1, d2] }
  | _ => none }
def FnExactSymbolSumWrongFalsely : Prop := fnExactSymbolSumRow.holds Try.pinned (OpenSpec.ofChange fnExactSymbolSumWrong)

/-- 'laws.FnExactRootTower': WHATEVER THE INPUT: true; the input reads as it did. -/
def fnExactRootTowerSpec : ChangeSpec := { name := "fnExactRootTower", fn := fun _ => fun
  | [d1, d2, d3] => { results := [.lit (.bool true)], args := [d1, d2, d3] }
  | _ => none }
def fnExactRootTowerRow : OpenClaim := { program := "ytbiaokglmdmopaa", sum := "4a94643a498e2ecc4115cbda9d2172380a960e2dfc7979820dac4beec6f5cc2c", func := "loop.example/g01066/laws.FnExactRootTower", spec := "fnExactRootTower", apart := false }
def FnExactRootTowerSaid : Prop := fnExactRootTowerRow.holds Try.pinned (OpenSpec.ofChange fnExactRootTowerSpec)

/-- ITS FALSE NEIGHBOUR: 'it returns false'. Refute it at one input. -/
def fnExactRootTowerWrong : ChangeSpec := { name := "fnExactRootTower", fn := fun _ => fun
  | [d1, d2, d3] => { results := [.lit (.bool false)], args := [d1, d2, d3] }
  | _ => none }
def FnExactRootTowerWrongFalsely : Prop := fnExactRootTowerRow.holds Try.pinned (OpenSpec.ofChange fnExactRootTowerWrong)

/- THE SECOND FORM. 'bulk': how many values and letters a reading holds, each counted each time it is reached (what is shared counts as often as it is met; a slice's spare places count too). A statement '..UptoSaid' is the law's where the arguments, and the package variables that the reading takes, are together of bulk at most 1048576: NARROWER than '..Said'. Prove '..Said' where nothing that the law and all that it calls make is longer than what came in: it says more and counts as full. Else prove '..UptoSaid'. A law counts once. -/
mutual
def uptoBulk {H : Type} : DataW H → Nat
  | .lit (.string bytes) => bytes.length + 1
  | .lit _ => 1
  | .nil => 1
  | .ptr d => uptoBulk d + 1
  | .slice elems spare => uptoBulkAll elems + uptoBulkAll spare + 1
  | .agg parts => uptoBulkAll parts + 1
  | .iface _ d => uptoBulk d + 1
  | .map entries => uptoBulkEntries entries + 1
  | .held _ => 1
def uptoBulkAll {H : Type} : List (DataW H) → Nat
  | [] => 0
  | d :: r => uptoBulk d + uptoBulkAll r
def uptoBulkEntries {H : Type} : List (Lit × DataW H) → Nat
  | [] => 0
  | x :: r => uptoBulkEntry x + uptoBulkEntries r
def uptoBulkEntry {H : Type} : Lit × DataW H → Nat
  | (.string bytes, d) => bytes.length + uptoBulk d + 1
  | (_, d) => uptoBulk d + 1
 end
def uptoSmall : (H : Type) → List (DataW H) → Bool := fun _ ds => decide (uptoBulkAll ds ≤ 1048576)
def OpenSpec.upto (s : _root_.Go.ChangeSpec) : _root_.Go.OpenSpec := { _root_.Go.OpenSpec.ofChange s with cond := some uptoSmall }

/-- 'laws.FnExactInverseModulo', WHERE WHAT IT READS IS OF BULK AT MOST 1048576: true; the input reads as it did. -/
def fnExactInverseModuloUptoRow : OpenClaim := { program := "ytbiaokglmdmopaa", sum := "4a94643a498e2ecc4115cbda9d2172380a960e2dfc7979820dac4beec6f5cc2c", func := "loop.example/g01066/laws.FnExactInverseModulo", spec := "fnExactInverseModulo", apart := false, narrowed := true }
def FnExactInverseModuloUptoSaid : Prop := fnExactInverseModuloUptoRow.holds Try.pinned (OpenSpec.upto fnExactInverseModuloSpec)

/-- 'laws.FnExactRootModuloPrime', WHERE WHAT IT READS IS OF BULK AT MOST 1048576: true; the input reads as it did. -/
def fnExactRootModuloPrimeUptoRow : OpenClaim := { program := "ytbiaokglmdmopaa", sum := "4a94643a498e2ecc4115cbda9d2172380a960e2dfc7979820dac4beec6f5cc2c", func := "loop.example/g01066/laws.FnExactRootModuloPrime", spec := "fnExactRootModuloPrime", apart := false, narrowed := true }
def FnExactRootModuloPrimeUptoSaid : Prop := fnExactRootModuloPrimeUptoRow.holds Try.pinned (OpenSpec.upto fnExactRootModuloPrimeSpec)

/-- 'laws.FnExactCommonResidue', WHERE WHAT IT READS IS OF BULK AT MOST 1048576: true; the input reads as it did. -/
def fnExactCommonResidueUptoRow : OpenClaim := { program := "ytbiaokglmdmopaa", sum := "4a94643a498e2ecc4115cbda9d2172380a960e2dfc7979820dac4beec6f5cc2c", func := "loop.example/g01066/laws.FnExactCommonResidue", spec := "fnExactCommonResidue", apart := false, narrowed := true }
def FnExactCommonResidueUptoSaid : Prop := fnExactCommonResidueUptoRow.holds Try.pinned (OpenSpec.upto fnExactCommonResidueSpec)

/-- 'laws.FnExactJacobiSymbol', WHERE WHAT IT READS IS OF BULK AT MOST 1048576: true; the input reads as it did. -/
def fnExactJacobiSymbolUptoRow : OpenClaim := { program := "ytbiaokglmdmopaa", sum := "4a94643a498e2ecc4115cbda9d2172380a960e2dfc7979820dac4beec6f5cc2c", func := "loop.example/g01066/laws.FnExactJacobiSymbol", spec := "fnExactJacobiSymbol", apart := false, narrowed := true }
def FnExactJacobiSymbolUptoSaid : Prop := fnExactJacobiSymbolUptoRow.holds Try.pinned (OpenSpec.upto fnExactJacobiSymbolSpec)

/-- 'laws.FnExactCombineRoots', WHERE WHAT IT READS IS OF BULK AT MOST 1048576: true; the input reads as it did. -/
def fnExactCombineRootsUptoRow : OpenClaim := { program := "ytbiaokglmdmopaa", sum := "4a94643a498e2ecc4115cbda9d2172380a960e2dfc7979820dac4beec6f5cc2c", func := "loop.example/g01066/laws.FnExactCombineRoots", spec := "fnExactCombineRoots", apart := false, narrowed := true }
def FnExactCombineRootsUptoSaid : Prop := fnExactCombineRootsUptoRow.holds Try.pinned (OpenSpec.upto fnExactCombineRootsSpec)

/-- 'laws.FnExactLiftRoot', WHERE WHAT IT READS IS OF BULK AT MOST 1048576: true; the input reads as it did. -/
def fnExactLiftRootUptoRow : OpenClaim := { program := "ytbiaokglmdmopaa", sum := "4a94643a498e2ecc4115cbda9d2172380a960e2dfc7979820dac4beec6f5cc2c", func := "loop.example/g01066/laws.FnExactLiftRoot", spec := "fnExactLiftRoot", apart := false, narrowed := true }
def FnExactLiftRootUptoSaid : Prop := fnExactLiftRootUptoRow.holds Try.pinned (OpenSpec.upto fnExactLiftRootSpec)

/-- 'laws.FnExactBezout', WHERE WHAT IT READS IS OF BULK AT MOST 1048576: true; the input reads as it did. -/
def fnExactBezoutUptoRow : OpenClaim := { program := "ytbiaokglmdmopaa", sum := "4a94643a498e2ecc4115cbda9d2172380a960e2dfc7979820dac4beec6f5cc2c", func := "loop.example/g01066/laws.FnExactBezout", spec := "fnExactBezout", apart := false, narrowed := true }
def FnExactBezoutUptoSaid : Prop := fnExactBezoutUptoRow.holds Try.pinned (OpenSpec.upto fnExactBezoutSpec)

/-- 'laws.FnExactLegendreSymbol', WHERE WHAT IT READS IS OF BULK AT MOST 1048576: true; the input reads as it did. -/
def fnExactLegendreSymbolUptoRow : OpenClaim := { program := "ytbiaokglmdmopaa", sum := "4a94643a498e2ecc4115cbda9d2172380a960e2dfc7979820dac4beec6f5cc2c", func := "loop.example/g01066/laws.FnExactLegendreSymbol", spec := "fnExactLegendreSymbol", apart := false, narrowed := true }
def FnExactLegendreSymbolUptoSaid : Prop := fnExactLegendreSymbolUptoRow.holds Try.pinned (OpenSpec.upto fnExactLegendreSymbolSpec)

/-- 'laws.FnExactLeastNonresidue', WHERE WHAT IT READS IS OF BULK AT MOST 1048576: true; the input reads as it did. -/
def fnExactLeastNonresidueUptoRow : OpenClaim := { program := "ytbiaokglmdmopaa", sum := "4a94643a498e2ecc4115cbda9d2172380a960e2dfc7979820dac4beec6f5cc2c", func := "loop.example/g01066/laws.FnExactLeastNonresidue", spec := "fnExactLeastNonresidue", apart := false, narrowed := true }
def FnExactLeastNonresidueUptoSaid : Prop := fnExactLeastNonresidueUptoRow.holds Try.pinned (OpenSpec.upto fnExactLeastNonresidueSpec)

/-- 'laws.FnExactKroneckerSymbol', WHERE WHAT IT READS IS OF BULK AT MOST 1048576: true; the input reads as it did. -/
def fnExactKroneckerSymbolUptoRow : OpenClaim := { program := "ytbiaokglmdmopaa", sum := "4a94643a498e2ecc4115cbda9d2172380a960e2dfc7979820dac4beec6f5cc2c", func := "loop.example/g01066/laws.FnExactKroneckerSymbol", spec := "fnExactKroneckerSymbol", apart := false, narrowed := true }
def FnExactKroneckerSymbolUptoSaid : Prop := fnExactKroneckerSymbolUptoRow.holds Try.pinned (OpenSpec.upto fnExactKroneckerSymbolSpec)

/-- 'laws.FnExactSymbolSum', WHERE WHAT IT READS IS OF BULK AT MOST 1048576: true; the input reads as it did. -/
def fnExactSymbolSumUptoRow : OpenClaim := { program := "ytbiaokglmdmopaa", sum := "4a94643a498e2ecc4115cbda9d2172380a960e2dfc7979820dac4beec6f5cc2c", func := "loop.example/g01066/laws.FnExactSymbolSum", spec := "fnExactSymbolSum", apart := false, narrowed := true }
def FnExactSymbolSumUptoSaid : Prop := fnExactSymbolSumUptoRow.holds Try.pinned (OpenSpec.upto fnExactSymbolSumSpec)

/-- 'laws.FnExactRootTower', WHERE WHAT IT READS IS OF BULK AT MOST 1048576: true; the input reads as it did. -/
def fnExactRootTowerUptoRow : OpenClaim := { program := "ytbiaokglmdmopaa", sum := "4a94643a498e2ecc4115cbda9d2172380a960e2dfc7979820dac4beec6f5cc2c", func := "loop.example/g01066/laws.FnExactRootTower", spec := "fnExactRootTower", apart := false, narrowed := true }
def FnExactRootTowerUptoSaid : Prop := fnExactRootTowerUptoRow.holds Try.pinned (OpenSpec.upto fnExactRootTowerSpec)

end Rows
end Go.Proofs.Ytbiaokglmdmopaa
