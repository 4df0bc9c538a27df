/-
  No cell of these rows narrows 'for every input' (looked for: loops, veiled, ifaces, maps, wideKeys, modest, calm, conditions, laid).
  DERIVED. THE GIVEN ROWS OF THIS SEAT. 12 by the template 'for every input the law returns true; each argument reads behind the call as it read before'; 0 by the template 'total and deterministic' (their statements: YtbhamnkhkbmidaaTotals.lean).
  GIVEN WITH THE SEED: the statements are not yours to turn. If you find one false, say at which input.
  Laid BY PROGRAM, IN A SANDBOX (cutbox-rows.mjs): the forced cells as the released guide's own fill.sh prints them over the translation 0ce355c2e46b3967… (all of the seat's roots in one cut). By AI agents, Wed Nov 11 2026. No macro, syntax, notation, axiom, sorry.
-/
import Derived.Test.YtbhamnkhkbmidaaChecked
import GoSem.Claim
import GoSem.ClaimJoined
import GoSem.ClaimMapViews
import Derived.JoinedTies
import Derived.KernelRfl
namespace Go.Proofs.Ytbhamnkhkbmidaa
/- THE CELL 'sum', in the pinned program and in every row, IS THE sha256 OF THE DUMP (.gsa) THAT YtbhamnkhkbmidaaProg.lean LOADS. Nothing in Lean hashes anything: it is a label: what it is worth is what the hold of that sum in a sandbox is worth. -/
noncomputable def Try.pinned : Pinned := { name := "ytbhamnkhkbmidaa", sum := "0ce355c2e46b396748a9f9098657afce27f8c36a44dc67b1e9839ce76d461fc1", checked := Try.checked }
namespace Rows
def none {H : Type} : Left H := { results := [], args := [] }

/-- 'laws.FnExactConstants': WHATEVER THE INPUT: true; the input reads as it did. -/
def fnExactConstantsSpec : ChangeSpec := { name := "fnExactConstants", fn := fun _ => fun
  | [] => { results := [.lit (.bool true)], args := [] }
  | _ => none }
def fnExactConstantsRow : OpenClaim := { program := "ytbhamnkhkbmidaa", sum := "0ce355c2e46b396748a9f9098657afce27f8c36a44dc67b1e9839ce76d461fc1", func := "loop.example/g01066/laws.FnExactConstants", spec := "fnExactConstants", apart := false }
def FnExactConstantsSaid : Prop := fnExactConstantsRow.holds Try.pinned (OpenSpec.ofChange fnExactConstantsSpec)

/-- ITS FALSE NEIGHBOUR: 'it returns false'. Refute it at one input. -/
def fnExactConstantsWrong : ChangeSpec := { name := "fnExactConstants", fn := fun _ => fun
  | [] => { results := [.lit (.bool false)], args := [] }
  | _ => none }
def FnExactConstantsWrongFalsely : Prop := fnExactConstantsRow.holds Try.pinned (OpenSpec.ofChange fnExactConstantsWrong)

/-- 'laws.FnExactIsNumber': WHATEVER THE INPUT: true; the input reads as it did. -/
def fnExactIsNumberSpec : ChangeSpec := { name := "fnExactIsNumber", fn := fun _ => fun
  | [d] => { results := [.lit (.bool true)], args := [d] }
  | _ => none }
def fnExactIsNumberRow : OpenClaim := { program := "ytbhamnkhkbmidaa", sum := "0ce355c2e46b396748a9f9098657afce27f8c36a44dc67b1e9839ce76d461fc1", func := "loop.example/g01066/laws.FnExactIsNumber", spec := "fnExactIsNumber", apart := false }
def FnExactIsNumberSaid : Prop := fnExactIsNumberRow.holds Try.pinned (OpenSpec.ofChange fnExactIsNumberSpec)

/-- ITS FALSE NEIGHBOUR: 'it returns false'. Refute it at one input. -/
def fnExactIsNumberWrong : ChangeSpec := { name := "fnExactIsNumber", fn := fun _ => fun
  | [d] => { results := [.lit (.bool false)], args := [d] }
  | _ => none }
def FnExactIsNumberWrongFalsely : Prop := fnExactIsNumberRow.holds Try.pinned (OpenSpec.ofChange fnExactIsNumberWrong)

/-- 'laws.FnExactIsForm': WHATEVER THE INPUT: true; the input reads as it did. -/
def fnExactIsFormSpec : ChangeSpec := { name := "fnExactIsForm", fn := fun _ => fun
  | [d] => { results := [.lit (.bool true)], args := [d] }
  | _ => none }
def fnExactIsFormRow : OpenClaim := { program := "ytbhamnkhkbmidaa", sum := "0ce355c2e46b396748a9f9098657afce27f8c36a44dc67b1e9839ce76d461fc1", func := "loop.example/g01066/laws.FnExactIsForm", spec := "fnExactIsForm", apart := false }
def FnExactIsFormSaid : Prop := fnExactIsFormRow.holds Try.pinned (OpenSpec.ofChange fnExactIsFormSpec)

/-- ITS FALSE NEIGHBOUR: 'it returns false'. Refute it at one input. -/
def fnExactIsFormWrong : ChangeSpec := { name := "fnExactIsForm", fn := fun _ => fun
  | [d] => { results := [.lit (.bool false)], args := [d] }
  | _ => none }
def FnExactIsFormWrongFalsely : Prop := fnExactIsFormRow.holds Try.pinned (OpenSpec.ofChange fnExactIsFormWrong)

/-- 'laws.FnExactIsMatrix': WHATEVER THE INPUT: true; the input reads as it did. -/
def fnExactIsMatrixSpec : ChangeSpec := { name := "fnExactIsMatrix", fn := fun _ => fun
  | [d] => { results := [.lit (.bool true)], args := [d] }
  | _ => none }
def fnExactIsMatrixRow : OpenClaim := { program := "ytbhamnkhkbmidaa", sum := "0ce355c2e46b396748a9f9098657afce27f8c36a44dc67b1e9839ce76d461fc1", func := "loop.example/g01066/laws.FnExactIsMatrix", spec := "fnExactIsMatrix", apart := false }
def FnExactIsMatrixSaid : Prop := fnExactIsMatrixRow.holds Try.pinned (OpenSpec.ofChange fnExactIsMatrixSpec)

/-- ITS FALSE NEIGHBOUR: 'it returns false'. Refute it at one input. -/
def fnExactIsMatrixWrong : ChangeSpec := { name := "fnExactIsMatrix", fn := fun _ => fun
  | [d] => { results := [.lit (.bool false)], args := [d] }
  | _ => none }
def FnExactIsMatrixWrongFalsely : Prop := fnExactIsMatrixRow.holds Try.pinned (OpenSpec.ofChange fnExactIsMatrixWrong)

/-- 'laws.FnExactIsDefinite': WHATEVER THE INPUT: true; the input reads as it did. -/
def fnExactIsDefiniteSpec : ChangeSpec := { name := "fnExactIsDefinite", fn := fun _ => fun
  | [d] => { results := [.lit (.bool true)], args := [d] }
  | _ => none }
def fnExactIsDefiniteRow : OpenClaim := { program := "ytbhamnkhkbmidaa", sum := "0ce355c2e46b396748a9f9098657afce27f8c36a44dc67b1e9839ce76d461fc1", func := "loop.example/g01066/laws.FnExactIsDefinite", spec := "fnExactIsDefinite", apart := false }
def FnExactIsDefiniteSaid : Prop := fnExactIsDefiniteRow.holds Try.pinned (OpenSpec.ofChange fnExactIsDefiniteSpec)

/-- ITS FALSE NEIGHBOUR: 'it returns false'. Refute it at one input. -/
def fnExactIsDefiniteWrong : ChangeSpec := { name := "fnExactIsDefinite", fn := fun _ => fun
  | [d] => { results := [.lit (.bool false)], args := [d] }
  | _ => none }
def FnExactIsDefiniteWrongFalsely : Prop := fnExactIsDefiniteRow.holds Try.pinned (OpenSpec.ofChange fnExactIsDefiniteWrong)

/-- 'laws.FnExactDiscriminant': WHATEVER THE INPUT: true; the input reads as it did. -/
def fnExactDiscriminantSpec : ChangeSpec := { name := "fnExactDiscriminant", fn := fun _ => fun
  | [d] => { results := [.lit (.bool true)], args := [d] }
  | _ => none }
def fnExactDiscriminantRow : OpenClaim := { program := "ytbhamnkhkbmidaa", sum := "0ce355c2e46b396748a9f9098657afce27f8c36a44dc67b1e9839ce76d461fc1", func := "loop.example/g01066/laws.FnExactDiscriminant", spec := "fnExactDiscriminant", apart := false }
def FnExactDiscriminantSaid : Prop := fnExactDiscriminantRow.holds Try.pinned (OpenSpec.ofChange fnExactDiscriminantSpec)

/-- ITS FALSE NEIGHBOUR: 'it returns false'. Refute it at one input. -/
def fnExactDiscriminantWrong : ChangeSpec := { name := "fnExactDiscriminant", fn := fun _ => fun
  | [d] => { results := [.lit (.bool false)], args := [d] }
  | _ => none }
def FnExactDiscriminantWrongFalsely : Prop := fnExactDiscriminantRow.holds Try.pinned (OpenSpec.ofChange fnExactDiscriminantWrong)

/-- 'laws.FnExactPolarAt': WHATEVER THE INPUT: true; the input reads as it did. -/
def fnExactPolarAtSpec : ChangeSpec := { name := "fnExactPolarAt", fn := fun _ => fun
  | [d1, d2, d3, d4, d5] => { results := [.lit (.bool true)], args := [d1, d2, d3, d4, d5] }
  | _ => none }
def fnExactPolarAtRow : OpenClaim := { program := "ytbhamnkhkbmidaa", sum := "0ce355c2e46b396748a9f9098657afce27f8c36a44dc67b1e9839ce76d461fc1", func := "loop.example/g01066/laws.FnExactPolarAt", spec := "fnExactPolarAt", apart := false }
def FnExactPolarAtSaid : Prop := fnExactPolarAtRow.holds Try.pinned (OpenSpec.ofChange fnExactPolarAtSpec)

/-- ITS FALSE NEIGHBOUR: 'it returns false'. Refute it at one input. -/
def fnExactPolarAtWrong : ChangeSpec := { name := "fnExactPolarAt", fn := fun _ => fun
  | [d1, d2, d3, d4, d5] => { results := [.lit (.bool false)], args := [d1, d2, d3, d4, d5] }
  | _ => none }
def FnExactPolarAtWrongFalsely : Prop := fnExactPolarAtRow.holds Try.pinned (OpenSpec.ofChange fnExactPolarAtWrong)

/-- 'laws.FnExactValueAt': WHATEVER THE INPUT: true; the input reads as it did. -/
def fnExactValueAtSpec : ChangeSpec := { name := "fnExactValueAt", fn := fun _ => fun
  | [d1, d2, d3] => { results := [.lit (.bool true)], args := [d1, d2, d3] }
  | _ => none }
def fnExactValueAtRow : OpenClaim := { program := "ytbhamnkhkbmidaa", sum := "0ce355c2e46b396748a9f9098657afce27f8c36a44dc67b1e9839ce76d461fc1", func := "loop.example/g01066/laws.FnExactValueAt", spec := "fnExactValueAt", apart := false }
def FnExactValueAtSaid : Prop := fnExactValueAtRow.holds Try.pinned (OpenSpec.ofChange fnExactValueAtSpec)

/-- ITS FALSE NEIGHBOUR: 'it returns false'. Refute it at one input. -/
def fnExactValueAtWrong : ChangeSpec := { name := "fnExactValueAt", fn := fun _ => fun
  | [d1, d2, d3] => { results := [.lit (.bool false)], args := [d1, d2, d3] }
  | _ => none }
def FnExactValueAtWrongFalsely : Prop := fnExactValueAtRow.holds Try.pinned (OpenSpec.ofChange fnExactValueAtWrong)

/-- 'laws.FnExactDeterminant': WHATEVER THE INPUT: true; the input reads as it did. -/
def fnExactDeterminantSpec : ChangeSpec := { name := "fnExactDeterminant", fn := fun _ => fun
  | [d] => { results := [.lit (.bool true)], args := [d] }
  | _ => none }
def fnExactDeterminantRow : OpenClaim := { program := "ytbhamnkhkbmidaa", sum := "0ce355c2e46b396748a9f9098657afce27f8c36a44dc67b1e9839ce76d461fc1", func := "loop.example/g01066/laws.FnExactDeterminant", spec := "fnExactDeterminant", apart := false }
def FnExactDeterminantSaid : Prop := fnExactDeterminantRow.holds Try.pinned (OpenSpec.ofChange fnExactDeterminantSpec)

/-- ITS FALSE NEIGHBOUR: 'it returns false'. Refute it at one input. -/
def fnExactDeterminantWrong : ChangeSpec := { name := "fnExactDeterminant", fn := fun _ => fun
  | [d] => { results := [.lit (.bool false)], args := [d] }
  | _ => none }
def FnExactDeterminantWrongFalsely : Prop := fnExactDeterminantRow.holds Try.pinned (OpenSpec.ofChange fnExactDeterminantWrong)

/-- 'laws.FnExactOppositeForm': WHATEVER THE INPUT: true; the input reads as it did. -/
def fnExactOppositeFormSpec : ChangeSpec := { name := "fnExactOppositeForm", fn := fun _ => fun
  | [d] => { results := [.lit (.bool true)], args := [d] }
  | _ => none }
def fnExactOppositeFormRow : OpenClaim := { program := "ytbhamnkhkbmidaa", sum := "0ce355c2e46b396748a9f9098657afce27f8c36a44dc67b1e9839ce76d461fc1", func := "loop.example/g01066/laws.FnExactOppositeForm", spec := "fnExactOppositeForm", apart := false }
def FnExactOppositeFormSaid : Prop := fnExactOppositeFormRow.holds Try.pinned (OpenSpec.ofChange fnExactOppositeFormSpec)

/-- ITS FALSE NEIGHBOUR: 'it returns false'. Refute it at one input. -/
def fnExactOppositeFormWrong : ChangeSpec := { name := "fnExactOppositeForm", fn := fun _ => fun
  | [d] => { results := [.lit (.bool false)], args := [d] }
  | _ => none }
def FnExactOppositeFormWrongFalsely : Prop := fnExactOppositeFormRow.holds Try.pinned (OpenSpec.ofChange fnExactOppositeFormWrong)

/-- 'laws.FnExactMatrixInverse': WHATEVER THE INPUT: true; the input reads as it did. -/
def fnExactMatrixInverseSpec : ChangeSpec := { name := "fnExactMatrixInverse", fn := fun _ => fun
  | [d] => { results := [.lit (.bool true)], args := [d] }
  | _ => none }
def fnExactMatrixInverseRow : OpenClaim := { program := "ytbhamnkhkbmidaa", sum := "0ce355c2e46b396748a9f9098657afce27f8c36a44dc67b1e9839ce76d461fc1", func := "loop.example/g01066/laws.FnExactMatrixInverse", spec := "fnExactMatrixInverse", apart := false }
def FnExactMatrixInverseSaid : Prop := fnExactMatrixInverseRow.holds Try.pinned (OpenSpec.ofChange fnExactMatrixInverseSpec)

/-- ITS FALSE NEIGHBOUR: 'it returns false'. Refute it at one input. -/
def fnExactMatrixInverseWrong : ChangeSpec := { name := "fnExactMatrixInverse", fn := fun _ => fun
  | [d] => { results := [.lit (.bool false)], args := [d] }
  | _ => none }
def FnExactMatrixInverseWrongFalsely : Prop := fnExactMatrixInverseRow.holds Try.pinned (OpenSpec.ofChange fnExactMatrixInverseWrong)

/-- 'laws.FnExactSubstitute': WHATEVER THE INPUT: true; the input reads as it did. -/
def fnExactSubstituteSpec : ChangeSpec := { name := "fnExactSubstitute", fn := fun _ => fun
  | [d1, d2] => { results := [.lit (.bool true)], args := [d1, d2] }
  | _ => none }
def fnExactSubstituteRow : OpenClaim := { program := "ytbhamnkhkbmidaa", sum := "0ce355c2e46b396748a9f9098657afce27f8c36a44dc67b1e9839ce76d461fc1", func := "loop.example/g01066/laws.FnExactSubstitute", spec := "fnExactSubstitute", apart := false }
def FnExactSubstituteSaid : Prop := fnExactSubstituteRow.holds Try.pinned (OpenSpec.ofChange fnExactSubstituteSpec)

/-- ITS FALSE NEIGHBOUR: 'it returns false'. Refute it at one input. -/
def fnExactSubstituteWrong : ChangeSpec := { name := "fnExactSubstitute", fn := fun _ => fun
  | [d1, d2] => { results := [.lit (.bool false)], args := [d1, d2] }
  | _ => none }
def FnExactSubstituteWrongFalsely : Prop := fnExactSubstituteRow.holds Try.pinned (OpenSpec.ofChange fnExactSubstituteWrong)

/- THE SECOND FORM. 'bulk': how many values and letters a reading holds, each counted each time it is reached (what is shared counts as often as it is met; a slice's spare places count too). A statement '..UptoSaid' is the law's where the arguments, and the package variables that the reading takes, are together of bulk at most 1048576: NARROWER than '..Said'. Prove '..Said' where nothing that the law and all that it calls make is longer than what came in: it says more and counts as full. Else prove '..UptoSaid'. A law counts once. -/
mutual
def uptoBulk {H : Type} : DataW H → Nat
  | .lit (.string bytes) => bytes.length + 1
  | .lit _ => 1
  | .nil => 1
  | .ptr d => uptoBulk d + 1
  | .slice elems spare => uptoBulkAll elems + uptoBulkAll spare + 1
  | .agg parts => uptoBulkAll parts + 1
  | .iface _ d => uptoBulk d + 1
  | .map entries => uptoBulkEntries entries + 1
  | .held _ => 1
def uptoBulkAll {H : Type} : List (DataW H) → Nat
  | [] => 0
  | d :: r => uptoBulk d + uptoBulkAll r
def uptoBulkEntries {H : Type} : List (Lit × DataW H) → Nat
  | [] => 0
  | x :: r => uptoBulkEntry x + uptoBulkEntries r
def uptoBulkEntry {H : Type} : Lit × DataW H → Nat
  | (.string bytes, d) => bytes.length + uptoBulk d + 1
  | (_, d) => uptoBulk d + 1
 end
def uptoSmall : (H : Type) → List (DataW H) → Bool := fun _ ds => decide (uptoBulkAll ds ≤ 1048576)
def OpenSpec.upto (s : _root_.Go.ChangeSpec) : _root_.Go.OpenSpec := { _root_.Go.OpenSpec.ofChange s with cond := some uptoSmall }

/-- 'laws.FnExactConstants', WHERE WHAT IT READS IS OF BULK AT MOST 1048576: true; the input reads as it did. -/
def fnExactConstantsUptoRow : OpenClaim := { program := "ytbhamnkhkbmidaa", sum := "0ce355c2e46b396748a9f9098657afce27f8c36a44dc67b1e9839ce76d461fc1", func := "loop.example/g01066/laws.FnExactConstants", spec := "fnExactConstants", apart := false, narrowed := true }
def FnExactConstantsUptoSaid : Prop := fnExactConstantsUptoRow.holds Try.pinned (OpenSpec.upto fnExactConstantsSpec)

/-- 'laws.FnExactIsNumber', WHERE WHAT IT READS IS OF BULK AT MOST 1048576: true; the input reads as it did. -/
def fnExactIsNumberUptoRow : OpenClaim := { program := "ytbhamnkhkbmidaa", sum := "0ce355c2e46b396748a9f9098657afce27f8c36a44dc67b1e9839ce76d461fc1", func := "loop.example/g01066/laws.FnExactIsNumber", spec := "fnExactIsNumber", apart := false, narrowed := true }
def FnExactIsNumberUptoSaid : Prop := fnExactIsNumberUptoRow.holds Try.pinned (OpenSpec.upto fnExactIsNumberSpec)

/-- 'laws.FnExactIsForm', WHERE WHAT IT READS IS OF BULK AT MOST 1048576: true; the input reads as it did. -/
def fnExactIsFormUptoRow : OpenClaim := { program := "ytbhamnkhkbmidaa", sum := "0ce355c2e46b396748a9f9098657afce27f8c36a44dc67b1e9839ce76d461fc1", func := "loop.example/g01066/laws.FnExactIsForm", spec := "fnExactIsForm", apart := false, narrowed := true }
def FnExactIsFormUptoSaid : Prop := fnExactIsFormUptoRow.holds Try.pinned (OpenSpec.upto fnExactIsFormSpec)

/-- 'laws.FnExactIsMatrix', WHERE WHAT IT READS IS OF BULK AT MOST 1048576: true; the input reads as it did. -/
def fnExactIsMatrixUptoRow : OpenClaim := { program := "ytbhamnkhkbmidaa", sum := "0ce355c2e46b396748a9f9098657afce27f8c36a44dc67b1e9839ce76d461fc1", func := "loop.example/g01066/laws.FnExactIsMatrix", spec := "fnExactIsMatrix", apart := false, narrowed := true }
def FnExactIsMatrixUptoSaid : Prop := fnExactIsMatrixUptoRow.holds Try.pinned (OpenSpec.upto fnExactIsMatrixSpec)

/-- 'laws.FnExactIsDefinite', WHERE WHAT IT READS IS OF BULK AT MOST 1048576: true; the input reads as it did. -/
def fnExactIsDefiniteUptoRow : OpenClaim := { program := "ytbhamnkhkbmidaa", sum := "0ce355c2e46b396748a9f9098657afce27f8c36a44dc67b1e9839ce76d461fc1", func := "loop.example/g01066/laws.FnExactIsDefinite", spec := "fnExactIsDefinite", apart := false, narrowed := true }
def FnExactIsDefiniteUptoSaid : Prop := fnExactIsDefiniteUptoRow.holds Try.pinned (OpenSpec.upto fnExactIsDefiniteSpec)

/-- 'laws.FnExactDiscriminant', WHERE WHAT IT READS IS OF BULK AT MOST 1048576: true; the input reads as it did. -/
def fnExactDiscriminantUptoRow : OpenClaim := { program := "ytbhamnkhkbmidaa", sum := "0ce355c2e46b396748a9f9098657afce27f8c36a44dc67b1e9839ce76d461fc1", func := "loop.example/g01066/laws.FnExactDiscriminant", spec := "fnExactDiscriminant", apart := false, narrowed := true }
def FnExactDiscriminantUptoSaid : Prop := fnExactDiscriminantUptoRow.holds Try.pinned (OpenSpec.upto fnExactDiscriminantSpec)

/-- 'laws.FnExactPolarAt', WHERE WHAT IT READS IS OF BULK AT MOST 1048576: true; the input reads as it did. -/
def fnExactPolarAtUptoRow : OpenClaim := { program := "ytbhamnkhkbmidaa", sum := "0ce355c2e46b396748a9f9098657afce27f8c36a44dc67b1e9839ce76d461fc1", func := "loop.example/g01066/laws.FnExactPolarAt", spec := "fnExactPolarAt", apart := false, narrowed := true }
def FnExactPolarAtUptoSaid : Prop := fnExactPolarAtUptoRow.holds Try.pinned (OpenSpec.upto fnExactPolarAtSpec)

/-- 'laws.FnExactValueAt', WHERE WHAT IT READS IS OF BULK AT MOST 1048576: true; the input reads as it did. -/
def fnExactValueAtUptoRow : OpenClaim := { program := "ytbhamnkhkbmidaa", sum := "0ce355c2e46b396748a9f9098657afce27f8c36a44dc67b1e9839ce76d461fc1", func := "loop.example/g01066/laws.FnExactValueAt", spec := "fnExactValueAt", apart := false, narrowed := true }
def FnExactValueAtUptoSaid : Prop := fnExactValueAtUptoRow.holds Try.pinned (OpenSpec.upto fnExactValueAtSpec)

/-- 'laws.FnExactDeterminant', WHERE WHAT IT READS IS OF BULK AT MOST 1048576: true; the input reads as it did. -/
def fnExactDeterminantUptoRow : OpenClaim := { program := "ytbhamnkhkbmidaa", sum := "0ce355c2e46b396748a9f9098657afce27f8c36a44dc67b1e9839ce76d461fc1", func := "loop.example/g01066/laws.FnExactDeterminant", spec := "fnExactDeterminant", apart := false, narrowed := true }
def FnExactDeterminantUptoSaid : Prop := fnExactDeterminantUptoRow.holds Try.pinned (OpenSpec.upto fnExactDeterminantSpec)

/-- 'laws.FnExactOppositeForm', WHERE WHAT IT READS IS OF BULK AT MOST 1048576: true; the input reads as it did. -/
def fnExactOppositeFormUptoRow : OpenClaim := { program := "ytbhamnkhkbmidaa", sum := "0ce355c2e46b396748a9f9098657afce27f8c36a44dc67b1e9839ce76d461fc1", func := "loop.example/g01066/laws.FnExactOppositeForm", spec := "fnExactOppositeForm", apart := false, narrowed := true }
def FnExactOppositeFormUptoSaid : Prop := fnExactOppositeFormUptoRow.holds Try.pinned (OpenSpec.upto fnExactOppositeFormSpec)

/-- 'laws.FnExactMatrixInverse', WHERE WHAT IT READS IS OF BULK AT MOST 1048576: true; the input reads as it did. -/
def fnExactMatrixInverseUptoRow : OpenClaim := { program := "ytbhamnkhkbmidaa", sum := "0ce355c2e46b396748a9f9098657afce27f8c36a44dc67b1e9839ce76d461fc1", func := "loop.example/g01066/laws.FnExactMatrixInverse", spec := "fnExactMatrixInverse", apart := false, narrowed := true }
def FnExactMatrixInverseUptoSaid : Prop := fnExactMatrixInverseUptoRow.holds Try.pinned (OpenSpec.upto fnExactMatrixInverseSpec)

/-- 'laws.FnExactSubstitute', WHERE WHAT IT READS IS OF BULK AT MOST 1048576: true; the input reads as it did. -/
def fnExactSubstituteUptoRow : OpenClaim := { program := "ytbhamnkhkbmidaa", sum := "0ce355c2e46b396748a9f9098657afce27f8c36a44dc67b1e9839ce76d461fc1", func := "loop.example/g01066/laws.FnExactSubstitute", spec := "fnExactSubstitute", apart := false, narrowed := true }
def FnExactSubstituteUptoSaid : Prop := fnExactSubstituteUptoRow.holds Try.pinned (OpenSpec.upto fnExactSubstituteSpec)

end Rows
end Go.Proofs.Ytbhamnkhkbmidaa
