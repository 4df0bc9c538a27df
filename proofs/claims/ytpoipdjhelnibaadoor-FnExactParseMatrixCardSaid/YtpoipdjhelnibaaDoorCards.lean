/-
  DERIVED. GIVEN WITH THE SEED: THE CARDS: each row of YtpoipdjhelnibaaDoorRows.lean that lists a variable, with what it lists TIED to the program's text (the seventh form; the later family's looks); each row that meets fmt, with fmt's text TOLD by the authors' own Lean function (tested against real Go, not proved from fmt's source: count such statements apart). THE CARD IS WHAT COUNTS. Prove the row's statement (the work); the ties are given (YtpoipdjhelnibaaDoorTie.lean); close each card by the builder's one call (the guide's Derived/Test/ToyasCard.lean, 'card_holds'). Laid BY PROGRAM, IN A SANDBOX (cutbox-door.mjs). By AI agents, Wed Nov 11 2026. No macro, syntax, notation, axiom, sorry.
-/
import Derived.Test.YtpoipdjhelnibaaDoorRows
import GoSem.ClaimSeven
namespace Go.Proofs.YtpoipdjhelnibaaDoor
namespace Rows

/-- THE TIED CARD OF 'laws.FnExactMatrixText'. -/
def fnExactMatrixTextCard : Claim7 := { stood := { row := fnExactMatrixTextRow, standIns := [], harness := (true, "c92cf746fecce6b37268d9ae1d9e78c1882605429f9ee01b9d2e7c4767c46b27"), looks := true }, kinds := [], alts := [], laidByText := true, laidKinds := [.data, .data, .data], laidTests := true, laidLooks := .later }
def FnExactMatrixTextCardSaid : Prop := Claim7.holds Tryd.pinned (.plain (OpenSpec.ofChange fnExactMatrixTextSpec)) fnExactMatrixTextCard

/-- THE TIED CARD OF 'laws.FnExactFormText'. -/
def fnExactFormTextCard : Claim7 := { stood := { row := fnExactFormTextRow, standIns := [], harness := (true, "c92cf746fecce6b37268d9ae1d9e78c1882605429f9ee01b9d2e7c4767c46b27"), looks := true }, kinds := [], alts := [], laidByText := true, laidKinds := [.data, .data, .data], laidTests := true, laidLooks := .later }
def FnExactFormTextCardSaid : Prop := Claim7.holds Tryd.pinned (.plain (OpenSpec.ofChange fnExactFormTextSpec)) fnExactFormTextCard

/-- THE TIED CARD OF 'laws.FnExactParseForm'. -/
def fnExactParseFormCard : Claim7 := { stood := { row := fnExactParseFormRow, standIns := [], harness := (true, "c92cf746fecce6b37268d9ae1d9e78c1882605429f9ee01b9d2e7c4767c46b27"), looks := true }, kinds := [], alts := [], laidByText := true, laidKinds := [.data, .data, .data, .sentinel, .sentinel], laidTests := true, laidLooks := .later }
def FnExactParseFormCardSaid : Prop := Claim7.holds Tryd.pinned (.plain (OpenSpec.ofChange fnExactParseFormSpec)) fnExactParseFormCard

/-- THE TIED CARD OF 'laws.FnExactParseMatrix'. -/
def fnExactParseMatrixCard : Claim7 := { stood := { row := fnExactParseMatrixRow, standIns := [], harness := (true, "c92cf746fecce6b37268d9ae1d9e78c1882605429f9ee01b9d2e7c4767c46b27"), looks := true }, kinds := [], alts := [], laidByText := true, laidKinds := [.data, .data, .data, .sentinel, .sentinel], laidTests := true, laidLooks := .later }
def FnExactParseMatrixCardSaid : Prop := Claim7.holds Tryd.pinned (.plain (OpenSpec.ofChange fnExactParseMatrixSpec)) fnExactParseMatrixCard

/-- THE SECOND FORM's CARD OF 'laws.FnExactMatrixText'. -/
def fnExactMatrixTextUptoCard : Claim7 := { stood := { row := fnExactMatrixTextUptoRow, standIns := [], harness := (true, "c92cf746fecce6b37268d9ae1d9e78c1882605429f9ee01b9d2e7c4767c46b27"), looks := true }, kinds := [], alts := [], laidByText := true, laidKinds := [.data, .data, .data], laidTests := true, laidLooks := .later }
def FnExactMatrixTextUptoCardSaid : Prop := Claim7.holds Tryd.pinned (.plain (OpenSpec.upto fnExactMatrixTextSpec)) fnExactMatrixTextUptoCard

/-- THE SECOND FORM's CARD OF 'laws.FnExactFormText'. -/
def fnExactFormTextUptoCard : Claim7 := { stood := { row := fnExactFormTextUptoRow, standIns := [], harness := (true, "c92cf746fecce6b37268d9ae1d9e78c1882605429f9ee01b9d2e7c4767c46b27"), looks := true }, kinds := [], alts := [], laidByText := true, laidKinds := [.data, .data, .data], laidTests := true, laidLooks := .later }
def FnExactFormTextUptoCardSaid : Prop := Claim7.holds Tryd.pinned (.plain (OpenSpec.upto fnExactFormTextSpec)) fnExactFormTextUptoCard

/-- THE SECOND FORM's CARD OF 'laws.FnExactParseForm'. -/
def fnExactParseFormUptoCard : Claim7 := { stood := { row := fnExactParseFormUptoRow, standIns := [], harness := (true, "c92cf746fecce6b37268d9ae1d9e78c1882605429f9ee01b9d2e7c4767c46b27"), looks := true }, kinds := [], alts := [], laidByText := true, laidKinds := [.data, .data, .data, .sentinel, .sentinel], laidTests := true, laidLooks := .later }
def FnExactParseFormUptoCardSaid : Prop := Claim7.holds Tryd.pinned (.plain (OpenSpec.upto fnExactParseFormSpec)) fnExactParseFormUptoCard

/-- THE SECOND FORM's CARD OF 'laws.FnExactParseMatrix'. -/
def fnExactParseMatrixUptoCard : Claim7 := { stood := { row := fnExactParseMatrixUptoRow, standIns := [], harness := (true, "c92cf746fecce6b37268d9ae1d9e78c1882605429f9ee01b9d2e7c4767c46b27"), looks := true }, kinds := [], alts := [], laidByText := true, laidKinds := [.data, .data, .data, .sentinel, .sentinel], laidTests := true, laidLooks := .later }
def FnExactParseMatrixUptoCardSaid : Prop := Claim7.holds Tryd.pinned (.plain (OpenSpec.upto fnExactParseMatrixSpec)) fnExactParseMatrixUptoCard
end Rows
end Go.Proofs.YtpoipdjhelnibaaDoor
