/-
  DERIVED. GIVEN WITH THE SEED: THE CARDS: each row of YtcjggpmnbcfedaaDoorRows.lean that lists a variable, with what it lists TIED to the program's text (the seventh form; the later family's looks); each row that meets fmt, with fmt's text TOLD by the authors' own Lean function (tested against real Go, not proved from fmt's source: count such statements apart). THE CARD IS WHAT COUNTS. Prove the row's statement (the work); the ties are given (YtcjggpmnbcfedaaDoorTie.lean); close each card by the builder's one call (the guide's Derived/Test/ToyasCard.lean, 'card_holds'). Laid BY PROGRAM, IN A SANDBOX (cutbox-door.mjs). By AI agents, Wed Nov 11 2026. No macro, syntax, notation, axiom, sorry.
-/
import Derived.Test.YtcjggpmnbcfedaaDoorRows
import GoSem.ClaimSeven
namespace Go.Proofs.YtcjggpmnbcfedaaDoor
namespace Rows

/-- THE TIED CARD OF 'typedholeslaw8.ShowLetters'. -/
def showLettersCard : Claim7 := { stood := { row := showLettersRow, standIns := [], harness := (true, "f5f1b41cfdd9e6283816ef014316a4844bdc0a5fa6e4237e3fdf19cdfdc81898"), looks := false }, kinds := [], alts := [], laidByText := true, laidKinds := [.data, .data, .data], laidTests := true, laidLooks := .later }
def ShowLettersCardSaid : Prop := Claim7.holds Tryd.pinned (.plain (OpenSpec.ofChange showLettersSpec)) showLettersCard

/-- THE TIED CARD OF 'typedholeslaw8.ShowExprs'. -/
def showExprsCard : Claim7 := { stood := { row := showExprsRow, standIns := [], harness := (true, "f5f1b41cfdd9e6283816ef014316a4844bdc0a5fa6e4237e3fdf19cdfdc81898"), looks := false }, kinds := [], alts := [], laidByText := true, laidKinds := [.data, .data, .data], laidTests := true, laidLooks := .later }
def ShowExprsCardSaid : Prop := Claim7.holds Tryd.pinned (.plain (OpenSpec.ofChange showExprsSpec)) showExprsCard

/-- THE TIED CARD OF 'typedholeslaw8.ShowReads'. -/
def showReadsCard : Claim7 := { stood := { row := showReadsRow, standIns := [], harness := (true, "f5f1b41cfdd9e6283816ef014316a4844bdc0a5fa6e4237e3fdf19cdfdc81898"), looks := false }, kinds := [], alts := [], laidByText := true, laidKinds := [.data, .data, .data], laidTests := true, laidLooks := .later }
def ShowReadsCardSaid : Prop := Claim7.holds Tryd.pinned (.plain (OpenSpec.ofChange showReadsSpec)) showReadsCard

/-- THE SECOND FORM's CARD OF 'typedholeslaw8.ShowLetters'. -/
def showLettersUptoCard : Claim7 := { stood := { row := showLettersUptoRow, standIns := [], harness := (true, "f5f1b41cfdd9e6283816ef014316a4844bdc0a5fa6e4237e3fdf19cdfdc81898"), looks := false }, kinds := [], alts := [], laidByText := true, laidKinds := [.data, .data, .data], laidTests := true, laidLooks := .later }
def ShowLettersUptoCardSaid : Prop := Claim7.holds Tryd.pinned (.plain (OpenSpec.upto showLettersSpec)) showLettersUptoCard

/-- THE SECOND FORM's CARD OF 'typedholeslaw8.ShowExprs'. -/
def showExprsUptoCard : Claim7 := { stood := { row := showExprsUptoRow, standIns := [], harness := (true, "f5f1b41cfdd9e6283816ef014316a4844bdc0a5fa6e4237e3fdf19cdfdc81898"), looks := false }, kinds := [], alts := [], laidByText := true, laidKinds := [.data, .data, .data], laidTests := true, laidLooks := .later }
def ShowExprsUptoCardSaid : Prop := Claim7.holds Tryd.pinned (.plain (OpenSpec.upto showExprsSpec)) showExprsUptoCard

/-- THE SECOND FORM's CARD OF 'typedholeslaw8.ShowReads'. -/
def showReadsUptoCard : Claim7 := { stood := { row := showReadsUptoRow, standIns := [], harness := (true, "f5f1b41cfdd9e6283816ef014316a4844bdc0a5fa6e4237e3fdf19cdfdc81898"), looks := false }, kinds := [], alts := [], laidByText := true, laidKinds := [.data, .data, .data], laidTests := true, laidLooks := .later }
def ShowReadsUptoCardSaid : Prop := Claim7.holds Tryd.pinned (.plain (OpenSpec.upto showReadsSpec)) showReadsUptoCard
end Rows
end Go.Proofs.YtcjggpmnbcfedaaDoor
