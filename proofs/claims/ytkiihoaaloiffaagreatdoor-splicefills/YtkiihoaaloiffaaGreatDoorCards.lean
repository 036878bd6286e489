/-
  DERIVED. GIVEN WITH THE SEED: THE CARDS: each row of YtkiihoaaloiffaaGreatDoorRows.lean that lists a variable, with what it lists TIED to the program's text (the seventh form; the later family's looks); each row that meets fmt, with fmt's text TOLD by the authors' own Lean function (tested against real Go, not proved from fmt's source: count such statements apart). THE CARD IS WHAT COUNTS. Prove the row's statement (the work); the ties are given (YtkiihoaaloiffaaGreatDoorTie.lean); close each card by the builder's one call (the guide's Derived/Test/ToyasCard.lean, 'card_holds'). Laid BY PROGRAM, IN A SANDBOX (cutbox-door.mjs). By AI agents, Wed Nov 11 2026. No macro, syntax, notation, axiom, sorry.
-/
import Derived.Test.YtkiihoaaloiffaaGreatDoorRows
import GoSem.ClaimSeven
namespace Go.Proofs.YtkiihoaaloiffaaGreatDoor
namespace Rows

/-- THE TIED CARD OF 'typedholeslaw12.SpliceFills'. -/
def spliceFillsCard : Claim7 := { stood := { row := spliceFillsRow, standIns := [], harness := (true, "752cdd119fa928281e46e86c3b3675afd0286d6614c85d8929209b6e8b9fd62d"), looks := false }, kinds := [], alts := [], laidByText := true, laidKinds := [.data, .data, .data], laidTests := true, laidLooks := .later }
def SpliceFillsCardSaid : Prop := Claim7.holds Tryz.pinned (.plain (OpenSpec.ofChange spliceFillsSpec)) spliceFillsCard

/-- THE SECOND FORM's CARD OF 'typedholeslaw12.SpliceFills'. -/
def spliceFillsUptoCard : Claim7 := { stood := { row := spliceFillsUptoRow, standIns := [], harness := (true, "752cdd119fa928281e46e86c3b3675afd0286d6614c85d8929209b6e8b9fd62d"), looks := false }, kinds := [], alts := [], laidByText := true, laidKinds := [.data, .data, .data], laidTests := true, laidLooks := .later }
def SpliceFillsUptoCardSaid : Prop := Claim7.holds Tryz.pinned (.plain (OpenSpec.upto spliceFillsSpec)) spliceFillsUptoCard
end Rows
end Go.Proofs.YtkiihoaaloiffaaGreatDoor
