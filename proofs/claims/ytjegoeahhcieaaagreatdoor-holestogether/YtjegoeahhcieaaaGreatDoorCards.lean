/-
  DERIVED. GIVEN WITH THE SEED: THE CARDS: each row of YtjegoeahhcieaaaGreatDoorRows.lean that lists a variable, with what it lists TIED to the program's text (the seventh form; the later family's looks); each row that meets fmt, with fmt's text TOLD by the authors' own Lean function (tested against real Go, not proved from fmt's source: count such statements apart). THE CARD IS WHAT COUNTS. Prove the row's statement (the work); the ties are given (YtjegoeahhcieaaaGreatDoorTie.lean); close each card by the builder's one call (the guide's Derived/Test/ToyasCard.lean, 'card_holds'). Laid BY PROGRAM, IN A SANDBOX (cutbox-door.mjs). By AI agents, Wed Nov 11 2026. No macro, syntax, notation, axiom, sorry.
-/
import Derived.Test.YtjegoeahhcieaaaGreatDoorRows
import GoSem.ClaimSeven
namespace Go.Proofs.YtjegoeahhcieaaaGreatDoor
namespace Rows

/-- THE TIED CARD OF 'typedholeslaw24.HolesTogether'. -/
def holesTogetherCard : Claim7 := { stood := { row := holesTogetherRow, standIns := [], harness := (true, "9d9fdff8a986b3e5696ce169d5655fa570744df030cd882f9a7b002d48ac5336"), looks := false }, kinds := [], alts := [], laidByText := true, laidKinds := [.data, .data, .data], laidTests := true, laidLooks := .later }
def HolesTogetherCardSaid : Prop := Claim7.holds Tryz.pinned (.plain (OpenSpec.ofChange holesTogetherSpec)) holesTogetherCard

/-- THE TIED CARD OF 'typedholeslaw24.HolesOwn'. -/
def holesOwnCard : Claim7 := { stood := { row := holesOwnRow, standIns := [], harness := (true, "9d9fdff8a986b3e5696ce169d5655fa570744df030cd882f9a7b002d48ac5336"), looks := false }, kinds := [], alts := [], laidByText := true, laidKinds := [.data, .data, .data], laidTests := true, laidLooks := .later }
def HolesOwnCardSaid : Prop := Claim7.holds Tryz.pinned (.plain (OpenSpec.ofChange holesOwnSpec)) holesOwnCard

/-- THE TIED CARD OF 'typedholeslaw24.HolesFreeze'. -/
def holesFreezeCard : Claim7 := { stood := { row := holesFreezeRow, standIns := [], harness := (true, "9d9fdff8a986b3e5696ce169d5655fa570744df030cd882f9a7b002d48ac5336"), looks := false }, kinds := [], alts := [], laidByText := true, laidKinds := [.data, .data, .data], laidTests := true, laidLooks := .later }
def HolesFreezeCardSaid : Prop := Claim7.holds Tryz.pinned (.plain (OpenSpec.ofChange holesFreezeSpec)) holesFreezeCard

/-- THE SECOND FORM's CARD OF 'typedholeslaw24.HolesTogether'. -/
def holesTogetherUptoCard : Claim7 := { stood := { row := holesTogetherUptoRow, standIns := [], harness := (true, "9d9fdff8a986b3e5696ce169d5655fa570744df030cd882f9a7b002d48ac5336"), looks := false }, kinds := [], alts := [], laidByText := true, laidKinds := [.data, .data, .data], laidTests := true, laidLooks := .later }
def HolesTogetherUptoCardSaid : Prop := Claim7.holds Tryz.pinned (.plain (OpenSpec.upto holesTogetherSpec)) holesTogetherUptoCard

/-- THE SECOND FORM's CARD OF 'typedholeslaw24.HolesOwn'. -/
def holesOwnUptoCard : Claim7 := { stood := { row := holesOwnUptoRow, standIns := [], harness := (true, "9d9fdff8a986b3e5696ce169d5655fa570744df030cd882f9a7b002d48ac5336"), looks := false }, kinds := [], alts := [], laidByText := true, laidKinds := [.data, .data, .data], laidTests := true, laidLooks := .later }
def HolesOwnUptoCardSaid : Prop := Claim7.holds Tryz.pinned (.plain (OpenSpec.upto holesOwnSpec)) holesOwnUptoCard

/-- THE SECOND FORM's CARD OF 'typedholeslaw24.HolesFreeze'. -/
def holesFreezeUptoCard : Claim7 := { stood := { row := holesFreezeUptoRow, standIns := [], harness := (true, "9d9fdff8a986b3e5696ce169d5655fa570744df030cd882f9a7b002d48ac5336"), looks := false }, kinds := [], alts := [], laidByText := true, laidKinds := [.data, .data, .data], laidTests := true, laidLooks := .later }
def HolesFreezeUptoCardSaid : Prop := Claim7.holds Tryz.pinned (.plain (OpenSpec.upto holesFreezeSpec)) holesFreezeUptoCard
end Rows
end Go.Proofs.YtjegoeahhcieaaaGreatDoor
