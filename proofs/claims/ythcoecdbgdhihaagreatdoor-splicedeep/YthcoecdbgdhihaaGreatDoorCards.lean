/-
  DERIVED. GIVEN WITH THE SEED: THE CARDS: each row of YthcoecdbgdhihaaGreatDoorRows.lean that lists a variable, with what it lists TIED to the program's text (the seventh form; the later family's looks); each row that meets fmt, with fmt's text TOLD by the authors' own Lean function (tested against real Go, not proved from fmt's source: count such statements apart). THE CARD IS WHAT COUNTS. Prove the row's statement (the work); the ties are given (YthcoecdbgdhihaaGreatDoorTie.lean); close each card by the builder's one call (the guide's Derived/Test/ToyasCard.lean, 'card_holds'). Laid BY PROGRAM, IN A SANDBOX (cutbox-door.mjs). By AI agents, Wed Nov 11 2026. No macro, syntax, notation, axiom, sorry.
-/
import Derived.Test.YthcoecdbgdhihaaGreatDoorRows
import GoSem.ClaimSeven
namespace Go.Proofs.YthcoecdbgdhihaaGreatDoor
namespace Rows

/-- THE TIED CARD OF 'typedholeslaw12.SpliceFinds'. -/
def spliceFindsCard : Claim7 := { stood := { row := spliceFindsRow, standIns := [], harness := (true, "23b6c8c2997ec42d0fc381b75d48f10eca6046a9ac4524bdd64eb9c928cf3469"), looks := false }, kinds := [], alts := [], laidByText := true, laidKinds := [.data, .data, .data], laidTests := true, laidLooks := .later }
def SpliceFindsCardSaid : Prop := Claim7.holds Tryz.pinned (.plain (OpenSpec.ofChange spliceFindsSpec)) spliceFindsCard

/-- THE TIED CARD OF 'typedholeslaw12.SpliceNames'. -/
def spliceNamesCard : Claim7 := { stood := { row := spliceNamesRow, standIns := [], harness := (true, "23b6c8c2997ec42d0fc381b75d48f10eca6046a9ac4524bdd64eb9c928cf3469"), looks := false }, kinds := [], alts := [], laidByText := true, laidKinds := [.data, .data, .data], laidTests := true, laidLooks := .later }
def SpliceNamesCardSaid : Prop := Claim7.holds Tryz.pinned (.plain (OpenSpec.ofChange spliceNamesSpec)) spliceNamesCard

/-- THE TIED CARD OF 'typedholeslaw12.SpliceDeep'. -/
def spliceDeepCard : Claim7 := { stood := { row := spliceDeepRow, standIns := [], harness := (true, "23b6c8c2997ec42d0fc381b75d48f10eca6046a9ac4524bdd64eb9c928cf3469"), looks := false }, kinds := [], alts := [], laidByText := true, laidKinds := [.data, .data, .data], laidTests := true, laidLooks := .later }
def SpliceDeepCardSaid : Prop := Claim7.holds Tryz.pinned (.plain (OpenSpec.ofChange spliceDeepSpec)) spliceDeepCard

/-- THE TIED CARD OF 'typedholeslaw12.SpliceCounts'. -/
def spliceCountsCard : Claim7 := { stood := { row := spliceCountsRow, standIns := [], harness := (true, "23b6c8c2997ec42d0fc381b75d48f10eca6046a9ac4524bdd64eb9c928cf3469"), looks := false }, kinds := [], alts := [], laidByText := true, laidKinds := [.data, .data, .data], laidTests := true, laidLooks := .later }
def SpliceCountsCardSaid : Prop := Claim7.holds Tryz.pinned (.plain (OpenSpec.ofChange spliceCountsSpec)) spliceCountsCard

/-- THE TIED CARD OF 'typedholeslaw12.SpliceOrder'. -/
def spliceOrderCard : Claim7 := { stood := { row := spliceOrderRow, standIns := [], harness := (true, "23b6c8c2997ec42d0fc381b75d48f10eca6046a9ac4524bdd64eb9c928cf3469"), looks := false }, kinds := [], alts := [], laidByText := true, laidKinds := [.data, .data, .data], laidTests := true, laidLooks := .later }
def SpliceOrderCardSaid : Prop := Claim7.holds Tryz.pinned (.plain (OpenSpec.ofChange spliceOrderSpec)) spliceOrderCard

/-- THE TIED CARD OF 'typedholeslaw12.SpliceFills'. -/
def spliceFillsCard : Claim7 := { stood := { row := spliceFillsRow, standIns := [], harness := (true, "23b6c8c2997ec42d0fc381b75d48f10eca6046a9ac4524bdd64eb9c928cf3469"), looks := false }, kinds := [], alts := [], laidByText := true, laidKinds := [.data, .data, .data], laidTests := true, laidLooks := .later }
def SpliceFillsCardSaid : Prop := Claim7.holds Tryz.pinned (.plain (OpenSpec.ofChange spliceFillsSpec)) spliceFillsCard

/-- THE SECOND FORM's CARD OF 'typedholeslaw12.SpliceFinds'. -/
def spliceFindsUptoCard : Claim7 := { stood := { row := spliceFindsUptoRow, standIns := [], harness := (true, "23b6c8c2997ec42d0fc381b75d48f10eca6046a9ac4524bdd64eb9c928cf3469"), looks := false }, kinds := [], alts := [], laidByText := true, laidKinds := [.data, .data, .data], laidTests := true, laidLooks := .later }
def SpliceFindsUptoCardSaid : Prop := Claim7.holds Tryz.pinned (.plain (OpenSpec.upto spliceFindsSpec)) spliceFindsUptoCard

/-- THE SECOND FORM's CARD OF 'typedholeslaw12.SpliceNames'. -/
def spliceNamesUptoCard : Claim7 := { stood := { row := spliceNamesUptoRow, standIns := [], harness := (true, "23b6c8c2997ec42d0fc381b75d48f10eca6046a9ac4524bdd64eb9c928cf3469"), looks := false }, kinds := [], alts := [], laidByText := true, laidKinds := [.data, .data, .data], laidTests := true, laidLooks := .later }
def SpliceNamesUptoCardSaid : Prop := Claim7.holds Tryz.pinned (.plain (OpenSpec.upto spliceNamesSpec)) spliceNamesUptoCard

/-- THE SECOND FORM's CARD OF 'typedholeslaw12.SpliceDeep'. -/
def spliceDeepUptoCard : Claim7 := { stood := { row := spliceDeepUptoRow, standIns := [], harness := (true, "23b6c8c2997ec42d0fc381b75d48f10eca6046a9ac4524bdd64eb9c928cf3469"), looks := false }, kinds := [], alts := [], laidByText := true, laidKinds := [.data, .data, .data], laidTests := true, laidLooks := .later }
def SpliceDeepUptoCardSaid : Prop := Claim7.holds Tryz.pinned (.plain (OpenSpec.upto spliceDeepSpec)) spliceDeepUptoCard

/-- THE SECOND FORM's CARD OF 'typedholeslaw12.SpliceCounts'. -/
def spliceCountsUptoCard : Claim7 := { stood := { row := spliceCountsUptoRow, standIns := [], harness := (true, "23b6c8c2997ec42d0fc381b75d48f10eca6046a9ac4524bdd64eb9c928cf3469"), looks := false }, kinds := [], alts := [], laidByText := true, laidKinds := [.data, .data, .data], laidTests := true, laidLooks := .later }
def SpliceCountsUptoCardSaid : Prop := Claim7.holds Tryz.pinned (.plain (OpenSpec.upto spliceCountsSpec)) spliceCountsUptoCard

/-- THE SECOND FORM's CARD OF 'typedholeslaw12.SpliceOrder'. -/
def spliceOrderUptoCard : Claim7 := { stood := { row := spliceOrderUptoRow, standIns := [], harness := (true, "23b6c8c2997ec42d0fc381b75d48f10eca6046a9ac4524bdd64eb9c928cf3469"), looks := false }, kinds := [], alts := [], laidByText := true, laidKinds := [.data, .data, .data], laidTests := true, laidLooks := .later }
def SpliceOrderUptoCardSaid : Prop := Claim7.holds Tryz.pinned (.plain (OpenSpec.upto spliceOrderSpec)) spliceOrderUptoCard

/-- THE SECOND FORM's CARD OF 'typedholeslaw12.SpliceFills'. -/
def spliceFillsUptoCard : Claim7 := { stood := { row := spliceFillsUptoRow, standIns := [], harness := (true, "23b6c8c2997ec42d0fc381b75d48f10eca6046a9ac4524bdd64eb9c928cf3469"), looks := false }, kinds := [], alts := [], laidByText := true, laidKinds := [.data, .data, .data], laidTests := true, laidLooks := .later }
def SpliceFillsUptoCardSaid : Prop := Claim7.holds Tryz.pinned (.plain (OpenSpec.upto spliceFillsSpec)) spliceFillsUptoCard
end Rows
end Go.Proofs.YthcoecdbgdhihaaGreatDoor
