/-
  DERIVED. GIVEN WITH THE SEED: THE CARDS: each row of YtcacembpegoghaaDoorRows.lean that lists a variable, with what it lists TIED to the program's text (the seventh form; the later family's looks); each row that meets fmt, with fmt's text TOLD by the authors' own Lean function (tested against real Go, not proved from fmt's source: count such statements apart). THE CARD IS WHAT COUNTS. Prove the row's statement (the work); the ties are given (YtcacembpegoghaaDoorTie.lean); close each card by the builder's one call (the guide's Derived/Test/ToyasCard.lean, 'card_holds'). Laid BY PROGRAM, IN A SANDBOX (cutbox-door.mjs). By AI agents, Wed Nov 11 2026. No macro, syntax, notation, axiom, sorry.
-/
import Derived.Test.YtcacembpegoghaaDoorRows
import GoSem.ClaimSeven
namespace Go.Proofs.YtcacembpegoghaaDoor
namespace Rows

/-- THE TIED CARD OF 'duetlaw.ValuesMakes'. -/
def valuesMakesCard : Claim7 := { stood := { row := valuesMakesRow, standIns := [], harness := (true, "901b842e65fc06dd875b0eb51cf9121fc055fd35ccdf01d904445d4f802fe2dd"), looks := true }, kinds := [], alts := [], laidByText := true, laidKinds := [.data, .pinned], laidTests := true, laidLooks := .later }
def ValuesMakesCardSaid : Prop := Claim7.holds Tryd.pinned (.plain (OpenSpec.ofChange valuesMakesSpec)) valuesMakesCard

/-- THE TIED CARD OF 'duetlaw.GlobalReads'. -/
def globalReadsCard : Claim7 := { stood := { row := globalReadsRow, standIns := [], harness := (true, "901b842e65fc06dd875b0eb51cf9121fc055fd35ccdf01d904445d4f802fe2dd"), looks := true }, kinds := [], alts := [], laidByText := true, laidKinds := [.data, .widerDeep, .pinned], laidTests := true, laidLooks := .later }
def GlobalReadsCardSaid : Prop := Claim7.holds Tryd.pinned (.plain (OpenSpec.ofChange globalReadsSpec)) globalReadsCard

/-- THE TIED CARD OF 'duetlaw.TypesReads'. -/
def typesReadsCard : Claim7 := { stood := { row := typesReadsRow, standIns := [], harness := (true, "901b842e65fc06dd875b0eb51cf9121fc055fd35ccdf01d904445d4f802fe2dd"), looks := true }, kinds := [], alts := [], laidByText := true, laidKinds := [.data, .widerDeep, .pinned], laidTests := true, laidLooks := .later }
def TypesReadsCardSaid : Prop := Claim7.holds Tryd.pinned (.plain (OpenSpec.ofChange typesReadsSpec)) typesReadsCard

/-- THE TIED CARD OF 'duetlaw.TypesSays'. -/
def typesSaysCard : Claim7 := { stood := { row := typesSaysRow, standIns := [], harness := (true, "901b842e65fc06dd875b0eb51cf9121fc055fd35ccdf01d904445d4f802fe2dd"), looks := true }, kinds := [], alts := [], laidByText := true, laidKinds := [.data, .widerDeep, .pinned], laidTests := true, laidLooks := .later }
def TypesSaysCardSaid : Prop := Claim7.holds Tryd.pinned (.plain (OpenSpec.ofChange typesSaysSpec)) typesSaysCard

/-- THE TIED CARD OF 'duetlaw.GraphTypes'. -/
def graphTypesCard : Claim7 := { stood := { row := graphTypesRow, standIns := [], harness := (true, "901b842e65fc06dd875b0eb51cf9121fc055fd35ccdf01d904445d4f802fe2dd"), looks := true }, kinds := [], alts := [], laidByText := true, laidKinds := [.data, .data, .data, .data, .pinned], laidTests := true, laidLooks := .later }
def GraphTypesCardSaid : Prop := Claim7.holds Tryd.pinned (.plain (OpenSpec.ofChange graphTypesSpec)) graphTypesCard

/-- THE TIED CARD OF 'duetlaw.ValuesSays'. -/
def valuesSaysCard : Claim7 := { stood := { row := valuesSaysRow, standIns := [], harness := (true, "901b842e65fc06dd875b0eb51cf9121fc055fd35ccdf01d904445d4f802fe2dd"), looks := true }, kinds := [], alts := [], laidByText := true, laidKinds := [.data, .data, .data, .data, .sentinel, .sentinel, .pinned], laidTests := true, laidLooks := .later }
def ValuesSaysCardSaid : Prop := Claim7.holds Tryd.pinned (.plain (OpenSpec.ofChange valuesSaysSpec)) valuesSaysCard

/-- THE TIED CARD OF 'duetlaw.ExprsSays'. -/
def exprsSaysCard : Claim7 := { stood := { row := exprsSaysRow, standIns := [], harness := (true, "901b842e65fc06dd875b0eb51cf9121fc055fd35ccdf01d904445d4f802fe2dd"), looks := true }, kinds := [], alts := [], laidByText := true, laidKinds := [.data, .data, .data, .data, .pinned], laidTests := true, laidLooks := .later }
def ExprsSaysCardSaid : Prop := Claim7.holds Tryd.pinned (.plain (OpenSpec.ofChange exprsSaysSpec)) exprsSaysCard

/-- THE TIED CARD OF 'duetlaw.DualSays'. -/
def dualSaysCard : Claim7 := { stood := { row := dualSaysRow, standIns := [], harness := (true, "901b842e65fc06dd875b0eb51cf9121fc055fd35ccdf01d904445d4f802fe2dd"), looks := true }, kinds := [], alts := [], laidByText := true, laidKinds := [.data, .data, .data, .data, .pinned], laidTests := true, laidLooks := .later }
def DualSaysCardSaid : Prop := Claim7.holds Tryd.pinned (.plain (OpenSpec.ofChange dualSaysSpec)) dualSaysCard

/-- THE TIED CARD OF 'duetlaw.BelowSays'. -/
def belowSaysCard : Claim7 := { stood := { row := belowSaysRow, standIns := [], harness := (true, "901b842e65fc06dd875b0eb51cf9121fc055fd35ccdf01d904445d4f802fe2dd"), looks := true }, kinds := [], alts := [], laidByText := true, laidKinds := [.data, .data, .data, .data, .pinned], laidTests := true, laidLooks := .later }
def BelowSaysCardSaid : Prop := Claim7.holds Tryd.pinned (.plain (OpenSpec.ofChange belowSaysSpec)) belowSaysCard

/-- THE TIED CARD OF 'duetlaw.CrewSays'. -/
def crewSaysCard : Claim7 := { stood := { row := crewSaysRow, standIns := [], harness := (true, "901b842e65fc06dd875b0eb51cf9121fc055fd35ccdf01d904445d4f802fe2dd"), looks := true }, kinds := [], alts := [], laidByText := true, laidKinds := [.data, .data, .data, .data, .data, .pinned], laidTests := true, laidLooks := .later }
def CrewSaysCardSaid : Prop := Claim7.holds Tryd.pinned (.plain (OpenSpec.ofChange crewSaysSpec)) crewSaysCard

/-- THE SECOND FORM's CARD OF 'duetlaw.ValuesMakes'. -/
def valuesMakesUptoCard : Claim7 := { stood := { row := valuesMakesUptoRow, standIns := [], harness := (true, "901b842e65fc06dd875b0eb51cf9121fc055fd35ccdf01d904445d4f802fe2dd"), looks := true }, kinds := [], alts := [], laidByText := true, laidKinds := [.data, .pinned], laidTests := true, laidLooks := .later }
def ValuesMakesUptoCardSaid : Prop := Claim7.holds Tryd.pinned (.plain (OpenSpec.upto valuesMakesSpec)) valuesMakesUptoCard

/-- THE SECOND FORM's CARD OF 'duetlaw.GlobalReads'. -/
def globalReadsUptoCard : Claim7 := { stood := { row := globalReadsUptoRow, standIns := [], harness := (true, "901b842e65fc06dd875b0eb51cf9121fc055fd35ccdf01d904445d4f802fe2dd"), looks := true }, kinds := [], alts := [], laidByText := true, laidKinds := [.data, .widerDeep, .pinned], laidTests := true, laidLooks := .later }
def GlobalReadsUptoCardSaid : Prop := Claim7.holds Tryd.pinned (.plain (OpenSpec.upto globalReadsSpec)) globalReadsUptoCard

/-- THE SECOND FORM's CARD OF 'duetlaw.TypesReads'. -/
def typesReadsUptoCard : Claim7 := { stood := { row := typesReadsUptoRow, standIns := [], harness := (true, "901b842e65fc06dd875b0eb51cf9121fc055fd35ccdf01d904445d4f802fe2dd"), looks := true }, kinds := [], alts := [], laidByText := true, laidKinds := [.data, .widerDeep, .pinned], laidTests := true, laidLooks := .later }
def TypesReadsUptoCardSaid : Prop := Claim7.holds Tryd.pinned (.plain (OpenSpec.upto typesReadsSpec)) typesReadsUptoCard

/-- THE SECOND FORM's CARD OF 'duetlaw.TypesSays'. -/
def typesSaysUptoCard : Claim7 := { stood := { row := typesSaysUptoRow, standIns := [], harness := (true, "901b842e65fc06dd875b0eb51cf9121fc055fd35ccdf01d904445d4f802fe2dd"), looks := true }, kinds := [], alts := [], laidByText := true, laidKinds := [.data, .widerDeep, .pinned], laidTests := true, laidLooks := .later }
def TypesSaysUptoCardSaid : Prop := Claim7.holds Tryd.pinned (.plain (OpenSpec.upto typesSaysSpec)) typesSaysUptoCard

/-- THE SECOND FORM's CARD OF 'duetlaw.GraphTypes'. -/
def graphTypesUptoCard : Claim7 := { stood := { row := graphTypesUptoRow, standIns := [], harness := (true, "901b842e65fc06dd875b0eb51cf9121fc055fd35ccdf01d904445d4f802fe2dd"), looks := true }, kinds := [], alts := [], laidByText := true, laidKinds := [.data, .data, .data, .data, .pinned], laidTests := true, laidLooks := .later }
def GraphTypesUptoCardSaid : Prop := Claim7.holds Tryd.pinned (.plain (OpenSpec.upto graphTypesSpec)) graphTypesUptoCard

/-- THE SECOND FORM's CARD OF 'duetlaw.ValuesSays'. -/
def valuesSaysUptoCard : Claim7 := { stood := { row := valuesSaysUptoRow, standIns := [], harness := (true, "901b842e65fc06dd875b0eb51cf9121fc055fd35ccdf01d904445d4f802fe2dd"), looks := true }, kinds := [], alts := [], laidByText := true, laidKinds := [.data, .data, .data, .data, .sentinel, .sentinel, .pinned], laidTests := true, laidLooks := .later }
def ValuesSaysUptoCardSaid : Prop := Claim7.holds Tryd.pinned (.plain (OpenSpec.upto valuesSaysSpec)) valuesSaysUptoCard

/-- THE SECOND FORM's CARD OF 'duetlaw.ExprsSays'. -/
def exprsSaysUptoCard : Claim7 := { stood := { row := exprsSaysUptoRow, standIns := [], harness := (true, "901b842e65fc06dd875b0eb51cf9121fc055fd35ccdf01d904445d4f802fe2dd"), looks := true }, kinds := [], alts := [], laidByText := true, laidKinds := [.data, .data, .data, .data, .pinned], laidTests := true, laidLooks := .later }
def ExprsSaysUptoCardSaid : Prop := Claim7.holds Tryd.pinned (.plain (OpenSpec.upto exprsSaysSpec)) exprsSaysUptoCard

/-- THE SECOND FORM's CARD OF 'duetlaw.DualSays'. -/
def dualSaysUptoCard : Claim7 := { stood := { row := dualSaysUptoRow, standIns := [], harness := (true, "901b842e65fc06dd875b0eb51cf9121fc055fd35ccdf01d904445d4f802fe2dd"), looks := true }, kinds := [], alts := [], laidByText := true, laidKinds := [.data, .data, .data, .data, .pinned], laidTests := true, laidLooks := .later }
def DualSaysUptoCardSaid : Prop := Claim7.holds Tryd.pinned (.plain (OpenSpec.upto dualSaysSpec)) dualSaysUptoCard

/-- THE SECOND FORM's CARD OF 'duetlaw.BelowSays'. -/
def belowSaysUptoCard : Claim7 := { stood := { row := belowSaysUptoRow, standIns := [], harness := (true, "901b842e65fc06dd875b0eb51cf9121fc055fd35ccdf01d904445d4f802fe2dd"), looks := true }, kinds := [], alts := [], laidByText := true, laidKinds := [.data, .data, .data, .data, .pinned], laidTests := true, laidLooks := .later }
def BelowSaysUptoCardSaid : Prop := Claim7.holds Tryd.pinned (.plain (OpenSpec.upto belowSaysSpec)) belowSaysUptoCard

/-- THE SECOND FORM's CARD OF 'duetlaw.CrewSays'. -/
def crewSaysUptoCard : Claim7 := { stood := { row := crewSaysUptoRow, standIns := [], harness := (true, "901b842e65fc06dd875b0eb51cf9121fc055fd35ccdf01d904445d4f802fe2dd"), looks := true }, kinds := [], alts := [], laidByText := true, laidKinds := [.data, .data, .data, .data, .data, .pinned], laidTests := true, laidLooks := .later }
def CrewSaysUptoCardSaid : Prop := Claim7.holds Tryd.pinned (.plain (OpenSpec.upto crewSaysSpec)) crewSaysUptoCard
end Rows
end Go.Proofs.YtcacembpegoghaaDoor
