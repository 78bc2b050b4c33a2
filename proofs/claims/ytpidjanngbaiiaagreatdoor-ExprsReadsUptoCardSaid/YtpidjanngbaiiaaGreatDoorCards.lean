/-
  DERIVED. GIVEN WITH THE SEED: THE CARDS: each row of YtpidjanngbaiiaaGreatDoorRows.lean that lists a variable, with what it lists TIED to the program's text (the seventh form; the later family's looks); each row that meets fmt, with fmt's text TOLD by the authors' own Lean function (tested against real Go, not proved from fmt's source: count such statements apart). THE CARD IS WHAT COUNTS. Prove the row's statement (the work); the ties are given (YtpidjanngbaiiaaGreatDoorTie.lean); close each card by the builder's one call (the guide's Derived/Test/ToyasCard.lean, 'card_holds'). Laid BY PROGRAM, IN A SANDBOX (cutbox-door.mjs). By AI agents, Wed Nov 11 2026. No macro, syntax, notation, axiom, sorry.
-/
import Derived.Test.YtpidjanngbaiiaaGreatDoorRows
import GoSem.ClaimSeven
namespace Go.Proofs.YtpidjanngbaiiaaGreatDoor
namespace Rows

/-- THE TIED CARD OF 'duetlaw.WiresSays'. -/
def wiresSaysCard : Claim7 := { stood := { row := wiresSaysRow, standIns := [], harness := (true, "84e72e59760155f2d38ed5fb7f119c9840a720f11ebc940788dd7c6f8240b2ac"), looks := true }, kinds := [], alts := [], laidByText := true, laidKinds := [.data, .widerDeep, .pinned], laidTests := true, laidLooks := .later }
def WiresSaysCardSaid : Prop := Claim7.holds Tryz.pinned (.plain (OpenSpec.ofChange wiresSaysSpec)) wiresSaysCard

/-- THE TIED CARD OF 'duetlaw.SyntaxSays'. -/
def syntaxSaysCard : Claim7 := { stood := { row := syntaxSaysRow, standIns := [], harness := (true, "84e72e59760155f2d38ed5fb7f119c9840a720f11ebc940788dd7c6f8240b2ac"), looks := true }, kinds := [], alts := [], laidByText := true, laidKinds := [.data, .data, .data, .data, .widerDeep, .widerDeep, .widerDeep, .pinned], laidTests := true, laidLooks := .later }
def SyntaxSaysCardSaid : Prop := Claim7.holds Tryz.pinned (.plain (OpenSpec.ofChange syntaxSaysSpec)) syntaxSaysCard

/-- THE TIED CARD OF 'duetlaw.ExprsReads'. -/
def exprsReadsCard : Claim7 := { stood := { row := exprsReadsRow, standIns := [], harness := (true, "84e72e59760155f2d38ed5fb7f119c9840a720f11ebc940788dd7c6f8240b2ac"), looks := true }, kinds := [], alts := [], laidByText := true, laidKinds := [.data, .data, .data, .data, .sentinel, .sentinel, .pinned], laidTests := true, laidLooks := .later }
def ExprsReadsCardSaid : Prop := Claim7.holds Tryz.pinned (.plain (OpenSpec.ofChange exprsReadsSpec)) exprsReadsCard

/-- THE SECOND FORM's CARD OF 'duetlaw.WiresSays'. -/
def wiresSaysUptoCard : Claim7 := { stood := { row := wiresSaysUptoRow, standIns := [], harness := (true, "84e72e59760155f2d38ed5fb7f119c9840a720f11ebc940788dd7c6f8240b2ac"), looks := true }, kinds := [], alts := [], laidByText := true, laidKinds := [.data, .widerDeep, .pinned], laidTests := true, laidLooks := .later }
def WiresSaysUptoCardSaid : Prop := Claim7.holds Tryz.pinned (.plain (OpenSpec.upto wiresSaysSpec)) wiresSaysUptoCard

/-- THE SECOND FORM's CARD OF 'duetlaw.SyntaxSays'. -/
def syntaxSaysUptoCard : Claim7 := { stood := { row := syntaxSaysUptoRow, standIns := [], harness := (true, "84e72e59760155f2d38ed5fb7f119c9840a720f11ebc940788dd7c6f8240b2ac"), looks := true }, kinds := [], alts := [], laidByText := true, laidKinds := [.data, .data, .data, .data, .widerDeep, .widerDeep, .widerDeep, .pinned], laidTests := true, laidLooks := .later }
def SyntaxSaysUptoCardSaid : Prop := Claim7.holds Tryz.pinned (.plain (OpenSpec.upto syntaxSaysSpec)) syntaxSaysUptoCard

/-- THE SECOND FORM's CARD OF 'duetlaw.ExprsReads'. -/
def exprsReadsUptoCard : Claim7 := { stood := { row := exprsReadsUptoRow, standIns := [], harness := (true, "84e72e59760155f2d38ed5fb7f119c9840a720f11ebc940788dd7c6f8240b2ac"), looks := true }, kinds := [], alts := [], laidByText := true, laidKinds := [.data, .data, .data, .data, .sentinel, .sentinel, .pinned], laidTests := true, laidLooks := .later }
def ExprsReadsUptoCardSaid : Prop := Claim7.holds Tryz.pinned (.plain (OpenSpec.upto exprsReadsSpec)) exprsReadsUptoCard
end Rows
end Go.Proofs.YtpidjanngbaiiaaGreatDoor
