/-
  DERIVED. GIVEN WITH THE SEED: THE CARDS: each row of YtgnkncfnkjeinaaDoorRows.lean that lists a variable, with what it lists TIED to the program's text (the seventh form; the later family's looks); each row that meets fmt, with fmt's text TOLD by the authors' own Lean function (tested against real Go, not proved from fmt's source: count such statements apart). THE CARD IS WHAT COUNTS. Prove the row's statement (the work); the ties are given (YtgnkncfnkjeinaaDoorTie.lean); close each card by the builder's one call (the guide's Derived/Test/ToyasCard.lean, 'card_holds'). Laid BY PROGRAM, IN A SANDBOX (cutbox-door.mjs). By AI agents, Wed Nov 11 2026. No macro, syntax, notation, axiom, sorry.
-/
import Derived.Test.YtgnkncfnkjeinaaDoorRows
import GoSem.ClaimSeven
namespace Go.Proofs.YtgnkncfnkjeinaaDoor
namespace Rows

/-- THE TIED CARD OF 'duetlaw.TypesSays'. -/
def typesSaysCard : Claim7 := { stood := { row := typesSaysRow, standIns := [], harness := (true, "49e93500cff2b8962c7302f81b864b1c74a4d3e0a3724cebb0ab09210c2a2fe1"), looks := true }, kinds := [], alts := [], laidByText := true, laidKinds := [.data, .widerDeep, .pinned], laidTests := true, laidLooks := .later }
def TypesSaysCardSaid : Prop := Claim7.holds Tryd.pinned (.plain (OpenSpec.ofChange typesSaysSpec)) typesSaysCard

/-- THE TIED CARD OF 'duetlaw.TypesReads'. -/
def typesReadsCard : Claim7 := { stood := { row := typesReadsRow, standIns := [], harness := (true, "49e93500cff2b8962c7302f81b864b1c74a4d3e0a3724cebb0ab09210c2a2fe1"), looks := true }, kinds := [], alts := [], laidByText := true, laidKinds := [.data, .widerDeep, .pinned], laidTests := true, laidLooks := .later }
def TypesReadsCardSaid : Prop := Claim7.holds Tryd.pinned (.plain (OpenSpec.ofChange typesReadsSpec)) typesReadsCard

/-- THE TIED CARD OF 'duetlaw.GlobalReads'. -/
def globalReadsCard : Claim7 := { stood := { row := globalReadsRow, standIns := [], harness := (true, "49e93500cff2b8962c7302f81b864b1c74a4d3e0a3724cebb0ab09210c2a2fe1"), looks := true }, kinds := [], alts := [], laidByText := true, laidKinds := [.data, .widerDeep, .pinned], laidTests := true, laidLooks := .later }
def GlobalReadsCardSaid : Prop := Claim7.holds Tryd.pinned (.plain (OpenSpec.ofChange globalReadsSpec)) globalReadsCard

/-- THE TIED CARD OF 'duetlaw.GlobalSays'. -/
def globalSaysCard : Claim7 := { stood := { row := globalSaysRow, standIns := [], harness := (true, "49e93500cff2b8962c7302f81b864b1c74a4d3e0a3724cebb0ab09210c2a2fe1"), looks := true }, kinds := [], alts := [], laidByText := true, laidKinds := [.data, .widerDeep, .pinned], laidTests := true, laidLooks := .later }
def GlobalSaysCardSaid : Prop := Claim7.holds Tryd.pinned (.plain (OpenSpec.ofChange globalSaysSpec)) globalSaysCard

/-- THE SECOND FORM's CARD OF 'duetlaw.TypesSays'. -/
def typesSaysUptoCard : Claim7 := { stood := { row := typesSaysUptoRow, standIns := [], harness := (true, "49e93500cff2b8962c7302f81b864b1c74a4d3e0a3724cebb0ab09210c2a2fe1"), looks := true }, kinds := [], alts := [], laidByText := true, laidKinds := [.data, .widerDeep, .pinned], laidTests := true, laidLooks := .later }
def TypesSaysUptoCardSaid : Prop := Claim7.holds Tryd.pinned (.plain (OpenSpec.upto typesSaysSpec)) typesSaysUptoCard

/-- THE SECOND FORM's CARD OF 'duetlaw.TypesReads'. -/
def typesReadsUptoCard : Claim7 := { stood := { row := typesReadsUptoRow, standIns := [], harness := (true, "49e93500cff2b8962c7302f81b864b1c74a4d3e0a3724cebb0ab09210c2a2fe1"), looks := true }, kinds := [], alts := [], laidByText := true, laidKinds := [.data, .widerDeep, .pinned], laidTests := true, laidLooks := .later }
def TypesReadsUptoCardSaid : Prop := Claim7.holds Tryd.pinned (.plain (OpenSpec.upto typesReadsSpec)) typesReadsUptoCard

/-- THE SECOND FORM's CARD OF 'duetlaw.GlobalReads'. -/
def globalReadsUptoCard : Claim7 := { stood := { row := globalReadsUptoRow, standIns := [], harness := (true, "49e93500cff2b8962c7302f81b864b1c74a4d3e0a3724cebb0ab09210c2a2fe1"), looks := true }, kinds := [], alts := [], laidByText := true, laidKinds := [.data, .widerDeep, .pinned], laidTests := true, laidLooks := .later }
def GlobalReadsUptoCardSaid : Prop := Claim7.holds Tryd.pinned (.plain (OpenSpec.upto globalReadsSpec)) globalReadsUptoCard

/-- THE SECOND FORM's CARD OF 'duetlaw.GlobalSays'. -/
def globalSaysUptoCard : Claim7 := { stood := { row := globalSaysUptoRow, standIns := [], harness := (true, "49e93500cff2b8962c7302f81b864b1c74a4d3e0a3724cebb0ab09210c2a2fe1"), looks := true }, kinds := [], alts := [], laidByText := true, laidKinds := [.data, .widerDeep, .pinned], laidTests := true, laidLooks := .later }
def GlobalSaysUptoCardSaid : Prop := Claim7.holds Tryd.pinned (.plain (OpenSpec.upto globalSaysSpec)) globalSaysUptoCard
end Rows
end Go.Proofs.YtgnkncfnkjeinaaDoor
