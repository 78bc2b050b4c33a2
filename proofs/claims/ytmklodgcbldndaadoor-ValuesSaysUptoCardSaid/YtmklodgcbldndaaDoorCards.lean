/-
  DERIVED. GIVEN WITH THE SEED: THE CARDS: each row of YtmklodgcbldndaaDoorRows.lean that lists a variable, with what it lists TIED to the program's text (the seventh form; the later family's looks); each row that meets fmt, with fmt's text TOLD by the authors' own Lean function (tested against real Go, not proved from fmt's source: count such statements apart). THE CARD IS WHAT COUNTS. Prove the row's statement (the work); the ties are given (YtmklodgcbldndaaDoorTie.lean); close each card by the builder's one call (the guide's Derived/Test/ToyasCard.lean, 'card_holds'). Laid BY PROGRAM, IN A SANDBOX (cutbox-door.mjs). By AI agents, Wed Nov 11 2026. No macro, syntax, notation, axiom, sorry.
-/
import Derived.Test.YtmklodgcbldndaaDoorRows
import GoSem.ClaimSeven
namespace Go.Proofs.YtmklodgcbldndaaDoor
namespace Rows

/-- THE TIED CARD OF 'duetlaw.ExprsSays'. -/
def exprsSaysCard : Claim7 := { stood := { row := exprsSaysRow, standIns := [], harness := (true, "1cb00567f11cda6eab2cd046331f7e6052db008cc3e93bb2b0a49fd22728b2b3"), looks := true }, kinds := [], alts := [], laidByText := true, laidKinds := [.data, .data, .data, .data, .pinned], laidTests := true, laidLooks := .later }
def ExprsSaysCardSaid : Prop := Claim7.holds Tryd.pinned (.plain (OpenSpec.ofChange exprsSaysSpec)) exprsSaysCard

/-- THE TIED CARD OF 'duetlaw.ValuesSays'. -/
def valuesSaysCard : Claim7 := { stood := { row := valuesSaysRow, standIns := [], harness := (true, "1cb00567f11cda6eab2cd046331f7e6052db008cc3e93bb2b0a49fd22728b2b3"), looks := true }, kinds := [], alts := [], laidByText := true, laidKinds := [.data, .data, .data, .data, .sentinel, .sentinel, .pinned], laidTests := true, laidLooks := .later }
def ValuesSaysCardSaid : Prop := Claim7.holds Tryd.pinned (.plain (OpenSpec.ofChange valuesSaysSpec)) valuesSaysCard

/-- THE SECOND FORM's CARD OF 'duetlaw.ExprsSays'. -/
def exprsSaysUptoCard : Claim7 := { stood := { row := exprsSaysUptoRow, standIns := [], harness := (true, "1cb00567f11cda6eab2cd046331f7e6052db008cc3e93bb2b0a49fd22728b2b3"), looks := true }, kinds := [], alts := [], laidByText := true, laidKinds := [.data, .data, .data, .data, .pinned], laidTests := true, laidLooks := .later }
def ExprsSaysUptoCardSaid : Prop := Claim7.holds Tryd.pinned (.plain (OpenSpec.upto exprsSaysSpec)) exprsSaysUptoCard

/-- THE SECOND FORM's CARD OF 'duetlaw.ValuesSays'. -/
def valuesSaysUptoCard : Claim7 := { stood := { row := valuesSaysUptoRow, standIns := [], harness := (true, "1cb00567f11cda6eab2cd046331f7e6052db008cc3e93bb2b0a49fd22728b2b3"), looks := true }, kinds := [], alts := [], laidByText := true, laidKinds := [.data, .data, .data, .data, .sentinel, .sentinel, .pinned], laidTests := true, laidLooks := .later }
def ValuesSaysUptoCardSaid : Prop := Claim7.holds Tryd.pinned (.plain (OpenSpec.upto valuesSaysSpec)) valuesSaysUptoCard
end Rows
end Go.Proofs.YtmklodgcbldndaaDoor
