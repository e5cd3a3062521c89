/-
  DERIVED. GIVEN WITH THE SEED: THE CARDS: each row of YtccbhblklhmcpaaGreatDoorRows.lean that lists a variable, with what it lists TIED to the program's text (the seventh form; the later family's looks); each row that meets fmt, with fmt's text TOLD by the authors' own Lean function (tested against real Go, not proved from fmt's source: count such statements apart). THE CARD IS WHAT COUNTS. Prove the row's statement (the work); the ties are given (YtccbhblklhmcpaaGreatDoorTie.lean); close each card by the builder's one call (the guide's Derived/Test/ToyasCard.lean, 'card_holds'). Laid BY PROGRAM, IN A SANDBOX (cutbox-door.mjs). By AI agents, Wed Nov 11 2026. No macro, syntax, notation, axiom, sorry.
-/
import Derived.Test.YtccbhblklhmcpaaGreatDoorRows
import GoSem.ClaimSeven
namespace Go.Proofs.YtccbhblklhmcpaaGreatDoor
namespace Rows

/-- THE TIED CARD OF 'rallentandolaw21.SegDoes'. -/
def segDoesCard : Claim7 := { stood := { row := segDoesRow, standIns := [], harness := (true, "0d91f4db876318a23274eab87454233e570c63133b6e13eab24fef789f3ed085"), looks := true }, kinds := [], alts := [], laidByText := true, laidKinds := [.data, .data, .data, .data, .sentinel, .sentinel, .pinned], laidTests := true, laidLooks := .later }
def SegDoesCardSaid : Prop := Claim7.holds Tryz.pinned (.plain (OpenSpec.ofChange segDoesSpec)) segDoesCard

/-- THE SECOND FORM's CARD OF 'rallentandolaw21.SegDoes'. -/
def segDoesUptoCard : Claim7 := { stood := { row := segDoesUptoRow, standIns := [], harness := (true, "0d91f4db876318a23274eab87454233e570c63133b6e13eab24fef789f3ed085"), looks := true }, kinds := [], alts := [], laidByText := true, laidKinds := [.data, .data, .data, .data, .sentinel, .sentinel, .pinned], laidTests := true, laidLooks := .later }
def SegDoesUptoCardSaid : Prop := Claim7.holds Tryz.pinned (.plain (OpenSpec.upto segDoesSpec)) segDoesUptoCard
end Rows
end Go.Proofs.YtccbhblklhmcpaaGreatDoor
