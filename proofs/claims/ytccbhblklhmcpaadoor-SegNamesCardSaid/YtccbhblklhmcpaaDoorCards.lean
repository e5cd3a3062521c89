/-
  DERIVED. GIVEN WITH THE SEED: THE CARDS: each row of YtccbhblklhmcpaaDoorRows.lean that lists a variable, with what it lists TIED to the program's text (the seventh form; the later family's looks); each row that meets fmt, with fmt's text TOLD by the authors' own Lean function (tested against real Go, not proved from fmt's source: count such statements apart). THE CARD IS WHAT COUNTS. Prove the row's statement (the work); the ties are given (YtccbhblklhmcpaaDoorTie.lean); close each card by the builder's one call (the guide's Derived/Test/ToyasCard.lean, 'card_holds'). Laid BY PROGRAM, IN A SANDBOX (cutbox-door.mjs). By AI agents, Wed Nov 11 2026. No macro, syntax, notation, axiom, sorry.
-/
import Derived.Test.YtccbhblklhmcpaaDoorRows
import GoSem.ClaimSeven
namespace Go.Proofs.YtccbhblklhmcpaaDoor
namespace Rows

/-- THE TIED CARD OF 'rallentandolaw21.SegNames'. -/
def segNamesCard : Claim7 := { stood := { row := segNamesRow, standIns := [], harness := (true, "6cdf7b72ba3f8b4a6a5578aad5eb4d75b47d89af95387d8d3f4f98b796b5cc4f"), looks := true }, kinds := [], alts := [], laidByText := true, laidKinds := [.data, .data, .data, .data, .sentinel, .sentinel, .pinned], laidTests := true, laidLooks := .later }
def SegNamesCardSaid : Prop := Claim7.holds Tryd.pinned (.plain (OpenSpec.ofChange segNamesSpec)) segNamesCard

/-- THE TIED CARD OF 'rallentandolaw21.SegBack'. -/
def segBackCard : Claim7 := { stood := { row := segBackRow, standIns := [], harness := (true, "6cdf7b72ba3f8b4a6a5578aad5eb4d75b47d89af95387d8d3f4f98b796b5cc4f"), looks := true }, kinds := [], alts := [], laidByText := true, laidKinds := [.data, .data, .data, .data, .sentinel, .sentinel, .pinned], laidTests := true, laidLooks := .later }
def SegBackCardSaid : Prop := Claim7.holds Tryd.pinned (.plain (OpenSpec.ofChange segBackSpec)) segBackCard

/-- THE TIED CARD OF 'rallentandolaw21.SegText'. -/
def segTextCard : Claim7 := { stood := { row := segTextRow, standIns := [], harness := (true, "6cdf7b72ba3f8b4a6a5578aad5eb4d75b47d89af95387d8d3f4f98b796b5cc4f"), looks := true }, kinds := [], alts := [], laidByText := true, laidKinds := [.data, .data, .data, .data, .sentinel, .sentinel, .pinned], laidTests := true, laidLooks := .later }
def SegTextCardSaid : Prop := Claim7.holds Tryd.pinned (.plain (OpenSpec.ofChange segTextSpec)) segTextCard

/-- THE SECOND FORM's CARD OF 'rallentandolaw21.SegNames'. -/
def segNamesUptoCard : Claim7 := { stood := { row := segNamesUptoRow, standIns := [], harness := (true, "6cdf7b72ba3f8b4a6a5578aad5eb4d75b47d89af95387d8d3f4f98b796b5cc4f"), looks := true }, kinds := [], alts := [], laidByText := true, laidKinds := [.data, .data, .data, .data, .sentinel, .sentinel, .pinned], laidTests := true, laidLooks := .later }
def SegNamesUptoCardSaid : Prop := Claim7.holds Tryd.pinned (.plain (OpenSpec.upto segNamesSpec)) segNamesUptoCard

/-- THE SECOND FORM's CARD OF 'rallentandolaw21.SegBack'. -/
def segBackUptoCard : Claim7 := { stood := { row := segBackUptoRow, standIns := [], harness := (true, "6cdf7b72ba3f8b4a6a5578aad5eb4d75b47d89af95387d8d3f4f98b796b5cc4f"), looks := true }, kinds := [], alts := [], laidByText := true, laidKinds := [.data, .data, .data, .data, .sentinel, .sentinel, .pinned], laidTests := true, laidLooks := .later }
def SegBackUptoCardSaid : Prop := Claim7.holds Tryd.pinned (.plain (OpenSpec.upto segBackSpec)) segBackUptoCard

/-- THE SECOND FORM's CARD OF 'rallentandolaw21.SegText'. -/
def segTextUptoCard : Claim7 := { stood := { row := segTextUptoRow, standIns := [], harness := (true, "6cdf7b72ba3f8b4a6a5578aad5eb4d75b47d89af95387d8d3f4f98b796b5cc4f"), looks := true }, kinds := [], alts := [], laidByText := true, laidKinds := [.data, .data, .data, .data, .sentinel, .sentinel, .pinned], laidTests := true, laidLooks := .later }
def SegTextUptoCardSaid : Prop := Claim7.holds Tryd.pinned (.plain (OpenSpec.upto segTextSpec)) segTextUptoCard
end Rows
end Go.Proofs.YtccbhblklhmcpaaDoor
