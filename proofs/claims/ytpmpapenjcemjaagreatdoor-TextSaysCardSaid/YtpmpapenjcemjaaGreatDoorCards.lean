/-
  DERIVED. GIVEN WITH THE SEED: THE CARDS: each row of YtpmpapenjcemjaaGreatDoorRows.lean that lists a variable, with what it lists TIED to the program's text (the seventh form; the later family's looks); each row that meets fmt, with fmt's text TOLD by the authors' own Lean function (tested against real Go, not proved from fmt's source: count such statements apart). THE CARD IS WHAT COUNTS. Prove the row's statement (the work); the ties are given (YtpmpapenjcemjaaGreatDoorTie.lean); close each card by the builder's one call (the guide's Derived/Test/ToyasCard.lean, 'card_holds'). Laid BY PROGRAM, IN A SANDBOX (cutbox-door.mjs). By AI agents, Wed Nov 11 2026. No macro, syntax, notation, axiom, sorry.
-/
import Derived.Test.YtpmpapenjcemjaaGreatDoorRows
import GoSem.ClaimSeven
namespace Go.Proofs.YtpmpapenjcemjaaGreatDoor
namespace Rows

/-- THE TIED CARD OF 'rallentandolaw21.SegDoes'. -/
def segDoesCard : Claim7 := { stood := { row := segDoesRow, standIns := [], harness := (true, "683c61b0a21aa4c4de52eff4d3bedab25f503b60dbe2f4295f6d9f96bf2cc1d9"), looks := true }, kinds := [], alts := [], laidByText := true, laidKinds := [.data, .data, .data, .data, .sentinel, .sentinel, .pinned], laidTests := true, laidLooks := .later }
def SegDoesCardSaid : Prop := Claim7.holds Tryz.pinned (.plain (OpenSpec.ofChange segDoesSpec)) segDoesCard

/-- THE TIED CARD OF 'rallentandolaw31.TextParses'. -/
def textParsesCard : Claim7 := { stood := { row := textParsesRow, standIns := [], harness := (true, "683c61b0a21aa4c4de52eff4d3bedab25f503b60dbe2f4295f6d9f96bf2cc1d9"), looks := true }, kinds := [], alts := [], laidByText := true, laidKinds := [.data, .data, .data, .data, .sentinel, .sentinel, .pinned], laidTests := true, laidLooks := .later }
def TextParsesCardSaid : Prop := Claim7.holds Tryz.pinned (.plain (OpenSpec.ofChange textParsesSpec)) textParsesCard

/-- THE TIED CARD OF 'rallentandolaw31.TextNames'. -/
def textNamesCard : Claim7 := { stood := { row := textNamesRow, standIns := [], harness := (true, "683c61b0a21aa4c4de52eff4d3bedab25f503b60dbe2f4295f6d9f96bf2cc1d9"), looks := true }, kinds := [], alts := [], laidByText := true, laidKinds := [.data, .data, .data, .data, .sentinel, .sentinel, .pinned], laidTests := true, laidLooks := .later }
def TextNamesCardSaid : Prop := Claim7.holds Tryz.pinned (.plain (OpenSpec.ofChange textNamesSpec)) textNamesCard

/-- THE TIED CARD OF 'rallentandolaw31.TextBack'. -/
def textBackCard : Claim7 := { stood := { row := textBackRow, standIns := [], harness := (true, "683c61b0a21aa4c4de52eff4d3bedab25f503b60dbe2f4295f6d9f96bf2cc1d9"), looks := true }, kinds := [], alts := [], laidByText := true, laidKinds := [.data, .data, .data, .data, .sentinel, .sentinel, .pinned], laidTests := true, laidLooks := .later }
def TextBackCardSaid : Prop := Claim7.holds Tryz.pinned (.plain (OpenSpec.ofChange textBackSpec)) textBackCard

/-- THE TIED CARD OF 'rallentandolaw31.TextJoins'. -/
def textJoinsCard : Claim7 := { stood := { row := textJoinsRow, standIns := [], harness := (true, "683c61b0a21aa4c4de52eff4d3bedab25f503b60dbe2f4295f6d9f96bf2cc1d9"), looks := true }, kinds := [], alts := [], laidByText := true, laidKinds := [.data, .data, .data, .data, .sentinel, .sentinel, .pinned], laidTests := true, laidLooks := .later }
def TextJoinsCardSaid : Prop := Claim7.holds Tryz.pinned (.plain (OpenSpec.ofChange textJoinsSpec)) textJoinsCard

/-- THE TIED CARD OF 'rallentandolaw31.TextSays'. -/
def textSaysCard : Claim7 := { stood := { row := textSaysRow, standIns := [], harness := (true, "683c61b0a21aa4c4de52eff4d3bedab25f503b60dbe2f4295f6d9f96bf2cc1d9"), looks := true }, kinds := [], alts := [], laidByText := true, laidKinds := [.data, .data, .data, .data, .sentinel, .sentinel, .pinned], laidTests := true, laidLooks := .later }
def TextSaysCardSaid : Prop := Claim7.holds Tryz.pinned (.plain (OpenSpec.ofChange textSaysSpec)) textSaysCard

/-- THE SECOND FORM's CARD OF 'rallentandolaw21.SegDoes'. -/
def segDoesUptoCard : Claim7 := { stood := { row := segDoesUptoRow, standIns := [], harness := (true, "683c61b0a21aa4c4de52eff4d3bedab25f503b60dbe2f4295f6d9f96bf2cc1d9"), looks := true }, kinds := [], alts := [], laidByText := true, laidKinds := [.data, .data, .data, .data, .sentinel, .sentinel, .pinned], laidTests := true, laidLooks := .later }
def SegDoesUptoCardSaid : Prop := Claim7.holds Tryz.pinned (.plain (OpenSpec.upto segDoesSpec)) segDoesUptoCard

/-- THE SECOND FORM's CARD OF 'rallentandolaw31.TextParses'. -/
def textParsesUptoCard : Claim7 := { stood := { row := textParsesUptoRow, standIns := [], harness := (true, "683c61b0a21aa4c4de52eff4d3bedab25f503b60dbe2f4295f6d9f96bf2cc1d9"), looks := true }, kinds := [], alts := [], laidByText := true, laidKinds := [.data, .data, .data, .data, .sentinel, .sentinel, .pinned], laidTests := true, laidLooks := .later }
def TextParsesUptoCardSaid : Prop := Claim7.holds Tryz.pinned (.plain (OpenSpec.upto textParsesSpec)) textParsesUptoCard

/-- THE SECOND FORM's CARD OF 'rallentandolaw31.TextNames'. -/
def textNamesUptoCard : Claim7 := { stood := { row := textNamesUptoRow, standIns := [], harness := (true, "683c61b0a21aa4c4de52eff4d3bedab25f503b60dbe2f4295f6d9f96bf2cc1d9"), looks := true }, kinds := [], alts := [], laidByText := true, laidKinds := [.data, .data, .data, .data, .sentinel, .sentinel, .pinned], laidTests := true, laidLooks := .later }
def TextNamesUptoCardSaid : Prop := Claim7.holds Tryz.pinned (.plain (OpenSpec.upto textNamesSpec)) textNamesUptoCard

/-- THE SECOND FORM's CARD OF 'rallentandolaw31.TextBack'. -/
def textBackUptoCard : Claim7 := { stood := { row := textBackUptoRow, standIns := [], harness := (true, "683c61b0a21aa4c4de52eff4d3bedab25f503b60dbe2f4295f6d9f96bf2cc1d9"), looks := true }, kinds := [], alts := [], laidByText := true, laidKinds := [.data, .data, .data, .data, .sentinel, .sentinel, .pinned], laidTests := true, laidLooks := .later }
def TextBackUptoCardSaid : Prop := Claim7.holds Tryz.pinned (.plain (OpenSpec.upto textBackSpec)) textBackUptoCard

/-- THE SECOND FORM's CARD OF 'rallentandolaw31.TextJoins'. -/
def textJoinsUptoCard : Claim7 := { stood := { row := textJoinsUptoRow, standIns := [], harness := (true, "683c61b0a21aa4c4de52eff4d3bedab25f503b60dbe2f4295f6d9f96bf2cc1d9"), looks := true }, kinds := [], alts := [], laidByText := true, laidKinds := [.data, .data, .data, .data, .sentinel, .sentinel, .pinned], laidTests := true, laidLooks := .later }
def TextJoinsUptoCardSaid : Prop := Claim7.holds Tryz.pinned (.plain (OpenSpec.upto textJoinsSpec)) textJoinsUptoCard

/-- THE SECOND FORM's CARD OF 'rallentandolaw31.TextSays'. -/
def textSaysUptoCard : Claim7 := { stood := { row := textSaysUptoRow, standIns := [], harness := (true, "683c61b0a21aa4c4de52eff4d3bedab25f503b60dbe2f4295f6d9f96bf2cc1d9"), looks := true }, kinds := [], alts := [], laidByText := true, laidKinds := [.data, .data, .data, .data, .sentinel, .sentinel, .pinned], laidTests := true, laidLooks := .later }
def TextSaysUptoCardSaid : Prop := Claim7.holds Tryz.pinned (.plain (OpenSpec.upto textSaysSpec)) textSaysUptoCard
end Rows
end Go.Proofs.YtpmpapenjcemjaaGreatDoor
