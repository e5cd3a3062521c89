/-
  DERIVED. GIVEN WITH THE SEED: THE CARDS: each row of YtpaomeilfmeheaaDoorRows.lean that lists a variable, with what it lists TIED to the program's text (the seventh form; the later family's looks); each row that meets fmt, with fmt's text TOLD by the authors' own Lean function (tested against real Go, not proved from fmt's source: count such statements apart). THE CARD IS WHAT COUNTS. Prove the row's statement (the work); the ties are given (YtpaomeilfmeheaaDoorTie.lean); close each card by the builder's one call (the guide's Derived/Test/ToyasCard.lean, 'card_holds'). Laid BY PROGRAM, IN A SANDBOX (cutbox-door.mjs). By AI agents, Wed Nov 11 2026. No macro, syntax, notation, axiom, sorry.
-/
import Derived.Test.YtpaomeilfmeheaaDoorRows
import GoSem.ClaimSeven
namespace Go.Proofs.YtpaomeilfmeheaaDoor
namespace Rows

/-- THE TIED CARD OF 'rallentandolaw31.TextPrints'. -/
def textPrintsCard : Claim7 := { stood := { row := textPrintsRow, standIns := [], harness := (true, "1a466b8fcd001b41335d900687e4c6befb68f9aa60cab2b385168b927f180910"), looks := true }, kinds := [], alts := [], laidByText := true, laidKinds := [.data, .data, .data], laidTests := true, laidLooks := .later }
def TextPrintsCardSaid : Prop := Claim7.holds Tryd.pinned (.plain (OpenSpec.ofChange textPrintsSpec)) textPrintsCard

/-- THE TIED CARD OF 'rallentandolaw21.SegNames'. -/
def segNamesCard : Claim7 := { stood := { row := segNamesRow, standIns := [], harness := (true, "1a466b8fcd001b41335d900687e4c6befb68f9aa60cab2b385168b927f180910"), looks := true }, kinds := [], alts := [], laidByText := true, laidKinds := [.data, .data, .data, .data, .sentinel, .sentinel, .pinned], laidTests := true, laidLooks := .later }
def SegNamesCardSaid : Prop := Claim7.holds Tryd.pinned (.plain (OpenSpec.ofChange segNamesSpec)) segNamesCard

/-- THE TIED CARD OF 'rallentandolaw21.SegBack'. -/
def segBackCard : Claim7 := { stood := { row := segBackRow, standIns := [], harness := (true, "1a466b8fcd001b41335d900687e4c6befb68f9aa60cab2b385168b927f180910"), looks := true }, kinds := [], alts := [], laidByText := true, laidKinds := [.data, .data, .data, .data, .sentinel, .sentinel, .pinned], laidTests := true, laidLooks := .later }
def SegBackCardSaid : Prop := Claim7.holds Tryd.pinned (.plain (OpenSpec.ofChange segBackSpec)) segBackCard

/-- THE TIED CARD OF 'rallentandolaw21.SegText'. -/
def segTextCard : Claim7 := { stood := { row := segTextRow, standIns := [], harness := (true, "1a466b8fcd001b41335d900687e4c6befb68f9aa60cab2b385168b927f180910"), looks := true }, kinds := [], alts := [], laidByText := true, laidKinds := [.data, .data, .data, .data, .sentinel, .sentinel, .pinned], laidTests := true, laidLooks := .later }
def SegTextCardSaid : Prop := Claim7.holds Tryd.pinned (.plain (OpenSpec.ofChange segTextSpec)) segTextCard

/-- THE SECOND FORM's CARD OF 'rallentandolaw31.TextPrints'. -/
def textPrintsUptoCard : Claim7 := { stood := { row := textPrintsUptoRow, standIns := [], harness := (true, "1a466b8fcd001b41335d900687e4c6befb68f9aa60cab2b385168b927f180910"), looks := true }, kinds := [], alts := [], laidByText := true, laidKinds := [.data, .data, .data], laidTests := true, laidLooks := .later }
def TextPrintsUptoCardSaid : Prop := Claim7.holds Tryd.pinned (.plain (OpenSpec.upto textPrintsSpec)) textPrintsUptoCard

/-- THE SECOND FORM's CARD OF 'rallentandolaw21.SegNames'. -/
def segNamesUptoCard : Claim7 := { stood := { row := segNamesUptoRow, standIns := [], harness := (true, "1a466b8fcd001b41335d900687e4c6befb68f9aa60cab2b385168b927f180910"), looks := true }, kinds := [], alts := [], laidByText := true, laidKinds := [.data, .data, .data, .data, .sentinel, .sentinel, .pinned], laidTests := true, laidLooks := .later }
def SegNamesUptoCardSaid : Prop := Claim7.holds Tryd.pinned (.plain (OpenSpec.upto segNamesSpec)) segNamesUptoCard

/-- THE SECOND FORM's CARD OF 'rallentandolaw21.SegBack'. -/
def segBackUptoCard : Claim7 := { stood := { row := segBackUptoRow, standIns := [], harness := (true, "1a466b8fcd001b41335d900687e4c6befb68f9aa60cab2b385168b927f180910"), looks := true }, kinds := [], alts := [], laidByText := true, laidKinds := [.data, .data, .data, .data, .sentinel, .sentinel, .pinned], laidTests := true, laidLooks := .later }
def SegBackUptoCardSaid : Prop := Claim7.holds Tryd.pinned (.plain (OpenSpec.upto segBackSpec)) segBackUptoCard

/-- THE SECOND FORM's CARD OF 'rallentandolaw21.SegText'. -/
def segTextUptoCard : Claim7 := { stood := { row := segTextUptoRow, standIns := [], harness := (true, "1a466b8fcd001b41335d900687e4c6befb68f9aa60cab2b385168b927f180910"), looks := true }, kinds := [], alts := [], laidByText := true, laidKinds := [.data, .data, .data, .data, .sentinel, .sentinel, .pinned], laidTests := true, laidLooks := .later }
def SegTextUptoCardSaid : Prop := Claim7.holds Tryd.pinned (.plain (OpenSpec.upto segTextSpec)) segTextUptoCard
end Rows
end Go.Proofs.YtpaomeilfmeheaaDoor
