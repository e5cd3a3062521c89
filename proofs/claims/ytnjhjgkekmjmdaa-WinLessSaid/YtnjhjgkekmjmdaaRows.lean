/-
  No cell of these rows narrows 'for every input' (looked for: loops, veiled, ifaces, maps, wideKeys, modest, calm, conditions, laid).
  DERIVED. THE GIVEN ROWS OF THIS SEAT. 21 by the template 'for every input the law returns true; each argument reads behind the call as it read before'; 0 by the template 'total and deterministic' (their statements: YtnjhjgkekmjmdaaTotals.lean).
  GIVEN WITH THE SEED: the statements are not yours to turn. If you find one false, say at which input.
  Laid BY PROGRAM, IN A SANDBOX (cutbox-rows.mjs): the forced cells as the released guide's own fill.sh prints them over the translation 2c37e62a819d7331… (all of the seat's roots in one cut). By AI agents, Wed Nov 11 2026. No macro, syntax, notation, axiom, sorry.
-/
import Derived.Test.YtnjhjgkekmjmdaaChecked
import GoSem.Claim
import GoSem.ClaimJoined
import GoSem.ClaimMapViews
import Derived.JoinedTies
import Derived.KernelRfl
namespace Go.Proofs.Ytnjhjgkekmjmdaa
/- THE CELL 'sum', in the pinned program and in every row, IS THE sha256 OF THE DUMP (.gsa) THAT YtnjhjgkekmjmdaaProg.lean LOADS. Nothing in Lean hashes anything: it is a label: what it is worth is what the hold of that sum in a sandbox is worth. -/
noncomputable def Try.pinned : Pinned := { name := "ytnjhjgkekmjmdaa", sum := "2c37e62a819d73310ba6c7e33798463a0f192fd979388fe7ca19af5457f06369", checked := Try.checked }
namespace Rows
def none {H : Type} : Left H := { results := [], args := [] }

/-- 'rallentandolaw08.ZoneMakes': WHATEVER THE INPUT: true; the input reads as it did. -/
def zoneMakesSpec : ChangeSpec := { name := "zoneMakes", fn := fun _ => fun
  | [d1, d2, d3] => { results := [.lit (.bool true)], args := [d1, d2, d3] }
  | _ => none }
def zoneMakesRow : OpenClaim := { program := "ytnjhjgkekmjmdaa", sum := "2c37e62a819d73310ba6c7e33798463a0f192fd979388fe7ca19af5457f06369", func := "rallentando/rallentandolaw08.ZoneMakes", spec := "zoneMakes", unfollowed := true, recurses := true, apart := false }
def ZoneMakesSaid : Prop := zoneMakesRow.holds Try.pinned (OpenSpec.ofChange zoneMakesSpec)

/-- ITS FALSE NEIGHBOUR: 'it returns false'. Refute it at one input. -/
def zoneMakesWrong : ChangeSpec := { name := "zoneMakes", fn := fun _ => fun
  | [d1, d2, d3] => { results := [.lit (.bool false)], args := [d1, d2, d3] }
  | _ => none }
def ZoneMakesWrongFalsely : Prop := zoneMakesRow.holds Try.pinned (OpenSpec.ofChange zoneMakesWrong)

/-- 'rallentandolaw11.MinusTells': WHATEVER THE INPUT: true; the input reads as it did. -/
def minusTellsSpec : ChangeSpec := { name := "minusTells", fn := fun _ => fun
  | [d1, d2, d3] => { results := [.lit (.bool true)], args := [d1, d2, d3] }
  | _ => none }
def minusTellsRow : OpenClaim := { program := "ytnjhjgkekmjmdaa", sum := "2c37e62a819d73310ba6c7e33798463a0f192fd979388fe7ca19af5457f06369", func := "rallentando/rallentandolaw11.MinusTells", spec := "minusTells", unfollowed := true, recurses := true, apart := false }
def MinusTellsSaid : Prop := minusTellsRow.holds Try.pinned (OpenSpec.ofChange minusTellsSpec)

/-- ITS FALSE NEIGHBOUR: 'it returns false'. Refute it at one input. -/
def minusTellsWrong : ChangeSpec := { name := "minusTells", fn := fun _ => fun
  | [d1, d2, d3] => { results := [.lit (.bool false)], args := [d1, d2, d3] }
  | _ => none }
def MinusTellsWrongFalsely : Prop := minusTellsRow.holds Try.pinned (OpenSpec.ofChange minusTellsWrong)

/-- 'rallentandolaw09.CompTells': WHATEVER THE INPUT: true; the input reads as it did. -/
def compTellsSpec : ChangeSpec := { name := "compTells", fn := fun _ => fun
  | [d1, d2] => { results := [.lit (.bool true)], args := [d1, d2] }
  | _ => none }
def compTellsRow : OpenClaim := { program := "ytnjhjgkekmjmdaa", sum := "2c37e62a819d73310ba6c7e33798463a0f192fd979388fe7ca19af5457f06369", func := "rallentando/rallentandolaw09.CompTells", spec := "compTells", unfollowed := true, recurses := true, apart := false }
def CompTellsSaid : Prop := compTellsRow.holds Try.pinned (OpenSpec.ofChange compTellsSpec)

/-- ITS FALSE NEIGHBOUR: 'it returns false'. Refute it at one input. -/
def compTellsWrong : ChangeSpec := { name := "compTells", fn := fun _ => fun
  | [d1, d2] => { results := [.lit (.bool false)], args := [d1, d2] }
  | _ => none }
def CompTellsWrongFalsely : Prop := compTellsRow.holds Try.pinned (OpenSpec.ofChange compTellsWrong)

/-- 'rallentandolaw10.WinTells': WHATEVER THE INPUT: true; the input reads as it did. -/
def winTellsSpec : ChangeSpec := { name := "winTells", fn := fun _ => fun
  | [d1, d2, d3, d4] => { results := [.lit (.bool true)], args := [d1, d2, d3, d4] }
  | _ => none }
def winTellsRow : OpenClaim := { program := "ytnjhjgkekmjmdaa", sum := "2c37e62a819d73310ba6c7e33798463a0f192fd979388fe7ca19af5457f06369", func := "rallentando/rallentandolaw10.WinTells", spec := "winTells", unfollowed := true, recurses := true, apart := false }
def WinTellsSaid : Prop := winTellsRow.holds Try.pinned (OpenSpec.ofChange winTellsSpec)

/-- ITS FALSE NEIGHBOUR: 'it returns false'. Refute it at one input. -/
def winTellsWrong : ChangeSpec := { name := "winTells", fn := fun _ => fun
  | [d1, d2, d3, d4] => { results := [.lit (.bool false)], args := [d1, d2, d3, d4] }
  | _ => none }
def WinTellsWrongFalsely : Prop := winTellsRow.holds Try.pinned (OpenSpec.ofChange winTellsWrong)

/-- 'rallentandolaw10.WinNames': WHATEVER THE INPUT: true; the input reads as it did. -/
def winNamesSpec : ChangeSpec := { name := "winNames", fn := fun _ => fun
  | [] => { results := [.lit (.bool true)], args := [] }
  | _ => none }
def winNamesRow : OpenClaim := { program := "ytnjhjgkekmjmdaa", sum := "2c37e62a819d73310ba6c7e33798463a0f192fd979388fe7ca19af5457f06369", func := "rallentando/rallentandolaw10.WinNames", spec := "winNames", unfollowed := true, recurses := true, apart := false }
def WinNamesSaid : Prop := winNamesRow.holds Try.pinned (OpenSpec.ofChange winNamesSpec)

/-- ITS FALSE NEIGHBOUR: 'it returns false'. Refute it at one input. -/
def winNamesWrong : ChangeSpec := { name := "winNames", fn := fun _ => fun
  | [] => { results := [.lit (.bool false)], args := [] }
  | _ => none }
def WinNamesWrongFalsely : Prop := winNamesRow.holds Try.pinned (OpenSpec.ofChange winNamesWrong)

/-- 'rallentandolaw11.MinusNames': WHATEVER THE INPUT: true; the input reads as it did. -/
def minusNamesSpec : ChangeSpec := { name := "minusNames", fn := fun _ => fun
  | [] => { results := [.lit (.bool true)], args := [] }
  | _ => none }
def minusNamesRow : OpenClaim := { program := "ytnjhjgkekmjmdaa", sum := "2c37e62a819d73310ba6c7e33798463a0f192fd979388fe7ca19af5457f06369", func := "rallentando/rallentandolaw11.MinusNames", spec := "minusNames", unfollowed := true, recurses := true, apart := false }
def MinusNamesSaid : Prop := minusNamesRow.holds Try.pinned (OpenSpec.ofChange minusNamesSpec)

/-- ITS FALSE NEIGHBOUR: 'it returns false'. Refute it at one input. -/
def minusNamesWrong : ChangeSpec := { name := "minusNames", fn := fun _ => fun
  | [] => { results := [.lit (.bool false)], args := [] }
  | _ => none }
def MinusNamesWrongFalsely : Prop := minusNamesRow.holds Try.pinned (OpenSpec.ofChange minusNamesWrong)

/-- 'rallentandolaw11.MinusOrder': WHATEVER THE INPUT: true; the input reads as it did. -/
def minusOrderSpec : ChangeSpec := { name := "minusOrder", fn := fun _ => fun
  | [d1, d2, d3] => { results := [.lit (.bool true)], args := [d1, d2, d3] }
  | _ => none }
def minusOrderRow : OpenClaim := { program := "ytnjhjgkekmjmdaa", sum := "2c37e62a819d73310ba6c7e33798463a0f192fd979388fe7ca19af5457f06369", func := "rallentando/rallentandolaw11.MinusOrder", spec := "minusOrder", unfollowed := true, recurses := true, apart := false }
def MinusOrderSaid : Prop := minusOrderRow.holds Try.pinned (OpenSpec.ofChange minusOrderSpec)

/-- ITS FALSE NEIGHBOUR: 'it returns false'. Refute it at one input. -/
def minusOrderWrong : ChangeSpec := { name := "minusOrder", fn := fun _ => fun
  | [d1, d2, d3] => { results := [.lit (.bool false)], args := [d1, d2, d3] }
  | _ => none }
def MinusOrderWrongFalsely : Prop := minusOrderRow.holds Try.pinned (OpenSpec.ofChange minusOrderWrong)

/-- 'rallentandolaw09.CompNames': WHATEVER THE INPUT: true; the input reads as it did. -/
def compNamesSpec : ChangeSpec := { name := "compNames", fn := fun _ => fun
  | [] => { results := [.lit (.bool true)], args := [] }
  | _ => none }
def compNamesRow : OpenClaim := { program := "ytnjhjgkekmjmdaa", sum := "2c37e62a819d73310ba6c7e33798463a0f192fd979388fe7ca19af5457f06369", func := "rallentando/rallentandolaw09.CompNames", spec := "compNames", unfollowed := true, recurses := true, apart := false }
def CompNamesSaid : Prop := compNamesRow.holds Try.pinned (OpenSpec.ofChange compNamesSpec)

/-- ITS FALSE NEIGHBOUR: 'it returns false'. Refute it at one input. -/
def compNamesWrong : ChangeSpec := { name := "compNames", fn := fun _ => fun
  | [] => { results := [.lit (.bool false)], args := [] }
  | _ => none }
def CompNamesWrongFalsely : Prop := compNamesRow.holds Try.pinned (OpenSpec.ofChange compNamesWrong)

/-- 'rallentandolaw10.WinLess': WHATEVER THE INPUT: true; the input reads as it did. -/
def winLessSpec : ChangeSpec := { name := "winLess", fn := fun _ => fun
  | [d1, d2, d3, d4, d5, d6] => { results := [.lit (.bool true)], args := [d1, d2, d3, d4, d5, d6] }
  | _ => none }
def winLessRow : OpenClaim := { program := "ytnjhjgkekmjmdaa", sum := "2c37e62a819d73310ba6c7e33798463a0f192fd979388fe7ca19af5457f06369", func := "rallentando/rallentandolaw10.WinLess", spec := "winLess", unfollowed := true, recurses := true, apart := false }
def WinLessSaid : Prop := winLessRow.holds Try.pinned (OpenSpec.ofChange winLessSpec)

/-- ITS FALSE NEIGHBOUR: 'it returns false'. Refute it at one input. -/
def winLessWrong : ChangeSpec := { name := "winLess", fn := fun _ => fun
  | [d1, d2, d3, d4, d5, d6] => { results := [.lit (.bool false)], args := [d1, d2, d3, d4, d5, d6] }
  | _ => none }
def WinLessWrongFalsely : Prop := winLessRow.holds Try.pinned (OpenSpec.ofChange winLessWrong)

/-- 'rallentandolaw10.WinOrder': WHATEVER THE INPUT: true; the input reads as it did. -/
def winOrderSpec : ChangeSpec := { name := "winOrder", fn := fun _ => fun
  | [d1, d2, d3, d4, d5] => { results := [.lit (.bool true)], args := [d1, d2, d3, d4, d5] }
  | _ => none }
def winOrderRow : OpenClaim := { program := "ytnjhjgkekmjmdaa", sum := "2c37e62a819d73310ba6c7e33798463a0f192fd979388fe7ca19af5457f06369", func := "rallentando/rallentandolaw10.WinOrder", spec := "winOrder", unfollowed := true, recurses := true, apart := false }
def WinOrderSaid : Prop := winOrderRow.holds Try.pinned (OpenSpec.ofChange winOrderSpec)

/-- ITS FALSE NEIGHBOUR: 'it returns false'. Refute it at one input. -/
def winOrderWrong : ChangeSpec := { name := "winOrder", fn := fun _ => fun
  | [d1, d2, d3, d4, d5] => { results := [.lit (.bool false)], args := [d1, d2, d3, d4, d5] }
  | _ => none }
def WinOrderWrongFalsely : Prop := winOrderRow.holds Try.pinned (OpenSpec.ofChange winOrderWrong)

/-- 'rallentandolaw08.ZoneOrder': WHATEVER THE INPUT: true; the input reads as it did. -/
def zoneOrderSpec : ChangeSpec := { name := "zoneOrder", fn := fun _ => fun
  | [d1, d2, d3] => { results := [.lit (.bool true)], args := [d1, d2, d3] }
  | _ => none }
def zoneOrderRow : OpenClaim := { program := "ytnjhjgkekmjmdaa", sum := "2c37e62a819d73310ba6c7e33798463a0f192fd979388fe7ca19af5457f06369", func := "rallentando/rallentandolaw08.ZoneOrder", spec := "zoneOrder", unfollowed := true, recurses := true, apart := false }
def ZoneOrderSaid : Prop := zoneOrderRow.holds Try.pinned (OpenSpec.ofChange zoneOrderSpec)

/-- ITS FALSE NEIGHBOUR: 'it returns false'. Refute it at one input. -/
def zoneOrderWrong : ChangeSpec := { name := "zoneOrder", fn := fun _ => fun
  | [d1, d2, d3] => { results := [.lit (.bool false)], args := [d1, d2, d3] }
  | _ => none }
def ZoneOrderWrongFalsely : Prop := zoneOrderRow.holds Try.pinned (OpenSpec.ofChange zoneOrderWrong)

/-- 'rallentandolaw11.MinusNone': WHATEVER THE INPUT: true; the input reads as it did. -/
def minusNoneSpec : ChangeSpec := { name := "minusNone", fn := fun _ => fun
  | [d1, d2] => { results := [.lit (.bool true)], args := [d1, d2] }
  | _ => none }
def minusNoneRow : OpenClaim := { program := "ytnjhjgkekmjmdaa", sum := "2c37e62a819d73310ba6c7e33798463a0f192fd979388fe7ca19af5457f06369", func := "rallentando/rallentandolaw11.MinusNone", spec := "minusNone", unfollowed := true, recurses := true, apart := false }
def MinusNoneSaid : Prop := minusNoneRow.holds Try.pinned (OpenSpec.ofChange minusNoneSpec)

/-- ITS FALSE NEIGHBOUR: 'it returns false'. Refute it at one input. -/
def minusNoneWrong : ChangeSpec := { name := "minusNone", fn := fun _ => fun
  | [d1, d2] => { results := [.lit (.bool false)], args := [d1, d2] }
  | _ => none }
def MinusNoneWrongFalsely : Prop := minusNoneRow.holds Try.pinned (OpenSpec.ofChange minusNoneWrong)

/-- 'rallentandolaw09.CompOrder': WHATEVER THE INPUT: true; the input reads as it did. -/
def compOrderSpec : ChangeSpec := { name := "compOrder", fn := fun _ => fun
  | [d1, d2, d3] => { results := [.lit (.bool true)], args := [d1, d2, d3] }
  | _ => none }
def compOrderRow : OpenClaim := { program := "ytnjhjgkekmjmdaa", sum := "2c37e62a819d73310ba6c7e33798463a0f192fd979388fe7ca19af5457f06369", func := "rallentando/rallentandolaw09.CompOrder", spec := "compOrder", unfollowed := true, recurses := true, apart := false }
def CompOrderSaid : Prop := compOrderRow.holds Try.pinned (OpenSpec.ofChange compOrderSpec)

/-- ITS FALSE NEIGHBOUR: 'it returns false'. Refute it at one input. -/
def compOrderWrong : ChangeSpec := { name := "compOrder", fn := fun _ => fun
  | [d1, d2, d3] => { results := [.lit (.bool false)], args := [d1, d2, d3] }
  | _ => none }
def CompOrderWrongFalsely : Prop := compOrderRow.holds Try.pinned (OpenSpec.ofChange compOrderWrong)

/-- 'rallentandolaw11.MinusPoints': WHATEVER THE INPUT: true; the input reads as it did. -/
def minusPointsSpec : ChangeSpec := { name := "minusPoints", fn := fun _ => fun
  | [d1, d2, d3] => { results := [.lit (.bool true)], args := [d1, d2, d3] }
  | _ => none }
def minusPointsRow : OpenClaim := { program := "ytnjhjgkekmjmdaa", sum := "2c37e62a819d73310ba6c7e33798463a0f192fd979388fe7ca19af5457f06369", func := "rallentando/rallentandolaw11.MinusPoints", spec := "minusPoints", unfollowed := true, recurses := true, apart := false }
def MinusPointsSaid : Prop := minusPointsRow.holds Try.pinned (OpenSpec.ofChange minusPointsSpec)

/-- ITS FALSE NEIGHBOUR: 'it returns false'. Refute it at one input. -/
def minusPointsWrong : ChangeSpec := { name := "minusPoints", fn := fun _ => fun
  | [d1, d2, d3] => { results := [.lit (.bool false)], args := [d1, d2, d3] }
  | _ => none }
def MinusPointsWrongFalsely : Prop := minusPointsRow.holds Try.pinned (OpenSpec.ofChange minusPointsWrong)

/-- 'rallentandolaw08.ZoneMeets': WHATEVER THE INPUT: true; the input reads as it did. -/
def zoneMeetsSpec : ChangeSpec := { name := "zoneMeets", fn := fun _ => fun
  | [d1, d2, d3] => { results := [.lit (.bool true)], args := [d1, d2, d3] }
  | _ => none }
def zoneMeetsRow : OpenClaim := { program := "ytnjhjgkekmjmdaa", sum := "2c37e62a819d73310ba6c7e33798463a0f192fd979388fe7ca19af5457f06369", func := "rallentando/rallentandolaw08.ZoneMeets", spec := "zoneMeets", unfollowed := true, recurses := true, apart := false }
def ZoneMeetsSaid : Prop := zoneMeetsRow.holds Try.pinned (OpenSpec.ofChange zoneMeetsSpec)

/-- ITS FALSE NEIGHBOUR: 'it returns false'. Refute it at one input. -/
def zoneMeetsWrong : ChangeSpec := { name := "zoneMeets", fn := fun _ => fun
  | [d1, d2, d3] => { results := [.lit (.bool false)], args := [d1, d2, d3] }
  | _ => none }
def ZoneMeetsWrongFalsely : Prop := zoneMeetsRow.holds Try.pinned (OpenSpec.ofChange zoneMeetsWrong)

/-- 'rallentandolaw10.WinPoints': WHATEVER THE INPUT: true; the input reads as it did. -/
def winPointsSpec : ChangeSpec := { name := "winPoints", fn := fun _ => fun
  | [d1, d2, d3, d4, d5] => { results := [.lit (.bool true)], args := [d1, d2, d3, d4, d5] }
  | _ => none }
def winPointsRow : OpenClaim := { program := "ytnjhjgkekmjmdaa", sum := "2c37e62a819d73310ba6c7e33798463a0f192fd979388fe7ca19af5457f06369", func := "rallentando/rallentandolaw10.WinPoints", spec := "winPoints", inPlace := ["math/bits.Sub64"], unfollowed := true, recurses := true, apart := false }
def WinPointsSaid : Prop := winPointsRow.holds Try.pinned (OpenSpec.ofChange winPointsSpec)

/-- ITS FALSE NEIGHBOUR: 'it returns false'. Refute it at one input. -/
def winPointsWrong : ChangeSpec := { name := "winPoints", fn := fun _ => fun
  | [d1, d2, d3, d4, d5] => { results := [.lit (.bool false)], args := [d1, d2, d3, d4, d5] }
  | _ => none }
def WinPointsWrongFalsely : Prop := winPointsRow.holds Try.pinned (OpenSpec.ofChange winPointsWrong)

/-- 'rallentandolaw10.WinShifts': WHATEVER THE INPUT: true; the input reads as it did. -/
def winShiftsSpec : ChangeSpec := { name := "winShifts", fn := fun _ => fun
  | [d1, d2, d3] => { results := [.lit (.bool true)], args := [d1, d2, d3] }
  | _ => none }
def winShiftsRow : OpenClaim := { program := "ytnjhjgkekmjmdaa", sum := "2c37e62a819d73310ba6c7e33798463a0f192fd979388fe7ca19af5457f06369", func := "rallentando/rallentandolaw10.WinShifts", spec := "winShifts", inPlace := ["math/bits.Sub64"], unfollowed := true, recurses := true, apart := false }
def WinShiftsSaid : Prop := winShiftsRow.holds Try.pinned (OpenSpec.ofChange winShiftsSpec)

/-- ITS FALSE NEIGHBOUR: 'it returns false'. Refute it at one input. -/
def winShiftsWrong : ChangeSpec := { name := "winShifts", fn := fun _ => fun
  | [d1, d2, d3] => { results := [.lit (.bool false)], args := [d1, d2, d3] }
  | _ => none }
def WinShiftsWrongFalsely : Prop := winShiftsRow.holds Try.pinned (OpenSpec.ofChange winShiftsWrong)

/-- 'rallentandolaw09.CompPoints': WHATEVER THE INPUT: true; the input reads as it did. -/
def compPointsSpec : ChangeSpec := { name := "compPoints", fn := fun _ => fun
  | [d1, d2, d3] => { results := [.lit (.bool true)], args := [d1, d2, d3] }
  | _ => none }
def compPointsRow : OpenClaim := { program := "ytnjhjgkekmjmdaa", sum := "2c37e62a819d73310ba6c7e33798463a0f192fd979388fe7ca19af5457f06369", func := "rallentando/rallentandolaw09.CompPoints", spec := "compPoints", inPlace := ["math/bits.Sub64"], unfollowed := true, recurses := true, apart := false }
def CompPointsSaid : Prop := compPointsRow.holds Try.pinned (OpenSpec.ofChange compPointsSpec)

/-- ITS FALSE NEIGHBOUR: 'it returns false'. Refute it at one input. -/
def compPointsWrong : ChangeSpec := { name := "compPoints", fn := fun _ => fun
  | [d1, d2, d3] => { results := [.lit (.bool false)], args := [d1, d2, d3] }
  | _ => none }
def CompPointsWrongFalsely : Prop := compPointsRow.holds Try.pinned (OpenSpec.ofChange compPointsWrong)

/-- 'rallentandolaw08.ZoneNames': WHATEVER THE INPUT: true; the input reads as it did. -/
def zoneNamesSpec : ChangeSpec := { name := "zoneNames", fn := fun _ => fun
  | [] => { results := [.lit (.bool true)], args := [] }
  | _ => none }
def zoneNamesRow : OpenClaim := { program := "ytnjhjgkekmjmdaa", sum := "2c37e62a819d73310ba6c7e33798463a0f192fd979388fe7ca19af5457f06369", func := "rallentando/rallentandolaw08.ZoneNames", spec := "zoneNames", inPlace := ["math/bits.Sub64"], unfollowed := true, recurses := true, apart := false }
def ZoneNamesSaid : Prop := zoneNamesRow.holds Try.pinned (OpenSpec.ofChange zoneNamesSpec)

/-- ITS FALSE NEIGHBOUR: 'it returns false'. Refute it at one input. -/
def zoneNamesWrong : ChangeSpec := { name := "zoneNames", fn := fun _ => fun
  | [] => { results := [.lit (.bool false)], args := [] }
  | _ => none }
def ZoneNamesWrongFalsely : Prop := zoneNamesRow.holds Try.pinned (OpenSpec.ofChange zoneNamesWrong)

/-- 'rallentandolaw08.ZonePicks': WHATEVER THE INPUT: true; the input reads as it did. -/
def zonePicksSpec : ChangeSpec := { name := "zonePicks", fn := fun _ => fun
  | [d1, d2] => { results := [.lit (.bool true)], args := [d1, d2] }
  | _ => none }
def zonePicksRow : OpenClaim := { program := "ytnjhjgkekmjmdaa", sum := "2c37e62a819d73310ba6c7e33798463a0f192fd979388fe7ca19af5457f06369", func := "rallentando/rallentandolaw08.ZonePicks", spec := "zonePicks", inPlace := ["math/bits.Sub64"], unfollowed := true, recurses := true, apart := false }
def ZonePicksSaid : Prop := zonePicksRow.holds Try.pinned (OpenSpec.ofChange zonePicksSpec)

/-- ITS FALSE NEIGHBOUR: 'it returns false'. Refute it at one input. -/
def zonePicksWrong : ChangeSpec := { name := "zonePicks", fn := fun _ => fun
  | [d1, d2] => { results := [.lit (.bool false)], args := [d1, d2] }
  | _ => none }
def ZonePicksWrongFalsely : Prop := zonePicksRow.holds Try.pinned (OpenSpec.ofChange zonePicksWrong)

/-- 'rallentandolaw09.CompFirsts': WHATEVER THE INPUT: true; the input reads as it did. -/
def compFirstsSpec : ChangeSpec := { name := "compFirsts", fn := fun _ => fun
  | [d1, d2] => { results := [.lit (.bool true)], args := [d1, d2] }
  | _ => none }
def compFirstsRow : OpenClaim := { program := "ytnjhjgkekmjmdaa", sum := "2c37e62a819d73310ba6c7e33798463a0f192fd979388fe7ca19af5457f06369", func := "rallentando/rallentandolaw09.CompFirsts", spec := "compFirsts", inPlace := ["math/bits.Sub64"], unfollowed := true, recurses := true, apart := false }
def CompFirstsSaid : Prop := compFirstsRow.holds Try.pinned (OpenSpec.ofChange compFirstsSpec)

/-- ITS FALSE NEIGHBOUR: 'it returns false'. Refute it at one input. -/
def compFirstsWrong : ChangeSpec := { name := "compFirsts", fn := fun _ => fun
  | [d1, d2] => { results := [.lit (.bool false)], args := [d1, d2] }
  | _ => none }
def CompFirstsWrongFalsely : Prop := compFirstsRow.holds Try.pinned (OpenSpec.ofChange compFirstsWrong)

/- THE SECOND FORM. 'bulk': how many values and letters a reading holds, each counted each time it is reached (what is shared counts as often as it is met; a slice's spare places count too). A statement '..UptoSaid' is the law's where the arguments, and the package variables that the reading takes, are together of bulk at most 1048576: NARROWER than '..Said'. Prove '..Said' where nothing that the law and all that it calls make is longer than what came in: it says more and counts as full. Else prove '..UptoSaid'. A law counts once. -/
mutual
def uptoBulk {H : Type} : DataW H → Nat
  | .lit (.string bytes) => bytes.length + 1
  | .lit _ => 1
  | .nil => 1
  | .ptr d => uptoBulk d + 1
  | .slice elems spare => uptoBulkAll elems + uptoBulkAll spare + 1
  | .agg parts => uptoBulkAll parts + 1
  | .iface _ d => uptoBulk d + 1
  | .map entries => uptoBulkEntries entries + 1
  | .held _ => 1
def uptoBulkAll {H : Type} : List (DataW H) → Nat
  | [] => 0
  | d :: r => uptoBulk d + uptoBulkAll r
def uptoBulkEntries {H : Type} : List (Lit × DataW H) → Nat
  | [] => 0
  | x :: r => uptoBulkEntry x + uptoBulkEntries r
def uptoBulkEntry {H : Type} : Lit × DataW H → Nat
  | (.string bytes, d) => bytes.length + uptoBulk d + 1
  | (_, d) => uptoBulk d + 1
 end
def uptoSmall : (H : Type) → List (DataW H) → Bool := fun _ ds => decide (uptoBulkAll ds ≤ 1048576)
def OpenSpec.upto (s : _root_.Go.ChangeSpec) : _root_.Go.OpenSpec := { _root_.Go.OpenSpec.ofChange s with cond := some uptoSmall }

/-- 'rallentandolaw08.ZoneMakes', WHERE WHAT IT READS IS OF BULK AT MOST 1048576: true; the input reads as it did. -/
def zoneMakesUptoRow : OpenClaim := { program := "ytnjhjgkekmjmdaa", sum := "2c37e62a819d73310ba6c7e33798463a0f192fd979388fe7ca19af5457f06369", func := "rallentando/rallentandolaw08.ZoneMakes", spec := "zoneMakes", unfollowed := true, recurses := true, apart := false, narrowed := true }
def ZoneMakesUptoSaid : Prop := zoneMakesUptoRow.holds Try.pinned (OpenSpec.upto zoneMakesSpec)

/-- 'rallentandolaw11.MinusTells', WHERE WHAT IT READS IS OF BULK AT MOST 1048576: true; the input reads as it did. -/
def minusTellsUptoRow : OpenClaim := { program := "ytnjhjgkekmjmdaa", sum := "2c37e62a819d73310ba6c7e33798463a0f192fd979388fe7ca19af5457f06369", func := "rallentando/rallentandolaw11.MinusTells", spec := "minusTells", unfollowed := true, recurses := true, apart := false, narrowed := true }
def MinusTellsUptoSaid : Prop := minusTellsUptoRow.holds Try.pinned (OpenSpec.upto minusTellsSpec)

/-- 'rallentandolaw09.CompTells', WHERE WHAT IT READS IS OF BULK AT MOST 1048576: true; the input reads as it did. -/
def compTellsUptoRow : OpenClaim := { program := "ytnjhjgkekmjmdaa", sum := "2c37e62a819d73310ba6c7e33798463a0f192fd979388fe7ca19af5457f06369", func := "rallentando/rallentandolaw09.CompTells", spec := "compTells", unfollowed := true, recurses := true, apart := false, narrowed := true }
def CompTellsUptoSaid : Prop := compTellsUptoRow.holds Try.pinned (OpenSpec.upto compTellsSpec)

/-- 'rallentandolaw10.WinTells', WHERE WHAT IT READS IS OF BULK AT MOST 1048576: true; the input reads as it did. -/
def winTellsUptoRow : OpenClaim := { program := "ytnjhjgkekmjmdaa", sum := "2c37e62a819d73310ba6c7e33798463a0f192fd979388fe7ca19af5457f06369", func := "rallentando/rallentandolaw10.WinTells", spec := "winTells", unfollowed := true, recurses := true, apart := false, narrowed := true }
def WinTellsUptoSaid : Prop := winTellsUptoRow.holds Try.pinned (OpenSpec.upto winTellsSpec)

/-- 'rallentandolaw10.WinNames', WHERE WHAT IT READS IS OF BULK AT MOST 1048576: true; the input reads as it did. -/
def winNamesUptoRow : OpenClaim := { program := "ytnjhjgkekmjmdaa", sum := "2c37e62a819d73310ba6c7e33798463a0f192fd979388fe7ca19af5457f06369", func := "rallentando/rallentandolaw10.WinNames", spec := "winNames", unfollowed := true, recurses := true, apart := false, narrowed := true }
def WinNamesUptoSaid : Prop := winNamesUptoRow.holds Try.pinned (OpenSpec.upto winNamesSpec)

/-- 'rallentandolaw11.MinusNames', WHERE WHAT IT READS IS OF BULK AT MOST 1048576: true; the input reads as it did. -/
def minusNamesUptoRow : OpenClaim := { program := "ytnjhjgkekmjmdaa", sum := "2c37e62a819d73310ba6c7e33798463a0f192fd979388fe7ca19af5457f06369", func := "rallentando/rallentandolaw11.MinusNames", spec := "minusNames", unfollowed := true, recurses := true, apart := false, narrowed := true }
def MinusNamesUptoSaid : Prop := minusNamesUptoRow.holds Try.pinned (OpenSpec.upto minusNamesSpec)

/-- 'rallentandolaw11.MinusOrder', WHERE WHAT IT READS IS OF BULK AT MOST 1048576: true; the input reads as it did. -/
def minusOrderUptoRow : OpenClaim := { program := "ytnjhjgkekmjmdaa", sum := "2c37e62a819d73310ba6c7e33798463a0f192fd979388fe7ca19af5457f06369", func := "rallentando/rallentandolaw11.MinusOrder", spec := "minusOrder", unfollowed := true, recurses := true, apart := false, narrowed := true }
def MinusOrderUptoSaid : Prop := minusOrderUptoRow.holds Try.pinned (OpenSpec.upto minusOrderSpec)

/-- 'rallentandolaw09.CompNames', WHERE WHAT IT READS IS OF BULK AT MOST 1048576: true; the input reads as it did. -/
def compNamesUptoRow : OpenClaim := { program := "ytnjhjgkekmjmdaa", sum := "2c37e62a819d73310ba6c7e33798463a0f192fd979388fe7ca19af5457f06369", func := "rallentando/rallentandolaw09.CompNames", spec := "compNames", unfollowed := true, recurses := true, apart := false, narrowed := true }
def CompNamesUptoSaid : Prop := compNamesUptoRow.holds Try.pinned (OpenSpec.upto compNamesSpec)

/-- 'rallentandolaw10.WinLess', WHERE WHAT IT READS IS OF BULK AT MOST 1048576: true; the input reads as it did. -/
def winLessUptoRow : OpenClaim := { program := "ytnjhjgkekmjmdaa", sum := "2c37e62a819d73310ba6c7e33798463a0f192fd979388fe7ca19af5457f06369", func := "rallentando/rallentandolaw10.WinLess", spec := "winLess", unfollowed := true, recurses := true, apart := false, narrowed := true }
def WinLessUptoSaid : Prop := winLessUptoRow.holds Try.pinned (OpenSpec.upto winLessSpec)

/-- 'rallentandolaw10.WinOrder', WHERE WHAT IT READS IS OF BULK AT MOST 1048576: true; the input reads as it did. -/
def winOrderUptoRow : OpenClaim := { program := "ytnjhjgkekmjmdaa", sum := "2c37e62a819d73310ba6c7e33798463a0f192fd979388fe7ca19af5457f06369", func := "rallentando/rallentandolaw10.WinOrder", spec := "winOrder", unfollowed := true, recurses := true, apart := false, narrowed := true }
def WinOrderUptoSaid : Prop := winOrderUptoRow.holds Try.pinned (OpenSpec.upto winOrderSpec)

/-- 'rallentandolaw08.ZoneOrder', WHERE WHAT IT READS IS OF BULK AT MOST 1048576: true; the input reads as it did. -/
def zoneOrderUptoRow : OpenClaim := { program := "ytnjhjgkekmjmdaa", sum := "2c37e62a819d73310ba6c7e33798463a0f192fd979388fe7ca19af5457f06369", func := "rallentando/rallentandolaw08.ZoneOrder", spec := "zoneOrder", unfollowed := true, recurses := true, apart := false, narrowed := true }
def ZoneOrderUptoSaid : Prop := zoneOrderUptoRow.holds Try.pinned (OpenSpec.upto zoneOrderSpec)

/-- 'rallentandolaw11.MinusNone', WHERE WHAT IT READS IS OF BULK AT MOST 1048576: true; the input reads as it did. -/
def minusNoneUptoRow : OpenClaim := { program := "ytnjhjgkekmjmdaa", sum := "2c37e62a819d73310ba6c7e33798463a0f192fd979388fe7ca19af5457f06369", func := "rallentando/rallentandolaw11.MinusNone", spec := "minusNone", unfollowed := true, recurses := true, apart := false, narrowed := true }
def MinusNoneUptoSaid : Prop := minusNoneUptoRow.holds Try.pinned (OpenSpec.upto minusNoneSpec)

/-- 'rallentandolaw09.CompOrder', WHERE WHAT IT READS IS OF BULK AT MOST 1048576: true; the input reads as it did. -/
def compOrderUptoRow : OpenClaim := { program := "ytnjhjgkekmjmdaa", sum := "2c37e62a819d73310ba6c7e33798463a0f192fd979388fe7ca19af5457f06369", func := "rallentando/rallentandolaw09.CompOrder", spec := "compOrder", unfollowed := true, recurses := true, apart := false, narrowed := true }
def CompOrderUptoSaid : Prop := compOrderUptoRow.holds Try.pinned (OpenSpec.upto compOrderSpec)

/-- 'rallentandolaw11.MinusPoints', WHERE WHAT IT READS IS OF BULK AT MOST 1048576: true; the input reads as it did. -/
def minusPointsUptoRow : OpenClaim := { program := "ytnjhjgkekmjmdaa", sum := "2c37e62a819d73310ba6c7e33798463a0f192fd979388fe7ca19af5457f06369", func := "rallentando/rallentandolaw11.MinusPoints", spec := "minusPoints", unfollowed := true, recurses := true, apart := false, narrowed := true }
def MinusPointsUptoSaid : Prop := minusPointsUptoRow.holds Try.pinned (OpenSpec.upto minusPointsSpec)

/-- 'rallentandolaw08.ZoneMeets', WHERE WHAT IT READS IS OF BULK AT MOST 1048576: true; the input reads as it did. -/
def zoneMeetsUptoRow : OpenClaim := { program := "ytnjhjgkekmjmdaa", sum := "2c37e62a819d73310ba6c7e33798463a0f192fd979388fe7ca19af5457f06369", func := "rallentando/rallentandolaw08.ZoneMeets", spec := "zoneMeets", unfollowed := true, recurses := true, apart := false, narrowed := true }
def ZoneMeetsUptoSaid : Prop := zoneMeetsUptoRow.holds Try.pinned (OpenSpec.upto zoneMeetsSpec)

/-- 'rallentandolaw10.WinPoints', WHERE WHAT IT READS IS OF BULK AT MOST 1048576: true; the input reads as it did. -/
def winPointsUptoRow : OpenClaim := { program := "ytnjhjgkekmjmdaa", sum := "2c37e62a819d73310ba6c7e33798463a0f192fd979388fe7ca19af5457f06369", func := "rallentando/rallentandolaw10.WinPoints", spec := "winPoints", inPlace := ["math/bits.Sub64"], unfollowed := true, recurses := true, apart := false, narrowed := true }
def WinPointsUptoSaid : Prop := winPointsUptoRow.holds Try.pinned (OpenSpec.upto winPointsSpec)

/-- 'rallentandolaw10.WinShifts', WHERE WHAT IT READS IS OF BULK AT MOST 1048576: true; the input reads as it did. -/
def winShiftsUptoRow : OpenClaim := { program := "ytnjhjgkekmjmdaa", sum := "2c37e62a819d73310ba6c7e33798463a0f192fd979388fe7ca19af5457f06369", func := "rallentando/rallentandolaw10.WinShifts", spec := "winShifts", inPlace := ["math/bits.Sub64"], unfollowed := true, recurses := true, apart := false, narrowed := true }
def WinShiftsUptoSaid : Prop := winShiftsUptoRow.holds Try.pinned (OpenSpec.upto winShiftsSpec)

/-- 'rallentandolaw09.CompPoints', WHERE WHAT IT READS IS OF BULK AT MOST 1048576: true; the input reads as it did. -/
def compPointsUptoRow : OpenClaim := { program := "ytnjhjgkekmjmdaa", sum := "2c37e62a819d73310ba6c7e33798463a0f192fd979388fe7ca19af5457f06369", func := "rallentando/rallentandolaw09.CompPoints", spec := "compPoints", inPlace := ["math/bits.Sub64"], unfollowed := true, recurses := true, apart := false, narrowed := true }
def CompPointsUptoSaid : Prop := compPointsUptoRow.holds Try.pinned (OpenSpec.upto compPointsSpec)

/-- 'rallentandolaw08.ZoneNames', WHERE WHAT IT READS IS OF BULK AT MOST 1048576: true; the input reads as it did. -/
def zoneNamesUptoRow : OpenClaim := { program := "ytnjhjgkekmjmdaa", sum := "2c37e62a819d73310ba6c7e33798463a0f192fd979388fe7ca19af5457f06369", func := "rallentando/rallentandolaw08.ZoneNames", spec := "zoneNames", inPlace := ["math/bits.Sub64"], unfollowed := true, recurses := true, apart := false, narrowed := true }
def ZoneNamesUptoSaid : Prop := zoneNamesUptoRow.holds Try.pinned (OpenSpec.upto zoneNamesSpec)

/-- 'rallentandolaw08.ZonePicks', WHERE WHAT IT READS IS OF BULK AT MOST 1048576: true; the input reads as it did. -/
def zonePicksUptoRow : OpenClaim := { program := "ytnjhjgkekmjmdaa", sum := "2c37e62a819d73310ba6c7e33798463a0f192fd979388fe7ca19af5457f06369", func := "rallentando/rallentandolaw08.ZonePicks", spec := "zonePicks", inPlace := ["math/bits.Sub64"], unfollowed := true, recurses := true, apart := false, narrowed := true }
def ZonePicksUptoSaid : Prop := zonePicksUptoRow.holds Try.pinned (OpenSpec.upto zonePicksSpec)

/-- 'rallentandolaw09.CompFirsts', WHERE WHAT IT READS IS OF BULK AT MOST 1048576: true; the input reads as it did. -/
def compFirstsUptoRow : OpenClaim := { program := "ytnjhjgkekmjmdaa", sum := "2c37e62a819d73310ba6c7e33798463a0f192fd979388fe7ca19af5457f06369", func := "rallentando/rallentandolaw09.CompFirsts", spec := "compFirsts", inPlace := ["math/bits.Sub64"], unfollowed := true, recurses := true, apart := false, narrowed := true }
def CompFirstsUptoSaid : Prop := compFirstsUptoRow.holds Try.pinned (OpenSpec.upto compFirstsSpec)

end Rows
end Go.Proofs.Ytnjhjgkekmjmdaa
