/-
  No cell of these rows narrows 'for every input' (looked for: loops, veiled, ifaces, maps, wideKeys, modest, calm, conditions, laid).
  DERIVED. THE GIVEN ROWS OF THIS SEAT. 13 by the template 'for every input the law returns true; each argument reads behind the call as it read before'; 0 by the template 'total and deterministic' (their statements: YtggjkibhffglbaaTotals.lean).
  GIVEN WITH THE SEED: the statements are not yours to turn. If you find one false, say at which input.
  Laid BY PROGRAM, IN A SANDBOX (cutbox-rows.mjs): the forced cells as the released guide's own fill.sh prints them over the translation a10615f1358e4e7b… (all of the seat's roots in one cut). By AI agents, Wed Nov 11 2026. No macro, syntax, notation, axiom, sorry.
-/
import Derived.Test.YtggjkibhffglbaaChecked
import GoSem.Claim
import GoSem.ClaimJoined
import GoSem.ClaimMapViews
import Derived.JoinedTies
import Derived.KernelRfl
namespace Go.Proofs.Ytggjkibhffglbaa
/- THE CELL 'sum', in the pinned program and in every row, IS THE sha256 OF THE DUMP (.gsa) THAT YtggjkibhffglbaaProg.lean LOADS. Nothing in Lean hashes anything: it is a label: what it is worth is what the hold of that sum in a sandbox is worth. -/
noncomputable def Try.pinned : Pinned := { name := "ytggjkibhffglbaa", sum := "a10615f1358e4e7b78acaeaf3913f19c228904435b4c5df5397ebad677f87a11", checked := Try.checked }
namespace Rows
def none {H : Type} : Left H := { results := [], args := [] }

/-- 'rallentandolaw05.TightTells': WHATEVER THE INPUT: true; the input reads as it did. -/
def tightTellsSpec : ChangeSpec := { name := "tightTells", fn := fun _ => fun
  | [d1, d2, d3, d4, d5, d6] => { results := [.lit (.bool true)], args := [d1, d2, d3, d4, d5, d6] }
  | _ => none }
def tightTellsRow : OpenClaim := { program := "ytggjkibhffglbaa", sum := "a10615f1358e4e7b78acaeaf3913f19c228904435b4c5df5397ebad677f87a11", func := "rallentando/rallentandolaw05.TightTells", spec := "tightTells", unfollowed := true, recurses := true, apart := false }
def TightTellsSaid : Prop := tightTellsRow.holds Try.pinned (OpenSpec.ofChange tightTellsSpec)

/-- ITS FALSE NEIGHBOUR: 'it returns false'. Refute it at one input. -/
def tightTellsWrong : ChangeSpec := { name := "tightTells", fn := fun _ => fun
  | [d1, d2, d3, d4, d5, d6] => { results := [.lit (.bool false)], args := [d1, d2, d3, d4, d5, d6] }
  | _ => none }
def TightTellsWrongFalsely : Prop := tightTellsRow.holds Try.pinned (OpenSpec.ofChange tightTellsWrong)

/-- 'rallentandolaw08.ZoneMakes': WHATEVER THE INPUT: true; the input reads as it did. -/
def zoneMakesSpec : ChangeSpec := { name := "zoneMakes", fn := fun _ => fun
  | [d1, d2, d3] => { results := [.lit (.bool true)], args := [d1, d2, d3] }
  | _ => none }
def zoneMakesRow : OpenClaim := { program := "ytggjkibhffglbaa", sum := "a10615f1358e4e7b78acaeaf3913f19c228904435b4c5df5397ebad677f87a11", func := "rallentando/rallentandolaw08.ZoneMakes", spec := "zoneMakes", unfollowed := true, recurses := true, apart := false }
def ZoneMakesSaid : Prop := zoneMakesRow.holds Try.pinned (OpenSpec.ofChange zoneMakesSpec)

/-- ITS FALSE NEIGHBOUR: 'it returns false'. Refute it at one input. -/
def zoneMakesWrong : ChangeSpec := { name := "zoneMakes", fn := fun _ => fun
  | [d1, d2, d3] => { results := [.lit (.bool false)], args := [d1, d2, d3] }
  | _ => none }
def ZoneMakesWrongFalsely : Prop := zoneMakesRow.holds Try.pinned (OpenSpec.ofChange zoneMakesWrong)

/-- 'rallentandolaw08.ZoneOrder': WHATEVER THE INPUT: true; the input reads as it did. -/
def zoneOrderSpec : ChangeSpec := { name := "zoneOrder", fn := fun _ => fun
  | [d1, d2, d3] => { results := [.lit (.bool true)], args := [d1, d2, d3] }
  | _ => none }
def zoneOrderRow : OpenClaim := { program := "ytggjkibhffglbaa", sum := "a10615f1358e4e7b78acaeaf3913f19c228904435b4c5df5397ebad677f87a11", func := "rallentando/rallentandolaw08.ZoneOrder", spec := "zoneOrder", unfollowed := true, recurses := true, apart := false }
def ZoneOrderSaid : Prop := zoneOrderRow.holds Try.pinned (OpenSpec.ofChange zoneOrderSpec)

/-- ITS FALSE NEIGHBOUR: 'it returns false'. Refute it at one input. -/
def zoneOrderWrong : ChangeSpec := { name := "zoneOrder", fn := fun _ => fun
  | [d1, d2, d3] => { results := [.lit (.bool false)], args := [d1, d2, d3] }
  | _ => none }
def ZoneOrderWrongFalsely : Prop := zoneOrderRow.holds Try.pinned (OpenSpec.ofChange zoneOrderWrong)

/-- 'rallentandolaw06.InclTells': WHATEVER THE INPUT: true; the input reads as it did. -/
def inclTellsSpec : ChangeSpec := { name := "inclTells", fn := fun _ => fun
  | [d1, d2] => { results := [.lit (.bool true)], args := [d1, d2] }
  | _ => none }
def inclTellsRow : OpenClaim := { program := "ytggjkibhffglbaa", sum := "a10615f1358e4e7b78acaeaf3913f19c228904435b4c5df5397ebad677f87a11", func := "rallentando/rallentandolaw06.InclTells", spec := "inclTells", inPlace := ["math/bits.Sub64"], unfollowed := true, recurses := true, apart := false }
def InclTellsSaid : Prop := inclTellsRow.holds Try.pinned (OpenSpec.ofChange inclTellsSpec)

/-- ITS FALSE NEIGHBOUR: 'it returns false'. Refute it at one input. -/
def inclTellsWrong : ChangeSpec := { name := "inclTells", fn := fun _ => fun
  | [d1, d2] => { results := [.lit (.bool false)], args := [d1, d2] }
  | _ => none }
def InclTellsWrongFalsely : Prop := inclTellsRow.holds Try.pinned (OpenSpec.ofChange inclTellsWrong)

/-- 'rallentandolaw06.InclChain': WHATEVER THE INPUT: true; the input reads as it did. -/
def inclChainSpec : ChangeSpec := { name := "inclChain", fn := fun _ => fun
  | [d1, d2, d3] => { results := [.lit (.bool true)], args := [d1, d2, d3] }
  | _ => none }
def inclChainRow : OpenClaim := { program := "ytggjkibhffglbaa", sum := "a10615f1358e4e7b78acaeaf3913f19c228904435b4c5df5397ebad677f87a11", func := "rallentando/rallentandolaw06.InclChain", spec := "inclChain", inPlace := ["math/bits.Sub64"], unfollowed := true, recurses := true, apart := false }
def InclChainSaid : Prop := inclChainRow.holds Try.pinned (OpenSpec.ofChange inclChainSpec)

/-- ITS FALSE NEIGHBOUR: 'it returns false'. Refute it at one input. -/
def inclChainWrong : ChangeSpec := { name := "inclChain", fn := fun _ => fun
  | [d1, d2, d3] => { results := [.lit (.bool false)], args := [d1, d2, d3] }
  | _ => none }
def InclChainWrongFalsely : Prop := inclChainRow.holds Try.pinned (OpenSpec.ofChange inclChainWrong)

/-- 'rallentandolaw06.InclPicks': WHATEVER THE INPUT: true; the input reads as it did. -/
def inclPicksSpec : ChangeSpec := { name := "inclPicks", fn := fun _ => fun
  | [d] => { results := [.lit (.bool true)], args := [d] }
  | _ => none }
def inclPicksRow : OpenClaim := { program := "ytggjkibhffglbaa", sum := "a10615f1358e4e7b78acaeaf3913f19c228904435b4c5df5397ebad677f87a11", func := "rallentando/rallentandolaw06.InclPicks", spec := "inclPicks", inPlace := ["math/bits.Sub64"], unfollowed := true, recurses := true, apart := false }
def InclPicksSaid : Prop := inclPicksRow.holds Try.pinned (OpenSpec.ofChange inclPicksSpec)

/-- ITS FALSE NEIGHBOUR: 'it returns false'. Refute it at one input. -/
def inclPicksWrong : ChangeSpec := { name := "inclPicks", fn := fun _ => fun
  | [d] => { results := [.lit (.bool false)], args := [d] }
  | _ => none }
def InclPicksWrongFalsely : Prop := inclPicksRow.holds Try.pinned (OpenSpec.ofChange inclPicksWrong)

/-- 'rallentandolaw06.InclCommon': WHATEVER THE INPUT: true; the input reads as it did. -/
def inclCommonSpec : ChangeSpec := { name := "inclCommon", fn := fun _ => fun
  | [d1, d2, d3] => { results := [.lit (.bool true)], args := [d1, d2, d3] }
  | _ => none }
def inclCommonRow : OpenClaim := { program := "ytggjkibhffglbaa", sum := "a10615f1358e4e7b78acaeaf3913f19c228904435b4c5df5397ebad677f87a11", func := "rallentando/rallentandolaw06.InclCommon", spec := "inclCommon", inPlace := ["math/bits.Sub64"], unfollowed := true, recurses := true, apart := false }
def InclCommonSaid : Prop := inclCommonRow.holds Try.pinned (OpenSpec.ofChange inclCommonSpec)

/-- ITS FALSE NEIGHBOUR: 'it returns false'. Refute it at one input. -/
def inclCommonWrong : ChangeSpec := { name := "inclCommon", fn := fun _ => fun
  | [d1, d2, d3] => { results := [.lit (.bool false)], args := [d1, d2, d3] }
  | _ => none }
def InclCommonWrongFalsely : Prop := inclCommonRow.holds Try.pinned (OpenSpec.ofChange inclCommonWrong)

/-- 'rallentandolaw06.InclNames': WHATEVER THE INPUT: true; the input reads as it did. -/
def inclNamesSpec : ChangeSpec := { name := "inclNames", fn := fun _ => fun
  | [] => { results := [.lit (.bool true)], args := [] }
  | _ => none }
def inclNamesRow : OpenClaim := { program := "ytggjkibhffglbaa", sum := "a10615f1358e4e7b78acaeaf3913f19c228904435b4c5df5397ebad677f87a11", func := "rallentando/rallentandolaw06.InclNames", spec := "inclNames", inPlace := ["math/bits.Sub64"], unfollowed := true, recurses := true, apart := false }
def InclNamesSaid : Prop := inclNamesRow.holds Try.pinned (OpenSpec.ofChange inclNamesSpec)

/-- ITS FALSE NEIGHBOUR: 'it returns false'. Refute it at one input. -/
def inclNamesWrong : ChangeSpec := { name := "inclNames", fn := fun _ => fun
  | [] => { results := [.lit (.bool false)], args := [] }
  | _ => none }
def InclNamesWrongFalsely : Prop := inclNamesRow.holds Try.pinned (OpenSpec.ofChange inclNamesWrong)

/-- 'rallentandolaw06.InclKept': WHATEVER THE INPUT: true; the input reads as it did. -/
def inclKeptSpec : ChangeSpec := { name := "inclKept", fn := fun _ => fun
  | [d1, d2, d3] => { results := [.lit (.bool true)], args := [d1, d2, d3] }
  | _ => none }
def inclKeptRow : OpenClaim := { program := "ytggjkibhffglbaa", sum := "a10615f1358e4e7b78acaeaf3913f19c228904435b4c5df5397ebad677f87a11", func := "rallentando/rallentandolaw06.InclKept", spec := "inclKept", inPlace := ["math/bits.Sub64"], unfollowed := true, recurses := true, apart := false }
def InclKeptSaid : Prop := inclKeptRow.holds Try.pinned (OpenSpec.ofChange inclKeptSpec)

/-- ITS FALSE NEIGHBOUR: 'it returns false'. Refute it at one input. -/
def inclKeptWrong : ChangeSpec := { name := "inclKept", fn := fun _ => fun
  | [d1, d2, d3] => { results := [.lit (.bool false)], args := [d1, d2, d3] }
  | _ => none }
def InclKeptWrongFalsely : Prop := inclKeptRow.holds Try.pinned (OpenSpec.ofChange inclKeptWrong)

/-- 'rallentandolaw08.ZoneSpans': WHATEVER THE INPUT: true; the input reads as it did. -/
def zoneSpansSpec : ChangeSpec := { name := "zoneSpans", fn := fun _ => fun
  | [d1, d2, d3, d4] => { results := [.lit (.bool true)], args := [d1, d2, d3, d4] }
  | _ => none }
def zoneSpansRow : OpenClaim := { program := "ytggjkibhffglbaa", sum := "a10615f1358e4e7b78acaeaf3913f19c228904435b4c5df5397ebad677f87a11", func := "rallentando/rallentandolaw08.ZoneSpans", spec := "zoneSpans", inPlace := ["math/bits.Sub64"], unfollowed := true, recurses := true, apart := false }
def ZoneSpansSaid : Prop := zoneSpansRow.holds Try.pinned (OpenSpec.ofChange zoneSpansSpec)

/-- ITS FALSE NEIGHBOUR: 'it returns false'. Refute it at one input. -/
def zoneSpansWrong : ChangeSpec := { name := "zoneSpans", fn := fun _ => fun
  | [d1, d2, d3, d4] => { results := [.lit (.bool false)], args := [d1, d2, d3, d4] }
  | _ => none }
def ZoneSpansWrongFalsely : Prop := zoneSpansRow.holds Try.pinned (OpenSpec.ofChange zoneSpansWrong)

/-- 'rallentandolaw08.ZoneMeets': WHATEVER THE INPUT: true; the input reads as it did. -/
def zoneMeetsSpec : ChangeSpec := { name := "zoneMeets", fn := fun _ => fun
  | [d1, d2, d3] => { results := [.lit (.bool true)], args := [d1, d2, d3] }
  | _ => none }
def zoneMeetsRow : OpenClaim := { program := "ytggjkibhffglbaa", sum := "a10615f1358e4e7b78acaeaf3913f19c228904435b4c5df5397ebad677f87a11", func := "rallentando/rallentandolaw08.ZoneMeets", spec := "zoneMeets", unfollowed := true, recurses := true, apart := false }
def ZoneMeetsSaid : Prop := zoneMeetsRow.holds Try.pinned (OpenSpec.ofChange zoneMeetsSpec)

/-- ITS FALSE NEIGHBOUR: 'it returns false'. Refute it at one input. -/
def zoneMeetsWrong : ChangeSpec := { name := "zoneMeets", fn := fun _ => fun
  | [d1, d2, d3] => { results := [.lit (.bool false)], args := [d1, d2, d3] }
  | _ => none }
def ZoneMeetsWrongFalsely : Prop := zoneMeetsRow.holds Try.pinned (OpenSpec.ofChange zoneMeetsWrong)

/-- 'rallentandolaw08.ZoneNames': WHATEVER THE INPUT: true; the input reads as it did. -/
def zoneNamesSpec : ChangeSpec := { name := "zoneNames", fn := fun _ => fun
  | [] => { results := [.lit (.bool true)], args := [] }
  | _ => none }
def zoneNamesRow : OpenClaim := { program := "ytggjkibhffglbaa", sum := "a10615f1358e4e7b78acaeaf3913f19c228904435b4c5df5397ebad677f87a11", func := "rallentando/rallentandolaw08.ZoneNames", spec := "zoneNames", inPlace := ["math/bits.Sub64"], unfollowed := true, recurses := true, apart := false }
def ZoneNamesSaid : Prop := zoneNamesRow.holds Try.pinned (OpenSpec.ofChange zoneNamesSpec)

/-- ITS FALSE NEIGHBOUR: 'it returns false'. Refute it at one input. -/
def zoneNamesWrong : ChangeSpec := { name := "zoneNames", fn := fun _ => fun
  | [] => { results := [.lit (.bool false)], args := [] }
  | _ => none }
def ZoneNamesWrongFalsely : Prop := zoneNamesRow.holds Try.pinned (OpenSpec.ofChange zoneNamesWrong)

/-- 'rallentandolaw08.ZonePicks': WHATEVER THE INPUT: true; the input reads as it did. -/
def zonePicksSpec : ChangeSpec := { name := "zonePicks", fn := fun _ => fun
  | [d1, d2] => { results := [.lit (.bool true)], args := [d1, d2] }
  | _ => none }
def zonePicksRow : OpenClaim := { program := "ytggjkibhffglbaa", sum := "a10615f1358e4e7b78acaeaf3913f19c228904435b4c5df5397ebad677f87a11", func := "rallentando/rallentandolaw08.ZonePicks", spec := "zonePicks", inPlace := ["math/bits.Sub64"], unfollowed := true, recurses := true, apart := false }
def ZonePicksSaid : Prop := zonePicksRow.holds Try.pinned (OpenSpec.ofChange zonePicksSpec)

/-- ITS FALSE NEIGHBOUR: 'it returns false'. Refute it at one input. -/
def zonePicksWrong : ChangeSpec := { name := "zonePicks", fn := fun _ => fun
  | [d1, d2] => { results := [.lit (.bool false)], args := [d1, d2] }
  | _ => none }
def ZonePicksWrongFalsely : Prop := zonePicksRow.holds Try.pinned (OpenSpec.ofChange zonePicksWrong)

/- THE SECOND FORM. 'bulk': how many values and letters a reading holds, each counted each time it is reached (what is shared counts as often as it is met; a slice's spare places count too). A statement '..UptoSaid' is the law's where the arguments, and the package variables that the reading takes, are together of bulk at most 1048576: NARROWER than '..Said'. Prove '..Said' where nothing that the law and all that it calls make is longer than what came in: it says more and counts as full. Else prove '..UptoSaid'. A law counts once. -/
mutual
def uptoBulk {H : Type} : DataW H → Nat
  | .lit (.string bytes) => bytes.length + 1
  | .lit _ => 1
  | .nil => 1
  | .ptr d => uptoBulk d + 1
  | .slice elems spare => uptoBulkAll elems + uptoBulkAll spare + 1
  | .agg parts => uptoBulkAll parts + 1
  | .iface _ d => uptoBulk d + 1
  | .map entries => uptoBulkEntries entries + 1
  | .held _ => 1
def uptoBulkAll {H : Type} : List (DataW H) → Nat
  | [] => 0
  | d :: r => uptoBulk d + uptoBulkAll r
def uptoBulkEntries {H : Type} : List (Lit × DataW H) → Nat
  | [] => 0
  | x :: r => uptoBulkEntry x + uptoBulkEntries r
def uptoBulkEntry {H : Type} : Lit × DataW H → Nat
  | (.string bytes, d) => bytes.length + uptoBulk d + 1
  | (_, d) => uptoBulk d + 1
 end
def uptoSmall : (H : Type) → List (DataW H) → Bool := fun _ ds => decide (uptoBulkAll ds ≤ 1048576)
def OpenSpec.upto (s : _root_.Go.ChangeSpec) : _root_.Go.OpenSpec := { _root_.Go.OpenSpec.ofChange s with cond := some uptoSmall }

/-- 'rallentandolaw05.TightTells', WHERE WHAT IT READS IS OF BULK AT MOST 1048576: true; the input reads as it did. -/
def tightTellsUptoRow : OpenClaim := { program := "ytggjkibhffglbaa", sum := "a10615f1358e4e7b78acaeaf3913f19c228904435b4c5df5397ebad677f87a11", func := "rallentando/rallentandolaw05.TightTells", spec := "tightTells", unfollowed := true, recurses := true, apart := false, narrowed := true }
def TightTellsUptoSaid : Prop := tightTellsUptoRow.holds Try.pinned (OpenSpec.upto tightTellsSpec)

/-- 'rallentandolaw08.ZoneMakes', WHERE WHAT IT READS IS OF BULK AT MOST 1048576: true; the input reads as it did. -/
def zoneMakesUptoRow : OpenClaim := { program := "ytggjkibhffglbaa", sum := "a10615f1358e4e7b78acaeaf3913f19c228904435b4c5df5397ebad677f87a11", func := "rallentando/rallentandolaw08.ZoneMakes", spec := "zoneMakes", unfollowed := true, recurses := true, apart := false, narrowed := true }
def ZoneMakesUptoSaid : Prop := zoneMakesUptoRow.holds Try.pinned (OpenSpec.upto zoneMakesSpec)

/-- 'rallentandolaw08.ZoneOrder', WHERE WHAT IT READS IS OF BULK AT MOST 1048576: true; the input reads as it did. -/
def zoneOrderUptoRow : OpenClaim := { program := "ytggjkibhffglbaa", sum := "a10615f1358e4e7b78acaeaf3913f19c228904435b4c5df5397ebad677f87a11", func := "rallentando/rallentandolaw08.ZoneOrder", spec := "zoneOrder", unfollowed := true, recurses := true, apart := false, narrowed := true }
def ZoneOrderUptoSaid : Prop := zoneOrderUptoRow.holds Try.pinned (OpenSpec.upto zoneOrderSpec)

/-- 'rallentandolaw06.InclTells', WHERE WHAT IT READS IS OF BULK AT MOST 1048576: true; the input reads as it did. -/
def inclTellsUptoRow : OpenClaim := { program := "ytggjkibhffglbaa", sum := "a10615f1358e4e7b78acaeaf3913f19c228904435b4c5df5397ebad677f87a11", func := "rallentando/rallentandolaw06.InclTells", spec := "inclTells", inPlace := ["math/bits.Sub64"], unfollowed := true, recurses := true, apart := false, narrowed := true }
def InclTellsUptoSaid : Prop := inclTellsUptoRow.holds Try.pinned (OpenSpec.upto inclTellsSpec)

/-- 'rallentandolaw06.InclChain', WHERE WHAT IT READS IS OF BULK AT MOST 1048576: true; the input reads as it did. -/
def inclChainUptoRow : OpenClaim := { program := "ytggjkibhffglbaa", sum := "a10615f1358e4e7b78acaeaf3913f19c228904435b4c5df5397ebad677f87a11", func := "rallentando/rallentandolaw06.InclChain", spec := "inclChain", inPlace := ["math/bits.Sub64"], unfollowed := true, recurses := true, apart := false, narrowed := true }
def InclChainUptoSaid : Prop := inclChainUptoRow.holds Try.pinned (OpenSpec.upto inclChainSpec)

/-- 'rallentandolaw06.InclPicks', WHERE WHAT IT READS IS OF BULK AT MOST 1048576: true; the input reads as it did. -/
def inclPicksUptoRow : OpenClaim := { program := "ytggjkibhffglbaa", sum := "a10615f1358e4e7b78acaeaf3913f19c228904435b4c5df5397ebad677f87a11", func := "rallentando/rallentandolaw06.InclPicks", spec := "inclPicks", inPlace := ["math/bits.Sub64"], unfollowed := true, recurses := true, apart := false, narrowed := true }
def InclPicksUptoSaid : Prop := inclPicksUptoRow.holds Try.pinned (OpenSpec.upto inclPicksSpec)

/-- 'rallentandolaw06.InclCommon', WHERE WHAT IT READS IS OF BULK AT MOST 1048576: true; the input reads as it did. -/
def inclCommonUptoRow : OpenClaim := { program := "ytggjkibhffglbaa", sum := "a10615f1358e4e7b78acaeaf3913f19c228904435b4c5df5397ebad677f87a11", func := "rallentando/rallentandolaw06.InclCommon", spec := "inclCommon", inPlace := ["math/bits.Sub64"], unfollowed := true, recurses := true, apart := false, narrowed := true }
def InclCommonUptoSaid : Prop := inclCommonUptoRow.holds Try.pinned (OpenSpec.upto inclCommonSpec)

/-- 'rallentandolaw06.InclNames', WHERE WHAT IT READS IS OF BULK AT MOST 1048576: true; the input reads as it did. -/
def inclNamesUptoRow : OpenClaim := { program := "ytggjkibhffglbaa", sum := "a10615f1358e4e7b78acaeaf3913f19c228904435b4c5df5397ebad677f87a11", func := "rallentando/rallentandolaw06.InclNames", spec := "inclNames", inPlace := ["math/bits.Sub64"], unfollowed := true, recurses := true, apart := false, narrowed := true }
def InclNamesUptoSaid : Prop := inclNamesUptoRow.holds Try.pinned (OpenSpec.upto inclNamesSpec)

/-- 'rallentandolaw06.InclKept', WHERE WHAT IT READS IS OF BULK AT MOST 1048576: true; the input reads as it did. -/
def inclKeptUptoRow : OpenClaim := { program := "ytggjkibhffglbaa", sum := "a10615f1358e4e7b78acaeaf3913f19c228904435b4c5df5397ebad677f87a11", func := "rallentando/rallentandolaw06.InclKept", spec := "inclKept", inPlace := ["math/bits.Sub64"], unfollowed := true, recurses := true, apart := false, narrowed := true }
def InclKeptUptoSaid : Prop := inclKeptUptoRow.holds Try.pinned (OpenSpec.upto inclKeptSpec)

/-- 'rallentandolaw08.ZoneSpans', WHERE WHAT IT READS IS OF BULK AT MOST 1048576: true; the input reads as it did. -/
def zoneSpansUptoRow : OpenClaim := { program := "ytggjkibhffglbaa", sum := "a10615f1358e4e7b78acaeaf3913f19c228904435b4c5df5397ebad677f87a11", func := "rallentando/rallentandolaw08.ZoneSpans", spec := "zoneSpans", inPlace := ["math/bits.Sub64"], unfollowed := true, recurses := true, apart := false, narrowed := true }
def ZoneSpansUptoSaid : Prop := zoneSpansUptoRow.holds Try.pinned (OpenSpec.upto zoneSpansSpec)

/-- 'rallentandolaw08.ZoneMeets', WHERE WHAT IT READS IS OF BULK AT MOST 1048576: true; the input reads as it did. -/
def zoneMeetsUptoRow : OpenClaim := { program := "ytggjkibhffglbaa", sum := "a10615f1358e4e7b78acaeaf3913f19c228904435b4c5df5397ebad677f87a11", func := "rallentando/rallentandolaw08.ZoneMeets", spec := "zoneMeets", unfollowed := true, recurses := true, apart := false, narrowed := true }
def ZoneMeetsUptoSaid : Prop := zoneMeetsUptoRow.holds Try.pinned (OpenSpec.upto zoneMeetsSpec)

/-- 'rallentandolaw08.ZoneNames', WHERE WHAT IT READS IS OF BULK AT MOST 1048576: true; the input reads as it did. -/
def zoneNamesUptoRow : OpenClaim := { program := "ytggjkibhffglbaa", sum := "a10615f1358e4e7b78acaeaf3913f19c228904435b4c5df5397ebad677f87a11", func := "rallentando/rallentandolaw08.ZoneNames", spec := "zoneNames", inPlace := ["math/bits.Sub64"], unfollowed := true, recurses := true, apart := false, narrowed := true }
def ZoneNamesUptoSaid : Prop := zoneNamesUptoRow.holds Try.pinned (OpenSpec.upto zoneNamesSpec)

/-- 'rallentandolaw08.ZonePicks', WHERE WHAT IT READS IS OF BULK AT MOST 1048576: true; the input reads as it did. -/
def zonePicksUptoRow : OpenClaim := { program := "ytggjkibhffglbaa", sum := "a10615f1358e4e7b78acaeaf3913f19c228904435b4c5df5397ebad677f87a11", func := "rallentando/rallentandolaw08.ZonePicks", spec := "zonePicks", inPlace := ["math/bits.Sub64"], unfollowed := true, recurses := true, apart := false, narrowed := true }
def ZonePicksUptoSaid : Prop := zonePicksUptoRow.holds Try.pinned (OpenSpec.upto zonePicksSpec)

end Rows
end Go.Proofs.Ytggjkibhffglbaa
