/-
  No cell of these rows narrows 'for every input' (looked for: loops, veiled, ifaces, maps, wideKeys, modest, calm, conditions, laid).
  DERIVED. THE GIVEN ROWS OF THIS SEAT. 13 by the template 'for every input the law returns true; each argument reads behind the call as it read before'; 0 by the template 'total and deterministic' (their statements: YtacihahipjlnpaaTotals.lean).
  GIVEN WITH THE SEED: the statements are not yours to turn. If you find one false, say at which input.
  Laid BY PROGRAM, IN A SANDBOX (cutbox-rows.mjs): the forced cells as the released guide's own fill.sh prints them over the translation 938c1b4dd921c681… (all of the seat's roots in one cut). By AI agents, Wed Nov 11 2026. No macro, syntax, notation, axiom, sorry.
-/
import Derived.Test.YtacihahipjlnpaaChecked
import GoSem.Claim
import GoSem.ClaimJoined
import GoSem.ClaimMapViews
import Derived.JoinedTies
import Derived.KernelRfl
namespace Go.Proofs.Ytacihahipjlnpaa
/- THE CELL 'sum', in the pinned program and in every row, IS THE sha256 OF THE DUMP (.gsa) THAT YtacihahipjlnpaaProg.lean LOADS. Nothing in Lean hashes anything: it is a label: what it is worth is what the hold of that sum in a sandbox is worth. -/
noncomputable def Try.pinned : Pinned := { name := "ytacihahipjlnpaa", sum := "938c1b4dd921c6817057916e6fd2781eb047637f37adac0857fa2f67ff249e30", checked := Try.checked }
namespace Rows
def none {H : Type} : Left H := { results := [], args := [] }

/-- 'rallentandolaw04.DbmTop': WHATEVER THE INPUT: true; the input reads as it did. -/
def dbmTopSpec : ChangeSpec := { name := "dbmTop", fn := fun _ => fun
  | [d] => { results := [.lit (.bool true)], args := [d] }
  | _ => none }
def dbmTopRow : OpenClaim := { program := "ytacihahipjlnpaa", sum := "938c1b4dd921c6817057916e6fd2781eb047637f37adac0857fa2f67ff249e30", func := "rallentando/rallentandolaw04.DbmTop", spec := "dbmTop", unfollowed := true, recurses := true, apart := false }
def DbmTopSaid : Prop := dbmTopRow.holds Try.pinned (OpenSpec.ofChange dbmTopSpec)

/-- ITS FALSE NEIGHBOUR: 'it returns false'. Refute it at one input. -/
def dbmTopWrong : ChangeSpec := { name := "dbmTop", fn := fun _ => fun
  | [d] => { results := [.lit (.bool false)], args := [d] }
  | _ => none }
def DbmTopWrongFalsely : Prop := dbmTopRow.holds Try.pinned (OpenSpec.ofChange dbmTopWrong)

/-- 'rallentandolaw03.RatOf': WHATEVER THE INPUT: true; the input reads as it did. -/
def ratOfSpec : ChangeSpec := { name := "ratOf", fn := fun _ => fun
  | [d1, d2] => { results := [.lit (.bool true)], args := [d1, d2] }
  | _ => none }
def ratOfRow : OpenClaim := { program := "ytacihahipjlnpaa", sum := "938c1b4dd921c6817057916e6fd2781eb047637f37adac0857fa2f67ff249e30", func := "rallentando/rallentandolaw03.RatOf", spec := "ratOf", apart := false }
def RatOfSaid : Prop := ratOfRow.holds Try.pinned (OpenSpec.ofChange ratOfSpec)

/-- ITS FALSE NEIGHBOUR: 'it returns false'. Refute it at one input. -/
def ratOfWrong : ChangeSpec := { name := "ratOf", fn := fun _ => fun
  | [d1, d2] => { results := [.lit (.bool false)], args := [d1, d2] }
  | _ => none }
def RatOfWrongFalsely : Prop := ratOfRow.holds Try.pinned (OpenSpec.ofChange ratOfWrong)

/-- 'rallentandolaw04.DbmClosed': WHATEVER THE INPUT: true; the input reads as it did. -/
def dbmClosedSpec : ChangeSpec := { name := "dbmClosed", fn := fun _ => fun
  | [d] => { results := [.lit (.bool true)], args := [d] }
  | _ => none }
def dbmClosedRow : OpenClaim := { program := "ytacihahipjlnpaa", sum := "938c1b4dd921c6817057916e6fd2781eb047637f37adac0857fa2f67ff249e30", func := "rallentando/rallentandolaw04.DbmClosed", spec := "dbmClosed", unfollowed := true, recurses := true, apart := false }
def DbmClosedSaid : Prop := dbmClosedRow.holds Try.pinned (OpenSpec.ofChange dbmClosedSpec)

/-- ITS FALSE NEIGHBOUR: 'it returns false'. Refute it at one input. -/
def dbmClosedWrong : ChangeSpec := { name := "dbmClosed", fn := fun _ => fun
  | [d] => { results := [.lit (.bool false)], args := [d] }
  | _ => none }
def DbmClosedWrongFalsely : Prop := dbmClosedRow.holds Try.pinned (OpenSpec.ofChange dbmClosedWrong)

/-- 'rallentandolaw04.DbmLess': WHATEVER THE INPUT: true; the input reads as it did. -/
def dbmLessSpec : ChangeSpec := { name := "dbmLess", fn := fun _ => fun
  | [d1, d2, d3] => { results := [.lit (.bool true)], args := [d1, d2, d3] }
  | _ => none }
def dbmLessRow : OpenClaim := { program := "ytacihahipjlnpaa", sum := "938c1b4dd921c6817057916e6fd2781eb047637f37adac0857fa2f67ff249e30", func := "rallentando/rallentandolaw04.DbmLess", spec := "dbmLess", unfollowed := true, recurses := true, apart := false }
def DbmLessSaid : Prop := dbmLessRow.holds Try.pinned (OpenSpec.ofChange dbmLessSpec)

/-- ITS FALSE NEIGHBOUR: 'it returns false'. Refute it at one input. -/
def dbmLessWrong : ChangeSpec := { name := "dbmLess", fn := fun _ => fun
  | [d1, d2, d3] => { results := [.lit (.bool false)], args := [d1, d2, d3] }
  | _ => none }
def DbmLessWrongFalsely : Prop := dbmLessRow.holds Try.pinned (OpenSpec.ofChange dbmLessWrong)

/-- 'rallentandolaw03.RatOrder': WHATEVER THE INPUT: true; the input reads as it did. -/
def ratOrderSpec : ChangeSpec := { name := "ratOrder", fn := fun _ => fun
  | [d1, d2, d3] => { results := [.lit (.bool true)], args := [d1, d2, d3] }
  | _ => none }
def ratOrderRow : OpenClaim := { program := "ytacihahipjlnpaa", sum := "938c1b4dd921c6817057916e6fd2781eb047637f37adac0857fa2f67ff249e30", func := "rallentando/rallentandolaw03.RatOrder", spec := "ratOrder", inPlace := ["math/bits.Sub64"], unfollowed := true, recurses := true, apart := false }
def RatOrderSaid : Prop := ratOrderRow.holds Try.pinned (OpenSpec.ofChange ratOrderSpec)

/-- ITS FALSE NEIGHBOUR: 'it returns false'. Refute it at one input. -/
def ratOrderWrong : ChangeSpec := { name := "ratOrder", fn := fun _ => fun
  | [d1, d2, d3] => { results := [.lit (.bool false)], args := [d1, d2, d3] }
  | _ => none }
def RatOrderWrongFalsely : Prop := ratOrderRow.holds Try.pinned (OpenSpec.ofChange ratOrderWrong)

/-- 'rallentandolaw03.RatMid': WHATEVER THE INPUT: true; the input reads as it did. -/
def ratMidSpec : ChangeSpec := { name := "ratMid", fn := fun _ => fun
  | [d1, d2] => { results := [.lit (.bool true)], args := [d1, d2] }
  | _ => none }
def ratMidRow : OpenClaim := { program := "ytacihahipjlnpaa", sum := "938c1b4dd921c6817057916e6fd2781eb047637f37adac0857fa2f67ff249e30", func := "rallentando/rallentandolaw03.RatMid", spec := "ratMid", inPlace := ["math/bits.Sub64"], unfollowed := true, recurses := true, apart := false }
def RatMidSaid : Prop := ratMidRow.holds Try.pinned (OpenSpec.ofChange ratMidSpec)

/-- ITS FALSE NEIGHBOUR: 'it returns false'. Refute it at one input. -/
def ratMidWrong : ChangeSpec := { name := "ratMid", fn := fun _ => fun
  | [d1, d2] => { results := [.lit (.bool false)], args := [d1, d2] }
  | _ => none }
def RatMidWrongFalsely : Prop := ratMidRow.holds Try.pinned (OpenSpec.ofChange ratMidWrong)

/-- 'rallentandolaw03.RatFloor': WHATEVER THE INPUT: true; the input reads as it did. -/
def ratFloorSpec : ChangeSpec := { name := "ratFloor", fn := fun _ => fun
  | [d1, d2, d3] => { results := [.lit (.bool true)], args := [d1, d2, d3] }
  | _ => none }
def ratFloorRow : OpenClaim := { program := "ytacihahipjlnpaa", sum := "938c1b4dd921c6817057916e6fd2781eb047637f37adac0857fa2f67ff249e30", func := "rallentando/rallentandolaw03.RatFloor", spec := "ratFloor", inPlace := ["math/bits.Sub64"], unfollowed := true, recurses := true, apart := false }
def RatFloorSaid : Prop := ratFloorRow.holds Try.pinned (OpenSpec.ofChange ratFloorSpec)

/-- ITS FALSE NEIGHBOUR: 'it returns false'. Refute it at one input. -/
def ratFloorWrong : ChangeSpec := { name := "ratFloor", fn := fun _ => fun
  | [d1, d2, d3] => { results := [.lit (.bool false)], args := [d1, d2, d3] }
  | _ => none }
def RatFloorWrongFalsely : Prop := ratFloorRow.holds Try.pinned (OpenSpec.ofChange ratFloorWrong)

/-- 'rallentandolaw03.RatTells': WHATEVER THE INPUT: true; the input reads as it did. -/
def ratTellsSpec : ChangeSpec := { name := "ratTells", fn := fun _ => fun
  | [d1, d2, d3] => { results := [.lit (.bool true)], args := [d1, d2, d3] }
  | _ => none }
def ratTellsRow : OpenClaim := { program := "ytacihahipjlnpaa", sum := "938c1b4dd921c6817057916e6fd2781eb047637f37adac0857fa2f67ff249e30", func := "rallentando/rallentandolaw03.RatTells", spec := "ratTells", inPlace := ["math/bits.Sub64"], unfollowed := true, recurses := true, apart := false }
def RatTellsSaid : Prop := ratTellsRow.holds Try.pinned (OpenSpec.ofChange ratTellsSpec)

/-- ITS FALSE NEIGHBOUR: 'it returns false'. Refute it at one input. -/
def ratTellsWrong : ChangeSpec := { name := "ratTells", fn := fun _ => fun
  | [d1, d2, d3] => { results := [.lit (.bool false)], args := [d1, d2, d3] }
  | _ => none }
def RatTellsWrongFalsely : Prop := ratTellsRow.holds Try.pinned (OpenSpec.ofChange ratTellsWrong)

/-- 'rallentandolaw03.RatNames': WHATEVER THE INPUT: true; the input reads as it did. -/
def ratNamesSpec : ChangeSpec := { name := "ratNames", fn := fun _ => fun
  | [] => { results := [.lit (.bool true)], args := [] }
  | _ => none }
def ratNamesRow : OpenClaim := { program := "ytacihahipjlnpaa", sum := "938c1b4dd921c6817057916e6fd2781eb047637f37adac0857fa2f67ff249e30", func := "rallentando/rallentandolaw03.RatNames", spec := "ratNames", inPlace := ["math/bits.Sub64"], unfollowed := true, recurses := true, apart := false }
def RatNamesSaid : Prop := ratNamesRow.holds Try.pinned (OpenSpec.ofChange ratNamesSpec)

/-- ITS FALSE NEIGHBOUR: 'it returns false'. Refute it at one input. -/
def ratNamesWrong : ChangeSpec := { name := "ratNames", fn := fun _ => fun
  | [] => { results := [.lit (.bool false)], args := [] }
  | _ => none }
def RatNamesWrongFalsely : Prop := ratNamesRow.holds Try.pinned (OpenSpec.ofChange ratNamesWrong)

/-- 'rallentandolaw04.DbmTells': WHATEVER THE INPUT: true; the input reads as it did. -/
def dbmTellsSpec : ChangeSpec := { name := "dbmTells", fn := fun _ => fun
  | [d1, d2] => { results := [.lit (.bool true)], args := [d1, d2] }
  | _ => none }
def dbmTellsRow : OpenClaim := { program := "ytacihahipjlnpaa", sum := "938c1b4dd921c6817057916e6fd2781eb047637f37adac0857fa2f67ff249e30", func := "rallentando/rallentandolaw04.DbmTells", spec := "dbmTells", unfollowed := true, recurses := true, apart := false }
def DbmTellsSaid : Prop := dbmTellsRow.holds Try.pinned (OpenSpec.ofChange dbmTellsSpec)

/-- ITS FALSE NEIGHBOUR: 'it returns false'. Refute it at one input. -/
def dbmTellsWrong : ChangeSpec := { name := "dbmTells", fn := fun _ => fun
  | [d1, d2] => { results := [.lit (.bool false)], args := [d1, d2] }
  | _ => none }
def DbmTellsWrongFalsely : Prop := dbmTellsRow.holds Try.pinned (OpenSpec.ofChange dbmTellsWrong)

/-- 'rallentandolaw03.RatSides': WHATEVER THE INPUT: true; the input reads as it did. -/
def ratSidesSpec : ChangeSpec := { name := "ratSides", fn := fun _ => fun
  | [d1, d2, d3] => { results := [.lit (.bool true)], args := [d1, d2, d3] }
  | _ => none }
def ratSidesRow : OpenClaim := { program := "ytacihahipjlnpaa", sum := "938c1b4dd921c6817057916e6fd2781eb047637f37adac0857fa2f67ff249e30", func := "rallentando/rallentandolaw03.RatSides", spec := "ratSides", inPlace := ["math/bits.Sub64"], unfollowed := true, recurses := true, apart := false }
def RatSidesSaid : Prop := ratSidesRow.holds Try.pinned (OpenSpec.ofChange ratSidesSpec)

/-- ITS FALSE NEIGHBOUR: 'it returns false'. Refute it at one input. -/
def ratSidesWrong : ChangeSpec := { name := "ratSides", fn := fun _ => fun
  | [d1, d2, d3] => { results := [.lit (.bool false)], args := [d1, d2, d3] }
  | _ => none }
def RatSidesWrongFalsely : Prop := ratSidesRow.holds Try.pinned (OpenSpec.ofChange ratSidesWrong)

/-- 'rallentandolaw04.DbmNames': WHATEVER THE INPUT: true; the input reads as it did. -/
def dbmNamesSpec : ChangeSpec := { name := "dbmNames", fn := fun _ => fun
  | [] => { results := [.lit (.bool true)], args := [] }
  | _ => none }
def dbmNamesRow : OpenClaim := { program := "ytacihahipjlnpaa", sum := "938c1b4dd921c6817057916e6fd2781eb047637f37adac0857fa2f67ff249e30", func := "rallentando/rallentandolaw04.DbmNames", spec := "dbmNames", unfollowed := true, recurses := true, apart := false }
def DbmNamesSaid : Prop := dbmNamesRow.holds Try.pinned (OpenSpec.ofChange dbmNamesSpec)

/-- ITS FALSE NEIGHBOUR: 'it returns false'. Refute it at one input. -/
def dbmNamesWrong : ChangeSpec := { name := "dbmNames", fn := fun _ => fun
  | [] => { results := [.lit (.bool false)], args := [] }
  | _ => none }
def DbmNamesWrongFalsely : Prop := dbmNamesRow.holds Try.pinned (OpenSpec.ofChange dbmNamesWrong)

/-- 'rallentandolaw04.DbmKept': WHATEVER THE INPUT: true; the input reads as it did. -/
def dbmKeptSpec : ChangeSpec := { name := "dbmKept", fn := fun _ => fun
  | [d1, d2] => { results := [.lit (.bool true)], args := [d1, d2] }
  | _ => none }
def dbmKeptRow : OpenClaim := { program := "ytacihahipjlnpaa", sum := "938c1b4dd921c6817057916e6fd2781eb047637f37adac0857fa2f67ff249e30", func := "rallentando/rallentandolaw04.DbmKept", spec := "dbmKept", unfollowed := true, recurses := true, apart := false }
def DbmKeptSaid : Prop := dbmKeptRow.holds Try.pinned (OpenSpec.ofChange dbmKeptSpec)

/-- ITS FALSE NEIGHBOUR: 'it returns false'. Refute it at one input. -/
def dbmKeptWrong : ChangeSpec := { name := "dbmKept", fn := fun _ => fun
  | [d1, d2] => { results := [.lit (.bool false)], args := [d1, d2] }
  | _ => none }
def DbmKeptWrongFalsely : Prop := dbmKeptRow.holds Try.pinned (OpenSpec.ofChange dbmKeptWrong)

/- THE SECOND FORM. 'bulk': how many values and letters a reading holds, each counted each time it is reached (what is shared counts as often as it is met; a slice's spare places count too). A statement '..UptoSaid' is the law's where the arguments, and the package variables that the reading takes, are together of bulk at most 1048576: NARROWER than '..Said'. Prove '..Said' where nothing that the law and all that it calls make is longer than what came in: it says more and counts as full. Else prove '..UptoSaid'. A law counts once. -/
mutual
def uptoBulk {H : Type} : DataW H → Nat
  | .lit (.string bytes) => bytes.length + 1
  | .lit _ => 1
  | .nil => 1
  | .ptr d => uptoBulk d + 1
  | .slice elems spare => uptoBulkAll elems + uptoBulkAll spare + 1
  | .agg parts => uptoBulkAll parts + 1
  | .iface _ d => uptoBulk d + 1
  | .map entries => uptoBulkEntries entries + 1
  | .held _ => 1
def uptoBulkAll {H : Type} : List (DataW H) → Nat
  | [] => 0
  | d :: r => uptoBulk d + uptoBulkAll r
def uptoBulkEntries {H : Type} : List (Lit × DataW H) → Nat
  | [] => 0
  | x :: r => uptoBulkEntry x + uptoBulkEntries r
def uptoBulkEntry {H : Type} : Lit × DataW H → Nat
  | (.string bytes, d) => bytes.length + uptoBulk d + 1
  | (_, d) => uptoBulk d + 1
 end
def uptoSmall : (H : Type) → List (DataW H) → Bool := fun _ ds => decide (uptoBulkAll ds ≤ 1048576)
def OpenSpec.upto (s : _root_.Go.ChangeSpec) : _root_.Go.OpenSpec := { _root_.Go.OpenSpec.ofChange s with cond := some uptoSmall }

/-- 'rallentandolaw04.DbmTop', WHERE WHAT IT READS IS OF BULK AT MOST 1048576: true; the input reads as it did. -/
def dbmTopUptoRow : OpenClaim := { program := "ytacihahipjlnpaa", sum := "938c1b4dd921c6817057916e6fd2781eb047637f37adac0857fa2f67ff249e30", func := "rallentando/rallentandolaw04.DbmTop", spec := "dbmTop", unfollowed := true, recurses := true, apart := false, narrowed := true }
def DbmTopUptoSaid : Prop := dbmTopUptoRow.holds Try.pinned (OpenSpec.upto dbmTopSpec)

/-- 'rallentandolaw03.RatOf', WHERE WHAT IT READS IS OF BULK AT MOST 1048576: true; the input reads as it did. -/
def ratOfUptoRow : OpenClaim := { program := "ytacihahipjlnpaa", sum := "938c1b4dd921c6817057916e6fd2781eb047637f37adac0857fa2f67ff249e30", func := "rallentando/rallentandolaw03.RatOf", spec := "ratOf", apart := false, narrowed := true }
def RatOfUptoSaid : Prop := ratOfUptoRow.holds Try.pinned (OpenSpec.upto ratOfSpec)

/-- 'rallentandolaw04.DbmClosed', WHERE WHAT IT READS IS OF BULK AT MOST 1048576: true; the input reads as it did. -/
def dbmClosedUptoRow : OpenClaim := { program := "ytacihahipjlnpaa", sum := "938c1b4dd921c6817057916e6fd2781eb047637f37adac0857fa2f67ff249e30", func := "rallentando/rallentandolaw04.DbmClosed", spec := "dbmClosed", unfollowed := true, recurses := true, apart := false, narrowed := true }
def DbmClosedUptoSaid : Prop := dbmClosedUptoRow.holds Try.pinned (OpenSpec.upto dbmClosedSpec)

/-- 'rallentandolaw04.DbmLess', WHERE WHAT IT READS IS OF BULK AT MOST 1048576: true; the input reads as it did. -/
def dbmLessUptoRow : OpenClaim := { program := "ytacihahipjlnpaa", sum := "938c1b4dd921c6817057916e6fd2781eb047637f37adac0857fa2f67ff249e30", func := "rallentando/rallentandolaw04.DbmLess", spec := "dbmLess", unfollowed := true, recurses := true, apart := false, narrowed := true }
def DbmLessUptoSaid : Prop := dbmLessUptoRow.holds Try.pinned (OpenSpec.upto dbmLessSpec)

/-- 'rallentandolaw03.RatOrder', WHERE WHAT IT READS IS OF BULK AT MOST 1048576: true; the input reads as it did. -/
def ratOrderUptoRow : OpenClaim := { program := "ytacihahipjlnpaa", sum := "938c1b4dd921c6817057916e6fd2781eb047637f37adac0857fa2f67ff249e30", func := "rallentando/rallentandolaw03.RatOrder", spec := "ratOrder", inPlace := ["math/bits.Sub64"], unfollowed := true, recurses := true, apart := false, narrowed := true }
def RatOrderUptoSaid : Prop := ratOrderUptoRow.holds Try.pinned (OpenSpec.upto ratOrderSpec)

/-- 'rallentandolaw03.RatMid', WHERE WHAT IT READS IS OF BULK AT MOST 1048576: true; the input reads as it did. -/
def ratMidUptoRow : OpenClaim := { program := "ytacihahipjlnpaa", sum := "938c1b4dd921c6817057916e6fd2781eb047637f37adac0857fa2f67ff249e30", func := "rallentando/rallentandolaw03.RatMid", spec := "ratMid", inPlace := ["math/bits.Sub64"], unfollowed := true, recurses := true, apart := false, narrowed := true }
def RatMidUptoSaid : Prop := ratMidUptoRow.holds Try.pinned (OpenSpec.upto ratMidSpec)

/-- 'rallentandolaw03.RatFloor', WHERE WHAT IT READS IS OF BULK AT MOST 1048576: true; the input reads as it did. -/
def ratFloorUptoRow : OpenClaim := { program := "ytacihahipjlnpaa", sum := "938c1b4dd921c6817057916e6fd2781eb047637f37adac0857fa2f67ff249e30", func := "rallentando/rallentandolaw03.RatFloor", spec := "ratFloor", inPlace := ["math/bits.Sub64"], unfollowed := true, recurses := true, apart := false, narrowed := true }
def RatFloorUptoSaid : Prop := ratFloorUptoRow.holds Try.pinned (OpenSpec.upto ratFloorSpec)

/-- 'rallentandolaw03.RatTells', WHERE WHAT IT READS IS OF BULK AT MOST 1048576: true; the input reads as it did. -/
def ratTellsUptoRow : OpenClaim := { program := "ytacihahipjlnpaa", sum := "938c1b4dd921c6817057916e6fd2781eb047637f37adac0857fa2f67ff249e30", func := "rallentando/rallentandolaw03.RatTells", spec := "ratTells", inPlace := ["math/bits.Sub64"], unfollowed := true, recurses := true, apart := false, narrowed := true }
def RatTellsUptoSaid : Prop := ratTellsUptoRow.holds Try.pinned (OpenSpec.upto ratTellsSpec)

/-- 'rallentandolaw03.RatNames', WHERE WHAT IT READS IS OF BULK AT MOST 1048576: true; the input reads as it did. -/
def ratNamesUptoRow : OpenClaim := { program := "ytacihahipjlnpaa", sum := "938c1b4dd921c6817057916e6fd2781eb047637f37adac0857fa2f67ff249e30", func := "rallentando/rallentandolaw03.RatNames", spec := "ratNames", inPlace := ["math/bits.Sub64"], unfollowed := true, recurses := true, apart := false, narrowed := true }
def RatNamesUptoSaid : Prop := ratNamesUptoRow.holds Try.pinned (OpenSpec.upto ratNamesSpec)

/-- 'rallentandolaw04.DbmTells', WHERE WHAT IT READS IS OF BULK AT MOST 1048576: true; the input reads as it did. -/
def dbmTellsUptoRow : OpenClaim := { program := "ytacihahipjlnpaa", sum := "938c1b4dd921c6817057916e6fd2781eb047637f37adac0857fa2f67ff249e30", func := "rallentando/rallentandolaw04.DbmTells", spec := "dbmTells", unfollowed := true, recurses := true, apart := false, narrowed := true }
def DbmTellsUptoSaid : Prop := dbmTellsUptoRow.holds Try.pinned (OpenSpec.upto dbmTellsSpec)

/-- 'rallentandolaw03.RatSides', WHERE WHAT IT READS IS OF BULK AT MOST 1048576: true; the input reads as it did. -/
def ratSidesUptoRow : OpenClaim := { program := "ytacihahipjlnpaa", sum := "938c1b4dd921c6817057916e6fd2781eb047637f37adac0857fa2f67ff249e30", func := "rallentando/rallentandolaw03.RatSides", spec := "ratSides", inPlace := ["math/bits.Sub64"], unfollowed := true, recurses := true, apart := false, narrowed := true }
def RatSidesUptoSaid : Prop := ratSidesUptoRow.holds Try.pinned (OpenSpec.upto ratSidesSpec)

/-- 'rallentandolaw04.DbmNames', WHERE WHAT IT READS IS OF BULK AT MOST 1048576: true; the input reads as it did. -/
def dbmNamesUptoRow : OpenClaim := { program := "ytacihahipjlnpaa", sum := "938c1b4dd921c6817057916e6fd2781eb047637f37adac0857fa2f67ff249e30", func := "rallentando/rallentandolaw04.DbmNames", spec := "dbmNames", unfollowed := true, recurses := true, apart := false, narrowed := true }
def DbmNamesUptoSaid : Prop := dbmNamesUptoRow.holds Try.pinned (OpenSpec.upto dbmNamesSpec)

/-- 'rallentandolaw04.DbmKept', WHERE WHAT IT READS IS OF BULK AT MOST 1048576: true; the input reads as it did. -/
def dbmKeptUptoRow : OpenClaim := { program := "ytacihahipjlnpaa", sum := "938c1b4dd921c6817057916e6fd2781eb047637f37adac0857fa2f67ff249e30", func := "rallentando/rallentandolaw04.DbmKept", spec := "dbmKept", unfollowed := true, recurses := true, apart := false, narrowed := true }
def DbmKeptUptoSaid : Prop := dbmKeptUptoRow.holds Try.pinned (OpenSpec.upto dbmKeptSpec)

end Rows
end Go.Proofs.Ytacihahipjlnpaa
