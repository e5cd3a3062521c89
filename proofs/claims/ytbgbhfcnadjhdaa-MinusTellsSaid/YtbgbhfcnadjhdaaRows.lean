/-
  No cell of these rows narrows 'for every input' (looked for: loops, veiled, ifaces, maps, wideKeys, modest, calm, conditions, laid).
  DERIVED. THE GIVEN ROWS OF THIS SEAT. 10 by the template 'for every input the law returns true; each argument reads behind the call as it read before'; 0 by the template 'total and deterministic' (their statements: YtbgbhfcnadjhdaaTotals.lean).
  GIVEN WITH THE SEED: the statements are not yours to turn. If you find one false, say at which input.
  Laid BY PROGRAM, IN A SANDBOX (cutbox-rows.mjs): the forced cells as the released guide's own fill.sh prints them over the translation 68c7570c31f8241d… (all of the seat's roots in one cut). By AI agents, Wed Nov 11 2026. No macro, syntax, notation, axiom, sorry.
-/
import Derived.Test.YtbgbhfcnadjhdaaChecked
import GoSem.Claim
import GoSem.ClaimJoined
import GoSem.ClaimMapViews
import Derived.JoinedTies
import Derived.KernelRfl
namespace Go.Proofs.Ytbgbhfcnadjhdaa
/- THE CELL 'sum', in the pinned program and in every row, IS THE sha256 OF THE DUMP (.gsa) THAT YtbgbhfcnadjhdaaProg.lean LOADS. Nothing in Lean hashes anything: it is a label: what it is worth is what the hold of that sum in a sandbox is worth. -/
noncomputable def Try.pinned : Pinned := { name := "ytbgbhfcnadjhdaa", sum := "68c7570c31f8241d6da517bed380bcff64fac384b636d30153aba75e38abb007", checked := Try.checked }
namespace Rows
def none {H : Type} : Left H := { results := [], args := [] }

/-- 'rallentandolaw11.MinusTells': WHATEVER THE INPUT: true; the input reads as it did. -/
def minusTellsSpec : ChangeSpec := { name := "minusTells", fn := fun _ => fun
  | [d1, d2, d3] => { results := [.lit (.bool true)], args := [d1, d2, d3] }
  | _ => none }
def minusTellsRow : OpenClaim := { program := "ytbgbhfcnadjhdaa", sum := "68c7570c31f8241d6da517bed380bcff64fac384b636d30153aba75e38abb007", func := "rallentando/rallentandolaw11.MinusTells", spec := "minusTells", unfollowed := true, recurses := true, apart := false }
def MinusTellsSaid : Prop := minusTellsRow.holds Try.pinned (OpenSpec.ofChange minusTellsSpec)

/-- ITS FALSE NEIGHBOUR: 'it returns false'. Refute it at one input. -/
def minusTellsWrong : ChangeSpec := { name := "minusTells", fn := fun _ => fun
  | [d1, d2, d3] => { results := [.lit (.bool false)], args := [d1, d2, d3] }
  | _ => none }
def MinusTellsWrongFalsely : Prop := minusTellsRow.holds Try.pinned (OpenSpec.ofChange minusTellsWrong)

/-- 'rallentandolaw09.CompTells': WHATEVER THE INPUT: true; the input reads as it did. -/
def compTellsSpec : ChangeSpec := { name := "compTells", fn := fun _ => fun
  | [d1, d2] => { results := [.lit (.bool true)], args := [d1, d2] }
  | _ => none }
def compTellsRow : OpenClaim := { program := "ytbgbhfcnadjhdaa", sum := "68c7570c31f8241d6da517bed380bcff64fac384b636d30153aba75e38abb007", func := "rallentando/rallentandolaw09.CompTells", spec := "compTells", unfollowed := true, recurses := true, apart := false }
def CompTellsSaid : Prop := compTellsRow.holds Try.pinned (OpenSpec.ofChange compTellsSpec)

/-- ITS FALSE NEIGHBOUR: 'it returns false'. Refute it at one input. -/
def compTellsWrong : ChangeSpec := { name := "compTells", fn := fun _ => fun
  | [d1, d2] => { results := [.lit (.bool false)], args := [d1, d2] }
  | _ => none }
def CompTellsWrongFalsely : Prop := compTellsRow.holds Try.pinned (OpenSpec.ofChange compTellsWrong)

/-- 'rallentandolaw10.WinNames': WHATEVER THE INPUT: true; the input reads as it did. -/
def winNamesSpec : ChangeSpec := { name := "winNames", fn := fun _ => fun
  | [] => { results := [.lit (.bool true)], args := [] }
  | _ => none }
def winNamesRow : OpenClaim := { program := "ytbgbhfcnadjhdaa", sum := "68c7570c31f8241d6da517bed380bcff64fac384b636d30153aba75e38abb007", func := "rallentando/rallentandolaw10.WinNames", spec := "winNames", unfollowed := true, recurses := true, apart := false }
def WinNamesSaid : Prop := winNamesRow.holds Try.pinned (OpenSpec.ofChange winNamesSpec)

/-- ITS FALSE NEIGHBOUR: 'it returns false'. Refute it at one input. -/
def winNamesWrong : ChangeSpec := { name := "winNames", fn := fun _ => fun
  | [] => { results := [.lit (.bool false)], args := [] }
  | _ => none }
def WinNamesWrongFalsely : Prop := winNamesRow.holds Try.pinned (OpenSpec.ofChange winNamesWrong)

/-- 'rallentandolaw11.MinusOrder': WHATEVER THE INPUT: true; the input reads as it did. -/
def minusOrderSpec : ChangeSpec := { name := "minusOrder", fn := fun _ => fun
  | [d1, d2, d3] => { results := [.lit (.bool true)], args := [d1, d2, d3] }
  | _ => none }
def minusOrderRow : OpenClaim := { program := "ytbgbhfcnadjhdaa", sum := "68c7570c31f8241d6da517bed380bcff64fac384b636d30153aba75e38abb007", func := "rallentando/rallentandolaw11.MinusOrder", spec := "minusOrder", unfollowed := true, recurses := true, apart := false }
def MinusOrderSaid : Prop := minusOrderRow.holds Try.pinned (OpenSpec.ofChange minusOrderSpec)

/-- ITS FALSE NEIGHBOUR: 'it returns false'. Refute it at one input. -/
def minusOrderWrong : ChangeSpec := { name := "minusOrder", fn := fun _ => fun
  | [d1, d2, d3] => { results := [.lit (.bool false)], args := [d1, d2, d3] }
  | _ => none }
def MinusOrderWrongFalsely : Prop := minusOrderRow.holds Try.pinned (OpenSpec.ofChange minusOrderWrong)

/-- 'rallentandolaw09.CompNames': WHATEVER THE INPUT: true; the input reads as it did. -/
def compNamesSpec : ChangeSpec := { name := "compNames", fn := fun _ => fun
  | [] => { results := [.lit (.bool true)], args := [] }
  | _ => none }
def compNamesRow : OpenClaim := { program := "ytbgbhfcnadjhdaa", sum := "68c7570c31f8241d6da517bed380bcff64fac384b636d30153aba75e38abb007", func := "rallentando/rallentandolaw09.CompNames", spec := "compNames", unfollowed := true, recurses := true, apart := false }
def CompNamesSaid : Prop := compNamesRow.holds Try.pinned (OpenSpec.ofChange compNamesSpec)

/-- ITS FALSE NEIGHBOUR: 'it returns false'. Refute it at one input. -/
def compNamesWrong : ChangeSpec := { name := "compNames", fn := fun _ => fun
  | [] => { results := [.lit (.bool false)], args := [] }
  | _ => none }
def CompNamesWrongFalsely : Prop := compNamesRow.holds Try.pinned (OpenSpec.ofChange compNamesWrong)

/-- 'rallentandolaw09.CompOrder': WHATEVER THE INPUT: true; the input reads as it did. -/
def compOrderSpec : ChangeSpec := { name := "compOrder", fn := fun _ => fun
  | [d1, d2, d3] => { results := [.lit (.bool true)], args := [d1, d2, d3] }
  | _ => none }
def compOrderRow : OpenClaim := { program := "ytbgbhfcnadjhdaa", sum := "68c7570c31f8241d6da517bed380bcff64fac384b636d30153aba75e38abb007", func := "rallentando/rallentandolaw09.CompOrder", spec := "compOrder", unfollowed := true, recurses := true, apart := false }
def CompOrderSaid : Prop := compOrderRow.holds Try.pinned (OpenSpec.ofChange compOrderSpec)

/-- ITS FALSE NEIGHBOUR: 'it returns false'. Refute it at one input. -/
def compOrderWrong : ChangeSpec := { name := "compOrder", fn := fun _ => fun
  | [d1, d2, d3] => { results := [.lit (.bool false)], args := [d1, d2, d3] }
  | _ => none }
def CompOrderWrongFalsely : Prop := compOrderRow.holds Try.pinned (OpenSpec.ofChange compOrderWrong)

/-- 'rallentandolaw10.WinPoints': WHATEVER THE INPUT: true; the input reads as it did. -/
def winPointsSpec : ChangeSpec := { name := "winPoints", fn := fun _ => fun
  | [d1, d2, d3, d4, d5] => { results := [.lit (.bool true)], args := [d1, d2, d3, d4, d5] }
  | _ => none }
def winPointsRow : OpenClaim := { program := "ytbgbhfcnadjhdaa", sum := "68c7570c31f8241d6da517bed380bcff64fac384b636d30153aba75e38abb007", func := "rallentando/rallentandolaw10.WinPoints", spec := "winPoints", inPlace := ["math/bits.Sub64"], unfollowed := true, recurses := true, apart := false }
def WinPointsSaid : Prop := winPointsRow.holds Try.pinned (OpenSpec.ofChange winPointsSpec)

/-- ITS FALSE NEIGHBOUR: 'it returns false'. Refute it at one input. -/
def winPointsWrong : ChangeSpec := { name := "winPoints", fn := fun _ => fun
  | [d1, d2, d3, d4, d5] => { results := [.lit (.bool false)], args := [d1, d2, d3, d4, d5] }
  | _ => none }
def WinPointsWrongFalsely : Prop := winPointsRow.holds Try.pinned (OpenSpec.ofChange winPointsWrong)

/-- 'rallentandolaw10.WinShifts': WHATEVER THE INPUT: true; the input reads as it did. -/
def winShiftsSpec : ChangeSpec := { name := "winShifts", fn := fun _ => fun
  | [d1, d2, d3] => { results := [.lit (.bool true)], args := [d1, d2, d3] }
  | _ => none }
def winShiftsRow : OpenClaim := { program := "ytbgbhfcnadjhdaa", sum := "68c7570c31f8241d6da517bed380bcff64fac384b636d30153aba75e38abb007", func := "rallentando/rallentandolaw10.WinShifts", spec := "winShifts", inPlace := ["math/bits.Sub64"], unfollowed := true, recurses := true, apart := false }
def WinShiftsSaid : Prop := winShiftsRow.holds Try.pinned (OpenSpec.ofChange winShiftsSpec)

/-- ITS FALSE NEIGHBOUR: 'it returns false'. Refute it at one input. -/
def winShiftsWrong : ChangeSpec := { name := "winShifts", fn := fun _ => fun
  | [d1, d2, d3] => { results := [.lit (.bool false)], args := [d1, d2, d3] }
  | _ => none }
def WinShiftsWrongFalsely : Prop := winShiftsRow.holds Try.pinned (OpenSpec.ofChange winShiftsWrong)

/-- 'rallentandolaw09.CompPoints': WHATEVER THE INPUT: true; the input reads as it did. -/
def compPointsSpec : ChangeSpec := { name := "compPoints", fn := fun _ => fun
  | [d1, d2, d3] => { results := [.lit (.bool true)], args := [d1, d2, d3] }
  | _ => none }
def compPointsRow : OpenClaim := { program := "ytbgbhfcnadjhdaa", sum := "68c7570c31f8241d6da517bed380bcff64fac384b636d30153aba75e38abb007", func := "rallentando/rallentandolaw09.CompPoints", spec := "compPoints", inPlace := ["math/bits.Sub64"], unfollowed := true, recurses := true, apart := false }
def CompPointsSaid : Prop := compPointsRow.holds Try.pinned (OpenSpec.ofChange compPointsSpec)

/-- ITS FALSE NEIGHBOUR: 'it returns false'. Refute it at one input. -/
def compPointsWrong : ChangeSpec := { name := "compPoints", fn := fun _ => fun
  | [d1, d2, d3] => { results := [.lit (.bool false)], args := [d1, d2, d3] }
  | _ => none }
def CompPointsWrongFalsely : Prop := compPointsRow.holds Try.pinned (OpenSpec.ofChange compPointsWrong)

/-- 'rallentandolaw09.CompFirsts': WHATEVER THE INPUT: true; the input reads as it did. -/
def compFirstsSpec : ChangeSpec := { name := "compFirsts", fn := fun _ => fun
  | [d1, d2] => { results := [.lit (.bool true)], args := [d1, d2] }
  | _ => none }
def compFirstsRow : OpenClaim := { program := "ytbgbhfcnadjhdaa", sum := "68c7570c31f8241d6da517bed380bcff64fac384b636d30153aba75e38abb007", func := "rallentando/rallentandolaw09.CompFirsts", spec := "compFirsts", inPlace := ["math/bits.Sub64"], unfollowed := true, recurses := true, apart := false }
def CompFirstsSaid : Prop := compFirstsRow.holds Try.pinned (OpenSpec.ofChange compFirstsSpec)

/-- ITS FALSE NEIGHBOUR: 'it returns false'. Refute it at one input. -/
def compFirstsWrong : ChangeSpec := { name := "compFirsts", fn := fun _ => fun
  | [d1, d2] => { results := [.lit (.bool false)], args := [d1, d2] }
  | _ => none }
def CompFirstsWrongFalsely : Prop := compFirstsRow.holds Try.pinned (OpenSpec.ofChange compFirstsWrong)

/- THE SECOND FORM. 'bulk': how many values and letters a reading holds, each counted each time it is reached (what is shared counts as often as it is met; a slice's spare places count too). A statement '..UptoSaid' is the law's where the arguments, and the package variables that the reading takes, are together of bulk at most 1048576: NARROWER than '..Said'. Prove '..Said' where nothing that the law and all that it calls make is longer than what came in: it says more and counts as full. Else prove '..UptoSaid'. A law counts once. -/
mutual
def uptoBulk {H : Type} : DataW H → Nat
  | .lit (.string bytes) => bytes.length + 1
  | .lit _ => 1
  | .nil => 1
  | .ptr d => uptoBulk d + 1
  | .slice elems spare => uptoBulkAll elems + uptoBulkAll spare + 1
  | .agg parts => uptoBulkAll parts + 1
  | .iface _ d => uptoBulk d + 1
  | .map entries => uptoBulkEntries entries + 1
  | .held _ => 1
def uptoBulkAll {H : Type} : List (DataW H) → Nat
  | [] => 0
  | d :: r => uptoBulk d + uptoBulkAll r
def uptoBulkEntries {H : Type} : List (Lit × DataW H) → Nat
  | [] => 0
  | x :: r => uptoBulkEntry x + uptoBulkEntries r
def uptoBulkEntry {H : Type} : Lit × DataW H → Nat
  | (.string bytes, d) => bytes.length + uptoBulk d + 1
  | (_, d) => uptoBulk d + 1
 end
def uptoSmall : (H : Type) → List (DataW H) → Bool := fun _ ds => decide (uptoBulkAll ds ≤ 1048576)
def OpenSpec.upto (s : _root_.Go.ChangeSpec) : _root_.Go.OpenSpec := { _root_.Go.OpenSpec.ofChange s with cond := some uptoSmall }

/-- 'rallentandolaw11.MinusTells', WHERE WHAT IT READS IS OF BULK AT MOST 1048576: true; the input reads as it did. -/
def minusTellsUptoRow : OpenClaim := { program := "ytbgbhfcnadjhdaa", sum := "68c7570c31f8241d6da517bed380bcff64fac384b636d30153aba75e38abb007", func := "rallentando/rallentandolaw11.MinusTells", spec := "minusTells", unfollowed := true, recurses := true, apart := false, narrowed := true }
def MinusTellsUptoSaid : Prop := minusTellsUptoRow.holds Try.pinned (OpenSpec.upto minusTellsSpec)

/-- 'rallentandolaw09.CompTells', WHERE WHAT IT READS IS OF BULK AT MOST 1048576: true; the input reads as it did. -/
def compTellsUptoRow : OpenClaim := { program := "ytbgbhfcnadjhdaa", sum := "68c7570c31f8241d6da517bed380bcff64fac384b636d30153aba75e38abb007", func := "rallentando/rallentandolaw09.CompTells", spec := "compTells", unfollowed := true, recurses := true, apart := false, narrowed := true }
def CompTellsUptoSaid : Prop := compTellsUptoRow.holds Try.pinned (OpenSpec.upto compTellsSpec)

/-- 'rallentandolaw10.WinNames', WHERE WHAT IT READS IS OF BULK AT MOST 1048576: true; the input reads as it did. -/
def winNamesUptoRow : OpenClaim := { program := "ytbgbhfcnadjhdaa", sum := "68c7570c31f8241d6da517bed380bcff64fac384b636d30153aba75e38abb007", func := "rallentando/rallentandolaw10.WinNames", spec := "winNames", unfollowed := true, recurses := true, apart := false, narrowed := true }
def WinNamesUptoSaid : Prop := winNamesUptoRow.holds Try.pinned (OpenSpec.upto winNamesSpec)

/-- 'rallentandolaw11.MinusOrder', WHERE WHAT IT READS IS OF BULK AT MOST 1048576: true; the input reads as it did. -/
def minusOrderUptoRow : OpenClaim := { program := "ytbgbhfcnadjhdaa", sum := "68c7570c31f8241d6da517bed380bcff64fac384b636d30153aba75e38abb007", func := "rallentando/rallentandolaw11.MinusOrder", spec := "minusOrder", unfollowed := true, recurses := true, apart := false, narrowed := true }
def MinusOrderUptoSaid : Prop := minusOrderUptoRow.holds Try.pinned (OpenSpec.upto minusOrderSpec)

/-- 'rallentandolaw09.CompNames', WHERE WHAT IT READS IS OF BULK AT MOST 1048576: true; the input reads as it did. -/
def compNamesUptoRow : OpenClaim := { program := "ytbgbhfcnadjhdaa", sum := "68c7570c31f8241d6da517bed380bcff64fac384b636d30153aba75e38abb007", func := "rallentando/rallentandolaw09.CompNames", spec := "compNames", unfollowed := true, recurses := true, apart := false, narrowed := true }
def CompNamesUptoSaid : Prop := compNamesUptoRow.holds Try.pinned (OpenSpec.upto compNamesSpec)

/-- 'rallentandolaw09.CompOrder', WHERE WHAT IT READS IS OF BULK AT MOST 1048576: true; the input reads as it did. -/
def compOrderUptoRow : OpenClaim := { program := "ytbgbhfcnadjhdaa", sum := "68c7570c31f8241d6da517bed380bcff64fac384b636d30153aba75e38abb007", func := "rallentando/rallentandolaw09.CompOrder", spec := "compOrder", unfollowed := true, recurses := true, apart := false, narrowed := true }
def CompOrderUptoSaid : Prop := compOrderUptoRow.holds Try.pinned (OpenSpec.upto compOrderSpec)

/-- 'rallentandolaw10.WinPoints', WHERE WHAT IT READS IS OF BULK AT MOST 1048576: true; the input reads as it did. -/
def winPointsUptoRow : OpenClaim := { program := "ytbgbhfcnadjhdaa", sum := "68c7570c31f8241d6da517bed380bcff64fac384b636d30153aba75e38abb007", func := "rallentando/rallentandolaw10.WinPoints", spec := "winPoints", inPlace := ["math/bits.Sub64"], unfollowed := true, recurses := true, apart := false, narrowed := true }
def WinPointsUptoSaid : Prop := winPointsUptoRow.holds Try.pinned (OpenSpec.upto winPointsSpec)

/-- 'rallentandolaw10.WinShifts', WHERE WHAT IT READS IS OF BULK AT MOST 1048576: true; the input reads as it did. -/
def winShiftsUptoRow : OpenClaim := { program := "ytbgbhfcnadjhdaa", sum := "68c7570c31f8241d6da517bed380bcff64fac384b636d30153aba75e38abb007", func := "rallentando/rallentandolaw10.WinShifts", spec := "winShifts", inPlace := ["math/bits.Sub64"], unfollowed := true, recurses := true, apart := false, narrowed := true }
def WinShiftsUptoSaid : Prop := winShiftsUptoRow.holds Try.pinned (OpenSpec.upto winShiftsSpec)

/-- 'rallentandolaw09.CompPoints', WHERE WHAT IT READS IS OF BULK AT MOST 1048576: true; the input reads as it did. -/
def compPointsUptoRow : OpenClaim := { program := "ytbgbhfcnadjhdaa", sum := "68c7570c31f8241d6da517bed380bcff64fac384b636d30153aba75e38abb007", func := "rallentando/rallentandolaw09.CompPoints", spec := "compPoints", inPlace := ["math/bits.Sub64"], unfollowed := true, recurses := true, apart := false, narrowed := true }
def CompPointsUptoSaid : Prop := compPointsUptoRow.holds Try.pinned (OpenSpec.upto compPointsSpec)

/-- 'rallentandolaw09.CompFirsts', WHERE WHAT IT READS IS OF BULK AT MOST 1048576: true; the input reads as it did. -/
def compFirstsUptoRow : OpenClaim := { program := "ytbgbhfcnadjhdaa", sum := "68c7570c31f8241d6da517bed380bcff64fac384b636d30153aba75e38abb007", func := "rallentando/rallentandolaw09.CompFirsts", spec := "compFirsts", inPlace := ["math/bits.Sub64"], unfollowed := true, recurses := true, apart := false, narrowed := true }
def CompFirstsUptoSaid : Prop := compFirstsUptoRow.holds Try.pinned (OpenSpec.upto compFirstsSpec)

end Rows
end Go.Proofs.Ytbgbhfcnadjhdaa
