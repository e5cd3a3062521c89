/- Small laws for a law's frame (of a seat without fractions). No condition. -/
import Derived.Test.YtccbhblklhmcpaaGreatDoorFrame
import Derived.Lib.SmallJoins
namespace Go.Proofs.YtccbhblklhmcpaaGreatDoor
open Go.ChangeShapes Go.WideShapes Go.ChangeAt Go.RowKit Go.Joins
set_option linter.unusedVariables false
set_option linter.unusedSimpArgs false

/-- Does a number fit 64 bits? -/
def fits64 (t : Int) : Prop := -9223372036854775808 ≤ t ∧ t ≤ 9223372036854775807
theorem fits_of_wf {n : Int} (h : (Lit.int .i64 n).wf = true) : fits64 n := by
  have : -9223372036854775808 ≤ n ∧ n ≤ 9223372036854775807 := by simpa [Lit.wf, IntKind.min, IntKind.max, IntKind.signed, IntKind.bits] using h
  exact this
/-- From here on the world is known by some facts alone (at a call). -/
theorem calls_world {P : Program} {f : FuncId} {args : Array Value} {R : Ending → World → Prop} {W0 : World} (F : World → Prop) (hF : F W0) (h : ∀ W, F W → Calls P f args W R) : Calls P f args W0 R := h _ hF
theorem lit_lt_add (a b k : Nat) (h : a < b) : (a < b + k) = True := by simp; omega
#print axioms calls_world
end Go.Proofs.YtccbhblklhmcpaaGreatDoor
