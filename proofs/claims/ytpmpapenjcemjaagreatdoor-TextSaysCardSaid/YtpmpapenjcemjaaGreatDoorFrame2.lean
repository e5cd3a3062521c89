/- Opening a law's arguments: integers, fractions, bounds. No condition. -/
import Derived.Test.YtpmpapenjcemjaaGreatDoorFrame
import Derived.Test.YtpmpapenjcemjaaGreatDoorMA
import Derived.Lib.SmallJoins
namespace Go.Proofs.YtpmpapenjcemjaaGreatDoor
open Go.ChangeShapes Go.WideShapes Go.ChangeAt Go.RowKit Go.Joins
set_option linter.unusedVariables false
set_option linter.unusedSimpArgs false

theorem fits_of_wf {n : Int} (h : (Lit.int .i64 n).wf = true) : fits64 n := by
  have : -9223372036854775808 ≤ n ∧ n ≤ 9223372036854775807 := by simpa [Lit.wf, IntKind.min, IntKind.max, IntKind.signed, IntKind.bits] using h
  exact this

/-- From here on the world is known by some facts alone (at a call). -/
theorem calls_world {P : Program} {f : FuncId} {args : Array Value} {R : Ending → World → Prop} {W0 : World} (F : World → Prop) (hF : F W0) (h : ∀ W, F W → Calls P f args W R) : Calls P f args W0 R := h _ hF

theorem lit_lt_add (a b k : Nat) (h : a < b) : (a < b + k) = True := by simp; omega

theorem cellsRat : Tryz.prog.cellsOf 51 = 2 := by kernel_rfl

set_option maxRecDepth 100000 in
theorem open_rat {H : Type} {enc : TypeId × Value → H} {W : World} {base : Nat} {v : Value} {d : DataW H} {p : List MemPlace}
    (hv : Value.okWide Tryz.prog W .any base 51 v) (h : DataW.Trod enc Tryz.prog W 0 (fun _ => true) true 51 v d p) :
    ∃ n m : Int, v = .agg #[.int .i64 n, .int .i64 m] ∧ fits64 n ∧ fits64 m := by
  obtain ⟨c0, c1, y0, y1, k, rfl, rfl, rfl, hy0, hy1⟩ := open_agg2 Tryz.underlying51 (by kernel_rfl) cellsRat hv h
  obtain ⟨a, e0, rfl, wa⟩ := DataW.trod_int Tryz.underlying3 hy0
  obtain ⟨b, e1, rfl, wb⟩ := DataW.trod_int Tryz.underlying3 hy1
  simp at e0 e1
  subst e0 e1
  exact ⟨a, b, rfl, fits_of_wf wa, fits_of_wf wb⟩
end Go.Proofs.YtpmpapenjcemjaaGreatDoor
