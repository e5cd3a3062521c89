/- Spans are compared field by field. No condition. -/
import Derived.Test.YtbgbhfcnadjhdaaH13
namespace Go.Proofs.Ytbgbhfcnadjhdaa
set_option linter.unusedSimpArgs false
set_option linter.unusedVariables false
open Go Go.RowKit Go.Shelf

/-- Are two spans the same? -/
def eqS (a0 : Int) (a1 : Bool) (a2 : Int) (a3 a4 : Bool) (b0 : Int) (b1 : Bool) (b2 : Int) (b3 b4 : Bool) : Bool := a0 == b0 && (a1 == b1 && (a2 == b2 && (a3 == b3 && a4 == b4)))
theorem eqS_refl (a0 : Int) (a1 : Bool) (a2 : Int) (a3 a4 : Bool) : eqS a0 a1 a2 a3 a4 a0 a1 a2 a3 a4 = true := by simp [eqS]
set_option maxRecDepth 10000 in
set_option maxHeartbeats 1000000 in
@[go_sem] theorem span_eql (a0 : Int) (a1 : Bool) (a2 : Int) (a3 a4 : Bool) (b0 : Int) (b1 : Bool) (b2 : Int) (b3 b4 : Bool) (w : World) : (Op.equalIn 10000 42 (.agg #[.int .i64 a0, .bool a1, .int .i64 a2, .bool a3, .bool a4]) (.agg #[.int .i64 b0, .bool b1, .int .i64 b2, .bool b3, .bool b4])).run Try.prog w = .ok (eqS a0 a1 a2 a3 a4 b0 b1 b2 b3 b4) w := by
  have hu3 := Try.underlying3
  have ha3 := Try.isAgg3
  have hz3 := Try.sizeOf3
  have hu4 := Try.underlying4
  have ha4 := Try.isAgg4
  have hz4 := Try.sizeOf4
  rw [show (10000 : Nat) = 9999 + 1 from rfl, Op.equalIn]
  simp only [Sem.run_bind, run_underlying Try.underlying42, Result.andThen_ok]
  go_simp
  unfold eqS
  by_cases h0 : a0 = b0
  · by_cases h1 : a1 = b1
    · by_cases h2 : a2 = b2
      · by_cases h3 : a3 = b3
        · by_cases h4 : a4 = b4 <;> simp [h0, h1, h2, h3, h4]
        · simp [h0, h1, h2, h3]
      · simp [h0, h1, h2]
    · simp [h0, h1]
  · simp [h0]
end Go.Proofs.Ytbgbhfcnadjhdaa
