/- Plain law: sums keep the order of fractions. No condition. -/
import Derived.Test.YtlcbpckinjkfeaaM4
namespace Go.Proofs.Ytlcbpckinjkfeaa
set_option linter.unusedSimpArgs false
set_option linter.unusedVariables false
open Go Go.RowKit

theorem sum_cmp {n1 d1 n2 d2 n3 d3 x1 x2 y1 y2 : Int} (h1 : 0 < d1) (h2 : 0 < d2) (h3 : 0 < d3) (hx : 0 < x2) (hy : 0 < y2)
    (ex : x1 * (d1 * d3 * 1) = (n1 * d3 + n3 * d1) * x2) (ey : y1 * (d2 * d3 * 1) = (n2 * d3 + n3 * d2) * y2) : cmpR x1 x2 y1 y2 = cmpR n1 d1 n2 d2 := by
  unfold cmpR
  rw [Int.mul_one] at ex ey
  have k1 : 0 < d1 * d3 * (d2 * d3) := Int.mul_pos (Int.mul_pos h1 h3) (Int.mul_pos h2 h3)
  have k2 : 0 < d3 * d3 * (x2 * y2) := Int.mul_pos (Int.mul_pos h3 h3) (Int.mul_pos hx hy)
  rw [← sgn_mul (x := x1 * y2) (y := y1 * x2) k1, ← sgn_mul (x := n1 * d2) (y := n2 * d1) k2]
  apply sgn_sub
  have a1 : x1 * y2 * (d1 * d3 * (d2 * d3)) = (x1 * (d1 * d3)) * (y2 * (d2 * d3)) := by ac_rfl
  have a2 : y1 * x2 * (d1 * d3 * (d2 * d3)) = (y1 * (d2 * d3)) * (x2 * (d1 * d3)) := by ac_rfl
  rw [a1, a2, ex, ey, Int.add_mul, Int.add_mul, Int.add_mul, Int.add_mul]
  have b1 : n1 * d3 * x2 * (y2 * (d2 * d3)) = n1 * d2 * (d3 * d3 * (x2 * y2)) := by ac_rfl
  have b2 : n2 * d3 * y2 * (x2 * (d1 * d3)) = n2 * d1 * (d3 * d3 * (x2 * y2)) := by ac_rfl
  have b3 : n3 * d1 * x2 * (y2 * (d2 * d3)) = n3 * d2 * y2 * (x2 * (d1 * d3)) := by ac_rfl
  rw [b1, b2, b3]
  omega
end Go.Proofs.Ytlcbpckinjkfeaa
