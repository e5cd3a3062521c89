/- Plain laws of middles and sums. No condition. -/
import Derived.Test.YtpaomeilfmeheaaDoorM3
namespace Go.Proofs.YtpaomeilfmeheaaDoor
set_option linter.unusedSimpArgs false
set_option linter.unusedVariables false
open Go Go.RowKit

theorem addPR_comm (n1 d1 n2 d2 k : Int) : addPR n1 d1 n2 d2 k = addPR n2 d2 n1 d1 k := by
  unfold addPR sumR
  rw [Bool.and_comm, Int.add_comm (n1 * d2), Int.mul_comm d1 d2]

theorem addPR_spec {n1 d1 n2 d2 k t D e : Int} (hk : 0 < k) (h : addPR n1 d1 n2 d2 k = (t, D, e)) :
    (e = 0 ∧ okRat n1 d1 = true ∧ okRat n2 d2 = true ∧ fits64 t ∧ okRat t D = true ∧ t * (d1 * d2 * k) = (n1 * d2 + n2 * d1) * D ∧ 0 < D ∧ 0 < d1 ∧ 0 < d2) ∨ (e ≠ 0 ∧ t = 0 ∧ D = 0) := by
  unfold addPR at h
  split at h
  · rename_i ho
    have ho : okRat n1 d1 = true ∧ okRat n2 d2 = true := by simpa using ho
    have h1 := (okRat_bd ho.1).1
    have h2 := (okRat_bd ho.2).1
    have hG : 0 < d1 * d2 * k := Int.mul_pos (Int.mul_pos (by omega) (by omega)) hk
    rcases normR_spec hG h with ⟨a, b, c, d, e⟩ | ⟨a, b, c⟩
    · exact .inl ⟨a, ho.1, ho.2, b, c, d, e, by omega, by omega⟩
    · exact .inr ⟨by omega, b, c⟩
  · simp only [Prod.mk.injEq] at h
    exact .inr ⟨by omega, h.1.symm, h.2.1.symm⟩

/-- The middle lies between. -/
theorem mid_cmp {n1 d1 n2 d2 x y : Int} (h1 : 0 < d1) (h2 : 0 < d2) (hy : 0 < y) (hm : x * (d1 * d2 * 2) = (n1 * d2 + n2 * d1) * y) :
    cmpR n1 d1 x y = cmpR n1 d1 n2 d2 ∧ cmpR x y n2 d2 = cmpR n1 d1 n2 d2 := by
  have hE : 0 < d1 * d2 := Int.mul_pos h1 h2
  constructor
  · unfold cmpR
    have k1 : 0 < d2 * 2 := by omega
    rw [← sgn_mul (x := n1 * y) (y := x * d1) k1, ← sgn_mul (x := n1 * d2) (y := n2 * d1) hy]
    have e : x * d1 * (d2 * 2) = (n1 * d2 + n2 * d1) * y := by rw [← hm]; simp only [Int.mul_assoc]
    rw [e]
    apply sgn_sub
    rw [Int.add_mul]
    have e2 : n1 * y * (d2 * 2) = n1 * d2 * y + n1 * d2 * y := by
      rw [Int.mul_assoc, ← Int.mul_assoc y, Int.mul_comm y d2, ← Int.mul_assoc, ← Int.mul_assoc]; omega
    omega
  · unfold cmpR
    have k1 : 0 < d1 * 2 := by omega
    rw [← sgn_mul (x := x * d2) (y := n2 * y) k1, ← sgn_mul (x := n1 * d2) (y := n2 * d1) hy]
    have e : x * d2 * (d1 * 2) = (n1 * d2 + n2 * d1) * y := by
      rw [← hm, Int.mul_comm d1 d2]; simp only [Int.mul_assoc]
    rw [e]
    apply sgn_sub
    rw [Int.add_mul]
    have e2 : n2 * y * (d1 * 2) = n2 * d1 * y + n2 * d1 * y := by
      rw [Int.mul_assoc, ← Int.mul_assoc y, Int.mul_comm y d1, ← Int.mul_assoc, ← Int.mul_assoc]; omega
    omega

/-- Twice the middle is the sum. -/
theorem mid_twice {n1 d1 n2 d2 x y s1 s2 t1 t2 : Int} (h1 : 0 < d1) (h2 : 0 < d2) (hy : 0 < y) (hm : x * (d1 * d2 * 2) = (n1 * d2 + n2 * d1) * y)
    (os : okRat s1 s2 = true) (ot : okRat t1 t2 = true) (hs : s1 * (d1 * d2 * 1) = (n1 * d2 + n2 * d1) * s2) (ht : t1 * (y * y * 1) = (x * y + x * y) * t2) : s1 = t1 ∧ s2 = t2 := by
  rw [← cmp_zero os ot]
  unfold cmpR
  rw [sgn_zero]
  have hE : 0 < d1 * d2 := Int.mul_pos h1 h2
  have hyy : 0 < y * y := Int.mul_pos hy hy
  have hK : 0 < d1 * d2 * (y * y) := Int.mul_pos hE hyy
  apply Int.eq_of_mul_eq_mul_right (show d1 * d2 * (y * y) ≠ 0 by omega)
  rw [Int.mul_one] at hs ht
  have a1 : s1 * t2 * (d1 * d2 * (y * y)) = (s1 * (d1 * d2)) * (y * y) * t2 := by ac_rfl
  have a2 : t1 * s2 * (d1 * d2 * (y * y)) = (t1 * (y * y)) * (d1 * d2) * s2 := by ac_rfl
  rw [a1, a2, hs, ht]
  have a3 : (x * y + x * y) * t2 * (d1 * d2) * s2 = x * (d1 * d2 * 2) * (y * t2 * s2) := by
    rw [show x * y + x * y = x * y * 2 by omega]; ac_rfl
  rw [a3, hm]
  ac_rfl
end Go.Proofs.YtpaomeilfmeheaaDoor
