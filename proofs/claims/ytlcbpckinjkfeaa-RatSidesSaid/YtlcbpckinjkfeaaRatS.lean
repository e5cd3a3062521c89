/- Plain law of RatSides: keeping beside comparing, the bound's other side, whole numbers. No condition. -/
import Derived.Test.YtlcbpckinjkfeaaLaw3
import Derived.Test.YtlcbpckinjkfeaaM6
namespace Go.Proofs.Ytlcbpckinjkfeaa
set_option linter.unusedVariables false
set_option linter.unusedSimpArgs false

theorem keptB_one {n1 d1 n2 d2 : Int} : keptB n1 d1 n2 d2 1 = decide (cmpR n1 d1 n2 d2 ≤ 0) := by
  unfold keptB cmpR sgn3 bnum bstr noneB
  rw [Bool.eq_iff_iff]
  simp only [Bool.or_eq_true, Bool.and_eq_true, decide_eq_true_eq, Bool.not_eq_true', decide_eq_false_iff_not]
  rw [show (1 : Int) / 2 = 0 from rfl, Int.zero_mul]
  (repeat' split) <;> omega
theorem keptB_zero {n1 d1 n2 d2 : Int} : keptB n1 d1 n2 d2 0 = decide (cmpR n1 d1 n2 d2 < 0) := by
  unfold keptB cmpR sgn3 bnum bstr noneB
  rw [Bool.eq_iff_iff]
  simp only [Bool.or_eq_true, Bool.and_eq_true, decide_eq_true_eq, Bool.not_eq_true', decide_eq_false_iff_not]
  rw [show (0 : Int) / 2 = 0 from rfl, Int.zero_mul]
  (repeat' split) <;> omega
/-- The other side. -/
theorem keptB_not {n1 d1 n2 d2 x : Int} (hx : x ≠ noneB) (hn : mkB (-(bnum x)) (!bstr x) ≠ noneB) : keptB n2 d2 n1 d1 (mkB (-(bnum x)) (!bstr x)) = !keptB n1 d1 n2 d2 x := by
  have e1 : bnum (mkB (-(bnum x)) (!bstr x)) = -(bnum x) := by unfold mkB bnum bstr; split <;> omega
  have e2 : bstr (mkB (-(bnum x)) (!bstr x)) = !bstr x := by
    unfold mkB bnum bstr
    rw [Bool.eq_iff_iff]; simp; split <;> omega
  unfold keptB
  rw [e1, e2, decide_eq_false hx, decide_eq_false hn]
  have m : -bnum x * (d2 * d1) = -(bnum x * (d1 * d2)) := by rw [Int.neg_mul, Int.mul_comm d2 d1]
  rw [m]
  obtain ⟨A, hA⟩ : ∃ A, A = n1 * d2 := ⟨_, rfl⟩
  obtain ⟨B, hB⟩ : ∃ B, B = n2 * d1 := ⟨_, rfl⟩
  obtain ⟨C, hC⟩ : ∃ C, C = bnum x * (d1 * d2) := ⟨_, rfl⟩
  rw [← hA, ← hB, ← hC]
  cases bstr x <;> (rw [Bool.eq_iff_iff]; simp; omega)
/-- Whole numbers. -/
theorem keptB_whole {p q d1 d2 x : Int} (h1 : 0 < d1) (h2 : 0 < d2) (hx : x ≠ noneB) : keptB (p * d1) d1 (q * d2) d2 x = decide (mkB (p - q) false ≤ x) := by
  have hE := Int.mul_pos h1 h2
  unfold keptB
  rw [decide_eq_false hx, Bool.false_or]
  have e : p * d1 * d2 - q * d2 * d1 = (p - q) * (d1 * d2) := by rw [Int.sub_mul, Int.mul_assoc, Int.mul_assoc q, Int.mul_comm d2 d1]
  rw [e]
  have l : ((p - q) * (d1 * d2) < bnum x * (d1 * d2) ↔ p - q < bnum x) := ⟨fun h => Int.lt_of_mul_lt_mul_right h (by omega), fun h => Int.mul_lt_mul_of_pos_right h hE⟩
  have g : ((p - q) * (d1 * d2) = bnum x * (d1 * d2) ↔ p - q = bnum x) := ⟨fun h => Int.eq_of_mul_eq_mul_right (by omega) h, fun h => by rw [h]⟩
  rw [Bool.eq_iff_iff]
  simp only [Bool.or_eq_true, Bool.and_eq_true, decide_eq_true_eq, Bool.not_eq_true', l, g]
  unfold mkB bnum bstr
  simp
  omega
end Go.Proofs.Ytlcbpckinjkfeaa
