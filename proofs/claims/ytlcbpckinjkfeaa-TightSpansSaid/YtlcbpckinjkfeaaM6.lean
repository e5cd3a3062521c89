/- Plain laws of whole numbers below fractions, and of fractions told otherwise. No condition. -/
import Derived.Test.YtlcbpckinjkfeaaM5
namespace Go.Proofs.Ytlcbpckinjkfeaa
set_option linter.unusedSimpArgs false
set_option linter.unusedVariables false
open Go Go.RowKit

theorem lowR_scale {n d k : Int} (hd : 0 < d) (hk : 0 < k) : lowR (n * k) (d * k) = lowR n d := by
  have hg0 : 0 < Nat.gcd n.natAbs d.natAbs := Nat.gcd_pos_of_pos_right _ (by omega)
  have e : Nat.gcd (n * k).natAbs (d * k).natAbs = Nat.gcd n.natAbs d.natAbs * k.natAbs := by
    rw [Int.natAbs_mul, Int.natAbs_mul, Nat.gcd_mul_right]
  have hkk : ((k.natAbs : Nat) : Int) = k := by omega
  have a : ∀ z : Int, (z * k) / ((Nat.gcd n.natAbs d.natAbs * k.natAbs : Nat) : Int) = z / ((Nat.gcd n.natAbs d.natAbs : Nat) : Int) := by
    intro z
    rw [Int.natCast_mul, hkk]
    exact Int.mul_ediv_mul_of_pos_left z _ hk
  unfold lowR
  rw [e, a, a]
theorem ofR_spec {n d x y e : Int} (h : ofR n d = (x, y, e)) : (e = 0 ∧ 1 ≤ d ∧ okRat x y = true ∧ lowR n d = (x, y, 0)) ∨ (e ≠ 0 ∧ x = 0 ∧ y = 0) := by
  unfold ofR at h
  split at h
  · simp only [Prod.mk.injEq] at h
    exact .inr ⟨by omega, h.1.symm, h.2.1.symm⟩
  · rename_i hd
    have h2 := h
    unfold lowR at h
    split at h
    · rename_i hok
      simp only [Prod.mk.injEq] at h
      obtain ⟨h1, h3, h4⟩ := h
      refine .inl ⟨h4.symm, by omega, by rw [← h1, ← h3]; exact hok, by rw [h2, ← h4]⟩
    · simp only [Prod.mk.injEq] at h
      exact .inr ⟨by omega, h.1.symm, h.2.1.symm⟩
theorem okRat_one (q : Int) : okRat q 1 = decide (-2305843009213693952 ≤ q ∧ q ≤ 2305843009213693952) := by
  rw [Bool.eq_iff_iff]
  simp [okRat, withinB]
  omega
theorem ofR_one (q : Int) : ofR q 1 = if -2305843009213693952 ≤ q ∧ q ≤ 2305843009213693952 then (q, 1, 0) else (0, 0, 10) := by
  have h1 : Nat.gcd q.natAbs (1 : Int).natAbs = 1 := by simp
  simp [ofR, lowR, okRat_one]
theorem within_fd {x y : Int} (h : okRat x y = true) : -2305843009213693952 ≤ x / y ∧ x / y ≤ 2305843009213693952 := by
  have := (okRat_bd h).2.2.1
  simp [withinB] at this
  omega
theorem floor_cmp {x y : Int} (hy : 0 < y) : cmpR (x / y) 1 x y = if x % y = 0 then 0 else -1 := by
  have e := Int.mul_ediv_add_emod x y
  have m := Int.emod_nonneg x (show y ≠ 0 by omega)
  rw [Int.mul_comm] at e
  unfold cmpR sgn3
  rw [Int.mul_one]
  by_cases h : x % y = 0
  · rw [if_pos h, if_neg (by omega), if_neg (by omega)]
  · rw [if_neg h, if_pos (by omega)]
theorem next_cmp {x y : Int} (hy : 0 < y) : cmpR x y (x / y + 1) 1 = -1 := by
  have e := Int.mul_ediv_add_emod x y
  have m := Int.emod_lt_of_pos x hy
  rw [Int.mul_comm] at e
  unfold cmpR sgn3
  rw [Int.mul_one, Int.add_mul, Int.one_mul, if_pos (by omega)]
end Go.Proofs.Ytlcbpckinjkfeaa
