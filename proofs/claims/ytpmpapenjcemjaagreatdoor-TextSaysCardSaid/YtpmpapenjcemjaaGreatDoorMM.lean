/- Plain laws of the order of fractions, and of sums and middles in lowest terms. No condition. Plain laws of middles and sums. No condition. Plain law: sums keep the order of fractions. No condition. -/
import Derived.Test.YtpmpapenjcemjaaGreatDoorMA
namespace Go.Proofs.YtpmpapenjcemjaaGreatDoor
set_option linter.unusedSimpArgs false
set_option linter.unusedVariables false
open Go Go.RowKit

theorem sgn_anti (x y : Int) : sgn3 y x 0 = -(sgn3 x y 0) := by unfold sgn3; (repeat split) <;> omega
theorem sgn_zero {x y : Int} : sgn3 x y 0 = 0 ↔ x = y := by unfold sgn3; (repeat split) <;> omega
theorem sgn_le {x y : Int} : sgn3 x y 0 ≤ 0 ↔ x ≤ y := by unfold sgn3; (repeat split) <;> omega
theorem sgn_lt {x y : Int} : sgn3 x y 0 < 0 ↔ x < y := by unfold sgn3; (repeat split) <;> omega
theorem sgn_sub {x y u v : Int} (h : x - y = u - v) : sgn3 x y 0 = sgn3 u v 0 := by unfold sgn3; (repeat split) <;> omega
theorem sgn_mul {x y k : Int} (hk : 0 < k) : sgn3 (x * k) (y * k) 0 = sgn3 x y 0 := by
  rcases Int.lt_trichotomy x y with h | h | h
  · have := Int.mul_lt_mul_of_pos_right h hk
    unfold sgn3; (repeat split) <;> omega
  · subst h; unfold sgn3; simp
  · have := Int.mul_lt_mul_of_pos_right h hk
    unfold sgn3; (repeat split) <;> omega

theorem cmp_anti (n1 d1 n2 d2 : Int) : cmpR n2 d2 n1 d1 = -(cmpR n1 d1 n2 d2) := sgn_anti _ _

theorem co_dvd {n1 d1 n2 d2 : Int} (h : n1 * d2 = n2 * d1) (hc : Nat.gcd n1.natAbs d1.natAbs = 1) : d1.natAbs ∣ d2.natAbs := by
  have e : n1.natAbs * d2.natAbs = n2.natAbs * d1.natAbs := by rw [← Int.natAbs_mul, ← Int.natAbs_mul, h]
  have hd : d1.natAbs ∣ n1.natAbs * d2.natAbs := ⟨n2.natAbs, by rw [e, Nat.mul_comm]⟩
  exact Nat.Coprime.dvd_of_dvd_mul_left (by rw [Nat.coprime_comm]; exact hc) hd

theorem cmp_zero {n1 d1 n2 d2 : Int} (o1 : okRat n1 d1 = true) (o2 : okRat n2 d2 = true) : cmpR n1 d1 n2 d2 = 0 ↔ n1 = n2 ∧ d1 = d2 := by
  obtain ⟨p1, p2, p3, p4⟩ := okRat_bd o1
  obtain ⟨q1, q2, q3, q4⟩ := okRat_bd o2
  unfold cmpR
  rw [sgn_zero]
  constructor
  · intro h
    have a := co_dvd h p4
    have b := co_dvd h.symm q4
    have hd : d1.natAbs = d2.natAbs := Nat.dvd_antisymm a b
    have hd2 : d1 = d2 := by omega
    subst hd2
    exact ⟨Int.eq_of_mul_eq_mul_right (by omega) h, rfl⟩
  · rintro ⟨rfl, rfl⟩; rfl

theorem cmp_trans {n1 d1 n2 d2 n3 d3 : Int} (h1 : 0 < d1) (h2 : 0 < d2) (h3 : 0 < d3) (ha : cmpR n1 d1 n2 d2 ≤ 0) (hb : cmpR n2 d2 n3 d3 ≤ 0) :
    cmpR n1 d1 n3 d3 ≤ 0 ∧ (cmpR n1 d1 n3 d3 = 0 → cmpR n1 d1 n2 d2 = 0 ∧ cmpR n2 d2 n3 d3 = 0) := by
  unfold cmpR at *
  rw [sgn_le] at *
  rw [sgn_zero, sgn_zero, sgn_zero]
  -- n1 d2 ≤ n2 d1, n2 d3 ≤ n3 d2
  have e1 : n1 * d3 * d2 = n1 * d2 * d3 := by rw [Int.mul_assoc, Int.mul_comm d3, ← Int.mul_assoc]
  have e2 : n2 * d1 * d3 = n2 * d3 * d1 := by rw [Int.mul_assoc, Int.mul_comm d1, ← Int.mul_assoc]
  have e3 : n3 * d2 * d1 = n3 * d1 * d2 := by rw [Int.mul_assoc, Int.mul_comm d2, ← Int.mul_assoc]
  have m1 : n1 * d2 * d3 ≤ n2 * d1 * d3 := Int.mul_le_mul_of_nonneg_right ha (by omega)
  have m2 : n2 * d3 * d1 ≤ n3 * d2 * d1 := Int.mul_le_mul_of_nonneg_right hb (by omega)
  have m3 : n1 * d3 * d2 ≤ n3 * d1 * d2 := by omega
  refine ⟨Int.le_of_mul_le_mul_right m3 h2, fun he => ?_⟩
  have m4 : n1 * d3 * d2 = n3 * d1 * d2 := by rw [he]
  have m5 : n1 * d2 * d3 = n2 * d1 * d3 := by omega
  have m6 : n2 * d3 * d1 = n3 * d2 * d1 := by omega
  exact ⟨Int.eq_of_mul_eq_mul_right (by omega) m5, Int.eq_of_mul_eq_mul_right (by omega) m6⟩

/-- What is in lowest terms is the same fraction. -/
theorem normR_spec {T G t D e : Int} (hG : 0 < G) (h : normR T G = (t, D, e)) : (e = 0 ∧ fits64 t ∧ okRat t D = true ∧ t * G = T * D ∧ 0 < D) ∨ (e = 10 ∧ t = 0 ∧ D = 0) := by
  unfold normR at h
  split at h
  · rename_i hc
    simp only [Prod.mk.injEq] at h
    obtain ⟨ht, hD, he⟩ := h
    have hg0 : 0 < Nat.gcd T.natAbs G.natAbs := Nat.gcd_pos_of_pos_right _ (by omega)
    obtain ⟨a, ha⟩ := gcd_dvd_l T G
    obtain ⟨b, hb⟩ := gcd_dvd_r T G
    generalize Nat.gcd T.natAbs G.natAbs = g at *
    have hgi : (g : Int) ≠ 0 := by omega
    have eT : T / (g : Int) = a := by rw [ha, Int.mul_ediv_cancel_left _ hgi]
    have eG : G / (g : Int) = b := by rw [hb, Int.mul_ediv_cancel_left _ hgi]
    rw [eT] at ht hc
    rw [eG] at hD hc
    subst ht; subst hD
    refine .inl ⟨he.symm, hc.1, hc.2, ?_, ?_⟩
    · rw [hb, ha]
      rw [← Int.mul_assoc, Int.mul_comm a]
    · have := (okRat_bd hc.2).1; omega
  · simp only [Prod.mk.injEq] at h
    exact .inr ⟨h.2.2.symm, h.1.symm, h.2.1.symm⟩
end Go.Proofs.YtpmpapenjcemjaaGreatDoor

namespace Go.Proofs.YtpmpapenjcemjaaGreatDoor
set_option linter.unusedSimpArgs false
set_option linter.unusedVariables false
open Go Go.RowKit

theorem addPR_comm (n1 d1 n2 d2 k : Int) : addPR n1 d1 n2 d2 k = addPR n2 d2 n1 d1 k := by
  unfold addPR sumR
  rw [Bool.and_comm, Int.add_comm (n1 * d2), Int.mul_comm d1 d2]

theorem addPR_spec {n1 d1 n2 d2 k t D e : Int} (hk : 0 < k) (h : addPR n1 d1 n2 d2 k = (t, D, e)) :
    (e = 0 ∧ okRat n1 d1 = true ∧ okRat n2 d2 = true ∧ fits64 t ∧ okRat t D = true ∧ t * (d1 * d2 * k) = (n1 * d2 + n2 * d1) * D ∧ 0 < D ∧ 0 < d1 ∧ 0 < d2) ∨ (e ≠ 0 ∧ t = 0 ∧ D = 0) := by
  unfold addPR at h
  split at h
  · rename_i ho
    have ho : okRat n1 d1 = true ∧ okRat n2 d2 = true := by simpa using ho
    have h1 := (okRat_bd ho.1).1
    have h2 := (okRat_bd ho.2).1
    have hG : 0 < d1 * d2 * k := Int.mul_pos (Int.mul_pos (by omega) (by omega)) hk
    rcases normR_spec hG h with ⟨a, b, c, d, e⟩ | ⟨a, b, c⟩
    · exact .inl ⟨a, ho.1, ho.2, b, c, d, e, by omega, by omega⟩
    · exact .inr ⟨by omega, b, c⟩
  · simp only [Prod.mk.injEq] at h
    exact .inr ⟨by omega, h.1.symm, h.2.1.symm⟩

/-- The middle lies between. -/
theorem mid_cmp {n1 d1 n2 d2 x y : Int} (h1 : 0 < d1) (h2 : 0 < d2) (hy : 0 < y) (hm : x * (d1 * d2 * 2) = (n1 * d2 + n2 * d1) * y) :
    cmpR n1 d1 x y = cmpR n1 d1 n2 d2 ∧ cmpR x y n2 d2 = cmpR n1 d1 n2 d2 := by
  have hE : 0 < d1 * d2 := Int.mul_pos h1 h2
  constructor
  · unfold cmpR
    have k1 : 0 < d2 * 2 := by omega
    rw [← sgn_mul (x := n1 * y) (y := x * d1) k1, ← sgn_mul (x := n1 * d2) (y := n2 * d1) hy]
    have e : x * d1 * (d2 * 2) = (n1 * d2 + n2 * d1) * y := by rw [← hm]; simp only [Int.mul_assoc]
    rw [e]
    apply sgn_sub
    rw [Int.add_mul]
    have e2 : n1 * y * (d2 * 2) = n1 * d2 * y + n1 * d2 * y := by
      rw [Int.mul_assoc, ← Int.mul_assoc y, Int.mul_comm y d2, ← Int.mul_assoc, ← Int.mul_assoc]; omega
    omega
  · unfold cmpR
    have k1 : 0 < d1 * 2 := by omega
    rw [← sgn_mul (x := x * d2) (y := n2 * y) k1, ← sgn_mul (x := n1 * d2) (y := n2 * d1) hy]
    have e : x * d2 * (d1 * 2) = (n1 * d2 + n2 * d1) * y := by
      rw [← hm, Int.mul_comm d1 d2]; simp only [Int.mul_assoc]
    rw [e]
    apply sgn_sub
    rw [Int.add_mul]
    have e2 : n2 * y * (d1 * 2) = n2 * d1 * y + n2 * d1 * y := by
      rw [Int.mul_assoc, ← Int.mul_assoc y, Int.mul_comm y d1, ← Int.mul_assoc, ← Int.mul_assoc]; omega
    omega

/-- Twice the middle is the sum. -/
theorem mid_twice {n1 d1 n2 d2 x y s1 s2 t1 t2 : Int} (h1 : 0 < d1) (h2 : 0 < d2) (hy : 0 < y) (hm : x * (d1 * d2 * 2) = (n1 * d2 + n2 * d1) * y)
    (os : okRat s1 s2 = true) (ot : okRat t1 t2 = true) (hs : s1 * (d1 * d2 * 1) = (n1 * d2 + n2 * d1) * s2) (ht : t1 * (y * y * 1) = (x * y + x * y) * t2) : s1 = t1 ∧ s2 = t2 := by
  rw [← cmp_zero os ot]
  unfold cmpR
  rw [sgn_zero]
  have hE : 0 < d1 * d2 := Int.mul_pos h1 h2
  have hyy : 0 < y * y := Int.mul_pos hy hy
  have hK : 0 < d1 * d2 * (y * y) := Int.mul_pos hE hyy
  apply Int.eq_of_mul_eq_mul_right (show d1 * d2 * (y * y) ≠ 0 by omega)
  rw [Int.mul_one] at hs ht
  have a1 : s1 * t2 * (d1 * d2 * (y * y)) = (s1 * (d1 * d2)) * (y * y) * t2 := by ac_rfl
  have a2 : t1 * s2 * (d1 * d2 * (y * y)) = (t1 * (y * y)) * (d1 * d2) * s2 := by ac_rfl
  rw [a1, a2, hs, ht]
  have a3 : (x * y + x * y) * t2 * (d1 * d2) * s2 = x * (d1 * d2 * 2) * (y * t2 * s2) := by
    rw [show x * y + x * y = x * y * 2 by omega]; ac_rfl
  rw [a3, hm]
  ac_rfl
end Go.Proofs.YtpmpapenjcemjaaGreatDoor

namespace Go.Proofs.YtpmpapenjcemjaaGreatDoor
set_option linter.unusedSimpArgs false
set_option linter.unusedVariables false
open Go Go.RowKit

theorem sum_cmp {n1 d1 n2 d2 n3 d3 x1 x2 y1 y2 : Int} (h1 : 0 < d1) (h2 : 0 < d2) (h3 : 0 < d3) (hx : 0 < x2) (hy : 0 < y2)
    (ex : x1 * (d1 * d3 * 1) = (n1 * d3 + n3 * d1) * x2) (ey : y1 * (d2 * d3 * 1) = (n2 * d3 + n3 * d2) * y2) : cmpR x1 x2 y1 y2 = cmpR n1 d1 n2 d2 := by
  unfold cmpR
  rw [Int.mul_one] at ex ey
  have k1 : 0 < d1 * d3 * (d2 * d3) := Int.mul_pos (Int.mul_pos h1 h3) (Int.mul_pos h2 h3)
  have k2 : 0 < d3 * d3 * (x2 * y2) := Int.mul_pos (Int.mul_pos h3 h3) (Int.mul_pos hx hy)
  rw [← sgn_mul (x := x1 * y2) (y := y1 * x2) k1, ← sgn_mul (x := n1 * d2) (y := n2 * d1) k2]
  apply sgn_sub
  have a1 : x1 * y2 * (d1 * d3 * (d2 * d3)) = (x1 * (d1 * d3)) * (y2 * (d2 * d3)) := by ac_rfl
  have a2 : y1 * x2 * (d1 * d3 * (d2 * d3)) = (y1 * (d2 * d3)) * (x2 * (d1 * d3)) := by ac_rfl
  rw [a1, a2, ex, ey, Int.add_mul, Int.add_mul, Int.add_mul, Int.add_mul]
  have b1 : n1 * d3 * x2 * (y2 * (d2 * d3)) = n1 * d2 * (d3 * d3 * (x2 * y2)) := by ac_rfl
  have b2 : n2 * d3 * y2 * (x2 * (d1 * d3)) = n2 * d1 * (d3 * d3 * (x2 * y2)) := by ac_rfl
  have b3 : n3 * d1 * x2 * (y2 * (d2 * d3)) = n3 * d2 * y2 * (x2 * (d1 * d3)) := by ac_rfl
  rw [b1, b2, b3]
  omega
end Go.Proofs.YtpmpapenjcemjaaGreatDoor
