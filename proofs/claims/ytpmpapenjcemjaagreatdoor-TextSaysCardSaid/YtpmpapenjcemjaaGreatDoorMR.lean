/- Contracts of the document's own small functions on fractions (rallentandoref03): Low, Part, common, alone, May, Check, Of. No condition but that numbers are of their kind. Contracts of rallentandoref03's Compared and Cmp, Made, Add, Mid, Kept, Keeps, Floor. No condition but that numbers are of their kind. The walk of rallentandoref03.Made. No condition but what its premises say of the numbers between. Contract of rallentandoref03.Made. No condition but that numbers are small enough. Contracts of rallentandoref03's Add and Mid. No condition but that numbers are of their kind. Contract of rallentandoref03.Add. No condition but that numbers are of their kind. The walk of rallentandoref03.Mid. No condition but what its premises say of the numbers between. Contracts of rallentandoref03's Mid, Kept, Keeps, Floor. No condition but that numbers are of their kind. -/
import Derived.Test.YtpmpapenjcemjaaGreatDoorMA
import Derived.Deep.RegionWith
import Derived.Deep.RegionHeld3
namespace Go.Proofs.YtpmpapenjcemjaaGreatDoor
set_option linter.unusedSimpArgs false
set_option linter.unusedVariables false
open Go Go.RowKit

theorem nat_pos_ne {q : Nat} (h : 0 < q) : ((q : Int) != 0) = true := by simp; omega

theorem gcd_part (n d : Int) (hd : 0 < d) : Nat.gcd (n % d).toNat d.toNat = Nat.gcd n.natAbs d.natAbs := by
  have e1 : (n % d).toNat = (n % d).natAbs := by have := emod_bd n d hd; omega
  have e2 : d.toNat = d.natAbs := by omega
  rw [e1, e2]
  have h := Int.gcd_add_mul_right_left d (n % d) (n / d)
  have e : n % d + n / d * d = n := by have := Int.emod_add_mul_ediv n d; rw [Int.mul_comm]; exact this
  rw [e] at h
  exact h.symm

/-- What is alone: the numbers of a fraction have no common divisor but 1. -/
def aloneB (n d : Int) : Bool := decide (Nat.gcd n.natAbs d.natAbs = 1)

theorem okRat_eq (n d : Int) : okRat n d = (!(decide (d < 1)) && (!(decide (1048576 < d)) && (aloneB n d && withinB n d))) := by
  rw [Bool.eq_iff_iff]
  simp [okRat, aloneB]
  intro _ _
  exact And.comm

end Go.Proofs.YtpmpapenjcemjaaGreatDoor

namespace Go.Proofs.YtpmpapenjcemjaaGreatDoor
set_option linter.unusedSimpArgs false
set_option linter.unusedVariables false
open Go Go.RowKit

theorem cmpR_parts {n1 d1 n2 d2 : Int} (h1 : 0 < d1) (h2 : 0 < d2) :
    cmpR n1 d1 n2 d2 = sgn3 (n1 / d1) (n2 / d2) (sgn3 (n1 % d1 * d2) (n2 % d2 * d1) 0) := by
  have k := kept_parts (n1 := n1) (d1 := d1) (n2 := n2) (d2 := d2) (c := 0) h1 h2
  rw [Int.zero_mul] at k
  unfold cmpR sgn3
  generalize n1 % d1 * d2 = A at *
  generalize n2 % d2 * d1 = B at *
  generalize n1 / d1 = X at *
  generalize n2 / d2 = Y at *
  (repeat split) <;> omega

end Go.Proofs.YtpmpapenjcemjaaGreatDoor

namespace Go.Proofs.YtpmpapenjcemjaaGreatDoor
set_option linter.unusedSimpArgs false
set_option linter.unusedVariables false
open Go Go.RowKit

theorem tdiv_min (D : Int) (h : 0 < D) : 0 ≤ Int.tdiv 9223372036854775808 D ∧ Int.tdiv 9223372036854775808 D ≤ 9223372036854775808 :=
  ⟨Int.tdiv_nonneg (by omega) (by omega), Int.tdiv_le_self _ (by omega)⟩

end Go.Proofs.YtpmpapenjcemjaaGreatDoor

namespace Go.Proofs.YtpmpapenjcemjaaGreatDoor
set_option linter.unusedSimpArgs false
set_option linter.unusedVariables false
open Go Go.RowKit

theorem normR_ok {T G : Int} {t D : Int} (h1 : T / (Nat.gcd T.natAbs G.natAbs : Nat) = t) (h2 : G / (Nat.gcd T.natAbs G.natAbs : Nat) = D) :
    normR T G = if fits64 t ∧ okRat t D = true then (t, D, 0) else (0, 0, 10) := by rw [normR, h1, h2]

theorem over_neg {n P D : Int} (hD : 1 ≤ D) (hD2 : D ≤ 1048576) (hP0 : 0 ≤ P) (hP : P < D) (hn : n < 0) (h : 9223372036854775807 / D < n + 1 ∨ n + 1 < (-9223372036854775808 - (P - D)).tdiv D) : ¬ fits64 (n * D + P) := by
  intro hf
  unfold fits64 at hf
  have e : n * D = (n + 1) * D - D := by rw [Int.add_mul]; omega
  rcases h with h | h
  · have : 0 ≤ 9223372036854775807 / D := Int.ediv_nonneg (by omega) (by omega)
    omega
  · have hm : (-9223372036854775808 - (P - D)).tdiv D ≤ -((9223372036854775808 + (P - D)) / D) := by
      rw [show (-9223372036854775808 - (P - D)) = -(9223372036854775808 + (P - D)) by omega, Int.neg_tdiv, Int.tdiv_eq_ediv_of_nonneg (by omega)]
      omega
    have h2 : (n + 1) < -((9223372036854775808 + (P - D)) / D) := by omega
    have h3 : (9223372036854775808 + (P - D)) / D < -(n + 1) := by omega
    have h4 := Int.lt_mul_of_ediv_lt (by omega : 0 < D) h3
    rw [Int.neg_mul] at h4
    omega
theorem fine_neg {n P D : Int} (hD : 1 ≤ D) (hD2 : D ≤ 1048576) (hP0 : 0 ≤ P) (hP : P < D) (hn : n < 0) (hn2 : -2305843009213693952 ≤ n) (h : ¬ (9223372036854775807 / D < n + 1 ∨ n + 1 < (-9223372036854775808 - (P - D)).tdiv D)) :
    n + 1 ≤ 9223372036854775807 / D ∧ (-9223372036854775808 - (P - D)).tdiv D ≤ n + 1 ∧ -9223372036854775808 ≤ (n + 1) * D ∧ (n + 1) * D ≤ 9223372036854775807 ∧ fits64 (n * D + P) := by
  have h1 : n + 1 ≤ 9223372036854775807 / D := by omega
  have h2 : (-9223372036854775808 - (P - D)).tdiv D ≤ n + 1 := by omega
  have e : n * D = (n + 1) * D - D := by rw [Int.add_mul]; omega
  have hm : (-9223372036854775808 - (P - D)).tdiv D = -((9223372036854775808 + (P - D)) / D) := by
    rw [show (-9223372036854775808 - (P - D)) = -(9223372036854775808 + (P - D)) by omega, Int.neg_tdiv, Int.tdiv_eq_ediv_of_nonneg (by omega)]
  have h3 : -(n + 1) ≤ (9223372036854775808 + (P - D)) / D := by omega
  have h4 := Int.mul_le_of_le_ediv (by omega : 0 < D) h3
  rw [Int.neg_mul] at h4
  have h5 : (n + 1) * D ≤ 0 := Int.mul_nonpos_of_nonpos_of_nonneg (by omega) (by omega)
  refine ⟨h1, h2, by omega, by omega, ?_⟩
  unfold fits64
  omega
theorem over_pos {n P D : Int} (hD : 1 ≤ D) (hP0 : 0 ≤ P) (hP : P < D) (hn : 0 ≤ n) (h : (9223372036854775807 - P) / D < n) : ¬ fits64 (n * D + P) := by
  intro hf
  unfold fits64 at hf
  have h4 := Int.lt_mul_of_ediv_lt (by omega : 0 < D) h
  omega
theorem fine_pos {n P D : Int} (hD : 1 ≤ D) (hP0 : 0 ≤ P) (hP : P < D) (hn : 0 ≤ n) (h : n ≤ (9223372036854775807 - P) / D) : -9223372036854775808 ≤ n * D ∧ n * D ≤ 9223372036854775807 ∧ fits64 (n * D + P) := by
  have h4 := Int.mul_le_of_le_ediv (by omega : 0 < D) h
  have h5 : 0 ≤ n * D := Int.mul_nonneg hn (by omega)
  unfold fits64
  omega

end Go.Proofs.YtpmpapenjcemjaaGreatDoor

namespace Go.Proofs.YtpmpapenjcemjaaGreatDoor
set_option linter.unusedSimpArgs false
set_option linter.unusedVariables false
open Go Go.RowKit

end Go.Proofs.YtpmpapenjcemjaaGreatDoor

namespace Go.Proofs.YtpmpapenjcemjaaGreatDoor
set_option linter.unusedSimpArgs false
set_option linter.unusedVariables false
open Go Go.RowKit

theorem sum_parts {n1 d1 n2 d2 : Int} : n1 * d2 + n2 * d1 = (n1 / d1 + n2 / d2) * (d1 * d2) + (n1 % d1 * d2 + n2 % d2 * d1) := by
  have eX := Int.mul_ediv_add_emod n1 d1
  have eY := Int.mul_ediv_add_emod n2 d2
  have t1 : n1 * d2 = n1 / d1 * (d1 * d2) + n1 % d1 * d2 := by
    conv => lhs; rw [← eX]
    rw [Int.add_mul, Int.mul_comm d1, Int.mul_assoc]
  have t2 : n2 * d1 = n2 / d2 * (d1 * d2) + n2 % d2 * d1 := by
    conv => lhs; rw [← eY]
    rw [Int.add_mul, Int.mul_comm d2 (n2 / d2), Int.mul_assoc, Int.mul_comm d2 d1]
  rw [t1, t2, Int.add_mul]
  omega

end Go.Proofs.YtpmpapenjcemjaaGreatDoor

namespace Go.Proofs.YtpmpapenjcemjaaGreatDoor
set_option linter.unusedSimpArgs false
set_option linter.unusedVariables false
open Go Go.RowKit

end Go.Proofs.YtpmpapenjcemjaaGreatDoor

namespace Go.Proofs.YtpmpapenjcemjaaGreatDoor
set_option linter.unusedSimpArgs false
set_option linter.unusedVariables false
open Go Go.RowKit

theorem mid_arith {X E A B : Int} : (X / 2 + (X % 2 * E + A + B) / (2 * E)) * (2 * E) + (X % 2 * E + A + B) % (2 * E) = X * E + (A + B) := by
  have h := Int.mul_ediv_add_emod (X % 2 * E + A + B) (2 * E)
  have h2 : X / 2 * (2 * E) + X % 2 * E = X * E := by
    rw [← Int.mul_assoc, ← Int.add_mul]
    congr 1
    omega
  rw [Int.add_mul, Int.mul_comm ((X % 2 * E + A + B) / (2 * E))]
  omega

theorem floor_one {n d : Int} (h : okRat n d = true) : decide (n % d = 0) = decide (d = 1) := by
  obtain ⟨h1, h2, h3, h4⟩ := okRat_bd h
  rw [decide_eq_decide]
  constructor
  · intro hm
    have hd : d ∣ n := Int.dvd_of_emod_eq_zero hm
    have : d.natAbs ∣ n.natAbs := Int.natAbs_dvd_natAbs.2 hd
    have e : Nat.gcd n.natAbs d.natAbs = d.natAbs := Nat.gcd_eq_right this
    omega
  · intro hd; subst hd; omega

/-- As the document asks it. -/
theorem keptB_parts {n1 d1 n2 d2 x : Int} (h1 : 0 < d1) (h2 : 0 < d2) (hn : x ≠ noneB) :
    keptB n1 d1 n2 d2 x = if n1 / d1 - n2 / d2 ≠ bnum x then decide (n1 / d1 - n2 / d2 < bnum x) else (decide (n1 % d1 * d2 < n2 % d2 * d1) || (decide (n1 % d1 * d2 = n2 % d2 * d1) && !bstr x)) := by
  have kp := kept_parts (n1 := n1) (d1 := d1) (n2 := n2) (d2 := d2) (c := bnum x) h1 h2
  rw [keptB, decide_eq_false hn, Bool.false_or]
  by_cases hc : n1 / d1 - n2 / d2 = bnum x
  · rw [if_neg (by simpa using hc)]
    exact or_and_dec _ (by rw [kp.1]; simp [hc]) (by rw [kp.2]; simp [hc])
  · rw [if_pos hc]
    have e1 : decide (n1 * d2 - n2 * d1 < bnum x * (d1 * d2)) = decide (n1 / d1 - n2 / d2 < bnum x) := decide_eq_decide.2 (by rw [kp.1]; simp [hc])
    have e2 : decide (n1 * d2 - n2 * d1 = bnum x * (d1 * d2)) = false := decide_eq_false (by rw [kp.2]; simp [hc])
    rw [e1, e2]
    simp

end Go.Proofs.YtpmpapenjcemjaaGreatDoor
