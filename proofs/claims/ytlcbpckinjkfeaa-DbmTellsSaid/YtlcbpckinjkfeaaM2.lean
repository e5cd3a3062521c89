/- Plain laws of the sum of two fractions in lowest terms. No condition. -/
import Derived.Test.YtlcbpckinjkfeaaRat5
namespace Go.Proofs.Ytlcbpckinjkfeaa
set_option linter.unusedSimpArgs false
set_option linter.unusedVariables false
open Go Go.RowKit

def fits64 (t : Int) : Prop := -9223372036854775808 ≤ t ∧ t ≤ 9223372036854775807
instance (t : Int) : Decidable (fits64 t) := by unfold fits64; exact inferInstance

theorem goes_iff {V U h l il : Int} (hV : -9671406556917033397649408 ≤ V ∧ V ≤ 9671406556917033397649408) (hU : -1048576 ≤ U ∧ U ≤ 1048576) (hs : 0 ≤ V ∧ 0 ≤ U ∨ V ≤ 0 ∧ U ≤ 0)
    (hh : h = V / 18446744073709551616) (hl : l = V % 18446744073709551616) (hil : wrap64 l = il) :
    (Goes h il U (wrap64 (il + U)) → ¬ fits64 (V + U)) ∧ (¬ Goes h il U (wrap64 (il + U)) → fits64 (V + U) ∧ wrap64 (il + U) = V + U) := by
  have e : il = (V + 9223372036854775808) % 18446744073709551616 - 9223372036854775808 := by
    rw [← hil, hl]; unfold wrap64; omega
  by_cases hf : h = il / 9223372036854775808
  · -- V fits
    have hVf : V = il := by omega
    have hb : -9223372036854775808 ≤ il ∧ il ≤ 9223372036854775807 := by omega
    subst hVf
    by_cases hsum : fits64 (V + U)
    · have hw : wrap64 (V + U) = V + U := wrap64_id hsum.1 hsum.2
      refine ⟨fun hg => ?_, fun _ => ⟨hsum, hw⟩⟩
      rcases hg with hg | ⟨hg, hz⟩
      · exact (hg hf).elim
      · rw [hw] at hg
        exact (hg (by omega)).elim
    · refine ⟨fun _ => hsum, fun hg => ?_⟩
      exfalso
      apply hg
      refine .inr ?_
      unfold fits64 at hsum
      rcases hs with ⟨s1, s2⟩ | ⟨s1, s2⟩
      · have hw : wrap64 (V + U) = V + U - 18446744073709551616 := by unfold wrap64; omega
        rw [hw]; omega
      · have hw : wrap64 (V + U) = V + U + 18446744073709551616 := by unfold wrap64; omega
        rw [hw]; omega
  · have hVf : ¬ fits64 V := by
      intro hv
      unfold fits64 at hv
      apply hf
      omega
    refine ⟨fun _ hsum => ?_, fun hg => ?_⟩
    · unfold fits64 at hVf hsum
      omega
    · exact (hg (.inl hf)).elim

/-- T by G in lowest terms, if it may be. -/
def normR (T G : Int) : Int × Int × Int :=
  if fits64 (T / (Nat.gcd T.natAbs G.natAbs : Nat)) ∧ okRat (T / (Nat.gcd T.natAbs G.natAbs : Nat)) (G / (Nat.gcd T.natAbs G.natAbs : Nat)) = true then
    (T / (Nat.gcd T.natAbs G.natAbs : Nat), G / (Nat.gcd T.natAbs G.natAbs : Nat), 0) else (0, 0, 10)

theorem gcd_step (w G p : Int) : Nat.gcd (w * G + p).natAbs G.natAbs = Nat.gcd p.natAbs G.natAbs := by
  have h := Int.gcd_add_mul_right_left G p w
  rw [Int.add_comm] at h
  exact h

theorem div_gcd_co (p G : Int) (hG : 0 < G) : Nat.gcd (p / (Nat.gcd p.natAbs G.natAbs : Nat)).natAbs (G / (Nat.gcd p.natAbs G.natAbs : Nat)).natAbs = 1 := by
  have hg0 : 0 < Nat.gcd p.natAbs G.natAbs := Nat.gcd_pos_of_pos_right _ (by omega)
  have e1 := Int.natAbs_ediv_of_dvd (gcd_dvd_l p G)
  have e2 := Int.natAbs_ediv_of_dvd (gcd_dvd_r p G)
  rw [e1, e2]
  simp only [Int.natAbs_natCast]
  rw [Nat.gcd_div (Nat.gcd_dvd_left _ _) (Nat.gcd_dvd_right _ _), Nat.div_self hg0]

/-- What the code reckons with, beside T = w * G + p. -/
theorem norm_parts {w G p : Int} (hG : 0 < G) (hp0 : 0 ≤ p) (hpG : p < G) {g : Nat} (hg : g = Nat.gcd p.natAbs G.natAbs) {P D : Int} (hP : P = p / g) (hD : D = G / g) :
    0 < g ∧ 0 ≤ P ∧ P < D ∧ 0 < D ∧ D ≤ G ∧ (w * G + p) / (Nat.gcd (w * G + p).natAbs G.natAbs : Nat) = w * D + P ∧ G / (Nat.gcd (w * G + p).natAbs G.natAbs : Nat) = D ∧ Nat.gcd (w * D + P).natAbs D.natAbs = 1 ∧
      p.tdiv g = P ∧ G.tdiv g = D ∧ (g : Int) ≤ G ∧ (w * D + P) / D = w := by
  have hg0 : 0 < g := by rw [hg]; exact Nat.gcd_pos_of_pos_right _ (by omega)
  have hgG : (g : Int) ∣ G := by rw [hg]; exact gcd_dvd_r p G
  have hgp : (g : Int) ∣ p := by rw [hg]; exact gcd_dvd_l p G
  have hco := div_gcd_co p G hG
  rw [← hg, ← hP, ← hD] at hco
  obtain ⟨a, ha⟩ := hgG
  obtain ⟨b, hb⟩ := hgp
  have hgi : (g : Int) ≠ 0 := by omega
  have hDa : D = a := by rw [hD, ha, Int.mul_ediv_cancel_left _ hgi]
  have hPb : P = b := by rw [hP, hb, Int.mul_ediv_cancel_left _ hgi]
  subst hDa; subst hPb
  have hD0 : 0 < D := by
    rw [ha] at hG
    exact Int.pos_of_mul_pos_right hG (by omega)
  have hP0 : 0 ≤ P := by
    rw [hP]; exact Int.ediv_nonneg hp0 (by omega)
  have hPD : P < D := by
    rw [ha, hb] at hpG
    exact Int.lt_of_mul_lt_mul_left hpG (by omega)
  have hDG : D ≤ G := by
    rw [ha]
    have : 1 * D ≤ (g : Int) * D := Int.mul_le_mul_of_nonneg_right (by omega) (by omega)
    omega
  have hgle : (g : Int) ≤ G := Int.le_of_dvd hG ⟨D, ha⟩
  have eT : w * G + p = (g : Int) * (w * D + P) := by
    rw [ha, hb, Int.mul_add]
    congr 1
    rw [← Int.mul_assoc, ← Int.mul_assoc, Int.mul_comm w]
  refine ⟨hg0, hP0, hPD, hD0, hDG, ?_, ?_, ?_, ?_, ?_, hgle, ?_⟩
  · rw [gcd_step, ← hg, eT, Int.mul_ediv_cancel_left _ hgi]
  · rw [gcd_step, ← hg, hD]
  · rw [gcd_step]; exact hco
  · rw [tdiv_exact p g hg0 ⟨P, hb⟩, hP]
  · rw [tdiv_exact G g hg0 ⟨D, ha⟩, hD]
  · rw [Int.add_comm, Int.add_mul_ediv_right _ _ (by omega), Int.ediv_eq_zero_of_lt hP0 hPD]; omega
end Go.Proofs.Ytlcbpckinjkfeaa
