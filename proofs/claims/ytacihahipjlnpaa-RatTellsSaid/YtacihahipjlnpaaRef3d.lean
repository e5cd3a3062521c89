/- Contract of rallentandoref03.Made. No condition but that numbers are small enough. -/
import Derived.Test.YtacihahipjlnpaaRef3c
namespace Go.Proofs.Ytacihahipjlnpaa
set_option linter.unusedSimpArgs false
set_option linter.unusedVariables false
open Go Go.RowKit

theorem normR_ok {T G : Int} {t D : Int} (h1 : T / (Nat.gcd T.natAbs G.natAbs : Nat) = t) (h2 : G / (Nat.gcd T.natAbs G.natAbs : Nat) = D) :
    normR T G = if fits64 t ∧ okRat t D = true then (t, D, 0) else (0, 0, 10) := by rw [normR, h1, h2]

theorem over_neg {n P D : Int} (hD : 1 ≤ D) (hD2 : D ≤ 1048576) (hP0 : 0 ≤ P) (hP : P < D) (hn : n < 0) (h : 9223372036854775807 / D < n + 1 ∨ n + 1 < (-9223372036854775808 - (P - D)).tdiv D) : ¬ fits64 (n * D + P) := by
  intro hf
  unfold fits64 at hf
  have e : n * D = (n + 1) * D - D := by rw [Int.add_mul]; omega
  rcases h with h | h
  · have : 0 ≤ 9223372036854775807 / D := Int.ediv_nonneg (by omega) (by omega)
    omega
  · have hm : (-9223372036854775808 - (P - D)).tdiv D ≤ -((9223372036854775808 + (P - D)) / D) := by
      rw [show (-9223372036854775808 - (P - D)) = -(9223372036854775808 + (P - D)) by omega, Int.neg_tdiv, Int.tdiv_eq_ediv_of_nonneg (by omega)]
      omega
    have h2 : (n + 1) < -((9223372036854775808 + (P - D)) / D) := by omega
    have h3 : (9223372036854775808 + (P - D)) / D < -(n + 1) := by omega
    have h4 := Int.lt_mul_of_ediv_lt (by omega : 0 < D) h3
    rw [Int.neg_mul] at h4
    omega
theorem fine_neg {n P D : Int} (hD : 1 ≤ D) (hD2 : D ≤ 1048576) (hP0 : 0 ≤ P) (hP : P < D) (hn : n < 0) (hn2 : -2305843009213693952 ≤ n) (h : ¬ (9223372036854775807 / D < n + 1 ∨ n + 1 < (-9223372036854775808 - (P - D)).tdiv D)) :
    n + 1 ≤ 9223372036854775807 / D ∧ (-9223372036854775808 - (P - D)).tdiv D ≤ n + 1 ∧ -9223372036854775808 ≤ (n + 1) * D ∧ (n + 1) * D ≤ 9223372036854775807 ∧ fits64 (n * D + P) := by
  have h1 : n + 1 ≤ 9223372036854775807 / D := by omega
  have h2 : (-9223372036854775808 - (P - D)).tdiv D ≤ n + 1 := by omega
  have e : n * D = (n + 1) * D - D := by rw [Int.add_mul]; omega
  have hm : (-9223372036854775808 - (P - D)).tdiv D = -((9223372036854775808 + (P - D)) / D) := by
    rw [show (-9223372036854775808 - (P - D)) = -(9223372036854775808 + (P - D)) by omega, Int.neg_tdiv, Int.tdiv_eq_ediv_of_nonneg (by omega)]
  have h3 : -(n + 1) ≤ (9223372036854775808 + (P - D)) / D := by omega
  have h4 := Int.mul_le_of_le_ediv (by omega : 0 < D) h3
  rw [Int.neg_mul] at h4
  have h5 : (n + 1) * D ≤ 0 := Int.mul_nonpos_of_nonpos_of_nonneg (by omega) (by omega)
  refine ⟨h1, h2, by omega, by omega, ?_⟩
  unfold fits64
  omega
theorem over_pos {n P D : Int} (hD : 1 ≤ D) (hP0 : 0 ≤ P) (hP : P < D) (hn : 0 ≤ n) (h : (9223372036854775807 - P) / D < n) : ¬ fits64 (n * D + P) := by
  intro hf
  unfold fits64 at hf
  have h4 := Int.lt_mul_of_ediv_lt (by omega : 0 < D) h
  omega
theorem fine_pos {n P D : Int} (hD : 1 ≤ D) (hP0 : 0 ≤ P) (hP : P < D) (hn : 0 ≤ n) (h : n ≤ (9223372036854775807 - P) / D) : -9223372036854775808 ≤ n * D ∧ n * D ≤ 9223372036854775807 ∧ fits64 (n * D + P) := by
  have h4 := Int.mul_le_of_le_ediv (by omega : 0 < D) h
  have h5 : 0 ≤ n * D := Int.mul_nonneg hn (by omega)
  unfold fits64
  omega

theorem made_out (n p k : Int) (hn : -9223372036854775808 ≤ n ∧ n ≤ 9223372036854775807) (hp : 0 ≤ p ∧ p < k) (hk : k ≤ 9223372036854775807) :
    ∃ (x y : Int) (s : Bool), Pure Try.prog 71 #[.int .i64 n, .int .i64 p, .int .i64 k] (.tuple #[.agg #[.int .i64 x, .int .i64 y], .bool s]) ∧
      (s = true ∧ normR (n * k + p) k = (x, y, 0) ∨ s = false ∧ normR (n * k + p) k = (0, 0, 10)) := by
  have hk0 : 0 < k := by omega
  have F1 := Lib.hid (fun w => refCommon_any p.natAbs k.natAbs w (by omega) (by omega))
  obtain ⟨g, hg⟩ : ∃ g, g = Nat.gcd p.natAbs k.natAbs := ⟨_, rfl⟩
  rw [← hg, show ((p.natAbs : Nat) : Int) = p by omega, show ((k.natAbs : Nat) : Int) = k by omega] at F1
  obtain ⟨P, hPe⟩ : ∃ P, P = p / g := ⟨_, rfl⟩
  obtain ⟨D, hDe⟩ : ∃ D, D = k / g := ⟨_, rfl⟩
  obtain ⟨g0, P0, PD, D0, DG, e1, e2, e3, tP, tD, gG, wd⟩ := norm_parts (w := n) hk0 hp.1 hp.2 hg hPe hDe
  have RR := normR_ok e1 e2
  have over : ¬ (fits64 (n * D + P) ∧ okRat (n * D + P) D = true) → normR (n * k + p) k = (0, 0, 10) := fun h => by rw [RR, if_neg h]
  by_cases hD2 : 1048576 < D
  · refine ⟨0, 0, false, fun w => made_wide n p k P D g w hn hp ⟨hk0, hk⟩ g0 tP tD ⟨P0, PD⟩ ⟨D0, DG⟩ F1 hD2, .inr ⟨rfl, over ?_⟩⟩
    rintro ⟨_, h⟩
    have := okRat_bd h
    omega
  · by_cases hfar : n < -2305843009213693952 ∨ 2305843009213693952 < n
    · refine ⟨0, 0, false, fun w => made_far n p k P D g w hn hp ⟨hk0, hk⟩ g0 tP tD ⟨P0, PD⟩ ⟨D0, DG⟩ F1 (by omega) hfar, .inr ⟨rfl, over ?_⟩⟩
      rintro ⟨_, h⟩
      have := (okRat_bd h).2.2.1
      have hw : okN n = false := by simp [okN]; omega
      rw [withinB_far wd hw] at this
      cases this
    · by_cases hneg : n < 0
      · by_cases ho : 9223372036854775807 / D < n + 1 ∨ n + 1 < (-9223372036854775808 - (P - D)).tdiv D
        · exact ⟨0, 0, false, fun w => made_nover n p k P D g w hn hp ⟨hk0, hk⟩ g0 tP tD ⟨P0, PD⟩ ⟨D0, DG⟩ F1 (by omega) (by omega) hneg ho, .inr ⟨rfl, over (fun h => over_neg D0 (by omega) P0 PD hneg ho h.1)⟩⟩
        · obtain ⟨f1, f2, f3, f4, f5⟩ := fine_neg D0 (by omega) P0 PD hneg (by omega) ho
          have e : (n + 1) * D + (P - D) = n * D + P := by rw [Int.add_mul]; omega
          have hM := may_any (n * D + P) D f5.1 f5.2
          refine ⟨(n + 1) * D + (P - D), D, okRat (n * D + P) D, fun w => made_nfine n p k P D g w hn hp ⟨hk0, hk⟩ g0 tP tD ⟨P0, PD⟩ ⟨D0, DG⟩ F1 (by omega) (by omega) hneg f1 f2 _ rfl ⟨f3, f4⟩ (by rw [e]; exact f5) _ (by rw [e]; exact hM), ?_⟩
          rw [e]
          cases hok : okRat (n * D + P) D
          · exact .inr ⟨rfl, over (fun h => by rw [hok] at h; cases h.2)⟩
          · exact .inl ⟨rfl, by rw [RR, if_pos ⟨f5, hok⟩]⟩
      · by_cases ho : (9223372036854775807 - P) / D < n
        · exact ⟨0, 0, false, fun w => made_pover n p k P D g w hn hp ⟨hk0, hk⟩ g0 tP tD ⟨P0, PD⟩ ⟨D0, DG⟩ F1 (by omega) (by omega) (by omega) ho, .inr ⟨rfl, over (fun h => over_pos D0 P0 PD (by omega) ho h.1)⟩⟩
        · obtain ⟨f3, f4, f5⟩ := fine_pos D0 P0 PD (by omega) (Int.not_lt.1 ho)
          have hM := may_any (n * D + P) D f5.1 f5.2
          refine ⟨n * D + P, D, okRat (n * D + P) D, fun w => made_pfine n p k P D g w hn hp ⟨hk0, hk⟩ g0 tP tD ⟨P0, PD⟩ ⟨D0, DG⟩ F1 (by omega) (by omega) (by omega) (by omega) _ rfl ⟨f3, f4⟩ f5 _ hM, ?_⟩
          cases hok : okRat (n * D + P) D
          · exact .inr ⟨rfl, over (fun h => by rw [hok] at h; cases h.2)⟩
          · exact .inl ⟨rfl, by rw [RR, if_pos ⟨f5, hok⟩]⟩
end Go.Proofs.Ytacihahipjlnpaa
