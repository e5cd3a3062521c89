/- Contracts of rat.sum, rat.Add and rat.Mid. No condition but that numbers are of their kind. -/
import Derived.Test.YtlcbpckinjkfeaaM2
namespace Go.Proofs.Ytlcbpckinjkfeaa
set_option linter.unusedSimpArgs false
set_option linter.unusedVariables false
open Go Go.RowKit

def sumR (n1 d1 n2 d2 k : Int) : Int × Int × Int := normR (n1 * d2 + n2 * d1) (d1 * d2 * k)

theorem withinB_bd {n d : Int} (h : withinB n d = true) : -2305843009213693952 ≤ n / d ∧ n / d ≤ 2305843009213693952 := by
  simp [withinB] at h; omega

theorem mul_bd {a b M K : Int} (h1 : 0 ≤ a) (h2 : a ≤ M) (h3 : 0 ≤ b) (h4 : b ≤ K) : 0 ≤ a * b ∧ a * b ≤ M * K :=
  ⟨Int.mul_nonneg h1 h3, Int.mul_le_mul h2 h4 h3 (Int.le_trans h1 h2)⟩

theorem lowR_one {t D : Int} (h : Nat.gcd t.natAbs D.natAbs = 1) : lowR t D = if okRat t D then (t, D, 0) else (0, 0, 10) := by
  rw [lowR, h]; simp

theorem withinB_far {w P D : Int} (h : (w * D + P) / D = w) (hw : okN w = false) : withinB (w * D + P) D = false := by
  rw [withinB, h]
  simp [okN] at hw
  simp
  omega

theorem sum_any (n1 d1 n2 d2 k : Int) (h1 : fits64 n1) (h2 : fits64 n2) (o1 : okRat n1 d1 = true) (o2 : okRat n2 d2 = true) (hk : 1 ≤ k ∧ k ≤ 2) :
    Pure Try.prog 121 #[.agg #[.int .i64 n1, .int .i64 d1], .agg #[.int .i64 n2, .int .i64 d2], .int .i64 k] (rat3 (sumR n1 d1 n2 d2 k)) := by
  intro w0
  obtain ⟨p1, p2, p3, p4⟩ := okRat_bd o1
  obtain ⟨q1, q2, q3, q4⟩ := okRat_bd o2
  have hX := withinB_bd p3
  have hY := withinB_bd q3
  have hR := emod_bd n1 d1 (by omega)
  have hS := emod_bd n2 d2 (by omega)
  have eX := Int.mul_ediv_add_emod n1 d1
  have eY := Int.mul_ediv_add_emod n2 d2
  have F1 := Lib.hid (fun w => floor_any n1 d1 w h1.1 h1.2 (by omega) (by omega))
  have F2 := Lib.hid (fun w => floor_any n2 d2 w h2.1 h2.2 (by omega) (by omega))
  obtain ⟨X, hXe⟩ : ∃ X, X = n1 / d1 := ⟨_, rfl⟩
  obtain ⟨R, hRe⟩ : ∃ R, R = n1 % d1 := ⟨_, rfl⟩
  obtain ⟨Y, hYe⟩ : ∃ Y, Y = n2 / d2 := ⟨_, rfl⟩
  obtain ⟨S, hSe⟩ : ∃ S, S = n2 % d2 := ⟨_, rfl⟩
  rw [← hXe, ← hRe] at F1 eX
  rw [← hYe, ← hSe] at F2 eY
  rw [← hXe] at hX
  rw [← hYe] at hY
  rw [← hRe] at hR
  rw [← hSe] at hS
  have hA := mul_bd (a := R) (b := d2) (M := 1048576) (K := 1048576) hR.1 (by omega) (by omega) q2
  have hB := mul_bd (a := S) (b := d1) (M := 1048576) (K := 1048576) hS.1 (by omega) (by omega) p2
  have hE := mul_bd (a := d1) (b := d2) (M := 1048576) (K := 1048576) (by omega) p2 (by omega) q2
  have hE0 : 0 < d1 * d2 := Int.mul_pos (by omega) (by omega)
  have F3 := Lib.hid (fun w => floor_any (X + Y) k w (by omega) (by omega) (by omega) (by omega))
  have hL := emod_bd (X + Y) k (by omega)
  have eQ := Int.mul_ediv_add_emod (X + Y) k
  obtain ⟨Q, hQe⟩ : ∃ Q, Q = (X + Y) / k := ⟨_, rfl⟩
  obtain ⟨L, hLe⟩ : ∃ L, L = (X + Y) % k := ⟨_, rfl⟩
  rw [← hQe, ← hLe] at F3 eQ
  rw [← hLe] at hL
  have hC := mul_bd (a := L) (b := d1 * d2) (M := 1) (K := 1099511627776) hL.1 (by omega) (by omega) (by omega)
  have hG := mul_bd (a := d1 * d2) (b := k) (M := 1099511627776) (K := 2) (by omega) (by omega) (by omega) (by omega)
  have hG0 : 0 < d1 * d2 * k := Int.mul_pos hE0 (by omega)
  obtain ⟨A, hAe⟩ : ∃ A, R * d2 = A := ⟨_, rfl⟩
  obtain ⟨B, hBe⟩ : ∃ B, S * d1 = B := ⟨_, rfl⟩
  obtain ⟨E, hEe⟩ : ∃ E, d1 * d2 = E := ⟨_, rfl⟩
  obtain ⟨C, hCe⟩ : ∃ C, L * E = C := ⟨_, rfl⟩
  obtain ⟨G, hGe⟩ : ∃ G, E * k = G := ⟨_, rfl⟩
  rw [hAe] at hA
  rw [hBe] at hB
  rw [hEe] at hE hE0 hC hG hG0
  rw [hCe] at hC
  rw [hGe] at hG hG0
  have F4 := Lib.hid (fun w => floor_any (A + B + C) G w (by omega) (by omega) hG0 (by omega))
  have hp := emod_bd (A + B + C) G hG0
  have eN := Int.mul_ediv_add_emod (A + B + C) G
  have hN0 : 0 ≤ (A + B + C) / G := Int.ediv_nonneg (by omega) (by omega)
  have hN1 : (A + B + C) / G ≤ A + B + C := Int.ediv_le_self _ (by omega)
  obtain ⟨N, hNe⟩ : ∃ N, N = (A + B + C) / G := ⟨_, rfl⟩
  obtain ⟨p, hpe⟩ : ∃ p, p = (A + B + C) % G := ⟨_, rfl⟩
  rw [← hNe, ← hpe] at F4 eN
  rw [← hNe] at hN0 hN1
  rw [← hpe] at hp
  have eT : n1 * d2 + n2 * d1 = (Q + N) * G + p := by
    have t1 : n1 * d2 = X * E + A := by rw [← eX, Int.add_mul, hAe, ← hEe, Int.mul_comm d1 X, Int.mul_assoc]
    have t2 : n2 * d1 = Y * E + B := by rw [← eY, Int.add_mul, hBe, ← hEe, Int.mul_comm d2 Y, Int.mul_assoc, Int.mul_comm d2 d1]
    have t3 : (X + Y) * E = Q * G + C := by rw [← eQ, Int.add_mul, hCe, ← hGe, Int.mul_comm k Q, Int.mul_assoc, Int.mul_comm k E]
    have t4 : (Q + N) * G = Q * G + G * N := by rw [Int.add_mul, Int.mul_comm N G]
    rw [Int.add_mul] at t3
    omega
  have F5 := Lib.hid (fun w => gcd_any p.natAbs G.natAbs w (by omega) (by omega))
  obtain ⟨g, hg⟩ : ∃ g, g = Nat.gcd p.natAbs G.natAbs := ⟨_, rfl⟩
  rw [← hg, show ((p.natAbs : Nat) : Int) = p by omega, show ((G.natAbs : Nat) : Int) = G by omega] at F5
  obtain ⟨P, hPe⟩ : ∃ P, P = p / g := ⟨_, rfl⟩
  obtain ⟨D, hDe⟩ : ∃ D, D = G / g := ⟨_, rfl⟩
  obtain ⟨g0, P0, PD, D0, DG, n1', n2', n3, tP, tD, gG, wd⟩ := norm_parts (w := Q + N) hG0 hp.1 hp.2 hg hPe hDe
  have hQ1 : -2305843009213693952 * 2 ≤ Q ∧ Q ≤ 2305843009213693952 * 2 := by
    rcases (show k = 1 ∨ k = 2 by omega) with rfl | rfl <;> omega
  have RR : sumR n1 d1 n2 d2 k = if fits64 ((Q + N) * D + P) ∧ okRat ((Q + N) * D + P) D = true then ((Q + N) * D + P, D, 0) else (0, 0, 10) := by
    rw [sumR, hEe, hGe, eT, normR, n1', n2']
  obtain ⟨r, hr⟩ : ∃ r, r = sumR n1 d1 n2 d2 k := ⟨_, rfl⟩
  rw [← hr] at RR ⊢
  clear hr
  by_cases hD2 : 1048576 < D
  · refine sum_wide n1 d1 n2 d2 k X R Y S A B E Q L C G N p g P D 0 0 0 0 r w0 hX hY hA hB ⟨hE0, hE.2⟩ ⟨hC.1, by omega⟩ ⟨hG0, by omega⟩ hAe hBe hEe hCe hGe ⟨hp.1, by omega⟩ ⟨by omega, gG⟩ tP tD ⟨P0, by omega⟩ ⟨D0, DG⟩ ⟨by omega, by omega⟩ F1 F2 F3 F4 F5 hD2 ?_
    show _ = _
    rw [RR, if_neg]
    rintro ⟨_, hk⟩
    have := okRat_bd hk
    omega
  · cases hW : okN (Q + N)
    · refine sum_far n1 d1 n2 d2 k X R Y S A B E Q L C G N p g P D 0 0 0 0 r w0 hX hY hA hB ⟨hE0, hE.2⟩ ⟨hC.1, by omega⟩ ⟨hG0, by omega⟩ hAe hBe hEe hCe hGe ⟨hp.1, by omega⟩ ⟨by omega, gG⟩ tP tD ⟨P0, by omega⟩ ⟨D0, DG⟩ ⟨by omega, by omega⟩ F1 F2 F3 F4 F5 (by omega) hW ?_
      show _ = _
      rw [RR, if_neg]
      rintro ⟨_, hk⟩
      have h3 := (okRat_bd hk).2.2.1
      rw [withinB_far wd hW] at h3
      cases h3
    · have hw := okN_bd hW
      by_cases hneg : Q + N < 0
      · have hV : -9671406556917033397649408 ≤ (Q + N + 1) * D ∧ (Q + N + 1) * D ≤ 0 := by
          have := mul_bd (a := -(Q + N + 1)) (b := D) (M := 2305843009213693952) (K := 1048576) (by omega) (by omega) (by omega) (by omega)
          rw [Int.neg_mul] at this
          omega
        obtain ⟨h, hh⟩ : ∃ h, h = hiP (Q + N + 1) D := ⟨_, rfl⟩
        obtain ⟨l, hl⟩ : ∃ l, l = loP (Q + N + 1) D := ⟨_, rfl⟩
        have F6 := Lib.hid (fun w => product_any (Q + N + 1) D (by omega) (by omega) (by omega) (by omega) w)
        rw [← hh, ← hl] at F6
        obtain ⟨il, hil⟩ : ∃ il, wrap64 l = il := ⟨_, rfl⟩
        have GG := goes_iff (V := (Q + N + 1) * D) (U := P - D) ⟨hV.1, by omega⟩ ⟨by omega, by omega⟩ (.inr ⟨hV.2, by omega⟩) hh hl hil
        have eV : (Q + N + 1) * D + (P - D) = (Q + N) * D + P := by rw [Int.add_mul]; omega
        rw [eV] at GG
        refine sum_neg n1 d1 n2 d2 k X R Y S A B E Q L C G N p g P D 0 h l il r w0 hX hY hA hB ⟨hE0, hE.2⟩ ⟨hC.1, by omega⟩ ⟨hG0, by omega⟩ hAe hBe hEe hCe hGe ⟨hp.1, by omega⟩ ⟨by omega, gG⟩ tP tD ⟨P0, by omega⟩ ⟨D0, DG⟩ ⟨by omega, by omega⟩ F1 F2 F3 F4 F5 (by omega) hW hneg hil (by rw [← hil]; unfold wrap64; omega) F6 ?_ ?_
        · intro hgo
          rw [RR, if_neg (fun h => GG.1 hgo h.1)]
        · intro hgo
          obtain ⟨g1, g2⟩ := GG.2 hgo
          have LL := low_any ((Q + N) * D + P) D g1.1 g1.2 (by omega) (by omega)
          rw [lowR_one n3] at LL
          rw [g2, RR]
          cases hok : okRat ((Q + N) * D + P) D
          · rw [hok] at LL; simpa using LL
          · rw [hok] at LL; simpa [g1] using LL
      · have hV : 0 ≤ (Q + N) * D ∧ (Q + N) * D ≤ 9671406556917033397649408 := by
          have := mul_bd (a := Q + N) (b := D) (M := 2305843009213693952) (K := 1048576) (by omega) (by omega) (by omega) (by omega)
          omega
        obtain ⟨h, hh⟩ : ∃ h, h = hiP (Q + N) D := ⟨_, rfl⟩
        obtain ⟨l, hl⟩ : ∃ l, l = loP (Q + N) D := ⟨_, rfl⟩
        have F6 := Lib.hid (fun w => product_any (Q + N) D (by omega) (by omega) (by omega) (by omega) w)
        rw [← hh, ← hl] at F6
        obtain ⟨il, hil⟩ : ∃ il, wrap64 l = il := ⟨_, rfl⟩
        have GG := goes_iff (V := (Q + N) * D) (U := P) ⟨by omega, hV.2⟩ ⟨by omega, by omega⟩ (.inl ⟨hV.1, by omega⟩) hh hl hil
        refine sum_pos n1 d1 n2 d2 k X R Y S A B E Q L C G N p g P D 0 h l il r w0 hX hY hA hB ⟨hE0, hE.2⟩ ⟨hC.1, by omega⟩ ⟨hG0, by omega⟩ hAe hBe hEe hCe hGe ⟨hp.1, by omega⟩ ⟨by omega, gG⟩ tP tD ⟨P0, by omega⟩ ⟨D0, DG⟩ ⟨by omega, by omega⟩ F1 F2 F3 F4 F5 (by omega) hW (by omega) hil (by rw [← hil]; unfold wrap64; omega) F6 ?_ ?_
        · intro hgo
          rw [RR, if_neg (fun h => GG.1 hgo h.1)]
        · intro hgo
          obtain ⟨g1, g2⟩ := GG.2 hgo
          have LL := low_any ((Q + N) * D + P) D g1.1 g1.2 (by omega) (by omega)
          rw [lowR_one n3] at LL
          rw [g2, RR]
          cases hok : okRat ((Q + N) * D + P) D
          · rw [hok] at LL; simpa using LL
          · rw [hok] at LL; simpa [g1] using LL
end Go.Proofs.Ytlcbpckinjkfeaa
