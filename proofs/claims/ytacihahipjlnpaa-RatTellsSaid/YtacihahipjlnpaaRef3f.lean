/- Contract of rallentandoref03.Add. No condition but that numbers are of their kind. -/
import Derived.Test.YtacihahipjlnpaaRef3e
namespace Go.Proofs.Ytacihahipjlnpaa
set_option linter.unusedSimpArgs false
set_option linter.unusedVariables false
open Go Go.RowKit

theorem sum_parts {n1 d1 n2 d2 : Int} : n1 * d2 + n2 * d1 = (n1 / d1 + n2 / d2) * (d1 * d2) + (n1 % d1 * d2 + n2 % d2 * d1) := by
  have eX := Int.mul_ediv_add_emod n1 d1
  have eY := Int.mul_ediv_add_emod n2 d2
  have t1 : n1 * d2 = n1 / d1 * (d1 * d2) + n1 % d1 * d2 := by
    conv => lhs; rw [← eX]
    rw [Int.add_mul, Int.mul_comm d1, Int.mul_assoc]
  have t2 : n2 * d1 = n2 / d2 * (d1 * d2) + n2 % d2 * d1 := by
    conv => lhs; rw [← eY]
    rw [Int.add_mul, Int.mul_comm d2 (n2 / d2), Int.mul_assoc, Int.mul_comm d2 d1]
  rw [t1, t2, Int.add_mul]
  omega

set_option maxRecDepth 10000 in
theorem refAdd_any (n1 d1 n2 d2 : Int) (h1 : fits64 n1) (h2 : fits64 n2) :
    Pure Try.prog 33 #[.agg #[.int .i64 n1, .int .i64 d1], .agg #[.int .i64 n2, .int .i64 d2]] (rat3 (addPR n1 d1 n2 d2 1)) := by
  intro w
  cases o1 : okRat n1 d1
  · have C1 := may_bad h1.1 h1.2 o1
    have R : Hid (addPR n1 d1 n2 d2 1 = (0, 0, 8)) := by show _ = _; rw [addPR, o1]; rfl
    clear o1 h1 h2
    go_enter Try.func33, Try.ntmps33
    go_wp2_with (fail)
    refine (C1 _).mono ?_; rintro e w' ⟨rfl, p, rfl⟩
    go_wp2
    go_returns
    exact gives_rat R.out (by (repeat' (first | (with_reducible assumption) | (with_reducible exact Below.refl _ _) | (with_reducible refine below_wov ?_ ?_ _) | (with_reducible refine below_drewN ?_ _) | (with_reducible refine Below.drew ?_) | (with_reducible refine Below.alloc ?_ ?_ _) | (with_reducible refine Below.setCell ?_ ?_ _) | (with_reducible exact Nat.le_refl _) | omega | (simp only [World.size_alloc, World.size_setCell, World.size_drew, Wov_size, World.heap_drewN]; omega))))
  · have C1 := may_ok h1.1 h1.2 o1
    cases o2 : okRat n2 d2
    · have C2 := may_bad h2.1 h2.2 o2
      have R : Hid (addPR n1 d1 n2 d2 1 = (0, 0, 8)) := by show _ = _; rw [addPR, o1, o2]; rfl
      clear o1 o2 h1 h2
      go_enter Try.func33, Try.ntmps33
      go_wp2_with (fail)
      refine (C1 _).mono ?_; rintro e w' ⟨rfl, p, rfl⟩
      go_wp2_with (fail)
      refine (C2 _).mono ?_; rintro e w' ⟨rfl, p2, rfl⟩
      go_wp2
      go_returns
      exact gives_rat R.out (by (repeat' (first | (with_reducible assumption) | (with_reducible exact Below.refl _ _) | (with_reducible refine below_wov ?_ ?_ _) | (with_reducible refine below_drewN ?_ _) | (with_reducible refine Below.drew ?_) | (with_reducible refine Below.alloc ?_ ?_ _) | (with_reducible refine Below.setCell ?_ ?_ _) | (with_reducible exact Nat.le_refl _) | omega | (simp only [World.size_alloc, World.size_setCell, World.size_drew, Wov_size, World.heap_drewN]; omega))))
    · have C2 := may_ok h2.1 h2.2 o2
      obtain ⟨p1, p2, p3, p4⟩ := okRat_bd o1
      obtain ⟨q1, q2, q3, q4⟩ := okRat_bd o2
      have hX := withinB_bd p3
      have hY := withinB_bd q3
      have hR := emod_bd n1 d1 (by omega)
      have hS := emod_bd n2 d2 (by omega)
      have hA := mul_bd (a := n1 % d1) (b := d2) (M := 1048576) (K := 1048576) hR.1 (by omega) (by omega) q2
      have hB := mul_bd (a := n2 % d2) (b := d1) (M := 1048576) (K := 1048576) hS.1 (by omega) (by omega) p2
      have hE := mul_bd (a := d1) (b := d2) (M := 1048576) (K := 1048576) (by omega) p2 (by omega) q2
      have hE0 : 0 < d1 * d2 := Int.mul_pos (by omega) (by omega)
      have hQ0 : 0 ≤ (n1 % d1 * d2 + n2 % d2 * d1) / (d1 * d2) := Int.ediv_nonneg (by omega) (by omega)
      have hQ1 : (n1 % d1 * d2 + n2 % d2 * d1) / (d1 * d2) ≤ n1 % d1 * d2 + n2 % d2 * d1 := Int.ediv_le_self _ (by omega)
      have hL := emod_bd (n1 % d1 * d2 + n2 % d2 * d1) (d1 * d2) hE0
      have eQ := Int.mul_ediv_add_emod (n1 % d1 * d2 + n2 % d2 * d1) (d1 * d2)
      obtain ⟨x, y, s, M, hxy⟩ := made_out (n1 / d1 + n2 / d2 + (n1 % d1 * d2 + n2 % d2 * d1) / (d1 * d2)) ((n1 % d1 * d2 + n2 % d2 * d1) % (d1 * d2)) (d1 * d2) ⟨by omega, by omega⟩ hL (by omega)
      have eT : (n1 / d1 + n2 / d2 + (n1 % d1 * d2 + n2 % d2 * d1) / (d1 * d2)) * (d1 * d2) + (n1 % d1 * d2 + n2 % d2 * d1) % (d1 * d2) = n1 * d2 + n2 * d1 := by
        rw [sum_parts (n1 := n1) (d1 := d1) (n2 := n2) (d2 := d2), Int.add_mul _ ((n1 % d1 * d2 + n2 % d2 * d1) / (d1 * d2)), Int.mul_comm ((n1 % d1 * d2 + n2 % d2 * d1) / (d1 * d2))]
        omega
      rw [eT] at hxy
      have R : addPR n1 d1 n2 d2 1 = normR (n1 * d2 + n2 * d1) (d1 * d2) := by rw [addPR, o1, o2, sumR, Int.mul_one]; rfl
      rw [R]
      exact refAdd_walk n1 d1 n2 d2 _ _ _ _ _ _ _ 0 0 _ _ x y s w ⟨p1, p2⟩ ⟨q1, q2⟩ hX hY ⟨hA.1, by omega⟩ ⟨hB.1, by omega⟩ ⟨by omega, by omega⟩ ⟨hQ0, by omega⟩ rfl rfl rfl rfl rfl C1 C2
        (fun w => refLow_any n1 d1 w h1.1 h1.2 (by omega) (by omega)) (fun w => refLow_any n2 d2 w h2.1 h2.2 (by omega) (by omega)) (fun w => refPart_any n1 d1 w h1.1 h1.2 (by omega) (by omega)) (fun w => refPart_any n2 d2 w h2.1 h2.2 (by omega) (by omega)) M _ hxy
end Go.Proofs.Ytacihahipjlnpaa
