/- Contracts of rallentandoref03's Compared and Cmp, Made, Add, Mid, Kept, Keeps, Floor. No condition but that numbers are of their kind. -/
import Derived.Test.YtacihahipjlnpaaRef3a
import Derived.Test.YtacihahipjlnpaaRef2
import Derived.Test.YtacihahipjlnpaaRat8
import Derived.Deep.RegionWith
namespace Go.Proofs.Ytacihahipjlnpaa
set_option linter.unusedSimpArgs false
set_option linter.unusedVariables false
open Go Go.RowKit

theorem cmpR_parts {n1 d1 n2 d2 : Int} (h1 : 0 < d1) (h2 : 0 < d2) :
    cmpR n1 d1 n2 d2 = sgn3 (n1 / d1) (n2 / d2) (sgn3 (n1 % d1 * d2) (n2 % d2 * d1) 0) := by
  have k := kept_parts (n1 := n1) (d1 := d1) (n2 := n2) (d2 := d2) (c := 0) h1 h2
  rw [Int.zero_mul] at k
  unfold cmpR sgn3
  generalize n1 % d1 * d2 = A at *
  generalize n2 % d2 * d1 = B at *
  generalize n1 / d1 = X at *
  generalize n2 / d2 = Y at *
  (repeat split) <;> omega

set_option maxRecDepth 10000 in
set_option maxHeartbeats 1000000 in
theorem refCompared_any (n1 d1 n2 d2 : Int) (h1 : fits64 n1) (h2 : fits64 n2) (o1 : okRat n1 d1 = true) (o2 : okRat n2 d2 = true) :
    Pure Try.prog 70 #[.agg #[.int .i64 n1, .int .i64 d1], .agg #[.int .i64 n2, .int .i64 d2]] (.int .i64 (cmpR n1 d1 n2 d2)) := by
  intro w
  obtain ⟨p1, p2, p3, p4⟩ := okRat_bd o1
  obtain ⟨q1, q2, q3, q4⟩ := okRat_bd o2
  have hR := emod_bd n1 d1 (by omega)
  have hS := emod_bd n2 d2 (by omega)
  have hA := mul_bd (a := n1 % d1) (b := d2) (M := 1048576) (K := 1048576) hR.1 (by omega) (by omega) q2
  have hB := mul_bd (a := n2 % d2) (b := d1) (M := 1048576) (K := 1048576) hS.1 (by omega) (by omega) p2
  have L1 := Lib.hid (fun w => refLow_any n1 d1 w h1.1 h1.2 (by omega) (by omega))
  have L2 := Lib.hid (fun w => refLow_any n2 d2 w h2.1 h2.2 (by omega) (by omega))
  have P1 := Lib.hid (fun w => refPart_any n1 d1 w h1.1 h1.2 (by omega) (by omega))
  have P2 := Lib.hid (fun w => refPart_any n2 d2 w h2.1 h2.2 (by omega) (by omega))
  have R : Hid (cmpR n1 d1 n2 d2 = sgn3 (n1 / d1) (n2 / d2) (sgn3 (n1 % d1 * d2) (n2 % d2 * d1) 0)) := cmpR_parts (by omega) (by omega)
  obtain ⟨X, hXe⟩ : ∃ X, X = n1 / d1 := ⟨_, rfl⟩
  obtain ⟨Y, hYe⟩ : ∃ Y, Y = n2 / d2 := ⟨_, rfl⟩
  obtain ⟨r, hre⟩ : ∃ r, r = n1 % d1 := ⟨_, rfl⟩
  obtain ⟨s, hse⟩ : ∃ s, s = n2 % d2 := ⟨_, rfl⟩
  rw [← hXe] at L1
  rw [← hYe] at L2
  rw [← hre] at P1 hA
  rw [← hse] at P2 hB
  rw [← hXe, ← hYe, ← hre, ← hse] at R
  obtain ⟨A, eA⟩ : ∃ A, r * d2 = A := ⟨_, rfl⟩
  obtain ⟨B, eB⟩ : ∃ B, s * d1 = B := ⟨_, rfl⟩
  rw [eA] at hA
  rw [eB] at hB
  rw [eA, eB] at R
  obtain ⟨a1, a2⟩ := hA
  obtain ⟨b1, b2⟩ := hB
  clear o1 o2 p1 p2 p3 p4 q1 q2 q3 q4 hR hS hXe hYe hre hse h1 h2
  by_cases hXY : X = Y
  · subst hXY
    rw [R.out, sgn3_eq]
    clear R
    have e : (X == X) = true := by simp
    go_enter Try.func70, Try.ntmps70
    go_wp2_with (fail)
    refine (L1.out _).mono ?_; rintro e w' ⟨rfl, rfl⟩
    go_wp2_with (fail)
    refine (L2.out _).mono ?_; rintro e w' ⟨rfl, rfl⟩
    go_wp2_with (fail)
    refine wp_region_wov (by kernel_rfl) (by kernel_rfl) ?_
    repeat (go_big_quiet_step ((go_at_call 52; (first | exact ((Pure.of_same (fun w => P1.out w))).at _ _ | exact ((Pure.of_same (fun w => P1.out w))).at2 _ _ _ | exact ((Pure.of_same (fun w => P1.out w))).at3 _ _ _ _ | exact ((Pure.of_same (fun w => P1.out w))).at4 _ _ _ _ _ | exact ((Pure.of_same (fun w => P1.out w))).at5 _ _ _ _ _ _ | exact ((Pure.of_same (fun w => P1.out w))).at6 _ _ _ _ _ _ _))))
    refine wpQuiet_nil ?_
    rintro _ ⟨pq, rfl⟩
    go_wp2_with (fail)
    refine wp_region_wov (by kernel_rfl) (by kernel_rfl) ?_
    repeat (go_big_quiet_step ((go_at_call 52; (first | exact ((Pure.of_same (fun w => P2.out w))).at _ _ | exact ((Pure.of_same (fun w => P2.out w))).at2 _ _ _ | exact ((Pure.of_same (fun w => P2.out w))).at3 _ _ _ _ | exact ((Pure.of_same (fun w => P2.out w))).at4 _ _ _ _ _ | exact ((Pure.of_same (fun w => P2.out w))).at5 _ _ _ _ _ _ | exact ((Pure.of_same (fun w => P2.out w))).at6 _ _ _ _ _ _ _))))
    refine wpQuiet_nil ?_
    rintro _ ⟨pq, rfl⟩
    go_wp2
    all_goals
      go_ret
      refine gives_int ?_ (by (repeat' (first | (with_reducible assumption) | (with_reducible exact Below.refl _ _) | (with_reducible refine below_wov ?_ ?_ _) | (with_reducible refine below_drewN ?_ _) | (with_reducible refine Below.drew ?_) | (with_reducible refine Below.alloc ?_ ?_ _) | (with_reducible refine Below.setCell ?_ ?_ _) | (with_reducible exact Nat.le_refl _) | (simp only [World.size_alloc, World.size_setCell, World.size_drew, Wov_size, World.heap_drewN]; omega))))
      unfold sgn3
      (repeat split) <;> omega
  · have e : (X == Y) = false := beq_f hXY
    rw [R.out, sgn3_ne hXY]
    clear R
    go_enter Try.func70, Try.ntmps70
    go_wp2_with (fail)
    refine (L1.out _).mono ?_; rintro e w' ⟨rfl, rfl⟩
    go_wp2_with (fail)
    refine (L2.out _).mono ?_; rintro e w' ⟨rfl, rfl⟩
    go_wp2
    all_goals
      go_ret
      refine gives_int ?_ (by (repeat' (first | (with_reducible assumption) | (with_reducible exact Below.refl _ _) | (with_reducible refine below_wov ?_ ?_ _) | (with_reducible refine below_drewN ?_ _) | (with_reducible refine Below.drew ?_) | (with_reducible refine Below.alloc ?_ ?_ _) | (with_reducible refine Below.setCell ?_ ?_ _) | (with_reducible exact Nat.le_refl _) | (simp only [World.size_alloc, World.size_setCell, World.size_drew, Wov_size, World.heap_drewN]; omega))))
      unfold sgn3
      (repeat split) <;> omega

set_option maxRecDepth 10000 in
set_option maxHeartbeats 1000000 in
theorem refCmp_any (n1 d1 n2 d2 : Int) (h1 : fits64 n1) (h2 : fits64 n2) :
    Pure Try.prog 32 #[.agg #[.int .i64 n1, .int .i64 d1], .agg #[.int .i64 n2, .int .i64 d2]] (pair2 (cmpPR n1 d1 n2 d2)) := by
  intro w
  cases o1 : okRat n1 d1
  · have C1 := may_bad h1.1 h1.2 o1
    have R : Hid (cmpPR n1 d1 n2 d2 = (0, 8)) := by show _ = _; rw [cmpPR, o1]; rfl
    clear o1 h1 h2
    go_enter Try.func32, Try.ntmps32
    go_wp2_with (fail)
    refine (C1 _).mono ?_; rintro e w' ⟨rfl, p, rfl⟩
    go_wp2
    go_ret2
    exact gives_pair R.out (by (repeat' (first | (with_reducible assumption) | (with_reducible exact Below.refl _ _) | (with_reducible refine below_wov ?_ ?_ _) | (with_reducible refine below_drewN ?_ _) | (with_reducible refine Below.drew ?_) | (with_reducible refine Below.alloc ?_ ?_ _) | (with_reducible refine Below.setCell ?_ ?_ _) | (with_reducible exact Nat.le_refl _) | (simp only [World.size_alloc, World.size_setCell, World.size_drew, Wov_size, World.heap_drewN]; omega))))
  · have C1 := may_ok h1.1 h1.2 o1
    cases o2 : okRat n2 d2
    · have C2 := may_bad h2.1 h2.2 o2
      have R : Hid (cmpPR n1 d1 n2 d2 = (0, 8)) := by show _ = _; rw [cmpPR, o1, o2]; rfl
      clear o1 o2 h1 h2
      go_enter Try.func32, Try.ntmps32
      go_wp2_with (fail)
      refine (C1 _).mono ?_; rintro e w' ⟨rfl, p, rfl⟩
      go_wp2_with (fail)
      refine (C2 _).mono ?_; rintro e w' ⟨rfl, p2, rfl⟩
      go_wp2
      go_ret2
      exact gives_pair R.out (by (repeat' (first | (with_reducible assumption) | (with_reducible exact Below.refl _ _) | (with_reducible refine below_wov ?_ ?_ _) | (with_reducible refine below_drewN ?_ _) | (with_reducible refine Below.drew ?_) | (with_reducible refine Below.alloc ?_ ?_ _) | (with_reducible refine Below.setCell ?_ ?_ _) | (with_reducible exact Nat.le_refl _) | (simp only [World.size_alloc, World.size_setCell, World.size_drew, Wov_size, World.heap_drewN]; omega))))
    · have C2 := may_ok h2.1 h2.2 o2
      have R : Hid (cmpPR n1 d1 n2 d2 = (cmpR n1 d1 n2 d2, 0)) := by show _ = _; rw [cmpPR, o1, o2]; rfl
      have C3 := refCompared_any n1 d1 n2 d2 h1 h2 o1 o2
      clear o1 o2 h1 h2
      go_enter Try.func32, Try.ntmps32
      go_wp2_with (fail)
      refine (C1 _).mono ?_; rintro e w' ⟨rfl, p, rfl⟩
      go_wp2_with (fail)
      refine (C2 _).mono ?_; rintro e w' ⟨rfl, p2, rfl⟩
      go_wp2_with (fail)
      refine (C3 _).mono ?_; rintro e w' ⟨rfl, p3, rfl⟩
      go_wp2
      go_ret2
      exact gives_pair R.out (by (repeat' (first | (with_reducible assumption) | (with_reducible exact Below.refl _ _) | (with_reducible refine below_wov ?_ ?_ _) | (with_reducible refine below_drewN ?_ _) | (with_reducible refine Below.drew ?_) | (with_reducible refine Below.alloc ?_ ?_ _) | (with_reducible refine Below.setCell ?_ ?_ _) | (with_reducible exact Nat.le_refl _) | (simp only [World.size_alloc, World.size_setCell, World.size_drew, Wov_size, World.heap_drewN]; omega))))
end Go.Proofs.Ytacihahipjlnpaa
