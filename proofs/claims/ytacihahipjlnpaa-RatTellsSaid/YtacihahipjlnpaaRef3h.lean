/- Contracts of rallentandoref03's Mid, Kept, Keeps, Floor. No condition but that numbers are of their kind. -/
import Derived.Test.YtacihahipjlnpaaRef3f
import Derived.Test.YtacihahipjlnpaaRef3g
namespace Go.Proofs.Ytacihahipjlnpaa
set_option linter.unusedSimpArgs false
set_option linter.unusedVariables false
open Go Go.RowKit

theorem mid_arith {X E A B : Int} : (X / 2 + (X % 2 * E + A + B) / (2 * E)) * (2 * E) + (X % 2 * E + A + B) % (2 * E) = X * E + (A + B) := by
  have h := Int.mul_ediv_add_emod (X % 2 * E + A + B) (2 * E)
  have h2 : X / 2 * (2 * E) + X % 2 * E = X * E := by
    rw [← Int.mul_assoc, ← Int.add_mul]
    congr 1
    omega
  rw [Int.add_mul, Int.mul_comm ((X % 2 * E + A + B) / (2 * E))]
  omega

set_option maxRecDepth 10000 in
theorem refMid_any (n1 d1 n2 d2 : Int) (h1 : fits64 n1) (h2 : fits64 n2) :
    Pure Try.prog 34 #[.agg #[.int .i64 n1, .int .i64 d1], .agg #[.int .i64 n2, .int .i64 d2]] (rat3 (addPR n1 d1 n2 d2 2)) := by
  intro w
  cases o1 : okRat n1 d1
  · have C1 := may_bad h1.1 h1.2 o1
    have R : Hid (addPR n1 d1 n2 d2 2 = (0, 0, 8)) := by show _ = _; rw [addPR, o1]; rfl
    clear o1 h1 h2
    go_enter Try.func34, Try.ntmps34
    go_wp2_with (fail)
    refine (C1 _).mono ?_; rintro e w' ⟨rfl, p, rfl⟩
    go_wp2
    go_returns
    exact gives_rat R.out (by (repeat' (first | (with_reducible assumption) | (with_reducible exact Below.refl _ _) | (with_reducible refine below_wov ?_ ?_ _) | (with_reducible refine below_drewN ?_ _) | (with_reducible refine Below.drew ?_) | (with_reducible refine Below.alloc ?_ ?_ _) | (with_reducible refine Below.setCell ?_ ?_ _) | (with_reducible exact Nat.le_refl _) | omega | (simp only [World.size_alloc, World.size_setCell, World.size_drew, Wov_size, World.heap_drewN]; omega))))
  · have C1 := may_ok h1.1 h1.2 o1
    cases o2 : okRat n2 d2
    · have C2 := may_bad h2.1 h2.2 o2
      have R : Hid (addPR n1 d1 n2 d2 2 = (0, 0, 8)) := by show _ = _; rw [addPR, o1, o2]; rfl
      clear o1 o2 h1 h2
      go_enter Try.func34, Try.ntmps34
      go_wp2_with (fail)
      refine (C1 _).mono ?_; rintro e w' ⟨rfl, p, rfl⟩
      go_wp2_with (fail)
      refine (C2 _).mono ?_; rintro e w' ⟨rfl, p2, rfl⟩
      go_wp2
      go_returns
      exact gives_rat R.out (by (repeat' (first | (with_reducible assumption) | (with_reducible exact Below.refl _ _) | (with_reducible refine below_wov ?_ ?_ _) | (with_reducible refine below_drewN ?_ _) | (with_reducible refine Below.drew ?_) | (with_reducible refine Below.alloc ?_ ?_ _) | (with_reducible refine Below.setCell ?_ ?_ _) | (with_reducible exact Nat.le_refl _) | omega | (simp only [World.size_alloc, World.size_setCell, World.size_drew, Wov_size, World.heap_drewN]; omega))))
    · have C2 := may_ok h2.1 h2.2 o2
      obtain ⟨p1, p2, p3, p4⟩ := okRat_bd o1
      obtain ⟨q1, q2, q3, q4⟩ := okRat_bd o2
      have hX := withinB_bd p3
      have hY := withinB_bd q3
      have hR := emod_bd n1 d1 (by omega)
      have hS := emod_bd n2 d2 (by omega)
      have hA := mul_bd (a := n1 % d1) (b := d2) (M := 1048576) (K := 1048576) hR.1 (by omega) (by omega) q2
      have hB := mul_bd (a := n2 % d2) (b := d1) (M := 1048576) (K := 1048576) hS.1 (by omega) (by omega) p2
      have hE := mul_bd (a := d1) (b := d2) (M := 1048576) (K := 1048576) (by omega) p2 (by omega) q2
      have hE0 : 0 < d1 * d2 := Int.mul_pos (by omega) (by omega)
      have hK : 0 ≤ (n1 / d1 + n2 / d2) % 2 ∧ (n1 / d1 + n2 / d2) % 2 ≤ 1 := by omega
      have hC := mul_bd (a := (n1 / d1 + n2 / d2) % 2) (b := d1 * d2) (M := 1) (K := 1099511627776) hK.1 hK.2 (by omega) (by omega)
      have sp := sum_parts (n1 := n1) (d1 := d1) (n2 := n2) (d2 := d2)
      have L1 := Lib.hid (fun w => refLow_any n1 d1 w h1.1 h1.2 (by omega) (by omega))
      have L2 := Lib.hid (fun w => refLow_any n2 d2 w h2.1 h2.2 (by omega) (by omega))
      have P1 := Lib.hid (fun w => refPart_any n1 d1 w h1.1 h1.2 (by omega) (by omega))
      have P2 := Lib.hid (fun w => refPart_any n2 d2 w h2.1 h2.2 (by omega) (by omega))
      have L3 := Lib.hid (fun w => refLow_any (n1 / d1 + n2 / d2) 2 w (by omega) (by omega) (by omega) (by omega))
      have P3 := Lib.hid (fun w => refPart_any (n1 / d1 + n2 / d2) 2 w (by omega) (by omega) (by omega) (by omega))
      have RR : addPR n1 d1 n2 d2 2 = normR (n1 * d2 + n2 * d1) (d1 * d2 * 2) := by rw [addPR, o1, o2, sumR]; rfl
      have hE2 : 0 < 2 * (d1 * d2) := by omega
      have hL := emod_bd ((n1 / d1 + n2 / d2) % 2 * (d1 * d2) + n1 % d1 * d2 + n2 % d2 * d1) (2 * (d1 * d2)) hE2
      have hQ0 : 0 ≤ ((n1 / d1 + n2 / d2) % 2 * (d1 * d2) + n1 % d1 * d2 + n2 % d2 * d1) / (2 * (d1 * d2)) := Int.ediv_nonneg (by omega) (by omega)
      have hQ1 : ((n1 / d1 + n2 / d2) % 2 * (d1 * d2) + n1 % d1 * d2 + n2 % d2 * d1) / (2 * (d1 * d2)) ≤ (n1 / d1 + n2 / d2) % 2 * (d1 * d2) + n1 % d1 * d2 + n2 % d2 * d1 := Int.ediv_le_self _ (by omega)
      obtain ⟨x, y, t, M, hxy⟩ := made_out ((n1 / d1 + n2 / d2) / 2 + ((n1 / d1 + n2 / d2) % 2 * (d1 * d2) + n1 % d1 * d2 + n2 % d2 * d1) / (2 * (d1 * d2))) (((n1 / d1 + n2 / d2) % 2 * (d1 * d2) + n1 % d1 * d2 + n2 % d2 * d1) % (2 * (d1 * d2))) (2 * (d1 * d2)) ⟨by omega, by omega⟩ hL (by omega)
      rw [mid_arith, ← sp, ← Int.mul_comm (d1 * d2) 2] at hxy
      rw [RR]
      refine refMid_walk n1 d1 n2 d2 _ _ _ _ _ _ _ ((n1 / d1 + n2 / d2) / 2) ((n1 / d1 + n2 / d2) % 2) _ 0 0 _ _ x y t w ⟨p1, p2⟩ ⟨q1, q2⟩ hX hY ⟨by omega, by omega⟩ hK ⟨hA.1, by omega⟩ ⟨hB.1, by omega⟩ ⟨hC.1, by omega⟩ ⟨by omega, by omega⟩ ⟨hQ0, by omega⟩ rfl rfl rfl rfl rfl rfl C1 C2 L1 L2 L3 P1 P2 P3 M _ hxy

theorem floor_one {n d : Int} (h : okRat n d = true) : decide (n % d = 0) = decide (d = 1) := by
  obtain ⟨h1, h2, h3, h4⟩ := okRat_bd h
  rw [decide_eq_decide]
  constructor
  · intro hm
    have hd : d ∣ n := Int.dvd_of_emod_eq_zero hm
    have : d.natAbs ∣ n.natAbs := Int.natAbs_dvd_natAbs.2 hd
    have e : Nat.gcd n.natAbs d.natAbs = d.natAbs := Nat.gcd_eq_right this
    omega
  · intro hd; subst hd; omega

set_option maxRecDepth 10000 in
set_option maxHeartbeats 1000000 in
theorem refFloor_any (n d : Int) (h1 : fits64 n) :
    Pure Try.prog 37 #[.agg #[.int .i64 n, .int .i64 d]] (trip (floorPR n d)) := by
  intro w
  cases hk : okRat n d
  · have C := may_bad h1.1 h1.2 hk
    have R : Hid (floorPR n d = (0, false, 8)) := by show _ = _; rw [floorPR, hk]; rfl
    clear hk h1
    go_enter Try.func37, Try.ntmps37
    go_wp2_with (go_at_call 54; refine (C _).mono ?_; rintro e w' ⟨rfl, p, rfl⟩)
    go_ret3
    exact gives_trip R.out (by (repeat' (first | (with_reducible assumption) | (with_reducible exact Below.refl _ _) | (with_reducible refine below_wov ?_ ?_ _) | (with_reducible refine below_drewN ?_ _) | (with_reducible refine Below.drew ?_) | (with_reducible refine Below.alloc ?_ ?_ _) | (with_reducible refine Below.setCell ?_ ?_ _) | (with_reducible exact Nat.le_refl _) | omega | (simp only [World.size_alloc, World.size_setCell, World.size_drew, Wov_size, World.heap_drewN]; omega))))
  · have C := may_ok h1.1 h1.2 hk
    have R : Hid (floorPR n d = (n / d, decide (d = 1), 0)) := by show _ = _; rw [floorPR, hk, floor_one hk]; rfl
    obtain ⟨p1, p2, p3, p4⟩ := okRat_bd hk
    have F := Lib.hid (fun w => refLow_any n d w h1.1 h1.2 (by omega) (by omega))
    obtain ⟨x, hx⟩ : ∃ x, x = n / d := ⟨_, rfl⟩
    rw [← hx] at F R
    clear hk h1 hx p1 p2 p3 p4
    go_enter Try.func37, Try.ntmps37
    go_wp2_with (go_at_call 54; refine (C _).mono ?_; rintro e w' ⟨rfl, p, rfl⟩)
    refine wp_region_wov (by kernel_rfl) (by kernel_rfl) ?_
    repeat (go_big_quiet_step ((go_at_call 72; (first | exact ((Pure.of_same (fun w => F.out w))).at _ _ | exact ((Pure.of_same (fun w => F.out w))).at2 _ _ _ | exact ((Pure.of_same (fun w => F.out w))).at3 _ _ _ _ | exact ((Pure.of_same (fun w => F.out w))).at4 _ _ _ _ _ | exact ((Pure.of_same (fun w => F.out w))).at5 _ _ _ _ _ _ | exact ((Pure.of_same (fun w => F.out w))).at6 _ _ _ _ _ _ _))))
    refine wpQuiet_nil ?_
    rintro _ ⟨pq, rfl⟩
    go_wp2
    go_ret3
    exact gives_trip (by rw [R.out]; congr 2) (by (repeat' (first | (with_reducible assumption) | (with_reducible exact Below.refl _ _) | (with_reducible refine below_wov ?_ ?_ _) | (with_reducible refine below_drewN ?_ _) | (with_reducible refine Below.drew ?_) | (with_reducible refine Below.alloc ?_ ?_ _) | (with_reducible refine Below.setCell ?_ ?_ _) | (with_reducible exact Nat.le_refl _) | omega | (simp only [World.size_alloc, World.size_setCell, World.size_drew, Wov_size, World.heap_drewN]; omega))))

/-- As the document asks it. -/
theorem keptB_parts {n1 d1 n2 d2 x : Int} (h1 : 0 < d1) (h2 : 0 < d2) (hn : x ≠ noneB) :
    keptB n1 d1 n2 d2 x = if n1 / d1 - n2 / d2 ≠ bnum x then decide (n1 / d1 - n2 / d2 < bnum x) else (decide (n1 % d1 * d2 < n2 % d2 * d1) || (decide (n1 % d1 * d2 = n2 % d2 * d1) && !bstr x)) := by
  have kp := kept_parts (n1 := n1) (d1 := d1) (n2 := n2) (d2 := d2) (c := bnum x) h1 h2
  rw [keptB, decide_eq_false hn, Bool.false_or]
  by_cases hc : n1 / d1 - n2 / d2 = bnum x
  · rw [if_neg (by simpa using hc)]
    exact or_and_dec _ (by rw [kp.1]; simp [hc]) (by rw [kp.2]; simp [hc])
  · rw [if_pos hc]
    have e1 : decide (n1 * d2 - n2 * d1 < bnum x * (d1 * d2)) = decide (n1 / d1 - n2 / d2 < bnum x) := decide_eq_decide.2 (by rw [kp.1]; simp [hc])
    have e2 : decide (n1 * d2 - n2 * d1 = bnum x * (d1 * d2)) = false := decide_eq_false (by rw [kp.2]; simp [hc])
    rw [e1, e2]
    simp

set_option maxRecDepth 10000 in
set_option maxHeartbeats 1000000 in
theorem refKept_any (n1 d1 n2 d2 x : Int) (h1 : fits64 n1) (h2 : fits64 n2) (h3 : fits64 x) (o1 : okRat n1 d1 = true) (o2 : okRat n2 d2 = true) :
    Pure Try.prog 78 #[.agg #[.int .i64 n1, .int .i64 d1], .agg #[.int .i64 n2, .int .i64 d2], .int .i64 x] (.bool (keptB n1 d1 n2 d2 x)) := by
  intro w
  by_cases hn : x = noneB
  · have R : Hid (keptB n1 d1 n2 d2 x = true) := by show _ = _; simp [keptB, hn]
    have e := isNone_t hn
    clear hn
    go_enter Try.func78, Try.ntmps78
    go_wp2
    go_ret
    exact gives_bool R.out.symm (by (repeat' (first | (with_reducible assumption) | (with_reducible exact Below.refl _ _) | (with_reducible refine below_wov ?_ ?_ _) | (with_reducible refine below_drewN ?_ _) | (with_reducible refine Below.drew ?_) | (with_reducible refine Below.alloc ?_ ?_ _) | (with_reducible refine Below.setCell ?_ ?_ _) | (with_reducible exact Nat.le_refl _) | omega | (simp only [World.size_alloc, World.size_setCell, World.size_drew, Wov_size, World.heap_drewN]; omega))))
  · obtain ⟨p1, p2, p3, p4⟩ := okRat_bd o1
    obtain ⟨q1, q2, q3, q4⟩ := okRat_bd o2
    have e := isNone_f hn
    have hX := withinB_bd p3
    have hY := withinB_bd q3
    have hR := emod_bd n1 d1 (by omega)
    have hS := emod_bd n2 d2 (by omega)
    have hA := mul_bd (a := n1 % d1) (b := d2) (M := 1048576) (K := 1048576) hR.1 (by omega) (by omega) q2
    have hB := mul_bd (a := n2 % d2) (b := d1) (M := 1048576) (K := 1048576) hS.1 (by omega) (by omega) p2
    have L1 := Lib.hid (fun w => refLow_any n1 d1 w h1.1 h1.2 (by omega) (by omega))
    have L2 := Lib.hid (fun w => refLow_any n2 d2 w h2.1 h2.2 (by omega) (by omega))
    have P1 := Lib.hid (fun w => refPart_any n1 d1 w h1.1 h1.2 (by omega) (by omega))
    have P2 := Lib.hid (fun w => refPart_any n2 d2 w h2.1 h2.2 (by omega) (by omega))
    have NN := Lib.hid (fun w => refNumber_any x w h3.1 h3.2)
    have SS := Lib.hid (fun w => refStrict_any x w)
    have R := Lib.hid (keptB_parts (n1 := n1) (d1 := d1) (n2 := n2) (d2 := d2) (x := x) (by omega) (by omega) hn)
    obtain ⟨X, hXe⟩ : ∃ X, X = n1 / d1 := ⟨_, rfl⟩
    obtain ⟨Y, hYe⟩ : ∃ Y, Y = n2 / d2 := ⟨_, rfl⟩
    obtain ⟨r, hre⟩ : ∃ r, r = n1 % d1 := ⟨_, rfl⟩
    obtain ⟨s, hse⟩ : ∃ s, s = n2 % d2 := ⟨_, rfl⟩
    obtain ⟨c, hce⟩ : ∃ c, c = bnum x := ⟨_, rfl⟩
    obtain ⟨t, hte⟩ : ∃ t, t = bstr x := ⟨_, rfl⟩
    rw [← hXe] at L1 hX
    rw [← hYe] at L2 hY
    rw [← hre] at P1 hA
    rw [← hse] at P2 hB
    rw [← hce] at NN
    rw [← hte] at SS
    rw [← hXe, ← hYe, ← hre, ← hse, ← hce, ← hte] at R
    obtain ⟨A, eA⟩ : ∃ A, r * d2 = A := ⟨_, rfl⟩
    obtain ⟨B, eB⟩ : ∃ B, s * d1 = B := ⟨_, rfl⟩
    rw [eA] at hA
    rw [eB] at hB
    rw [eA, eB] at R
    obtain ⟨a1, a2⟩ := hA
    obtain ⟨b1, b2⟩ := hB
    obtain ⟨x1, x2⟩ := hX
    obtain ⟨y1, y2⟩ := hY
    clear hn o1 o2 p1 p2 p3 p4 q1 q2 q3 q4 hR hS hXe hYe hre hse hce hte h1 h2 h3
    by_cases hc : X - Y = c
    · have R2 : Hid (keptB n1 d1 n2 d2 x = (decide (A < B) || (decide (A = B) && !t))) := by show _ = _; rw [R.out, if_neg (by simpa using hc)]
      have ec := bne_f hc
      have Hc := Lib.hid hc
      clear R hc
      go_enter Try.func78, Try.ntmps78
      go_wp2_with (fail)
      refine (NN.out _).mono ?_; rintro e w' ⟨rfl, rfl⟩
      go_wp2_with (fail)
      refine wp_region_wov (by kernel_rfl) (by kernel_rfl) ?_
      repeat (go_big_quiet_step (first | (go_at_call_of 72 (Value.int IntKind.i64 n1); (first | exact ((Pure.of_same (fun w => L1.out w))).at _ _ | exact ((Pure.of_same (fun w => L1.out w))).at2 _ _ _ | exact ((Pure.of_same (fun w => L1.out w))).at3 _ _ _ _ | exact ((Pure.of_same (fun w => L1.out w))).at4 _ _ _ _ _ | exact ((Pure.of_same (fun w => L1.out w))).at5 _ _ _ _ _ _ | exact ((Pure.of_same (fun w => L1.out w))).at6 _ _ _ _ _ _ _)) | (go_at_call_of 72 (Value.int IntKind.i64 n2); (first | exact ((Pure.of_same (fun w => L2.out w))).at _ _ | exact ((Pure.of_same (fun w => L2.out w))).at2 _ _ _ | exact ((Pure.of_same (fun w => L2.out w))).at3 _ _ _ _ | exact ((Pure.of_same (fun w => L2.out w))).at4 _ _ _ _ _ | exact ((Pure.of_same (fun w => L2.out w))).at5 _ _ _ _ _ _ | exact ((Pure.of_same (fun w => L2.out w))).at6 _ _ _ _ _ _ _))))
      refine wpQuiet_nil ?_
      rintro _ ⟨pq, rfl⟩
      go_wp2_with (fail)
      refine wp_region_wov (by kernel_rfl) (by kernel_rfl) ?_
      repeat (go_big_quiet_step ((go_at_call 52; (first | exact ((Pure.of_same (fun w => P1.out w))).at _ _ | exact ((Pure.of_same (fun w => P1.out w))).at2 _ _ _ | exact ((Pure.of_same (fun w => P1.out w))).at3 _ _ _ _ | exact ((Pure.of_same (fun w => P1.out w))).at4 _ _ _ _ _ | exact ((Pure.of_same (fun w => P1.out w))).at5 _ _ _ _ _ _ | exact ((Pure.of_same (fun w => P1.out w))).at6 _ _ _ _ _ _ _))))
      refine wpQuiet_nil ?_
      rintro _ ⟨pq, rfl⟩
      go_wp2_with (fail)
      refine wp_region_wov (by kernel_rfl) (by kernel_rfl) ?_
      repeat (go_big_quiet_step ((go_at_call 52; (first | exact ((Pure.of_same (fun w => P2.out w))).at _ _ | exact ((Pure.of_same (fun w => P2.out w))).at2 _ _ _ | exact ((Pure.of_same (fun w => P2.out w))).at3 _ _ _ _ | exact ((Pure.of_same (fun w => P2.out w))).at4 _ _ _ _ _ | exact ((Pure.of_same (fun w => P2.out w))).at5 _ _ _ _ _ _ | exact ((Pure.of_same (fun w => P2.out w))).at6 _ _ _ _ _ _ _))))
      refine wpQuiet_nil ?_
      rintro _ ⟨pq, rfl⟩
      go_wp2_with (go_at_call 99; refine (SS.out _).mono ?_; rintro e w' ⟨rfl, rfl⟩)
      all_goals
        go_ret
        refine gives_bool ?_ (by (repeat' (first | (with_reducible assumption) | (with_reducible exact Below.refl _ _) | (with_reducible refine below_wov ?_ ?_ _) | (with_reducible refine below_drewN ?_ _) | (with_reducible refine Below.drew ?_) | (with_reducible refine Below.alloc ?_ ?_ _) | (with_reducible refine Below.setCell ?_ ?_ _) | (with_reducible exact Nat.le_refl _) | omega | (simp only [World.size_alloc, World.size_setCell, World.size_drew, Wov_size, World.heap_drewN]; omega))))
        rw [R2.out]
        cases t <;> (rw [Bool.eq_iff_iff]; simp; try omega)
    · have R2 : Hid (keptB n1 d1 n2 d2 x = decide (X - Y < c)) := by show _ = _; rw [R.out, if_pos hc]
      have ec := bne_t hc
      clear R hc
      go_enter Try.func78, Try.ntmps78
      go_wp2_with (fail)
      refine (NN.out _).mono ?_; rintro e w' ⟨rfl, rfl⟩
      go_wp2_with (fail)
      refine wp_region_wov (by kernel_rfl) (by kernel_rfl) ?_
      repeat (go_big_quiet_step (first | (go_at_call_of 72 (Value.int IntKind.i64 n1); (first | exact ((Pure.of_same (fun w => L1.out w))).at _ _ | exact ((Pure.of_same (fun w => L1.out w))).at2 _ _ _ | exact ((Pure.of_same (fun w => L1.out w))).at3 _ _ _ _ | exact ((Pure.of_same (fun w => L1.out w))).at4 _ _ _ _ _ | exact ((Pure.of_same (fun w => L1.out w))).at5 _ _ _ _ _ _ | exact ((Pure.of_same (fun w => L1.out w))).at6 _ _ _ _ _ _ _)) | (go_at_call_of 72 (Value.int IntKind.i64 n2); (first | exact ((Pure.of_same (fun w => L2.out w))).at _ _ | exact ((Pure.of_same (fun w => L2.out w))).at2 _ _ _ | exact ((Pure.of_same (fun w => L2.out w))).at3 _ _ _ _ | exact ((Pure.of_same (fun w => L2.out w))).at4 _ _ _ _ _ | exact ((Pure.of_same (fun w => L2.out w))).at5 _ _ _ _ _ _ | exact ((Pure.of_same (fun w => L2.out w))).at6 _ _ _ _ _ _ _))))
      refine wpQuiet_nil ?_
      rintro _ ⟨pq, rfl⟩
      go_wp2
      go_ret
      exact gives_bool R2.out.symm (by (repeat' (first | (with_reducible assumption) | (with_reducible exact Below.refl _ _) | (with_reducible refine below_wov ?_ ?_ _) | (with_reducible refine below_drewN ?_ _) | (with_reducible refine Below.drew ?_) | (with_reducible refine Below.alloc ?_ ?_ _) | (with_reducible refine Below.setCell ?_ ?_ _) | (with_reducible exact Nat.le_refl _) | omega | (simp only [World.size_alloc, World.size_setCell, World.size_drew, Wov_size, World.heap_drewN]; omega))))

set_option maxRecDepth 10000 in
set_option maxHeartbeats 1000000 in
theorem refKeeps_any (n1 d1 n2 d2 x : Int) (h1 : fits64 n1) (h2 : fits64 n2) (h3 : fits64 x) :
    Pure Try.prog 36 #[.agg #[.int .i64 n1, .int .i64 d1], .agg #[.int .i64 n2, .int .i64 d2], .int .i64 x] (bpair (keepsPR n1 d1 n2 d2 x)) := by
  intro w
  cases o1 : okRat n1 d1
  · have C1 := may_bad h1.1 h1.2 o1
    have R : Hid (keepsPR n1 d1 n2 d2 x = (false, 8)) := by show _ = _; rw [keepsPR, o1]; rfl
    clear o1 h1 h2 h3
    go_enter Try.func36, Try.ntmps36
    go_wp2_with (fail)
    refine (C1 _).mono ?_; rintro e w' ⟨rfl, p, rfl⟩
    go_wp2
    go_ret2
    exact gives_bpair R.out (by (repeat' (first | (with_reducible assumption) | (with_reducible exact Below.refl _ _) | (with_reducible refine below_wov ?_ ?_ _) | (with_reducible refine below_drewN ?_ _) | (with_reducible refine Below.drew ?_) | (with_reducible refine Below.alloc ?_ ?_ _) | (with_reducible refine Below.setCell ?_ ?_ _) | (with_reducible exact Nat.le_refl _) | omega | (simp only [World.size_alloc, World.size_setCell, World.size_drew, Wov_size, World.heap_drewN]; omega))))
  · have C1 := may_ok h1.1 h1.2 o1
    cases o2 : okRat n2 d2
    · have C2 := may_bad h2.1 h2.2 o2
      have R : Hid (keepsPR n1 d1 n2 d2 x = (false, 8)) := by show _ = _; rw [keepsPR, o1, o2]; rfl
      clear o1 o2 h1 h2 h3
      go_enter Try.func36, Try.ntmps36
      go_wp2_with (fail)
      refine (C1 _).mono ?_; rintro e w' ⟨rfl, p, rfl⟩
      go_wp2_with (fail)
      refine (C2 _).mono ?_; rintro e w' ⟨rfl, p2, rfl⟩
      go_wp2
      go_ret2
      exact gives_bpair R.out (by (repeat' (first | (with_reducible assumption) | (with_reducible exact Below.refl _ _) | (with_reducible refine below_wov ?_ ?_ _) | (with_reducible refine below_drewN ?_ _) | (with_reducible refine Below.drew ?_) | (with_reducible refine Below.alloc ?_ ?_ _) | (with_reducible refine Below.setCell ?_ ?_ _) | (with_reducible exact Nat.le_refl _) | omega | (simp only [World.size_alloc, World.size_setCell, World.size_drew, Wov_size, World.heap_drewN]; omega))))
    · have C2 := may_ok h2.1 h2.2 o2
      have C3 := Lib.hid (fun w => ref2May_any x w h3.1 h3.2)
      cases ox : okB x
      · have R : Hid (keepsPR n1 d1 n2 d2 x = (false, 8)) := by show _ = _; rw [keepsPR, o1, o2, ox]; rfl
        rw [ox] at C3
        clear o1 o2 ox h1 h2 h3
        go_enter Try.func36, Try.ntmps36
        go_wp2_with (fail)
        refine (C1 _).mono ?_; rintro e w' ⟨rfl, p, rfl⟩
        go_wp2_with (fail)
        refine (C2 _).mono ?_; rintro e w' ⟨rfl, p2, rfl⟩
        go_wp2_with (fail)
        refine (C3.out _).mono ?_; rintro e w' ⟨rfl, rfl⟩
        go_wp2
        go_ret2
        exact gives_bpair R.out (by (repeat' (first | (with_reducible assumption) | (with_reducible exact Below.refl _ _) | (with_reducible refine below_wov ?_ ?_ _) | (with_reducible refine below_drewN ?_ _) | (with_reducible refine Below.drew ?_) | (with_reducible refine Below.alloc ?_ ?_ _) | (with_reducible refine Below.setCell ?_ ?_ _) | (with_reducible exact Nat.le_refl _) | omega | (simp only [World.size_alloc, World.size_setCell, World.size_drew, Wov_size, World.heap_drewN]; omega))))
      · have R : Hid (keepsPR n1 d1 n2 d2 x = (keptB n1 d1 n2 d2 x, 0)) := by show _ = _; rw [keepsPR, o1, o2, ox]; rfl
        have K := refKept_any n1 d1 n2 d2 x h1 h2 h3 o1 o2
        rw [ox] at C3
        obtain ⟨kb, hkb⟩ : ∃ kb, kb = keptB n1 d1 n2 d2 x := ⟨_, rfl⟩
        rw [← hkb] at K R
        clear o1 o2 ox h1 h2 h3 hkb
        go_enter Try.func36, Try.ntmps36
        go_wp2_with (fail)
        refine (C1 _).mono ?_; rintro e w' ⟨rfl, p, rfl⟩
        go_wp2_with (fail)
        refine (C2 _).mono ?_; rintro e w' ⟨rfl, p2, rfl⟩
        go_wp2_with (fail)
        refine (C3.out _).mono ?_; rintro e w' ⟨rfl, rfl⟩
        go_wp2_with (fail)
        refine (K _).mono ?_; rintro e w' ⟨rfl, p3, rfl⟩
        go_wp2
        go_ret2
        exact gives_bpair R.out (by (repeat' (first | (with_reducible assumption) | (with_reducible exact Below.refl _ _) | (with_reducible refine below_wov ?_ ?_ _) | (with_reducible refine below_drewN ?_ _) | (with_reducible refine Below.drew ?_) | (with_reducible refine Below.alloc ?_ ?_ _) | (with_reducible refine Below.setCell ?_ ?_ _) | (with_reducible exact Nat.le_refl _) | omega | (simp only [World.size_alloc, World.size_setCell, World.size_drew, Wov_size, World.heap_drewN]; omega))))
end Go.Proofs.Ytacihahipjlnpaa
