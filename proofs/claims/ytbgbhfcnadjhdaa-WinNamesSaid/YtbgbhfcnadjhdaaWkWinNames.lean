/- The law WinNames (walk): the chapter's examples. No condition. -/
import Derived.Test.YtbgbhfcnadjhdaaK11
import Derived.Test.YtbgbhfcnadjhdaaFrame2
namespace Go.Proofs.Ytbgbhfcnadjhdaa.winNames
open Go.ChangeShapes Go.WideShapes Go.ChangeAt Go.RowKit
set_option linter.unusedVariables false
set_option linter.unusedSimpArgs false
attribute [local go_sem] Nat.add_assoc Nat.add_lt_add_iff_left lit_lt_add
set_option maxRecDepth 10000 in
theorem win_a (w : World) : Calls Try.prog 24 #[.agg #[.int .i64 8, .int .i64 1, .int .i64 9, .int .i64 0, .int .i64 9, .int .i64 0], .int .i64 2, .int .i64 3] w (Gives w (.tuple #[.agg #[.int .i64 6, .int .i64 1, .int .i64 7, .int .i64 (-4), .int .i64 7, .int .i64 0], .int .i64 0])) := by
  have h : (windowZ (row6 8 1 9 0 9 0) 2 3).2 = 0 ∧ (windowZ (row6 8 1 9 0 9 0) 2 3).1 0 = 6 ∧ (windowZ (row6 8 1 9 0 9 0) 2 3).1 1 = 1 ∧ (windowZ (row6 8 1 9 0 9 0) 2 3).1 2 = 7 ∧ (windowZ (row6 8 1 9 0 9 0) 2 3).1 3 = (-4) ∧ (windowZ (row6 8 1 9 0 9 0) 2 3).1 4 = 7 ∧ (windowZ (row6 8 1 9 0 9 0) 2 3).1 5 = 0 := by decide +kernel
  have f : FitsZ (row6 8 1 9 0 9 0) := fun i hi => by
    rcases six hi with rfl | rfl | rfl | rfl | rfl | rfl <;> decide
  have := wwindow_any (row6 8 1 9 0 9 0) 2 3 w f (by decide) (by decide)
  unfold zoneR zoneV at this
  rw [h.1, h.2.1, h.2.2.1, h.2.2.2.1, h.2.2.2.2.1, h.2.2.2.2.2.1, h.2.2.2.2.2.2] at this
  exact this
set_option maxRecDepth 10000 in
theorem win_b (w : World) : Calls Try.prog 24 #[.agg #[.int .i64 8, .int .i64 1, .int .i64 9, .int .i64 0, .int .i64 9, .int .i64 0], .int .i64 4, .int .i64 5] w (Gives w (.tuple #[.agg #[.int .i64 0, .int .i64 0, .int .i64 0, .int .i64 0, .int .i64 0, .int .i64 0], .int .i64 6])) := by
  have h : (windowZ (row6 8 1 9 0 9 0) 4 5).2 = 6 ∧ (windowZ (row6 8 1 9 0 9 0) 4 5).1 0 = 0 ∧ (windowZ (row6 8 1 9 0 9 0) 4 5).1 1 = 0 ∧ (windowZ (row6 8 1 9 0 9 0) 4 5).1 2 = 0 ∧ (windowZ (row6 8 1 9 0 9 0) 4 5).1 3 = 0 ∧ (windowZ (row6 8 1 9 0 9 0) 4 5).1 4 = 0 ∧ (windowZ (row6 8 1 9 0 9 0) 4 5).1 5 = 0 := by decide +kernel
  have f : FitsZ (row6 8 1 9 0 9 0) := fun i hi => by
    rcases six hi with rfl | rfl | rfl | rfl | rfl | rfl <;> decide
  have := wwindow_any (row6 8 1 9 0 9 0) 4 5 w f (by decide) (by decide)
  unfold zoneR zoneV at this
  rw [h.1, h.2.1, h.2.2.1, h.2.2.2.1, h.2.2.2.2.1, h.2.2.2.2.2.1, h.2.2.2.2.2.2] at this
  exact this
set_option maxRecDepth 10000 in
theorem win_c (w : World) : Calls Try.prog 24 #[.agg #[.int .i64 8, .int .i64 1, .int .i64 9, .int .i64 0, .int .i64 9, .int .i64 0], .int .i64 3, .int .i64 3] w (Gives w (.tuple #[.agg #[.int .i64 0, .int .i64 0, .int .i64 0, .int .i64 0, .int .i64 0, .int .i64 0], .int .i64 2])) := by
  have h : (windowZ (row6 8 1 9 0 9 0) 3 3).2 = 2 ∧ (windowZ (row6 8 1 9 0 9 0) 3 3).1 0 = 0 ∧ (windowZ (row6 8 1 9 0 9 0) 3 3).1 1 = 0 ∧ (windowZ (row6 8 1 9 0 9 0) 3 3).1 2 = 0 ∧ (windowZ (row6 8 1 9 0 9 0) 3 3).1 3 = 0 ∧ (windowZ (row6 8 1 9 0 9 0) 3 3).1 4 = 0 ∧ (windowZ (row6 8 1 9 0 9 0) 3 3).1 5 = 0 := by decide +kernel
  have f : FitsZ (row6 8 1 9 0 9 0) := fun i hi => by
    rcases six hi with rfl | rfl | rfl | rfl | rfl | rfl <;> decide
  have := wwindow_any (row6 8 1 9 0 9 0) 3 3 w f (by decide) (by decide)
  unfold zoneR zoneV at this
  rw [h.1, h.2.1, h.2.2.1, h.2.2.2.1, h.2.2.2.2.1, h.2.2.2.2.2.1, h.2.2.2.2.2.2] at this
  exact this
set_option maxRecDepth 10000 in
theorem shift_a (w : World) : Calls Try.prog 28 #[.agg #[.int .i64 8, .int .i64 1, .int .i64 9, .int .i64 0, .int .i64 9, .int .i64 0], .int .i64 2] w (Gives w (.tuple #[.agg #[.int .i64 12, .int .i64 (-3), .int .i64 13, .int .i64 (-4), .int .i64 9, .int .i64 0], .int .i64 0])) := by
  have h : (shiftZ (row6 8 1 9 0 9 0) 2).2 = 0 ∧ (shiftZ (row6 8 1 9 0 9 0) 2).1 0 = 12 ∧ (shiftZ (row6 8 1 9 0 9 0) 2).1 1 = (-3) ∧ (shiftZ (row6 8 1 9 0 9 0) 2).1 2 = 13 ∧ (shiftZ (row6 8 1 9 0 9 0) 2).1 3 = (-4) ∧ (shiftZ (row6 8 1 9 0 9 0) 2).1 4 = 9 ∧ (shiftZ (row6 8 1 9 0 9 0) 2).1 5 = 0 := by decide +kernel
  have f : FitsZ (row6 8 1 9 0 9 0) := fun i hi => by
    rcases six hi with rfl | rfl | rfl | rfl | rfl | rfl <;> decide
  have := wshift_any (row6 8 1 9 0 9 0) 2 w f (by decide)
  unfold zoneR zoneV at this
  rw [h.1, h.2.1, h.2.2.1, h.2.2.2.1, h.2.2.2.2.1, h.2.2.2.2.2.1, h.2.2.2.2.2.2] at this
  exact this
set_option maxRecDepth 10000 in
theorem make_a (w : World) : Calls Try.prog 26 #[.agg #[.int .i64 0, .bool false, .int .i64 4, .bool false, .bool false], .agg #[.int .i64 2, .bool true, .int .i64 3, .bool false, .bool false], .agg #[.int .i64 0, .bool true, .int .i64 0, .bool false, .bool true]] w (Gives w (.tuple #[.agg #[.int .i64 6, .int .i64 1, .int .i64 7, .int .i64 (-4), .int .i64 7, .int .i64 0], .int .i64 0])) := by
  have h : (makeZ (betwS 0 false 4 false false) (betwS 2 true 3 false false) (betwS 0 true 0 false true)).2 = 0 ∧ (makeZ (betwS 0 false 4 false false) (betwS 2 true 3 false false) (betwS 0 true 0 false true)).1 0 = 6 ∧ (makeZ (betwS 0 false 4 false false) (betwS 2 true 3 false false) (betwS 0 true 0 false true)).1 1 = 1 ∧ (makeZ (betwS 0 false 4 false false) (betwS 2 true 3 false false) (betwS 0 true 0 false true)).1 2 = 7 ∧ (makeZ (betwS 0 false 4 false false) (betwS 2 true 3 false false) (betwS 0 true 0 false true)).1 3 = (-4) ∧ (makeZ (betwS 0 false 4 false false) (betwS 2 true 3 false false) (betwS 0 true 0 false true)).1 4 = 7 ∧ (makeZ (betwS 0 false 4 false false) (betwS 2 true 3 false false) (betwS 0 true 0 false true)).1 5 = 0 := by decide +kernel
  have := zmake_any 0 false 4 false false 2 true 3 false false 0 true 0 false true w (by decide) (by decide) (by decide) (by decide) (by decide) (by decide)
  unfold zoneR zoneV at this
  rw [h.1, h.2.1, h.2.2.1, h.2.2.2.1, h.2.2.2.2.1, h.2.2.2.2.2.1, h.2.2.2.2.2.2] at this
  exact this
set_option maxRecDepth 100000 in
set_option maxHeartbeats 16000000 in
theorem walk (w : World) :
    Calls Try.prog 5 #[] w (Gives w (.bool true)) := by
  obtain ⟨a, ha⟩ : ∃ z, z = (row6 6 1 7 (-4) 7 0) := ⟨_, rfl⟩
  obtain ⟨c, hc⟩ : ∃ z, z = (row6 12 (-3) 13 (-4) 9 0) := ⟨_, rfl⟩
  have HA := Lib.hid alive10
  have S0 := Lib.hid some10_0
  have WB := Lib.hid win_b
  have WC := Lib.hid win_c
  have S2 : Hid (Pure Try.prog 25 #[.int .i64 2] (.agg #[.int .i64 (c 0), .int .i64 (c 1), .int .i64 (c 2), .int .i64 (c 3), .int .i64 (c 4), .int .i64 (c 5)])) := by rw [hc]; exact some10_2
  have WA : Hid (∀ w, Calls Try.prog 24 #[.agg #[.int .i64 8, .int .i64 1, .int .i64 9, .int .i64 0, .int .i64 9, .int .i64 0], .int .i64 2, .int .i64 3] w (Gives w (.tuple #[.agg #[.int .i64 (a 0), .int .i64 (a 1), .int .i64 (a 2), .int .i64 (a 3), .int .i64 (a 4), .int .i64 (a 5)], .int .i64 0]))) := fun w => by rw [ha]; exact win_a w
  have SH : Hid (∀ w, Calls Try.prog 28 #[.agg #[.int .i64 8, .int .i64 1, .int .i64 9, .int .i64 0, .int .i64 9, .int .i64 0], .int .i64 2] w (Gives w (.tuple #[.agg #[.int .i64 (c 0), .int .i64 (c 1), .int .i64 (c 2), .int .i64 (c 3), .int .i64 (c 4), .int .i64 (c 5)], .int .i64 0]))) := fun w => by rw [hc]; exact shift_a w
  have MK : Hid (∀ w, Calls Try.prog 26 #[.agg #[.int .i64 0, .bool false, .int .i64 4, .bool false, .bool false], .agg #[.int .i64 2, .bool true, .int .i64 3, .bool false, .bool false], .agg #[.int .i64 0, .bool true, .int .i64 0, .bool false, .bool true]] w (Gives w (.tuple #[.agg #[.int .i64 (a 0), .int .i64 (a 1), .int .i64 (a 2), .int .i64 (a 3), .int .i64 (a 4), .int .i64 (a 5)], .int .i64 0]))) := fun w => by rw [ha]; exact make_a w
  have T04 : Hid (Pure Try.prog 27 #[.int .i64 0, .int .i64 4] (.agg #[.int .i64 0, .bool false, .int .i64 4, .bool false, .bool false])) := to10_any 0 4
  have E1 : eq6 (a 0) (a 1) (a 2) (a 3) (a 4) (a 5) (a 0) (a 1) (a 2) (a 3) (a 4) (a 5) = true := (eq6_iff a a).2 (fun _ _ => rfl)
  have E2 : eq6 (c 0) (c 1) (c 2) (c 3) (c 4) (c 5) (c 0) (c 1) (c 2) (c 3) (c 4) (c 5) = true := (eq6_iff c c).2 (fun _ _ => rfl)
  clear ha hc
  go_enter Try.func5, Try.ntmps5
  go_wp2_with (fail)
  refine (S0.out _).mono ?_; rintro e w' ⟨rfl, q0, rfl⟩
  go_wp2_with (fail)
  refine (WA.out _).mono ?_; rintro e w' ⟨rfl, q1, rfl⟩
  go_wp2_with (fail)
  obtain ⟨A1, hA1⟩ : ∃ A, w.heap.size + (q0.bl.size + q1.bl.size) = A := ⟨_, rfl⟩
  rw [hA1]
  refine calls_world (fun W => Below w.heap.size w W ∧ BoxZ W A1 a) ⟨by (repeat' (first | (with_reducible assumption) | (with_reducible exact Below.refl _ _) | (with_reducible refine below_wov ?_ ?_ _) | (with_reducible refine below_drewN ?_ _) | (with_reducible refine Below.drew ?_) | (with_reducible refine Below.alloc ?_ ?_ _) | (with_reducible refine Below.setCell ?_ ?_ _) | (with_reducible exact Nat.le_refl _) | omega | (simp only [World.size_alloc, World.size_setCell, World.size_drew, Wov_size, World.heap_drewN]; omega))), (BoxZ.new (by rw [← hA1]; (try simp only [Wov_size, Array.size_append])))⟩ ?_
  rintro W1 ⟨hb1, m1_0⟩
  have hs1 := hb1.size
  have f1_0_lt := m1_0.lt
  have f1_0_c0 := m1_0.c0
  have f1_0_c1 := m1_0.c1
  have f1_0_c2 := m1_0.c2
  have f1_0_c3 := m1_0.c3
  have f1_0_c4 := m1_0.c4
  have f1_0_c5 := m1_0.c5
  clear hA1
  refine (T04.out _).mono ?_; rintro e w' ⟨rfl, q2, rfl⟩
  go_wp2_with (fail)
  refine (MK.out _).mono ?_; rintro e w' ⟨rfl, q3, rfl⟩
  go_wp2_with (fail)
  obtain ⟨A2, hA2⟩ : ∃ A, W1.heap.size + (q2.bl.size + q3.bl.size) = A := ⟨_, rfl⟩
  rw [hA2]
  refine calls_world (fun W => Below w.heap.size w W ∧ BoxZ W A1 a ∧ BoxZ W A2 a) ⟨by (repeat' (first | (with_reducible assumption) | (with_reducible exact Below.refl _ _) | (with_reducible refine below_wov ?_ ?_ _) | (with_reducible refine below_drewN ?_ _) | (with_reducible refine Below.drew ?_) | (with_reducible refine Below.alloc ?_ ?_ _) | (with_reducible refine Below.setCell ?_ ?_ _) | (with_reducible exact Nat.le_refl _) | omega | (simp only [World.size_alloc, World.size_setCell, World.size_drew, Wov_size, World.heap_drewN]; omega))), m1_0.below (by (repeat' (first | (with_reducible assumption) | (with_reducible exact Below.refl _ _) | (with_reducible refine below_wov ?_ ?_ _) | (with_reducible refine below_drewN ?_ _) | (with_reducible refine Below.drew ?_) | (with_reducible refine Below.alloc ?_ ?_ _) | (with_reducible refine Below.setCell ?_ ?_ _) | (with_reducible exact Nat.le_refl _) | omega | (simp only [World.size_alloc, World.size_setCell, World.size_drew, Wov_size, World.heap_drewN]; omega)))), (BoxZ.new (by rw [← hA2]; (try simp only [Wov_size, Array.size_append])))⟩ ?_
  rintro W2 ⟨hb2, m2_0, m2_1⟩
  clear hb1 f1_0_lt f1_0_c0 f1_0_c1 f1_0_c2 f1_0_c3 f1_0_c4 f1_0_c5 m1_0 hs1
  have hs2 := hb2.size
  have f2_0_lt := m2_0.lt
  have f2_0_c0 := m2_0.c0
  have f2_0_c1 := m2_0.c1
  have f2_0_c2 := m2_0.c2
  have f2_0_c3 := m2_0.c3
  have f2_0_c4 := m2_0.c4
  have f2_0_c5 := m2_0.c5
  have f2_1_lt := m2_1.lt
  have f2_1_c0 := m2_1.c0
  have f2_1_c1 := m2_1.c1
  have f2_1_c2 := m2_1.c2
  have f2_1_c3 := m2_1.c3
  have f2_1_c4 := m2_1.c4
  have f2_1_c5 := m2_1.c5
  clear hA2
  refine (S0.out _).mono ?_; rintro e w' ⟨rfl, q4, rfl⟩
  go_wp2_with (fail)
  refine calls_world (fun W => Below w.heap.size w W ∧ BoxZ W A1 a ∧ BoxZ W A2 a) ⟨by (repeat' (first | (with_reducible assumption) | (with_reducible exact Below.refl _ _) | (with_reducible refine below_wov ?_ ?_ _) | (with_reducible refine below_drewN ?_ _) | (with_reducible refine Below.drew ?_) | (with_reducible refine Below.alloc ?_ ?_ _) | (with_reducible refine Below.setCell ?_ ?_ _) | (with_reducible exact Nat.le_refl _) | omega | (simp only [World.size_alloc, World.size_setCell, World.size_drew, Wov_size, World.heap_drewN]; omega))), m2_0.below (by (repeat' (first | (with_reducible assumption) | (with_reducible exact Below.refl _ _) | (with_reducible refine below_wov ?_ ?_ _) | (with_reducible refine below_drewN ?_ _) | (with_reducible refine Below.drew ?_) | (with_reducible refine Below.alloc ?_ ?_ _) | (with_reducible refine Below.setCell ?_ ?_ _) | (with_reducible exact Nat.le_refl _) | omega | (simp only [World.size_alloc, World.size_setCell, World.size_drew, Wov_size, World.heap_drewN]; omega)))), m2_1.below (by (repeat' (first | (with_reducible assumption) | (with_reducible exact Below.refl _ _) | (with_reducible refine below_wov ?_ ?_ _) | (with_reducible refine below_drewN ?_ _) | (with_reducible refine Below.drew ?_) | (with_reducible refine Below.alloc ?_ ?_ _) | (with_reducible refine Below.setCell ?_ ?_ _) | (with_reducible exact Nat.le_refl _) | omega | (simp only [World.size_alloc, World.size_setCell, World.size_drew, Wov_size, World.heap_drewN]; omega))))⟩ ?_
  rintro W3 ⟨hb3, m3_0, m3_1⟩
  clear hb2 f2_0_lt f2_0_c0 f2_0_c1 f2_0_c2 f2_0_c3 f2_0_c4 f2_0_c5 f2_1_lt f2_1_c0 f2_1_c1 f2_1_c2 f2_1_c3 f2_1_c4 f2_1_c5 m2_0 m2_1 hs2
  have hs3 := hb3.size
  have f3_0_lt := m3_0.lt
  have f3_0_c0 := m3_0.c0
  have f3_0_c1 := m3_0.c1
  have f3_0_c2 := m3_0.c2
  have f3_0_c3 := m3_0.c3
  have f3_0_c4 := m3_0.c4
  have f3_0_c5 := m3_0.c5
  have f3_1_lt := m3_1.lt
  have f3_1_c0 := m3_1.c0
  have f3_1_c1 := m3_1.c1
  have f3_1_c2 := m3_1.c2
  have f3_1_c3 := m3_1.c3
  have f3_1_c4 := m3_1.c4
  have f3_1_c5 := m3_1.c5
  refine (WB.out _).mono ?_; rintro e w' ⟨rfl, q5, rfl⟩
  go_wp2_with (fail)
  refine calls_world (fun W => Below w.heap.size w W ∧ BoxZ W A1 a ∧ BoxZ W A2 a) ⟨by (repeat' (first | (with_reducible assumption) | (with_reducible exact Below.refl _ _) | (with_reducible refine below_wov ?_ ?_ _) | (with_reducible refine below_drewN ?_ _) | (with_reducible refine Below.drew ?_) | (with_reducible refine Below.alloc ?_ ?_ _) | (with_reducible refine Below.setCell ?_ ?_ _) | (with_reducible exact Nat.le_refl _) | omega | (simp only [World.size_alloc, World.size_setCell, World.size_drew, Wov_size, World.heap_drewN]; omega))), m3_0.below (by (repeat' (first | (with_reducible assumption) | (with_reducible exact Below.refl _ _) | (with_reducible refine below_wov ?_ ?_ _) | (with_reducible refine below_drewN ?_ _) | (with_reducible refine Below.drew ?_) | (with_reducible refine Below.alloc ?_ ?_ _) | (with_reducible refine Below.setCell ?_ ?_ _) | (with_reducible exact Nat.le_refl _) | omega | (simp only [World.size_alloc, World.size_setCell, World.size_drew, Wov_size, World.heap_drewN]; omega)))), m3_1.below (by (repeat' (first | (with_reducible assumption) | (with_reducible exact Below.refl _ _) | (with_reducible refine below_wov ?_ ?_ _) | (with_reducible refine below_drewN ?_ _) | (with_reducible refine Below.drew ?_) | (with_reducible refine Below.alloc ?_ ?_ _) | (with_reducible refine Below.setCell ?_ ?_ _) | (with_reducible exact Nat.le_refl _) | omega | (simp only [World.size_alloc, World.size_setCell, World.size_drew, Wov_size, World.heap_drewN]; omega))))⟩ ?_
  rintro W4 ⟨hb4, m4_0, m4_1⟩
  clear hb3 f3_0_lt f3_0_c0 f3_0_c1 f3_0_c2 f3_0_c3 f3_0_c4 f3_0_c5 f3_1_lt f3_1_c0 f3_1_c1 f3_1_c2 f3_1_c3 f3_1_c4 f3_1_c5 m3_0 m3_1 hs3
  have hs4 := hb4.size
  have f4_0_lt := m4_0.lt
  have f4_0_c0 := m4_0.c0
  have f4_0_c1 := m4_0.c1
  have f4_0_c2 := m4_0.c2
  have f4_0_c3 := m4_0.c3
  have f4_0_c4 := m4_0.c4
  have f4_0_c5 := m4_0.c5
  have f4_1_lt := m4_1.lt
  have f4_1_c0 := m4_1.c0
  have f4_1_c1 := m4_1.c1
  have f4_1_c2 := m4_1.c2
  have f4_1_c3 := m4_1.c3
  have f4_1_c4 := m4_1.c4
  have f4_1_c5 := m4_1.c5
  refine (S0.out _).mono ?_; rintro e w' ⟨rfl, q6, rfl⟩
  go_wp2_with (fail)
  refine calls_world (fun W => Below w.heap.size w W ∧ BoxZ W A1 a ∧ BoxZ W A2 a) ⟨by (repeat' (first | (with_reducible assumption) | (with_reducible exact Below.refl _ _) | (with_reducible refine below_wov ?_ ?_ _) | (with_reducible refine below_drewN ?_ _) | (with_reducible refine Below.drew ?_) | (with_reducible refine Below.alloc ?_ ?_ _) | (with_reducible refine Below.setCell ?_ ?_ _) | (with_reducible exact Nat.le_refl _) | omega | (simp only [World.size_alloc, World.size_setCell, World.size_drew, Wov_size, World.heap_drewN]; omega))), m4_0.below (by (repeat' (first | (with_reducible assumption) | (with_reducible exact Below.refl _ _) | (with_reducible refine below_wov ?_ ?_ _) | (with_reducible refine below_drewN ?_ _) | (with_reducible refine Below.drew ?_) | (with_reducible refine Below.alloc ?_ ?_ _) | (with_reducible refine Below.setCell ?_ ?_ _) | (with_reducible exact Nat.le_refl _) | omega | (simp only [World.size_alloc, World.size_setCell, World.size_drew, Wov_size, World.heap_drewN]; omega)))), m4_1.below (by (repeat' (first | (with_reducible assumption) | (with_reducible exact Below.refl _ _) | (with_reducible refine below_wov ?_ ?_ _) | (with_reducible refine below_drewN ?_ _) | (with_reducible refine Below.drew ?_) | (with_reducible refine Below.alloc ?_ ?_ _) | (with_reducible refine Below.setCell ?_ ?_ _) | (with_reducible exact Nat.le_refl _) | omega | (simp only [World.size_alloc, World.size_setCell, World.size_drew, Wov_size, World.heap_drewN]; omega))))⟩ ?_
  rintro W5 ⟨hb5, m5_0, m5_1⟩
  clear hb4 f4_0_lt f4_0_c0 f4_0_c1 f4_0_c2 f4_0_c3 f4_0_c4 f4_0_c5 f4_1_lt f4_1_c0 f4_1_c1 f4_1_c2 f4_1_c3 f4_1_c4 f4_1_c5 m4_0 m4_1 hs4
  have hs5 := hb5.size
  have f5_0_lt := m5_0.lt
  have f5_0_c0 := m5_0.c0
  have f5_0_c1 := m5_0.c1
  have f5_0_c2 := m5_0.c2
  have f5_0_c3 := m5_0.c3
  have f5_0_c4 := m5_0.c4
  have f5_0_c5 := m5_0.c5
  have f5_1_lt := m5_1.lt
  have f5_1_c0 := m5_1.c0
  have f5_1_c1 := m5_1.c1
  have f5_1_c2 := m5_1.c2
  have f5_1_c3 := m5_1.c3
  have f5_1_c4 := m5_1.c4
  have f5_1_c5 := m5_1.c5
  refine (WC.out _).mono ?_; rintro e w' ⟨rfl, q7, rfl⟩
  go_wp2_with (fail)
  refine calls_world (fun W => Below w.heap.size w W ∧ BoxZ W A1 a ∧ BoxZ W A2 a) ⟨by (repeat' (first | (with_reducible assumption) | (with_reducible exact Below.refl _ _) | (with_reducible refine below_wov ?_ ?_ _) | (with_reducible refine below_drewN ?_ _) | (with_reducible refine Below.drew ?_) | (with_reducible refine Below.alloc ?_ ?_ _) | (with_reducible refine Below.setCell ?_ ?_ _) | (with_reducible exact Nat.le_refl _) | omega | (simp only [World.size_alloc, World.size_setCell, World.size_drew, Wov_size, World.heap_drewN]; omega))), m5_0.below (by (repeat' (first | (with_reducible assumption) | (with_reducible exact Below.refl _ _) | (with_reducible refine below_wov ?_ ?_ _) | (with_reducible refine below_drewN ?_ _) | (with_reducible refine Below.drew ?_) | (with_reducible refine Below.alloc ?_ ?_ _) | (with_reducible refine Below.setCell ?_ ?_ _) | (with_reducible exact Nat.le_refl _) | omega | (simp only [World.size_alloc, World.size_setCell, World.size_drew, Wov_size, World.heap_drewN]; omega)))), m5_1.below (by (repeat' (first | (with_reducible assumption) | (with_reducible exact Below.refl _ _) | (with_reducible refine below_wov ?_ ?_ _) | (with_reducible refine below_drewN ?_ _) | (with_reducible refine Below.drew ?_) | (with_reducible refine Below.alloc ?_ ?_ _) | (with_reducible refine Below.setCell ?_ ?_ _) | (with_reducible exact Nat.le_refl _) | omega | (simp only [World.size_alloc, World.size_setCell, World.size_drew, Wov_size, World.heap_drewN]; omega))))⟩ ?_
  rintro W6 ⟨hb6, m6_0, m6_1⟩
  clear hb5 f5_0_lt f5_0_c0 f5_0_c1 f5_0_c2 f5_0_c3 f5_0_c4 f5_0_c5 f5_1_lt f5_1_c0 f5_1_c1 f5_1_c2 f5_1_c3 f5_1_c4 f5_1_c5 m5_0 m5_1 hs5
  have hs6 := hb6.size
  have f6_0_lt := m6_0.lt
  have f6_0_c0 := m6_0.c0
  have f6_0_c1 := m6_0.c1
  have f6_0_c2 := m6_0.c2
  have f6_0_c3 := m6_0.c3
  have f6_0_c4 := m6_0.c4
  have f6_0_c5 := m6_0.c5
  have f6_1_lt := m6_1.lt
  have f6_1_c0 := m6_1.c0
  have f6_1_c1 := m6_1.c1
  have f6_1_c2 := m6_1.c2
  have f6_1_c3 := m6_1.c3
  have f6_1_c4 := m6_1.c4
  have f6_1_c5 := m6_1.c5
  refine (S0.out _).mono ?_; rintro e w' ⟨rfl, q8, rfl⟩
  go_wp2_with (fail)
  refine calls_world (fun W => Below w.heap.size w W ∧ BoxZ W A1 a ∧ BoxZ W A2 a) ⟨by (repeat' (first | (with_reducible assumption) | (with_reducible exact Below.refl _ _) | (with_reducible refine below_wov ?_ ?_ _) | (with_reducible refine below_drewN ?_ _) | (with_reducible refine Below.drew ?_) | (with_reducible refine Below.alloc ?_ ?_ _) | (with_reducible refine Below.setCell ?_ ?_ _) | (with_reducible exact Nat.le_refl _) | omega | (simp only [World.size_alloc, World.size_setCell, World.size_drew, Wov_size, World.heap_drewN]; omega))), m6_0.below (by (repeat' (first | (with_reducible assumption) | (with_reducible exact Below.refl _ _) | (with_reducible refine below_wov ?_ ?_ _) | (with_reducible refine below_drewN ?_ _) | (with_reducible refine Below.drew ?_) | (with_reducible refine Below.alloc ?_ ?_ _) | (with_reducible refine Below.setCell ?_ ?_ _) | (with_reducible exact Nat.le_refl _) | omega | (simp only [World.size_alloc, World.size_setCell, World.size_drew, Wov_size, World.heap_drewN]; omega)))), m6_1.below (by (repeat' (first | (with_reducible assumption) | (with_reducible exact Below.refl _ _) | (with_reducible refine below_wov ?_ ?_ _) | (with_reducible refine below_drewN ?_ _) | (with_reducible refine Below.drew ?_) | (with_reducible refine Below.alloc ?_ ?_ _) | (with_reducible refine Below.setCell ?_ ?_ _) | (with_reducible exact Nat.le_refl _) | omega | (simp only [World.size_alloc, World.size_setCell, World.size_drew, Wov_size, World.heap_drewN]; omega))))⟩ ?_
  rintro W7 ⟨hb7, m7_0, m7_1⟩
  clear hb6 f6_0_lt f6_0_c0 f6_0_c1 f6_0_c2 f6_0_c3 f6_0_c4 f6_0_c5 f6_1_lt f6_1_c0 f6_1_c1 f6_1_c2 f6_1_c3 f6_1_c4 f6_1_c5 m6_0 m6_1 hs6
  have hs7 := hb7.size
  have f7_0_lt := m7_0.lt
  have f7_0_c0 := m7_0.c0
  have f7_0_c1 := m7_0.c1
  have f7_0_c2 := m7_0.c2
  have f7_0_c3 := m7_0.c3
  have f7_0_c4 := m7_0.c4
  have f7_0_c5 := m7_0.c5
  have f7_1_lt := m7_1.lt
  have f7_1_c0 := m7_1.c0
  have f7_1_c1 := m7_1.c1
  have f7_1_c2 := m7_1.c2
  have f7_1_c3 := m7_1.c3
  have f7_1_c4 := m7_1.c4
  have f7_1_c5 := m7_1.c5
  refine (SH.out _).mono ?_; rintro e w' ⟨rfl, q9, rfl⟩
  go_wp2
  obtain ⟨A3, hA3⟩ : ∃ A, W7.heap.size + q9.bl.size = A := ⟨_, rfl⟩
  rw [hA3]
  refine wp_world (fun W => Below w.heap.size w W ∧ BoxZ W A1 a ∧ BoxZ W A2 a ∧ BoxZ W A3 c) ⟨by (repeat' (first | (with_reducible assumption) | (with_reducible exact Below.refl _ _) | (with_reducible refine below_wov ?_ ?_ _) | (with_reducible refine below_drewN ?_ _) | (with_reducible refine Below.drew ?_) | (with_reducible refine Below.alloc ?_ ?_ _) | (with_reducible refine Below.setCell ?_ ?_ _) | (with_reducible exact Nat.le_refl _) | omega | (simp only [World.size_alloc, World.size_setCell, World.size_drew, Wov_size, World.heap_drewN]; omega))), m7_0.below (by (repeat' (first | (with_reducible assumption) | (with_reducible exact Below.refl _ _) | (with_reducible refine below_wov ?_ ?_ _) | (with_reducible refine below_drewN ?_ _) | (with_reducible refine Below.drew ?_) | (with_reducible refine Below.alloc ?_ ?_ _) | (with_reducible refine Below.setCell ?_ ?_ _) | (with_reducible exact Nat.le_refl _) | omega | (simp only [World.size_alloc, World.size_setCell, World.size_drew, Wov_size, World.heap_drewN]; omega)))), m7_1.below (by (repeat' (first | (with_reducible assumption) | (with_reducible exact Below.refl _ _) | (with_reducible refine below_wov ?_ ?_ _) | (with_reducible refine below_drewN ?_ _) | (with_reducible refine Below.drew ?_) | (with_reducible refine Below.alloc ?_ ?_ _) | (with_reducible refine Below.setCell ?_ ?_ _) | (with_reducible exact Nat.le_refl _) | omega | (simp only [World.size_alloc, World.size_setCell, World.size_drew, Wov_size, World.heap_drewN]; omega)))), BoxZ.new (by rw [← hA3]; (try simp only [Wov_size]))⟩ ?_
  rintro W8 ⟨hb8, m8_0, m8_1, m8_2⟩
  clear hb7 f7_0_lt f7_0_c0 f7_0_c1 f7_0_c2 f7_0_c3 f7_0_c4 f7_0_c5 f7_1_lt f7_1_c0 f7_1_c1 f7_1_c2 f7_1_c3 f7_1_c4 f7_1_c5 m7_0 m7_1 hs7
  have hs8 := hb8.size
  have f8_0_lt := m8_0.lt
  have f8_0_c0 := m8_0.c0
  have f8_0_c1 := m8_0.c1
  have f8_0_c2 := m8_0.c2
  have f8_0_c3 := m8_0.c3
  have f8_0_c4 := m8_0.c4
  have f8_0_c5 := m8_0.c5
  have f8_1_lt := m8_1.lt
  have f8_1_c0 := m8_1.c0
  have f8_1_c1 := m8_1.c1
  have f8_1_c2 := m8_1.c2
  have f8_1_c3 := m8_1.c3
  have f8_1_c4 := m8_1.c4
  have f8_1_c5 := m8_1.c5
  have f8_2_lt := m8_2.lt
  have f8_2_c0 := m8_2.c0
  have f8_2_c1 := m8_2.c1
  have f8_2_c2 := m8_2.c2
  have f8_2_c3 := m8_2.c3
  have f8_2_c4 := m8_2.c4
  have f8_2_c5 := m8_2.c5
  clear hA3 WA WB WC SH MK T04 S0
  go_region_held3 (fun w' => w'.cell? ⟨A1, 0, none⟩ = some (.int .i64 (a 0)) ∧ w'.cell? ⟨A1, 1, none⟩ = some (.int .i64 (a 1)) ∧ w'.cell? ⟨A1, 2, none⟩ = some (.int .i64 (a 2)) ∧ w'.cell? ⟨A1, 3, none⟩ = some (.int .i64 (a 3)) ∧ w'.cell? ⟨A1, 4, none⟩ = some (.int .i64 (a 4)) ∧ w'.cell? ⟨A1, 5, none⟩ = some (.int .i64 (a 5)) ∧ w'.cell? ⟨A2, 0, none⟩ = some (.int .i64 (a 0)) ∧ w'.cell? ⟨A2, 1, none⟩ = some (.int .i64 (a 1)) ∧ w'.cell? ⟨A2, 2, none⟩ = some (.int .i64 (a 2)) ∧ w'.cell? ⟨A2, 3, none⟩ = some (.int .i64 (a 3)) ∧ w'.cell? ⟨A2, 4, none⟩ = some (.int .i64 (a 4)) ∧ w'.cell? ⟨A2, 5, none⟩ = some (.int .i64 (a 5)) ∧ w'.cell? ⟨A3, 0, none⟩ = some (.int .i64 (c 0)) ∧ w'.cell? ⟨A3, 1, none⟩ = some (.int .i64 (c 1)) ∧ w'.cell? ⟨A3, 2, none⟩ = some (.int .i64 (c 2)) ∧ w'.cell? ⟨A3, 3, none⟩ = some (.int .i64 (c 3)) ∧ w'.cell? ⟨A3, 4, none⟩ = some (.int .i64 (c 4)) ∧ w'.cell? ⟨A3, 5, none⟩ = some (.int .i64 (c 5)))
    ((simp [go_sem, *]))
    ((first | (go_at_call 29; (refine (HA.out _).mono ?_; rintro e w' ⟨rfl, qb, rfl⟩)) | (go_at_call 25; (refine (S2.out _).mono ?_; rintro e w' ⟨rfl, qb, rfl⟩))))
  simp only [Exit.then]
  refine ‹∀ (a : Act) (w_1 : World), Code.wp Try.prog _ (bodyPost Try.prog _ _) a w_1 → _› _ _ ?_
  go_wp2
  go_ret
  exact gives_bool rfl (by (repeat' (first | (with_reducible assumption) | (with_reducible exact Below.refl _ _) | (with_reducible refine below_wov ?_ ?_ _) | (with_reducible refine below_drewN ?_ _) | (with_reducible refine Below.drew ?_) | (with_reducible refine Below.alloc ?_ ?_ _) | (with_reducible refine Below.setCell ?_ ?_ _) | (with_reducible exact Nat.le_refl _) | omega | (simp only [World.size_alloc, World.size_setCell, World.size_drew, Wov_size, World.heap_drewN]; omega))))
end Go.Proofs.Ytbgbhfcnadjhdaa.winNames
