/- The law ZoneNames (walk): the chapter's examples. No condition. -/
import Derived.Test.YtnjhjgkekmjmdaaH10
namespace Go.Proofs.Ytnjhjgkekmjmdaa.zoneNames
open Go.ChangeShapes Go.WideShapes Go.ChangeAt Go.RowKit
set_option linter.unusedVariables false
set_option linter.unusedSimpArgs false
attribute [local go_sem] Nat.add_assoc Nat.add_lt_add_iff_left lit_lt_add

theorem slp_one8 {X : World} {t : TypeId} {B : Nat} (hB : B = X.heap.size) : SlP (X.alloc (.cells #[.int .i64 1] t)) (some ⟨B, 0, none⟩) 1 (fun _ => 1) := by
  subst hB
  refine .inr ⟨X.heap.size, 0, rfl, by simp, fun x hx => ?_⟩
  obtain rfl : x = 0 := by omega
  simp [go_sem]

set_option maxRecDepth 100000 in
set_option maxHeartbeats 16000000 in
theorem walk (w : World) :
    Calls Try.prog 21 #[] w (Gives w (.bool true)) := by
  have HA := Lib.hid alive8
  obtain ⟨z, hz⟩ : ∃ z, z = row6 4 1 7 (-1) 7 0 := ⟨_, rfl⟩
  have v1 : (pickZ (row6 4 1 7 (-1) 7 0)).2 = 0 ∧ (pickZ (row6 4 1 7 (-1) 7 0)).1 0 = (0, 1) ∧ (pickZ (row6 4 1 7 (-1) 7 0)).1 1 = (1, 1) := by decide +kernel
  have v2 : (meetZ (row6 4 1 7 (-1) 7 0) (row6 4 1 7 (-1) 7 0)).2 = 0 ∧ (meetZ (row6 4 1 7 (-1) 7 0) (row6 4 1 7 (-1) 7 0)).1 0 = 4 ∧ (meetZ (row6 4 1 7 (-1) 7 0) (row6 4 1 7 (-1) 7 0)).1 1 = 1 ∧ (meetZ (row6 4 1 7 (-1) 7 0) (row6 4 1 7 (-1) 7 0)).1 2 = 7 ∧ (meetZ (row6 4 1 7 (-1) 7 0) (row6 4 1 7 (-1) 7 0)).1 3 = -1 ∧ (meetZ (row6 4 1 7 (-1) 7 0) (row6 4 1 7 (-1) 7 0)).1 4 = 7 ∧ (meetZ (row6 4 1 7 (-1) 7 0) (row6 4 1 7 (-1) 7 0)).1 5 = 0 := by decide +kernel
  have v3 : (makeZ (betwS 5 false 0 false true) (betwS 0 false 5 false false) (betwS 0 true 0 false true)).2 = 6 := by decide +kernel
  have v4 : (ofZ 1 1 (fun _ => 1)).2 = 40 := by decide +kernel
  have v5 : okZ (row6 0 0 0 0 0 0) = false := by decide +kernel
  have fz : FitsZ (row6 4 1 7 (-1) 7 0) := fun i hi => by
    rcases six hi with rfl | rfl | rfl | rfl | rfl | rfl <;> decide
  have f0 : FitsZ (row6 0 0 0 0 0 0) := fun i hi => by
    rcases six hi with rfl | rfl | rfl | rfl | rfl | rfl <;> decide
  have SO : Hid (∀ w, Calls Try.prog 67 #[] w (Gives w (.tuple #[.agg #[.int .i64 (z 0), .int .i64 (z 1), .int .i64 (z 2), .int .i64 (z 3), .int .i64 (z 4), .int .i64 (z 5)], .int .i64 0]))) := fun w => by rw [hz]; exact some8_any w
  have PK : Hid (∀ w, Calls Try.prog 68 #[.agg #[.int .i64 (z 0), .int .i64 (z 1), .int .i64 (z 2), .int .i64 (z 3), .int .i64 (z 4), .int .i64 (z 5)]] w (Gives w (.tuple #[.agg #[.int .i64 0, .int .i64 1, .int .i64 1, .int .i64 1], .int .i64 0]))) := fun w => by
    have := zpick_any (row6 4 1 7 (-1) 7 0) w fz
    unfold pointR pointV at this
    rw [v1.1, v1.2.1, v1.2.2] at this
    rw [hz]; exact this
  have MT : Hid (∀ w, Calls Try.prog 55 #[.agg #[.int .i64 (z 0), .int .i64 (z 1), .int .i64 (z 2), .int .i64 (z 3), .int .i64 (z 4), .int .i64 (z 5)], .agg #[.int .i64 (z 0), .int .i64 (z 1), .int .i64 (z 2), .int .i64 (z 3), .int .i64 (z 4), .int .i64 (z 5)]] w (Gives w (.tuple #[.agg #[.int .i64 (z 0), .int .i64 (z 1), .int .i64 (z 2), .int .i64 (z 3), .int .i64 (z 4), .int .i64 (z 5)], .int .i64 0]))) := fun w => by
    have := zmeet_any (row6 4 1 7 (-1) 7 0) (row6 4 1 7 (-1) 7 0) w fz fz
    unfold zoneR zoneV at this
    rw [v2.1, v2.2.1, v2.2.2.1, v2.2.2.2.1, v2.2.2.2.2.1, v2.2.2.2.2.2.1, v2.2.2.2.2.2.2] at this
    rw [hz]; exact this
  obtain ⟨m6, h6⟩ : ∃ m, m = (makeZ (betwS 5 false 0 false true) (betwS 0 false 5 false false) (betwS 0 true 0 false true)).1 := ⟨_, rfl⟩
  have MK : Hid (∀ w, Calls Try.prog 24 #[.agg #[.int .i64 5, .bool false, .int .i64 0, .bool false, .bool true], .agg #[.int .i64 0, .bool false, .int .i64 5, .bool false, .bool false], .agg #[.int .i64 0, .bool true, .int .i64 0, .bool false, .bool true]] w (Gives w (.tuple #[.agg #[.int .i64 (m6 0), .int .i64 (m6 1), .int .i64 (m6 2), .int .i64 (m6 3), .int .i64 (m6 4), .int .i64 (m6 5)], .int .i64 6]))) := fun w => by
    have := zmake_any 5 false 0 false true 0 false 5 false false 0 true 0 false true w (by decide) (by decide) (by decide) (by decide) (by decide) (by decide)
    rw [v3, ← h6] at this
    exact this
  obtain ⟨m7, h7⟩ : ∃ m, m = (ofZ 1 1 (fun _ => 1)).1 := ⟨_, rfl⟩
  have OF : Hid (∀ w B c, SlP w (some ⟨B, 0, none⟩) 1 (fun _ => 1) → Calls Try.prog 50 #[.agg #[.int .i64 1, .slice (some ⟨B, 0, none⟩) 1 c]] w (Gives w (.tuple #[.agg #[.int .i64 (m7 0), .int .i64 (m7 1), .int .i64 (m7 2), .int .i64 (m7 3), .int .i64 (m7 4), .int .i64 (m7 5)], .int .i64 40]))) := fun w B c h => by
    have := zof_any 1 _ 1 c _ w (by decide) h (fun x hx => by decide) (by decide)
    rw [v4, ← h7] at this
    exact this
  have CK : Hid (∀ w, Calls Try.prog 58 #[.agg #[.int .i64 0, .int .i64 0, .int .i64 0, .int .i64 0, .int .i64 0, .int .i64 0]] w (Gives w (.int .i64 8))) := fun w => by
    have := zcheck_any (row6 0 0 0 0 0 0) w f0
    rw [v5] at this
    exact this
  have AT := Lib.hid (at8_any (t := 0) (u := 2) (a := 0) (b := 1) (c := 1) (d := 1) (by decide) (by decide) (by decide) (by decide))
  have E : eq6 (z 0) (z 1) (z 2) (z 3) (z 4) (z 5) (z 0) (z 1) (z 2) (z 3) (z 4) (z 5) = true := (eq6_iff z z).2 (fun _ _ => rfl)
  clear v1 v2 v3 v4 v5 fz f0 h6 h7 hz
  go_enter Try.func21, Try.ntmps21
  go_wp2_with (fail)
  refine (SO.out _).mono ?_; rintro e w' ⟨rfl, q0, rfl⟩
  go_wp2_with (fail)
  obtain ⟨A1, hA1⟩ : ∃ A, w.heap.size + q0.bl.size = A := ⟨_, rfl⟩
  rw [hA1]
  refine calls_world (fun W => Below w.heap.size w W ∧ BoxZ W A1 z) ⟨by (repeat' (first | (with_reducible assumption) | (with_reducible exact Below.refl _ _) | (with_reducible refine below_wov ?_ ?_ _) | (with_reducible refine below_drewN ?_ _) | (with_reducible refine Below.drew ?_) | (with_reducible refine Below.alloc ?_ ?_ _) | (with_reducible refine Below.setCell ?_ ?_ _) | (with_reducible exact Nat.le_refl _) | omega | (simp only [World.size_alloc, World.size_setCell, World.size_drew, Wov_size, World.heap_drewN]; omega))), BoxZ.new (by rw [← hA1]; (try simp only [Wov_size]))⟩ ?_
  rintro W1 ⟨hb1, m1_0⟩
  have hs1 := hb1.size
  have f1_0_lt := m1_0.lt
  have f1_0_c0 := m1_0.c0
  have f1_0_c1 := m1_0.c1
  have f1_0_c2 := m1_0.c2
  have f1_0_c3 := m1_0.c3
  have f1_0_c4 := m1_0.c4
  have f1_0_c5 := m1_0.c5
  clear hA1 SO
  refine (PK.out _).mono ?_; rintro e w' ⟨rfl, q1, rfl⟩
  go_wp2_with (fail)
  obtain ⟨A3, hA3⟩ : ∃ A, W1.heap.size + q1.bl.size = A := ⟨_, rfl⟩
  rw [hA3]
  refine calls_world (fun W => Below w.heap.size w W ∧ BoxZ W A1 z ∧ PtAt W A3 0 1 1 1) ⟨by (repeat' (first | (with_reducible assumption) | (with_reducible exact Below.refl _ _) | (with_reducible refine below_wov ?_ ?_ _) | (with_reducible refine below_drewN ?_ _) | (with_reducible refine Below.drew ?_) | (with_reducible refine Below.alloc ?_ ?_ _) | (with_reducible refine Below.setCell ?_ ?_ _) | (with_reducible exact Nat.le_refl _) | omega | (simp only [World.size_alloc, World.size_setCell, World.size_drew, Wov_size, World.heap_drewN]; omega))), m1_0.below (by (repeat' (first | (with_reducible assumption) | (with_reducible exact Below.refl _ _) | (with_reducible refine below_wov ?_ ?_ _) | (with_reducible refine below_drewN ?_ _) | (with_reducible refine Below.drew ?_) | (with_reducible refine Below.alloc ?_ ?_ _) | (with_reducible refine Below.setCell ?_ ?_ _) | (with_reducible exact Nat.le_refl _) | omega | (simp only [World.size_alloc, World.size_setCell, World.size_drew, Wov_size, World.heap_drewN]; omega)))), PtAt.new (by rw [← hA3]; (try simp only [Wov_size]))⟩ ?_
  rintro W2 ⟨hb2, m2_0, m2_1⟩
  clear hb1 f1_0_lt f1_0_c0 f1_0_c1 f1_0_c2 f1_0_c3 f1_0_c4 f1_0_c5 m1_0 hs1
  have hs2 := hb2.size
  have f2_0_lt := m2_0.lt
  have f2_0_c0 := m2_0.c0
  have f2_0_c1 := m2_0.c1
  have f2_0_c2 := m2_0.c2
  have f2_0_c3 := m2_0.c3
  have f2_0_c4 := m2_0.c4
  have f2_0_c5 := m2_0.c5
  have f2_1_lt := m2_1.lt
  have f2_1_c0 := m2_1.c0
  have f2_1_c1 := m2_1.c1
  have f2_1_c2 := m2_1.c2
  have f2_1_c3 := m2_1.c3
  clear hA3 PK
  refine (MT.out _).mono ?_; rintro e w' ⟨rfl, q2, rfl⟩
  go_wp2_with (fail)
  obtain ⟨A5, hA5⟩ : ∃ A, W2.heap.size + q2.bl.size = A := ⟨_, rfl⟩
  rw [hA5]
  refine calls_world (fun W => Below w.heap.size w W ∧ BoxZ W A1 z ∧ PtAt W A3 0 1 1 1 ∧ BoxZ W A5 z) ⟨by (repeat' (first | (with_reducible assumption) | (with_reducible exact Below.refl _ _) | (with_reducible refine below_wov ?_ ?_ _) | (with_reducible refine below_drewN ?_ _) | (with_reducible refine Below.drew ?_) | (with_reducible refine Below.alloc ?_ ?_ _) | (with_reducible refine Below.setCell ?_ ?_ _) | (with_reducible exact Nat.le_refl _) | omega | (simp only [World.size_alloc, World.size_setCell, World.size_drew, Wov_size, World.heap_drewN]; omega))), m2_0.below (by (repeat' (first | (with_reducible assumption) | (with_reducible exact Below.refl _ _) | (with_reducible refine below_wov ?_ ?_ _) | (with_reducible refine below_drewN ?_ _) | (with_reducible refine Below.drew ?_) | (with_reducible refine Below.alloc ?_ ?_ _) | (with_reducible refine Below.setCell ?_ ?_ _) | (with_reducible exact Nat.le_refl _) | omega | (simp only [World.size_alloc, World.size_setCell, World.size_drew, Wov_size, World.heap_drewN]; omega)))), m2_1.below (by (repeat' (first | (with_reducible assumption) | (with_reducible exact Below.refl _ _) | (with_reducible refine below_wov ?_ ?_ _) | (with_reducible refine below_drewN ?_ _) | (with_reducible refine Below.drew ?_) | (with_reducible refine Below.alloc ?_ ?_ _) | (with_reducible refine Below.setCell ?_ ?_ _) | (with_reducible exact Nat.le_refl _) | omega | (simp only [World.size_alloc, World.size_setCell, World.size_drew, Wov_size, World.heap_drewN]; omega)))), BoxZ.new (by rw [← hA5]; (try simp only [Wov_size]))⟩ ?_
  rintro W3 ⟨hb3, m3_0, m3_1, m3_2⟩
  clear hb2 f2_0_lt f2_0_c0 f2_0_c1 f2_0_c2 f2_0_c3 f2_0_c4 f2_0_c5 f2_1_lt f2_1_c0 f2_1_c1 f2_1_c2 f2_1_c3 m2_0 m2_1 hs2
  have hs3 := hb3.size
  have f3_0_lt := m3_0.lt
  have f3_0_c0 := m3_0.c0
  have f3_0_c1 := m3_0.c1
  have f3_0_c2 := m3_0.c2
  have f3_0_c3 := m3_0.c3
  have f3_0_c4 := m3_0.c4
  have f3_0_c5 := m3_0.c5
  have f3_1_lt := m3_1.lt
  have f3_1_c0 := m3_1.c0
  have f3_1_c1 := m3_1.c1
  have f3_1_c2 := m3_1.c2
  have f3_1_c3 := m3_1.c3
  have f3_2_lt := m3_2.lt
  have f3_2_c0 := m3_2.c0
  have f3_2_c1 := m3_2.c1
  have f3_2_c2 := m3_2.c2
  have f3_2_c3 := m3_2.c3
  have f3_2_c4 := m3_2.c4
  have f3_2_c5 := m3_2.c5
  clear hA5 MT
  refine (from8_any _ _ _).mono ?_; rintro e w' ⟨rfl, q3, rfl⟩
  go_wp2_with (fail)
  refine calls_world (fun W => Below w.heap.size w W ∧ BoxZ W A1 z ∧ PtAt W A3 0 1 1 1 ∧ BoxZ W A5 z) ⟨by (repeat' (first | (with_reducible assumption) | (with_reducible exact Below.refl _ _) | (with_reducible refine below_wov ?_ ?_ _) | (with_reducible refine below_drewN ?_ _) | (with_reducible refine Below.drew ?_) | (with_reducible refine Below.alloc ?_ ?_ _) | (with_reducible refine Below.setCell ?_ ?_ _) | (with_reducible exact Nat.le_refl _) | omega | (simp only [World.size_alloc, World.size_setCell, World.size_drew, Wov_size, World.heap_drewN]; omega))), m3_0.below (by (repeat' (first | (with_reducible assumption) | (with_reducible exact Below.refl _ _) | (with_reducible refine below_wov ?_ ?_ _) | (with_reducible refine below_drewN ?_ _) | (with_reducible refine Below.drew ?_) | (with_reducible refine Below.alloc ?_ ?_ _) | (with_reducible refine Below.setCell ?_ ?_ _) | (with_reducible exact Nat.le_refl _) | omega | (simp only [World.size_alloc, World.size_setCell, World.size_drew, Wov_size, World.heap_drewN]; omega)))), m3_1.below (by (repeat' (first | (with_reducible assumption) | (with_reducible exact Below.refl _ _) | (with_reducible refine below_wov ?_ ?_ _) | (with_reducible refine below_drewN ?_ _) | (with_reducible refine Below.drew ?_) | (with_reducible refine Below.alloc ?_ ?_ _) | (with_reducible refine Below.setCell ?_ ?_ _) | (with_reducible exact Nat.le_refl _) | omega | (simp only [World.size_alloc, World.size_setCell, World.size_drew, Wov_size, World.heap_drewN]; omega)))), m3_2.below (by (repeat' (first | (with_reducible assumption) | (with_reducible exact Below.refl _ _) | (with_reducible refine below_wov ?_ ?_ _) | (with_reducible refine below_drewN ?_ _) | (with_reducible refine Below.drew ?_) | (with_reducible refine Below.alloc ?_ ?_ _) | (with_reducible refine Below.setCell ?_ ?_ _) | (with_reducible exact Nat.le_refl _) | omega | (simp only [World.size_alloc, World.size_setCell, World.size_drew, Wov_size, World.heap_drewN]; omega))))⟩ ?_
  rintro W4 ⟨hb4, m4_0, m4_1, m4_2⟩
  clear hb3 f3_0_lt f3_0_c0 f3_0_c1 f3_0_c2 f3_0_c3 f3_0_c4 f3_0_c5 f3_1_lt f3_1_c0 f3_1_c1 f3_1_c2 f3_1_c3 f3_2_lt f3_2_c0 f3_2_c1 f3_2_c2 f3_2_c3 f3_2_c4 f3_2_c5 m3_0 m3_1 m3_2 hs3
  have hs4 := hb4.size
  have f4_0_lt := m4_0.lt
  have f4_0_c0 := m4_0.c0
  have f4_0_c1 := m4_0.c1
  have f4_0_c2 := m4_0.c2
  have f4_0_c3 := m4_0.c3
  have f4_0_c4 := m4_0.c4
  have f4_0_c5 := m4_0.c5
  have f4_1_lt := m4_1.lt
  have f4_1_c0 := m4_1.c0
  have f4_1_c1 := m4_1.c1
  have f4_1_c2 := m4_1.c2
  have f4_1_c3 := m4_1.c3
  have f4_2_lt := m4_2.lt
  have f4_2_c0 := m4_2.c0
  have f4_2_c1 := m4_2.c1
  have f4_2_c2 := m4_2.c2
  have f4_2_c3 := m4_2.c3
  have f4_2_c4 := m4_2.c4
  have f4_2_c5 := m4_2.c5
  refine (up8_any _ _ _ _).mono ?_; rintro e w' ⟨rfl, q4, rfl⟩
  go_wp2_with (fail)
  refine calls_world (fun W => Below w.heap.size w W ∧ BoxZ W A1 z ∧ PtAt W A3 0 1 1 1 ∧ BoxZ W A5 z) ⟨by (repeat' (first | (with_reducible assumption) | (with_reducible exact Below.refl _ _) | (with_reducible refine below_wov ?_ ?_ _) | (with_reducible refine below_drewN ?_ _) | (with_reducible refine Below.drew ?_) | (with_reducible refine Below.alloc ?_ ?_ _) | (with_reducible refine Below.setCell ?_ ?_ _) | (with_reducible exact Nat.le_refl _) | omega | (simp only [World.size_alloc, World.size_setCell, World.size_drew, Wov_size, World.heap_drewN]; omega))), m4_0.below (by (repeat' (first | (with_reducible assumption) | (with_reducible exact Below.refl _ _) | (with_reducible refine below_wov ?_ ?_ _) | (with_reducible refine below_drewN ?_ _) | (with_reducible refine Below.drew ?_) | (with_reducible refine Below.alloc ?_ ?_ _) | (with_reducible refine Below.setCell ?_ ?_ _) | (with_reducible exact Nat.le_refl _) | omega | (simp only [World.size_alloc, World.size_setCell, World.size_drew, Wov_size, World.heap_drewN]; omega)))), m4_1.below (by (repeat' (first | (with_reducible assumption) | (with_reducible exact Below.refl _ _) | (with_reducible refine below_wov ?_ ?_ _) | (with_reducible refine below_drewN ?_ _) | (with_reducible refine Below.drew ?_) | (with_reducible refine Below.alloc ?_ ?_ _) | (with_reducible refine Below.setCell ?_ ?_ _) | (with_reducible exact Nat.le_refl _) | omega | (simp only [World.size_alloc, World.size_setCell, World.size_drew, Wov_size, World.heap_drewN]; omega)))), m4_2.below (by (repeat' (first | (with_reducible assumption) | (with_reducible exact Below.refl _ _) | (with_reducible refine below_wov ?_ ?_ _) | (with_reducible refine below_drewN ?_ _) | (with_reducible refine Below.drew ?_) | (with_reducible refine Below.alloc ?_ ?_ _) | (with_reducible refine Below.setCell ?_ ?_ _) | (with_reducible exact Nat.le_refl _) | omega | (simp only [World.size_alloc, World.size_setCell, World.size_drew, Wov_size, World.heap_drewN]; omega))))⟩ ?_
  rintro W5 ⟨hb5, m5_0, m5_1, m5_2⟩
  clear hb4 f4_0_lt f4_0_c0 f4_0_c1 f4_0_c2 f4_0_c3 f4_0_c4 f4_0_c5 f4_1_lt f4_1_c0 f4_1_c1 f4_1_c2 f4_1_c3 f4_2_lt f4_2_c0 f4_2_c1 f4_2_c2 f4_2_c3 f4_2_c4 f4_2_c5 m4_0 m4_1 m4_2 hs4
  have hs5 := hb5.size
  have f5_0_lt := m5_0.lt
  have f5_0_c0 := m5_0.c0
  have f5_0_c1 := m5_0.c1
  have f5_0_c2 := m5_0.c2
  have f5_0_c3 := m5_0.c3
  have f5_0_c4 := m5_0.c4
  have f5_0_c5 := m5_0.c5
  have f5_1_lt := m5_1.lt
  have f5_1_c0 := m5_1.c0
  have f5_1_c1 := m5_1.c1
  have f5_1_c2 := m5_1.c2
  have f5_1_c3 := m5_1.c3
  have f5_2_lt := m5_2.lt
  have f5_2_c0 := m5_2.c0
  have f5_2_c1 := m5_2.c1
  have f5_2_c2 := m5_2.c2
  have f5_2_c3 := m5_2.c3
  have f5_2_c4 := m5_2.c4
  have f5_2_c5 := m5_2.c5
  refine (from8_any _ _ _).mono ?_; rintro e w' ⟨rfl, q5, rfl⟩
  go_wp2_with (fail)
  refine calls_world (fun W => Below w.heap.size w W ∧ BoxZ W A1 z ∧ PtAt W A3 0 1 1 1 ∧ BoxZ W A5 z) ⟨by (repeat' (first | (with_reducible assumption) | (with_reducible exact Below.refl _ _) | (with_reducible refine below_wov ?_ ?_ _) | (with_reducible refine below_drewN ?_ _) | (with_reducible refine Below.drew ?_) | (with_reducible refine Below.alloc ?_ ?_ _) | (with_reducible refine Below.setCell ?_ ?_ _) | (with_reducible exact Nat.le_refl _) | omega | (simp only [World.size_alloc, World.size_setCell, World.size_drew, Wov_size, World.heap_drewN]; omega))), m5_0.below (by (repeat' (first | (with_reducible assumption) | (with_reducible exact Below.refl _ _) | (with_reducible refine below_wov ?_ ?_ _) | (with_reducible refine below_drewN ?_ _) | (with_reducible refine Below.drew ?_) | (with_reducible refine Below.alloc ?_ ?_ _) | (with_reducible refine Below.setCell ?_ ?_ _) | (with_reducible exact Nat.le_refl _) | omega | (simp only [World.size_alloc, World.size_setCell, World.size_drew, Wov_size, World.heap_drewN]; omega)))), m5_1.below (by (repeat' (first | (with_reducible assumption) | (with_reducible exact Below.refl _ _) | (with_reducible refine below_wov ?_ ?_ _) | (with_reducible refine below_drewN ?_ _) | (with_reducible refine Below.drew ?_) | (with_reducible refine Below.alloc ?_ ?_ _) | (with_reducible refine Below.setCell ?_ ?_ _) | (with_reducible exact Nat.le_refl _) | omega | (simp only [World.size_alloc, World.size_setCell, World.size_drew, Wov_size, World.heap_drewN]; omega)))), m5_2.below (by (repeat' (first | (with_reducible assumption) | (with_reducible exact Below.refl _ _) | (with_reducible refine below_wov ?_ ?_ _) | (with_reducible refine below_drewN ?_ _) | (with_reducible refine Below.drew ?_) | (with_reducible refine Below.alloc ?_ ?_ _) | (with_reducible refine Below.setCell ?_ ?_ _) | (with_reducible exact Nat.le_refl _) | omega | (simp only [World.size_alloc, World.size_setCell, World.size_drew, Wov_size, World.heap_drewN]; omega))))⟩ ?_
  rintro W6 ⟨hb6, m6_0, m6_1, m6_2⟩
  clear hb5 f5_0_lt f5_0_c0 f5_0_c1 f5_0_c2 f5_0_c3 f5_0_c4 f5_0_c5 f5_1_lt f5_1_c0 f5_1_c1 f5_1_c2 f5_1_c3 f5_2_lt f5_2_c0 f5_2_c1 f5_2_c2 f5_2_c3 f5_2_c4 f5_2_c5 m5_0 m5_1 m5_2 hs5
  have hs6 := hb6.size
  have f6_0_lt := m6_0.lt
  have f6_0_c0 := m6_0.c0
  have f6_0_c1 := m6_0.c1
  have f6_0_c2 := m6_0.c2
  have f6_0_c3 := m6_0.c3
  have f6_0_c4 := m6_0.c4
  have f6_0_c5 := m6_0.c5
  have f6_1_lt := m6_1.lt
  have f6_1_c0 := m6_1.c0
  have f6_1_c1 := m6_1.c1
  have f6_1_c2 := m6_1.c2
  have f6_1_c3 := m6_1.c3
  have f6_2_lt := m6_2.lt
  have f6_2_c0 := m6_2.c0
  have f6_2_c1 := m6_2.c1
  have f6_2_c2 := m6_2.c2
  have f6_2_c3 := m6_2.c3
  have f6_2_c4 := m6_2.c4
  have f6_2_c5 := m6_2.c5
  refine (MK.out _).mono ?_; rintro e w' ⟨rfl, q6, rfl⟩
  go_wp2_with (fail)
  clear MK
  obtain ⟨B, hB⟩ : ∃ B, W6.heap.size + (q6.bl.size + 1) = B := ⟨_, rfl⟩
  rw [hB]
  refine calls_world (fun W => Below w.heap.size w W ∧ BoxZ W A1 z ∧ PtAt W A3 0 1 1 1 ∧ BoxZ W A5 z ∧ SlP W (some ⟨B, 0, none⟩) 1 (fun _ => 1)) ⟨by (repeat' (first | (with_reducible assumption) | (with_reducible exact Below.refl _ _) | (with_reducible refine below_wov ?_ ?_ _) | (with_reducible refine below_drewN ?_ _) | (with_reducible refine Below.drew ?_) | (with_reducible refine Below.alloc ?_ ?_ _) | (with_reducible refine Below.setCell ?_ ?_ _) | (with_reducible exact Nat.le_refl _) | omega | (simp only [World.size_alloc, World.size_setCell, World.size_drew, Wov_size, World.heap_drewN]; omega))), m6_0.below (by (repeat' (first | (with_reducible assumption) | (with_reducible exact Below.refl _ _) | (with_reducible refine below_wov ?_ ?_ _) | (with_reducible refine below_drewN ?_ _) | (with_reducible refine Below.drew ?_) | (with_reducible refine Below.alloc ?_ ?_ _) | (with_reducible refine Below.setCell ?_ ?_ _) | (with_reducible exact Nat.le_refl _) | omega | (simp only [World.size_alloc, World.size_setCell, World.size_drew, Wov_size, World.heap_drewN]; omega)))), m6_1.below (by (repeat' (first | (with_reducible assumption) | (with_reducible exact Below.refl _ _) | (with_reducible refine below_wov ?_ ?_ _) | (with_reducible refine below_drewN ?_ _) | (with_reducible refine Below.drew ?_) | (with_reducible refine Below.alloc ?_ ?_ _) | (with_reducible refine Below.setCell ?_ ?_ _) | (with_reducible exact Nat.le_refl _) | omega | (simp only [World.size_alloc, World.size_setCell, World.size_drew, Wov_size, World.heap_drewN]; omega)))), m6_2.below (by (repeat' (first | (with_reducible assumption) | (with_reducible exact Below.refl _ _) | (with_reducible refine below_wov ?_ ?_ _) | (with_reducible refine below_drewN ?_ _) | (with_reducible refine Below.drew ?_) | (with_reducible refine Below.alloc ?_ ?_ _) | (with_reducible refine Below.setCell ?_ ?_ _) | (with_reducible exact Nat.le_refl _) | omega | (simp only [World.size_alloc, World.size_setCell, World.size_drew, Wov_size, World.heap_drewN]; omega)))), slp_one8 (by rw [← hB]; simp only [World.size_alloc, Wov_size]; omega)⟩ ?_
  rintro W7 ⟨hb7, m7_0, m7_1, m7_2, m7_3⟩
  clear hb6 f6_0_lt f6_0_c0 f6_0_c1 f6_0_c2 f6_0_c3 f6_0_c4 f6_0_c5 f6_1_lt f6_1_c0 f6_1_c1 f6_1_c2 f6_1_c3 f6_2_lt f6_2_c0 f6_2_c1 f6_2_c2 f6_2_c3 f6_2_c4 f6_2_c5 m6_0 m6_1 m6_2 hs6
  have hs7 := hb7.size
  have f7_0_lt := m7_0.lt
  have f7_0_c0 := m7_0.c0
  have f7_0_c1 := m7_0.c1
  have f7_0_c2 := m7_0.c2
  have f7_0_c3 := m7_0.c3
  have f7_0_c4 := m7_0.c4
  have f7_0_c5 := m7_0.c5
  have f7_1_lt := m7_1.lt
  have f7_1_c0 := m7_1.c0
  have f7_1_c1 := m7_1.c1
  have f7_1_c2 := m7_1.c2
  have f7_1_c3 := m7_1.c3
  have f7_2_lt := m7_2.lt
  have f7_2_c0 := m7_2.c0
  have f7_2_c1 := m7_2.c1
  have f7_2_c2 := m7_2.c2
  have f7_2_c3 := m7_2.c3
  have f7_2_c4 := m7_2.c4
  have f7_2_c5 := m7_2.c5
  clear hB
  refine (OF.out _ _ _ m7_3).mono ?_; rintro e w' ⟨rfl, q7, rfl⟩
  go_wp2
  refine wp_world (fun W => Below w.heap.size w W ∧ BoxZ W A1 z ∧ PtAt W A3 0 1 1 1 ∧ BoxZ W A5 z) ⟨by (repeat' (first | (with_reducible assumption) | (with_reducible exact Below.refl _ _) | (with_reducible refine below_wov ?_ ?_ _) | (with_reducible refine below_drewN ?_ _) | (with_reducible refine Below.drew ?_) | (with_reducible refine Below.alloc ?_ ?_ _) | (with_reducible refine Below.setCell ?_ ?_ _) | (with_reducible exact Nat.le_refl _) | omega | (simp only [World.size_alloc, World.size_setCell, World.size_drew, Wov_size, World.heap_drewN]; omega))), m7_0.below (by (repeat' (first | (with_reducible assumption) | (with_reducible exact Below.refl _ _) | (with_reducible refine below_wov ?_ ?_ _) | (with_reducible refine below_drewN ?_ _) | (with_reducible refine Below.drew ?_) | (with_reducible refine Below.alloc ?_ ?_ _) | (with_reducible refine Below.setCell ?_ ?_ _) | (with_reducible exact Nat.le_refl _) | omega | (simp only [World.size_alloc, World.size_setCell, World.size_drew, Wov_size, World.heap_drewN]; omega)))), m7_1.below (by (repeat' (first | (with_reducible assumption) | (with_reducible exact Below.refl _ _) | (with_reducible refine below_wov ?_ ?_ _) | (with_reducible refine below_drewN ?_ _) | (with_reducible refine Below.drew ?_) | (with_reducible refine Below.alloc ?_ ?_ _) | (with_reducible refine Below.setCell ?_ ?_ _) | (with_reducible exact Nat.le_refl _) | omega | (simp only [World.size_alloc, World.size_setCell, World.size_drew, Wov_size, World.heap_drewN]; omega)))), m7_2.below (by (repeat' (first | (with_reducible assumption) | (with_reducible exact Below.refl _ _) | (with_reducible refine below_wov ?_ ?_ _) | (with_reducible refine below_drewN ?_ _) | (with_reducible refine Below.drew ?_) | (with_reducible refine Below.alloc ?_ ?_ _) | (with_reducible refine Below.setCell ?_ ?_ _) | (with_reducible exact Nat.le_refl _) | omega | (simp only [World.size_alloc, World.size_setCell, World.size_drew, Wov_size, World.heap_drewN]; omega))))⟩ ?_
  rintro W8 ⟨hb8, m8_0, m8_1, m8_2⟩
  clear hb7 f7_0_lt f7_0_c0 f7_0_c1 f7_0_c2 f7_0_c3 f7_0_c4 f7_0_c5 f7_1_lt f7_1_c0 f7_1_c1 f7_1_c2 f7_1_c3 f7_2_lt f7_2_c0 f7_2_c1 f7_2_c2 f7_2_c3 f7_2_c4 f7_2_c5 m7_0 m7_1 m7_2 m7_3 hs7
  have hs8 := hb8.size
  have f8_0_lt := m8_0.lt
  have f8_0_c0 := m8_0.c0
  have f8_0_c1 := m8_0.c1
  have f8_0_c2 := m8_0.c2
  have f8_0_c3 := m8_0.c3
  have f8_0_c4 := m8_0.c4
  have f8_0_c5 := m8_0.c5
  have f8_1_lt := m8_1.lt
  have f8_1_c0 := m8_1.c0
  have f8_1_c1 := m8_1.c1
  have f8_1_c2 := m8_1.c2
  have f8_1_c3 := m8_1.c3
  have f8_2_lt := m8_2.lt
  have f8_2_c0 := m8_2.c0
  have f8_2_c1 := m8_2.c1
  have f8_2_c2 := m8_2.c2
  have f8_2_c3 := m8_2.c3
  have f8_2_c4 := m8_2.c4
  have f8_2_c5 := m8_2.c5
  clear OF
  go_region_held3 (fun w' => w'.cell? ⟨A1, 0, none⟩ = some (.int .i64 (z 0)) ∧ w'.cell? ⟨A1, 1, none⟩ = some (.int .i64 (z 1)) ∧ w'.cell? ⟨A1, 2, none⟩ = some (.int .i64 (z 2)) ∧ w'.cell? ⟨A1, 3, none⟩ = some (.int .i64 (z 3)) ∧ w'.cell? ⟨A1, 4, none⟩ = some (.int .i64 (z 4)) ∧ w'.cell? ⟨A1, 5, none⟩ = some (.int .i64 (z 5)) ∧ w'.cell? ⟨A3, 0, none⟩ = some (.int .i64 0) ∧ w'.cell? ⟨A3, 1, none⟩ = some (.int .i64 1) ∧ w'.cell? ⟨A3, 2, none⟩ = some (.int .i64 1) ∧ w'.cell? ⟨A3, 3, none⟩ = some (.int .i64 1) ∧ w'.cell? ⟨A5, 0, none⟩ = some (.int .i64 (z 0)) ∧ w'.cell? ⟨A5, 1, none⟩ = some (.int .i64 (z 1)) ∧ w'.cell? ⟨A5, 2, none⟩ = some (.int .i64 (z 2)) ∧ w'.cell? ⟨A5, 3, none⟩ = some (.int .i64 (z 3)) ∧ w'.cell? ⟨A5, 4, none⟩ = some (.int .i64 (z 4)) ∧ w'.cell? ⟨A5, 5, none⟩ = some (.int .i64 (z 5)))
    ((simp [go_sem, *]))
    (first
    | (go_at_call 71; (refine (AT.out _).mono ?_; rintro e w' ⟨rfl, qa, rfl⟩))
    | (go_at_call 56; (refine (HA.out _).mono ?_; rintro e w' ⟨rfl, qb, rfl⟩))
    | (go_at_call 58; (refine (CK.out _).mono ?_; rintro e w' ⟨rfl, qc, rfl⟩)))
  simp only [Exit.then]
  refine ‹∀ (a : Act) (w_1 : World), Code.wp Try.prog _ (bodyPost Try.prog _ _) a w_1 → _› _ _ ?_
  go_wp2
  go_ret
  exact gives_bool rfl (by (repeat' (first | (with_reducible assumption) | (with_reducible exact Below.refl _ _) | (with_reducible refine below_wov ?_ ?_ _) | (with_reducible refine below_drewN ?_ _) | (with_reducible refine Below.drew ?_) | (with_reducible refine Below.alloc ?_ ?_ _) | (with_reducible refine Below.setCell ?_ ?_ _) | (with_reducible exact Nat.le_refl _) | omega | (simp only [World.size_alloc, World.size_setCell, World.size_drew, Wov_size, World.heap_drewN]; omega))))
end Go.Proofs.Ytnjhjgkekmjmdaa.zoneNames
