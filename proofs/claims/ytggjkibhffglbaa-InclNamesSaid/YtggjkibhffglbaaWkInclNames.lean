/- The law InclNames (walk): the examples of the sixth chapter. No condition. -/
import Derived.Test.YtggjkibhffglbaaG11
import Derived.Test.YtggjkibhffglbaaG13
namespace Go.Proofs.Ytggjkibhffglbaa.inclNames
open Go.ChangeShapes Go.WideShapes Go.ChangeAt Go.RowKit
set_option linter.unusedVariables false
set_option linter.unusedSimpArgs false
attribute [local go_sem] Nat.add_assoc Nat.add_lt_add_iff_left lit_lt_add

theorem slp_one (W : World) (t : TypeId) (a : Int) : SlP (W.alloc (.cells #[.int .i64 a] t)) (some ⟨W.heap.size, 0, none⟩) 1 (fun _ => a) :=
  .inr ⟨W.heap.size, 0, rfl, by simp, fun x hx => by
    have e : x = 0 := by omega
    subst e
    simp [go_sem]⟩

set_option maxRecDepth 100000 in
set_option maxHeartbeats 16000000 in
theorem walk (w : World) : Calls Try.prog 10 #[] w (Gives w (.bool true)) := by
  have HA := Lib.hid alive6
  have F1 : Fits 4 (four 1 noneB 7 1) := four_fits (by decide) (by decide) (by decide) (by decide)
  have F2 : Fits 4 (four 1 (-8) noneB 1) := four_fits (by decide) (by decide) (by decide) (by decide)
  have F3 : Fits 4 (four 1 (-7) noneB 1) := four_fits (by decide) (by decide) (by decide) (by decide)
  have F4 : Fits 4 (four 1 (-4) 6 1) := four_fits (by decide) (by decide) (by decide) (by decide)
  have F5 : Fits 4 (four 1 (-5) 3 1) := four_fits (by decide) (by decide) (by decide) (by decide)
  have F6 : Fits 4 (topF 2) := fun x hx => mayB_fits (topF_may 2 x)
  have F7 : Fits 1 (fun _ => 1) := fun x hx => (by decide : fits64 1)
  have v1 : apR 2 4 (four 1 noneB 7 1) 2 4 (four 1 (-8) noneB 1) = (true, 0) := by decide +kernel
  have v2 : apR 2 4 (four 1 noneB 7 1) 2 4 (four 1 (-7) noneB 1) = (true, 0) := by decide +kernel
  have v3 : (pickR 2 4 (four 1 (-4) 6 1)).M = 1 ∧ (pickR 2 4 (four 1 (-4) 6 1)).e = 0 ∧ (pickR 2 4 (four 1 (-4) 6 1)).T 0 = (5, 2) := by decide +kernel
  have v4 : (pickR 2 4 (topF 2)).M = 1 ∧ (pickR 2 4 (topF 2)).e = 0 ∧ (pickR 2 4 (topF 2)).T 0 = (0, 1) := by decide +kernel
  have v5 : (pickR 2 4 (four 1 (-5) 3 1)).M = 0 ∧ (pickR 2 4 (four 1 (-5) 3 1)).e = 6 := by decide +kernel
  have v6 : inR 2 4 (topF 2) 1 1 (fun _ => 1) = (false, 40) := by decide +kernel
  have C1 : Hid (∀ W B B', SlP W (some ⟨B, 0, none⟩) 4 (four 1 noneB 7 1) → SlP W (some ⟨B', 0, none⟩) 4 (four 1 (-8) noneB 1) → Calls Try.prog 30 #[.agg #[.int .i64 2, .slice (some ⟨B, 0, none⟩) 4 4], .agg #[.int .i64 2, .slice (some ⟨B', 0, none⟩) 4 4]] W (Gives W (.tuple #[.bool true, .int .i64 0]))) := fun W B B' h g => by
    have := apart_any 2 (some ⟨B, 0, none⟩) 4 4 _ 2 (some ⟨B', 0, none⟩) 4 4 _ W (by decide) (by decide) h g F1 F2 (by omega) (by omega)
    rw [v1] at this; exact this
  have C2 : Hid (∀ W B B', SlP W (some ⟨B, 0, none⟩) 4 (four 1 noneB 7 1) → SlP W (some ⟨B', 0, none⟩) 4 (four 1 (-7) noneB 1) → Calls Try.prog 30 #[.agg #[.int .i64 2, .slice (some ⟨B, 0, none⟩) 4 4], .agg #[.int .i64 2, .slice (some ⟨B', 0, none⟩) 4 4]] W (Gives W (.tuple #[.bool true, .int .i64 0]))) := fun W B B' h g => by
    have := apart_any 2 (some ⟨B, 0, none⟩) 4 4 _ 2 (some ⟨B', 0, none⟩) 4 4 _ W (by decide) (by decide) h g F1 F3 (by omega) (by omega)
    rw [v2] at this; exact this
  obtain ⟨T1, hT1⟩ : ∃ T, T = (pickR 2 4 (four 1 (-4) 6 1)).T := ⟨_, rfl⟩
  have VT1 : Hid (T1 0 = (5, 2)) := by rw [hT1]; exact v3.2.2
  have C3 : Hid (∀ W B, SlP W (some ⟨B, 0, none⟩) 4 (four 1 (-4) 6 1) → Calls Try.prog 32 #[.agg #[.int .i64 2, .slice (some ⟨B, 0, none⟩) 4 4]] W (ratC W 1 T1 0)) := fun W B h => by
    have := incPick_any 2 (some ⟨B, 0, none⟩) 4 4 _ W (by decide) h F4 (by omega)
    rw [v3.1, v3.2.1, ← hT1] at this; exact this
  obtain ⟨T2, hT2⟩ : ∃ T, T = (pickR 2 4 (topF 2)).T := ⟨_, rfl⟩
  have VT2 : Hid (T2 0 = (0, 1)) := by rw [hT2]; exact v4.2.2
  have C4 : Hid (∀ W B cp, SlP W (some ⟨B, 0, none⟩) 4 (topF 2) → Calls Try.prog 32 #[.agg #[.int .i64 2, .slice (some ⟨B, 0, none⟩) 4 cp]] W (ratC W 1 T2 0)) := fun W B cp h => by
    have := incPick_any 2 (some ⟨B, 0, none⟩) 4 cp _ W (by decide) h F6 (by omega)
    rw [v4.1, v4.2.1, ← hT2] at this; exact this
  obtain ⟨T3, hT3⟩ : ∃ T, T = (pickR 2 4 (four 1 (-5) 3 1)).T := ⟨_, rfl⟩
  have C5 : Hid (∀ W B, SlP W (some ⟨B, 0, none⟩) 4 (four 1 (-5) 3 1) → Calls Try.prog 32 #[.agg #[.int .i64 2, .slice (some ⟨B, 0, none⟩) 4 4]] W (ratC W 0 T3 6)) := fun W B h => by
    have := incPick_any 2 (some ⟨B, 0, none⟩) 4 4 _ W (by decide) h F5 (by omega)
    rw [v5.1, v5.2, ← hT3] at this; exact this
  have C6 : Hid (∀ W B cp B', SlP W (some ⟨B, 0, none⟩) 4 (topF 2) → SlP W (some ⟨B', 0, none⟩) 1 (fun _ => 1) → Calls Try.prog 28 #[.agg #[.int .i64 2, .slice (some ⟨B, 0, none⟩) 4 cp], .agg #[.int .i64 1, .slice (some ⟨B', 0, none⟩) 1 1]] W (Gives W (.tuple #[.bool false, .int .i64 40]))) := fun W B cp B' h g => by
    have := in_any 2 (some ⟨B, 0, none⟩) 4 cp _ 1 (some ⟨B', 0, none⟩) 1 1 _ W (by decide) (by decide) h g F6 F7 (by omega) (by omega)
    rw [v6] at this; exact this
  have TP := Lib.hid (fun w => top_ok 2 w (by omega) (by omega))
  clear v1 v2 v3 v4 v5 v6 hT1 hT2 hT3 F1 F2 F3 F4 F5 F6 F7
  go_enter Try.func10, Try.ntmps10
  go_wp2_with (fail)
  refine (two6_any _ _ _ _ _).mono ?_; rintro e w' ⟨B1, rfl, hA1, hB1, hH1, p1, rfl⟩
  have t1 : SlP (Wov w p1) (some ⟨B1, 0, none⟩) 4 (four 1 noneB 7 1) := slp_of hH1 hB1
  clear hA1 hB1 hH1
  go_wp2_with (fail)
  refine calls_world (fun W => Below w.heap.size w W ∧ SlP W (some ⟨B1, 0, none⟩) 4 (four 1 noneB 7 1)) ⟨by (repeat' (first | (with_reducible assumption) | (with_reducible exact Below.refl _ _) | (with_reducible refine below_wov ?_ ?_ _) | (with_reducible refine below_drewN ?_ _) | (with_reducible refine Below.drew ?_) | (with_reducible refine Below.alloc ?_ ?_ _) | (with_reducible refine Below.setCell ?_ ?_ _) | (with_reducible exact Nat.le_refl _) | omega | (simp only [World.size_alloc, World.size_setCell, World.size_drew, Wov_size, World.heap_drewN]; omega))), t1⟩ ?_
  rintro W1 ⟨hb1, m1_0⟩
  have hs1 := hb1.size
  clear t1
  refine (two6_any _ _ _ _ _).mono ?_; rintro e w' ⟨B2, rfl, hA1, hB1, hH1, p2, rfl⟩
  have t2 : SlP (Wov W1 p2) (some ⟨B2, 0, none⟩) 4 (four 1 (-8) noneB 1) := slp_of hH1 hB1
  clear hA1 hB1 hH1
  go_wp2_with (fail)
  refine calls_world (fun W => Below w.heap.size w W ∧ SlP W (some ⟨B1, 0, none⟩) 4 (four 1 noneB 7 1) ∧ SlP W (some ⟨B2, 0, none⟩) 4 (four 1 (-8) noneB 1)) ⟨by (repeat' (first | (with_reducible assumption) | (with_reducible exact Below.refl _ _) | (with_reducible refine below_wov ?_ ?_ _) | (with_reducible refine below_drewN ?_ _) | (with_reducible refine Below.drew ?_) | (with_reducible refine Below.alloc ?_ ?_ _) | (with_reducible refine Below.setCell ?_ ?_ _) | (with_reducible exact Nat.le_refl _) | omega | (simp only [World.size_alloc, World.size_setCell, World.size_drew, Wov_size, World.heap_drewN]; omega))), m1_0.below (by (repeat' (first | (with_reducible assumption) | (with_reducible exact Below.refl _ _) | (with_reducible refine below_wov ?_ ?_ _) | (with_reducible refine below_drewN ?_ _) | (with_reducible refine Below.drew ?_) | (with_reducible refine Below.alloc ?_ ?_ _) | (with_reducible refine Below.setCell ?_ ?_ _) | (with_reducible exact Nat.le_refl _) | omega | (simp only [World.size_alloc, World.size_setCell, World.size_drew, Wov_size, World.heap_drewN]; omega)))), t2⟩ ?_
  rintro W2 ⟨hb2, m2_0, m2_1⟩
  clear hb1 m1_0 hs1
  have hs2 := hb2.size
  clear t2
  refine (C1.out _ _ _ m2_0 m2_1).mono ?_; rintro e w' ⟨rfl, q1, rfl⟩
  go_wp2_with (fail)
  refine calls_world (fun W => Below w.heap.size w W) (by (repeat' (first | (with_reducible assumption) | (with_reducible exact Below.refl _ _) | (with_reducible refine below_wov ?_ ?_ _) | (with_reducible refine below_drewN ?_ _) | (with_reducible refine Below.drew ?_) | (with_reducible refine Below.alloc ?_ ?_ _) | (with_reducible refine Below.setCell ?_ ?_ _) | (with_reducible exact Nat.le_refl _) | omega | (simp only [World.size_alloc, World.size_setCell, World.size_drew, Wov_size, World.heap_drewN]; omega)))) ?_
  intro W3 hb3
  clear hb2 m2_0 m2_1 hs2
  have hs3 := hb3.size
  refine (two6_any _ _ _ _ _).mono ?_; rintro e w' ⟨B3, rfl, hA1, hB1, hH1, p3, rfl⟩
  have t3 : SlP (Wov W3 p3) (some ⟨B3, 0, none⟩) 4 (four 1 noneB 7 1) := slp_of hH1 hB1
  clear hA1 hB1 hH1
  go_wp2_with (fail)
  refine calls_world (fun W => Below w.heap.size w W ∧ SlP W (some ⟨B3, 0, none⟩) 4 (four 1 noneB 7 1)) ⟨by (repeat' (first | (with_reducible assumption) | (with_reducible exact Below.refl _ _) | (with_reducible refine below_wov ?_ ?_ _) | (with_reducible refine below_drewN ?_ _) | (with_reducible refine Below.drew ?_) | (with_reducible refine Below.alloc ?_ ?_ _) | (with_reducible refine Below.setCell ?_ ?_ _) | (with_reducible exact Nat.le_refl _) | omega | (simp only [World.size_alloc, World.size_setCell, World.size_drew, Wov_size, World.heap_drewN]; omega))), t3⟩ ?_
  rintro W4 ⟨hb4, m4_0⟩
  clear hb3 hs3
  have hs4 := hb4.size
  clear t3
  refine (two6_any _ _ _ _ _).mono ?_; rintro e w' ⟨B4, rfl, hA1, hB1, hH1, p4, rfl⟩
  have t4 : SlP (Wov W4 p4) (some ⟨B4, 0, none⟩) 4 (four 1 (-7) noneB 1) := slp_of hH1 hB1
  clear hA1 hB1 hH1
  go_wp2_with (fail)
  refine calls_world (fun W => Below w.heap.size w W ∧ SlP W (some ⟨B3, 0, none⟩) 4 (four 1 noneB 7 1) ∧ SlP W (some ⟨B4, 0, none⟩) 4 (four 1 (-7) noneB 1)) ⟨by (repeat' (first | (with_reducible assumption) | (with_reducible exact Below.refl _ _) | (with_reducible refine below_wov ?_ ?_ _) | (with_reducible refine below_drewN ?_ _) | (with_reducible refine Below.drew ?_) | (with_reducible refine Below.alloc ?_ ?_ _) | (with_reducible refine Below.setCell ?_ ?_ _) | (with_reducible exact Nat.le_refl _) | omega | (simp only [World.size_alloc, World.size_setCell, World.size_drew, Wov_size, World.heap_drewN]; omega))), m4_0.below (by (repeat' (first | (with_reducible assumption) | (with_reducible exact Below.refl _ _) | (with_reducible refine below_wov ?_ ?_ _) | (with_reducible refine below_drewN ?_ _) | (with_reducible refine Below.drew ?_) | (with_reducible refine Below.alloc ?_ ?_ _) | (with_reducible refine Below.setCell ?_ ?_ _) | (with_reducible exact Nat.le_refl _) | omega | (simp only [World.size_alloc, World.size_setCell, World.size_drew, Wov_size, World.heap_drewN]; omega)))), t4⟩ ?_
  rintro W5 ⟨hb5, m5_0, m5_1⟩
  clear hb4 m4_0 hs4
  have hs5 := hb5.size
  clear t4
  refine (C2.out _ _ _ m5_0 m5_1).mono ?_; rintro e w' ⟨rfl, q2, rfl⟩
  go_wp2_with (fail)
  refine calls_world (fun W => Below w.heap.size w W) (by (repeat' (first | (with_reducible assumption) | (with_reducible exact Below.refl _ _) | (with_reducible refine below_wov ?_ ?_ _) | (with_reducible refine below_drewN ?_ _) | (with_reducible refine Below.drew ?_) | (with_reducible refine Below.alloc ?_ ?_ _) | (with_reducible refine Below.setCell ?_ ?_ _) | (with_reducible exact Nat.le_refl _) | omega | (simp only [World.size_alloc, World.size_setCell, World.size_drew, Wov_size, World.heap_drewN]; omega)))) ?_
  intro W6 hb6
  clear hb5 m5_0 m5_1 hs5
  have hs6 := hb6.size
  refine (two6_any _ _ _ _ _).mono ?_; rintro e w' ⟨B5, rfl, hA1, hB1, hH1, p5, rfl⟩
  have t5 : SlP (Wov W6 p5) (some ⟨B5, 0, none⟩) 4 (four 1 (-4) 6 1) := slp_of hH1 hB1
  clear hA1 hB1 hH1
  go_wp2_with (fail)
  refine calls_world (fun W => Below w.heap.size w W ∧ SlP W (some ⟨B5, 0, none⟩) 4 (four 1 (-4) 6 1)) ⟨by (repeat' (first | (with_reducible assumption) | (with_reducible exact Below.refl _ _) | (with_reducible refine below_wov ?_ ?_ _) | (with_reducible refine below_drewN ?_ _) | (with_reducible refine Below.drew ?_) | (with_reducible refine Below.alloc ?_ ?_ _) | (with_reducible refine Below.setCell ?_ ?_ _) | (with_reducible exact Nat.le_refl _) | omega | (simp only [World.size_alloc, World.size_setCell, World.size_drew, Wov_size, World.heap_drewN]; omega))), t5⟩ ?_
  rintro W7 ⟨hb7, m7_0⟩
  clear hb6 hs6
  have hs7 := hb7.size
  clear t5
  refine (C3.out _ _ m7_0).mono ?_; rintro e w' ⟨⟨pp, cp, rfl, hl⟩, q3, rfl⟩
  go_wp2_with (fail)
  refine calls_world (fun W => Below w.heap.size w W ∧ SlR W pp 1 T1) ⟨by (repeat' (first | (with_reducible assumption) | (with_reducible exact Below.refl _ _) | (with_reducible refine below_wov ?_ ?_ _) | (with_reducible refine below_drewN ?_ _) | (with_reducible refine Below.drew ?_) | (with_reducible refine Below.alloc ?_ ?_ _) | (with_reducible refine Below.setCell ?_ ?_ _) | (with_reducible exact Nat.le_refl _) | omega | (simp only [World.size_alloc, World.size_setCell, World.size_drew, Wov_size, World.heap_drewN]; omega))), hl⟩ ?_
  rintro W8 ⟨hb8, m8_0⟩
  clear hb7 m7_0 hs7
  have hs8 := hb8.size
  clear hl
  refine (TP.out _).mono ?_; rintro e w' ⟨BT, ct, rfl, hA1, hB1, hH1, q4, rfl⟩
  have tT : SlP (Wov W8 q4) (some ⟨BT, 0, none⟩) 4 (topF 2) := slp_of hH1 hB1
  clear hA1 hB1 hH1
  go_wp2_with (fail)
  obtain ⟨A1, hA1⟩ : ∃ A, W8.heap.size + q4.bl.size = A := ⟨_, rfl⟩
  rw [hA1]
  refine calls_world (fun W => Below w.heap.size w W ∧ SlR W pp 1 T1 ∧ BoxM W A1 2 (some ⟨BT, 0, none⟩) 4 ct (topF 2)) ⟨by (repeat' (first | (with_reducible assumption) | (with_reducible exact Below.refl _ _) | (with_reducible refine below_wov ?_ ?_ _) | (with_reducible refine below_drewN ?_ _) | (with_reducible refine Below.drew ?_) | (with_reducible refine Below.alloc ?_ ?_ _) | (with_reducible refine Below.setCell ?_ ?_ _) | (with_reducible exact Nat.le_refl _) | omega | (simp only [World.size_alloc, World.size_setCell, World.size_drew, Wov_size, World.heap_drewN]; omega))), m8_0.below (by (repeat' (first | (with_reducible assumption) | (with_reducible exact Below.refl _ _) | (with_reducible refine below_wov ?_ ?_ _) | (with_reducible refine below_drewN ?_ _) | (with_reducible refine Below.drew ?_) | (with_reducible refine Below.alloc ?_ ?_ _) | (with_reducible refine Below.setCell ?_ ?_ _) | (with_reducible exact Nat.le_refl _) | omega | (simp only [World.size_alloc, World.size_setCell, World.size_drew, Wov_size, World.heap_drewN]; omega)))), BoxM.new (tT) (by rw [← hA1]; (try simp only [Wov_size]))⟩ ?_
  rintro W9 ⟨hb9, m9_0, m9_1⟩
  clear hb8 m8_0 hs8
  have hs9 := hb9.size
  have f9_1_lt := m9_1.lt
  have f9_1_c0 := m9_1.c0
  have f9_1_c1 := m9_1.c1
  clear tT hA1
  refine (C4.out _ _ _ m9_1.sl).mono ?_; rintro e w' ⟨⟨pq, cq, rfl, hl⟩, q5, rfl⟩
  go_wp2_with (fail)
  refine calls_world (fun W => Below w.heap.size w W ∧ SlR W pp 1 T1 ∧ BoxM W A1 2 (some ⟨BT, 0, none⟩) 4 ct (topF 2) ∧ SlR W pq 1 T2) ⟨by (repeat' (first | (with_reducible assumption) | (with_reducible exact Below.refl _ _) | (with_reducible refine below_wov ?_ ?_ _) | (with_reducible refine below_drewN ?_ _) | (with_reducible refine Below.drew ?_) | (with_reducible refine Below.alloc ?_ ?_ _) | (with_reducible refine Below.setCell ?_ ?_ _) | (with_reducible exact Nat.le_refl _) | omega | (simp only [World.size_alloc, World.size_setCell, World.size_drew, Wov_size, World.heap_drewN]; omega))), m9_0.below (by (repeat' (first | (with_reducible assumption) | (with_reducible exact Below.refl _ _) | (with_reducible refine below_wov ?_ ?_ _) | (with_reducible refine below_drewN ?_ _) | (with_reducible refine Below.drew ?_) | (with_reducible refine Below.alloc ?_ ?_ _) | (with_reducible refine Below.setCell ?_ ?_ _) | (with_reducible exact Nat.le_refl _) | omega | (simp only [World.size_alloc, World.size_setCell, World.size_drew, Wov_size, World.heap_drewN]; omega)))), m9_1.below (by (repeat' (first | (with_reducible assumption) | (with_reducible exact Below.refl _ _) | (with_reducible refine below_wov ?_ ?_ _) | (with_reducible refine below_drewN ?_ _) | (with_reducible refine Below.drew ?_) | (with_reducible refine Below.alloc ?_ ?_ _) | (with_reducible refine Below.setCell ?_ ?_ _) | (with_reducible exact Nat.le_refl _) | omega | (simp only [World.size_alloc, World.size_setCell, World.size_drew, Wov_size, World.heap_drewN]; omega)))), hl⟩ ?_
  rintro W10 ⟨hb10, m10_0, m10_1, m10_2⟩
  clear hb9 f9_1_lt f9_1_c0 f9_1_c1 m9_0 m9_1 hs9
  have hs10 := hb10.size
  have f10_1_lt := m10_1.lt
  have f10_1_c0 := m10_1.c0
  have f10_1_c1 := m10_1.c1
  clear hl
  refine (two6_any _ _ _ _ _).mono ?_; rintro e w' ⟨B6, rfl, hA1, hB1, hH1, p6, rfl⟩
  have t6 : SlP (Wov W10 p6) (some ⟨B6, 0, none⟩) 4 (four 1 (-5) 3 1) := slp_of hH1 hB1
  clear hA1 hB1 hH1
  go_wp2_with (fail)
  refine calls_world (fun W => Below w.heap.size w W ∧ SlR W pp 1 T1 ∧ BoxM W A1 2 (some ⟨BT, 0, none⟩) 4 ct (topF 2) ∧ SlR W pq 1 T2 ∧ SlP W (some ⟨B6, 0, none⟩) 4 (four 1 (-5) 3 1)) ⟨by (repeat' (first | (with_reducible assumption) | (with_reducible exact Below.refl _ _) | (with_reducible refine below_wov ?_ ?_ _) | (with_reducible refine below_drewN ?_ _) | (with_reducible refine Below.drew ?_) | (with_reducible refine Below.alloc ?_ ?_ _) | (with_reducible refine Below.setCell ?_ ?_ _) | (with_reducible exact Nat.le_refl _) | omega | (simp only [World.size_alloc, World.size_setCell, World.size_drew, Wov_size, World.heap_drewN]; omega))), m10_0.below (by (repeat' (first | (with_reducible assumption) | (with_reducible exact Below.refl _ _) | (with_reducible refine below_wov ?_ ?_ _) | (with_reducible refine below_drewN ?_ _) | (with_reducible refine Below.drew ?_) | (with_reducible refine Below.alloc ?_ ?_ _) | (with_reducible refine Below.setCell ?_ ?_ _) | (with_reducible exact Nat.le_refl _) | omega | (simp only [World.size_alloc, World.size_setCell, World.size_drew, Wov_size, World.heap_drewN]; omega)))), m10_1.below (by (repeat' (first | (with_reducible assumption) | (with_reducible exact Below.refl _ _) | (with_reducible refine below_wov ?_ ?_ _) | (with_reducible refine below_drewN ?_ _) | (with_reducible refine Below.drew ?_) | (with_reducible refine Below.alloc ?_ ?_ _) | (with_reducible refine Below.setCell ?_ ?_ _) | (with_reducible exact Nat.le_refl _) | omega | (simp only [World.size_alloc, World.size_setCell, World.size_drew, Wov_size, World.heap_drewN]; omega)))), m10_2.below (by (repeat' (first | (with_reducible assumption) | (with_reducible exact Below.refl _ _) | (with_reducible refine below_wov ?_ ?_ _) | (with_reducible refine below_drewN ?_ _) | (with_reducible refine Below.drew ?_) | (with_reducible refine Below.alloc ?_ ?_ _) | (with_reducible refine Below.setCell ?_ ?_ _) | (with_reducible exact Nat.le_refl _) | omega | (simp only [World.size_alloc, World.size_setCell, World.size_drew, Wov_size, World.heap_drewN]; omega)))), t6⟩ ?_
  rintro W11 ⟨hb11, m11_0, m11_1, m11_2, m11_3⟩
  clear hb10 f10_1_lt f10_1_c0 f10_1_c1 m10_0 m10_1 m10_2 hs10
  have hs11 := hb11.size
  have f11_1_lt := m11_1.lt
  have f11_1_c0 := m11_1.c0
  have f11_1_c1 := m11_1.c1
  clear t6
  refine (C5.out _ _ m11_3).mono ?_; rintro e w' ⟨⟨pr, cr, rfl, hl⟩, q6, rfl⟩
  clear hl
  go_wp2_with (fail)
  obtain ⟨A2, hA2⟩ : ∃ A, W11.heap.size + q6.bl.size = A := ⟨_, rfl⟩
  rw [hA2]
  refine calls_world (fun W => Below w.heap.size w W ∧ SlR W pp 1 T1 ∧ BoxM W A1 2 (some ⟨BT, 0, none⟩) 4 ct (topF 2) ∧ SlR W pq 1 T2 ∧ SlP W (some ⟨A2, 0, none⟩) 1 (fun _ => 1)) ⟨by (repeat' (first | (with_reducible assumption) | (with_reducible exact Below.refl _ _) | (with_reducible refine below_wov ?_ ?_ _) | (with_reducible refine below_drewN ?_ _) | (with_reducible refine Below.drew ?_) | (with_reducible refine Below.alloc ?_ ?_ _) | (with_reducible refine Below.setCell ?_ ?_ _) | (with_reducible exact Nat.le_refl _) | omega | (simp only [World.size_alloc, World.size_setCell, World.size_drew, Wov_size, World.heap_drewN]; omega))), m11_0.below (by (repeat' (first | (with_reducible assumption) | (with_reducible exact Below.refl _ _) | (with_reducible refine below_wov ?_ ?_ _) | (with_reducible refine below_drewN ?_ _) | (with_reducible refine Below.drew ?_) | (with_reducible refine Below.alloc ?_ ?_ _) | (with_reducible refine Below.setCell ?_ ?_ _) | (with_reducible exact Nat.le_refl _) | omega | (simp only [World.size_alloc, World.size_setCell, World.size_drew, Wov_size, World.heap_drewN]; omega)))), m11_1.below (by (repeat' (first | (with_reducible assumption) | (with_reducible exact Below.refl _ _) | (with_reducible refine below_wov ?_ ?_ _) | (with_reducible refine below_drewN ?_ _) | (with_reducible refine Below.drew ?_) | (with_reducible refine Below.alloc ?_ ?_ _) | (with_reducible refine Below.setCell ?_ ?_ _) | (with_reducible exact Nat.le_refl _) | omega | (simp only [World.size_alloc, World.size_setCell, World.size_drew, Wov_size, World.heap_drewN]; omega)))), m11_2.below (by (repeat' (first | (with_reducible assumption) | (with_reducible exact Below.refl _ _) | (with_reducible refine below_wov ?_ ?_ _) | (with_reducible refine below_drewN ?_ _) | (with_reducible refine Below.drew ?_) | (with_reducible refine Below.alloc ?_ ?_ _) | (with_reducible refine Below.setCell ?_ ?_ _) | (with_reducible exact Nat.le_refl _) | omega | (simp only [World.size_alloc, World.size_setCell, World.size_drew, Wov_size, World.heap_drewN]; omega)))), (by have := slp_one (Wov W11 q6) 25 1; simp only [Wov_size] at this; rw [hA2] at this; exact this)⟩ ?_
  rintro W12 ⟨hb12, m12_0, m12_1, m12_2, m12_3⟩
  clear hb11 f11_1_lt f11_1_c0 f11_1_c1 m11_0 m11_1 m11_2 m11_3 hs11
  have hs12 := hb12.size
  have f12_1_lt := m12_1.lt
  have f12_1_c0 := m12_1.c0
  have f12_1_c1 := m12_1.c1
  clear hA2
  refine (C6.out _ _ _ _ m12_1.sl m12_3).mono ?_; rintro e w' ⟨rfl, q7, rfl⟩
  obtain ⟨D1, off1, rfl, hD1, hc1⟩ := m12_0.resolve_left (by omega)
  obtain ⟨k1, l1⟩ := hc1 0 (by omega)
  rw [VT1.out] at k1 l1
  simp only [Nat.zero_mul, Nat.add_zero, Nat.zero_add] at k1 l1
  obtain ⟨D2, off2, rfl, hD2, hc2⟩ := m12_2.resolve_left (by omega)
  obtain ⟨k2, l2⟩ := hc2 0 (by omega)
  rw [VT2.out] at k2 l2
  simp only [Nat.zero_mul, Nat.add_zero, Nat.zero_add] at k2 l2
  clear hc1 hc2 VT1 VT2 C1 C2 C3 C4 C5 C6 TP
  go_wp2_with (fail)
  refine (HA.out _).mono ?_; rintro e w' ⟨rfl, q8, rfl⟩
  go_wp2
  all_goals
    go_ret
    exact gives_bool (by simp) (by (repeat' (first | (with_reducible assumption) | (with_reducible exact Below.refl _ _) | (with_reducible refine below_wov ?_ ?_ _) | (with_reducible refine below_drewN ?_ _) | (with_reducible refine Below.drew ?_) | (with_reducible refine Below.alloc ?_ ?_ _) | (with_reducible refine Below.setCell ?_ ?_ _) | (with_reducible exact Nat.le_refl _) | omega | (simp only [World.size_alloc, World.size_setCell, World.size_drew, Wov_size, World.heap_drewN]; omega))))
#print axioms walk
end Go.Proofs.Ytggjkibhffglbaa.inclNames
