/- The law CompTells (walk): two zones composed, one the other way round, and its firsts, or the errors, are the document's. No condition. -/
import Derived.Test.YtbgbhfcnadjhdaaL12
import Derived.Test.YtbgbhfcnadjhdaaL13
import Derived.Test.YtbgbhfcnadjhdaaH11
import Derived.Test.YtbgbhfcnadjhdaaFrame2
namespace Go.Proofs.Ytbgbhfcnadjhdaa.compTells
open Go.ChangeShapes Go.WideShapes Go.ChangeAt Go.RowKit
set_option linter.unusedVariables false
set_option linter.unusedSimpArgs false
attribute [local go_sem] Nat.add_assoc Nat.add_lt_add_iff_left lit_lt_add

set_option maxRecDepth 100000 in
set_option maxHeartbeats 16000000 in
theorem walk0 (a : Nat → Int) (wa : FitsZ a) (b : Nat → Int) (wb : FitsZ b) (w : World) :
    Calls Try.prog 4 #[zoneV a, zoneV b] w (Gives w (.bool true)) := by
  obtain ⟨⟨r1, e1⟩, h1⟩ : ∃ r, r = compZ a b := ⟨_, rfl⟩
  have C1 : Hid (∀ w, Calls Try.prog 18 #[.agg #[.int .i64 (a 0), .int .i64 (a 1), .int .i64 (a 2), .int .i64 (a 3), .int .i64 (a 4), .int .i64 (a 5)], .agg #[.int .i64 (b 0), .int .i64 (b 1), .int .i64 (b 2), .int .i64 (b 3), .int .i64 (b 4), .int .i64 (b 5)]] w (Gives w (.tuple #[.agg #[.int .i64 (r1 0), .int .i64 (r1 1), .int .i64 (r1 2), .int .i64 (r1 3), .int .i64 (r1 4), .int .i64 (r1 5)], .int .i64 e1]))) := fun w => by
    have := ccomp_any a b w wa wb
    rw [← h1] at this; exact this
  have C2 : Hid (∀ w, Calls Try.prog 19 #[.agg #[.int .i64 (a 0), .int .i64 (a 1), .int .i64 (a 2), .int .i64 (a 3), .int .i64 (a 4), .int .i64 (a 5)], .agg #[.int .i64 (b 0), .int .i64 (b 1), .int .i64 (b 2), .int .i64 (b 3), .int .i64 (b 4), .int .i64 (b 5)]] w (Gives w (.tuple #[.agg #[.int .i64 (r1 0), .int .i64 (r1 1), .int .i64 (r1 2), .int .i64 (r1 3), .int .i64 (r1 4), .int .i64 (r1 5)], .int .i64 e1]))) := fun w => by
    have := rcomp_any a b w wa wb
    rw [← h1] at this; exact this
  obtain ⟨⟨r3, e3⟩, h3⟩ : ∃ r, r = backR a := ⟨_, rfl⟩
  have C3 : Hid (∀ w, Calls Try.prog 20 #[.agg #[.int .i64 (a 0), .int .i64 (a 1), .int .i64 (a 2), .int .i64 (a 3), .int .i64 (a 4), .int .i64 (a 5)]] w (Gives w (.tuple #[.agg #[.int .i64 (r3 0), .int .i64 (r3 1), .int .i64 (r3 2), .int .i64 (r3 3), .int .i64 (r3 4), .int .i64 (r3 5)], .int .i64 e3]))) := fun w => by
    have := cback_any a w wa
    rw [← h3] at this; exact this
  have C4 : Hid (∀ w, Calls Try.prog 21 #[.agg #[.int .i64 (a 0), .int .i64 (a 1), .int .i64 (a 2), .int .i64 (a 3), .int .i64 (a 4), .int .i64 (a 5)]] w (Gives w (.tuple #[.agg #[.int .i64 (r3 0), .int .i64 (r3 1), .int .i64 (r3 2), .int .i64 (r3 3), .int .i64 (r3 4), .int .i64 (r3 5)], .int .i64 e3]))) := fun w => by
    have := rback_any a w wa
    rw [← h3] at this; exact this
  obtain ⟨⟨s5, e5⟩, h5⟩ : ∃ r, r = firstsZ a := ⟨_, rfl⟩
  have C5 : Hid (∀ w, Calls Try.prog 22 #[.agg #[.int .i64 (a 0), .int .i64 (a 1), .int .i64 (a 2), .int .i64 (a 3), .int .i64 (a 4), .int .i64 (a 5)]] w (Gives w (.tuple #[.agg #[.int .i64 s5.lo, .bool s5.ls, .int .i64 s5.hi, .bool s5.hs, .bool s5.op], .int .i64 e5]))) := fun w => by
    have := cfirsts_any a w wa
    rw [← h5] at this; exact this
  have C6 : Hid (∀ w, Calls Try.prog 23 #[.agg #[.int .i64 (a 0), .int .i64 (a 1), .int .i64 (a 2), .int .i64 (a 3), .int .i64 (a 4), .int .i64 (a 5)]] w (Gives w (.tuple #[.agg #[.int .i64 s5.lo, .bool s5.ls, .int .i64 s5.hi, .bool s5.hs, .bool s5.op], .int .i64 e5]))) := fun w => by
    have := rfirsts_any a w wa
    rw [← h5] at this; exact this
  have E1 : eq6 (r1 0) (r1 1) (r1 2) (r1 3) (r1 4) (r1 5) (r1 0) (r1 1) (r1 2) (r1 3) (r1 4) (r1 5) = true := (eq6_iff r1 r1).2 (fun _ _ => rfl)
  have E3 : eq6 (r3 0) (r3 1) (r3 2) (r3 3) (r3 4) (r3 5) (r3 0) (r3 1) (r3 2) (r3 3) (r3 4) (r3 5) = true := (eq6_iff r3 r3).2 (fun _ _ => rfl)
  have E5 : eqS s5.lo s5.ls s5.hi s5.hs s5.op s5.lo s5.ls s5.hi s5.hs s5.op = true := eqS_refl _ _ _ _ _
  clear h1 h3 h5 wa wb
  unfold zoneV
  go_enter Try.func4, Try.ntmps4
  go_wp2_with (fail)
  refine calls_world (fun W => Below w.heap.size w W ∧ BoxZ W w.heap.size a ∧ BoxZ W (w.heap.size + 1) b) ⟨by (repeat' (first | (with_reducible assumption) | (with_reducible exact Below.refl _ _) | (with_reducible refine below_wov ?_ ?_ _) | (with_reducible refine below_drewN ?_ _) | (with_reducible refine Below.drew ?_) | (with_reducible refine Below.alloc ?_ ?_ _) | (with_reducible refine Below.setCell ?_ ?_ _) | (with_reducible exact Nat.le_refl _) | omega | (simp only [World.size_alloc, World.size_setCell, World.size_drew, Wov_size, World.heap_drewN]; omega))), (BoxZ.new (W := w) (t := 24) (by simp)).below (by (repeat' (first | (with_reducible assumption) | (with_reducible exact Below.refl _ _) | (with_reducible refine below_wov ?_ ?_ _) | (with_reducible refine below_drewN ?_ _) | (with_reducible refine Below.drew ?_) | (with_reducible refine Below.alloc ?_ ?_ _) | (with_reducible refine Below.setCell ?_ ?_ _) | (with_reducible exact Nat.le_refl _) | omega | (simp only [World.size_alloc, World.size_setCell, World.size_drew, Wov_size, World.heap_drewN]; omega)))), (BoxZ.new (W := (World.alloc w (.cells #[.int .i64 (a 0), .int .i64 (a 1), .int .i64 (a 2), .int .i64 (a 3), .int .i64 (a 4), .int .i64 (a 5)] 24))) (t := 24) (by simp)).below (by (repeat' (first | (with_reducible assumption) | (with_reducible exact Below.refl _ _) | (with_reducible refine below_wov ?_ ?_ _) | (with_reducible refine below_drewN ?_ _) | (with_reducible refine Below.drew ?_) | (with_reducible refine Below.alloc ?_ ?_ _) | (with_reducible refine Below.setCell ?_ ?_ _) | (with_reducible exact Nat.le_refl _) | omega | (simp only [World.size_alloc, World.size_setCell, World.size_drew, Wov_size, World.heap_drewN]; omega))))⟩ ?_
  rintro W1 ⟨hb1, m1_0, m1_1⟩
  have hs1 := hb1.size
  have f1_0_lt := m1_0.lt
  have f1_0_c0 := m1_0.c0
  have f1_0_c1 := m1_0.c1
  have f1_0_c2 := m1_0.c2
  have f1_0_c3 := m1_0.c3
  have f1_0_c4 := m1_0.c4
  have f1_0_c5 := m1_0.c5
  have f1_1_lt := m1_1.lt
  have f1_1_c0 := m1_1.c0
  have f1_1_c1 := m1_1.c1
  have f1_1_c2 := m1_1.c2
  have f1_1_c3 := m1_1.c3
  have f1_1_c4 := m1_1.c4
  have f1_1_c5 := m1_1.c5
  refine (C1.out _).mono ?_; rintro e w' ⟨rfl, q1, rfl⟩
  go_wp2_with (fail)
  obtain ⟨A1, hA1⟩ : ∃ A, W1.heap.size + q1.bl.size = A := ⟨_, rfl⟩
  rw [hA1]
  refine calls_world (fun W => Below w.heap.size w W ∧ BoxZ W w.heap.size a ∧ BoxZ W (w.heap.size + 1) b ∧ BoxZ W A1 r1) ⟨by (repeat' (first | (with_reducible assumption) | (with_reducible exact Below.refl _ _) | (with_reducible refine below_wov ?_ ?_ _) | (with_reducible refine below_drewN ?_ _) | (with_reducible refine Below.drew ?_) | (with_reducible refine Below.alloc ?_ ?_ _) | (with_reducible refine Below.setCell ?_ ?_ _) | (with_reducible exact Nat.le_refl _) | omega | (simp only [World.size_alloc, World.size_setCell, World.size_drew, Wov_size, World.heap_drewN]; omega))), m1_0.below (by (repeat' (first | (with_reducible assumption) | (with_reducible exact Below.refl _ _) | (with_reducible refine below_wov ?_ ?_ _) | (with_reducible refine below_drewN ?_ _) | (with_reducible refine Below.drew ?_) | (with_reducible refine Below.alloc ?_ ?_ _) | (with_reducible refine Below.setCell ?_ ?_ _) | (with_reducible exact Nat.le_refl _) | omega | (simp only [World.size_alloc, World.size_setCell, World.size_drew, Wov_size, World.heap_drewN]; omega)))), m1_1.below (by (repeat' (first | (with_reducible assumption) | (with_reducible exact Below.refl _ _) | (with_reducible refine below_wov ?_ ?_ _) | (with_reducible refine below_drewN ?_ _) | (with_reducible refine Below.drew ?_) | (with_reducible refine Below.alloc ?_ ?_ _) | (with_reducible refine Below.setCell ?_ ?_ _) | (with_reducible exact Nat.le_refl _) | omega | (simp only [World.size_alloc, World.size_setCell, World.size_drew, Wov_size, World.heap_drewN]; omega)))), BoxZ.new (by rw [← hA1]; (try simp only [Wov_size]))⟩ ?_
  rintro W2 ⟨hb2, m2_0, m2_1, m2_2⟩
  clear hb1 f1_0_lt f1_0_c0 f1_0_c1 f1_0_c2 f1_0_c3 f1_0_c4 f1_0_c5 f1_1_lt f1_1_c0 f1_1_c1 f1_1_c2 f1_1_c3 f1_1_c4 f1_1_c5 m1_0 m1_1 hs1
  have hs2 := hb2.size
  have f2_0_lt := m2_0.lt
  have f2_0_c0 := m2_0.c0
  have f2_0_c1 := m2_0.c1
  have f2_0_c2 := m2_0.c2
  have f2_0_c3 := m2_0.c3
  have f2_0_c4 := m2_0.c4
  have f2_0_c5 := m2_0.c5
  have f2_1_lt := m2_1.lt
  have f2_1_c0 := m2_1.c0
  have f2_1_c1 := m2_1.c1
  have f2_1_c2 := m2_1.c2
  have f2_1_c3 := m2_1.c3
  have f2_1_c4 := m2_1.c4
  have f2_1_c5 := m2_1.c5
  have f2_2_lt := m2_2.lt
  have f2_2_c0 := m2_2.c0
  have f2_2_c1 := m2_2.c1
  have f2_2_c2 := m2_2.c2
  have f2_2_c3 := m2_2.c3
  have f2_2_c4 := m2_2.c4
  have f2_2_c5 := m2_2.c5
  clear hA1 C1
  refine (C2.out _).mono ?_; rintro e w' ⟨rfl, q2, rfl⟩
  go_wp2_with (fail)
  obtain ⟨A2, hA2⟩ : ∃ A, W2.heap.size + q2.bl.size = A := ⟨_, rfl⟩
  rw [hA2]
  refine calls_world (fun W => Below w.heap.size w W ∧ BoxZ W w.heap.size a ∧ BoxZ W (w.heap.size + 1) b ∧ BoxZ W A1 r1 ∧ BoxZ W A2 r1) ⟨by (repeat' (first | (with_reducible assumption) | (with_reducible exact Below.refl _ _) | (with_reducible refine below_wov ?_ ?_ _) | (with_reducible refine below_drewN ?_ _) | (with_reducible refine Below.drew ?_) | (with_reducible refine Below.alloc ?_ ?_ _) | (with_reducible refine Below.setCell ?_ ?_ _) | (with_reducible exact Nat.le_refl _) | omega | (simp only [World.size_alloc, World.size_setCell, World.size_drew, Wov_size, World.heap_drewN]; omega))), m2_0.below (by (repeat' (first | (with_reducible assumption) | (with_reducible exact Below.refl _ _) | (with_reducible refine below_wov ?_ ?_ _) | (with_reducible refine below_drewN ?_ _) | (with_reducible refine Below.drew ?_) | (with_reducible refine Below.alloc ?_ ?_ _) | (with_reducible refine Below.setCell ?_ ?_ _) | (with_reducible exact Nat.le_refl _) | omega | (simp only [World.size_alloc, World.size_setCell, World.size_drew, Wov_size, World.heap_drewN]; omega)))), m2_1.below (by (repeat' (first | (with_reducible assumption) | (with_reducible exact Below.refl _ _) | (with_reducible refine below_wov ?_ ?_ _) | (with_reducible refine below_drewN ?_ _) | (with_reducible refine Below.drew ?_) | (with_reducible refine Below.alloc ?_ ?_ _) | (with_reducible refine Below.setCell ?_ ?_ _) | (with_reducible exact Nat.le_refl _) | omega | (simp only [World.size_alloc, World.size_setCell, World.size_drew, Wov_size, World.heap_drewN]; omega)))), m2_2.below (by (repeat' (first | (with_reducible assumption) | (with_reducible exact Below.refl _ _) | (with_reducible refine below_wov ?_ ?_ _) | (with_reducible refine below_drewN ?_ _) | (with_reducible refine Below.drew ?_) | (with_reducible refine Below.alloc ?_ ?_ _) | (with_reducible refine Below.setCell ?_ ?_ _) | (with_reducible exact Nat.le_refl _) | omega | (simp only [World.size_alloc, World.size_setCell, World.size_drew, Wov_size, World.heap_drewN]; omega)))), BoxZ.new (by rw [← hA2]; (try simp only [Wov_size]))⟩ ?_
  rintro W3 ⟨hb3, m3_0, m3_1, m3_2, m3_3⟩
  clear hb2 f2_0_lt f2_0_c0 f2_0_c1 f2_0_c2 f2_0_c3 f2_0_c4 f2_0_c5 f2_1_lt f2_1_c0 f2_1_c1 f2_1_c2 f2_1_c3 f2_1_c4 f2_1_c5 f2_2_lt f2_2_c0 f2_2_c1 f2_2_c2 f2_2_c3 f2_2_c4 f2_2_c5 m2_0 m2_1 m2_2 hs2
  have hs3 := hb3.size
  have f3_0_lt := m3_0.lt
  have f3_0_c0 := m3_0.c0
  have f3_0_c1 := m3_0.c1
  have f3_0_c2 := m3_0.c2
  have f3_0_c3 := m3_0.c3
  have f3_0_c4 := m3_0.c4
  have f3_0_c5 := m3_0.c5
  have f3_1_lt := m3_1.lt
  have f3_1_c0 := m3_1.c0
  have f3_1_c1 := m3_1.c1
  have f3_1_c2 := m3_1.c2
  have f3_1_c3 := m3_1.c3
  have f3_1_c4 := m3_1.c4
  have f3_1_c5 := m3_1.c5
  have f3_2_lt := m3_2.lt
  have f3_2_c0 := m3_2.c0
  have f3_2_c1 := m3_2.c1
  have f3_2_c2 := m3_2.c2
  have f3_2_c3 := m3_2.c3
  have f3_2_c4 := m3_2.c4
  have f3_2_c5 := m3_2.c5
  have f3_3_lt := m3_3.lt
  have f3_3_c0 := m3_3.c0
  have f3_3_c1 := m3_3.c1
  have f3_3_c2 := m3_3.c2
  have f3_3_c3 := m3_3.c3
  have f3_3_c4 := m3_3.c4
  have f3_3_c5 := m3_3.c5
  clear hA2 C2
  refine (C3.out _).mono ?_; rintro e w' ⟨rfl, q3, rfl⟩
  go_wp2_with (fail)
  obtain ⟨A3, hA3⟩ : ∃ A, W3.heap.size + q3.bl.size = A := ⟨_, rfl⟩
  rw [hA3]
  refine calls_world (fun W => Below w.heap.size w W ∧ BoxZ W w.heap.size a ∧ BoxZ W (w.heap.size + 1) b ∧ BoxZ W A1 r1 ∧ BoxZ W A2 r1 ∧ BoxZ W A3 r3) ⟨by (repeat' (first | (with_reducible assumption) | (with_reducible exact Below.refl _ _) | (with_reducible refine below_wov ?_ ?_ _) | (with_reducible refine below_drewN ?_ _) | (with_reducible refine Below.drew ?_) | (with_reducible refine Below.alloc ?_ ?_ _) | (with_reducible refine Below.setCell ?_ ?_ _) | (with_reducible exact Nat.le_refl _) | omega | (simp only [World.size_alloc, World.size_setCell, World.size_drew, Wov_size, World.heap_drewN]; omega))), m3_0.below (by (repeat' (first | (with_reducible assumption) | (with_reducible exact Below.refl _ _) | (with_reducible refine below_wov ?_ ?_ _) | (with_reducible refine below_drewN ?_ _) | (with_reducible refine Below.drew ?_) | (with_reducible refine Below.alloc ?_ ?_ _) | (with_reducible refine Below.setCell ?_ ?_ _) | (with_reducible exact Nat.le_refl _) | omega | (simp only [World.size_alloc, World.size_setCell, World.size_drew, Wov_size, World.heap_drewN]; omega)))), m3_1.below (by (repeat' (first | (with_reducible assumption) | (with_reducible exact Below.refl _ _) | (with_reducible refine below_wov ?_ ?_ _) | (with_reducible refine below_drewN ?_ _) | (with_reducible refine Below.drew ?_) | (with_reducible refine Below.alloc ?_ ?_ _) | (with_reducible refine Below.setCell ?_ ?_ _) | (with_reducible exact Nat.le_refl _) | omega | (simp only [World.size_alloc, World.size_setCell, World.size_drew, Wov_size, World.heap_drewN]; omega)))), m3_2.below (by (repeat' (first | (with_reducible assumption) | (with_reducible exact Below.refl _ _) | (with_reducible refine below_wov ?_ ?_ _) | (with_reducible refine below_drewN ?_ _) | (with_reducible refine Below.drew ?_) | (with_reducible refine Below.alloc ?_ ?_ _) | (with_reducible refine Below.setCell ?_ ?_ _) | (with_reducible exact Nat.le_refl _) | omega | (simp only [World.size_alloc, World.size_setCell, World.size_drew, Wov_size, World.heap_drewN]; omega)))), m3_3.below (by (repeat' (first | (with_reducible assumption) | (with_reducible exact Below.refl _ _) | (with_reducible refine below_wov ?_ ?_ _) | (with_reducible refine below_drewN ?_ _) | (with_reducible refine Below.drew ?_) | (with_reducible refine Below.alloc ?_ ?_ _) | (with_reducible refine Below.setCell ?_ ?_ _) | (with_reducible exact Nat.le_refl _) | omega | (simp only [World.size_alloc, World.size_setCell, World.size_drew, Wov_size, World.heap_drewN]; omega)))), BoxZ.new (by rw [← hA3]; (try simp only [Wov_size]))⟩ ?_
  rintro W4 ⟨hb4, m4_0, m4_1, m4_2, m4_3, m4_4⟩
  clear hb3 f3_0_lt f3_0_c0 f3_0_c1 f3_0_c2 f3_0_c3 f3_0_c4 f3_0_c5 f3_1_lt f3_1_c0 f3_1_c1 f3_1_c2 f3_1_c3 f3_1_c4 f3_1_c5 f3_2_lt f3_2_c0 f3_2_c1 f3_2_c2 f3_2_c3 f3_2_c4 f3_2_c5 f3_3_lt f3_3_c0 f3_3_c1 f3_3_c2 f3_3_c3 f3_3_c4 f3_3_c5 m3_0 m3_1 m3_2 m3_3 hs3
  have hs4 := hb4.size
  have f4_0_lt := m4_0.lt
  have f4_0_c0 := m4_0.c0
  have f4_0_c1 := m4_0.c1
  have f4_0_c2 := m4_0.c2
  have f4_0_c3 := m4_0.c3
  have f4_0_c4 := m4_0.c4
  have f4_0_c5 := m4_0.c5
  have f4_1_lt := m4_1.lt
  have f4_1_c0 := m4_1.c0
  have f4_1_c1 := m4_1.c1
  have f4_1_c2 := m4_1.c2
  have f4_1_c3 := m4_1.c3
  have f4_1_c4 := m4_1.c4
  have f4_1_c5 := m4_1.c5
  have f4_2_lt := m4_2.lt
  have f4_2_c0 := m4_2.c0
  have f4_2_c1 := m4_2.c1
  have f4_2_c2 := m4_2.c2
  have f4_2_c3 := m4_2.c3
  have f4_2_c4 := m4_2.c4
  have f4_2_c5 := m4_2.c5
  have f4_3_lt := m4_3.lt
  have f4_3_c0 := m4_3.c0
  have f4_3_c1 := m4_3.c1
  have f4_3_c2 := m4_3.c2
  have f4_3_c3 := m4_3.c3
  have f4_3_c4 := m4_3.c4
  have f4_3_c5 := m4_3.c5
  have f4_4_lt := m4_4.lt
  have f4_4_c0 := m4_4.c0
  have f4_4_c1 := m4_4.c1
  have f4_4_c2 := m4_4.c2
  have f4_4_c3 := m4_4.c3
  have f4_4_c4 := m4_4.c4
  have f4_4_c5 := m4_4.c5
  clear hA3 C3
  refine (C4.out _).mono ?_; rintro e w' ⟨rfl, q4, rfl⟩
  go_wp2_with (fail)
  obtain ⟨A4, hA4⟩ : ∃ A, W4.heap.size + q4.bl.size = A := ⟨_, rfl⟩
  rw [hA4]
  refine calls_world (fun W => Below w.heap.size w W ∧ BoxZ W w.heap.size a ∧ BoxZ W (w.heap.size + 1) b ∧ BoxZ W A1 r1 ∧ BoxZ W A2 r1 ∧ BoxZ W A3 r3 ∧ BoxZ W A4 r3) ⟨by (repeat' (first | (with_reducible assumption) | (with_reducible exact Below.refl _ _) | (with_reducible refine below_wov ?_ ?_ _) | (with_reducible refine below_drewN ?_ _) | (with_reducible refine Below.drew ?_) | (with_reducible refine Below.alloc ?_ ?_ _) | (with_reducible refine Below.setCell ?_ ?_ _) | (with_reducible exact Nat.le_refl _) | omega | (simp only [World.size_alloc, World.size_setCell, World.size_drew, Wov_size, World.heap_drewN]; omega))), m4_0.below (by (repeat' (first | (with_reducible assumption) | (with_reducible exact Below.refl _ _) | (with_reducible refine below_wov ?_ ?_ _) | (with_reducible refine below_drewN ?_ _) | (with_reducible refine Below.drew ?_) | (with_reducible refine Below.alloc ?_ ?_ _) | (with_reducible refine Below.setCell ?_ ?_ _) | (with_reducible exact Nat.le_refl _) | omega | (simp only [World.size_alloc, World.size_setCell, World.size_drew, Wov_size, World.heap_drewN]; omega)))), m4_1.below (by (repeat' (first | (with_reducible assumption) | (with_reducible exact Below.refl _ _) | (with_reducible refine below_wov ?_ ?_ _) | (with_reducible refine below_drewN ?_ _) | (with_reducible refine Below.drew ?_) | (with_reducible refine Below.alloc ?_ ?_ _) | (with_reducible refine Below.setCell ?_ ?_ _) | (with_reducible exact Nat.le_refl _) | omega | (simp only [World.size_alloc, World.size_setCell, World.size_drew, Wov_size, World.heap_drewN]; omega)))), m4_2.below (by (repeat' (first | (with_reducible assumption) | (with_reducible exact Below.refl _ _) | (with_reducible refine below_wov ?_ ?_ _) | (with_reducible refine below_drewN ?_ _) | (with_reducible refine Below.drew ?_) | (with_reducible refine Below.alloc ?_ ?_ _) | (with_reducible refine Below.setCell ?_ ?_ _) | (with_reducible exact Nat.le_refl _) | omega | (simp only [World.size_alloc, World.size_setCell, World.size_drew, Wov_size, World.heap_drewN]; omega)))), m4_3.below (by (repeat' (first | (with_reducible assumption) | (with_reducible exact Below.refl _ _) | (with_reducible refine below_wov ?_ ?_ _) | (with_reducible refine below_drewN ?_ _) | (with_reducible refine Below.drew ?_) | (with_reducible refine Below.alloc ?_ ?_ _) | (with_reducible refine Below.setCell ?_ ?_ _) | (with_reducible exact Nat.le_refl _) | omega | (simp only [World.size_alloc, World.size_setCell, World.size_drew, Wov_size, World.heap_drewN]; omega)))), m4_4.below (by (repeat' (first | (with_reducible assumption) | (with_reducible exact Below.refl _ _) | (with_reducible refine below_wov ?_ ?_ _) | (with_reducible refine below_drewN ?_ _) | (with_reducible refine Below.drew ?_) | (with_reducible refine Below.alloc ?_ ?_ _) | (with_reducible refine Below.setCell ?_ ?_ _) | (with_reducible exact Nat.le_refl _) | omega | (simp only [World.size_alloc, World.size_setCell, World.size_drew, Wov_size, World.heap_drewN]; omega)))), BoxZ.new (by rw [← hA4]; (try simp only [Wov_size]))⟩ ?_
  rintro W5 ⟨hb5, m5_0, m5_1, m5_2, m5_3, m5_4, m5_5⟩
  clear hb4 f4_0_lt f4_0_c0 f4_0_c1 f4_0_c2 f4_0_c3 f4_0_c4 f4_0_c5 f4_1_lt f4_1_c0 f4_1_c1 f4_1_c2 f4_1_c3 f4_1_c4 f4_1_c5 f4_2_lt f4_2_c0 f4_2_c1 f4_2_c2 f4_2_c3 f4_2_c4 f4_2_c5 f4_3_lt f4_3_c0 f4_3_c1 f4_3_c2 f4_3_c3 f4_3_c4 f4_3_c5 f4_4_lt f4_4_c0 f4_4_c1 f4_4_c2 f4_4_c3 f4_4_c4 f4_4_c5 m4_0 m4_1 m4_2 m4_3 m4_4 hs4
  have hs5 := hb5.size
  have f5_0_lt := m5_0.lt
  have f5_0_c0 := m5_0.c0
  have f5_0_c1 := m5_0.c1
  have f5_0_c2 := m5_0.c2
  have f5_0_c3 := m5_0.c3
  have f5_0_c4 := m5_0.c4
  have f5_0_c5 := m5_0.c5
  have f5_1_lt := m5_1.lt
  have f5_1_c0 := m5_1.c0
  have f5_1_c1 := m5_1.c1
  have f5_1_c2 := m5_1.c2
  have f5_1_c3 := m5_1.c3
  have f5_1_c4 := m5_1.c4
  have f5_1_c5 := m5_1.c5
  have f5_2_lt := m5_2.lt
  have f5_2_c0 := m5_2.c0
  have f5_2_c1 := m5_2.c1
  have f5_2_c2 := m5_2.c2
  have f5_2_c3 := m5_2.c3
  have f5_2_c4 := m5_2.c4
  have f5_2_c5 := m5_2.c5
  have f5_3_lt := m5_3.lt
  have f5_3_c0 := m5_3.c0
  have f5_3_c1 := m5_3.c1
  have f5_3_c2 := m5_3.c2
  have f5_3_c3 := m5_3.c3
  have f5_3_c4 := m5_3.c4
  have f5_3_c5 := m5_3.c5
  have f5_4_lt := m5_4.lt
  have f5_4_c0 := m5_4.c0
  have f5_4_c1 := m5_4.c1
  have f5_4_c2 := m5_4.c2
  have f5_4_c3 := m5_4.c3
  have f5_4_c4 := m5_4.c4
  have f5_4_c5 := m5_4.c5
  have f5_5_lt := m5_5.lt
  have f5_5_c0 := m5_5.c0
  have f5_5_c1 := m5_5.c1
  have f5_5_c2 := m5_5.c2
  have f5_5_c3 := m5_5.c3
  have f5_5_c4 := m5_5.c4
  have f5_5_c5 := m5_5.c5
  clear hA4 C4
  refine (C5.out _).mono ?_; rintro e w' ⟨rfl, q5, rfl⟩
  go_wp2_with (fail)
  obtain ⟨A5, hA5⟩ : ∃ A, W5.heap.size + q5.bl.size = A := ⟨_, rfl⟩
  rw [hA5]
  refine calls_world (fun W => Below w.heap.size w W ∧ BoxZ W w.heap.size a ∧ BoxZ W (w.heap.size + 1) b ∧ BoxZ W A1 r1 ∧ BoxZ W A2 r1 ∧ BoxZ W A3 r3 ∧ BoxZ W A4 r3 ∧ BoxS W A5 s5.lo s5.ls s5.hi s5.hs s5.op) ⟨by (repeat' (first | (with_reducible assumption) | (with_reducible exact Below.refl _ _) | (with_reducible refine below_wov ?_ ?_ _) | (with_reducible refine below_drewN ?_ _) | (with_reducible refine Below.drew ?_) | (with_reducible refine Below.alloc ?_ ?_ _) | (with_reducible refine Below.setCell ?_ ?_ _) | (with_reducible exact Nat.le_refl _) | omega | (simp only [World.size_alloc, World.size_setCell, World.size_drew, Wov_size, World.heap_drewN]; omega))), m5_0.below (by (repeat' (first | (with_reducible assumption) | (with_reducible exact Below.refl _ _) | (with_reducible refine below_wov ?_ ?_ _) | (with_reducible refine below_drewN ?_ _) | (with_reducible refine Below.drew ?_) | (with_reducible refine Below.alloc ?_ ?_ _) | (with_reducible refine Below.setCell ?_ ?_ _) | (with_reducible exact Nat.le_refl _) | omega | (simp only [World.size_alloc, World.size_setCell, World.size_drew, Wov_size, World.heap_drewN]; omega)))), m5_1.below (by (repeat' (first | (with_reducible assumption) | (with_reducible exact Below.refl _ _) | (with_reducible refine below_wov ?_ ?_ _) | (with_reducible refine below_drewN ?_ _) | (with_reducible refine Below.drew ?_) | (with_reducible refine Below.alloc ?_ ?_ _) | (with_reducible refine Below.setCell ?_ ?_ _) | (with_reducible exact Nat.le_refl _) | omega | (simp only [World.size_alloc, World.size_setCell, World.size_drew, Wov_size, World.heap_drewN]; omega)))), m5_2.below (by (repeat' (first | (with_reducible assumption) | (with_reducible exact Below.refl _ _) | (with_reducible refine below_wov ?_ ?_ _) | (with_reducible refine below_drewN ?_ _) | (with_reducible refine Below.drew ?_) | (with_reducible refine Below.alloc ?_ ?_ _) | (with_reducible refine Below.setCell ?_ ?_ _) | (with_reducible exact Nat.le_refl _) | omega | (simp only [World.size_alloc, World.size_setCell, World.size_drew, Wov_size, World.heap_drewN]; omega)))), m5_3.below (by (repeat' (first | (with_reducible assumption) | (with_reducible exact Below.refl _ _) | (with_reducible refine below_wov ?_ ?_ _) | (with_reducible refine below_drewN ?_ _) | (with_reducible refine Below.drew ?_) | (with_reducible refine Below.alloc ?_ ?_ _) | (with_reducible refine Below.setCell ?_ ?_ _) | (with_reducible exact Nat.le_refl _) | omega | (simp only [World.size_alloc, World.size_setCell, World.size_drew, Wov_size, World.heap_drewN]; omega)))), m5_4.below (by (repeat' (first | (with_reducible assumption) | (with_reducible exact Below.refl _ _) | (with_reducible refine below_wov ?_ ?_ _) | (with_reducible refine below_drewN ?_ _) | (with_reducible refine Below.drew ?_) | (with_reducible refine Below.alloc ?_ ?_ _) | (with_reducible refine Below.setCell ?_ ?_ _) | (with_reducible exact Nat.le_refl _) | omega | (simp only [World.size_alloc, World.size_setCell, World.size_drew, Wov_size, World.heap_drewN]; omega)))), m5_5.below (by (repeat' (first | (with_reducible assumption) | (with_reducible exact Below.refl _ _) | (with_reducible refine below_wov ?_ ?_ _) | (with_reducible refine below_drewN ?_ _) | (with_reducible refine Below.drew ?_) | (with_reducible refine Below.alloc ?_ ?_ _) | (with_reducible refine Below.setCell ?_ ?_ _) | (with_reducible exact Nat.le_refl _) | omega | (simp only [World.size_alloc, World.size_setCell, World.size_drew, Wov_size, World.heap_drewN]; omega)))), (BoxS.new (by rw [← hA5]; (try simp only [Wov_size])))⟩ ?_
  rintro W6 ⟨hb6, m6_0, m6_1, m6_2, m6_3, m6_4, m6_5, m6_6⟩
  clear hb5 f5_0_lt f5_0_c0 f5_0_c1 f5_0_c2 f5_0_c3 f5_0_c4 f5_0_c5 f5_1_lt f5_1_c0 f5_1_c1 f5_1_c2 f5_1_c3 f5_1_c4 f5_1_c5 f5_2_lt f5_2_c0 f5_2_c1 f5_2_c2 f5_2_c3 f5_2_c4 f5_2_c5 f5_3_lt f5_3_c0 f5_3_c1 f5_3_c2 f5_3_c3 f5_3_c4 f5_3_c5 f5_4_lt f5_4_c0 f5_4_c1 f5_4_c2 f5_4_c3 f5_4_c4 f5_4_c5 f5_5_lt f5_5_c0 f5_5_c1 f5_5_c2 f5_5_c3 f5_5_c4 f5_5_c5 m5_0 m5_1 m5_2 m5_3 m5_4 m5_5 hs5
  have hs6 := hb6.size
  have f6_0_lt := m6_0.lt
  have f6_0_c0 := m6_0.c0
  have f6_0_c1 := m6_0.c1
  have f6_0_c2 := m6_0.c2
  have f6_0_c3 := m6_0.c3
  have f6_0_c4 := m6_0.c4
  have f6_0_c5 := m6_0.c5
  have f6_1_lt := m6_1.lt
  have f6_1_c0 := m6_1.c0
  have f6_1_c1 := m6_1.c1
  have f6_1_c2 := m6_1.c2
  have f6_1_c3 := m6_1.c3
  have f6_1_c4 := m6_1.c4
  have f6_1_c5 := m6_1.c5
  have f6_2_lt := m6_2.lt
  have f6_2_c0 := m6_2.c0
  have f6_2_c1 := m6_2.c1
  have f6_2_c2 := m6_2.c2
  have f6_2_c3 := m6_2.c3
  have f6_2_c4 := m6_2.c4
  have f6_2_c5 := m6_2.c5
  have f6_3_lt := m6_3.lt
  have f6_3_c0 := m6_3.c0
  have f6_3_c1 := m6_3.c1
  have f6_3_c2 := m6_3.c2
  have f6_3_c3 := m6_3.c3
  have f6_3_c4 := m6_3.c4
  have f6_3_c5 := m6_3.c5
  have f6_4_lt := m6_4.lt
  have f6_4_c0 := m6_4.c0
  have f6_4_c1 := m6_4.c1
  have f6_4_c2 := m6_4.c2
  have f6_4_c3 := m6_4.c3
  have f6_4_c4 := m6_4.c4
  have f6_4_c5 := m6_4.c5
  have f6_5_lt := m6_5.lt
  have f6_5_c0 := m6_5.c0
  have f6_5_c1 := m6_5.c1
  have f6_5_c2 := m6_5.c2
  have f6_5_c3 := m6_5.c3
  have f6_5_c4 := m6_5.c4
  have f6_5_c5 := m6_5.c5
  have f6_6_lt := m6_6.lt
  have f6_6_c0 := m6_6.c0
  have f6_6_c1 := m6_6.c1
  have f6_6_c2 := m6_6.c2
  have f6_6_c3 := m6_6.c3
  have f6_6_c4 := m6_6.c4
  clear hA5 C5
  refine (C6.out _).mono ?_; rintro e w' ⟨rfl, q6, rfl⟩
  clear C6
  go_wp2
  all_goals
    go_ret
    exact gives_bool (by simp) (by (repeat' (first | (with_reducible assumption) | (with_reducible exact Below.refl _ _) | (with_reducible refine below_wov ?_ ?_ _) | (with_reducible refine below_drewN ?_ _) | (with_reducible refine Below.drew ?_) | (with_reducible refine Below.alloc ?_ ?_ _) | (with_reducible refine Below.setCell ?_ ?_ _) | (with_reducible exact Nat.le_refl _) | omega | (simp only [World.size_alloc, World.size_setCell, World.size_drew, Wov_size, World.heap_drewN]; omega))))
theorem walk (z0 : Nat → Int) (wz0 : FitsZ z0) (z1 : Nat → Int) (wz1 : FitsZ z1) (w : World) : Calls Try.prog 4 #[zoneV z0, zoneV z1] w (Gives w (.bool true)) := walk0 z0 wz0 z1 wz1 w
end Go.Proofs.Ytbgbhfcnadjhdaa.compTells
