/- The law ZoneMeets (walk): what two have in common; zones with the same points are the same. No condition. -/
import Derived.Test.YtnjhjgkekmjmdaaH10
namespace Go.Proofs.Ytnjhjgkekmjmdaa.zoneMeets
open Go.ChangeShapes Go.WideShapes Go.ChangeAt Go.RowKit
set_option linter.unusedVariables false
set_option linter.unusedSimpArgs false
attribute [local go_sem] Nat.add_assoc Nat.add_lt_add_iff_left lit_lt_add

set_option maxRecDepth 100000 in
set_option maxHeartbeats 16000000 in
theorem walk (a : Nat → Int) (wa : FitsZ a) (b : Nat → Int) (wb : FitsZ b) (pa pb pc pd : Int) (wpa : fits64 pa) (wpb : fits64 pb) (wpc : fits64 pc) (wpd : fits64 pd) (w : World) :
    Calls Try.prog 17 #[zoneV a, zoneV b, .agg #[.int .i64 pa, .int .i64 pb, .int .i64 pc, .int .i64 pd]] w (Gives w (.bool true)) := by
  have HA := Lib.hid alive8
  obtain ⟨⟨m, e⟩, hm⟩ : ∃ r, r = meetZ a b := ⟨_, rfl⟩
  obtain ⟨⟨x, f⟩, hx⟩ : ∃ r, r = inZ a b := ⟨_, rfl⟩
  obtain ⟨⟨y, g⟩, hy⟩ : ∃ r, r = inZ b a := ⟨_, rfl⟩
  obtain ⟨⟨rfl, l1⟩, l2⟩ := meets_law hm hx hy
  obtain ⟨⟨one, h⟩, h1⟩ : ∃ r, r = hasZ a (pt pa pb pc pd) := ⟨_, rfl⟩
  obtain ⟨⟨two, i⟩, h2⟩ : ∃ r, r = hasZ b (pt pa pb pc pd) := ⟨_, rfl⟩
  have C1 : Hid (∀ w, Calls Try.prog 55 #[.agg #[.int .i64 (a 0), .int .i64 (a 1), .int .i64 (a 2), .int .i64 (a 3), .int .i64 (a 4), .int .i64 (a 5)], .agg #[.int .i64 (b 0), .int .i64 (b 1), .int .i64 (b 2), .int .i64 (b 3), .int .i64 (b 4), .int .i64 (b 5)]] w (Gives w (.tuple #[.agg #[.int .i64 (m 0), .int .i64 (m 1), .int .i64 (m 2), .int .i64 (m 3), .int .i64 (m 4), .int .i64 (m 5)], .int .i64 e]))) := fun w => by
    have := zmeet_any a b w wa wb
    rw [← hm] at this
    exact this
  have C2 : Hid (∀ w, Calls Try.prog 53 #[.agg #[.int .i64 (a 0), .int .i64 (a 1), .int .i64 (a 2), .int .i64 (a 3), .int .i64 (a 4), .int .i64 (a 5)], .agg #[.int .i64 (b 0), .int .i64 (b 1), .int .i64 (b 2), .int .i64 (b 3), .int .i64 (b 4), .int .i64 (b 5)]] w (Gives w (.tuple #[.bool x, .int .i64 f]))) := fun w => by
    have := zin_any a b w wa wb
    rw [← hx] at this
    exact this
  have C3 : Hid (∀ w, Calls Try.prog 53 #[.agg #[.int .i64 (b 0), .int .i64 (b 1), .int .i64 (b 2), .int .i64 (b 3), .int .i64 (b 4), .int .i64 (b 5)], .agg #[.int .i64 (a 0), .int .i64 (a 1), .int .i64 (a 2), .int .i64 (a 3), .int .i64 (a 4), .int .i64 (a 5)]] w (Gives w (.tuple #[.bool y, .int .i64 f]))) := fun w => by
    have := zin_any b a w wb wa
    rw [← hy] at this
    exact this
  have C4 : Hid (∀ w, Calls Try.prog 59 #[.agg #[.int .i64 (a 0), .int .i64 (a 1), .int .i64 (a 2), .int .i64 (a 3), .int .i64 (a 4), .int .i64 (a 5)], .agg #[.int .i64 pa, .int .i64 pb, .int .i64 pc, .int .i64 pd]] w (Gives w (.tuple #[.bool one, .int .i64 h]))) := fun w => by
    have := zhas_any a pa pb pc pd w wa wpa wpb wpc wpd
    rw [← h1] at this
    exact this
  have C5 : Hid (∀ w, Calls Try.prog 59 #[.agg #[.int .i64 (b 0), .int .i64 (b 1), .int .i64 (b 2), .int .i64 (b 3), .int .i64 (b 4), .int .i64 (b 5)], .agg #[.int .i64 pa, .int .i64 pb, .int .i64 pc, .int .i64 pd]] w (Gives w (.tuple #[.bool two, .int .i64 i]))) := fun w => by
    have := zhas_any b pa pb pc pd w wb wpa wpb wpc wpd
    rw [← h2] at this
    exact this
  have C6 : Hid (okZ m = true → hasZ m (pt pa pb pc pd) = (one && two, 0) → ∀ w, Calls Try.prog 59 #[.agg #[.int .i64 (m 0), .int .i64 (m 1), .int .i64 (m 2), .int .i64 (m 3), .int .i64 (m 4), .int .i64 (m 5)], .agg #[.int .i64 pa, .int .i64 pb, .int .i64 pc, .int .i64 pd]] w (Gives w (.tuple #[.bool (one && two), .int .i64 0]))) := fun k1 k2 w => by
    have := zhas_any m pa pb pc pd w (okZ_fits k1) wpa wpb wpc wpd
    rw [k2] at this
    exact this
  have C7 : Hid (okZ m = true → ∀ w, Calls Try.prog 58 #[.agg #[.int .i64 (m 0), .int .i64 (m 1), .int .i64 (m 2), .int .i64 (m 3), .int .i64 (m 4), .int .i64 (m 5)]] w (Gives w (.int .i64 0))) := fun k1 w => by
    have := zcheck_any m w (okZ_fits k1)
    rw [k1] at this
    exact this
  have e1 := eq6_iff a b
  have e2 := eq6_iff m a
  unfold zoneV
  by_cases hf : f = 0
  · skip
    obtain ⟨l3, l4, l5⟩ := l2 hf
    subst hf
    have l6 := l5 (pt pa pb pc pd) one two h i h1 h2
    by_cases he : e = 0
    · skip
      subst he
      have l7 : x = true ↔ eq6 (m 0) (m 1) (m 2) (m 3) (m 4) (m 5) (a 0) (a 1) (a 2) (a 3) (a 4) (a 5) = true := by rw [l4, e2]; simp
      cases x
      · skip
        have E2 : eq6 (m 0) (m 1) (m 2) (m 3) (m 4) (m 5) (a 0) (a 1) (a 2) (a 3) (a 4) (a 5) = false := by rw [← Bool.not_eq_true, ← l7]; simp
        clear l1 l2 l3 l4 l5 l7 e1 e2 hm hx hy h1 h2 wa wb wpa wpb wpc wpd
        go_enter Try.func17, Try.ntmps17
        go_wp2_with (fail)
        refine calls_world (fun W => Below w.heap.size w W ∧ BoxZ W w.heap.size a ∧ BoxZ W (w.heap.size + 1) b ∧ PtAt W (w.heap.size + 2) pa pb pc pd) ⟨by (repeat' (first | (with_reducible assumption) | (with_reducible exact Below.refl _ _) | (with_reducible refine below_wov ?_ ?_ _) | (with_reducible refine below_drewN ?_ _) | (with_reducible refine Below.drew ?_) | (with_reducible refine Below.alloc ?_ ?_ _) | (with_reducible refine Below.setCell ?_ ?_ _) | (with_reducible exact Nat.le_refl _) | omega | (simp only [World.size_alloc, World.size_setCell, World.size_drew, Wov_size, World.heap_drewN]; omega))), (BoxZ.new (W := w) (t := 26) (by simp)).below (by (repeat' (first | (with_reducible assumption) | (with_reducible exact Below.refl _ _) | (with_reducible refine below_wov ?_ ?_ _) | (with_reducible refine below_drewN ?_ _) | (with_reducible refine Below.drew ?_) | (with_reducible refine Below.alloc ?_ ?_ _) | (with_reducible refine Below.setCell ?_ ?_ _) | (with_reducible exact Nat.le_refl _) | omega | (simp only [World.size_alloc, World.size_setCell, World.size_drew, Wov_size, World.heap_drewN]; omega)))), (BoxZ.new (W := (World.alloc w (.cells #[.int .i64 (a 0), .int .i64 (a 1), .int .i64 (a 2), .int .i64 (a 3), .int .i64 (a 4), .int .i64 (a 5)] 26))) (t := 26) (by simp)).below (by (repeat' (first | (with_reducible assumption) | (with_reducible exact Below.refl _ _) | (with_reducible refine below_wov ?_ ?_ _) | (with_reducible refine below_drewN ?_ _) | (with_reducible refine Below.drew ?_) | (with_reducible refine Below.alloc ?_ ?_ _) | (with_reducible refine Below.setCell ?_ ?_ _) | (with_reducible exact Nat.le_refl _) | omega | (simp only [World.size_alloc, World.size_setCell, World.size_drew, Wov_size, World.heap_drewN]; omega)))), (PtAt.new (W := (World.alloc (World.alloc w (.cells #[.int .i64 (a 0), .int .i64 (a 1), .int .i64 (a 2), .int .i64 (a 3), .int .i64 (a 4), .int .i64 (a 5)] 26)) (.cells #[.int .i64 (b 0), .int .i64 (b 1), .int .i64 (b 2), .int .i64 (b 3), .int .i64 (b 4), .int .i64 (b 5)] 26))) (t := 79) (by simp)).below (by (repeat' (first | (with_reducible assumption) | (with_reducible exact Below.refl _ _) | (with_reducible refine below_wov ?_ ?_ _) | (with_reducible refine below_drewN ?_ _) | (with_reducible refine Below.drew ?_) | (with_reducible refine Below.alloc ?_ ?_ _) | (with_reducible refine Below.setCell ?_ ?_ _) | (with_reducible exact Nat.le_refl _) | omega | (simp only [World.size_alloc, World.size_setCell, World.size_drew, Wov_size, World.heap_drewN]; omega))))⟩ ?_
        rintro W1 ⟨hb1, m1_0, m1_1, m1_2⟩
        have f1_0_lt := m1_0.lt
        have f1_0_c0 := m1_0.c0
        have f1_0_c1 := m1_0.c1
        have f1_0_c2 := m1_0.c2
        have f1_0_c3 := m1_0.c3
        have f1_0_c4 := m1_0.c4
        have f1_0_c5 := m1_0.c5
        have f1_1_lt := m1_1.lt
        have f1_1_c0 := m1_1.c0
        have f1_1_c1 := m1_1.c1
        have f1_1_c2 := m1_1.c2
        have f1_1_c3 := m1_1.c3
        have f1_1_c4 := m1_1.c4
        have f1_1_c5 := m1_1.c5
        have f1_2_lt := m1_2.lt
        have f1_2_c0 := m1_2.c0
        have f1_2_c1 := m1_2.c1
        have f1_2_c2 := m1_2.c2
        have f1_2_c3 := m1_2.c3
        refine (HA.out _).mono ?_; rintro e w' ⟨rfl, q0, rfl⟩
        go_wp2_with (fail)
        refine calls_world (fun W => Below w.heap.size w W ∧ BoxZ W w.heap.size a ∧ BoxZ W (w.heap.size + 1) b ∧ PtAt W (w.heap.size + 2) pa pb pc pd) ⟨by (repeat' (first | (with_reducible assumption) | (with_reducible exact Below.refl _ _) | (with_reducible refine below_wov ?_ ?_ _) | (with_reducible refine below_drewN ?_ _) | (with_reducible refine Below.drew ?_) | (with_reducible refine Below.alloc ?_ ?_ _) | (with_reducible refine Below.setCell ?_ ?_ _) | (with_reducible exact Nat.le_refl _) | omega | (simp only [World.size_alloc, World.size_setCell, World.size_drew, Wov_size, World.heap_drewN]; omega))), m1_0.below (by (repeat' (first | (with_reducible assumption) | (with_reducible exact Below.refl _ _) | (with_reducible refine below_wov ?_ ?_ _) | (with_reducible refine below_drewN ?_ _) | (with_reducible refine Below.drew ?_) | (with_reducible refine Below.alloc ?_ ?_ _) | (with_reducible refine Below.setCell ?_ ?_ _) | (with_reducible exact Nat.le_refl _) | omega | (simp only [World.size_alloc, World.size_setCell, World.size_drew, Wov_size, World.heap_drewN]; omega)))), m1_1.below (by (repeat' (first | (with_reducible assumption) | (with_reducible exact Below.refl _ _) | (with_reducible refine below_wov ?_ ?_ _) | (with_reducible refine below_drewN ?_ _) | (with_reducible refine Below.drew ?_) | (with_reducible refine Below.alloc ?_ ?_ _) | (with_reducible refine Below.setCell ?_ ?_ _) | (with_reducible exact Nat.le_refl _) | omega | (simp only [World.size_alloc, World.size_setCell, World.size_drew, Wov_size, World.heap_drewN]; omega)))), m1_2.below (by (repeat' (first | (with_reducible assumption) | (with_reducible exact Below.refl _ _) | (with_reducible refine below_wov ?_ ?_ _) | (with_reducible refine below_drewN ?_ _) | (with_reducible refine Below.drew ?_) | (with_reducible refine Below.alloc ?_ ?_ _) | (with_reducible refine Below.setCell ?_ ?_ _) | (with_reducible exact Nat.le_refl _) | omega | (simp only [World.size_alloc, World.size_setCell, World.size_drew, Wov_size, World.heap_drewN]; omega))))⟩ ?_
        rintro W2 ⟨hb2, m2_0, m2_1, m2_2⟩
        clear hb1 f1_0_lt f1_0_c0 f1_0_c1 f1_0_c2 f1_0_c3 f1_0_c4 f1_0_c5 f1_1_lt f1_1_c0 f1_1_c1 f1_1_c2 f1_1_c3 f1_1_c4 f1_1_c5 f1_2_lt f1_2_c0 f1_2_c1 f1_2_c2 f1_2_c3 m1_0 m1_1 m1_2
        have f2_0_lt := m2_0.lt
        have f2_0_c0 := m2_0.c0
        have f2_0_c1 := m2_0.c1
        have f2_0_c2 := m2_0.c2
        have f2_0_c3 := m2_0.c3
        have f2_0_c4 := m2_0.c4
        have f2_0_c5 := m2_0.c5
        have f2_1_lt := m2_1.lt
        have f2_1_c0 := m2_1.c0
        have f2_1_c1 := m2_1.c1
        have f2_1_c2 := m2_1.c2
        have f2_1_c3 := m2_1.c3
        have f2_1_c4 := m2_1.c4
        have f2_1_c5 := m2_1.c5
        have f2_2_lt := m2_2.lt
        have f2_2_c0 := m2_2.c0
        have f2_2_c1 := m2_2.c1
        have f2_2_c2 := m2_2.c2
        have f2_2_c3 := m2_2.c3
        refine (C1.out _).mono ?_; rintro e w' ⟨rfl, q1, rfl⟩
        go_wp2_with (fail)
        obtain ⟨A1, hA1⟩ : ∃ A, W2.heap.size + q1.bl.size = A := ⟨_, rfl⟩
        rw [hA1]
        refine calls_world (fun W => Below w.heap.size w W ∧ BoxZ W w.heap.size a ∧ BoxZ W (w.heap.size + 1) b ∧ PtAt W (w.heap.size + 2) pa pb pc pd ∧ BoxZ W A1 m) ⟨by (repeat' (first | (with_reducible assumption) | (with_reducible exact Below.refl _ _) | (with_reducible refine below_wov ?_ ?_ _) | (with_reducible refine below_drewN ?_ _) | (with_reducible refine Below.drew ?_) | (with_reducible refine Below.alloc ?_ ?_ _) | (with_reducible refine Below.setCell ?_ ?_ _) | (with_reducible exact Nat.le_refl _) | omega | (simp only [World.size_alloc, World.size_setCell, World.size_drew, Wov_size, World.heap_drewN]; omega))), m2_0.below (by (repeat' (first | (with_reducible assumption) | (with_reducible exact Below.refl _ _) | (with_reducible refine below_wov ?_ ?_ _) | (with_reducible refine below_drewN ?_ _) | (with_reducible refine Below.drew ?_) | (with_reducible refine Below.alloc ?_ ?_ _) | (with_reducible refine Below.setCell ?_ ?_ _) | (with_reducible exact Nat.le_refl _) | omega | (simp only [World.size_alloc, World.size_setCell, World.size_drew, Wov_size, World.heap_drewN]; omega)))), m2_1.below (by (repeat' (first | (with_reducible assumption) | (with_reducible exact Below.refl _ _) | (with_reducible refine below_wov ?_ ?_ _) | (with_reducible refine below_drewN ?_ _) | (with_reducible refine Below.drew ?_) | (with_reducible refine Below.alloc ?_ ?_ _) | (with_reducible refine Below.setCell ?_ ?_ _) | (with_reducible exact Nat.le_refl _) | omega | (simp only [World.size_alloc, World.size_setCell, World.size_drew, Wov_size, World.heap_drewN]; omega)))), m2_2.below (by (repeat' (first | (with_reducible assumption) | (with_reducible exact Below.refl _ _) | (with_reducible refine below_wov ?_ ?_ _) | (with_reducible refine below_drewN ?_ _) | (with_reducible refine Below.drew ?_) | (with_reducible refine Below.alloc ?_ ?_ _) | (with_reducible refine Below.setCell ?_ ?_ _) | (with_reducible exact Nat.le_refl _) | omega | (simp only [World.size_alloc, World.size_setCell, World.size_drew, Wov_size, World.heap_drewN]; omega)))), BoxZ.new (by rw [← hA1]; (try simp only [Wov_size]))⟩ ?_
        rintro W3 ⟨hb3, m3_0, m3_1, m3_2, m3_3⟩
        clear hb2 f2_0_lt f2_0_c0 f2_0_c1 f2_0_c2 f2_0_c3 f2_0_c4 f2_0_c5 f2_1_lt f2_1_c0 f2_1_c1 f2_1_c2 f2_1_c3 f2_1_c4 f2_1_c5 f2_2_lt f2_2_c0 f2_2_c1 f2_2_c2 f2_2_c3 m2_0 m2_1 m2_2
        have f3_0_lt := m3_0.lt
        have f3_0_c0 := m3_0.c0
        have f3_0_c1 := m3_0.c1
        have f3_0_c2 := m3_0.c2
        have f3_0_c3 := m3_0.c3
        have f3_0_c4 := m3_0.c4
        have f3_0_c5 := m3_0.c5
        have f3_1_lt := m3_1.lt
        have f3_1_c0 := m3_1.c0
        have f3_1_c1 := m3_1.c1
        have f3_1_c2 := m3_1.c2
        have f3_1_c3 := m3_1.c3
        have f3_1_c4 := m3_1.c4
        have f3_1_c5 := m3_1.c5
        have f3_2_lt := m3_2.lt
        have f3_2_c0 := m3_2.c0
        have f3_2_c1 := m3_2.c1
        have f3_2_c2 := m3_2.c2
        have f3_2_c3 := m3_2.c3
        have f3_3_lt := m3_3.lt
        have f3_3_c0 := m3_3.c0
        have f3_3_c1 := m3_3.c1
        have f3_3_c2 := m3_3.c2
        have f3_3_c3 := m3_3.c3
        have f3_3_c4 := m3_3.c4
        have f3_3_c5 := m3_3.c5
        clear hA1 HA C1
        refine (C2.out _).mono ?_; rintro e w' ⟨rfl, q2, rfl⟩
        go_wp2_with (fail)
        refine calls_world (fun W => Below w.heap.size w W ∧ BoxZ W w.heap.size a ∧ BoxZ W (w.heap.size + 1) b ∧ PtAt W (w.heap.size + 2) pa pb pc pd ∧ BoxZ W A1 m) ⟨by (repeat' (first | (with_reducible assumption) | (with_reducible exact Below.refl _ _) | (with_reducible refine below_wov ?_ ?_ _) | (with_reducible refine below_drewN ?_ _) | (with_reducible refine Below.drew ?_) | (with_reducible refine Below.alloc ?_ ?_ _) | (with_reducible refine Below.setCell ?_ ?_ _) | (with_reducible exact Nat.le_refl _) | omega | (simp only [World.size_alloc, World.size_setCell, World.size_drew, Wov_size, World.heap_drewN]; omega))), m3_0.below (by (repeat' (first | (with_reducible assumption) | (with_reducible exact Below.refl _ _) | (with_reducible refine below_wov ?_ ?_ _) | (with_reducible refine below_drewN ?_ _) | (with_reducible refine Below.drew ?_) | (with_reducible refine Below.alloc ?_ ?_ _) | (with_reducible refine Below.setCell ?_ ?_ _) | (with_reducible exact Nat.le_refl _) | omega | (simp only [World.size_alloc, World.size_setCell, World.size_drew, Wov_size, World.heap_drewN]; omega)))), m3_1.below (by (repeat' (first | (with_reducible assumption) | (with_reducible exact Below.refl _ _) | (with_reducible refine below_wov ?_ ?_ _) | (with_reducible refine below_drewN ?_ _) | (with_reducible refine Below.drew ?_) | (with_reducible refine Below.alloc ?_ ?_ _) | (with_reducible refine Below.setCell ?_ ?_ _) | (with_reducible exact Nat.le_refl _) | omega | (simp only [World.size_alloc, World.size_setCell, World.size_drew, Wov_size, World.heap_drewN]; omega)))), m3_2.below (by (repeat' (first | (with_reducible assumption) | (with_reducible exact Below.refl _ _) | (with_reducible refine below_wov ?_ ?_ _) | (with_reducible refine below_drewN ?_ _) | (with_reducible refine Below.drew ?_) | (with_reducible refine Below.alloc ?_ ?_ _) | (with_reducible refine Below.setCell ?_ ?_ _) | (with_reducible exact Nat.le_refl _) | omega | (simp only [World.size_alloc, World.size_setCell, World.size_drew, Wov_size, World.heap_drewN]; omega)))), m3_3.below (by (repeat' (first | (with_reducible assumption) | (with_reducible exact Below.refl _ _) | (with_reducible refine below_wov ?_ ?_ _) | (with_reducible refine below_drewN ?_ _) | (with_reducible refine Below.drew ?_) | (with_reducible refine Below.alloc ?_ ?_ _) | (with_reducible refine Below.setCell ?_ ?_ _) | (with_reducible exact Nat.le_refl _) | omega | (simp only [World.size_alloc, World.size_setCell, World.size_drew, Wov_size, World.heap_drewN]; omega))))⟩ ?_
        rintro W4 ⟨hb4, m4_0, m4_1, m4_2, m4_3⟩
        clear hb3 f3_0_lt f3_0_c0 f3_0_c1 f3_0_c2 f3_0_c3 f3_0_c4 f3_0_c5 f3_1_lt f3_1_c0 f3_1_c1 f3_1_c2 f3_1_c3 f3_1_c4 f3_1_c5 f3_2_lt f3_2_c0 f3_2_c1 f3_2_c2 f3_2_c3 f3_3_lt f3_3_c0 f3_3_c1 f3_3_c2 f3_3_c3 f3_3_c4 f3_3_c5 m3_0 m3_1 m3_2 m3_3
        have f4_0_lt := m4_0.lt
        have f4_0_c0 := m4_0.c0
        have f4_0_c1 := m4_0.c1
        have f4_0_c2 := m4_0.c2
        have f4_0_c3 := m4_0.c3
        have f4_0_c4 := m4_0.c4
        have f4_0_c5 := m4_0.c5
        have f4_1_lt := m4_1.lt
        have f4_1_c0 := m4_1.c0
        have f4_1_c1 := m4_1.c1
        have f4_1_c2 := m4_1.c2
        have f4_1_c3 := m4_1.c3
        have f4_1_c4 := m4_1.c4
        have f4_1_c5 := m4_1.c5
        have f4_2_lt := m4_2.lt
        have f4_2_c0 := m4_2.c0
        have f4_2_c1 := m4_2.c1
        have f4_2_c2 := m4_2.c2
        have f4_2_c3 := m4_2.c3
        have f4_3_lt := m4_3.lt
        have f4_3_c0 := m4_3.c0
        have f4_3_c1 := m4_3.c1
        have f4_3_c2 := m4_3.c2
        have f4_3_c3 := m4_3.c3
        have f4_3_c4 := m4_3.c4
        have f4_3_c5 := m4_3.c5
        refine (C3.out _).mono ?_; rintro e w' ⟨rfl, q3, rfl⟩
        clear C2 C3
        go_wp2_with (fail)
        refine calls_world (fun W => Below w.heap.size w W ∧ BoxZ W w.heap.size a ∧ BoxZ W (w.heap.size + 1) b ∧ PtAt W (w.heap.size + 2) pa pb pc pd ∧ BoxZ W A1 m) ⟨by (repeat' (first | (with_reducible assumption) | (with_reducible exact Below.refl _ _) | (with_reducible refine below_wov ?_ ?_ _) | (with_reducible refine below_drewN ?_ _) | (with_reducible refine Below.drew ?_) | (with_reducible refine Below.alloc ?_ ?_ _) | (with_reducible refine Below.setCell ?_ ?_ _) | (with_reducible exact Nat.le_refl _) | omega | (simp only [World.size_alloc, World.size_setCell, World.size_drew, Wov_size, World.heap_drewN]; omega))), m4_0.below (by (repeat' (first | (with_reducible assumption) | (with_reducible exact Below.refl _ _) | (with_reducible refine below_wov ?_ ?_ _) | (with_reducible refine below_drewN ?_ _) | (with_reducible refine Below.drew ?_) | (with_reducible refine Below.alloc ?_ ?_ _) | (with_reducible refine Below.setCell ?_ ?_ _) | (with_reducible exact Nat.le_refl _) | omega | (simp only [World.size_alloc, World.size_setCell, World.size_drew, Wov_size, World.heap_drewN]; omega)))), m4_1.below (by (repeat' (first | (with_reducible assumption) | (with_reducible exact Below.refl _ _) | (with_reducible refine below_wov ?_ ?_ _) | (with_reducible refine below_drewN ?_ _) | (with_reducible refine Below.drew ?_) | (with_reducible refine Below.alloc ?_ ?_ _) | (with_reducible refine Below.setCell ?_ ?_ _) | (with_reducible exact Nat.le_refl _) | omega | (simp only [World.size_alloc, World.size_setCell, World.size_drew, Wov_size, World.heap_drewN]; omega)))), m4_2.below (by (repeat' (first | (with_reducible assumption) | (with_reducible exact Below.refl _ _) | (with_reducible refine below_wov ?_ ?_ _) | (with_reducible refine below_drewN ?_ _) | (with_reducible refine Below.drew ?_) | (with_reducible refine Below.alloc ?_ ?_ _) | (with_reducible refine Below.setCell ?_ ?_ _) | (with_reducible exact Nat.le_refl _) | omega | (simp only [World.size_alloc, World.size_setCell, World.size_drew, Wov_size, World.heap_drewN]; omega)))), m4_3.below (by (repeat' (first | (with_reducible assumption) | (with_reducible exact Below.refl _ _) | (with_reducible refine below_wov ?_ ?_ _) | (with_reducible refine below_drewN ?_ _) | (with_reducible refine Below.drew ?_) | (with_reducible refine Below.alloc ?_ ?_ _) | (with_reducible refine Below.setCell ?_ ?_ _) | (with_reducible exact Nat.le_refl _) | omega | (simp only [World.size_alloc, World.size_setCell, World.size_drew, Wov_size, World.heap_drewN]; omega))))⟩ ?_
        rintro W5 ⟨hb5, m5_0, m5_1, m5_2, m5_3⟩
        clear hb4 f4_0_lt f4_0_c0 f4_0_c1 f4_0_c2 f4_0_c3 f4_0_c4 f4_0_c5 f4_1_lt f4_1_c0 f4_1_c1 f4_1_c2 f4_1_c3 f4_1_c4 f4_1_c5 f4_2_lt f4_2_c0 f4_2_c1 f4_2_c2 f4_2_c3 f4_3_lt f4_3_c0 f4_3_c1 f4_3_c2 f4_3_c3 f4_3_c4 f4_3_c5 m4_0 m4_1 m4_2 m4_3
        have f5_0_lt := m5_0.lt
        have f5_0_c0 := m5_0.c0
        have f5_0_c1 := m5_0.c1
        have f5_0_c2 := m5_0.c2
        have f5_0_c3 := m5_0.c3
        have f5_0_c4 := m5_0.c4
        have f5_0_c5 := m5_0.c5
        have f5_1_lt := m5_1.lt
        have f5_1_c0 := m5_1.c0
        have f5_1_c1 := m5_1.c1
        have f5_1_c2 := m5_1.c2
        have f5_1_c3 := m5_1.c3
        have f5_1_c4 := m5_1.c4
        have f5_1_c5 := m5_1.c5
        have f5_2_lt := m5_2.lt
        have f5_2_c0 := m5_2.c0
        have f5_2_c1 := m5_2.c1
        have f5_2_c2 := m5_2.c2
        have f5_2_c3 := m5_2.c3
        have f5_3_lt := m5_3.lt
        have f5_3_c0 := m5_3.c0
        have f5_3_c1 := m5_3.c1
        have f5_3_c2 := m5_3.c2
        have f5_3_c3 := m5_3.c3
        have f5_3_c4 := m5_3.c4
        have f5_3_c5 := m5_3.c5
        refine (C4.out _).mono ?_; rintro e w' ⟨rfl, q4, rfl⟩
        go_wp2_with (fail)
        refine calls_world (fun W => Below w.heap.size w W ∧ BoxZ W w.heap.size a ∧ BoxZ W (w.heap.size + 1) b ∧ PtAt W (w.heap.size + 2) pa pb pc pd ∧ BoxZ W A1 m) ⟨by (repeat' (first | (with_reducible assumption) | (with_reducible exact Below.refl _ _) | (with_reducible refine below_wov ?_ ?_ _) | (with_reducible refine below_drewN ?_ _) | (with_reducible refine Below.drew ?_) | (with_reducible refine Below.alloc ?_ ?_ _) | (with_reducible refine Below.setCell ?_ ?_ _) | (with_reducible exact Nat.le_refl _) | omega | (simp only [World.size_alloc, World.size_setCell, World.size_drew, Wov_size, World.heap_drewN]; omega))), m5_0.below (by (repeat' (first | (with_reducible assumption) | (with_reducible exact Below.refl _ _) | (with_reducible refine below_wov ?_ ?_ _) | (with_reducible refine below_drewN ?_ _) | (with_reducible refine Below.drew ?_) | (with_reducible refine Below.alloc ?_ ?_ _) | (with_reducible refine Below.setCell ?_ ?_ _) | (with_reducible exact Nat.le_refl _) | omega | (simp only [World.size_alloc, World.size_setCell, World.size_drew, Wov_size, World.heap_drewN]; omega)))), m5_1.below (by (repeat' (first | (with_reducible assumption) | (with_reducible exact Below.refl _ _) | (with_reducible refine below_wov ?_ ?_ _) | (with_reducible refine below_drewN ?_ _) | (with_reducible refine Below.drew ?_) | (with_reducible refine Below.alloc ?_ ?_ _) | (with_reducible refine Below.setCell ?_ ?_ _) | (with_reducible exact Nat.le_refl _) | omega | (simp only [World.size_alloc, World.size_setCell, World.size_drew, Wov_size, World.heap_drewN]; omega)))), m5_2.below (by (repeat' (first | (with_reducible assumption) | (with_reducible exact Below.refl _ _) | (with_reducible refine below_wov ?_ ?_ _) | (with_reducible refine below_drewN ?_ _) | (with_reducible refine Below.drew ?_) | (with_reducible refine Below.alloc ?_ ?_ _) | (with_reducible refine Below.setCell ?_ ?_ _) | (with_reducible exact Nat.le_refl _) | omega | (simp only [World.size_alloc, World.size_setCell, World.size_drew, Wov_size, World.heap_drewN]; omega)))), m5_3.below (by (repeat' (first | (with_reducible assumption) | (with_reducible exact Below.refl _ _) | (with_reducible refine below_wov ?_ ?_ _) | (with_reducible refine below_drewN ?_ _) | (with_reducible refine Below.drew ?_) | (with_reducible refine Below.alloc ?_ ?_ _) | (with_reducible refine Below.setCell ?_ ?_ _) | (with_reducible exact Nat.le_refl _) | omega | (simp only [World.size_alloc, World.size_setCell, World.size_drew, Wov_size, World.heap_drewN]; omega))))⟩ ?_
        rintro W6 ⟨hb6, m6_0, m6_1, m6_2, m6_3⟩
        clear hb5 f5_0_lt f5_0_c0 f5_0_c1 f5_0_c2 f5_0_c3 f5_0_c4 f5_0_c5 f5_1_lt f5_1_c0 f5_1_c1 f5_1_c2 f5_1_c3 f5_1_c4 f5_1_c5 f5_2_lt f5_2_c0 f5_2_c1 f5_2_c2 f5_2_c3 f5_3_lt f5_3_c0 f5_3_c1 f5_3_c2 f5_3_c3 f5_3_c4 f5_3_c5 m5_0 m5_1 m5_2 m5_3
        have f6_0_lt := m6_0.lt
        have f6_0_c0 := m6_0.c0
        have f6_0_c1 := m6_0.c1
        have f6_0_c2 := m6_0.c2
        have f6_0_c3 := m6_0.c3
        have f6_0_c4 := m6_0.c4
        have f6_0_c5 := m6_0.c5
        have f6_1_lt := m6_1.lt
        have f6_1_c0 := m6_1.c0
        have f6_1_c1 := m6_1.c1
        have f6_1_c2 := m6_1.c2
        have f6_1_c3 := m6_1.c3
        have f6_1_c4 := m6_1.c4
        have f6_1_c5 := m6_1.c5
        have f6_2_lt := m6_2.lt
        have f6_2_c0 := m6_2.c0
        have f6_2_c1 := m6_2.c1
        have f6_2_c2 := m6_2.c2
        have f6_2_c3 := m6_2.c3
        have f6_3_lt := m6_3.lt
        have f6_3_c0 := m6_3.c0
        have f6_3_c1 := m6_3.c1
        have f6_3_c2 := m6_3.c2
        have f6_3_c3 := m6_3.c3
        have f6_3_c4 := m6_3.c4
        have f6_3_c5 := m6_3.c5
        refine (C5.out _).mono ?_; rintro e w' ⟨rfl, q5, rfl⟩
        clear C4 C5
        by_cases hh : h = 0
        · skip
          subst hh
          by_cases hi : i = 0
          · skip
            subst hi
            obtain ⟨y1, y2⟩ := l6 rfl rfl
            obtain ⟨k2, k1⟩ := y2 (by simp)
            have D6 := Lib.hid (C6.out k1 k2)
            have D7 := Lib.hid (C7.out k1)
            clear y1 y2 k1 k2 C6 C7 l6
            go_wp2_with (fail)
            refine calls_world (fun W => Below w.heap.size w W ∧ BoxZ W w.heap.size a ∧ BoxZ W (w.heap.size + 1) b ∧ PtAt W (w.heap.size + 2) pa pb pc pd ∧ BoxZ W A1 m) ⟨by (repeat' (first | (with_reducible assumption) | (with_reducible exact Below.refl _ _) | (with_reducible refine below_wov ?_ ?_ _) | (with_reducible refine below_drewN ?_ _) | (with_reducible refine Below.drew ?_) | (with_reducible refine Below.alloc ?_ ?_ _) | (with_reducible refine Below.setCell ?_ ?_ _) | (with_reducible exact Nat.le_refl _) | omega | (simp only [World.size_alloc, World.size_setCell, World.size_drew, Wov_size, World.heap_drewN]; omega))), m6_0.below (by (repeat' (first | (with_reducible assumption) | (with_reducible exact Below.refl _ _) | (with_reducible refine below_wov ?_ ?_ _) | (with_reducible refine below_drewN ?_ _) | (with_reducible refine Below.drew ?_) | (with_reducible refine Below.alloc ?_ ?_ _) | (with_reducible refine Below.setCell ?_ ?_ _) | (with_reducible exact Nat.le_refl _) | omega | (simp only [World.size_alloc, World.size_setCell, World.size_drew, Wov_size, World.heap_drewN]; omega)))), m6_1.below (by (repeat' (first | (with_reducible assumption) | (with_reducible exact Below.refl _ _) | (with_reducible refine below_wov ?_ ?_ _) | (with_reducible refine below_drewN ?_ _) | (with_reducible refine Below.drew ?_) | (with_reducible refine Below.alloc ?_ ?_ _) | (with_reducible refine Below.setCell ?_ ?_ _) | (with_reducible exact Nat.le_refl _) | omega | (simp only [World.size_alloc, World.size_setCell, World.size_drew, Wov_size, World.heap_drewN]; omega)))), m6_2.below (by (repeat' (first | (with_reducible assumption) | (with_reducible exact Below.refl _ _) | (with_reducible refine below_wov ?_ ?_ _) | (with_reducible refine below_drewN ?_ _) | (with_reducible refine Below.drew ?_) | (with_reducible refine Below.alloc ?_ ?_ _) | (with_reducible refine Below.setCell ?_ ?_ _) | (with_reducible exact Nat.le_refl _) | omega | (simp only [World.size_alloc, World.size_setCell, World.size_drew, Wov_size, World.heap_drewN]; omega)))), m6_3.below (by (repeat' (first | (with_reducible assumption) | (with_reducible exact Below.refl _ _) | (with_reducible refine below_wov ?_ ?_ _) | (with_reducible refine below_drewN ?_ _) | (with_reducible refine Below.drew ?_) | (with_reducible refine Below.alloc ?_ ?_ _) | (with_reducible refine Below.setCell ?_ ?_ _) | (with_reducible exact Nat.le_refl _) | omega | (simp only [World.size_alloc, World.size_setCell, World.size_drew, Wov_size, World.heap_drewN]; omega))))⟩ ?_
            rintro W7 ⟨hb7, m7_0, m7_1, m7_2, m7_3⟩
            clear hb6 f6_0_lt f6_0_c0 f6_0_c1 f6_0_c2 f6_0_c3 f6_0_c4 f6_0_c5 f6_1_lt f6_1_c0 f6_1_c1 f6_1_c2 f6_1_c3 f6_1_c4 f6_1_c5 f6_2_lt f6_2_c0 f6_2_c1 f6_2_c2 f6_2_c3 f6_3_lt f6_3_c0 f6_3_c1 f6_3_c2 f6_3_c3 f6_3_c4 f6_3_c5 m6_0 m6_1 m6_2 m6_3
            have f7_0_lt := m7_0.lt
            have f7_0_c0 := m7_0.c0
            have f7_0_c1 := m7_0.c1
            have f7_0_c2 := m7_0.c2
            have f7_0_c3 := m7_0.c3
            have f7_0_c4 := m7_0.c4
            have f7_0_c5 := m7_0.c5
            have f7_1_lt := m7_1.lt
            have f7_1_c0 := m7_1.c0
            have f7_1_c1 := m7_1.c1
            have f7_1_c2 := m7_1.c2
            have f7_1_c3 := m7_1.c3
            have f7_1_c4 := m7_1.c4
            have f7_1_c5 := m7_1.c5
            have f7_2_lt := m7_2.lt
            have f7_2_c0 := m7_2.c0
            have f7_2_c1 := m7_2.c1
            have f7_2_c2 := m7_2.c2
            have f7_2_c3 := m7_2.c3
            have f7_3_lt := m7_3.lt
            have f7_3_c0 := m7_3.c0
            have f7_3_c1 := m7_3.c1
            have f7_3_c2 := m7_3.c2
            have f7_3_c3 := m7_3.c3
            have f7_3_c4 := m7_3.c4
            have f7_3_c5 := m7_3.c5
            refine (D6.out _).mono ?_; rintro e w' ⟨rfl, q6, rfl⟩
            cases one <;> cases two
            all_goals simp only [Bool.and_true, Bool.and_false, Bool.and_self]
            all_goals
              go_wp2_with (fail)
              refine calls_world (fun W => Below w.heap.size w W ∧ BoxZ W w.heap.size a ∧ BoxZ W (w.heap.size + 1) b ∧ PtAt W (w.heap.size + 2) pa pb pc pd ∧ BoxZ W A1 m) ⟨by (repeat' (first | (with_reducible assumption) | (with_reducible exact Below.refl _ _) | (with_reducible refine below_wov ?_ ?_ _) | (with_reducible refine below_drewN ?_ _) | (with_reducible refine Below.drew ?_) | (with_reducible refine Below.alloc ?_ ?_ _) | (with_reducible refine Below.setCell ?_ ?_ _) | (with_reducible exact Nat.le_refl _) | omega | (simp only [World.size_alloc, World.size_setCell, World.size_drew, Wov_size, World.heap_drewN]; omega))), m7_0.below (by (repeat' (first | (with_reducible assumption) | (with_reducible exact Below.refl _ _) | (with_reducible refine below_wov ?_ ?_ _) | (with_reducible refine below_drewN ?_ _) | (with_reducible refine Below.drew ?_) | (with_reducible refine Below.alloc ?_ ?_ _) | (with_reducible refine Below.setCell ?_ ?_ _) | (with_reducible exact Nat.le_refl _) | omega | (simp only [World.size_alloc, World.size_setCell, World.size_drew, Wov_size, World.heap_drewN]; omega)))), m7_1.below (by (repeat' (first | (with_reducible assumption) | (with_reducible exact Below.refl _ _) | (with_reducible refine below_wov ?_ ?_ _) | (with_reducible refine below_drewN ?_ _) | (with_reducible refine Below.drew ?_) | (with_reducible refine Below.alloc ?_ ?_ _) | (with_reducible refine Below.setCell ?_ ?_ _) | (with_reducible exact Nat.le_refl _) | omega | (simp only [World.size_alloc, World.size_setCell, World.size_drew, Wov_size, World.heap_drewN]; omega)))), m7_2.below (by (repeat' (first | (with_reducible assumption) | (with_reducible exact Below.refl _ _) | (with_reducible refine below_wov ?_ ?_ _) | (with_reducible refine below_drewN ?_ _) | (with_reducible refine Below.drew ?_) | (with_reducible refine Below.alloc ?_ ?_ _) | (with_reducible refine Below.setCell ?_ ?_ _) | (with_reducible exact Nat.le_refl _) | omega | (simp only [World.size_alloc, World.size_setCell, World.size_drew, Wov_size, World.heap_drewN]; omega)))), m7_3.below (by (repeat' (first | (with_reducible assumption) | (with_reducible exact Below.refl _ _) | (with_reducible refine below_wov ?_ ?_ _) | (with_reducible refine below_drewN ?_ _) | (with_reducible refine Below.drew ?_) | (with_reducible refine Below.alloc ?_ ?_ _) | (with_reducible refine Below.setCell ?_ ?_ _) | (with_reducible exact Nat.le_refl _) | omega | (simp only [World.size_alloc, World.size_setCell, World.size_drew, Wov_size, World.heap_drewN]; omega))))⟩ ?_
              rintro W8 ⟨hb8, m8_0, m8_1, m8_2, m8_3⟩
              clear hb7 f7_0_lt f7_0_c0 f7_0_c1 f7_0_c2 f7_0_c3 f7_0_c4 f7_0_c5 f7_1_lt f7_1_c0 f7_1_c1 f7_1_c2 f7_1_c3 f7_1_c4 f7_1_c5 f7_2_lt f7_2_c0 f7_2_c1 f7_2_c2 f7_2_c3 f7_3_lt f7_3_c0 f7_3_c1 f7_3_c2 f7_3_c3 f7_3_c4 f7_3_c5 m7_0 m7_1 m7_2 m7_3
              have f8_0_lt := m8_0.lt
              have f8_0_c0 := m8_0.c0
              have f8_0_c1 := m8_0.c1
              have f8_0_c2 := m8_0.c2
              have f8_0_c3 := m8_0.c3
              have f8_0_c4 := m8_0.c4
              have f8_0_c5 := m8_0.c5
              have f8_1_lt := m8_1.lt
              have f8_1_c0 := m8_1.c0
              have f8_1_c1 := m8_1.c1
              have f8_1_c2 := m8_1.c2
              have f8_1_c3 := m8_1.c3
              have f8_1_c4 := m8_1.c4
              have f8_1_c5 := m8_1.c5
              have f8_2_lt := m8_2.lt
              have f8_2_c0 := m8_2.c0
              have f8_2_c1 := m8_2.c1
              have f8_2_c2 := m8_2.c2
              have f8_2_c3 := m8_2.c3
              have f8_3_lt := m8_3.lt
              have f8_3_c0 := m8_3.c0
              have f8_3_c1 := m8_3.c1
              have f8_3_c2 := m8_3.c2
              have f8_3_c3 := m8_3.c3
              have f8_3_c4 := m8_3.c4
              have f8_3_c5 := m8_3.c5
              refine (D7.out _).mono ?_; rintro e w' ⟨rfl, q7, rfl⟩
              go_wp2
              all_goals
                go_ret
                exact gives_bool (by simp) (by (repeat' (first | (with_reducible assumption) | (with_reducible exact Below.refl _ _) | (with_reducible refine below_wov ?_ ?_ _) | (with_reducible refine below_drewN ?_ _) | (with_reducible refine Below.drew ?_) | (with_reducible refine Below.alloc ?_ ?_ _) | (with_reducible refine Below.setCell ?_ ?_ _) | (with_reducible exact Nat.le_refl _) | omega | (simp only [World.size_alloc, World.size_setCell, World.size_drew, Wov_size, World.heap_drewN]; omega))))
          · skip
            have bi : (i != 0) = true := by rw [bne_iff_ne]; exact hi
            clear hi l6 C6 C7
            go_wp2
            all_goals
              go_ret
              exact gives_bool (by simp) (by (repeat' (first | (with_reducible assumption) | (with_reducible exact Below.refl _ _) | (with_reducible refine below_wov ?_ ?_ _) | (with_reducible refine below_drewN ?_ _) | (with_reducible refine Below.drew ?_) | (with_reducible refine Below.alloc ?_ ?_ _) | (with_reducible refine Below.setCell ?_ ?_ _) | (with_reducible exact Nat.le_refl _) | omega | (simp only [World.size_alloc, World.size_setCell, World.size_drew, Wov_size, World.heap_drewN]; omega))))
        · skip
          have bh : (h != 0) = true := by rw [bne_iff_ne]; exact hh
          clear hh l6 C6 C7
          go_wp2
          all_goals
            go_ret
            exact gives_bool (by simp) (by (repeat' (first | (with_reducible assumption) | (with_reducible exact Below.refl _ _) | (with_reducible refine below_wov ?_ ?_ _) | (with_reducible refine below_drewN ?_ _) | (with_reducible refine Below.drew ?_) | (with_reducible refine Below.alloc ?_ ?_ _) | (with_reducible refine Below.setCell ?_ ?_ _) | (with_reducible exact Nat.le_refl _) | omega | (simp only [World.size_alloc, World.size_setCell, World.size_drew, Wov_size, World.heap_drewN]; omega))))
      · skip
        have E2 : eq6 (m 0) (m 1) (m 2) (m 3) (m 4) (m 5) (a 0) (a 1) (a 2) (a 3) (a 4) (a 5) = true := l7.1 rfl
        have E1 : y = true → eq6 (a 0) (a 1) (a 2) (a 3) (a 4) (a 5) (b 0) (b 1) (b 2) (b 3) (b 4) (b 5) = true := fun hy => e1.2 (l3 rfl hy)
        clear l1 l2 l3 l4 l5 l7 e1 e2 hm hx hy h1 h2 wa wb wpa wpb wpc wpd
        cases y
        · skip
          clear E1
          go_enter Try.func17, Try.ntmps17
          go_wp2_with (fail)
          refine calls_world (fun W => Below w.heap.size w W ∧ BoxZ W w.heap.size a ∧ BoxZ W (w.heap.size + 1) b ∧ PtAt W (w.heap.size + 2) pa pb pc pd) ⟨by (repeat' (first | (with_reducible assumption) | (with_reducible exact Below.refl _ _) | (with_reducible refine below_wov ?_ ?_ _) | (with_reducible refine below_drewN ?_ _) | (with_reducible refine Below.drew ?_) | (with_reducible refine Below.alloc ?_ ?_ _) | (with_reducible refine Below.setCell ?_ ?_ _) | (with_reducible exact Nat.le_refl _) | omega | (simp only [World.size_alloc, World.size_setCell, World.size_drew, Wov_size, World.heap_drewN]; omega))), (BoxZ.new (W := w) (t := 26) (by simp)).below (by (repeat' (first | (with_reducible assumption) | (with_reducible exact Below.refl _ _) | (with_reducible refine below_wov ?_ ?_ _) | (with_reducible refine below_drewN ?_ _) | (with_reducible refine Below.drew ?_) | (with_reducible refine Below.alloc ?_ ?_ _) | (with_reducible refine Below.setCell ?_ ?_ _) | (with_reducible exact Nat.le_refl _) | omega | (simp only [World.size_alloc, World.size_setCell, World.size_drew, Wov_size, World.heap_drewN]; omega)))), (BoxZ.new (W := (World.alloc w (.cells #[.int .i64 (a 0), .int .i64 (a 1), .int .i64 (a 2), .int .i64 (a 3), .int .i64 (a 4), .int .i64 (a 5)] 26))) (t := 26) (by simp)).below (by (repeat' (first | (with_reducible assumption) | (with_reducible exact Below.refl _ _) | (with_reducible refine below_wov ?_ ?_ _) | (with_reducible refine below_drewN ?_ _) | (with_reducible refine Below.drew ?_) | (with_reducible refine Below.alloc ?_ ?_ _) | (with_reducible refine Below.setCell ?_ ?_ _) | (with_reducible exact Nat.le_refl _) | omega | (simp only [World.size_alloc, World.size_setCell, World.size_drew, Wov_size, World.heap_drewN]; omega)))), (PtAt.new (W := (World.alloc (World.alloc w (.cells #[.int .i64 (a 0), .int .i64 (a 1), .int .i64 (a 2), .int .i64 (a 3), .int .i64 (a 4), .int .i64 (a 5)] 26)) (.cells #[.int .i64 (b 0), .int .i64 (b 1), .int .i64 (b 2), .int .i64 (b 3), .int .i64 (b 4), .int .i64 (b 5)] 26))) (t := 79) (by simp)).below (by (repeat' (first | (with_reducible assumption) | (with_reducible exact Below.refl _ _) | (with_reducible refine below_wov ?_ ?_ _) | (with_reducible refine below_drewN ?_ _) | (with_reducible refine Below.drew ?_) | (with_reducible refine Below.alloc ?_ ?_ _) | (with_reducible refine Below.setCell ?_ ?_ _) | (with_reducible exact Nat.le_refl _) | omega | (simp only [World.size_alloc, World.size_setCell, World.size_drew, Wov_size, World.heap_drewN]; omega))))⟩ ?_
          rintro W1 ⟨hb1, m1_0, m1_1, m1_2⟩
          have f1_0_lt := m1_0.lt
          have f1_0_c0 := m1_0.c0
          have f1_0_c1 := m1_0.c1
          have f1_0_c2 := m1_0.c2
          have f1_0_c3 := m1_0.c3
          have f1_0_c4 := m1_0.c4
          have f1_0_c5 := m1_0.c5
          have f1_1_lt := m1_1.lt
          have f1_1_c0 := m1_1.c0
          have f1_1_c1 := m1_1.c1
          have f1_1_c2 := m1_1.c2
          have f1_1_c3 := m1_1.c3
          have f1_1_c4 := m1_1.c4
          have f1_1_c5 := m1_1.c5
          have f1_2_lt := m1_2.lt
          have f1_2_c0 := m1_2.c0
          have f1_2_c1 := m1_2.c1
          have f1_2_c2 := m1_2.c2
          have f1_2_c3 := m1_2.c3
          refine (HA.out _).mono ?_; rintro e w' ⟨rfl, q0, rfl⟩
          go_wp2_with (fail)
          refine calls_world (fun W => Below w.heap.size w W ∧ BoxZ W w.heap.size a ∧ BoxZ W (w.heap.size + 1) b ∧ PtAt W (w.heap.size + 2) pa pb pc pd) ⟨by (repeat' (first | (with_reducible assumption) | (with_reducible exact Below.refl _ _) | (with_reducible refine below_wov ?_ ?_ _) | (with_reducible refine below_drewN ?_ _) | (with_reducible refine Below.drew ?_) | (with_reducible refine Below.alloc ?_ ?_ _) | (with_reducible refine Below.setCell ?_ ?_ _) | (with_reducible exact Nat.le_refl _) | omega | (simp only [World.size_alloc, World.size_setCell, World.size_drew, Wov_size, World.heap_drewN]; omega))), m1_0.below (by (repeat' (first | (with_reducible assumption) | (with_reducible exact Below.refl _ _) | (with_reducible refine below_wov ?_ ?_ _) | (with_reducible refine below_drewN ?_ _) | (with_reducible refine Below.drew ?_) | (with_reducible refine Below.alloc ?_ ?_ _) | (with_reducible refine Below.setCell ?_ ?_ _) | (with_reducible exact Nat.le_refl _) | omega | (simp only [World.size_alloc, World.size_setCell, World.size_drew, Wov_size, World.heap_drewN]; omega)))), m1_1.below (by (repeat' (first | (with_reducible assumption) | (with_reducible exact Below.refl _ _) | (with_reducible refine below_wov ?_ ?_ _) | (with_reducible refine below_drewN ?_ _) | (with_reducible refine Below.drew ?_) | (with_reducible refine Below.alloc ?_ ?_ _) | (with_reducible refine Below.setCell ?_ ?_ _) | (with_reducible exact Nat.le_refl _) | omega | (simp only [World.size_alloc, World.size_setCell, World.size_drew, Wov_size, World.heap_drewN]; omega)))), m1_2.below (by (repeat' (first | (with_reducible assumption) | (with_reducible exact Below.refl _ _) | (with_reducible refine below_wov ?_ ?_ _) | (with_reducible refine below_drewN ?_ _) | (with_reducible refine Below.drew ?_) | (with_reducible refine Below.alloc ?_ ?_ _) | (with_reducible refine Below.setCell ?_ ?_ _) | (with_reducible exact Nat.le_refl _) | omega | (simp only [World.size_alloc, World.size_setCell, World.size_drew, Wov_size, World.heap_drewN]; omega))))⟩ ?_
          rintro W2 ⟨hb2, m2_0, m2_1, m2_2⟩
          clear hb1 f1_0_lt f1_0_c0 f1_0_c1 f1_0_c2 f1_0_c3 f1_0_c4 f1_0_c5 f1_1_lt f1_1_c0 f1_1_c1 f1_1_c2 f1_1_c3 f1_1_c4 f1_1_c5 f1_2_lt f1_2_c0 f1_2_c1 f1_2_c2 f1_2_c3 m1_0 m1_1 m1_2
          have f2_0_lt := m2_0.lt
          have f2_0_c0 := m2_0.c0
          have f2_0_c1 := m2_0.c1
          have f2_0_c2 := m2_0.c2
          have f2_0_c3 := m2_0.c3
          have f2_0_c4 := m2_0.c4
          have f2_0_c5 := m2_0.c5
          have f2_1_lt := m2_1.lt
          have f2_1_c0 := m2_1.c0
          have f2_1_c1 := m2_1.c1
          have f2_1_c2 := m2_1.c2
          have f2_1_c3 := m2_1.c3
          have f2_1_c4 := m2_1.c4
          have f2_1_c5 := m2_1.c5
          have f2_2_lt := m2_2.lt
          have f2_2_c0 := m2_2.c0
          have f2_2_c1 := m2_2.c1
          have f2_2_c2 := m2_2.c2
          have f2_2_c3 := m2_2.c3
          refine (C1.out _).mono ?_; rintro e w' ⟨rfl, q1, rfl⟩
          go_wp2_with (fail)
          obtain ⟨A1, hA1⟩ : ∃ A, W2.heap.size + q1.bl.size = A := ⟨_, rfl⟩
          rw [hA1]
          refine calls_world (fun W => Below w.heap.size w W ∧ BoxZ W w.heap.size a ∧ BoxZ W (w.heap.size + 1) b ∧ PtAt W (w.heap.size + 2) pa pb pc pd ∧ BoxZ W A1 m) ⟨by (repeat' (first | (with_reducible assumption) | (with_reducible exact Below.refl _ _) | (with_reducible refine below_wov ?_ ?_ _) | (with_reducible refine below_drewN ?_ _) | (with_reducible refine Below.drew ?_) | (with_reducible refine Below.alloc ?_ ?_ _) | (with_reducible refine Below.setCell ?_ ?_ _) | (with_reducible exact Nat.le_refl _) | omega | (simp only [World.size_alloc, World.size_setCell, World.size_drew, Wov_size, World.heap_drewN]; omega))), m2_0.below (by (repeat' (first | (with_reducible assumption) | (with_reducible exact Below.refl _ _) | (with_reducible refine below_wov ?_ ?_ _) | (with_reducible refine below_drewN ?_ _) | (with_reducible refine Below.drew ?_) | (with_reducible refine Below.alloc ?_ ?_ _) | (with_reducible refine Below.setCell ?_ ?_ _) | (with_reducible exact Nat.le_refl _) | omega | (simp only [World.size_alloc, World.size_setCell, World.size_drew, Wov_size, World.heap_drewN]; omega)))), m2_1.below (by (repeat' (first | (with_reducible assumption) | (with_reducible exact Below.refl _ _) | (with_reducible refine below_wov ?_ ?_ _) | (with_reducible refine below_drewN ?_ _) | (with_reducible refine Below.drew ?_) | (with_reducible refine Below.alloc ?_ ?_ _) | (with_reducible refine Below.setCell ?_ ?_ _) | (with_reducible exact Nat.le_refl _) | omega | (simp only [World.size_alloc, World.size_setCell, World.size_drew, Wov_size, World.heap_drewN]; omega)))), m2_2.below (by (repeat' (first | (with_reducible assumption) | (with_reducible exact Below.refl _ _) | (with_reducible refine below_wov ?_ ?_ _) | (with_reducible refine below_drewN ?_ _) | (with_reducible refine Below.drew ?_) | (with_reducible refine Below.alloc ?_ ?_ _) | (with_reducible refine Below.setCell ?_ ?_ _) | (with_reducible exact Nat.le_refl _) | omega | (simp only [World.size_alloc, World.size_setCell, World.size_drew, Wov_size, World.heap_drewN]; omega)))), BoxZ.new (by rw [← hA1]; (try simp only [Wov_size]))⟩ ?_
          rintro W3 ⟨hb3, m3_0, m3_1, m3_2, m3_3⟩
          clear hb2 f2_0_lt f2_0_c0 f2_0_c1 f2_0_c2 f2_0_c3 f2_0_c4 f2_0_c5 f2_1_lt f2_1_c0 f2_1_c1 f2_1_c2 f2_1_c3 f2_1_c4 f2_1_c5 f2_2_lt f2_2_c0 f2_2_c1 f2_2_c2 f2_2_c3 m2_0 m2_1 m2_2
          have f3_0_lt := m3_0.lt
          have f3_0_c0 := m3_0.c0
          have f3_0_c1 := m3_0.c1
          have f3_0_c2 := m3_0.c2
          have f3_0_c3 := m3_0.c3
          have f3_0_c4 := m3_0.c4
          have f3_0_c5 := m3_0.c5
          have f3_1_lt := m3_1.lt
          have f3_1_c0 := m3_1.c0
          have f3_1_c1 := m3_1.c1
          have f3_1_c2 := m3_1.c2
          have f3_1_c3 := m3_1.c3
          have f3_1_c4 := m3_1.c4
          have f3_1_c5 := m3_1.c5
          have f3_2_lt := m3_2.lt
          have f3_2_c0 := m3_2.c0
          have f3_2_c1 := m3_2.c1
          have f3_2_c2 := m3_2.c2
          have f3_2_c3 := m3_2.c3
          have f3_3_lt := m3_3.lt
          have f3_3_c0 := m3_3.c0
          have f3_3_c1 := m3_3.c1
          have f3_3_c2 := m3_3.c2
          have f3_3_c3 := m3_3.c3
          have f3_3_c4 := m3_3.c4
          have f3_3_c5 := m3_3.c5
          clear hA1 HA C1
          refine (C2.out _).mono ?_; rintro e w' ⟨rfl, q2, rfl⟩
          go_wp2_with (fail)
          refine calls_world (fun W => Below w.heap.size w W ∧ BoxZ W w.heap.size a ∧ BoxZ W (w.heap.size + 1) b ∧ PtAt W (w.heap.size + 2) pa pb pc pd ∧ BoxZ W A1 m) ⟨by (repeat' (first | (with_reducible assumption) | (with_reducible exact Below.refl _ _) | (with_reducible refine below_wov ?_ ?_ _) | (with_reducible refine below_drewN ?_ _) | (with_reducible refine Below.drew ?_) | (with_reducible refine Below.alloc ?_ ?_ _) | (with_reducible refine Below.setCell ?_ ?_ _) | (with_reducible exact Nat.le_refl _) | omega | (simp only [World.size_alloc, World.size_setCell, World.size_drew, Wov_size, World.heap_drewN]; omega))), m3_0.below (by (repeat' (first | (with_reducible assumption) | (with_reducible exact Below.refl _ _) | (with_reducible refine below_wov ?_ ?_ _) | (with_reducible refine below_drewN ?_ _) | (with_reducible refine Below.drew ?_) | (with_reducible refine Below.alloc ?_ ?_ _) | (with_reducible refine Below.setCell ?_ ?_ _) | (with_reducible exact Nat.le_refl _) | omega | (simp only [World.size_alloc, World.size_setCell, World.size_drew, Wov_size, World.heap_drewN]; omega)))), m3_1.below (by (repeat' (first | (with_reducible assumption) | (with_reducible exact Below.refl _ _) | (with_reducible refine below_wov ?_ ?_ _) | (with_reducible refine below_drewN ?_ _) | (with_reducible refine Below.drew ?_) | (with_reducible refine Below.alloc ?_ ?_ _) | (with_reducible refine Below.setCell ?_ ?_ _) | (with_reducible exact Nat.le_refl _) | omega | (simp only [World.size_alloc, World.size_setCell, World.size_drew, Wov_size, World.heap_drewN]; omega)))), m3_2.below (by (repeat' (first | (with_reducible assumption) | (with_reducible exact Below.refl _ _) | (with_reducible refine below_wov ?_ ?_ _) | (with_reducible refine below_drewN ?_ _) | (with_reducible refine Below.drew ?_) | (with_reducible refine Below.alloc ?_ ?_ _) | (with_reducible refine Below.setCell ?_ ?_ _) | (with_reducible exact Nat.le_refl _) | omega | (simp only [World.size_alloc, World.size_setCell, World.size_drew, Wov_size, World.heap_drewN]; omega)))), m3_3.below (by (repeat' (first | (with_reducible assumption) | (with_reducible exact Below.refl _ _) | (with_reducible refine below_wov ?_ ?_ _) | (with_reducible refine below_drewN ?_ _) | (with_reducible refine Below.drew ?_) | (with_reducible refine Below.alloc ?_ ?_ _) | (with_reducible refine Below.setCell ?_ ?_ _) | (with_reducible exact Nat.le_refl _) | omega | (simp only [World.size_alloc, World.size_setCell, World.size_drew, Wov_size, World.heap_drewN]; omega))))⟩ ?_
          rintro W4 ⟨hb4, m4_0, m4_1, m4_2, m4_3⟩
          clear hb3 f3_0_lt f3_0_c0 f3_0_c1 f3_0_c2 f3_0_c3 f3_0_c4 f3_0_c5 f3_1_lt f3_1_c0 f3_1_c1 f3_1_c2 f3_1_c3 f3_1_c4 f3_1_c5 f3_2_lt f3_2_c0 f3_2_c1 f3_2_c2 f3_2_c3 f3_3_lt f3_3_c0 f3_3_c1 f3_3_c2 f3_3_c3 f3_3_c4 f3_3_c5 m3_0 m3_1 m3_2 m3_3
          have f4_0_lt := m4_0.lt
          have f4_0_c0 := m4_0.c0
          have f4_0_c1 := m4_0.c1
          have f4_0_c2 := m4_0.c2
          have f4_0_c3 := m4_0.c3
          have f4_0_c4 := m4_0.c4
          have f4_0_c5 := m4_0.c5
          have f4_1_lt := m4_1.lt
          have f4_1_c0 := m4_1.c0
          have f4_1_c1 := m4_1.c1
          have f4_1_c2 := m4_1.c2
          have f4_1_c3 := m4_1.c3
          have f4_1_c4 := m4_1.c4
          have f4_1_c5 := m4_1.c5
          have f4_2_lt := m4_2.lt
          have f4_2_c0 := m4_2.c0
          have f4_2_c1 := m4_2.c1
          have f4_2_c2 := m4_2.c2
          have f4_2_c3 := m4_2.c3
          have f4_3_lt := m4_3.lt
          have f4_3_c0 := m4_3.c0
          have f4_3_c1 := m4_3.c1
          have f4_3_c2 := m4_3.c2
          have f4_3_c3 := m4_3.c3
          have f4_3_c4 := m4_3.c4
          have f4_3_c5 := m4_3.c5
          refine (C3.out _).mono ?_; rintro e w' ⟨rfl, q3, rfl⟩
          clear C2 C3
          go_wp2_with (fail)
          refine calls_world (fun W => Below w.heap.size w W ∧ BoxZ W w.heap.size a ∧ BoxZ W (w.heap.size + 1) b ∧ PtAt W (w.heap.size + 2) pa pb pc pd ∧ BoxZ W A1 m) ⟨by (repeat' (first | (with_reducible assumption) | (with_reducible exact Below.refl _ _) | (with_reducible refine below_wov ?_ ?_ _) | (with_reducible refine below_drewN ?_ _) | (with_reducible refine Below.drew ?_) | (with_reducible refine Below.alloc ?_ ?_ _) | (with_reducible refine Below.setCell ?_ ?_ _) | (with_reducible exact Nat.le_refl _) | omega | (simp only [World.size_alloc, World.size_setCell, World.size_drew, Wov_size, World.heap_drewN]; omega))), m4_0.below (by (repeat' (first | (with_reducible assumption) | (with_reducible exact Below.refl _ _) | (with_reducible refine below_wov ?_ ?_ _) | (with_reducible refine below_drewN ?_ _) | (with_reducible refine Below.drew ?_) | (with_reducible refine Below.alloc ?_ ?_ _) | (with_reducible refine Below.setCell ?_ ?_ _) | (with_reducible exact Nat.le_refl _) | omega | (simp only [World.size_alloc, World.size_setCell, World.size_drew, Wov_size, World.heap_drewN]; omega)))), m4_1.below (by (repeat' (first | (with_reducible assumption) | (with_reducible exact Below.refl _ _) | (with_reducible refine below_wov ?_ ?_ _) | (with_reducible refine below_drewN ?_ _) | (with_reducible refine Below.drew ?_) | (with_reducible refine Below.alloc ?_ ?_ _) | (with_reducible refine Below.setCell ?_ ?_ _) | (with_reducible exact Nat.le_refl _) | omega | (simp only [World.size_alloc, World.size_setCell, World.size_drew, Wov_size, World.heap_drewN]; omega)))), m4_2.below (by (repeat' (first | (with_reducible assumption) | (with_reducible exact Below.refl _ _) | (with_reducible refine below_wov ?_ ?_ _) | (with_reducible refine below_drewN ?_ _) | (with_reducible refine Below.drew ?_) | (with_reducible refine Below.alloc ?_ ?_ _) | (with_reducible refine Below.setCell ?_ ?_ _) | (with_reducible exact Nat.le_refl _) | omega | (simp only [World.size_alloc, World.size_setCell, World.size_drew, Wov_size, World.heap_drewN]; omega)))), m4_3.below (by (repeat' (first | (with_reducible assumption) | (with_reducible exact Below.refl _ _) | (with_reducible refine below_wov ?_ ?_ _) | (with_reducible refine below_drewN ?_ _) | (with_reducible refine Below.drew ?_) | (with_reducible refine Below.alloc ?_ ?_ _) | (with_reducible refine Below.setCell ?_ ?_ _) | (with_reducible exact Nat.le_refl _) | omega | (simp only [World.size_alloc, World.size_setCell, World.size_drew, Wov_size, World.heap_drewN]; omega))))⟩ ?_
          rintro W5 ⟨hb5, m5_0, m5_1, m5_2, m5_3⟩
          clear hb4 f4_0_lt f4_0_c0 f4_0_c1 f4_0_c2 f4_0_c3 f4_0_c4 f4_0_c5 f4_1_lt f4_1_c0 f4_1_c1 f4_1_c2 f4_1_c3 f4_1_c4 f4_1_c5 f4_2_lt f4_2_c0 f4_2_c1 f4_2_c2 f4_2_c3 f4_3_lt f4_3_c0 f4_3_c1 f4_3_c2 f4_3_c3 f4_3_c4 f4_3_c5 m4_0 m4_1 m4_2 m4_3
          have f5_0_lt := m5_0.lt
          have f5_0_c0 := m5_0.c0
          have f5_0_c1 := m5_0.c1
          have f5_0_c2 := m5_0.c2
          have f5_0_c3 := m5_0.c3
          have f5_0_c4 := m5_0.c4
          have f5_0_c5 := m5_0.c5
          have f5_1_lt := m5_1.lt
          have f5_1_c0 := m5_1.c0
          have f5_1_c1 := m5_1.c1
          have f5_1_c2 := m5_1.c2
          have f5_1_c3 := m5_1.c3
          have f5_1_c4 := m5_1.c4
          have f5_1_c5 := m5_1.c5
          have f5_2_lt := m5_2.lt
          have f5_2_c0 := m5_2.c0
          have f5_2_c1 := m5_2.c1
          have f5_2_c2 := m5_2.c2
          have f5_2_c3 := m5_2.c3
          have f5_3_lt := m5_3.lt
          have f5_3_c0 := m5_3.c0
          have f5_3_c1 := m5_3.c1
          have f5_3_c2 := m5_3.c2
          have f5_3_c3 := m5_3.c3
          have f5_3_c4 := m5_3.c4
          have f5_3_c5 := m5_3.c5
          refine (C4.out _).mono ?_; rintro e w' ⟨rfl, q4, rfl⟩
          go_wp2_with (fail)
          refine calls_world (fun W => Below w.heap.size w W ∧ BoxZ W w.heap.size a ∧ BoxZ W (w.heap.size + 1) b ∧ PtAt W (w.heap.size + 2) pa pb pc pd ∧ BoxZ W A1 m) ⟨by (repeat' (first | (with_reducible assumption) | (with_reducible exact Below.refl _ _) | (with_reducible refine below_wov ?_ ?_ _) | (with_reducible refine below_drewN ?_ _) | (with_reducible refine Below.drew ?_) | (with_reducible refine Below.alloc ?_ ?_ _) | (with_reducible refine Below.setCell ?_ ?_ _) | (with_reducible exact Nat.le_refl _) | omega | (simp only [World.size_alloc, World.size_setCell, World.size_drew, Wov_size, World.heap_drewN]; omega))), m5_0.below (by (repeat' (first | (with_reducible assumption) | (with_reducible exact Below.refl _ _) | (with_reducible refine below_wov ?_ ?_ _) | (with_reducible refine below_drewN ?_ _) | (with_reducible refine Below.drew ?_) | (with_reducible refine Below.alloc ?_ ?_ _) | (with_reducible refine Below.setCell ?_ ?_ _) | (with_reducible exact Nat.le_refl _) | omega | (simp only [World.size_alloc, World.size_setCell, World.size_drew, Wov_size, World.heap_drewN]; omega)))), m5_1.below (by (repeat' (first | (with_reducible assumption) | (with_reducible exact Below.refl _ _) | (with_reducible refine below_wov ?_ ?_ _) | (with_reducible refine below_drewN ?_ _) | (with_reducible refine Below.drew ?_) | (with_reducible refine Below.alloc ?_ ?_ _) | (with_reducible refine Below.setCell ?_ ?_ _) | (with_reducible exact Nat.le_refl _) | omega | (simp only [World.size_alloc, World.size_setCell, World.size_drew, Wov_size, World.heap_drewN]; omega)))), m5_2.below (by (repeat' (first | (with_reducible assumption) | (with_reducible exact Below.refl _ _) | (with_reducible refine below_wov ?_ ?_ _) | (with_reducible refine below_drewN ?_ _) | (with_reducible refine Below.drew ?_) | (with_reducible refine Below.alloc ?_ ?_ _) | (with_reducible refine Below.setCell ?_ ?_ _) | (with_reducible exact Nat.le_refl _) | omega | (simp only [World.size_alloc, World.size_setCell, World.size_drew, Wov_size, World.heap_drewN]; omega)))), m5_3.below (by (repeat' (first | (with_reducible assumption) | (with_reducible exact Below.refl _ _) | (with_reducible refine below_wov ?_ ?_ _) | (with_reducible refine below_drewN ?_ _) | (with_reducible refine Below.drew ?_) | (with_reducible refine Below.alloc ?_ ?_ _) | (with_reducible refine Below.setCell ?_ ?_ _) | (with_reducible exact Nat.le_refl _) | omega | (simp only [World.size_alloc, World.size_setCell, World.size_drew, Wov_size, World.heap_drewN]; omega))))⟩ ?_
          rintro W6 ⟨hb6, m6_0, m6_1, m6_2, m6_3⟩
          clear hb5 f5_0_lt f5_0_c0 f5_0_c1 f5_0_c2 f5_0_c3 f5_0_c4 f5_0_c5 f5_1_lt f5_1_c0 f5_1_c1 f5_1_c2 f5_1_c3 f5_1_c4 f5_1_c5 f5_2_lt f5_2_c0 f5_2_c1 f5_2_c2 f5_2_c3 f5_3_lt f5_3_c0 f5_3_c1 f5_3_c2 f5_3_c3 f5_3_c4 f5_3_c5 m5_0 m5_1 m5_2 m5_3
          have f6_0_lt := m6_0.lt
          have f6_0_c0 := m6_0.c0
          have f6_0_c1 := m6_0.c1
          have f6_0_c2 := m6_0.c2
          have f6_0_c3 := m6_0.c3
          have f6_0_c4 := m6_0.c4
          have f6_0_c5 := m6_0.c5
          have f6_1_lt := m6_1.lt
          have f6_1_c0 := m6_1.c0
          have f6_1_c1 := m6_1.c1
          have f6_1_c2 := m6_1.c2
          have f6_1_c3 := m6_1.c3
          have f6_1_c4 := m6_1.c4
          have f6_1_c5 := m6_1.c5
          have f6_2_lt := m6_2.lt
          have f6_2_c0 := m6_2.c0
          have f6_2_c1 := m6_2.c1
          have f6_2_c2 := m6_2.c2
          have f6_2_c3 := m6_2.c3
          have f6_3_lt := m6_3.lt
          have f6_3_c0 := m6_3.c0
          have f6_3_c1 := m6_3.c1
          have f6_3_c2 := m6_3.c2
          have f6_3_c3 := m6_3.c3
          have f6_3_c4 := m6_3.c4
          have f6_3_c5 := m6_3.c5
          refine (C5.out _).mono ?_; rintro e w' ⟨rfl, q5, rfl⟩
          clear C4 C5
          by_cases hh : h = 0
          · skip
            subst hh
            by_cases hi : i = 0
            · skip
              subst hi
              obtain ⟨y1, y2⟩ := l6 rfl rfl
              obtain ⟨k2, k1⟩ := y2 (by simp)
              have D6 := Lib.hid (C6.out k1 k2)
              have D7 := Lib.hid (C7.out k1)
              clear y1 y2 k1 k2 C6 C7 l6
              go_wp2_with (fail)
              refine calls_world (fun W => Below w.heap.size w W ∧ BoxZ W w.heap.size a ∧ BoxZ W (w.heap.size + 1) b ∧ PtAt W (w.heap.size + 2) pa pb pc pd ∧ BoxZ W A1 m) ⟨by (repeat' (first | (with_reducible assumption) | (with_reducible exact Below.refl _ _) | (with_reducible refine below_wov ?_ ?_ _) | (with_reducible refine below_drewN ?_ _) | (with_reducible refine Below.drew ?_) | (with_reducible refine Below.alloc ?_ ?_ _) | (with_reducible refine Below.setCell ?_ ?_ _) | (with_reducible exact Nat.le_refl _) | omega | (simp only [World.size_alloc, World.size_setCell, World.size_drew, Wov_size, World.heap_drewN]; omega))), m6_0.below (by (repeat' (first | (with_reducible assumption) | (with_reducible exact Below.refl _ _) | (with_reducible refine below_wov ?_ ?_ _) | (with_reducible refine below_drewN ?_ _) | (with_reducible refine Below.drew ?_) | (with_reducible refine Below.alloc ?_ ?_ _) | (with_reducible refine Below.setCell ?_ ?_ _) | (with_reducible exact Nat.le_refl _) | omega | (simp only [World.size_alloc, World.size_setCell, World.size_drew, Wov_size, World.heap_drewN]; omega)))), m6_1.below (by (repeat' (first | (with_reducible assumption) | (with_reducible exact Below.refl _ _) | (with_reducible refine below_wov ?_ ?_ _) | (with_reducible refine below_drewN ?_ _) | (with_reducible refine Below.drew ?_) | (with_reducible refine Below.alloc ?_ ?_ _) | (with_reducible refine Below.setCell ?_ ?_ _) | (with_reducible exact Nat.le_refl _) | omega | (simp only [World.size_alloc, World.size_setCell, World.size_drew, Wov_size, World.heap_drewN]; omega)))), m6_2.below (by (repeat' (first | (with_reducible assumption) | (with_reducible exact Below.refl _ _) | (with_reducible refine below_wov ?_ ?_ _) | (with_reducible refine below_drewN ?_ _) | (with_reducible refine Below.drew ?_) | (with_reducible refine Below.alloc ?_ ?_ _) | (with_reducible refine Below.setCell ?_ ?_ _) | (with_reducible exact Nat.le_refl _) | omega | (simp only [World.size_alloc, World.size_setCell, World.size_drew, Wov_size, World.heap_drewN]; omega)))), m6_3.below (by (repeat' (first | (with_reducible assumption) | (with_reducible exact Below.refl _ _) | (with_reducible refine below_wov ?_ ?_ _) | (with_reducible refine below_drewN ?_ _) | (with_reducible refine Below.drew ?_) | (with_reducible refine Below.alloc ?_ ?_ _) | (with_reducible refine Below.setCell ?_ ?_ _) | (with_reducible exact Nat.le_refl _) | omega | (simp only [World.size_alloc, World.size_setCell, World.size_drew, Wov_size, World.heap_drewN]; omega))))⟩ ?_
              rintro W7 ⟨hb7, m7_0, m7_1, m7_2, m7_3⟩
              clear hb6 f6_0_lt f6_0_c0 f6_0_c1 f6_0_c2 f6_0_c3 f6_0_c4 f6_0_c5 f6_1_lt f6_1_c0 f6_1_c1 f6_1_c2 f6_1_c3 f6_1_c4 f6_1_c5 f6_2_lt f6_2_c0 f6_2_c1 f6_2_c2 f6_2_c3 f6_3_lt f6_3_c0 f6_3_c1 f6_3_c2 f6_3_c3 f6_3_c4 f6_3_c5 m6_0 m6_1 m6_2 m6_3
              have f7_0_lt := m7_0.lt
              have f7_0_c0 := m7_0.c0
              have f7_0_c1 := m7_0.c1
              have f7_0_c2 := m7_0.c2
              have f7_0_c3 := m7_0.c3
              have f7_0_c4 := m7_0.c4
              have f7_0_c5 := m7_0.c5
              have f7_1_lt := m7_1.lt
              have f7_1_c0 := m7_1.c0
              have f7_1_c1 := m7_1.c1
              have f7_1_c2 := m7_1.c2
              have f7_1_c3 := m7_1.c3
              have f7_1_c4 := m7_1.c4
              have f7_1_c5 := m7_1.c5
              have f7_2_lt := m7_2.lt
              have f7_2_c0 := m7_2.c0
              have f7_2_c1 := m7_2.c1
              have f7_2_c2 := m7_2.c2
              have f7_2_c3 := m7_2.c3
              have f7_3_lt := m7_3.lt
              have f7_3_c0 := m7_3.c0
              have f7_3_c1 := m7_3.c1
              have f7_3_c2 := m7_3.c2
              have f7_3_c3 := m7_3.c3
              have f7_3_c4 := m7_3.c4
              have f7_3_c5 := m7_3.c5
              refine (D6.out _).mono ?_; rintro e w' ⟨rfl, q6, rfl⟩
              cases one <;> cases two
              all_goals simp only [Bool.and_true, Bool.and_false, Bool.and_self]
              all_goals
                go_wp2_with (fail)
                refine calls_world (fun W => Below w.heap.size w W ∧ BoxZ W w.heap.size a ∧ BoxZ W (w.heap.size + 1) b ∧ PtAt W (w.heap.size + 2) pa pb pc pd ∧ BoxZ W A1 m) ⟨by (repeat' (first | (with_reducible assumption) | (with_reducible exact Below.refl _ _) | (with_reducible refine below_wov ?_ ?_ _) | (with_reducible refine below_drewN ?_ _) | (with_reducible refine Below.drew ?_) | (with_reducible refine Below.alloc ?_ ?_ _) | (with_reducible refine Below.setCell ?_ ?_ _) | (with_reducible exact Nat.le_refl _) | omega | (simp only [World.size_alloc, World.size_setCell, World.size_drew, Wov_size, World.heap_drewN]; omega))), m7_0.below (by (repeat' (first | (with_reducible assumption) | (with_reducible exact Below.refl _ _) | (with_reducible refine below_wov ?_ ?_ _) | (with_reducible refine below_drewN ?_ _) | (with_reducible refine Below.drew ?_) | (with_reducible refine Below.alloc ?_ ?_ _) | (with_reducible refine Below.setCell ?_ ?_ _) | (with_reducible exact Nat.le_refl _) | omega | (simp only [World.size_alloc, World.size_setCell, World.size_drew, Wov_size, World.heap_drewN]; omega)))), m7_1.below (by (repeat' (first | (with_reducible assumption) | (with_reducible exact Below.refl _ _) | (with_reducible refine below_wov ?_ ?_ _) | (with_reducible refine below_drewN ?_ _) | (with_reducible refine Below.drew ?_) | (with_reducible refine Below.alloc ?_ ?_ _) | (with_reducible refine Below.setCell ?_ ?_ _) | (with_reducible exact Nat.le_refl _) | omega | (simp only [World.size_alloc, World.size_setCell, World.size_drew, Wov_size, World.heap_drewN]; omega)))), m7_2.below (by (repeat' (first | (with_reducible assumption) | (with_reducible exact Below.refl _ _) | (with_reducible refine below_wov ?_ ?_ _) | (with_reducible refine below_drewN ?_ _) | (with_reducible refine Below.drew ?_) | (with_reducible refine Below.alloc ?_ ?_ _) | (with_reducible refine Below.setCell ?_ ?_ _) | (with_reducible exact Nat.le_refl _) | omega | (simp only [World.size_alloc, World.size_setCell, World.size_drew, Wov_size, World.heap_drewN]; omega)))), m7_3.below (by (repeat' (first | (with_reducible assumption) | (with_reducible exact Below.refl _ _) | (with_reducible refine below_wov ?_ ?_ _) | (with_reducible refine below_drewN ?_ _) | (with_reducible refine Below.drew ?_) | (with_reducible refine Below.alloc ?_ ?_ _) | (with_reducible refine Below.setCell ?_ ?_ _) | (with_reducible exact Nat.le_refl _) | omega | (simp only [World.size_alloc, World.size_setCell, World.size_drew, Wov_size, World.heap_drewN]; omega))))⟩ ?_
                rintro W8 ⟨hb8, m8_0, m8_1, m8_2, m8_3⟩
                clear hb7 f7_0_lt f7_0_c0 f7_0_c1 f7_0_c2 f7_0_c3 f7_0_c4 f7_0_c5 f7_1_lt f7_1_c0 f7_1_c1 f7_1_c2 f7_1_c3 f7_1_c4 f7_1_c5 f7_2_lt f7_2_c0 f7_2_c1 f7_2_c2 f7_2_c3 f7_3_lt f7_3_c0 f7_3_c1 f7_3_c2 f7_3_c3 f7_3_c4 f7_3_c5 m7_0 m7_1 m7_2 m7_3
                have f8_0_lt := m8_0.lt
                have f8_0_c0 := m8_0.c0
                have f8_0_c1 := m8_0.c1
                have f8_0_c2 := m8_0.c2
                have f8_0_c3 := m8_0.c3
                have f8_0_c4 := m8_0.c4
                have f8_0_c5 := m8_0.c5
                have f8_1_lt := m8_1.lt
                have f8_1_c0 := m8_1.c0
                have f8_1_c1 := m8_1.c1
                have f8_1_c2 := m8_1.c2
                have f8_1_c3 := m8_1.c3
                have f8_1_c4 := m8_1.c4
                have f8_1_c5 := m8_1.c5
                have f8_2_lt := m8_2.lt
                have f8_2_c0 := m8_2.c0
                have f8_2_c1 := m8_2.c1
                have f8_2_c2 := m8_2.c2
                have f8_2_c3 := m8_2.c3
                have f8_3_lt := m8_3.lt
                have f8_3_c0 := m8_3.c0
                have f8_3_c1 := m8_3.c1
                have f8_3_c2 := m8_3.c2
                have f8_3_c3 := m8_3.c3
                have f8_3_c4 := m8_3.c4
                have f8_3_c5 := m8_3.c5
                refine (D7.out _).mono ?_; rintro e w' ⟨rfl, q7, rfl⟩
                go_wp2
                all_goals
                  go_ret
                  exact gives_bool (by simp) (by (repeat' (first | (with_reducible assumption) | (with_reducible exact Below.refl _ _) | (with_reducible refine below_wov ?_ ?_ _) | (with_reducible refine below_drewN ?_ _) | (with_reducible refine Below.drew ?_) | (with_reducible refine Below.alloc ?_ ?_ _) | (with_reducible refine Below.setCell ?_ ?_ _) | (with_reducible exact Nat.le_refl _) | omega | (simp only [World.size_alloc, World.size_setCell, World.size_drew, Wov_size, World.heap_drewN]; omega))))
            · skip
              have bi : (i != 0) = true := by rw [bne_iff_ne]; exact hi
              clear hi l6 C6 C7
              go_wp2
              all_goals
                go_ret
                exact gives_bool (by simp) (by (repeat' (first | (with_reducible assumption) | (with_reducible exact Below.refl _ _) | (with_reducible refine below_wov ?_ ?_ _) | (with_reducible refine below_drewN ?_ _) | (with_reducible refine Below.drew ?_) | (with_reducible refine Below.alloc ?_ ?_ _) | (with_reducible refine Below.setCell ?_ ?_ _) | (with_reducible exact Nat.le_refl _) | omega | (simp only [World.size_alloc, World.size_setCell, World.size_drew, Wov_size, World.heap_drewN]; omega))))
          · skip
            have bh : (h != 0) = true := by rw [bne_iff_ne]; exact hh
            clear hh l6 C6 C7
            go_wp2
            all_goals
              go_ret
              exact gives_bool (by simp) (by (repeat' (first | (with_reducible assumption) | (with_reducible exact Below.refl _ _) | (with_reducible refine below_wov ?_ ?_ _) | (with_reducible refine below_drewN ?_ _) | (with_reducible refine Below.drew ?_) | (with_reducible refine Below.alloc ?_ ?_ _) | (with_reducible refine Below.setCell ?_ ?_ _) | (with_reducible exact Nat.le_refl _) | omega | (simp only [World.size_alloc, World.size_setCell, World.size_drew, Wov_size, World.heap_drewN]; omega))))
        · skip
          replace E1 := E1 rfl
          go_enter Try.func17, Try.ntmps17
          go_wp2_with (fail)
          refine calls_world (fun W => Below w.heap.size w W ∧ BoxZ W w.heap.size a ∧ BoxZ W (w.heap.size + 1) b ∧ PtAt W (w.heap.size + 2) pa pb pc pd) ⟨by (repeat' (first | (with_reducible assumption) | (with_reducible exact Below.refl _ _) | (with_reducible refine below_wov ?_ ?_ _) | (with_reducible refine below_drewN ?_ _) | (with_reducible refine Below.drew ?_) | (with_reducible refine Below.alloc ?_ ?_ _) | (with_reducible refine Below.setCell ?_ ?_ _) | (with_reducible exact Nat.le_refl _) | omega | (simp only [World.size_alloc, World.size_setCell, World.size_drew, Wov_size, World.heap_drewN]; omega))), (BoxZ.new (W := w) (t := 26) (by simp)).below (by (repeat' (first | (with_reducible assumption) | (with_reducible exact Below.refl _ _) | (with_reducible refine below_wov ?_ ?_ _) | (with_reducible refine below_drewN ?_ _) | (with_reducible refine Below.drew ?_) | (with_reducible refine Below.alloc ?_ ?_ _) | (with_reducible refine Below.setCell ?_ ?_ _) | (with_reducible exact Nat.le_refl _) | omega | (simp only [World.size_alloc, World.size_setCell, World.size_drew, Wov_size, World.heap_drewN]; omega)))), (BoxZ.new (W := (World.alloc w (.cells #[.int .i64 (a 0), .int .i64 (a 1), .int .i64 (a 2), .int .i64 (a 3), .int .i64 (a 4), .int .i64 (a 5)] 26))) (t := 26) (by simp)).below (by (repeat' (first | (with_reducible assumption) | (with_reducible exact Below.refl _ _) | (with_reducible refine below_wov ?_ ?_ _) | (with_reducible refine below_drewN ?_ _) | (with_reducible refine Below.drew ?_) | (with_reducible refine Below.alloc ?_ ?_ _) | (with_reducible refine Below.setCell ?_ ?_ _) | (with_reducible exact Nat.le_refl _) | omega | (simp only [World.size_alloc, World.size_setCell, World.size_drew, Wov_size, World.heap_drewN]; omega)))), (PtAt.new (W := (World.alloc (World.alloc w (.cells #[.int .i64 (a 0), .int .i64 (a 1), .int .i64 (a 2), .int .i64 (a 3), .int .i64 (a 4), .int .i64 (a 5)] 26)) (.cells #[.int .i64 (b 0), .int .i64 (b 1), .int .i64 (b 2), .int .i64 (b 3), .int .i64 (b 4), .int .i64 (b 5)] 26))) (t := 79) (by simp)).below (by (repeat' (first | (with_reducible assumption) | (with_reducible exact Below.refl _ _) | (with_reducible refine below_wov ?_ ?_ _) | (with_reducible refine below_drewN ?_ _) | (with_reducible refine Below.drew ?_) | (with_reducible refine Below.alloc ?_ ?_ _) | (with_reducible refine Below.setCell ?_ ?_ _) | (with_reducible exact Nat.le_refl _) | omega | (simp only [World.size_alloc, World.size_setCell, World.size_drew, Wov_size, World.heap_drewN]; omega))))⟩ ?_
          rintro W1 ⟨hb1, m1_0, m1_1, m1_2⟩
          have f1_0_lt := m1_0.lt
          have f1_0_c0 := m1_0.c0
          have f1_0_c1 := m1_0.c1
          have f1_0_c2 := m1_0.c2
          have f1_0_c3 := m1_0.c3
          have f1_0_c4 := m1_0.c4
          have f1_0_c5 := m1_0.c5
          have f1_1_lt := m1_1.lt
          have f1_1_c0 := m1_1.c0
          have f1_1_c1 := m1_1.c1
          have f1_1_c2 := m1_1.c2
          have f1_1_c3 := m1_1.c3
          have f1_1_c4 := m1_1.c4
          have f1_1_c5 := m1_1.c5
          have f1_2_lt := m1_2.lt
          have f1_2_c0 := m1_2.c0
          have f1_2_c1 := m1_2.c1
          have f1_2_c2 := m1_2.c2
          have f1_2_c3 := m1_2.c3
          refine (HA.out _).mono ?_; rintro e w' ⟨rfl, q0, rfl⟩
          go_wp2_with (fail)
          refine calls_world (fun W => Below w.heap.size w W ∧ BoxZ W w.heap.size a ∧ BoxZ W (w.heap.size + 1) b ∧ PtAt W (w.heap.size + 2) pa pb pc pd) ⟨by (repeat' (first | (with_reducible assumption) | (with_reducible exact Below.refl _ _) | (with_reducible refine below_wov ?_ ?_ _) | (with_reducible refine below_drewN ?_ _) | (with_reducible refine Below.drew ?_) | (with_reducible refine Below.alloc ?_ ?_ _) | (with_reducible refine Below.setCell ?_ ?_ _) | (with_reducible exact Nat.le_refl _) | omega | (simp only [World.size_alloc, World.size_setCell, World.size_drew, Wov_size, World.heap_drewN]; omega))), m1_0.below (by (repeat' (first | (with_reducible assumption) | (with_reducible exact Below.refl _ _) | (with_reducible refine below_wov ?_ ?_ _) | (with_reducible refine below_drewN ?_ _) | (with_reducible refine Below.drew ?_) | (with_reducible refine Below.alloc ?_ ?_ _) | (with_reducible refine Below.setCell ?_ ?_ _) | (with_reducible exact Nat.le_refl _) | omega | (simp only [World.size_alloc, World.size_setCell, World.size_drew, Wov_size, World.heap_drewN]; omega)))), m1_1.below (by (repeat' (first | (with_reducible assumption) | (with_reducible exact Below.refl _ _) | (with_reducible refine below_wov ?_ ?_ _) | (with_reducible refine below_drewN ?_ _) | (with_reducible refine Below.drew ?_) | (with_reducible refine Below.alloc ?_ ?_ _) | (with_reducible refine Below.setCell ?_ ?_ _) | (with_reducible exact Nat.le_refl _) | omega | (simp only [World.size_alloc, World.size_setCell, World.size_drew, Wov_size, World.heap_drewN]; omega)))), m1_2.below (by (repeat' (first | (with_reducible assumption) | (with_reducible exact Below.refl _ _) | (with_reducible refine below_wov ?_ ?_ _) | (with_reducible refine below_drewN ?_ _) | (with_reducible refine Below.drew ?_) | (with_reducible refine Below.alloc ?_ ?_ _) | (with_reducible refine Below.setCell ?_ ?_ _) | (with_reducible exact Nat.le_refl _) | omega | (simp only [World.size_alloc, World.size_setCell, World.size_drew, Wov_size, World.heap_drewN]; omega))))⟩ ?_
          rintro W2 ⟨hb2, m2_0, m2_1, m2_2⟩
          clear hb1 f1_0_lt f1_0_c0 f1_0_c1 f1_0_c2 f1_0_c3 f1_0_c4 f1_0_c5 f1_1_lt f1_1_c0 f1_1_c1 f1_1_c2 f1_1_c3 f1_1_c4 f1_1_c5 f1_2_lt f1_2_c0 f1_2_c1 f1_2_c2 f1_2_c3 m1_0 m1_1 m1_2
          have f2_0_lt := m2_0.lt
          have f2_0_c0 := m2_0.c0
          have f2_0_c1 := m2_0.c1
          have f2_0_c2 := m2_0.c2
          have f2_0_c3 := m2_0.c3
          have f2_0_c4 := m2_0.c4
          have f2_0_c5 := m2_0.c5
          have f2_1_lt := m2_1.lt
          have f2_1_c0 := m2_1.c0
          have f2_1_c1 := m2_1.c1
          have f2_1_c2 := m2_1.c2
          have f2_1_c3 := m2_1.c3
          have f2_1_c4 := m2_1.c4
          have f2_1_c5 := m2_1.c5
          have f2_2_lt := m2_2.lt
          have f2_2_c0 := m2_2.c0
          have f2_2_c1 := m2_2.c1
          have f2_2_c2 := m2_2.c2
          have f2_2_c3 := m2_2.c3
          refine (C1.out _).mono ?_; rintro e w' ⟨rfl, q1, rfl⟩
          go_wp2_with (fail)
          obtain ⟨A1, hA1⟩ : ∃ A, W2.heap.size + q1.bl.size = A := ⟨_, rfl⟩
          rw [hA1]
          refine calls_world (fun W => Below w.heap.size w W ∧ BoxZ W w.heap.size a ∧ BoxZ W (w.heap.size + 1) b ∧ PtAt W (w.heap.size + 2) pa pb pc pd ∧ BoxZ W A1 m) ⟨by (repeat' (first | (with_reducible assumption) | (with_reducible exact Below.refl _ _) | (with_reducible refine below_wov ?_ ?_ _) | (with_reducible refine below_drewN ?_ _) | (with_reducible refine Below.drew ?_) | (with_reducible refine Below.alloc ?_ ?_ _) | (with_reducible refine Below.setCell ?_ ?_ _) | (with_reducible exact Nat.le_refl _) | omega | (simp only [World.size_alloc, World.size_setCell, World.size_drew, Wov_size, World.heap_drewN]; omega))), m2_0.below (by (repeat' (first | (with_reducible assumption) | (with_reducible exact Below.refl _ _) | (with_reducible refine below_wov ?_ ?_ _) | (with_reducible refine below_drewN ?_ _) | (with_reducible refine Below.drew ?_) | (with_reducible refine Below.alloc ?_ ?_ _) | (with_reducible refine Below.setCell ?_ ?_ _) | (with_reducible exact Nat.le_refl _) | omega | (simp only [World.size_alloc, World.size_setCell, World.size_drew, Wov_size, World.heap_drewN]; omega)))), m2_1.below (by (repeat' (first | (with_reducible assumption) | (with_reducible exact Below.refl _ _) | (with_reducible refine below_wov ?_ ?_ _) | (with_reducible refine below_drewN ?_ _) | (with_reducible refine Below.drew ?_) | (with_reducible refine Below.alloc ?_ ?_ _) | (with_reducible refine Below.setCell ?_ ?_ _) | (with_reducible exact Nat.le_refl _) | omega | (simp only [World.size_alloc, World.size_setCell, World.size_drew, Wov_size, World.heap_drewN]; omega)))), m2_2.below (by (repeat' (first | (with_reducible assumption) | (with_reducible exact Below.refl _ _) | (with_reducible refine below_wov ?_ ?_ _) | (with_reducible refine below_drewN ?_ _) | (with_reducible refine Below.drew ?_) | (with_reducible refine Below.alloc ?_ ?_ _) | (with_reducible refine Below.setCell ?_ ?_ _) | (with_reducible exact Nat.le_refl _) | omega | (simp only [World.size_alloc, World.size_setCell, World.size_drew, Wov_size, World.heap_drewN]; omega)))), BoxZ.new (by rw [← hA1]; (try simp only [Wov_size]))⟩ ?_
          rintro W3 ⟨hb3, m3_0, m3_1, m3_2, m3_3⟩
          clear hb2 f2_0_lt f2_0_c0 f2_0_c1 f2_0_c2 f2_0_c3 f2_0_c4 f2_0_c5 f2_1_lt f2_1_c0 f2_1_c1 f2_1_c2 f2_1_c3 f2_1_c4 f2_1_c5 f2_2_lt f2_2_c0 f2_2_c1 f2_2_c2 f2_2_c3 m2_0 m2_1 m2_2
          have f3_0_lt := m3_0.lt
          have f3_0_c0 := m3_0.c0
          have f3_0_c1 := m3_0.c1
          have f3_0_c2 := m3_0.c2
          have f3_0_c3 := m3_0.c3
          have f3_0_c4 := m3_0.c4
          have f3_0_c5 := m3_0.c5
          have f3_1_lt := m3_1.lt
          have f3_1_c0 := m3_1.c0
          have f3_1_c1 := m3_1.c1
          have f3_1_c2 := m3_1.c2
          have f3_1_c3 := m3_1.c3
          have f3_1_c4 := m3_1.c4
          have f3_1_c5 := m3_1.c5
          have f3_2_lt := m3_2.lt
          have f3_2_c0 := m3_2.c0
          have f3_2_c1 := m3_2.c1
          have f3_2_c2 := m3_2.c2
          have f3_2_c3 := m3_2.c3
          have f3_3_lt := m3_3.lt
          have f3_3_c0 := m3_3.c0
          have f3_3_c1 := m3_3.c1
          have f3_3_c2 := m3_3.c2
          have f3_3_c3 := m3_3.c3
          have f3_3_c4 := m3_3.c4
          have f3_3_c5 := m3_3.c5
          clear hA1 HA C1
          refine (C2.out _).mono ?_; rintro e w' ⟨rfl, q2, rfl⟩
          go_wp2_with (fail)
          refine calls_world (fun W => Below w.heap.size w W ∧ BoxZ W w.heap.size a ∧ BoxZ W (w.heap.size + 1) b ∧ PtAt W (w.heap.size + 2) pa pb pc pd ∧ BoxZ W A1 m) ⟨by (repeat' (first | (with_reducible assumption) | (with_reducible exact Below.refl _ _) | (with_reducible refine below_wov ?_ ?_ _) | (with_reducible refine below_drewN ?_ _) | (with_reducible refine Below.drew ?_) | (with_reducible refine Below.alloc ?_ ?_ _) | (with_reducible refine Below.setCell ?_ ?_ _) | (with_reducible exact Nat.le_refl _) | omega | (simp only [World.size_alloc, World.size_setCell, World.size_drew, Wov_size, World.heap_drewN]; omega))), m3_0.below (by (repeat' (first | (with_reducible assumption) | (with_reducible exact Below.refl _ _) | (with_reducible refine below_wov ?_ ?_ _) | (with_reducible refine below_drewN ?_ _) | (with_reducible refine Below.drew ?_) | (with_reducible refine Below.alloc ?_ ?_ _) | (with_reducible refine Below.setCell ?_ ?_ _) | (with_reducible exact Nat.le_refl _) | omega | (simp only [World.size_alloc, World.size_setCell, World.size_drew, Wov_size, World.heap_drewN]; omega)))), m3_1.below (by (repeat' (first | (with_reducible assumption) | (with_reducible exact Below.refl _ _) | (with_reducible refine below_wov ?_ ?_ _) | (with_reducible refine below_drewN ?_ _) | (with_reducible refine Below.drew ?_) | (with_reducible refine Below.alloc ?_ ?_ _) | (with_reducible refine Below.setCell ?_ ?_ _) | (with_reducible exact Nat.le_refl _) | omega | (simp only [World.size_alloc, World.size_setCell, World.size_drew, Wov_size, World.heap_drewN]; omega)))), m3_2.below (by (repeat' (first | (with_reducible assumption) | (with_reducible exact Below.refl _ _) | (with_reducible refine below_wov ?_ ?_ _) | (with_reducible refine below_drewN ?_ _) | (with_reducible refine Below.drew ?_) | (with_reducible refine Below.alloc ?_ ?_ _) | (with_reducible refine Below.setCell ?_ ?_ _) | (with_reducible exact Nat.le_refl _) | omega | (simp only [World.size_alloc, World.size_setCell, World.size_drew, Wov_size, World.heap_drewN]; omega)))), m3_3.below (by (repeat' (first | (with_reducible assumption) | (with_reducible exact Below.refl _ _) | (with_reducible refine below_wov ?_ ?_ _) | (with_reducible refine below_drewN ?_ _) | (with_reducible refine Below.drew ?_) | (with_reducible refine Below.alloc ?_ ?_ _) | (with_reducible refine Below.setCell ?_ ?_ _) | (with_reducible exact Nat.le_refl _) | omega | (simp only [World.size_alloc, World.size_setCell, World.size_drew, Wov_size, World.heap_drewN]; omega))))⟩ ?_
          rintro W4 ⟨hb4, m4_0, m4_1, m4_2, m4_3⟩
          clear hb3 f3_0_lt f3_0_c0 f3_0_c1 f3_0_c2 f3_0_c3 f3_0_c4 f3_0_c5 f3_1_lt f3_1_c0 f3_1_c1 f3_1_c2 f3_1_c3 f3_1_c4 f3_1_c5 f3_2_lt f3_2_c0 f3_2_c1 f3_2_c2 f3_2_c3 f3_3_lt f3_3_c0 f3_3_c1 f3_3_c2 f3_3_c3 f3_3_c4 f3_3_c5 m3_0 m3_1 m3_2 m3_3
          have f4_0_lt := m4_0.lt
          have f4_0_c0 := m4_0.c0
          have f4_0_c1 := m4_0.c1
          have f4_0_c2 := m4_0.c2
          have f4_0_c3 := m4_0.c3
          have f4_0_c4 := m4_0.c4
          have f4_0_c5 := m4_0.c5
          have f4_1_lt := m4_1.lt
          have f4_1_c0 := m4_1.c0
          have f4_1_c1 := m4_1.c1
          have f4_1_c2 := m4_1.c2
          have f4_1_c3 := m4_1.c3
          have f4_1_c4 := m4_1.c4
          have f4_1_c5 := m4_1.c5
          have f4_2_lt := m4_2.lt
          have f4_2_c0 := m4_2.c0
          have f4_2_c1 := m4_2.c1
          have f4_2_c2 := m4_2.c2
          have f4_2_c3 := m4_2.c3
          have f4_3_lt := m4_3.lt
          have f4_3_c0 := m4_3.c0
          have f4_3_c1 := m4_3.c1
          have f4_3_c2 := m4_3.c2
          have f4_3_c3 := m4_3.c3
          have f4_3_c4 := m4_3.c4
          have f4_3_c5 := m4_3.c5
          refine (C3.out _).mono ?_; rintro e w' ⟨rfl, q3, rfl⟩
          clear C2 C3
          go_wp2_with (fail)
          refine calls_world (fun W => Below w.heap.size w W ∧ BoxZ W w.heap.size a ∧ BoxZ W (w.heap.size + 1) b ∧ PtAt W (w.heap.size + 2) pa pb pc pd ∧ BoxZ W A1 m) ⟨by (repeat' (first | (with_reducible assumption) | (with_reducible exact Below.refl _ _) | (with_reducible refine below_wov ?_ ?_ _) | (with_reducible refine below_drewN ?_ _) | (with_reducible refine Below.drew ?_) | (with_reducible refine Below.alloc ?_ ?_ _) | (with_reducible refine Below.setCell ?_ ?_ _) | (with_reducible exact Nat.le_refl _) | omega | (simp only [World.size_alloc, World.size_setCell, World.size_drew, Wov_size, World.heap_drewN]; omega))), m4_0.below (by (repeat' (first | (with_reducible assumption) | (with_reducible exact Below.refl _ _) | (with_reducible refine below_wov ?_ ?_ _) | (with_reducible refine below_drewN ?_ _) | (with_reducible refine Below.drew ?_) | (with_reducible refine Below.alloc ?_ ?_ _) | (with_reducible refine Below.setCell ?_ ?_ _) | (with_reducible exact Nat.le_refl _) | omega | (simp only [World.size_alloc, World.size_setCell, World.size_drew, Wov_size, World.heap_drewN]; omega)))), m4_1.below (by (repeat' (first | (with_reducible assumption) | (with_reducible exact Below.refl _ _) | (with_reducible refine below_wov ?_ ?_ _) | (with_reducible refine below_drewN ?_ _) | (with_reducible refine Below.drew ?_) | (with_reducible refine Below.alloc ?_ ?_ _) | (with_reducible refine Below.setCell ?_ ?_ _) | (with_reducible exact Nat.le_refl _) | omega | (simp only [World.size_alloc, World.size_setCell, World.size_drew, Wov_size, World.heap_drewN]; omega)))), m4_2.below (by (repeat' (first | (with_reducible assumption) | (with_reducible exact Below.refl _ _) | (with_reducible refine below_wov ?_ ?_ _) | (with_reducible refine below_drewN ?_ _) | (with_reducible refine Below.drew ?_) | (with_reducible refine Below.alloc ?_ ?_ _) | (with_reducible refine Below.setCell ?_ ?_ _) | (with_reducible exact Nat.le_refl _) | omega | (simp only [World.size_alloc, World.size_setCell, World.size_drew, Wov_size, World.heap_drewN]; omega)))), m4_3.below (by (repeat' (first | (with_reducible assumption) | (with_reducible exact Below.refl _ _) | (with_reducible refine below_wov ?_ ?_ _) | (with_reducible refine below_drewN ?_ _) | (with_reducible refine Below.drew ?_) | (with_reducible refine Below.alloc ?_ ?_ _) | (with_reducible refine Below.setCell ?_ ?_ _) | (with_reducible exact Nat.le_refl _) | omega | (simp only [World.size_alloc, World.size_setCell, World.size_drew, Wov_size, World.heap_drewN]; omega))))⟩ ?_
          rintro W5 ⟨hb5, m5_0, m5_1, m5_2, m5_3⟩
          clear hb4 f4_0_lt f4_0_c0 f4_0_c1 f4_0_c2 f4_0_c3 f4_0_c4 f4_0_c5 f4_1_lt f4_1_c0 f4_1_c1 f4_1_c2 f4_1_c3 f4_1_c4 f4_1_c5 f4_2_lt f4_2_c0 f4_2_c1 f4_2_c2 f4_2_c3 f4_3_lt f4_3_c0 f4_3_c1 f4_3_c2 f4_3_c3 f4_3_c4 f4_3_c5 m4_0 m4_1 m4_2 m4_3
          have f5_0_lt := m5_0.lt
          have f5_0_c0 := m5_0.c0
          have f5_0_c1 := m5_0.c1
          have f5_0_c2 := m5_0.c2
          have f5_0_c3 := m5_0.c3
          have f5_0_c4 := m5_0.c4
          have f5_0_c5 := m5_0.c5
          have f5_1_lt := m5_1.lt
          have f5_1_c0 := m5_1.c0
          have f5_1_c1 := m5_1.c1
          have f5_1_c2 := m5_1.c2
          have f5_1_c3 := m5_1.c3
          have f5_1_c4 := m5_1.c4
          have f5_1_c5 := m5_1.c5
          have f5_2_lt := m5_2.lt
          have f5_2_c0 := m5_2.c0
          have f5_2_c1 := m5_2.c1
          have f5_2_c2 := m5_2.c2
          have f5_2_c3 := m5_2.c3
          have f5_3_lt := m5_3.lt
          have f5_3_c0 := m5_3.c0
          have f5_3_c1 := m5_3.c1
          have f5_3_c2 := m5_3.c2
          have f5_3_c3 := m5_3.c3
          have f5_3_c4 := m5_3.c4
          have f5_3_c5 := m5_3.c5
          refine (C4.out _).mono ?_; rintro e w' ⟨rfl, q4, rfl⟩
          go_wp2_with (fail)
          refine calls_world (fun W => Below w.heap.size w W ∧ BoxZ W w.heap.size a ∧ BoxZ W (w.heap.size + 1) b ∧ PtAt W (w.heap.size + 2) pa pb pc pd ∧ BoxZ W A1 m) ⟨by (repeat' (first | (with_reducible assumption) | (with_reducible exact Below.refl _ _) | (with_reducible refine below_wov ?_ ?_ _) | (with_reducible refine below_drewN ?_ _) | (with_reducible refine Below.drew ?_) | (with_reducible refine Below.alloc ?_ ?_ _) | (with_reducible refine Below.setCell ?_ ?_ _) | (with_reducible exact Nat.le_refl _) | omega | (simp only [World.size_alloc, World.size_setCell, World.size_drew, Wov_size, World.heap_drewN]; omega))), m5_0.below (by (repeat' (first | (with_reducible assumption) | (with_reducible exact Below.refl _ _) | (with_reducible refine below_wov ?_ ?_ _) | (with_reducible refine below_drewN ?_ _) | (with_reducible refine Below.drew ?_) | (with_reducible refine Below.alloc ?_ ?_ _) | (with_reducible refine Below.setCell ?_ ?_ _) | (with_reducible exact Nat.le_refl _) | omega | (simp only [World.size_alloc, World.size_setCell, World.size_drew, Wov_size, World.heap_drewN]; omega)))), m5_1.below (by (repeat' (first | (with_reducible assumption) | (with_reducible exact Below.refl _ _) | (with_reducible refine below_wov ?_ ?_ _) | (with_reducible refine below_drewN ?_ _) | (with_reducible refine Below.drew ?_) | (with_reducible refine Below.alloc ?_ ?_ _) | (with_reducible refine Below.setCell ?_ ?_ _) | (with_reducible exact Nat.le_refl _) | omega | (simp only [World.size_alloc, World.size_setCell, World.size_drew, Wov_size, World.heap_drewN]; omega)))), m5_2.below (by (repeat' (first | (with_reducible assumption) | (with_reducible exact Below.refl _ _) | (with_reducible refine below_wov ?_ ?_ _) | (with_reducible refine below_drewN ?_ _) | (with_reducible refine Below.drew ?_) | (with_reducible refine Below.alloc ?_ ?_ _) | (with_reducible refine Below.setCell ?_ ?_ _) | (with_reducible exact Nat.le_refl _) | omega | (simp only [World.size_alloc, World.size_setCell, World.size_drew, Wov_size, World.heap_drewN]; omega)))), m5_3.below (by (repeat' (first | (with_reducible assumption) | (with_reducible exact Below.refl _ _) | (with_reducible refine below_wov ?_ ?_ _) | (with_reducible refine below_drewN ?_ _) | (with_reducible refine Below.drew ?_) | (with_reducible refine Below.alloc ?_ ?_ _) | (with_reducible refine Below.setCell ?_ ?_ _) | (with_reducible exact Nat.le_refl _) | omega | (simp only [World.size_alloc, World.size_setCell, World.size_drew, Wov_size, World.heap_drewN]; omega))))⟩ ?_
          rintro W6 ⟨hb6, m6_0, m6_1, m6_2, m6_3⟩
          clear hb5 f5_0_lt f5_0_c0 f5_0_c1 f5_0_c2 f5_0_c3 f5_0_c4 f5_0_c5 f5_1_lt f5_1_c0 f5_1_c1 f5_1_c2 f5_1_c3 f5_1_c4 f5_1_c5 f5_2_lt f5_2_c0 f5_2_c1 f5_2_c2 f5_2_c3 f5_3_lt f5_3_c0 f5_3_c1 f5_3_c2 f5_3_c3 f5_3_c4 f5_3_c5 m5_0 m5_1 m5_2 m5_3
          have f6_0_lt := m6_0.lt
          have f6_0_c0 := m6_0.c0
          have f6_0_c1 := m6_0.c1
          have f6_0_c2 := m6_0.c2
          have f6_0_c3 := m6_0.c3
          have f6_0_c4 := m6_0.c4
          have f6_0_c5 := m6_0.c5
          have f6_1_lt := m6_1.lt
          have f6_1_c0 := m6_1.c0
          have f6_1_c1 := m6_1.c1
          have f6_1_c2 := m6_1.c2
          have f6_1_c3 := m6_1.c3
          have f6_1_c4 := m6_1.c4
          have f6_1_c5 := m6_1.c5
          have f6_2_lt := m6_2.lt
          have f6_2_c0 := m6_2.c0
          have f6_2_c1 := m6_2.c1
          have f6_2_c2 := m6_2.c2
          have f6_2_c3 := m6_2.c3
          have f6_3_lt := m6_3.lt
          have f6_3_c0 := m6_3.c0
          have f6_3_c1 := m6_3.c1
          have f6_3_c2 := m6_3.c2
          have f6_3_c3 := m6_3.c3
          have f6_3_c4 := m6_3.c4
          have f6_3_c5 := m6_3.c5
          refine (C5.out _).mono ?_; rintro e w' ⟨rfl, q5, rfl⟩
          clear C4 C5
          by_cases hh : h = 0
          · skip
            subst hh
            by_cases hi : i = 0
            · skip
              subst hi
              obtain ⟨y1, y2⟩ := l6 rfl rfl
              obtain ⟨k2, k1⟩ := y2 (by simp)
              have D6 := Lib.hid (C6.out k1 k2)
              have D7 := Lib.hid (C7.out k1)
              clear y1 y2 k1 k2 C6 C7 l6
              go_wp2_with (fail)
              refine calls_world (fun W => Below w.heap.size w W ∧ BoxZ W w.heap.size a ∧ BoxZ W (w.heap.size + 1) b ∧ PtAt W (w.heap.size + 2) pa pb pc pd ∧ BoxZ W A1 m) ⟨by (repeat' (first | (with_reducible assumption) | (with_reducible exact Below.refl _ _) | (with_reducible refine below_wov ?_ ?_ _) | (with_reducible refine below_drewN ?_ _) | (with_reducible refine Below.drew ?_) | (with_reducible refine Below.alloc ?_ ?_ _) | (with_reducible refine Below.setCell ?_ ?_ _) | (with_reducible exact Nat.le_refl _) | omega | (simp only [World.size_alloc, World.size_setCell, World.size_drew, Wov_size, World.heap_drewN]; omega))), m6_0.below (by (repeat' (first | (with_reducible assumption) | (with_reducible exact Below.refl _ _) | (with_reducible refine below_wov ?_ ?_ _) | (with_reducible refine below_drewN ?_ _) | (with_reducible refine Below.drew ?_) | (with_reducible refine Below.alloc ?_ ?_ _) | (with_reducible refine Below.setCell ?_ ?_ _) | (with_reducible exact Nat.le_refl _) | omega | (simp only [World.size_alloc, World.size_setCell, World.size_drew, Wov_size, World.heap_drewN]; omega)))), m6_1.below (by (repeat' (first | (with_reducible assumption) | (with_reducible exact Below.refl _ _) | (with_reducible refine below_wov ?_ ?_ _) | (with_reducible refine below_drewN ?_ _) | (with_reducible refine Below.drew ?_) | (with_reducible refine Below.alloc ?_ ?_ _) | (with_reducible refine Below.setCell ?_ ?_ _) | (with_reducible exact Nat.le_refl _) | omega | (simp only [World.size_alloc, World.size_setCell, World.size_drew, Wov_size, World.heap_drewN]; omega)))), m6_2.below (by (repeat' (first | (with_reducible assumption) | (with_reducible exact Below.refl _ _) | (with_reducible refine below_wov ?_ ?_ _) | (with_reducible refine below_drewN ?_ _) | (with_reducible refine Below.drew ?_) | (with_reducible refine Below.alloc ?_ ?_ _) | (with_reducible refine Below.setCell ?_ ?_ _) | (with_reducible exact Nat.le_refl _) | omega | (simp only [World.size_alloc, World.size_setCell, World.size_drew, Wov_size, World.heap_drewN]; omega)))), m6_3.below (by (repeat' (first | (with_reducible assumption) | (with_reducible exact Below.refl _ _) | (with_reducible refine below_wov ?_ ?_ _) | (with_reducible refine below_drewN ?_ _) | (with_reducible refine Below.drew ?_) | (with_reducible refine Below.alloc ?_ ?_ _) | (with_reducible refine Below.setCell ?_ ?_ _) | (with_reducible exact Nat.le_refl _) | omega | (simp only [World.size_alloc, World.size_setCell, World.size_drew, Wov_size, World.heap_drewN]; omega))))⟩ ?_
              rintro W7 ⟨hb7, m7_0, m7_1, m7_2, m7_3⟩
              clear hb6 f6_0_lt f6_0_c0 f6_0_c1 f6_0_c2 f6_0_c3 f6_0_c4 f6_0_c5 f6_1_lt f6_1_c0 f6_1_c1 f6_1_c2 f6_1_c3 f6_1_c4 f6_1_c5 f6_2_lt f6_2_c0 f6_2_c1 f6_2_c2 f6_2_c3 f6_3_lt f6_3_c0 f6_3_c1 f6_3_c2 f6_3_c3 f6_3_c4 f6_3_c5 m6_0 m6_1 m6_2 m6_3
              have f7_0_lt := m7_0.lt
              have f7_0_c0 := m7_0.c0
              have f7_0_c1 := m7_0.c1
              have f7_0_c2 := m7_0.c2
              have f7_0_c3 := m7_0.c3
              have f7_0_c4 := m7_0.c4
              have f7_0_c5 := m7_0.c5
              have f7_1_lt := m7_1.lt
              have f7_1_c0 := m7_1.c0
              have f7_1_c1 := m7_1.c1
              have f7_1_c2 := m7_1.c2
              have f7_1_c3 := m7_1.c3
              have f7_1_c4 := m7_1.c4
              have f7_1_c5 := m7_1.c5
              have f7_2_lt := m7_2.lt
              have f7_2_c0 := m7_2.c0
              have f7_2_c1 := m7_2.c1
              have f7_2_c2 := m7_2.c2
              have f7_2_c3 := m7_2.c3
              have f7_3_lt := m7_3.lt
              have f7_3_c0 := m7_3.c0
              have f7_3_c1 := m7_3.c1
              have f7_3_c2 := m7_3.c2
              have f7_3_c3 := m7_3.c3
              have f7_3_c4 := m7_3.c4
              have f7_3_c5 := m7_3.c5
              refine (D6.out _).mono ?_; rintro e w' ⟨rfl, q6, rfl⟩
              cases one <;> cases two
              all_goals simp only [Bool.and_true, Bool.and_false, Bool.and_self]
              all_goals
                go_wp2_with (fail)
                refine calls_world (fun W => Below w.heap.size w W ∧ BoxZ W w.heap.size a ∧ BoxZ W (w.heap.size + 1) b ∧ PtAt W (w.heap.size + 2) pa pb pc pd ∧ BoxZ W A1 m) ⟨by (repeat' (first | (with_reducible assumption) | (with_reducible exact Below.refl _ _) | (with_reducible refine below_wov ?_ ?_ _) | (with_reducible refine below_drewN ?_ _) | (with_reducible refine Below.drew ?_) | (with_reducible refine Below.alloc ?_ ?_ _) | (with_reducible refine Below.setCell ?_ ?_ _) | (with_reducible exact Nat.le_refl _) | omega | (simp only [World.size_alloc, World.size_setCell, World.size_drew, Wov_size, World.heap_drewN]; omega))), m7_0.below (by (repeat' (first | (with_reducible assumption) | (with_reducible exact Below.refl _ _) | (with_reducible refine below_wov ?_ ?_ _) | (with_reducible refine below_drewN ?_ _) | (with_reducible refine Below.drew ?_) | (with_reducible refine Below.alloc ?_ ?_ _) | (with_reducible refine Below.setCell ?_ ?_ _) | (with_reducible exact Nat.le_refl _) | omega | (simp only [World.size_alloc, World.size_setCell, World.size_drew, Wov_size, World.heap_drewN]; omega)))), m7_1.below (by (repeat' (first | (with_reducible assumption) | (with_reducible exact Below.refl _ _) | (with_reducible refine below_wov ?_ ?_ _) | (with_reducible refine below_drewN ?_ _) | (with_reducible refine Below.drew ?_) | (with_reducible refine Below.alloc ?_ ?_ _) | (with_reducible refine Below.setCell ?_ ?_ _) | (with_reducible exact Nat.le_refl _) | omega | (simp only [World.size_alloc, World.size_setCell, World.size_drew, Wov_size, World.heap_drewN]; omega)))), m7_2.below (by (repeat' (first | (with_reducible assumption) | (with_reducible exact Below.refl _ _) | (with_reducible refine below_wov ?_ ?_ _) | (with_reducible refine below_drewN ?_ _) | (with_reducible refine Below.drew ?_) | (with_reducible refine Below.alloc ?_ ?_ _) | (with_reducible refine Below.setCell ?_ ?_ _) | (with_reducible exact Nat.le_refl _) | omega | (simp only [World.size_alloc, World.size_setCell, World.size_drew, Wov_size, World.heap_drewN]; omega)))), m7_3.below (by (repeat' (first | (with_reducible assumption) | (with_reducible exact Below.refl _ _) | (with_reducible refine below_wov ?_ ?_ _) | (with_reducible refine below_drewN ?_ _) | (with_reducible refine Below.drew ?_) | (with_reducible refine Below.alloc ?_ ?_ _) | (with_reducible refine Below.setCell ?_ ?_ _) | (with_reducible exact Nat.le_refl _) | omega | (simp only [World.size_alloc, World.size_setCell, World.size_drew, Wov_size, World.heap_drewN]; omega))))⟩ ?_
                rintro W8 ⟨hb8, m8_0, m8_1, m8_2, m8_3⟩
                clear hb7 f7_0_lt f7_0_c0 f7_0_c1 f7_0_c2 f7_0_c3 f7_0_c4 f7_0_c5 f7_1_lt f7_1_c0 f7_1_c1 f7_1_c2 f7_1_c3 f7_1_c4 f7_1_c5 f7_2_lt f7_2_c0 f7_2_c1 f7_2_c2 f7_2_c3 f7_3_lt f7_3_c0 f7_3_c1 f7_3_c2 f7_3_c3 f7_3_c4 f7_3_c5 m7_0 m7_1 m7_2 m7_3
                have f8_0_lt := m8_0.lt
                have f8_0_c0 := m8_0.c0
                have f8_0_c1 := m8_0.c1
                have f8_0_c2 := m8_0.c2
                have f8_0_c3 := m8_0.c3
                have f8_0_c4 := m8_0.c4
                have f8_0_c5 := m8_0.c5
                have f8_1_lt := m8_1.lt
                have f8_1_c0 := m8_1.c0
                have f8_1_c1 := m8_1.c1
                have f8_1_c2 := m8_1.c2
                have f8_1_c3 := m8_1.c3
                have f8_1_c4 := m8_1.c4
                have f8_1_c5 := m8_1.c5
                have f8_2_lt := m8_2.lt
                have f8_2_c0 := m8_2.c0
                have f8_2_c1 := m8_2.c1
                have f8_2_c2 := m8_2.c2
                have f8_2_c3 := m8_2.c3
                have f8_3_lt := m8_3.lt
                have f8_3_c0 := m8_3.c0
                have f8_3_c1 := m8_3.c1
                have f8_3_c2 := m8_3.c2
                have f8_3_c3 := m8_3.c3
                have f8_3_c4 := m8_3.c4
                have f8_3_c5 := m8_3.c5
                refine (D7.out _).mono ?_; rintro e w' ⟨rfl, q7, rfl⟩
                go_wp2
                all_goals
                  go_ret
                  exact gives_bool (by simp) (by (repeat' (first | (with_reducible assumption) | (with_reducible exact Below.refl _ _) | (with_reducible refine below_wov ?_ ?_ _) | (with_reducible refine below_drewN ?_ _) | (with_reducible refine Below.drew ?_) | (with_reducible refine Below.alloc ?_ ?_ _) | (with_reducible refine Below.setCell ?_ ?_ _) | (with_reducible exact Nat.le_refl _) | omega | (simp only [World.size_alloc, World.size_setCell, World.size_drew, Wov_size, World.heap_drewN]; omega))))
            · skip
              have bi : (i != 0) = true := by rw [bne_iff_ne]; exact hi
              clear hi l6 C6 C7
              go_wp2
              all_goals
                go_ret
                exact gives_bool (by simp) (by (repeat' (first | (with_reducible assumption) | (with_reducible exact Below.refl _ _) | (with_reducible refine below_wov ?_ ?_ _) | (with_reducible refine below_drewN ?_ _) | (with_reducible refine Below.drew ?_) | (with_reducible refine Below.alloc ?_ ?_ _) | (with_reducible refine Below.setCell ?_ ?_ _) | (with_reducible exact Nat.le_refl _) | omega | (simp only [World.size_alloc, World.size_setCell, World.size_drew, Wov_size, World.heap_drewN]; omega))))
          · skip
            have bh : (h != 0) = true := by rw [bne_iff_ne]; exact hh
            clear hh l6 C6 C7
            go_wp2
            all_goals
              go_ret
              exact gives_bool (by simp) (by (repeat' (first | (with_reducible assumption) | (with_reducible exact Below.refl _ _) | (with_reducible refine below_wov ?_ ?_ _) | (with_reducible refine below_drewN ?_ _) | (with_reducible refine Below.drew ?_) | (with_reducible refine Below.alloc ?_ ?_ _) | (with_reducible refine Below.setCell ?_ ?_ _) | (with_reducible exact Nat.le_refl _) | omega | (simp only [World.size_alloc, World.size_setCell, World.size_drew, Wov_size, World.heap_drewN]; omega))))
    · skip
      have b0 : (e == 0) = false := by rw [beq_eq_false_iff_ne]; exact he
      have b1 : (e != 0) = true := by rw [bne_iff_ne]; exact he
      have hx0 : x = false := by rw [← Bool.not_eq_true, l4]; exact fun hh => he hh.1
      subst hx0
      clear l1 l2 l3 l4 l5 e1 e2 hm hx hy h1 h2 wa wb wpa wpb wpc wpd he
      go_enter Try.func17, Try.ntmps17
      go_wp2_with (fail)
      refine calls_world (fun W => Below w.heap.size w W ∧ BoxZ W w.heap.size a ∧ BoxZ W (w.heap.size + 1) b ∧ PtAt W (w.heap.size + 2) pa pb pc pd) ⟨by (repeat' (first | (with_reducible assumption) | (with_reducible exact Below.refl _ _) | (with_reducible refine below_wov ?_ ?_ _) | (with_reducible refine below_drewN ?_ _) | (with_reducible refine Below.drew ?_) | (with_reducible refine Below.alloc ?_ ?_ _) | (with_reducible refine Below.setCell ?_ ?_ _) | (with_reducible exact Nat.le_refl _) | omega | (simp only [World.size_alloc, World.size_setCell, World.size_drew, Wov_size, World.heap_drewN]; omega))), (BoxZ.new (W := w) (t := 26) (by simp)).below (by (repeat' (first | (with_reducible assumption) | (with_reducible exact Below.refl _ _) | (with_reducible refine below_wov ?_ ?_ _) | (with_reducible refine below_drewN ?_ _) | (with_reducible refine Below.drew ?_) | (with_reducible refine Below.alloc ?_ ?_ _) | (with_reducible refine Below.setCell ?_ ?_ _) | (with_reducible exact Nat.le_refl _) | omega | (simp only [World.size_alloc, World.size_setCell, World.size_drew, Wov_size, World.heap_drewN]; omega)))), (BoxZ.new (W := (World.alloc w (.cells #[.int .i64 (a 0), .int .i64 (a 1), .int .i64 (a 2), .int .i64 (a 3), .int .i64 (a 4), .int .i64 (a 5)] 26))) (t := 26) (by simp)).below (by (repeat' (first | (with_reducible assumption) | (with_reducible exact Below.refl _ _) | (with_reducible refine below_wov ?_ ?_ _) | (with_reducible refine below_drewN ?_ _) | (with_reducible refine Below.drew ?_) | (with_reducible refine Below.alloc ?_ ?_ _) | (with_reducible refine Below.setCell ?_ ?_ _) | (with_reducible exact Nat.le_refl _) | omega | (simp only [World.size_alloc, World.size_setCell, World.size_drew, Wov_size, World.heap_drewN]; omega)))), (PtAt.new (W := (World.alloc (World.alloc w (.cells #[.int .i64 (a 0), .int .i64 (a 1), .int .i64 (a 2), .int .i64 (a 3), .int .i64 (a 4), .int .i64 (a 5)] 26)) (.cells #[.int .i64 (b 0), .int .i64 (b 1), .int .i64 (b 2), .int .i64 (b 3), .int .i64 (b 4), .int .i64 (b 5)] 26))) (t := 79) (by simp)).below (by (repeat' (first | (with_reducible assumption) | (with_reducible exact Below.refl _ _) | (with_reducible refine below_wov ?_ ?_ _) | (with_reducible refine below_drewN ?_ _) | (with_reducible refine Below.drew ?_) | (with_reducible refine Below.alloc ?_ ?_ _) | (with_reducible refine Below.setCell ?_ ?_ _) | (with_reducible exact Nat.le_refl _) | omega | (simp only [World.size_alloc, World.size_setCell, World.size_drew, Wov_size, World.heap_drewN]; omega))))⟩ ?_
      rintro W1 ⟨hb1, m1_0, m1_1, m1_2⟩
      have f1_0_lt := m1_0.lt
      have f1_0_c0 := m1_0.c0
      have f1_0_c1 := m1_0.c1
      have f1_0_c2 := m1_0.c2
      have f1_0_c3 := m1_0.c3
      have f1_0_c4 := m1_0.c4
      have f1_0_c5 := m1_0.c5
      have f1_1_lt := m1_1.lt
      have f1_1_c0 := m1_1.c0
      have f1_1_c1 := m1_1.c1
      have f1_1_c2 := m1_1.c2
      have f1_1_c3 := m1_1.c3
      have f1_1_c4 := m1_1.c4
      have f1_1_c5 := m1_1.c5
      have f1_2_lt := m1_2.lt
      have f1_2_c0 := m1_2.c0
      have f1_2_c1 := m1_2.c1
      have f1_2_c2 := m1_2.c2
      have f1_2_c3 := m1_2.c3
      refine (HA.out _).mono ?_; rintro e w' ⟨rfl, q0, rfl⟩
      go_wp2_with (fail)
      refine calls_world (fun W => Below w.heap.size w W ∧ BoxZ W w.heap.size a ∧ BoxZ W (w.heap.size + 1) b ∧ PtAt W (w.heap.size + 2) pa pb pc pd) ⟨by (repeat' (first | (with_reducible assumption) | (with_reducible exact Below.refl _ _) | (with_reducible refine below_wov ?_ ?_ _) | (with_reducible refine below_drewN ?_ _) | (with_reducible refine Below.drew ?_) | (with_reducible refine Below.alloc ?_ ?_ _) | (with_reducible refine Below.setCell ?_ ?_ _) | (with_reducible exact Nat.le_refl _) | omega | (simp only [World.size_alloc, World.size_setCell, World.size_drew, Wov_size, World.heap_drewN]; omega))), m1_0.below (by (repeat' (first | (with_reducible assumption) | (with_reducible exact Below.refl _ _) | (with_reducible refine below_wov ?_ ?_ _) | (with_reducible refine below_drewN ?_ _) | (with_reducible refine Below.drew ?_) | (with_reducible refine Below.alloc ?_ ?_ _) | (with_reducible refine Below.setCell ?_ ?_ _) | (with_reducible exact Nat.le_refl _) | omega | (simp only [World.size_alloc, World.size_setCell, World.size_drew, Wov_size, World.heap_drewN]; omega)))), m1_1.below (by (repeat' (first | (with_reducible assumption) | (with_reducible exact Below.refl _ _) | (with_reducible refine below_wov ?_ ?_ _) | (with_reducible refine below_drewN ?_ _) | (with_reducible refine Below.drew ?_) | (with_reducible refine Below.alloc ?_ ?_ _) | (with_reducible refine Below.setCell ?_ ?_ _) | (with_reducible exact Nat.le_refl _) | omega | (simp only [World.size_alloc, World.size_setCell, World.size_drew, Wov_size, World.heap_drewN]; omega)))), m1_2.below (by (repeat' (first | (with_reducible assumption) | (with_reducible exact Below.refl _ _) | (with_reducible refine below_wov ?_ ?_ _) | (with_reducible refine below_drewN ?_ _) | (with_reducible refine Below.drew ?_) | (with_reducible refine Below.alloc ?_ ?_ _) | (with_reducible refine Below.setCell ?_ ?_ _) | (with_reducible exact Nat.le_refl _) | omega | (simp only [World.size_alloc, World.size_setCell, World.size_drew, Wov_size, World.heap_drewN]; omega))))⟩ ?_
      rintro W2 ⟨hb2, m2_0, m2_1, m2_2⟩
      clear hb1 f1_0_lt f1_0_c0 f1_0_c1 f1_0_c2 f1_0_c3 f1_0_c4 f1_0_c5 f1_1_lt f1_1_c0 f1_1_c1 f1_1_c2 f1_1_c3 f1_1_c4 f1_1_c5 f1_2_lt f1_2_c0 f1_2_c1 f1_2_c2 f1_2_c3 m1_0 m1_1 m1_2
      have f2_0_lt := m2_0.lt
      have f2_0_c0 := m2_0.c0
      have f2_0_c1 := m2_0.c1
      have f2_0_c2 := m2_0.c2
      have f2_0_c3 := m2_0.c3
      have f2_0_c4 := m2_0.c4
      have f2_0_c5 := m2_0.c5
      have f2_1_lt := m2_1.lt
      have f2_1_c0 := m2_1.c0
      have f2_1_c1 := m2_1.c1
      have f2_1_c2 := m2_1.c2
      have f2_1_c3 := m2_1.c3
      have f2_1_c4 := m2_1.c4
      have f2_1_c5 := m2_1.c5
      have f2_2_lt := m2_2.lt
      have f2_2_c0 := m2_2.c0
      have f2_2_c1 := m2_2.c1
      have f2_2_c2 := m2_2.c2
      have f2_2_c3 := m2_2.c3
      refine (C1.out _).mono ?_; rintro e w' ⟨rfl, q1, rfl⟩
      go_wp2_with (fail)
      obtain ⟨A1, hA1⟩ : ∃ A, W2.heap.size + q1.bl.size = A := ⟨_, rfl⟩
      rw [hA1]
      refine calls_world (fun W => Below w.heap.size w W ∧ BoxZ W w.heap.size a ∧ BoxZ W (w.heap.size + 1) b ∧ PtAt W (w.heap.size + 2) pa pb pc pd ∧ BoxZ W A1 m) ⟨by (repeat' (first | (with_reducible assumption) | (with_reducible exact Below.refl _ _) | (with_reducible refine below_wov ?_ ?_ _) | (with_reducible refine below_drewN ?_ _) | (with_reducible refine Below.drew ?_) | (with_reducible refine Below.alloc ?_ ?_ _) | (with_reducible refine Below.setCell ?_ ?_ _) | (with_reducible exact Nat.le_refl _) | omega | (simp only [World.size_alloc, World.size_setCell, World.size_drew, Wov_size, World.heap_drewN]; omega))), m2_0.below (by (repeat' (first | (with_reducible assumption) | (with_reducible exact Below.refl _ _) | (with_reducible refine below_wov ?_ ?_ _) | (with_reducible refine below_drewN ?_ _) | (with_reducible refine Below.drew ?_) | (with_reducible refine Below.alloc ?_ ?_ _) | (with_reducible refine Below.setCell ?_ ?_ _) | (with_reducible exact Nat.le_refl _) | omega | (simp only [World.size_alloc, World.size_setCell, World.size_drew, Wov_size, World.heap_drewN]; omega)))), m2_1.below (by (repeat' (first | (with_reducible assumption) | (with_reducible exact Below.refl _ _) | (with_reducible refine below_wov ?_ ?_ _) | (with_reducible refine below_drewN ?_ _) | (with_reducible refine Below.drew ?_) | (with_reducible refine Below.alloc ?_ ?_ _) | (with_reducible refine Below.setCell ?_ ?_ _) | (with_reducible exact Nat.le_refl _) | omega | (simp only [World.size_alloc, World.size_setCell, World.size_drew, Wov_size, World.heap_drewN]; omega)))), m2_2.below (by (repeat' (first | (with_reducible assumption) | (with_reducible exact Below.refl _ _) | (with_reducible refine below_wov ?_ ?_ _) | (with_reducible refine below_drewN ?_ _) | (with_reducible refine Below.drew ?_) | (with_reducible refine Below.alloc ?_ ?_ _) | (with_reducible refine Below.setCell ?_ ?_ _) | (with_reducible exact Nat.le_refl _) | omega | (simp only [World.size_alloc, World.size_setCell, World.size_drew, Wov_size, World.heap_drewN]; omega)))), BoxZ.new (by rw [← hA1]; (try simp only [Wov_size]))⟩ ?_
      rintro W3 ⟨hb3, m3_0, m3_1, m3_2, m3_3⟩
      clear hb2 f2_0_lt f2_0_c0 f2_0_c1 f2_0_c2 f2_0_c3 f2_0_c4 f2_0_c5 f2_1_lt f2_1_c0 f2_1_c1 f2_1_c2 f2_1_c3 f2_1_c4 f2_1_c5 f2_2_lt f2_2_c0 f2_2_c1 f2_2_c2 f2_2_c3 m2_0 m2_1 m2_2
      have f3_0_lt := m3_0.lt
      have f3_0_c0 := m3_0.c0
      have f3_0_c1 := m3_0.c1
      have f3_0_c2 := m3_0.c2
      have f3_0_c3 := m3_0.c3
      have f3_0_c4 := m3_0.c4
      have f3_0_c5 := m3_0.c5
      have f3_1_lt := m3_1.lt
      have f3_1_c0 := m3_1.c0
      have f3_1_c1 := m3_1.c1
      have f3_1_c2 := m3_1.c2
      have f3_1_c3 := m3_1.c3
      have f3_1_c4 := m3_1.c4
      have f3_1_c5 := m3_1.c5
      have f3_2_lt := m3_2.lt
      have f3_2_c0 := m3_2.c0
      have f3_2_c1 := m3_2.c1
      have f3_2_c2 := m3_2.c2
      have f3_2_c3 := m3_2.c3
      have f3_3_lt := m3_3.lt
      have f3_3_c0 := m3_3.c0
      have f3_3_c1 := m3_3.c1
      have f3_3_c2 := m3_3.c2
      have f3_3_c3 := m3_3.c3
      have f3_3_c4 := m3_3.c4
      have f3_3_c5 := m3_3.c5
      clear hA1 HA C1
      refine (C2.out _).mono ?_; rintro e w' ⟨rfl, q2, rfl⟩
      go_wp2_with (fail)
      refine calls_world (fun W => Below w.heap.size w W ∧ BoxZ W w.heap.size a ∧ BoxZ W (w.heap.size + 1) b ∧ PtAt W (w.heap.size + 2) pa pb pc pd ∧ BoxZ W A1 m) ⟨by (repeat' (first | (with_reducible assumption) | (with_reducible exact Below.refl _ _) | (with_reducible refine below_wov ?_ ?_ _) | (with_reducible refine below_drewN ?_ _) | (with_reducible refine Below.drew ?_) | (with_reducible refine Below.alloc ?_ ?_ _) | (with_reducible refine Below.setCell ?_ ?_ _) | (with_reducible exact Nat.le_refl _) | omega | (simp only [World.size_alloc, World.size_setCell, World.size_drew, Wov_size, World.heap_drewN]; omega))), m3_0.below (by (repeat' (first | (with_reducible assumption) | (with_reducible exact Below.refl _ _) | (with_reducible refine below_wov ?_ ?_ _) | (with_reducible refine below_drewN ?_ _) | (with_reducible refine Below.drew ?_) | (with_reducible refine Below.alloc ?_ ?_ _) | (with_reducible refine Below.setCell ?_ ?_ _) | (with_reducible exact Nat.le_refl _) | omega | (simp only [World.size_alloc, World.size_setCell, World.size_drew, Wov_size, World.heap_drewN]; omega)))), m3_1.below (by (repeat' (first | (with_reducible assumption) | (with_reducible exact Below.refl _ _) | (with_reducible refine below_wov ?_ ?_ _) | (with_reducible refine below_drewN ?_ _) | (with_reducible refine Below.drew ?_) | (with_reducible refine Below.alloc ?_ ?_ _) | (with_reducible refine Below.setCell ?_ ?_ _) | (with_reducible exact Nat.le_refl _) | omega | (simp only [World.size_alloc, World.size_setCell, World.size_drew, Wov_size, World.heap_drewN]; omega)))), m3_2.below (by (repeat' (first | (with_reducible assumption) | (with_reducible exact Below.refl _ _) | (with_reducible refine below_wov ?_ ?_ _) | (with_reducible refine below_drewN ?_ _) | (with_reducible refine Below.drew ?_) | (with_reducible refine Below.alloc ?_ ?_ _) | (with_reducible refine Below.setCell ?_ ?_ _) | (with_reducible exact Nat.le_refl _) | omega | (simp only [World.size_alloc, World.size_setCell, World.size_drew, Wov_size, World.heap_drewN]; omega)))), m3_3.below (by (repeat' (first | (with_reducible assumption) | (with_reducible exact Below.refl _ _) | (with_reducible refine below_wov ?_ ?_ _) | (with_reducible refine below_drewN ?_ _) | (with_reducible refine Below.drew ?_) | (with_reducible refine Below.alloc ?_ ?_ _) | (with_reducible refine Below.setCell ?_ ?_ _) | (with_reducible exact Nat.le_refl _) | omega | (simp only [World.size_alloc, World.size_setCell, World.size_drew, Wov_size, World.heap_drewN]; omega))))⟩ ?_
      rintro W4 ⟨hb4, m4_0, m4_1, m4_2, m4_3⟩
      clear hb3 f3_0_lt f3_0_c0 f3_0_c1 f3_0_c2 f3_0_c3 f3_0_c4 f3_0_c5 f3_1_lt f3_1_c0 f3_1_c1 f3_1_c2 f3_1_c3 f3_1_c4 f3_1_c5 f3_2_lt f3_2_c0 f3_2_c1 f3_2_c2 f3_2_c3 f3_3_lt f3_3_c0 f3_3_c1 f3_3_c2 f3_3_c3 f3_3_c4 f3_3_c5 m3_0 m3_1 m3_2 m3_3
      have f4_0_lt := m4_0.lt
      have f4_0_c0 := m4_0.c0
      have f4_0_c1 := m4_0.c1
      have f4_0_c2 := m4_0.c2
      have f4_0_c3 := m4_0.c3
      have f4_0_c4 := m4_0.c4
      have f4_0_c5 := m4_0.c5
      have f4_1_lt := m4_1.lt
      have f4_1_c0 := m4_1.c0
      have f4_1_c1 := m4_1.c1
      have f4_1_c2 := m4_1.c2
      have f4_1_c3 := m4_1.c3
      have f4_1_c4 := m4_1.c4
      have f4_1_c5 := m4_1.c5
      have f4_2_lt := m4_2.lt
      have f4_2_c0 := m4_2.c0
      have f4_2_c1 := m4_2.c1
      have f4_2_c2 := m4_2.c2
      have f4_2_c3 := m4_2.c3
      have f4_3_lt := m4_3.lt
      have f4_3_c0 := m4_3.c0
      have f4_3_c1 := m4_3.c1
      have f4_3_c2 := m4_3.c2
      have f4_3_c3 := m4_3.c3
      have f4_3_c4 := m4_3.c4
      have f4_3_c5 := m4_3.c5
      refine (C3.out _).mono ?_; rintro e w' ⟨rfl, q3, rfl⟩
      clear C2 C3
      go_wp2_with (fail)
      refine calls_world (fun W => Below w.heap.size w W ∧ BoxZ W w.heap.size a ∧ BoxZ W (w.heap.size + 1) b ∧ PtAt W (w.heap.size + 2) pa pb pc pd ∧ BoxZ W A1 m) ⟨by (repeat' (first | (with_reducible assumption) | (with_reducible exact Below.refl _ _) | (with_reducible refine below_wov ?_ ?_ _) | (with_reducible refine below_drewN ?_ _) | (with_reducible refine Below.drew ?_) | (with_reducible refine Below.alloc ?_ ?_ _) | (with_reducible refine Below.setCell ?_ ?_ _) | (with_reducible exact Nat.le_refl _) | omega | (simp only [World.size_alloc, World.size_setCell, World.size_drew, Wov_size, World.heap_drewN]; omega))), m4_0.below (by (repeat' (first | (with_reducible assumption) | (with_reducible exact Below.refl _ _) | (with_reducible refine below_wov ?_ ?_ _) | (with_reducible refine below_drewN ?_ _) | (with_reducible refine Below.drew ?_) | (with_reducible refine Below.alloc ?_ ?_ _) | (with_reducible refine Below.setCell ?_ ?_ _) | (with_reducible exact Nat.le_refl _) | omega | (simp only [World.size_alloc, World.size_setCell, World.size_drew, Wov_size, World.heap_drewN]; omega)))), m4_1.below (by (repeat' (first | (with_reducible assumption) | (with_reducible exact Below.refl _ _) | (with_reducible refine below_wov ?_ ?_ _) | (with_reducible refine below_drewN ?_ _) | (with_reducible refine Below.drew ?_) | (with_reducible refine Below.alloc ?_ ?_ _) | (with_reducible refine Below.setCell ?_ ?_ _) | (with_reducible exact Nat.le_refl _) | omega | (simp only [World.size_alloc, World.size_setCell, World.size_drew, Wov_size, World.heap_drewN]; omega)))), m4_2.below (by (repeat' (first | (with_reducible assumption) | (with_reducible exact Below.refl _ _) | (with_reducible refine below_wov ?_ ?_ _) | (with_reducible refine below_drewN ?_ _) | (with_reducible refine Below.drew ?_) | (with_reducible refine Below.alloc ?_ ?_ _) | (with_reducible refine Below.setCell ?_ ?_ _) | (with_reducible exact Nat.le_refl _) | omega | (simp only [World.size_alloc, World.size_setCell, World.size_drew, Wov_size, World.heap_drewN]; omega)))), m4_3.below (by (repeat' (first | (with_reducible assumption) | (with_reducible exact Below.refl _ _) | (with_reducible refine below_wov ?_ ?_ _) | (with_reducible refine below_drewN ?_ _) | (with_reducible refine Below.drew ?_) | (with_reducible refine Below.alloc ?_ ?_ _) | (with_reducible refine Below.setCell ?_ ?_ _) | (with_reducible exact Nat.le_refl _) | omega | (simp only [World.size_alloc, World.size_setCell, World.size_drew, Wov_size, World.heap_drewN]; omega))))⟩ ?_
      rintro W5 ⟨hb5, m5_0, m5_1, m5_2, m5_3⟩
      clear hb4 f4_0_lt f4_0_c0 f4_0_c1 f4_0_c2 f4_0_c3 f4_0_c4 f4_0_c5 f4_1_lt f4_1_c0 f4_1_c1 f4_1_c2 f4_1_c3 f4_1_c4 f4_1_c5 f4_2_lt f4_2_c0 f4_2_c1 f4_2_c2 f4_2_c3 f4_3_lt f4_3_c0 f4_3_c1 f4_3_c2 f4_3_c3 f4_3_c4 f4_3_c5 m4_0 m4_1 m4_2 m4_3
      have f5_0_lt := m5_0.lt
      have f5_0_c0 := m5_0.c0
      have f5_0_c1 := m5_0.c1
      have f5_0_c2 := m5_0.c2
      have f5_0_c3 := m5_0.c3
      have f5_0_c4 := m5_0.c4
      have f5_0_c5 := m5_0.c5
      have f5_1_lt := m5_1.lt
      have f5_1_c0 := m5_1.c0
      have f5_1_c1 := m5_1.c1
      have f5_1_c2 := m5_1.c2
      have f5_1_c3 := m5_1.c3
      have f5_1_c4 := m5_1.c4
      have f5_1_c5 := m5_1.c5
      have f5_2_lt := m5_2.lt
      have f5_2_c0 := m5_2.c0
      have f5_2_c1 := m5_2.c1
      have f5_2_c2 := m5_2.c2
      have f5_2_c3 := m5_2.c3
      have f5_3_lt := m5_3.lt
      have f5_3_c0 := m5_3.c0
      have f5_3_c1 := m5_3.c1
      have f5_3_c2 := m5_3.c2
      have f5_3_c3 := m5_3.c3
      have f5_3_c4 := m5_3.c4
      have f5_3_c5 := m5_3.c5
      refine (C4.out _).mono ?_; rintro e w' ⟨rfl, q4, rfl⟩
      go_wp2_with (fail)
      refine calls_world (fun W => Below w.heap.size w W ∧ BoxZ W w.heap.size a ∧ BoxZ W (w.heap.size + 1) b ∧ PtAt W (w.heap.size + 2) pa pb pc pd ∧ BoxZ W A1 m) ⟨by (repeat' (first | (with_reducible assumption) | (with_reducible exact Below.refl _ _) | (with_reducible refine below_wov ?_ ?_ _) | (with_reducible refine below_drewN ?_ _) | (with_reducible refine Below.drew ?_) | (with_reducible refine Below.alloc ?_ ?_ _) | (with_reducible refine Below.setCell ?_ ?_ _) | (with_reducible exact Nat.le_refl _) | omega | (simp only [World.size_alloc, World.size_setCell, World.size_drew, Wov_size, World.heap_drewN]; omega))), m5_0.below (by (repeat' (first | (with_reducible assumption) | (with_reducible exact Below.refl _ _) | (with_reducible refine below_wov ?_ ?_ _) | (with_reducible refine below_drewN ?_ _) | (with_reducible refine Below.drew ?_) | (with_reducible refine Below.alloc ?_ ?_ _) | (with_reducible refine Below.setCell ?_ ?_ _) | (with_reducible exact Nat.le_refl _) | omega | (simp only [World.size_alloc, World.size_setCell, World.size_drew, Wov_size, World.heap_drewN]; omega)))), m5_1.below (by (repeat' (first | (with_reducible assumption) | (with_reducible exact Below.refl _ _) | (with_reducible refine below_wov ?_ ?_ _) | (with_reducible refine below_drewN ?_ _) | (with_reducible refine Below.drew ?_) | (with_reducible refine Below.alloc ?_ ?_ _) | (with_reducible refine Below.setCell ?_ ?_ _) | (with_reducible exact Nat.le_refl _) | omega | (simp only [World.size_alloc, World.size_setCell, World.size_drew, Wov_size, World.heap_drewN]; omega)))), m5_2.below (by (repeat' (first | (with_reducible assumption) | (with_reducible exact Below.refl _ _) | (with_reducible refine below_wov ?_ ?_ _) | (with_reducible refine below_drewN ?_ _) | (with_reducible refine Below.drew ?_) | (with_reducible refine Below.alloc ?_ ?_ _) | (with_reducible refine Below.setCell ?_ ?_ _) | (with_reducible exact Nat.le_refl _) | omega | (simp only [World.size_alloc, World.size_setCell, World.size_drew, Wov_size, World.heap_drewN]; omega)))), m5_3.below (by (repeat' (first | (with_reducible assumption) | (with_reducible exact Below.refl _ _) | (with_reducible refine below_wov ?_ ?_ _) | (with_reducible refine below_drewN ?_ _) | (with_reducible refine Below.drew ?_) | (with_reducible refine Below.alloc ?_ ?_ _) | (with_reducible refine Below.setCell ?_ ?_ _) | (with_reducible exact Nat.le_refl _) | omega | (simp only [World.size_alloc, World.size_setCell, World.size_drew, Wov_size, World.heap_drewN]; omega))))⟩ ?_
      rintro W6 ⟨hb6, m6_0, m6_1, m6_2, m6_3⟩
      clear hb5 f5_0_lt f5_0_c0 f5_0_c1 f5_0_c2 f5_0_c3 f5_0_c4 f5_0_c5 f5_1_lt f5_1_c0 f5_1_c1 f5_1_c2 f5_1_c3 f5_1_c4 f5_1_c5 f5_2_lt f5_2_c0 f5_2_c1 f5_2_c2 f5_2_c3 f5_3_lt f5_3_c0 f5_3_c1 f5_3_c2 f5_3_c3 f5_3_c4 f5_3_c5 m5_0 m5_1 m5_2 m5_3
      have f6_0_lt := m6_0.lt
      have f6_0_c0 := m6_0.c0
      have f6_0_c1 := m6_0.c1
      have f6_0_c2 := m6_0.c2
      have f6_0_c3 := m6_0.c3
      have f6_0_c4 := m6_0.c4
      have f6_0_c5 := m6_0.c5
      have f6_1_lt := m6_1.lt
      have f6_1_c0 := m6_1.c0
      have f6_1_c1 := m6_1.c1
      have f6_1_c2 := m6_1.c2
      have f6_1_c3 := m6_1.c3
      have f6_1_c4 := m6_1.c4
      have f6_1_c5 := m6_1.c5
      have f6_2_lt := m6_2.lt
      have f6_2_c0 := m6_2.c0
      have f6_2_c1 := m6_2.c1
      have f6_2_c2 := m6_2.c2
      have f6_2_c3 := m6_2.c3
      have f6_3_lt := m6_3.lt
      have f6_3_c0 := m6_3.c0
      have f6_3_c1 := m6_3.c1
      have f6_3_c2 := m6_3.c2
      have f6_3_c3 := m6_3.c3
      have f6_3_c4 := m6_3.c4
      have f6_3_c5 := m6_3.c5
      refine (C5.out _).mono ?_; rintro e w' ⟨rfl, q5, rfl⟩
      clear C4 C5
      by_cases hh : h = 0
      · skip
        subst hh
        by_cases hi : i = 0
        · skip
          subst hi
          obtain ⟨y1, y2⟩ := l6 rfl rfl
          by_cases h6 : e = 6
          · skip
            subst h6
            have y3 := y1 (by simp)
            clear y1 y2 C6 C7 l6
            cases one <;> cases two
            all_goals first
              | (exfalso; simp at y3; done)
              | (clear y3; go_wp2; all_goals (go_ret; exact gives_bool (by simp) (by (repeat' (first | (with_reducible assumption) | (with_reducible exact Below.refl _ _) | (with_reducible refine below_wov ?_ ?_ _) | (with_reducible refine below_drewN ?_ _) | (with_reducible refine Below.drew ?_) | (with_reducible refine Below.alloc ?_ ?_ _) | (with_reducible refine Below.setCell ?_ ?_ _) | (with_reducible exact Nat.le_refl _) | omega | (simp only [World.size_alloc, World.size_setCell, World.size_drew, Wov_size, World.heap_drewN]; omega))))))
          · skip
            have b6 : (e == 6) = false := by rw [beq_eq_false_iff_ne]; exact h6
            clear y1 y2 C6 C7 l6 h6
            go_wp2
            all_goals
              go_ret
              exact gives_bool (by simp) (by (repeat' (first | (with_reducible assumption) | (with_reducible exact Below.refl _ _) | (with_reducible refine below_wov ?_ ?_ _) | (with_reducible refine below_drewN ?_ _) | (with_reducible refine Below.drew ?_) | (with_reducible refine Below.alloc ?_ ?_ _) | (with_reducible refine Below.setCell ?_ ?_ _) | (with_reducible exact Nat.le_refl _) | omega | (simp only [World.size_alloc, World.size_setCell, World.size_drew, Wov_size, World.heap_drewN]; omega))))
        · skip
          have bi : (i != 0) = true := by rw [bne_iff_ne]; exact hi
          clear hi l6 C6 C7
          go_wp2
          all_goals
            go_ret
            exact gives_bool (by simp) (by (repeat' (first | (with_reducible assumption) | (with_reducible exact Below.refl _ _) | (with_reducible refine below_wov ?_ ?_ _) | (with_reducible refine below_drewN ?_ _) | (with_reducible refine Below.drew ?_) | (with_reducible refine Below.alloc ?_ ?_ _) | (with_reducible refine Below.setCell ?_ ?_ _) | (with_reducible exact Nat.le_refl _) | omega | (simp only [World.size_alloc, World.size_setCell, World.size_drew, Wov_size, World.heap_drewN]; omega))))
      · skip
        have bh : (h != 0) = true := by rw [bne_iff_ne]; exact hh
        clear hh l6 C6 C7
        go_wp2
        all_goals
          go_ret
          exact gives_bool (by simp) (by (repeat' (first | (with_reducible assumption) | (with_reducible exact Below.refl _ _) | (with_reducible refine below_wov ?_ ?_ _) | (with_reducible refine below_drewN ?_ _) | (with_reducible refine Below.drew ?_) | (with_reducible refine Below.alloc ?_ ?_ _) | (with_reducible refine Below.setCell ?_ ?_ _) | (with_reducible exact Nat.le_refl _) | omega | (simp only [World.size_alloc, World.size_setCell, World.size_drew, Wov_size, World.heap_drewN]; omega))))
  · skip
    have he := l1 hf
    subst he
    have bf : (f != 0) = true := by rw [bne_iff_ne]; exact hf
    clear l1 l2 e1 e2 hm hx hy h1 h2 wa wb wpa wpb wpc wpd C4 C5 C6 C7 hf
    go_enter Try.func17, Try.ntmps17
    go_wp2_with (fail)
    refine calls_world (fun W => Below w.heap.size w W ∧ BoxZ W w.heap.size a ∧ BoxZ W (w.heap.size + 1) b ∧ PtAt W (w.heap.size + 2) pa pb pc pd) ⟨by (repeat' (first | (with_reducible assumption) | (with_reducible exact Below.refl _ _) | (with_reducible refine below_wov ?_ ?_ _) | (with_reducible refine below_drewN ?_ _) | (with_reducible refine Below.drew ?_) | (with_reducible refine Below.alloc ?_ ?_ _) | (with_reducible refine Below.setCell ?_ ?_ _) | (with_reducible exact Nat.le_refl _) | omega | (simp only [World.size_alloc, World.size_setCell, World.size_drew, Wov_size, World.heap_drewN]; omega))), (BoxZ.new (W := w) (t := 26) (by simp)).below (by (repeat' (first | (with_reducible assumption) | (with_reducible exact Below.refl _ _) | (with_reducible refine below_wov ?_ ?_ _) | (with_reducible refine below_drewN ?_ _) | (with_reducible refine Below.drew ?_) | (with_reducible refine Below.alloc ?_ ?_ _) | (with_reducible refine Below.setCell ?_ ?_ _) | (with_reducible exact Nat.le_refl _) | omega | (simp only [World.size_alloc, World.size_setCell, World.size_drew, Wov_size, World.heap_drewN]; omega)))), (BoxZ.new (W := (World.alloc w (.cells #[.int .i64 (a 0), .int .i64 (a 1), .int .i64 (a 2), .int .i64 (a 3), .int .i64 (a 4), .int .i64 (a 5)] 26))) (t := 26) (by simp)).below (by (repeat' (first | (with_reducible assumption) | (with_reducible exact Below.refl _ _) | (with_reducible refine below_wov ?_ ?_ _) | (with_reducible refine below_drewN ?_ _) | (with_reducible refine Below.drew ?_) | (with_reducible refine Below.alloc ?_ ?_ _) | (with_reducible refine Below.setCell ?_ ?_ _) | (with_reducible exact Nat.le_refl _) | omega | (simp only [World.size_alloc, World.size_setCell, World.size_drew, Wov_size, World.heap_drewN]; omega)))), (PtAt.new (W := (World.alloc (World.alloc w (.cells #[.int .i64 (a 0), .int .i64 (a 1), .int .i64 (a 2), .int .i64 (a 3), .int .i64 (a 4), .int .i64 (a 5)] 26)) (.cells #[.int .i64 (b 0), .int .i64 (b 1), .int .i64 (b 2), .int .i64 (b 3), .int .i64 (b 4), .int .i64 (b 5)] 26))) (t := 79) (by simp)).below (by (repeat' (first | (with_reducible assumption) | (with_reducible exact Below.refl _ _) | (with_reducible refine below_wov ?_ ?_ _) | (with_reducible refine below_drewN ?_ _) | (with_reducible refine Below.drew ?_) | (with_reducible refine Below.alloc ?_ ?_ _) | (with_reducible refine Below.setCell ?_ ?_ _) | (with_reducible exact Nat.le_refl _) | omega | (simp only [World.size_alloc, World.size_setCell, World.size_drew, Wov_size, World.heap_drewN]; omega))))⟩ ?_
    rintro W1 ⟨hb1, m1_0, m1_1, m1_2⟩
    have f1_0_lt := m1_0.lt
    have f1_0_c0 := m1_0.c0
    have f1_0_c1 := m1_0.c1
    have f1_0_c2 := m1_0.c2
    have f1_0_c3 := m1_0.c3
    have f1_0_c4 := m1_0.c4
    have f1_0_c5 := m1_0.c5
    have f1_1_lt := m1_1.lt
    have f1_1_c0 := m1_1.c0
    have f1_1_c1 := m1_1.c1
    have f1_1_c2 := m1_1.c2
    have f1_1_c3 := m1_1.c3
    have f1_1_c4 := m1_1.c4
    have f1_1_c5 := m1_1.c5
    have f1_2_lt := m1_2.lt
    have f1_2_c0 := m1_2.c0
    have f1_2_c1 := m1_2.c1
    have f1_2_c2 := m1_2.c2
    have f1_2_c3 := m1_2.c3
    refine (HA.out _).mono ?_; rintro e w' ⟨rfl, q0, rfl⟩
    go_wp2_with (fail)
    refine calls_world (fun W => Below w.heap.size w W ∧ BoxZ W w.heap.size a ∧ BoxZ W (w.heap.size + 1) b ∧ PtAt W (w.heap.size + 2) pa pb pc pd) ⟨by (repeat' (first | (with_reducible assumption) | (with_reducible exact Below.refl _ _) | (with_reducible refine below_wov ?_ ?_ _) | (with_reducible refine below_drewN ?_ _) | (with_reducible refine Below.drew ?_) | (with_reducible refine Below.alloc ?_ ?_ _) | (with_reducible refine Below.setCell ?_ ?_ _) | (with_reducible exact Nat.le_refl _) | omega | (simp only [World.size_alloc, World.size_setCell, World.size_drew, Wov_size, World.heap_drewN]; omega))), m1_0.below (by (repeat' (first | (with_reducible assumption) | (with_reducible exact Below.refl _ _) | (with_reducible refine below_wov ?_ ?_ _) | (with_reducible refine below_drewN ?_ _) | (with_reducible refine Below.drew ?_) | (with_reducible refine Below.alloc ?_ ?_ _) | (with_reducible refine Below.setCell ?_ ?_ _) | (with_reducible exact Nat.le_refl _) | omega | (simp only [World.size_alloc, World.size_setCell, World.size_drew, Wov_size, World.heap_drewN]; omega)))), m1_1.below (by (repeat' (first | (with_reducible assumption) | (with_reducible exact Below.refl _ _) | (with_reducible refine below_wov ?_ ?_ _) | (with_reducible refine below_drewN ?_ _) | (with_reducible refine Below.drew ?_) | (with_reducible refine Below.alloc ?_ ?_ _) | (with_reducible refine Below.setCell ?_ ?_ _) | (with_reducible exact Nat.le_refl _) | omega | (simp only [World.size_alloc, World.size_setCell, World.size_drew, Wov_size, World.heap_drewN]; omega)))), m1_2.below (by (repeat' (first | (with_reducible assumption) | (with_reducible exact Below.refl _ _) | (with_reducible refine below_wov ?_ ?_ _) | (with_reducible refine below_drewN ?_ _) | (with_reducible refine Below.drew ?_) | (with_reducible refine Below.alloc ?_ ?_ _) | (with_reducible refine Below.setCell ?_ ?_ _) | (with_reducible exact Nat.le_refl _) | omega | (simp only [World.size_alloc, World.size_setCell, World.size_drew, Wov_size, World.heap_drewN]; omega))))⟩ ?_
    rintro W2 ⟨hb2, m2_0, m2_1, m2_2⟩
    clear hb1 f1_0_lt f1_0_c0 f1_0_c1 f1_0_c2 f1_0_c3 f1_0_c4 f1_0_c5 f1_1_lt f1_1_c0 f1_1_c1 f1_1_c2 f1_1_c3 f1_1_c4 f1_1_c5 f1_2_lt f1_2_c0 f1_2_c1 f1_2_c2 f1_2_c3 m1_0 m1_1 m1_2
    have f2_0_lt := m2_0.lt
    have f2_0_c0 := m2_0.c0
    have f2_0_c1 := m2_0.c1
    have f2_0_c2 := m2_0.c2
    have f2_0_c3 := m2_0.c3
    have f2_0_c4 := m2_0.c4
    have f2_0_c5 := m2_0.c5
    have f2_1_lt := m2_1.lt
    have f2_1_c0 := m2_1.c0
    have f2_1_c1 := m2_1.c1
    have f2_1_c2 := m2_1.c2
    have f2_1_c3 := m2_1.c3
    have f2_1_c4 := m2_1.c4
    have f2_1_c5 := m2_1.c5
    have f2_2_lt := m2_2.lt
    have f2_2_c0 := m2_2.c0
    have f2_2_c1 := m2_2.c1
    have f2_2_c2 := m2_2.c2
    have f2_2_c3 := m2_2.c3
    refine (C1.out _).mono ?_; rintro e w' ⟨rfl, q1, rfl⟩
    go_wp2_with (fail)
    obtain ⟨A1, hA1⟩ : ∃ A, W2.heap.size + q1.bl.size = A := ⟨_, rfl⟩
    rw [hA1]
    refine calls_world (fun W => Below w.heap.size w W ∧ BoxZ W w.heap.size a ∧ BoxZ W (w.heap.size + 1) b ∧ PtAt W (w.heap.size + 2) pa pb pc pd ∧ BoxZ W A1 m) ⟨by (repeat' (first | (with_reducible assumption) | (with_reducible exact Below.refl _ _) | (with_reducible refine below_wov ?_ ?_ _) | (with_reducible refine below_drewN ?_ _) | (with_reducible refine Below.drew ?_) | (with_reducible refine Below.alloc ?_ ?_ _) | (with_reducible refine Below.setCell ?_ ?_ _) | (with_reducible exact Nat.le_refl _) | omega | (simp only [World.size_alloc, World.size_setCell, World.size_drew, Wov_size, World.heap_drewN]; omega))), m2_0.below (by (repeat' (first | (with_reducible assumption) | (with_reducible exact Below.refl _ _) | (with_reducible refine below_wov ?_ ?_ _) | (with_reducible refine below_drewN ?_ _) | (with_reducible refine Below.drew ?_) | (with_reducible refine Below.alloc ?_ ?_ _) | (with_reducible refine Below.setCell ?_ ?_ _) | (with_reducible exact Nat.le_refl _) | omega | (simp only [World.size_alloc, World.size_setCell, World.size_drew, Wov_size, World.heap_drewN]; omega)))), m2_1.below (by (repeat' (first | (with_reducible assumption) | (with_reducible exact Below.refl _ _) | (with_reducible refine below_wov ?_ ?_ _) | (with_reducible refine below_drewN ?_ _) | (with_reducible refine Below.drew ?_) | (with_reducible refine Below.alloc ?_ ?_ _) | (with_reducible refine Below.setCell ?_ ?_ _) | (with_reducible exact Nat.le_refl _) | omega | (simp only [World.size_alloc, World.size_setCell, World.size_drew, Wov_size, World.heap_drewN]; omega)))), m2_2.below (by (repeat' (first | (with_reducible assumption) | (with_reducible exact Below.refl _ _) | (with_reducible refine below_wov ?_ ?_ _) | (with_reducible refine below_drewN ?_ _) | (with_reducible refine Below.drew ?_) | (with_reducible refine Below.alloc ?_ ?_ _) | (with_reducible refine Below.setCell ?_ ?_ _) | (with_reducible exact Nat.le_refl _) | omega | (simp only [World.size_alloc, World.size_setCell, World.size_drew, Wov_size, World.heap_drewN]; omega)))), BoxZ.new (by rw [← hA1]; (try simp only [Wov_size]))⟩ ?_
    rintro W3 ⟨hb3, m3_0, m3_1, m3_2, m3_3⟩
    clear hb2 f2_0_lt f2_0_c0 f2_0_c1 f2_0_c2 f2_0_c3 f2_0_c4 f2_0_c5 f2_1_lt f2_1_c0 f2_1_c1 f2_1_c2 f2_1_c3 f2_1_c4 f2_1_c5 f2_2_lt f2_2_c0 f2_2_c1 f2_2_c2 f2_2_c3 m2_0 m2_1 m2_2
    have f3_0_lt := m3_0.lt
    have f3_0_c0 := m3_0.c0
    have f3_0_c1 := m3_0.c1
    have f3_0_c2 := m3_0.c2
    have f3_0_c3 := m3_0.c3
    have f3_0_c4 := m3_0.c4
    have f3_0_c5 := m3_0.c5
    have f3_1_lt := m3_1.lt
    have f3_1_c0 := m3_1.c0
    have f3_1_c1 := m3_1.c1
    have f3_1_c2 := m3_1.c2
    have f3_1_c3 := m3_1.c3
    have f3_1_c4 := m3_1.c4
    have f3_1_c5 := m3_1.c5
    have f3_2_lt := m3_2.lt
    have f3_2_c0 := m3_2.c0
    have f3_2_c1 := m3_2.c1
    have f3_2_c2 := m3_2.c2
    have f3_2_c3 := m3_2.c3
    have f3_3_lt := m3_3.lt
    have f3_3_c0 := m3_3.c0
    have f3_3_c1 := m3_3.c1
    have f3_3_c2 := m3_3.c2
    have f3_3_c3 := m3_3.c3
    have f3_3_c4 := m3_3.c4
    have f3_3_c5 := m3_3.c5
    clear hA1 HA C1
    refine (C2.out _).mono ?_; rintro e w' ⟨rfl, q2, rfl⟩
    go_wp2_with (fail)
    refine calls_world (fun W => Below w.heap.size w W ∧ BoxZ W w.heap.size a ∧ BoxZ W (w.heap.size + 1) b ∧ PtAt W (w.heap.size + 2) pa pb pc pd ∧ BoxZ W A1 m) ⟨by (repeat' (first | (with_reducible assumption) | (with_reducible exact Below.refl _ _) | (with_reducible refine below_wov ?_ ?_ _) | (with_reducible refine below_drewN ?_ _) | (with_reducible refine Below.drew ?_) | (with_reducible refine Below.alloc ?_ ?_ _) | (with_reducible refine Below.setCell ?_ ?_ _) | (with_reducible exact Nat.le_refl _) | omega | (simp only [World.size_alloc, World.size_setCell, World.size_drew, Wov_size, World.heap_drewN]; omega))), m3_0.below (by (repeat' (first | (with_reducible assumption) | (with_reducible exact Below.refl _ _) | (with_reducible refine below_wov ?_ ?_ _) | (with_reducible refine below_drewN ?_ _) | (with_reducible refine Below.drew ?_) | (with_reducible refine Below.alloc ?_ ?_ _) | (with_reducible refine Below.setCell ?_ ?_ _) | (with_reducible exact Nat.le_refl _) | omega | (simp only [World.size_alloc, World.size_setCell, World.size_drew, Wov_size, World.heap_drewN]; omega)))), m3_1.below (by (repeat' (first | (with_reducible assumption) | (with_reducible exact Below.refl _ _) | (with_reducible refine below_wov ?_ ?_ _) | (with_reducible refine below_drewN ?_ _) | (with_reducible refine Below.drew ?_) | (with_reducible refine Below.alloc ?_ ?_ _) | (with_reducible refine Below.setCell ?_ ?_ _) | (with_reducible exact Nat.le_refl _) | omega | (simp only [World.size_alloc, World.size_setCell, World.size_drew, Wov_size, World.heap_drewN]; omega)))), m3_2.below (by (repeat' (first | (with_reducible assumption) | (with_reducible exact Below.refl _ _) | (with_reducible refine below_wov ?_ ?_ _) | (with_reducible refine below_drewN ?_ _) | (with_reducible refine Below.drew ?_) | (with_reducible refine Below.alloc ?_ ?_ _) | (with_reducible refine Below.setCell ?_ ?_ _) | (with_reducible exact Nat.le_refl _) | omega | (simp only [World.size_alloc, World.size_setCell, World.size_drew, Wov_size, World.heap_drewN]; omega)))), m3_3.below (by (repeat' (first | (with_reducible assumption) | (with_reducible exact Below.refl _ _) | (with_reducible refine below_wov ?_ ?_ _) | (with_reducible refine below_drewN ?_ _) | (with_reducible refine Below.drew ?_) | (with_reducible refine Below.alloc ?_ ?_ _) | (with_reducible refine Below.setCell ?_ ?_ _) | (with_reducible exact Nat.le_refl _) | omega | (simp only [World.size_alloc, World.size_setCell, World.size_drew, Wov_size, World.heap_drewN]; omega))))⟩ ?_
    rintro W4 ⟨hb4, m4_0, m4_1, m4_2, m4_3⟩
    clear hb3 f3_0_lt f3_0_c0 f3_0_c1 f3_0_c2 f3_0_c3 f3_0_c4 f3_0_c5 f3_1_lt f3_1_c0 f3_1_c1 f3_1_c2 f3_1_c3 f3_1_c4 f3_1_c5 f3_2_lt f3_2_c0 f3_2_c1 f3_2_c2 f3_2_c3 f3_3_lt f3_3_c0 f3_3_c1 f3_3_c2 f3_3_c3 f3_3_c4 f3_3_c5 m3_0 m3_1 m3_2 m3_3
    have f4_0_lt := m4_0.lt
    have f4_0_c0 := m4_0.c0
    have f4_0_c1 := m4_0.c1
    have f4_0_c2 := m4_0.c2
    have f4_0_c3 := m4_0.c3
    have f4_0_c4 := m4_0.c4
    have f4_0_c5 := m4_0.c5
    have f4_1_lt := m4_1.lt
    have f4_1_c0 := m4_1.c0
    have f4_1_c1 := m4_1.c1
    have f4_1_c2 := m4_1.c2
    have f4_1_c3 := m4_1.c3
    have f4_1_c4 := m4_1.c4
    have f4_1_c5 := m4_1.c5
    have f4_2_lt := m4_2.lt
    have f4_2_c0 := m4_2.c0
    have f4_2_c1 := m4_2.c1
    have f4_2_c2 := m4_2.c2
    have f4_2_c3 := m4_2.c3
    have f4_3_lt := m4_3.lt
    have f4_3_c0 := m4_3.c0
    have f4_3_c1 := m4_3.c1
    have f4_3_c2 := m4_3.c2
    have f4_3_c3 := m4_3.c3
    have f4_3_c4 := m4_3.c4
    have f4_3_c5 := m4_3.c5
    refine (C3.out _).mono ?_; rintro e w' ⟨rfl, q3, rfl⟩
    clear C2 C3
    go_wp2
    all_goals
      go_ret
      exact gives_bool (by simp) (by (repeat' (first | (with_reducible assumption) | (with_reducible exact Below.refl _ _) | (with_reducible refine below_wov ?_ ?_ _) | (with_reducible refine below_drewN ?_ _) | (with_reducible refine Below.drew ?_) | (with_reducible refine Below.alloc ?_ ?_ _) | (with_reducible refine Below.setCell ?_ ?_ _) | (with_reducible exact Nat.le_refl _) | omega | (simp only [World.size_alloc, World.size_setCell, World.size_drew, Wov_size, World.heap_drewN]; omega))))
end Go.Proofs.Ytnjhjgkekmjmdaa.zoneMeets
