/- The law ZoneMakes (walk): the zone of spans, or the error, is the document's. No condition. -/
import Derived.Test.YtnjhjgkekmjmdaaH4
import Derived.Test.YtnjhjgkekmjmdaaH13
import Derived.Test.YtnjhjgkekmjmdaaH14
namespace Go.Proofs.Ytnjhjgkekmjmdaa.zoneMakes
open Go.ChangeShapes Go.WideShapes Go.ChangeAt Go.RowKit
set_option linter.unusedVariables false
set_option linter.unusedSimpArgs false
attribute [local go_sem] Nat.add_assoc Nat.add_lt_add_iff_left lit_lt_add

set_option maxRecDepth 100000 in
set_option maxHeartbeats 16000000 in
theorem walk (tlo : Int) (tls : Bool) (thi : Int) (ths top : Bool) (wt1 : fits64 tlo) (wt2 : fits64 thi) (ulo : Int) (uls : Bool) (uhi : Int) (uhs uop : Bool) (wu1 : fits64 ulo) (wu2 : fits64 uhi) (dlo : Int) (dls : Bool) (dhi : Int) (dhs dop : Bool) (wd1 : fits64 dlo) (wd2 : fits64 dhi) (w : World) :
    Calls Try.prog 3 #[.agg #[.int .i64 tlo, .bool tls, .int .i64 thi, .bool ths, .bool top], .agg #[.int .i64 ulo, .bool uls, .int .i64 uhi, .bool uhs, .bool uop], .agg #[.int .i64 dlo, .bool dls, .int .i64 dhi, .bool dhs, .bool dop]] w (Gives w (.bool true)) := by
  obtain ⟨⟨z, e⟩, hz⟩ : ∃ r, r = madeZ ⟨tlo, tls, thi, ths, top⟩ ⟨ulo, uls, uhi, uhs, uop⟩ ⟨dlo, dls, dhi, dhs, dop⟩ := ⟨_, rfl⟩
  have C1 : Hid (∀ w, Calls Try.prog 24 #[.agg #[.int .i64 tlo, .bool tls, .int .i64 thi, .bool ths, .bool top], .agg #[.int .i64 ulo, .bool uls, .int .i64 uhi, .bool uhs, .bool uop], .agg #[.int .i64 dlo, .bool dls, .int .i64 dhi, .bool dhs, .bool dop]] w (Gives w (.tuple #[.agg #[.int .i64 (z 0), .int .i64 (z 1), .int .i64 (z 2), .int .i64 (z 3), .int .i64 (z 4), .int .i64 (z 5)], .int .i64 e]))) := fun w => by
    have := zmake_any tlo tls thi ths top ulo uls uhi uhs uop dlo dls dhi dhs dop w wt1 wt2 wu1 wu2 wd1 wd2
    rw [show makeZ (betwS tlo tls thi ths top) (betwS ulo uls uhi uhs uop) (betwS dlo dls dhi dhs dop) = (z, e) from (make_eq ⟨tlo, tls, thi, ths, top⟩ ⟨ulo, uls, uhi, uhs, uop⟩ ⟨dlo, dls, dhi, dhs, dop⟩).trans hz.symm] at this
    exact this
  have C2 : Hid (∀ w, Calls Try.prog 25 #[.agg #[.int .i64 tlo, .bool tls, .int .i64 thi, .bool ths, .bool top], .agg #[.int .i64 ulo, .bool uls, .int .i64 uhi, .bool uhs, .bool uop], .agg #[.int .i64 dlo, .bool dls, .int .i64 dhi, .bool dhs, .bool dop]] w (Gives w (.tuple #[.agg #[.int .i64 (z 0), .int .i64 (z 1), .int .i64 (z 2), .int .i64 (z 3), .int .i64 (z 4), .int .i64 (z 5)], .int .i64 e]))) := fun w => by
    have := make8_any ⟨tlo, tls, thi, ths, top⟩ ⟨ulo, uls, uhi, uhs, uop⟩ ⟨dlo, dls, dhi, dhs, dop⟩ wt1 wt2 wu1 wu2 wd1 wd2 w
    rw [← hz] at this
    exact this
  have E : eq6 (z 0) (z 1) (z 2) (z 3) (z 4) (z 5) (z 0) (z 1) (z 2) (z 3) (z 4) (z 5) = true := (eq6_iff z z).2 (fun _ _ => rfl)
  clear hz wt1 wt2 wu1 wu2 wd1 wd2
  go_enter Try.func3, Try.ntmps3
  go_wp2_with (fail)
  refine calls_world (fun W => Below w.heap.size w W ∧ BoxS W w.heap.size tlo tls thi ths top ∧ BoxS W (w.heap.size + 1) ulo uls uhi uhs uop ∧ BoxS W (w.heap.size + 2) dlo dls dhi dhs dop) ⟨by (repeat' (first | (with_reducible assumption) | (with_reducible exact Below.refl _ _) | (with_reducible refine below_wov ?_ ?_ _) | (with_reducible refine below_drewN ?_ _) | (with_reducible refine Below.drew ?_) | (with_reducible refine Below.alloc ?_ ?_ _) | (with_reducible refine Below.setCell ?_ ?_ _) | (with_reducible exact Nat.le_refl _) | omega | (simp only [World.size_alloc, World.size_setCell, World.size_drew, Wov_size, World.heap_drewN]; omega))), (BoxS.new (W := w) (t := 23) (by simp)).below (by (repeat' (first | (with_reducible assumption) | (with_reducible exact Below.refl _ _) | (with_reducible refine below_wov ?_ ?_ _) | (with_reducible refine below_drewN ?_ _) | (with_reducible refine Below.drew ?_) | (with_reducible refine Below.alloc ?_ ?_ _) | (with_reducible refine Below.setCell ?_ ?_ _) | (with_reducible exact Nat.le_refl _) | omega | (simp only [World.size_alloc, World.size_setCell, World.size_drew, Wov_size, World.heap_drewN]; omega)))), (BoxS.new (W := (World.alloc w (.cells #[.int .i64 tlo, .bool tls, .int .i64 thi, .bool ths, .bool top] 23))) (t := 23) (by simp)).below (by (repeat' (first | (with_reducible assumption) | (with_reducible exact Below.refl _ _) | (with_reducible refine below_wov ?_ ?_ _) | (with_reducible refine below_drewN ?_ _) | (with_reducible refine Below.drew ?_) | (with_reducible refine Below.alloc ?_ ?_ _) | (with_reducible refine Below.setCell ?_ ?_ _) | (with_reducible exact Nat.le_refl _) | omega | (simp only [World.size_alloc, World.size_setCell, World.size_drew, Wov_size, World.heap_drewN]; omega)))), (BoxS.new (W := (World.alloc (World.alloc w (.cells #[.int .i64 tlo, .bool tls, .int .i64 thi, .bool ths, .bool top] 23)) (.cells #[.int .i64 ulo, .bool uls, .int .i64 uhi, .bool uhs, .bool uop] 23))) (t := 23) (by simp)).below (by (repeat' (first | (with_reducible assumption) | (with_reducible exact Below.refl _ _) | (with_reducible refine below_wov ?_ ?_ _) | (with_reducible refine below_drewN ?_ _) | (with_reducible refine Below.drew ?_) | (with_reducible refine Below.alloc ?_ ?_ _) | (with_reducible refine Below.setCell ?_ ?_ _) | (with_reducible exact Nat.le_refl _) | omega | (simp only [World.size_alloc, World.size_setCell, World.size_drew, Wov_size, World.heap_drewN]; omega))))⟩ ?_
  rintro W1 ⟨hb1, m1_0, m1_1, m1_2⟩
  have f1_0_lt := m1_0.lt
  have f1_0_c0 := m1_0.c0
  have f1_0_c1 := m1_0.c1
  have f1_0_c2 := m1_0.c2
  have f1_0_c3 := m1_0.c3
  have f1_0_c4 := m1_0.c4
  have f1_1_lt := m1_1.lt
  have f1_1_c0 := m1_1.c0
  have f1_1_c1 := m1_1.c1
  have f1_1_c2 := m1_1.c2
  have f1_1_c3 := m1_1.c3
  have f1_1_c4 := m1_1.c4
  have f1_2_lt := m1_2.lt
  have f1_2_c0 := m1_2.c0
  have f1_2_c1 := m1_2.c1
  have f1_2_c2 := m1_2.c2
  have f1_2_c3 := m1_2.c3
  have f1_2_c4 := m1_2.c4
  refine (C1.out _).mono ?_; rintro e w' ⟨rfl, q1, rfl⟩
  go_wp2_with (fail)
  obtain ⟨A1, hA1⟩ : ∃ A, W1.heap.size + q1.bl.size = A := ⟨_, rfl⟩
  rw [hA1]
  refine calls_world (fun W => Below w.heap.size w W ∧ BoxS W w.heap.size tlo tls thi ths top ∧ BoxS W (w.heap.size + 1) ulo uls uhi uhs uop ∧ BoxS W (w.heap.size + 2) dlo dls dhi dhs dop ∧ BoxZ W A1 z) ⟨by (repeat' (first | (with_reducible assumption) | (with_reducible exact Below.refl _ _) | (with_reducible refine below_wov ?_ ?_ _) | (with_reducible refine below_drewN ?_ _) | (with_reducible refine Below.drew ?_) | (with_reducible refine Below.alloc ?_ ?_ _) | (with_reducible refine Below.setCell ?_ ?_ _) | (with_reducible exact Nat.le_refl _) | omega | (simp only [World.size_alloc, World.size_setCell, World.size_drew, Wov_size, World.heap_drewN]; omega))), m1_0.below (by (repeat' (first | (with_reducible assumption) | (with_reducible exact Below.refl _ _) | (with_reducible refine below_wov ?_ ?_ _) | (with_reducible refine below_drewN ?_ _) | (with_reducible refine Below.drew ?_) | (with_reducible refine Below.alloc ?_ ?_ _) | (with_reducible refine Below.setCell ?_ ?_ _) | (with_reducible exact Nat.le_refl _) | omega | (simp only [World.size_alloc, World.size_setCell, World.size_drew, Wov_size, World.heap_drewN]; omega)))), m1_1.below (by (repeat' (first | (with_reducible assumption) | (with_reducible exact Below.refl _ _) | (with_reducible refine below_wov ?_ ?_ _) | (with_reducible refine below_drewN ?_ _) | (with_reducible refine Below.drew ?_) | (with_reducible refine Below.alloc ?_ ?_ _) | (with_reducible refine Below.setCell ?_ ?_ _) | (with_reducible exact Nat.le_refl _) | omega | (simp only [World.size_alloc, World.size_setCell, World.size_drew, Wov_size, World.heap_drewN]; omega)))), m1_2.below (by (repeat' (first | (with_reducible assumption) | (with_reducible exact Below.refl _ _) | (with_reducible refine below_wov ?_ ?_ _) | (with_reducible refine below_drewN ?_ _) | (with_reducible refine Below.drew ?_) | (with_reducible refine Below.alloc ?_ ?_ _) | (with_reducible refine Below.setCell ?_ ?_ _) | (with_reducible exact Nat.le_refl _) | omega | (simp only [World.size_alloc, World.size_setCell, World.size_drew, Wov_size, World.heap_drewN]; omega)))), BoxZ.new (by rw [← hA1]; (try simp only [Wov_size]))⟩ ?_
  rintro W2 ⟨hb2, m2_0, m2_1, m2_2, m2_3⟩
  clear hb1 f1_0_lt f1_0_c0 f1_0_c1 f1_0_c2 f1_0_c3 f1_0_c4 f1_1_lt f1_1_c0 f1_1_c1 f1_1_c2 f1_1_c3 f1_1_c4 f1_2_lt f1_2_c0 f1_2_c1 f1_2_c2 f1_2_c3 f1_2_c4 m1_0 m1_1 m1_2
  have f2_0_lt := m2_0.lt
  have f2_0_c0 := m2_0.c0
  have f2_0_c1 := m2_0.c1
  have f2_0_c2 := m2_0.c2
  have f2_0_c3 := m2_0.c3
  have f2_0_c4 := m2_0.c4
  have f2_1_lt := m2_1.lt
  have f2_1_c0 := m2_1.c0
  have f2_1_c1 := m2_1.c1
  have f2_1_c2 := m2_1.c2
  have f2_1_c3 := m2_1.c3
  have f2_1_c4 := m2_1.c4
  have f2_2_lt := m2_2.lt
  have f2_2_c0 := m2_2.c0
  have f2_2_c1 := m2_2.c1
  have f2_2_c2 := m2_2.c2
  have f2_2_c3 := m2_2.c3
  have f2_2_c4 := m2_2.c4
  have f2_3_lt := m2_3.lt
  have f2_3_c0 := m2_3.c0
  have f2_3_c1 := m2_3.c1
  have f2_3_c2 := m2_3.c2
  have f2_3_c3 := m2_3.c3
  have f2_3_c4 := m2_3.c4
  have f2_3_c5 := m2_3.c5
  clear hA1 C1
  refine (C2.out _).mono ?_; rintro e w' ⟨rfl, q2, rfl⟩
  go_wp2
  all_goals
    go_ret
    exact gives_bool (by simp) (by (repeat' (first | (with_reducible assumption) | (with_reducible exact Below.refl _ _) | (with_reducible refine below_wov ?_ ?_ _) | (with_reducible refine below_drewN ?_ _) | (with_reducible refine Below.drew ?_) | (with_reducible refine Below.alloc ?_ ?_ _) | (with_reducible refine Below.setCell ?_ ?_ _) | (with_reducible exact Nat.le_refl _) | omega | (simp only [World.size_alloc, World.size_setCell, World.size_drew, Wov_size, World.heap_drewN]; omega))))
end Go.Proofs.Ytnjhjgkekmjmdaa.zoneMakes
