/- The law MinusNone (walk): what is left of one by itself is nothing; what is left shares no point with what went. No condition. -/
import Derived.Test.YtnjhjgkekmjmdaaJ7
import Derived.Test.YtnjhjgkekmjmdaaJ10
import Derived.Test.YtnjhjgkekmjmdaaH9
import Derived.Test.YtnjhjgkekmjmdaaH12
import Derived.Deep.Cut
namespace Go.Proofs.Ytnjhjgkekmjmdaa.minusNone
open Go.ChangeShapes Go.WideShapes Go.ChangeAt Go.RowKit
set_option linter.unusedVariables false
set_option linter.unusedSimpArgs false
attribute [local go_sem] Nat.add_assoc Nat.add_lt_add_iff_left lit_lt_add

set_option maxRecDepth 100000 in
set_option maxHeartbeats 16000000 in
theorem walk (a : Nat → Int) (wa : FitsZ a) (b : Nat → Int) (wb : FitsZ b) (w : World) :
    Calls Try.prog 14 #[zoneV a, zoneV b] w (Gives w (.bool true)) := by
  have HA := Lib.hid alive11
  have MA : Hid (∀ r, minusZ a a = r → ∀ w, Calls Try.prog 26 #[.agg #[.int .i64 (a 0), .int .i64 (a 1), .int .i64 (a 2), .int .i64 (a 3), .int .i64 (a 4), .int .i64 (a 5)], .agg #[.int .i64 (a 0), .int .i64 (a 1), .int .i64 (a 2), .int .i64 (a 3), .int .i64 (a 4), .int .i64 (a 5)]] w (zlC w r)) := fun r hr w => by rw [← hr]; exact minus_any a a wa wa w
  have MB : Hid (∀ r, minusZ a b = r → ∀ w, Calls Try.prog 26 #[.agg #[.int .i64 (a 0), .int .i64 (a 1), .int .i64 (a 2), .int .i64 (a 3), .int .i64 (a 4), .int .i64 (a 5)], .agg #[.int .i64 (b 0), .int .i64 (b 1), .int .i64 (b 2), .int .i64 (b 3), .int .i64 (b 4), .int .i64 (b 5)]] w (zlC w r)) := fun r hr w => by rw [← hr]; exact minus_any a b wa wb w
  have IN : Hid (∀ x f, inZ a b = (x, f) → ∀ w, Calls Try.prog 53 #[.agg #[.int .i64 (a 0), .int .i64 (a 1), .int .i64 (a 2), .int .i64 (a 3), .int .i64 (a 4), .int .i64 (a 5)], .agg #[.int .i64 (b 0), .int .i64 (b 1), .int .i64 (b 2), .int .i64 (b 3), .int .i64 (b 4), .int .i64 (b 5)]] w (Gives w (.tuple #[.bool x, .int .i64 f]))) := fun x f hr w => by
    have := zin_any a b w wa wb
    rw [hr] at this; exact this
  unfold zlC at MA MB
  cases ka : okZ a
  · skip
    have CK : Hid (∀ w, Calls Try.prog 58 #[.agg #[.int .i64 (a 0), .int .i64 (a 1), .int .i64 (a 2), .int .i64 (a 3), .int .i64 (a 4), .int .i64 (a 5)]] w (Gives w (.int .i64 8))) := fun w => by
      have := zcheck_any a w wa
      rw [ka] at this; exact this
    have M1 := Lib.hid (MA.out _ (minus_bad (by rw [ka]; rfl)))
    have M2 := Lib.hid (MB.out _ (minus_bad (by rw [ka]; rfl)))
    have I1 := Lib.hid (IN.out _ _ (inZ_bad (by rw [ka]; rfl)))
    clear MA MB IN
    dsimp only at M1 M2
    unfold zoneV
    go_enter Try.func14, Try.ntmps14
    go_wp2_with (fail)
    refine calls_world (fun W => Below w.heap.size w W ∧ BoxZ W w.heap.size a ∧ BoxZ W (w.heap.size + 1) b) ⟨by (repeat' (first | (with_reducible assumption) | (with_reducible exact Below.refl _ _) | (with_reducible refine below_wov ?_ ?_ _) | (with_reducible refine below_drewN ?_ _) | (with_reducible refine Below.drew ?_) | (with_reducible refine Below.alloc ?_ ?_ _) | (with_reducible refine Below.setCell ?_ ?_ _) | (with_reducible exact Nat.le_refl _) | omega | (simp only [World.size_alloc, World.size_setCell, World.size_drew, Wov_size, World.heap_drewN]; omega))), (BoxZ.new (W := w) (t := 26) (by simp)).below (by (repeat' (first | (with_reducible assumption) | (with_reducible exact Below.refl _ _) | (with_reducible refine below_wov ?_ ?_ _) | (with_reducible refine below_drewN ?_ _) | (with_reducible refine Below.drew ?_) | (with_reducible refine Below.alloc ?_ ?_ _) | (with_reducible refine Below.setCell ?_ ?_ _) | (with_reducible exact Nat.le_refl _) | omega | (simp only [World.size_alloc, World.size_setCell, World.size_drew, Wov_size, World.heap_drewN]; omega)))), (BoxZ.new (W := (World.alloc w (.cells #[.int .i64 (a 0), .int .i64 (a 1), .int .i64 (a 2), .int .i64 (a 3), .int .i64 (a 4), .int .i64 (a 5)] 26))) (t := 26) (by simp)).below (by (repeat' (first | (with_reducible assumption) | (with_reducible exact Below.refl _ _) | (with_reducible refine below_wov ?_ ?_ _) | (with_reducible refine below_drewN ?_ _) | (with_reducible refine Below.drew ?_) | (with_reducible refine Below.alloc ?_ ?_ _) | (with_reducible refine Below.setCell ?_ ?_ _) | (with_reducible exact Nat.le_refl _) | omega | (simp only [World.size_alloc, World.size_setCell, World.size_drew, Wov_size, World.heap_drewN]; omega))))⟩ ?_
    rintro W1 ⟨hb1, m1_0, m1_1⟩
    have hs1 := hb1.size
    have f1_0_lt := m1_0.lt
    have f1_0_c0 := m1_0.c0
    have f1_0_c1 := m1_0.c1
    have f1_0_c2 := m1_0.c2
    have f1_0_c3 := m1_0.c3
    have f1_0_c4 := m1_0.c4
    have f1_0_c5 := m1_0.c5
    have f1_1_lt := m1_1.lt
    have f1_1_c0 := m1_1.c0
    have f1_1_c1 := m1_1.c1
    have f1_1_c2 := m1_1.c2
    have f1_1_c3 := m1_1.c3
    have f1_1_c4 := m1_1.c4
    have f1_1_c5 := m1_1.c5
    refine (HA.out _).mono ?_; rintro e w' ⟨rfl, q0, rfl⟩
    go_wp2_with (fail)
    refine calls_world (fun W => Below w.heap.size w W ∧ BoxZ W w.heap.size a ∧ BoxZ W (w.heap.size + 1) b) ⟨by (repeat' (first | (with_reducible assumption) | (with_reducible exact Below.refl _ _) | (with_reducible refine below_wov ?_ ?_ _) | (with_reducible refine below_drewN ?_ _) | (with_reducible refine Below.drew ?_) | (with_reducible refine Below.alloc ?_ ?_ _) | (with_reducible refine Below.setCell ?_ ?_ _) | (with_reducible exact Nat.le_refl _) | omega | (simp only [World.size_alloc, World.size_setCell, World.size_drew, Wov_size, World.heap_drewN]; omega))), m1_0.below (by (repeat' (first | (with_reducible assumption) | (with_reducible exact Below.refl _ _) | (with_reducible refine below_wov ?_ ?_ _) | (with_reducible refine below_drewN ?_ _) | (with_reducible refine Below.drew ?_) | (with_reducible refine Below.alloc ?_ ?_ _) | (with_reducible refine Below.setCell ?_ ?_ _) | (with_reducible exact Nat.le_refl _) | omega | (simp only [World.size_alloc, World.size_setCell, World.size_drew, Wov_size, World.heap_drewN]; omega)))), m1_1.below (by (repeat' (first | (with_reducible assumption) | (with_reducible exact Below.refl _ _) | (with_reducible refine below_wov ?_ ?_ _) | (with_reducible refine below_drewN ?_ _) | (with_reducible refine Below.drew ?_) | (with_reducible refine Below.alloc ?_ ?_ _) | (with_reducible refine Below.setCell ?_ ?_ _) | (with_reducible exact Nat.le_refl _) | omega | (simp only [World.size_alloc, World.size_setCell, World.size_drew, Wov_size, World.heap_drewN]; omega))))⟩ ?_
    rintro W2 ⟨hb2, m2_0, m2_1⟩
    clear hb1 f1_0_lt f1_0_c0 f1_0_c1 f1_0_c2 f1_0_c3 f1_0_c4 f1_0_c5 f1_1_lt f1_1_c0 f1_1_c1 f1_1_c2 f1_1_c3 f1_1_c4 f1_1_c5 m1_0 m1_1 hs1
    have hs2 := hb2.size
    have f2_0_lt := m2_0.lt
    have f2_0_c0 := m2_0.c0
    have f2_0_c1 := m2_0.c1
    have f2_0_c2 := m2_0.c2
    have f2_0_c3 := m2_0.c3
    have f2_0_c4 := m2_0.c4
    have f2_0_c5 := m2_0.c5
    have f2_1_lt := m2_1.lt
    have f2_1_c0 := m2_1.c0
    have f2_1_c1 := m2_1.c1
    have f2_1_c2 := m2_1.c2
    have f2_1_c3 := m2_1.c3
    have f2_1_c4 := m2_1.c4
    have f2_1_c5 := m2_1.c5
    refine (M1.out _).mono ?_; rintro e w' ⟨⟨p1, c1, rfl, _, hop1⟩, q1, rfl⟩
    clear hop1
    go_wp2_with (fail)
    refine calls_world (fun W => Below w.heap.size w W ∧ BoxZ W w.heap.size a ∧ BoxZ W (w.heap.size + 1) b) ⟨by (repeat' (first | (with_reducible assumption) | (with_reducible exact Below.refl _ _) | (with_reducible refine below_wov ?_ ?_ _) | (with_reducible refine below_drewN ?_ _) | (with_reducible refine Below.drew ?_) | (with_reducible refine Below.alloc ?_ ?_ _) | (with_reducible refine Below.setCell ?_ ?_ _) | (with_reducible exact Nat.le_refl _) | omega | (simp only [World.size_alloc, World.size_setCell, World.size_drew, Wov_size, World.heap_drewN]; omega))), m2_0.below (by (repeat' (first | (with_reducible assumption) | (with_reducible exact Below.refl _ _) | (with_reducible refine below_wov ?_ ?_ _) | (with_reducible refine below_drewN ?_ _) | (with_reducible refine Below.drew ?_) | (with_reducible refine Below.alloc ?_ ?_ _) | (with_reducible refine Below.setCell ?_ ?_ _) | (with_reducible exact Nat.le_refl _) | omega | (simp only [World.size_alloc, World.size_setCell, World.size_drew, Wov_size, World.heap_drewN]; omega)))), m2_1.below (by (repeat' (first | (with_reducible assumption) | (with_reducible exact Below.refl _ _) | (with_reducible refine below_wov ?_ ?_ _) | (with_reducible refine below_drewN ?_ _) | (with_reducible refine Below.drew ?_) | (with_reducible refine Below.alloc ?_ ?_ _) | (with_reducible refine Below.setCell ?_ ?_ _) | (with_reducible exact Nat.le_refl _) | omega | (simp only [World.size_alloc, World.size_setCell, World.size_drew, Wov_size, World.heap_drewN]; omega))))⟩ ?_
    rintro W3 ⟨hb3, m3_0, m3_1⟩
    clear hb2 f2_0_lt f2_0_c0 f2_0_c1 f2_0_c2 f2_0_c3 f2_0_c4 f2_0_c5 f2_1_lt f2_1_c0 f2_1_c1 f2_1_c2 f2_1_c3 f2_1_c4 f2_1_c5 m2_0 m2_1 hs2
    have hs3 := hb3.size
    have f3_0_lt := m3_0.lt
    have f3_0_c0 := m3_0.c0
    have f3_0_c1 := m3_0.c1
    have f3_0_c2 := m3_0.c2
    have f3_0_c3 := m3_0.c3
    have f3_0_c4 := m3_0.c4
    have f3_0_c5 := m3_0.c5
    have f3_1_lt := m3_1.lt
    have f3_1_c0 := m3_1.c0
    have f3_1_c1 := m3_1.c1
    have f3_1_c2 := m3_1.c2
    have f3_1_c3 := m3_1.c3
    have f3_1_c4 := m3_1.c4
    have f3_1_c5 := m3_1.c5
    refine (M2.out _).mono ?_; rintro e w' ⟨⟨p2, c2, rfl, _, hop2⟩, q2, rfl⟩
    clear hop2
    go_wp2_with (fail)
    refine calls_world (fun W => Below w.heap.size w W ∧ BoxZ W w.heap.size a ∧ BoxZ W (w.heap.size + 1) b) ⟨by (repeat' (first | (with_reducible assumption) | (with_reducible exact Below.refl _ _) | (with_reducible refine below_wov ?_ ?_ _) | (with_reducible refine below_drewN ?_ _) | (with_reducible refine Below.drew ?_) | (with_reducible refine Below.alloc ?_ ?_ _) | (with_reducible refine Below.setCell ?_ ?_ _) | (with_reducible exact Nat.le_refl _) | omega | (simp only [World.size_alloc, World.size_setCell, World.size_drew, Wov_size, World.heap_drewN]; omega))), m3_0.below (by (repeat' (first | (with_reducible assumption) | (with_reducible exact Below.refl _ _) | (with_reducible refine below_wov ?_ ?_ _) | (with_reducible refine below_drewN ?_ _) | (with_reducible refine Below.drew ?_) | (with_reducible refine Below.alloc ?_ ?_ _) | (with_reducible refine Below.setCell ?_ ?_ _) | (with_reducible exact Nat.le_refl _) | omega | (simp only [World.size_alloc, World.size_setCell, World.size_drew, Wov_size, World.heap_drewN]; omega)))), m3_1.below (by (repeat' (first | (with_reducible assumption) | (with_reducible exact Below.refl _ _) | (with_reducible refine below_wov ?_ ?_ _) | (with_reducible refine below_drewN ?_ _) | (with_reducible refine Below.drew ?_) | (with_reducible refine Below.alloc ?_ ?_ _) | (with_reducible refine Below.setCell ?_ ?_ _) | (with_reducible exact Nat.le_refl _) | omega | (simp only [World.size_alloc, World.size_setCell, World.size_drew, Wov_size, World.heap_drewN]; omega))))⟩ ?_
    rintro W4 ⟨hb4, m4_0, m4_1⟩
    clear hb3 f3_0_lt f3_0_c0 f3_0_c1 f3_0_c2 f3_0_c3 f3_0_c4 f3_0_c5 f3_1_lt f3_1_c0 f3_1_c1 f3_1_c2 f3_1_c3 f3_1_c4 f3_1_c5 m3_0 m3_1 hs3
    have hs4 := hb4.size
    have f4_0_lt := m4_0.lt
    have f4_0_c0 := m4_0.c0
    have f4_0_c1 := m4_0.c1
    have f4_0_c2 := m4_0.c2
    have f4_0_c3 := m4_0.c3
    have f4_0_c4 := m4_0.c4
    have f4_0_c5 := m4_0.c5
    have f4_1_lt := m4_1.lt
    have f4_1_c0 := m4_1.c0
    have f4_1_c1 := m4_1.c1
    have f4_1_c2 := m4_1.c2
    have f4_1_c3 := m4_1.c3
    have f4_1_c4 := m4_1.c4
    have f4_1_c5 := m4_1.c5
    refine (I1.out _).mono ?_; rintro e w' ⟨rfl, q3, rfl⟩
    go_wp2_with (fail)
    refine calls_world (fun W => Below w.heap.size w W ∧ BoxZ W w.heap.size a ∧ BoxZ W (w.heap.size + 1) b) ⟨by (repeat' (first | (with_reducible assumption) | (with_reducible exact Below.refl _ _) | (with_reducible refine below_wov ?_ ?_ _) | (with_reducible refine below_drewN ?_ _) | (with_reducible refine Below.drew ?_) | (with_reducible refine Below.alloc ?_ ?_ _) | (with_reducible refine Below.setCell ?_ ?_ _) | (with_reducible exact Nat.le_refl _) | omega | (simp only [World.size_alloc, World.size_setCell, World.size_drew, Wov_size, World.heap_drewN]; omega))), m4_0.below (by (repeat' (first | (with_reducible assumption) | (with_reducible exact Below.refl _ _) | (with_reducible refine below_wov ?_ ?_ _) | (with_reducible refine below_drewN ?_ _) | (with_reducible refine Below.drew ?_) | (with_reducible refine Below.alloc ?_ ?_ _) | (with_reducible refine Below.setCell ?_ ?_ _) | (with_reducible exact Nat.le_refl _) | omega | (simp only [World.size_alloc, World.size_setCell, World.size_drew, Wov_size, World.heap_drewN]; omega)))), m4_1.below (by (repeat' (first | (with_reducible assumption) | (with_reducible exact Below.refl _ _) | (with_reducible refine below_wov ?_ ?_ _) | (with_reducible refine below_drewN ?_ _) | (with_reducible refine Below.drew ?_) | (with_reducible refine Below.alloc ?_ ?_ _) | (with_reducible refine Below.setCell ?_ ?_ _) | (with_reducible exact Nat.le_refl _) | omega | (simp only [World.size_alloc, World.size_setCell, World.size_drew, Wov_size, World.heap_drewN]; omega))))⟩ ?_
    rintro W5 ⟨hb5, m5_0, m5_1⟩
    clear hb4 f4_0_lt f4_0_c0 f4_0_c1 f4_0_c2 f4_0_c3 f4_0_c4 f4_0_c5 f4_1_lt f4_1_c0 f4_1_c1 f4_1_c2 f4_1_c3 f4_1_c4 f4_1_c5 m4_0 m4_1 hs4
    have hs5 := hb5.size
    have f5_0_lt := m5_0.lt
    have f5_0_c0 := m5_0.c0
    have f5_0_c1 := m5_0.c1
    have f5_0_c2 := m5_0.c2
    have f5_0_c3 := m5_0.c3
    have f5_0_c4 := m5_0.c4
    have f5_0_c5 := m5_0.c5
    have f5_1_lt := m5_1.lt
    have f5_1_c0 := m5_1.c0
    have f5_1_c1 := m5_1.c1
    have f5_1_c2 := m5_1.c2
    have f5_1_c3 := m5_1.c3
    have f5_1_c4 := m5_1.c4
    have f5_1_c5 := m5_1.c5
    refine (CK.out _).mono ?_; rintro e w' ⟨rfl, q4, rfl⟩
    go_wp2
    all_goals
      go_ret
      exact gives_bool (by simp) (by (repeat' (first | (with_reducible assumption) | (with_reducible exact Below.refl _ _) | (with_reducible refine below_wov ?_ ?_ _) | (with_reducible refine below_drewN ?_ _) | (with_reducible refine Below.drew ?_) | (with_reducible refine Below.alloc ?_ ?_ _) | (with_reducible refine Below.setCell ?_ ?_ _) | (with_reducible exact Nat.le_refl _) | omega | (simp only [World.size_alloc, World.size_setCell, World.size_drew, Wov_size, World.heap_drewN]; omega))))
  · skip
    cases kb : okZ b
    · skip
      have M1 := Lib.hid (MA.out _ (minus_self ka))
      have M2 := Lib.hid (MB.out _ (minus_bad (by rw [ka, kb]; rfl)))
      have I1 := Lib.hid (IN.out _ _ (inZ_bad (by rw [ka, kb]; rfl)))
      clear MA MB IN
      dsimp only at M1 M2
      unfold zoneV
      go_enter Try.func14, Try.ntmps14
      go_wp2_with (fail)
      refine calls_world (fun W => Below w.heap.size w W ∧ BoxZ W w.heap.size a ∧ BoxZ W (w.heap.size + 1) b) ⟨by (repeat' (first | (with_reducible assumption) | (with_reducible exact Below.refl _ _) | (with_reducible refine below_wov ?_ ?_ _) | (with_reducible refine below_drewN ?_ _) | (with_reducible refine Below.drew ?_) | (with_reducible refine Below.alloc ?_ ?_ _) | (with_reducible refine Below.setCell ?_ ?_ _) | (with_reducible exact Nat.le_refl _) | omega | (simp only [World.size_alloc, World.size_setCell, World.size_drew, Wov_size, World.heap_drewN]; omega))), (BoxZ.new (W := w) (t := 26) (by simp)).below (by (repeat' (first | (with_reducible assumption) | (with_reducible exact Below.refl _ _) | (with_reducible refine below_wov ?_ ?_ _) | (with_reducible refine below_drewN ?_ _) | (with_reducible refine Below.drew ?_) | (with_reducible refine Below.alloc ?_ ?_ _) | (with_reducible refine Below.setCell ?_ ?_ _) | (with_reducible exact Nat.le_refl _) | omega | (simp only [World.size_alloc, World.size_setCell, World.size_drew, Wov_size, World.heap_drewN]; omega)))), (BoxZ.new (W := (World.alloc w (.cells #[.int .i64 (a 0), .int .i64 (a 1), .int .i64 (a 2), .int .i64 (a 3), .int .i64 (a 4), .int .i64 (a 5)] 26))) (t := 26) (by simp)).below (by (repeat' (first | (with_reducible assumption) | (with_reducible exact Below.refl _ _) | (with_reducible refine below_wov ?_ ?_ _) | (with_reducible refine below_drewN ?_ _) | (with_reducible refine Below.drew ?_) | (with_reducible refine Below.alloc ?_ ?_ _) | (with_reducible refine Below.setCell ?_ ?_ _) | (with_reducible exact Nat.le_refl _) | omega | (simp only [World.size_alloc, World.size_setCell, World.size_drew, Wov_size, World.heap_drewN]; omega))))⟩ ?_
      rintro W1 ⟨hb1, m1_0, m1_1⟩
      have hs1 := hb1.size
      have f1_0_lt := m1_0.lt
      have f1_0_c0 := m1_0.c0
      have f1_0_c1 := m1_0.c1
      have f1_0_c2 := m1_0.c2
      have f1_0_c3 := m1_0.c3
      have f1_0_c4 := m1_0.c4
      have f1_0_c5 := m1_0.c5
      have f1_1_lt := m1_1.lt
      have f1_1_c0 := m1_1.c0
      have f1_1_c1 := m1_1.c1
      have f1_1_c2 := m1_1.c2
      have f1_1_c3 := m1_1.c3
      have f1_1_c4 := m1_1.c4
      have f1_1_c5 := m1_1.c5
      refine (HA.out _).mono ?_; rintro e w' ⟨rfl, q0, rfl⟩
      go_wp2_with (fail)
      refine calls_world (fun W => Below w.heap.size w W ∧ BoxZ W w.heap.size a ∧ BoxZ W (w.heap.size + 1) b) ⟨by (repeat' (first | (with_reducible assumption) | (with_reducible exact Below.refl _ _) | (with_reducible refine below_wov ?_ ?_ _) | (with_reducible refine below_drewN ?_ _) | (with_reducible refine Below.drew ?_) | (with_reducible refine Below.alloc ?_ ?_ _) | (with_reducible refine Below.setCell ?_ ?_ _) | (with_reducible exact Nat.le_refl _) | omega | (simp only [World.size_alloc, World.size_setCell, World.size_drew, Wov_size, World.heap_drewN]; omega))), m1_0.below (by (repeat' (first | (with_reducible assumption) | (with_reducible exact Below.refl _ _) | (with_reducible refine below_wov ?_ ?_ _) | (with_reducible refine below_drewN ?_ _) | (with_reducible refine Below.drew ?_) | (with_reducible refine Below.alloc ?_ ?_ _) | (with_reducible refine Below.setCell ?_ ?_ _) | (with_reducible exact Nat.le_refl _) | omega | (simp only [World.size_alloc, World.size_setCell, World.size_drew, Wov_size, World.heap_drewN]; omega)))), m1_1.below (by (repeat' (first | (with_reducible assumption) | (with_reducible exact Below.refl _ _) | (with_reducible refine below_wov ?_ ?_ _) | (with_reducible refine below_drewN ?_ _) | (with_reducible refine Below.drew ?_) | (with_reducible refine Below.alloc ?_ ?_ _) | (with_reducible refine Below.setCell ?_ ?_ _) | (with_reducible exact Nat.le_refl _) | omega | (simp only [World.size_alloc, World.size_setCell, World.size_drew, Wov_size, World.heap_drewN]; omega))))⟩ ?_
      rintro W2 ⟨hb2, m2_0, m2_1⟩
      clear hb1 f1_0_lt f1_0_c0 f1_0_c1 f1_0_c2 f1_0_c3 f1_0_c4 f1_0_c5 f1_1_lt f1_1_c0 f1_1_c1 f1_1_c2 f1_1_c3 f1_1_c4 f1_1_c5 m1_0 m1_1 hs1
      have hs2 := hb2.size
      have f2_0_lt := m2_0.lt
      have f2_0_c0 := m2_0.c0
      have f2_0_c1 := m2_0.c1
      have f2_0_c2 := m2_0.c2
      have f2_0_c3 := m2_0.c3
      have f2_0_c4 := m2_0.c4
      have f2_0_c5 := m2_0.c5
      have f2_1_lt := m2_1.lt
      have f2_1_c0 := m2_1.c0
      have f2_1_c1 := m2_1.c1
      have f2_1_c2 := m2_1.c2
      have f2_1_c3 := m2_1.c3
      have f2_1_c4 := m2_1.c4
      have f2_1_c5 := m2_1.c5
      refine (M1.out _).mono ?_; rintro e w' ⟨⟨p1, c1, rfl, _, hop1⟩, q1, rfl⟩
      clear hop1
      go_wp2_with (fail)
      refine calls_world (fun W => Below w.heap.size w W ∧ BoxZ W w.heap.size a ∧ BoxZ W (w.heap.size + 1) b) ⟨by (repeat' (first | (with_reducible assumption) | (with_reducible exact Below.refl _ _) | (with_reducible refine below_wov ?_ ?_ _) | (with_reducible refine below_drewN ?_ _) | (with_reducible refine Below.drew ?_) | (with_reducible refine Below.alloc ?_ ?_ _) | (with_reducible refine Below.setCell ?_ ?_ _) | (with_reducible exact Nat.le_refl _) | omega | (simp only [World.size_alloc, World.size_setCell, World.size_drew, Wov_size, World.heap_drewN]; omega))), m2_0.below (by (repeat' (first | (with_reducible assumption) | (with_reducible exact Below.refl _ _) | (with_reducible refine below_wov ?_ ?_ _) | (with_reducible refine below_drewN ?_ _) | (with_reducible refine Below.drew ?_) | (with_reducible refine Below.alloc ?_ ?_ _) | (with_reducible refine Below.setCell ?_ ?_ _) | (with_reducible exact Nat.le_refl _) | omega | (simp only [World.size_alloc, World.size_setCell, World.size_drew, Wov_size, World.heap_drewN]; omega)))), m2_1.below (by (repeat' (first | (with_reducible assumption) | (with_reducible exact Below.refl _ _) | (with_reducible refine below_wov ?_ ?_ _) | (with_reducible refine below_drewN ?_ _) | (with_reducible refine Below.drew ?_) | (with_reducible refine Below.alloc ?_ ?_ _) | (with_reducible refine Below.setCell ?_ ?_ _) | (with_reducible exact Nat.le_refl _) | omega | (simp only [World.size_alloc, World.size_setCell, World.size_drew, Wov_size, World.heap_drewN]; omega))))⟩ ?_
      rintro W3 ⟨hb3, m3_0, m3_1⟩
      clear hb2 f2_0_lt f2_0_c0 f2_0_c1 f2_0_c2 f2_0_c3 f2_0_c4 f2_0_c5 f2_1_lt f2_1_c0 f2_1_c1 f2_1_c2 f2_1_c3 f2_1_c4 f2_1_c5 m2_0 m2_1 hs2
      have hs3 := hb3.size
      have f3_0_lt := m3_0.lt
      have f3_0_c0 := m3_0.c0
      have f3_0_c1 := m3_0.c1
      have f3_0_c2 := m3_0.c2
      have f3_0_c3 := m3_0.c3
      have f3_0_c4 := m3_0.c4
      have f3_0_c5 := m3_0.c5
      have f3_1_lt := m3_1.lt
      have f3_1_c0 := m3_1.c0
      have f3_1_c1 := m3_1.c1
      have f3_1_c2 := m3_1.c2
      have f3_1_c3 := m3_1.c3
      have f3_1_c4 := m3_1.c4
      have f3_1_c5 := m3_1.c5
      refine (M2.out _).mono ?_; rintro e w' ⟨⟨p2, c2, rfl, _, hop2⟩, q2, rfl⟩
      clear hop2
      go_wp2_with (fail)
      refine calls_world (fun W => Below w.heap.size w W ∧ BoxZ W w.heap.size a ∧ BoxZ W (w.heap.size + 1) b) ⟨by (repeat' (first | (with_reducible assumption) | (with_reducible exact Below.refl _ _) | (with_reducible refine below_wov ?_ ?_ _) | (with_reducible refine below_drewN ?_ _) | (with_reducible refine Below.drew ?_) | (with_reducible refine Below.alloc ?_ ?_ _) | (with_reducible refine Below.setCell ?_ ?_ _) | (with_reducible exact Nat.le_refl _) | omega | (simp only [World.size_alloc, World.size_setCell, World.size_drew, Wov_size, World.heap_drewN]; omega))), m3_0.below (by (repeat' (first | (with_reducible assumption) | (with_reducible exact Below.refl _ _) | (with_reducible refine below_wov ?_ ?_ _) | (with_reducible refine below_drewN ?_ _) | (with_reducible refine Below.drew ?_) | (with_reducible refine Below.alloc ?_ ?_ _) | (with_reducible refine Below.setCell ?_ ?_ _) | (with_reducible exact Nat.le_refl _) | omega | (simp only [World.size_alloc, World.size_setCell, World.size_drew, Wov_size, World.heap_drewN]; omega)))), m3_1.below (by (repeat' (first | (with_reducible assumption) | (with_reducible exact Below.refl _ _) | (with_reducible refine below_wov ?_ ?_ _) | (with_reducible refine below_drewN ?_ _) | (with_reducible refine Below.drew ?_) | (with_reducible refine Below.alloc ?_ ?_ _) | (with_reducible refine Below.setCell ?_ ?_ _) | (with_reducible exact Nat.le_refl _) | omega | (simp only [World.size_alloc, World.size_setCell, World.size_drew, Wov_size, World.heap_drewN]; omega))))⟩ ?_
      rintro W4 ⟨hb4, m4_0, m4_1⟩
      clear hb3 f3_0_lt f3_0_c0 f3_0_c1 f3_0_c2 f3_0_c3 f3_0_c4 f3_0_c5 f3_1_lt f3_1_c0 f3_1_c1 f3_1_c2 f3_1_c3 f3_1_c4 f3_1_c5 m3_0 m3_1 hs3
      have hs4 := hb4.size
      have f4_0_lt := m4_0.lt
      have f4_0_c0 := m4_0.c0
      have f4_0_c1 := m4_0.c1
      have f4_0_c2 := m4_0.c2
      have f4_0_c3 := m4_0.c3
      have f4_0_c4 := m4_0.c4
      have f4_0_c5 := m4_0.c5
      have f4_1_lt := m4_1.lt
      have f4_1_c0 := m4_1.c0
      have f4_1_c1 := m4_1.c1
      have f4_1_c2 := m4_1.c2
      have f4_1_c3 := m4_1.c3
      have f4_1_c4 := m4_1.c4
      have f4_1_c5 := m4_1.c5
      refine (I1.out _).mono ?_; rintro e w' ⟨rfl, q3, rfl⟩
      go_wp2
      all_goals
        go_ret
        exact gives_bool (by simp) (by (repeat' (first | (with_reducible assumption) | (with_reducible exact Below.refl _ _) | (with_reducible refine below_wov ?_ ?_ _) | (with_reducible refine below_drewN ?_ _) | (with_reducible refine Below.drew ?_) | (with_reducible refine Below.alloc ?_ ?_ _) | (with_reducible refine Below.setCell ?_ ?_ _) | (with_reducible exact Nat.le_refl _) | omega | (simp only [World.size_alloc, World.size_setCell, World.size_drew, Wov_size, World.heap_drewN]; omega))))
    · skip
      have hM : minusZ a b = lessZ 6 0 a b [] := by unfold minusZ; rw [ka, kb]; rfl
      rcases less_e 6 0 a b [] kb rfl ka with he | he
      · skip
        obtain ⟨L, hL⟩ : ∃ L, L = (lessZ 6 0 a b []).1 := ⟨_, rfl⟩
        have hML : minusZ a b = (L, 0) := by rw [hM, hL, ← he]
        obtain ⟨_, _, hin, hall⟩ := none_law hML
        clear hM he hL
        have HALL := Lib.hid hall
        clear hall
        cases L with
        | nil =>
          have M1 := Lib.hid (MA.out _ (minus_self ka))
          have M2 := Lib.hid (MB.out _ hML)
          have I1 := Lib.hid (IN.out _ _ hin)
          clear MA MB IN
          dsimp only at M1 M2
          unfold zoneV
          go_enter Try.func14, Try.ntmps14
          go_wp2_with (fail)
          refine calls_world (fun W => Below w.heap.size w W ∧ BoxZ W w.heap.size a ∧ BoxZ W (w.heap.size + 1) b) ⟨by (repeat' (first | (with_reducible assumption) | (with_reducible exact Below.refl _ _) | (with_reducible refine below_wov ?_ ?_ _) | (with_reducible refine below_drewN ?_ _) | (with_reducible refine Below.drew ?_) | (with_reducible refine Below.alloc ?_ ?_ _) | (with_reducible refine Below.setCell ?_ ?_ _) | (with_reducible exact Nat.le_refl _) | omega | (simp only [World.size_alloc, World.size_setCell, World.size_drew, Wov_size, World.heap_drewN]; omega))), (BoxZ.new (W := w) (t := 26) (by simp)).below (by (repeat' (first | (with_reducible assumption) | (with_reducible exact Below.refl _ _) | (with_reducible refine below_wov ?_ ?_ _) | (with_reducible refine below_drewN ?_ _) | (with_reducible refine Below.drew ?_) | (with_reducible refine Below.alloc ?_ ?_ _) | (with_reducible refine Below.setCell ?_ ?_ _) | (with_reducible exact Nat.le_refl _) | omega | (simp only [World.size_alloc, World.size_setCell, World.size_drew, Wov_size, World.heap_drewN]; omega)))), (BoxZ.new (W := (World.alloc w (.cells #[.int .i64 (a 0), .int .i64 (a 1), .int .i64 (a 2), .int .i64 (a 3), .int .i64 (a 4), .int .i64 (a 5)] 26))) (t := 26) (by simp)).below (by (repeat' (first | (with_reducible assumption) | (with_reducible exact Below.refl _ _) | (with_reducible refine below_wov ?_ ?_ _) | (with_reducible refine below_drewN ?_ _) | (with_reducible refine Below.drew ?_) | (with_reducible refine Below.alloc ?_ ?_ _) | (with_reducible refine Below.setCell ?_ ?_ _) | (with_reducible exact Nat.le_refl _) | omega | (simp only [World.size_alloc, World.size_setCell, World.size_drew, Wov_size, World.heap_drewN]; omega))))⟩ ?_
          rintro W1 ⟨hb1, m1_0, m1_1⟩
          have hs1 := hb1.size
          have f1_0_lt := m1_0.lt
          have f1_0_c0 := m1_0.c0
          have f1_0_c1 := m1_0.c1
          have f1_0_c2 := m1_0.c2
          have f1_0_c3 := m1_0.c3
          have f1_0_c4 := m1_0.c4
          have f1_0_c5 := m1_0.c5
          have f1_1_lt := m1_1.lt
          have f1_1_c0 := m1_1.c0
          have f1_1_c1 := m1_1.c1
          have f1_1_c2 := m1_1.c2
          have f1_1_c3 := m1_1.c3
          have f1_1_c4 := m1_1.c4
          have f1_1_c5 := m1_1.c5
          refine (HA.out _).mono ?_; rintro e w' ⟨rfl, q0, rfl⟩
          go_wp2_with (fail)
          refine calls_world (fun W => Below w.heap.size w W ∧ BoxZ W w.heap.size a ∧ BoxZ W (w.heap.size + 1) b) ⟨by (repeat' (first | (with_reducible assumption) | (with_reducible exact Below.refl _ _) | (with_reducible refine below_wov ?_ ?_ _) | (with_reducible refine below_drewN ?_ _) | (with_reducible refine Below.drew ?_) | (with_reducible refine Below.alloc ?_ ?_ _) | (with_reducible refine Below.setCell ?_ ?_ _) | (with_reducible exact Nat.le_refl _) | omega | (simp only [World.size_alloc, World.size_setCell, World.size_drew, Wov_size, World.heap_drewN]; omega))), m1_0.below (by (repeat' (first | (with_reducible assumption) | (with_reducible exact Below.refl _ _) | (with_reducible refine below_wov ?_ ?_ _) | (with_reducible refine below_drewN ?_ _) | (with_reducible refine Below.drew ?_) | (with_reducible refine Below.alloc ?_ ?_ _) | (with_reducible refine Below.setCell ?_ ?_ _) | (with_reducible exact Nat.le_refl _) | omega | (simp only [World.size_alloc, World.size_setCell, World.size_drew, Wov_size, World.heap_drewN]; omega)))), m1_1.below (by (repeat' (first | (with_reducible assumption) | (with_reducible exact Below.refl _ _) | (with_reducible refine below_wov ?_ ?_ _) | (with_reducible refine below_drewN ?_ _) | (with_reducible refine Below.drew ?_) | (with_reducible refine Below.alloc ?_ ?_ _) | (with_reducible refine Below.setCell ?_ ?_ _) | (with_reducible exact Nat.le_refl _) | omega | (simp only [World.size_alloc, World.size_setCell, World.size_drew, Wov_size, World.heap_drewN]; omega))))⟩ ?_
          rintro W2 ⟨hb2, m2_0, m2_1⟩
          clear hb1 f1_0_lt f1_0_c0 f1_0_c1 f1_0_c2 f1_0_c3 f1_0_c4 f1_0_c5 f1_1_lt f1_1_c0 f1_1_c1 f1_1_c2 f1_1_c3 f1_1_c4 f1_1_c5 m1_0 m1_1 hs1
          have hs2 := hb2.size
          have f2_0_lt := m2_0.lt
          have f2_0_c0 := m2_0.c0
          have f2_0_c1 := m2_0.c1
          have f2_0_c2 := m2_0.c2
          have f2_0_c3 := m2_0.c3
          have f2_0_c4 := m2_0.c4
          have f2_0_c5 := m2_0.c5
          have f2_1_lt := m2_1.lt
          have f2_1_c0 := m2_1.c0
          have f2_1_c1 := m2_1.c1
          have f2_1_c2 := m2_1.c2
          have f2_1_c3 := m2_1.c3
          have f2_1_c4 := m2_1.c4
          have f2_1_c5 := m2_1.c5
          refine (M1.out _).mono ?_; rintro e w' ⟨⟨p1, c1, rfl, _, hop1⟩, q1, rfl⟩
          clear hop1
          go_wp2_with (fail)
          refine calls_world (fun W => Below w.heap.size w W ∧ BoxZ W w.heap.size a ∧ BoxZ W (w.heap.size + 1) b) ⟨by (repeat' (first | (with_reducible assumption) | (with_reducible exact Below.refl _ _) | (with_reducible refine below_wov ?_ ?_ _) | (with_reducible refine below_drewN ?_ _) | (with_reducible refine Below.drew ?_) | (with_reducible refine Below.alloc ?_ ?_ _) | (with_reducible refine Below.setCell ?_ ?_ _) | (with_reducible exact Nat.le_refl _) | omega | (simp only [World.size_alloc, World.size_setCell, World.size_drew, Wov_size, World.heap_drewN]; omega))), m2_0.below (by (repeat' (first | (with_reducible assumption) | (with_reducible exact Below.refl _ _) | (with_reducible refine below_wov ?_ ?_ _) | (with_reducible refine below_drewN ?_ _) | (with_reducible refine Below.drew ?_) | (with_reducible refine Below.alloc ?_ ?_ _) | (with_reducible refine Below.setCell ?_ ?_ _) | (with_reducible exact Nat.le_refl _) | omega | (simp only [World.size_alloc, World.size_setCell, World.size_drew, Wov_size, World.heap_drewN]; omega)))), m2_1.below (by (repeat' (first | (with_reducible assumption) | (with_reducible exact Below.refl _ _) | (with_reducible refine below_wov ?_ ?_ _) | (with_reducible refine below_drewN ?_ _) | (with_reducible refine Below.drew ?_) | (with_reducible refine Below.alloc ?_ ?_ _) | (with_reducible refine Below.setCell ?_ ?_ _) | (with_reducible exact Nat.le_refl _) | omega | (simp only [World.size_alloc, World.size_setCell, World.size_drew, Wov_size, World.heap_drewN]; omega))))⟩ ?_
          rintro W3 ⟨hb3, m3_0, m3_1⟩
          clear hb2 f2_0_lt f2_0_c0 f2_0_c1 f2_0_c2 f2_0_c3 f2_0_c4 f2_0_c5 f2_1_lt f2_1_c0 f2_1_c1 f2_1_c2 f2_1_c3 f2_1_c4 f2_1_c5 m2_0 m2_1 hs2
          have hs3 := hb3.size
          have f3_0_lt := m3_0.lt
          have f3_0_c0 := m3_0.c0
          have f3_0_c1 := m3_0.c1
          have f3_0_c2 := m3_0.c2
          have f3_0_c3 := m3_0.c3
          have f3_0_c4 := m3_0.c4
          have f3_0_c5 := m3_0.c5
          have f3_1_lt := m3_1.lt
          have f3_1_c0 := m3_1.c0
          have f3_1_c1 := m3_1.c1
          have f3_1_c2 := m3_1.c2
          have f3_1_c3 := m3_1.c3
          have f3_1_c4 := m3_1.c4
          have f3_1_c5 := m3_1.c5
          refine (M2.out _).mono ?_; rintro e w' ⟨⟨p2, c2, rfl, _, hop2⟩, q2, rfl⟩
          clear hop2
          go_wp2_with (fail)
          refine calls_world (fun W => Below w.heap.size w W ∧ BoxZ W w.heap.size a ∧ BoxZ W (w.heap.size + 1) b) ⟨by (repeat' (first | (with_reducible assumption) | (with_reducible exact Below.refl _ _) | (with_reducible refine below_wov ?_ ?_ _) | (with_reducible refine below_drewN ?_ _) | (with_reducible refine Below.drew ?_) | (with_reducible refine Below.alloc ?_ ?_ _) | (with_reducible refine Below.setCell ?_ ?_ _) | (with_reducible exact Nat.le_refl _) | omega | (simp only [World.size_alloc, World.size_setCell, World.size_drew, Wov_size, World.heap_drewN]; omega))), m3_0.below (by (repeat' (first | (with_reducible assumption) | (with_reducible exact Below.refl _ _) | (with_reducible refine below_wov ?_ ?_ _) | (with_reducible refine below_drewN ?_ _) | (with_reducible refine Below.drew ?_) | (with_reducible refine Below.alloc ?_ ?_ _) | (with_reducible refine Below.setCell ?_ ?_ _) | (with_reducible exact Nat.le_refl _) | omega | (simp only [World.size_alloc, World.size_setCell, World.size_drew, Wov_size, World.heap_drewN]; omega)))), m3_1.below (by (repeat' (first | (with_reducible assumption) | (with_reducible exact Below.refl _ _) | (with_reducible refine below_wov ?_ ?_ _) | (with_reducible refine below_drewN ?_ _) | (with_reducible refine Below.drew ?_) | (with_reducible refine Below.alloc ?_ ?_ _) | (with_reducible refine Below.setCell ?_ ?_ _) | (with_reducible exact Nat.le_refl _) | omega | (simp only [World.size_alloc, World.size_setCell, World.size_drew, Wov_size, World.heap_drewN]; omega))))⟩ ?_
          rintro W4 ⟨hb4, m4_0, m4_1⟩
          clear hb3 f3_0_lt f3_0_c0 f3_0_c1 f3_0_c2 f3_0_c3 f3_0_c4 f3_0_c5 f3_1_lt f3_1_c0 f3_1_c1 f3_1_c2 f3_1_c3 f3_1_c4 f3_1_c5 m3_0 m3_1 hs3
          have hs4 := hb4.size
          have f4_0_lt := m4_0.lt
          have f4_0_c0 := m4_0.c0
          have f4_0_c1 := m4_0.c1
          have f4_0_c2 := m4_0.c2
          have f4_0_c3 := m4_0.c3
          have f4_0_c4 := m4_0.c4
          have f4_0_c5 := m4_0.c5
          have f4_1_lt := m4_1.lt
          have f4_1_c0 := m4_1.c0
          have f4_1_c1 := m4_1.c1
          have f4_1_c2 := m4_1.c2
          have f4_1_c3 := m4_1.c3
          have f4_1_c4 := m4_1.c4
          have f4_1_c5 := m4_1.c5
          refine (I1.out _).mono ?_; rintro e w' ⟨rfl, q3, rfl⟩
          clear HALL hML hin
          simp only [List.isEmpty_nil, List.length_nil]
          go_wp2
          go_loopw [12] (fun i V => i = .int .i64 0 ∧ Below w.heap.size w V)
            (fun _ _ => 0)
          case atStart => exact ⟨rfl, by (repeat' (first | (with_reducible assumption) | (with_reducible exact Below.refl _ _) | (with_reducible refine below_wov ?_ ?_ _) | (with_reducible refine below_drewN ?_ _) | (with_reducible refine Below.drew ?_) | (with_reducible refine Below.alloc ?_ ?_ _) | (with_reducible refine Below.setCell ?_ ?_ _) | (with_reducible exact Nat.le_refl _) | omega | (simp only [World.size_alloc, World.size_setCell, World.size_drew, Wov_size, World.heap_drewN]; omega)))⟩
          case round =>
            obtain ⟨rfl, hB⟩ := hrel
            go_wp2
            go_ret
            exact gives_bool rfl (by (repeat' (first | (with_reducible assumption) | (with_reducible exact Below.refl _ _) | (with_reducible refine below_wov ?_ ?_ _) | (with_reducible refine below_drewN ?_ _) | (with_reducible refine Below.drew ?_) | (with_reducible refine Below.alloc ?_ ?_ _) | (with_reducible refine Below.setCell ?_ ?_ _) | (with_reducible exact Nat.le_refl _) | omega | (simp only [World.size_alloc, World.size_setCell, World.size_drew, Wov_size, World.heap_drewN]; omega))))
        | cons y0 L0 =>
          have hem : (y0 :: L0).isEmpty = false := rfl
          rw [hem] at hin
          have hne : ((((y0 :: L0).length : Nat) : Int) == 0) = false := by rw [beq_eq_false_iff_ne]; simp; omega
          have hlen : (y0 :: L0).length ≤ 6 := by have := minus_len a b; rw [hML] at this; exact this
          obtain ⟨L, hL⟩ : ∃ L, L = y0 :: L0 := ⟨_, rfl⟩
          rw [← hL] at hML HALL hne hlen
          clear hL hem
          have M1 := Lib.hid (MA.out _ (minus_self ka))
          have M2 := Lib.hid (MB.out _ hML)
          have I1 := Lib.hid (IN.out _ _ hin)
          clear MA MB IN
          dsimp only at M1 M2
          unfold zoneV
          go_enter Try.func14, Try.ntmps14
          go_wp2_with (fail)
          refine calls_world (fun W => Below w.heap.size w W ∧ BoxZ W w.heap.size a ∧ BoxZ W (w.heap.size + 1) b) ⟨by (repeat' (first | (with_reducible assumption) | (with_reducible exact Below.refl _ _) | (with_reducible refine below_wov ?_ ?_ _) | (with_reducible refine below_drewN ?_ _) | (with_reducible refine Below.drew ?_) | (with_reducible refine Below.alloc ?_ ?_ _) | (with_reducible refine Below.setCell ?_ ?_ _) | (with_reducible exact Nat.le_refl _) | omega | (simp only [World.size_alloc, World.size_setCell, World.size_drew, Wov_size, World.heap_drewN]; omega))), (BoxZ.new (W := w) (t := 26) (by simp)).below (by (repeat' (first | (with_reducible assumption) | (with_reducible exact Below.refl _ _) | (with_reducible refine below_wov ?_ ?_ _) | (with_reducible refine below_drewN ?_ _) | (with_reducible refine Below.drew ?_) | (with_reducible refine Below.alloc ?_ ?_ _) | (with_reducible refine Below.setCell ?_ ?_ _) | (with_reducible exact Nat.le_refl _) | omega | (simp only [World.size_alloc, World.size_setCell, World.size_drew, Wov_size, World.heap_drewN]; omega)))), (BoxZ.new (W := (World.alloc w (.cells #[.int .i64 (a 0), .int .i64 (a 1), .int .i64 (a 2), .int .i64 (a 3), .int .i64 (a 4), .int .i64 (a 5)] 26))) (t := 26) (by simp)).below (by (repeat' (first | (with_reducible assumption) | (with_reducible exact Below.refl _ _) | (with_reducible refine below_wov ?_ ?_ _) | (with_reducible refine below_drewN ?_ _) | (with_reducible refine Below.drew ?_) | (with_reducible refine Below.alloc ?_ ?_ _) | (with_reducible refine Below.setCell ?_ ?_ _) | (with_reducible exact Nat.le_refl _) | omega | (simp only [World.size_alloc, World.size_setCell, World.size_drew, Wov_size, World.heap_drewN]; omega))))⟩ ?_
          rintro W1 ⟨hb1, m1_0, m1_1⟩
          have hs1 := hb1.size
          have f1_0_lt := m1_0.lt
          have f1_0_c0 := m1_0.c0
          have f1_0_c1 := m1_0.c1
          have f1_0_c2 := m1_0.c2
          have f1_0_c3 := m1_0.c3
          have f1_0_c4 := m1_0.c4
          have f1_0_c5 := m1_0.c5
          have f1_1_lt := m1_1.lt
          have f1_1_c0 := m1_1.c0
          have f1_1_c1 := m1_1.c1
          have f1_1_c2 := m1_1.c2
          have f1_1_c3 := m1_1.c3
          have f1_1_c4 := m1_1.c4
          have f1_1_c5 := m1_1.c5
          refine (HA.out _).mono ?_; rintro e w' ⟨rfl, q0, rfl⟩
          go_wp2_with (fail)
          refine calls_world (fun W => Below w.heap.size w W ∧ BoxZ W w.heap.size a ∧ BoxZ W (w.heap.size + 1) b) ⟨by (repeat' (first | (with_reducible assumption) | (with_reducible exact Below.refl _ _) | (with_reducible refine below_wov ?_ ?_ _) | (with_reducible refine below_drewN ?_ _) | (with_reducible refine Below.drew ?_) | (with_reducible refine Below.alloc ?_ ?_ _) | (with_reducible refine Below.setCell ?_ ?_ _) | (with_reducible exact Nat.le_refl _) | omega | (simp only [World.size_alloc, World.size_setCell, World.size_drew, Wov_size, World.heap_drewN]; omega))), m1_0.below (by (repeat' (first | (with_reducible assumption) | (with_reducible exact Below.refl _ _) | (with_reducible refine below_wov ?_ ?_ _) | (with_reducible refine below_drewN ?_ _) | (with_reducible refine Below.drew ?_) | (with_reducible refine Below.alloc ?_ ?_ _) | (with_reducible refine Below.setCell ?_ ?_ _) | (with_reducible exact Nat.le_refl _) | omega | (simp only [World.size_alloc, World.size_setCell, World.size_drew, Wov_size, World.heap_drewN]; omega)))), m1_1.below (by (repeat' (first | (with_reducible assumption) | (with_reducible exact Below.refl _ _) | (with_reducible refine below_wov ?_ ?_ _) | (with_reducible refine below_drewN ?_ _) | (with_reducible refine Below.drew ?_) | (with_reducible refine Below.alloc ?_ ?_ _) | (with_reducible refine Below.setCell ?_ ?_ _) | (with_reducible exact Nat.le_refl _) | omega | (simp only [World.size_alloc, World.size_setCell, World.size_drew, Wov_size, World.heap_drewN]; omega))))⟩ ?_
          rintro W2 ⟨hb2, m2_0, m2_1⟩
          clear hb1 f1_0_lt f1_0_c0 f1_0_c1 f1_0_c2 f1_0_c3 f1_0_c4 f1_0_c5 f1_1_lt f1_1_c0 f1_1_c1 f1_1_c2 f1_1_c3 f1_1_c4 f1_1_c5 m1_0 m1_1 hs1
          have hs2 := hb2.size
          have f2_0_lt := m2_0.lt
          have f2_0_c0 := m2_0.c0
          have f2_0_c1 := m2_0.c1
          have f2_0_c2 := m2_0.c2
          have f2_0_c3 := m2_0.c3
          have f2_0_c4 := m2_0.c4
          have f2_0_c5 := m2_0.c5
          have f2_1_lt := m2_1.lt
          have f2_1_c0 := m2_1.c0
          have f2_1_c1 := m2_1.c1
          have f2_1_c2 := m2_1.c2
          have f2_1_c3 := m2_1.c3
          have f2_1_c4 := m2_1.c4
          have f2_1_c5 := m2_1.c5
          refine (M1.out _).mono ?_; rintro e w' ⟨⟨p1, c1, rfl, _, hop1⟩, q1, rfl⟩
          clear hop1
          go_wp2_with (fail)
          refine calls_world (fun W => Below w.heap.size w W ∧ BoxZ W w.heap.size a ∧ BoxZ W (w.heap.size + 1) b) ⟨by (repeat' (first | (with_reducible assumption) | (with_reducible exact Below.refl _ _) | (with_reducible refine below_wov ?_ ?_ _) | (with_reducible refine below_drewN ?_ _) | (with_reducible refine Below.drew ?_) | (with_reducible refine Below.alloc ?_ ?_ _) | (with_reducible refine Below.setCell ?_ ?_ _) | (with_reducible exact Nat.le_refl _) | omega | (simp only [World.size_alloc, World.size_setCell, World.size_drew, Wov_size, World.heap_drewN]; omega))), m2_0.below (by (repeat' (first | (with_reducible assumption) | (with_reducible exact Below.refl _ _) | (with_reducible refine below_wov ?_ ?_ _) | (with_reducible refine below_drewN ?_ _) | (with_reducible refine Below.drew ?_) | (with_reducible refine Below.alloc ?_ ?_ _) | (with_reducible refine Below.setCell ?_ ?_ _) | (with_reducible exact Nat.le_refl _) | omega | (simp only [World.size_alloc, World.size_setCell, World.size_drew, Wov_size, World.heap_drewN]; omega)))), m2_1.below (by (repeat' (first | (with_reducible assumption) | (with_reducible exact Below.refl _ _) | (with_reducible refine below_wov ?_ ?_ _) | (with_reducible refine below_drewN ?_ _) | (with_reducible refine Below.drew ?_) | (with_reducible refine Below.alloc ?_ ?_ _) | (with_reducible refine Below.setCell ?_ ?_ _) | (with_reducible exact Nat.le_refl _) | omega | (simp only [World.size_alloc, World.size_setCell, World.size_drew, Wov_size, World.heap_drewN]; omega))))⟩ ?_
          rintro W3 ⟨hb3, m3_0, m3_1⟩
          clear hb2 f2_0_lt f2_0_c0 f2_0_c1 f2_0_c2 f2_0_c3 f2_0_c4 f2_0_c5 f2_1_lt f2_1_c0 f2_1_c1 f2_1_c2 f2_1_c3 f2_1_c4 f2_1_c5 m2_0 m2_1 hs2
          have hs3 := hb3.size
          have f3_0_lt := m3_0.lt
          have f3_0_c0 := m3_0.c0
          have f3_0_c1 := m3_0.c1
          have f3_0_c2 := m3_0.c2
          have f3_0_c3 := m3_0.c3
          have f3_0_c4 := m3_0.c4
          have f3_0_c5 := m3_0.c5
          have f3_1_lt := m3_1.lt
          have f3_1_c0 := m3_1.c0
          have f3_1_c1 := m3_1.c1
          have f3_1_c2 := m3_1.c2
          have f3_1_c3 := m3_1.c3
          have f3_1_c4 := m3_1.c4
          have f3_1_c5 := m3_1.c5
          refine (M2.out _).mono ?_; rintro e w' ⟨⟨p2, c2, rfl, _, hop2⟩, q2, rfl⟩
          have hs2 := hop2.slz
          clear hop2
          go_wp2_with (fail)
          refine calls_world (fun W => Below w.heap.size w W ∧ BoxZ W w.heap.size a ∧ BoxZ W (w.heap.size + 1) b ∧ SlZ W p2 L) ⟨by (repeat' (first | (with_reducible assumption) | (with_reducible exact Below.refl _ _) | (with_reducible refine below_wov ?_ ?_ _) | (with_reducible refine below_drewN ?_ _) | (with_reducible refine Below.drew ?_) | (with_reducible refine Below.alloc ?_ ?_ _) | (with_reducible refine Below.setCell ?_ ?_ _) | (with_reducible exact Nat.le_refl _) | omega | (simp only [World.size_alloc, World.size_setCell, World.size_drew, Wov_size, World.heap_drewN]; omega))), m3_0.below (by (repeat' (first | (with_reducible assumption) | (with_reducible exact Below.refl _ _) | (with_reducible refine below_wov ?_ ?_ _) | (with_reducible refine below_drewN ?_ _) | (with_reducible refine Below.drew ?_) | (with_reducible refine Below.alloc ?_ ?_ _) | (with_reducible refine Below.setCell ?_ ?_ _) | (with_reducible exact Nat.le_refl _) | omega | (simp only [World.size_alloc, World.size_setCell, World.size_drew, Wov_size, World.heap_drewN]; omega)))), m3_1.below (by (repeat' (first | (with_reducible assumption) | (with_reducible exact Below.refl _ _) | (with_reducible refine below_wov ?_ ?_ _) | (with_reducible refine below_drewN ?_ _) | (with_reducible refine Below.drew ?_) | (with_reducible refine Below.alloc ?_ ?_ _) | (with_reducible refine Below.setCell ?_ ?_ _) | (with_reducible exact Nat.le_refl _) | omega | (simp only [World.size_alloc, World.size_setCell, World.size_drew, Wov_size, World.heap_drewN]; omega)))), hs2.below (by (repeat' (first | (with_reducible assumption) | (with_reducible exact Below.refl _ _) | (with_reducible refine below_wov ?_ ?_ _) | (with_reducible refine below_drewN ?_ _) | (with_reducible refine Below.drew ?_) | (with_reducible refine Below.alloc ?_ ?_ _) | (with_reducible refine Below.setCell ?_ ?_ _) | (with_reducible exact Nat.le_refl _) | omega | (simp only [World.size_alloc, World.size_setCell, World.size_drew, Wov_size, World.heap_drewN]; omega))))⟩ ?_
          rintro W4 ⟨hb4, m4_0, m4_1, m4_2⟩
          clear hb3 f3_0_lt f3_0_c0 f3_0_c1 f3_0_c2 f3_0_c3 f3_0_c4 f3_0_c5 f3_1_lt f3_1_c0 f3_1_c1 f3_1_c2 f3_1_c3 f3_1_c4 f3_1_c5 m3_0 m3_1 hs3
          have hs4 := hb4.size
          have f4_0_lt := m4_0.lt
          have f4_0_c0 := m4_0.c0
          have f4_0_c1 := m4_0.c1
          have f4_0_c2 := m4_0.c2
          have f4_0_c3 := m4_0.c3
          have f4_0_c4 := m4_0.c4
          have f4_0_c5 := m4_0.c5
          have f4_1_lt := m4_1.lt
          have f4_1_c0 := m4_1.c0
          have f4_1_c1 := m4_1.c1
          have f4_1_c2 := m4_1.c2
          have f4_1_c3 := m4_1.c3
          have f4_1_c4 := m4_1.c4
          have f4_1_c5 := m4_1.c5
          clear hs2
          refine (I1.out _).mono ?_; rintro e w' ⟨rfl, q3, rfl⟩
          clear hML hin I1 M1 M2 HA ka kb
          go_wp2
          refine wp_world (fun W => Below w.heap.size w W ∧ BoxZ W w.heap.size a ∧ BoxZ W (w.heap.size + 1) b ∧ SlZ W p2 L) ⟨by (repeat' (first | (with_reducible assumption) | (with_reducible exact Below.refl _ _) | (with_reducible refine below_wov ?_ ?_ _) | (with_reducible refine below_drewN ?_ _) | (with_reducible refine Below.drew ?_) | (with_reducible refine Below.alloc ?_ ?_ _) | (with_reducible refine Below.setCell ?_ ?_ _) | (with_reducible exact Nat.le_refl _) | omega | (simp only [World.size_alloc, World.size_setCell, World.size_drew, Wov_size, World.heap_drewN]; omega))), m4_0.below (by (repeat' (first | (with_reducible assumption) | (with_reducible exact Below.refl _ _) | (with_reducible refine below_wov ?_ ?_ _) | (with_reducible refine below_drewN ?_ _) | (with_reducible refine Below.drew ?_) | (with_reducible refine Below.alloc ?_ ?_ _) | (with_reducible refine Below.setCell ?_ ?_ _) | (with_reducible exact Nat.le_refl _) | omega | (simp only [World.size_alloc, World.size_setCell, World.size_drew, Wov_size, World.heap_drewN]; omega)))), m4_1.below (by (repeat' (first | (with_reducible assumption) | (with_reducible exact Below.refl _ _) | (with_reducible refine below_wov ?_ ?_ _) | (with_reducible refine below_drewN ?_ _) | (with_reducible refine Below.drew ?_) | (with_reducible refine Below.alloc ?_ ?_ _) | (with_reducible refine Below.setCell ?_ ?_ _) | (with_reducible exact Nat.le_refl _) | omega | (simp only [World.size_alloc, World.size_setCell, World.size_drew, Wov_size, World.heap_drewN]; omega)))), m4_2.below (by (repeat' (first | (with_reducible assumption) | (with_reducible exact Below.refl _ _) | (with_reducible refine below_wov ?_ ?_ _) | (with_reducible refine below_drewN ?_ _) | (with_reducible refine Below.drew ?_) | (with_reducible refine Below.alloc ?_ ?_ _) | (with_reducible refine Below.setCell ?_ ?_ _) | (with_reducible exact Nat.le_refl _) | omega | (simp only [World.size_alloc, World.size_setCell, World.size_drew, Wov_size, World.heap_drewN]; omega))))⟩ ?_
          rintro W5 ⟨hb5, m5_0, m5_1, m5_2⟩
          clear hb4 f4_0_lt f4_0_c0 f4_0_c1 f4_0_c2 f4_0_c3 f4_0_c4 f4_0_c5 f4_1_lt f4_1_c0 f4_1_c1 f4_1_c2 f4_1_c3 f4_1_c4 f4_1_c5 m4_0 m4_1 m4_2 hs4
          have hs5 := hb5.size
          have f5_0_lt := m5_0.lt
          have f5_0_c0 := m5_0.c0
          have f5_0_c1 := m5_0.c1
          have f5_0_c2 := m5_0.c2
          have f5_0_c3 := m5_0.c3
          have f5_0_c4 := m5_0.c4
          have f5_0_c5 := m5_0.c5
          have f5_1_lt := m5_1.lt
          have f5_1_c0 := m5_1.c0
          have f5_1_c1 := m5_1.c1
          have f5_1_c2 := m5_1.c2
          have f5_1_c3 := m5_1.c3
          have f5_1_c4 := m5_1.c4
          have f5_1_c5 := m5_1.c5
          have HBA := Lib.hid m5_0
          have HBB := Lib.hid m5_1
          have HSL := Lib.hid m5_2
          have HBW := Lib.hid hb5
          clear f5_0_lt f5_0_c0 f5_0_c1 f5_0_c2 f5_0_c3 f5_0_c4 f5_0_c5 f5_1_lt f5_1_c0 f5_1_c1 f5_1_c2 f5_1_c3 f5_1_c4 f5_1_c5 hs5 m5_0 m5_1 m5_2 hb5
          go_loopw [12] (fun i V => ∃ t : Nat, t ≤ L.length ∧ i = .int .i64 t ∧ Below W5.heap.size W5 V)
            (fun i _ => L.length - (intOf i).toNat)
          case atStart => exact ⟨0, by omega, rfl, Below.refl _ _⟩
          case round =>
            obtain ⟨t, ht, rfl, hB⟩ := hrel
            have szr := hB.size
            by_cases hlt : t < L.length
            · skip
              obtain ⟨Bl, ol, rfl, hBl, hvl⟩ := HSL.out.resolve_left (fun h => by rw [h] at hlt; simp at hlt)
              obtain ⟨okz, hm6, hin, hk6⟩ := HALL.out t hlt
              obtain ⟨z, hz⟩ : ∃ z, z = nthZ L t := ⟨_, rfl⟩
              have HC : Hid (∀ V, Below W5.heap.size W5 V → V.cell? ⟨Bl, ol + t * 6, none⟩ = some (.int .i64 (z 0)) ∧ V.cell? ⟨Bl, ol + (t * 6 + 1), none⟩ = some (.int .i64 (z 1)) ∧ V.cell? ⟨Bl, ol + (t * 6 + 2), none⟩ = some (.int .i64 (z 2)) ∧ V.cell? ⟨Bl, ol + (t * 6 + 3), none⟩ = some (.int .i64 (z 3)) ∧ V.cell? ⟨Bl, ol + (t * 6 + 4), none⟩ = some (.int .i64 (z 4)) ∧ V.cell? ⟨Bl, ol + (t * 6 + 5), none⟩ = some (.int .i64 (z 5))) := fun V hV => by
                rw [hz]; exact slz_cells (fun i j hi hj => (hV.cell (p := ⟨Bl, ol + (i * 6 + j), none⟩) hBl).trans (hvl i j hi hj)) hlt
              have HCK : Hid (∀ k, k < L.length → ∀ V, Below W5.heap.size W5 V → V.cell? ⟨Bl, ol + k * 6, none⟩ = some (.int .i64 (nthZ L k 0)) ∧ V.cell? ⟨Bl, ol + (k * 6 + 1), none⟩ = some (.int .i64 (nthZ L k 1)) ∧ V.cell? ⟨Bl, ol + (k * 6 + 2), none⟩ = some (.int .i64 (nthZ L k 2)) ∧ V.cell? ⟨Bl, ol + (k * 6 + 3), none⟩ = some (.int .i64 (nthZ L k 3)) ∧ V.cell? ⟨Bl, ol + (k * 6 + 4), none⟩ = some (.int .i64 (nthZ L k 4)) ∧ V.cell? ⟨Bl, ol + (k * 6 + 5), none⟩ = some (.int .i64 (nthZ L k 5))) := fun k hk V hV =>
                slz_cells (fun i j hi hj => (hV.cell (p := ⟨Bl, ol + (i * 6 + j), none⟩) hBl).trans (hvl i j hi hj)) hk
              rw [← hz] at okz hm6 hin hk6
              have fz := okZ_fits okz
              have IT : Hid (Pure Try.prog 53 #[.agg #[.int .i64 (z 0), .int .i64 (z 1), .int .i64 (z 2), .int .i64 (z 3), .int .i64 (z 4), .int .i64 (z 5)], .agg #[.int .i64 (a 0), .int .i64 (a 1), .int .i64 (a 2), .int .i64 (a 3), .int .i64 (a 4), .int .i64 (a 5)]] (.tuple #[.bool true, .int .i64 0])) := fun w => by
                have := zin_any z a w fz wa
                rw [hin] at this; exact this
              have MT0 := fun w => zmeet_any z b w fz wb
              obtain ⟨⟨m, e6⟩, hm⟩ : ∃ r, r = meetZ z b := ⟨_, rfl⟩
              rw [← hm] at MT0 hm6
              simp only at hm6
              subst hm6
              have MT : Hid (∀ w, Calls Try.prog 55 #[.agg #[.int .i64 (z 0), .int .i64 (z 1), .int .i64 (z 2), .int .i64 (z 3), .int .i64 (z 4), .int .i64 (z 5)], .agg #[.int .i64 (b 0), .int .i64 (b 1), .int .i64 (b 2), .int .i64 (b 3), .int .i64 (b 4), .int .i64 (b 5)]] w (Gives w (.tuple #[.agg #[.int .i64 (m 0), .int .i64 (m 1), .int .i64 (m 2), .int .i64 (m 3), .int .i64 (m 4), .int .i64 (m 5)], .int .i64 6]))) := MT0
              have MK : Hid (∀ k, k < t → ∃ m : Nat → Int, ∀ w, Calls Try.prog 55 #[.agg #[.int .i64 (z 0), .int .i64 (z 1), .int .i64 (z 2), .int .i64 (z 3), .int .i64 (z 4), .int .i64 (z 5)], .agg #[.int .i64 ((nthZ L k) 0), .int .i64 ((nthZ L k) 1), .int .i64 ((nthZ L k) 2), .int .i64 ((nthZ L k) 3), .int .i64 ((nthZ L k) 4), .int .i64 ((nthZ L k) 5)]] w (Gives w (.tuple #[.agg #[.int .i64 (m 0), .int .i64 (m 1), .int .i64 (m 2), .int .i64 (m 3), .int .i64 (m 4), .int .i64 (m 5)], .int .i64 6]))) := fun k hk => by
                have hkl : k < L.length := by omega
                have fk := okZ_fits (HALL.out k hkl).1
                have h6 := hk6 k hk
                refine ⟨(meetZ z (nthZ L k)).1, fun w => ?_⟩
                have := zmeet_any z (nthZ L k) w fz fk
                rw [h6] at this
                exact this
              have lBl : Bl < wr.heap.size := Nat.lt_of_lt_of_le hBl szr
              clear hvl hz okz hk6 hin MT0 hm fz
              obtain ⟨gz0, gz1, gz2, gz3, gz4, gz5⟩ := HC.out _ (hB)
              have ga := HBA.out.below (hB)
              have ga0 := ga.c0
              have ga1 := ga.c1
              have ga2 := ga.c2
              have ga3 := ga.c3
              have ga4 := ga.c4
              have ga5 := ga.c5
              have gal := ga.lt
              clear ga
              have gb := HBB.out.below (hB)
              have gb0 := gb.c0
              have gb1 := gb.c1
              have gb2 := gb.c2
              have gb3 := gb.c3
              have gb4 := gb.c4
              have gb5 := gb.c5
              have gbl := gb.lt
              clear gb
              go_upto_region 16 with (fail)
              go_cut [14] from 124 (fun s V => s = .int .i64 6 ∧ Below wr.heap.size wr V)
              case first =>
                go_region_held3 (fun w' => w'.cell? ⟨Bl, ol + t * 6, none⟩ = some (.int .i64 (z 0)) ∧ w'.cell? ⟨Bl, ol + (t * 6 + 1), none⟩ = some (.int .i64 (z 1)) ∧ w'.cell? ⟨Bl, ol + (t * 6 + 2), none⟩ = some (.int .i64 (z 2)) ∧ w'.cell? ⟨Bl, ol + (t * 6 + 3), none⟩ = some (.int .i64 (z 3)) ∧ w'.cell? ⟨Bl, ol + (t * 6 + 4), none⟩ = some (.int .i64 (z 4)) ∧ w'.cell? ⟨Bl, ol + (t * 6 + 5), none⟩ = some (.int .i64 (z 5)) ∧ w'.cell? ⟨w.heap.size, 0, none⟩ = some (.int .i64 (a 0)) ∧ w'.cell? ⟨w.heap.size, 1, none⟩ = some (.int .i64 (a 1)) ∧ w'.cell? ⟨w.heap.size, 2, none⟩ = some (.int .i64 (a 2)) ∧ w'.cell? ⟨w.heap.size, 3, none⟩ = some (.int .i64 (a 3)) ∧ w'.cell? ⟨w.heap.size, 4, none⟩ = some (.int .i64 (a 4)) ∧ w'.cell? ⟨w.heap.size, 5, none⟩ = some (.int .i64 (a 5)) ∧ w'.cell? ⟨w.heap.size + 1, 0, none⟩ = some (.int .i64 (b 0)) ∧ w'.cell? ⟨w.heap.size + 1, 1, none⟩ = some (.int .i64 (b 1)) ∧ w'.cell? ⟨w.heap.size + 1, 2, none⟩ = some (.int .i64 (b 2)) ∧ w'.cell? ⟨w.heap.size + 1, 3, none⟩ = some (.int .i64 (b 3)) ∧ w'.cell? ⟨w.heap.size + 1, 4, none⟩ = some (.int .i64 (b 4)) ∧ w'.cell? ⟨w.heap.size + 1, 5, none⟩ = some (.int .i64 (b 5)))
                  ((simp [go_sem, *]))
                  ((go_at_call 55; (refine (MT.out _).mono ?_; rintro e w' ⟨rfl, qa, rfl⟩)))
                all_goals
                  go_wp2_with (fail)
                  go_meet
                  case rel => exact ⟨rfl, by (repeat' (first | (with_reducible assumption) | (with_reducible exact Below.refl _ _) | (with_reducible refine below_wov ?_ ?_ _) | (with_reducible refine below_drewN ?_ _) | (with_reducible refine Below.drew ?_) | (with_reducible refine Below.alloc ?_ ?_ _) | (with_reducible refine Below.setCell ?_ ?_ _) | (with_reducible exact Nat.le_refl _) | omega | (simp only [World.size_alloc, World.size_setCell, World.size_drew, Wov_size, World.heap_drewN]; omega)))⟩
              case rest =>
                obtain ⟨rfl, hbc⟩ := hcut
                obtain ⟨V2, rfl⟩ : ∃ V, V = wc := ⟨_, rfl⟩
                clear gz0 gz1 gz2 gz3 gz4 gz5 ga0 ga1 ga2 ga3 ga4 ga5 gb0 gb1 gb2 gb3 gb4 gb5 gal gbl
                have hB2 := hB.trans (hbc.mono szr)
                have sz2 := hB2.size
                have sz3 := hbc.size
                clear hbc hB
                replace lBl : Bl < V2.heap.size := by omega
                obtain ⟨hz0, hz1, hz2, hz3, hz4, hz5⟩ := HC.out _ (hB2)
                have ha := HBA.out.below (hB2)
                have ha0 := ha.c0
                have ha1 := ha.c1
                have ha2 := ha.c2
                have ha3 := ha.c3
                have ha4 := ha.c4
                have ha5 := ha.c5
                have hal := ha.lt
                clear ha
                have hb := HBB.out.below (hB2)
                have hb0 := hb.c0
                have hb1 := hb.c1
                have hb2 := hb.c2
                have hb3 := hb.c3
                have hb4 := hb.c4
                have hb5 := hb.c5
                have hbl := hb.lt
                clear hb
                go_wp2_with (fail)
                refine wp_region_wov (by kernel_rfl) (by kernel_rfl) ?_
                repeat (go_big_quiet_step ((go_at_call 53; (first | exact (IT.out).at _ _ | exact (IT.out).at2 _ _ _ | exact (IT.out).at3 _ _ _ _ | exact (IT.out).at4 _ _ _ _ _ | exact (IT.out).at5 _ _ _ _ _ _ | exact (IT.out).at6 _ _ _ _ _ _ _))))
                refine wpQuiet_nil ?_
                rintro _ ⟨pq, rfl⟩
                go_wp2
                clear hz0 hz1 hz2 hz3 hz4 hz5 ha0 ha1 ha2 ha3 ha4 ha5 hb0 hb1 hb2 hb3 hb4 hb5 hal hbl MT IT
                refine wp_world (fun X => Below W5.heap.size W5 X) (by (repeat' (first | (with_reducible assumption) | (with_reducible exact Below.refl _ _) | (with_reducible refine below_wov ?_ ?_ _) | (with_reducible refine below_drewN ?_ _) | (with_reducible refine Below.drew ?_) | (with_reducible refine Below.alloc ?_ ?_ _) | (with_reducible refine Below.setCell ?_ ?_ _) | (with_reducible exact Nat.le_refl _) | omega | (simp only [World.size_alloc, World.size_setCell, World.size_drew, Wov_size, World.heap_drewN]; omega)))) ?_
                intro X hBX
                have szX := hBX.size
                clear hB2
                go_loopw [17] (fun i V => ∃ k : Nat, k ≤ t ∧ i = .int .i64 k ∧ Below X.heap.size X V)
                  (fun i _ => t - (intOf i).toNat)
                case atStart => exact ⟨0, by omega, rfl, Below.refl _ _⟩
                case round =>
                  obtain ⟨k, hk, rfl, hBk⟩ := hrel
                  have szk := hBk.size
                  have hBW := hBX.trans (hBk.mono szX)
                  by_cases hkt : k < t
                  · skip
                    have hkl : k < L.length := by omega
                    obtain ⟨mk, MK1⟩ := MK.out k hkt
                    have MK2 := Lib.hid MK1
                    have hcc := HCK.out k hkl _ hBW
                    obtain ⟨y, hy⟩ : ∃ y, y = nthZ L k := ⟨_, rfl⟩
                    rw [← hy] at hcc MK2
                    clear MK1 hy
                    obtain ⟨ky0, ky1, ky2, ky3, ky4, ky5⟩ := hcc
                    obtain ⟨kz0, kz1, kz2, kz3, kz4, kz5⟩ := HC.out _ hBW
                    have lBk : Bl < wr.heap.size := by omega
                    go_upto_region 23 with (fail)
                    go_cut [19] from 124 (fun s V => s = .int .i64 6 ∧ Below X.heap.size X V)
                    case first =>
                      go_region_held3 (fun w' => w'.cell? ⟨Bl, ol + t * 6, none⟩ = some (.int .i64 (z 0)) ∧ w'.cell? ⟨Bl, ol + (t * 6 + 1), none⟩ = some (.int .i64 (z 1)) ∧ w'.cell? ⟨Bl, ol + (t * 6 + 2), none⟩ = some (.int .i64 (z 2)) ∧ w'.cell? ⟨Bl, ol + (t * 6 + 3), none⟩ = some (.int .i64 (z 3)) ∧ w'.cell? ⟨Bl, ol + (t * 6 + 4), none⟩ = some (.int .i64 (z 4)) ∧ w'.cell? ⟨Bl, ol + (t * 6 + 5), none⟩ = some (.int .i64 (z 5)) ∧ w'.cell? ⟨Bl, ol + k * 6, none⟩ = some (.int .i64 (y 0)) ∧ w'.cell? ⟨Bl, ol + (k * 6 + 1), none⟩ = some (.int .i64 (y 1)) ∧ w'.cell? ⟨Bl, ol + (k * 6 + 2), none⟩ = some (.int .i64 (y 2)) ∧ w'.cell? ⟨Bl, ol + (k * 6 + 3), none⟩ = some (.int .i64 (y 3)) ∧ w'.cell? ⟨Bl, ol + (k * 6 + 4), none⟩ = some (.int .i64 (y 4)) ∧ w'.cell? ⟨Bl, ol + (k * 6 + 5), none⟩ = some (.int .i64 (y 5)))
                        ((simp [go_sem, *]))
                        ((go_at_call 55; (refine (MK2.out _).mono ?_; rintro e w' ⟨rfl, qa, rfl⟩)))
                      all_goals
                        go_wp2_with (fail)
                        go_meet
                        case rel => exact ⟨rfl, by (repeat' (first | (with_reducible assumption) | (with_reducible exact Below.refl _ _) | (with_reducible refine below_wov ?_ ?_ _) | (with_reducible refine below_drewN ?_ _) | (with_reducible refine Below.drew ?_) | (with_reducible refine Below.alloc ?_ ?_ _) | (with_reducible refine Below.setCell ?_ ?_ _) | (with_reducible exact Nat.le_refl _) | omega | (simp only [World.size_alloc, World.size_setCell, World.size_drew, Wov_size, World.heap_drewN]; omega)))⟩
                    case rest =>
                      obtain ⟨rfl, hbc⟩ := hcut
                      go_wp2
                      go_roundw
                      case rel => exact ⟨k + 1, by omega, by go_num, by (repeat' (first | (with_reducible assumption) | (with_reducible exact Below.refl _ _) | (with_reducible refine below_wov ?_ ?_ _) | (with_reducible refine below_drewN ?_ _) | (with_reducible refine Below.drew ?_) | (with_reducible refine Below.alloc ?_ ?_ _) | (with_reducible refine Below.setCell ?_ ?_ _) | (with_reducible exact Nat.le_refl _) | omega | (simp only [World.size_alloc, World.size_setCell, World.size_drew, Wov_size, World.heap_drewN]; omega)))⟩
                      case measure => simp [intOf]; omega
                  · skip
                    obtain rfl : k = t := by omega
                    go_wp2
                    go_roundw
                    case rel => exact ⟨k + 1, by omega, by go_num, by (repeat' (first | (with_reducible assumption) | (with_reducible exact Below.refl _ _) | (with_reducible refine below_wov ?_ ?_ _) | (with_reducible refine below_drewN ?_ _) | (with_reducible refine Below.drew ?_) | (with_reducible refine Below.alloc ?_ ?_ _) | (with_reducible refine Below.setCell ?_ ?_ _) | (with_reducible exact Nat.le_refl _) | omega | (simp only [World.size_alloc, World.size_setCell, World.size_drew, Wov_size, World.heap_drewN]; omega)))⟩
                    case measure => simp [intOf]; omega
            · skip
              obtain rfl : t = L.length := by omega
              have hbw := HBW.out.trans (hB.mono HBW.out.size)
              go_wp2
              go_ret
              exact gives_bool rfl (by (repeat' (first | (with_reducible assumption) | (with_reducible exact Below.refl _ _) | (with_reducible refine below_wov ?_ ?_ _) | (with_reducible refine below_drewN ?_ _) | (with_reducible refine Below.drew ?_) | (with_reducible refine Below.alloc ?_ ?_ _) | (with_reducible refine Below.setCell ?_ ?_ _) | (with_reducible exact Nat.le_refl _) | omega | (simp only [World.size_alloc, World.size_setCell, World.size_drew, Wov_size, World.heap_drewN]; omega))))
      · skip
        have hME : minusZ a b = ([], 8) := by rw [hM, he]
        obtain ⟨x, hx⟩ : ∃ x, inZ a b = (x, 0) := ⟨_, inZ_ok ka kb⟩
        have M1 := Lib.hid (MA.out _ (minus_self ka))
        have M2 := Lib.hid (MB.out _ hME)
        have I1 := Lib.hid (IN.out _ _ hx)
        clear MA MB IN
        dsimp only at M1 M2
        unfold zoneV
        go_enter Try.func14, Try.ntmps14
        go_wp2_with (fail)
        refine calls_world (fun W => Below w.heap.size w W ∧ BoxZ W w.heap.size a ∧ BoxZ W (w.heap.size + 1) b) ⟨by (repeat' (first | (with_reducible assumption) | (with_reducible exact Below.refl _ _) | (with_reducible refine below_wov ?_ ?_ _) | (with_reducible refine below_drewN ?_ _) | (with_reducible refine Below.drew ?_) | (with_reducible refine Below.alloc ?_ ?_ _) | (with_reducible refine Below.setCell ?_ ?_ _) | (with_reducible exact Nat.le_refl _) | omega | (simp only [World.size_alloc, World.size_setCell, World.size_drew, Wov_size, World.heap_drewN]; omega))), (BoxZ.new (W := w) (t := 26) (by simp)).below (by (repeat' (first | (with_reducible assumption) | (with_reducible exact Below.refl _ _) | (with_reducible refine below_wov ?_ ?_ _) | (with_reducible refine below_drewN ?_ _) | (with_reducible refine Below.drew ?_) | (with_reducible refine Below.alloc ?_ ?_ _) | (with_reducible refine Below.setCell ?_ ?_ _) | (with_reducible exact Nat.le_refl _) | omega | (simp only [World.size_alloc, World.size_setCell, World.size_drew, Wov_size, World.heap_drewN]; omega)))), (BoxZ.new (W := (World.alloc w (.cells #[.int .i64 (a 0), .int .i64 (a 1), .int .i64 (a 2), .int .i64 (a 3), .int .i64 (a 4), .int .i64 (a 5)] 26))) (t := 26) (by simp)).below (by (repeat' (first | (with_reducible assumption) | (with_reducible exact Below.refl _ _) | (with_reducible refine below_wov ?_ ?_ _) | (with_reducible refine below_drewN ?_ _) | (with_reducible refine Below.drew ?_) | (with_reducible refine Below.alloc ?_ ?_ _) | (with_reducible refine Below.setCell ?_ ?_ _) | (with_reducible exact Nat.le_refl _) | omega | (simp only [World.size_alloc, World.size_setCell, World.size_drew, Wov_size, World.heap_drewN]; omega))))⟩ ?_
        rintro W1 ⟨hb1, m1_0, m1_1⟩
        have hs1 := hb1.size
        have f1_0_lt := m1_0.lt
        have f1_0_c0 := m1_0.c0
        have f1_0_c1 := m1_0.c1
        have f1_0_c2 := m1_0.c2
        have f1_0_c3 := m1_0.c3
        have f1_0_c4 := m1_0.c4
        have f1_0_c5 := m1_0.c5
        have f1_1_lt := m1_1.lt
        have f1_1_c0 := m1_1.c0
        have f1_1_c1 := m1_1.c1
        have f1_1_c2 := m1_1.c2
        have f1_1_c3 := m1_1.c3
        have f1_1_c4 := m1_1.c4
        have f1_1_c5 := m1_1.c5
        refine (HA.out _).mono ?_; rintro e w' ⟨rfl, q0, rfl⟩
        go_wp2_with (fail)
        refine calls_world (fun W => Below w.heap.size w W ∧ BoxZ W w.heap.size a ∧ BoxZ W (w.heap.size + 1) b) ⟨by (repeat' (first | (with_reducible assumption) | (with_reducible exact Below.refl _ _) | (with_reducible refine below_wov ?_ ?_ _) | (with_reducible refine below_drewN ?_ _) | (with_reducible refine Below.drew ?_) | (with_reducible refine Below.alloc ?_ ?_ _) | (with_reducible refine Below.setCell ?_ ?_ _) | (with_reducible exact Nat.le_refl _) | omega | (simp only [World.size_alloc, World.size_setCell, World.size_drew, Wov_size, World.heap_drewN]; omega))), m1_0.below (by (repeat' (first | (with_reducible assumption) | (with_reducible exact Below.refl _ _) | (with_reducible refine below_wov ?_ ?_ _) | (with_reducible refine below_drewN ?_ _) | (with_reducible refine Below.drew ?_) | (with_reducible refine Below.alloc ?_ ?_ _) | (with_reducible refine Below.setCell ?_ ?_ _) | (with_reducible exact Nat.le_refl _) | omega | (simp only [World.size_alloc, World.size_setCell, World.size_drew, Wov_size, World.heap_drewN]; omega)))), m1_1.below (by (repeat' (first | (with_reducible assumption) | (with_reducible exact Below.refl _ _) | (with_reducible refine below_wov ?_ ?_ _) | (with_reducible refine below_drewN ?_ _) | (with_reducible refine Below.drew ?_) | (with_reducible refine Below.alloc ?_ ?_ _) | (with_reducible refine Below.setCell ?_ ?_ _) | (with_reducible exact Nat.le_refl _) | omega | (simp only [World.size_alloc, World.size_setCell, World.size_drew, Wov_size, World.heap_drewN]; omega))))⟩ ?_
        rintro W2 ⟨hb2, m2_0, m2_1⟩
        clear hb1 f1_0_lt f1_0_c0 f1_0_c1 f1_0_c2 f1_0_c3 f1_0_c4 f1_0_c5 f1_1_lt f1_1_c0 f1_1_c1 f1_1_c2 f1_1_c3 f1_1_c4 f1_1_c5 m1_0 m1_1 hs1
        have hs2 := hb2.size
        have f2_0_lt := m2_0.lt
        have f2_0_c0 := m2_0.c0
        have f2_0_c1 := m2_0.c1
        have f2_0_c2 := m2_0.c2
        have f2_0_c3 := m2_0.c3
        have f2_0_c4 := m2_0.c4
        have f2_0_c5 := m2_0.c5
        have f2_1_lt := m2_1.lt
        have f2_1_c0 := m2_1.c0
        have f2_1_c1 := m2_1.c1
        have f2_1_c2 := m2_1.c2
        have f2_1_c3 := m2_1.c3
        have f2_1_c4 := m2_1.c4
        have f2_1_c5 := m2_1.c5
        refine (M1.out _).mono ?_; rintro e w' ⟨⟨p1, c1, rfl, _, hop1⟩, q1, rfl⟩
        clear hop1
        go_wp2_with (fail)
        refine calls_world (fun W => Below w.heap.size w W ∧ BoxZ W w.heap.size a ∧ BoxZ W (w.heap.size + 1) b) ⟨by (repeat' (first | (with_reducible assumption) | (with_reducible exact Below.refl _ _) | (with_reducible refine below_wov ?_ ?_ _) | (with_reducible refine below_drewN ?_ _) | (with_reducible refine Below.drew ?_) | (with_reducible refine Below.alloc ?_ ?_ _) | (with_reducible refine Below.setCell ?_ ?_ _) | (with_reducible exact Nat.le_refl _) | omega | (simp only [World.size_alloc, World.size_setCell, World.size_drew, Wov_size, World.heap_drewN]; omega))), m2_0.below (by (repeat' (first | (with_reducible assumption) | (with_reducible exact Below.refl _ _) | (with_reducible refine below_wov ?_ ?_ _) | (with_reducible refine below_drewN ?_ _) | (with_reducible refine Below.drew ?_) | (with_reducible refine Below.alloc ?_ ?_ _) | (with_reducible refine Below.setCell ?_ ?_ _) | (with_reducible exact Nat.le_refl _) | omega | (simp only [World.size_alloc, World.size_setCell, World.size_drew, Wov_size, World.heap_drewN]; omega)))), m2_1.below (by (repeat' (first | (with_reducible assumption) | (with_reducible exact Below.refl _ _) | (with_reducible refine below_wov ?_ ?_ _) | (with_reducible refine below_drewN ?_ _) | (with_reducible refine Below.drew ?_) | (with_reducible refine Below.alloc ?_ ?_ _) | (with_reducible refine Below.setCell ?_ ?_ _) | (with_reducible exact Nat.le_refl _) | omega | (simp only [World.size_alloc, World.size_setCell, World.size_drew, Wov_size, World.heap_drewN]; omega))))⟩ ?_
        rintro W3 ⟨hb3, m3_0, m3_1⟩
        clear hb2 f2_0_lt f2_0_c0 f2_0_c1 f2_0_c2 f2_0_c3 f2_0_c4 f2_0_c5 f2_1_lt f2_1_c0 f2_1_c1 f2_1_c2 f2_1_c3 f2_1_c4 f2_1_c5 m2_0 m2_1 hs2
        have hs3 := hb3.size
        have f3_0_lt := m3_0.lt
        have f3_0_c0 := m3_0.c0
        have f3_0_c1 := m3_0.c1
        have f3_0_c2 := m3_0.c2
        have f3_0_c3 := m3_0.c3
        have f3_0_c4 := m3_0.c4
        have f3_0_c5 := m3_0.c5
        have f3_1_lt := m3_1.lt
        have f3_1_c0 := m3_1.c0
        have f3_1_c1 := m3_1.c1
        have f3_1_c2 := m3_1.c2
        have f3_1_c3 := m3_1.c3
        have f3_1_c4 := m3_1.c4
        have f3_1_c5 := m3_1.c5
        refine (M2.out _).mono ?_; rintro e w' ⟨⟨p2, c2, rfl, _, hop2⟩, q2, rfl⟩
        clear hop2
        go_wp2_with (fail)
        refine calls_world (fun W => Below w.heap.size w W ∧ BoxZ W w.heap.size a ∧ BoxZ W (w.heap.size + 1) b) ⟨by (repeat' (first | (with_reducible assumption) | (with_reducible exact Below.refl _ _) | (with_reducible refine below_wov ?_ ?_ _) | (with_reducible refine below_drewN ?_ _) | (with_reducible refine Below.drew ?_) | (with_reducible refine Below.alloc ?_ ?_ _) | (with_reducible refine Below.setCell ?_ ?_ _) | (with_reducible exact Nat.le_refl _) | omega | (simp only [World.size_alloc, World.size_setCell, World.size_drew, Wov_size, World.heap_drewN]; omega))), m3_0.below (by (repeat' (first | (with_reducible assumption) | (with_reducible exact Below.refl _ _) | (with_reducible refine below_wov ?_ ?_ _) | (with_reducible refine below_drewN ?_ _) | (with_reducible refine Below.drew ?_) | (with_reducible refine Below.alloc ?_ ?_ _) | (with_reducible refine Below.setCell ?_ ?_ _) | (with_reducible exact Nat.le_refl _) | omega | (simp only [World.size_alloc, World.size_setCell, World.size_drew, Wov_size, World.heap_drewN]; omega)))), m3_1.below (by (repeat' (first | (with_reducible assumption) | (with_reducible exact Below.refl _ _) | (with_reducible refine below_wov ?_ ?_ _) | (with_reducible refine below_drewN ?_ _) | (with_reducible refine Below.drew ?_) | (with_reducible refine Below.alloc ?_ ?_ _) | (with_reducible refine Below.setCell ?_ ?_ _) | (with_reducible exact Nat.le_refl _) | omega | (simp only [World.size_alloc, World.size_setCell, World.size_drew, Wov_size, World.heap_drewN]; omega))))⟩ ?_
        rintro W4 ⟨hb4, m4_0, m4_1⟩
        clear hb3 f3_0_lt f3_0_c0 f3_0_c1 f3_0_c2 f3_0_c3 f3_0_c4 f3_0_c5 f3_1_lt f3_1_c0 f3_1_c1 f3_1_c2 f3_1_c3 f3_1_c4 f3_1_c5 m3_0 m3_1 hs3
        have hs4 := hb4.size
        have f4_0_lt := m4_0.lt
        have f4_0_c0 := m4_0.c0
        have f4_0_c1 := m4_0.c1
        have f4_0_c2 := m4_0.c2
        have f4_0_c3 := m4_0.c3
        have f4_0_c4 := m4_0.c4
        have f4_0_c5 := m4_0.c5
        have f4_1_lt := m4_1.lt
        have f4_1_c0 := m4_1.c0
        have f4_1_c1 := m4_1.c1
        have f4_1_c2 := m4_1.c2
        have f4_1_c3 := m4_1.c3
        have f4_1_c4 := m4_1.c4
        have f4_1_c5 := m4_1.c5
        refine (I1.out _).mono ?_; rintro e w' ⟨rfl, q3, rfl⟩
        go_wp2
        all_goals
          go_ret
          exact gives_bool (by simp) (by (repeat' (first | (with_reducible assumption) | (with_reducible exact Below.refl _ _) | (with_reducible refine below_wov ?_ ?_ _) | (with_reducible refine below_drewN ?_ _) | (with_reducible refine Below.drew ?_) | (with_reducible refine Below.alloc ?_ ?_ _) | (with_reducible refine Below.setCell ?_ ?_ _) | (with_reducible exact Nat.le_refl _) | omega | (simp only [World.size_alloc, World.size_setCell, World.size_drew, Wov_size, World.heap_drewN]; omega))))
end Go.Proofs.Ytnjhjgkekmjmdaa.minusNone
