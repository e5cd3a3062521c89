/- The law CompPoints (walk): a pair is in what is composed just if there is a time between. No condition. -/
import Derived.Test.YtbgbhfcnadjhdaaL11
import Derived.Test.YtbgbhfcnadjhdaaL15
import Derived.Test.YtbgbhfcnadjhdaaFrame2
namespace Go.Proofs.Ytbgbhfcnadjhdaa.compPoints
open Go.ChangeShapes Go.WideShapes Go.ChangeAt Go.RowKit
set_option linter.unusedVariables false
set_option linter.unusedSimpArgs false
attribute [local go_sem] Nat.add_assoc Nat.add_lt_add_iff_left lit_lt_add
theorem meet_okZ {a c l : Nat → Int} (h1 : meetZ a c = (l, 0)) : okZ l = true := by
  have hac : (okZ a && okZ c) = true := by
    cases h : (okZ a && okZ c)
    · rw [meetZ_bad h] at h1; simp at h1
    · rfl
  rw [Bool.and_eq_true] at hac
  obtain ⟨ha, hc⟩ := hac
  rw [meetZ_ok ha hc] at h1
  have ok := okD_less (okZ_okD ha) (okZ_okD hc)
  rcases closeM_cases ok with ⟨f, hf, K⟩ | ⟨hf, _⟩
  · rw [show closeM (3 : Nat) (3 * 3) (lessF (zF a) (zF c)) = ⟨(3 : Nat), 3 * 3, f, 0⟩ from hf, if_pos rfl] at h1
    exact (okZ_told K.closed.1 h1).1
  · rw [hf] at h1
    rw [if_neg (by simp [errM])] at h1
    simp [errM] at h1
theorem comp_fits (a b : Nat → Int) : FitsZ (compZ a b).1 := by
  have z : FitsZ (fun _ => 0) := fun i _ => by show fits64 0; decide
  cases hab : (okZ a && okZ b)
  · rw [comp_bad hab]; exact z
  simp only [Bool.and_eq_true] at hab
  rcases comp_max hab.1 hab.2 with ⟨h1, _⟩ | ⟨c, _, _, h1, _⟩
  · rw [h1]; exact z
  · rw [h1]
    cases ok : okD (3 : Nat) (3 * 3) (dropF c)
    · rw [toldZ_bad ok]; exact z
    · rw [toldZ_ok ok]; exact fun i hi => mayB_fits (okD_may ok _ (placeZ_lt i hi))

set_option maxRecDepth 100000 in
set_option maxHeartbeats 16000000 in
theorem walk0 (a : Nat → Int) (wa : FitsZ a) (b : Nat → Int) (wb : FitsZ b) (pa pb pc pd : Int) (wpa : fits64 pa) (wpb : fits64 pb) (wpc : fits64 pc) (wpd : fits64 pd) (w : World) :
    Calls Try.prog 11 #[zoneV a, zoneV b, .agg #[.int .i64 pa, .int .i64 pb, .int .i64 pc, .int .i64 pd]] w (Gives w (.bool true)) := by
  have HA := Lib.hid alive9
  have SA : Hid (∀ w, Calls Try.prog 44 #[.agg #[.int .i64 (a 0), .int .i64 (a 1), .int .i64 (a 2), .int .i64 (a 3), .int .i64 (a 4), .int .i64 (a 5)]] w (Gives w (.bool (smallZ a)))) := fun w => small9_any a w
  have SB : Hid (∀ w, Calls Try.prog 44 #[.agg #[.int .i64 (b 0), .int .i64 (b 1), .int .i64 (b 2), .int .i64 (b 3), .int .i64 (b 4), .int .i64 (b 5)]] w (Gives w (.bool (smallZ b)))) := fun w => small9_any b w
  cases ka : smallZ a
  · skip
    rw [ka] at SA
    clear ka SB wa wb wpa wpb wpc wpd
    unfold zoneV
    go_enter Try.func11, Try.ntmps11
    go_wp2_with (fail)
    refine calls_world (fun W => Below w.heap.size w W ∧ BoxZ W w.heap.size a ∧ BoxZ W (w.heap.size + 1) b ∧ PtAt W (w.heap.size + 2) pa pb pc pd) ⟨by (repeat' (first | (with_reducible assumption) | (with_reducible exact Below.refl _ _) | (with_reducible refine below_wov ?_ ?_ _) | (with_reducible refine below_drewN ?_ _) | (with_reducible refine Below.drew ?_) | (with_reducible refine Below.alloc ?_ ?_ _) | (with_reducible refine Below.setCell ?_ ?_ _) | (with_reducible exact Nat.le_refl _) | omega | (simp only [World.size_alloc, World.size_setCell, World.size_drew, Wov_size, World.heap_drewN]; omega))), (BoxZ.new (W := w) (t := 24) (by simp)).below (by (repeat' (first | (with_reducible assumption) | (with_reducible exact Below.refl _ _) | (with_reducible refine below_wov ?_ ?_ _) | (with_reducible refine below_drewN ?_ _) | (with_reducible refine Below.drew ?_) | (with_reducible refine Below.alloc ?_ ?_ _) | (with_reducible refine Below.setCell ?_ ?_ _) | (with_reducible exact Nat.le_refl _) | omega | (simp only [World.size_alloc, World.size_setCell, World.size_drew, Wov_size, World.heap_drewN]; omega)))), (BoxZ.new (W := (World.alloc w (.cells #[.int .i64 (a 0), .int .i64 (a 1), .int .i64 (a 2), .int .i64 (a 3), .int .i64 (a 4), .int .i64 (a 5)] 24))) (t := 24) (by simp)).below (by (repeat' (first | (with_reducible assumption) | (with_reducible exact Below.refl _ _) | (with_reducible refine below_wov ?_ ?_ _) | (with_reducible refine below_drewN ?_ _) | (with_reducible refine Below.drew ?_) | (with_reducible refine Below.alloc ?_ ?_ _) | (with_reducible refine Below.setCell ?_ ?_ _) | (with_reducible exact Nat.le_refl _) | omega | (simp only [World.size_alloc, World.size_setCell, World.size_drew, Wov_size, World.heap_drewN]; omega)))), (PtAt.new (W := (World.alloc (World.alloc w (.cells #[.int .i64 (a 0), .int .i64 (a 1), .int .i64 (a 2), .int .i64 (a 3), .int .i64 (a 4), .int .i64 (a 5)] 24)) (.cells #[.int .i64 (b 0), .int .i64 (b 1), .int .i64 (b 2), .int .i64 (b 3), .int .i64 (b 4), .int .i64 (b 5)] 24))) (t := 67) (by simp)).below (by (repeat' (first | (with_reducible assumption) | (with_reducible exact Below.refl _ _) | (with_reducible refine below_wov ?_ ?_ _) | (with_reducible refine below_drewN ?_ _) | (with_reducible refine Below.drew ?_) | (with_reducible refine Below.alloc ?_ ?_ _) | (with_reducible refine Below.setCell ?_ ?_ _) | (with_reducible exact Nat.le_refl _) | omega | (simp only [World.size_alloc, World.size_setCell, World.size_drew, Wov_size, World.heap_drewN]; omega))))⟩ ?_
    rintro W1 ⟨hb1, m1_0, m1_1, m1_2⟩
    have hs1 := hb1.size
    have f1_0_lt := m1_0.lt
    have f1_0_c0 := m1_0.c0
    have f1_0_c1 := m1_0.c1
    have f1_0_c2 := m1_0.c2
    have f1_0_c3 := m1_0.c3
    have f1_0_c4 := m1_0.c4
    have f1_0_c5 := m1_0.c5
    have f1_1_lt := m1_1.lt
    have f1_1_c0 := m1_1.c0
    have f1_1_c1 := m1_1.c1
    have f1_1_c2 := m1_1.c2
    have f1_1_c3 := m1_1.c3
    have f1_1_c4 := m1_1.c4
    have f1_1_c5 := m1_1.c5
    have f1_2_lt := m1_2.lt
    have f1_2_c0 := m1_2.c0
    have f1_2_c1 := m1_2.c1
    have f1_2_c2 := m1_2.c2
    have f1_2_c3 := m1_2.c3
    refine (HA.out _).mono ?_; rintro e w' ⟨rfl, q0, rfl⟩
    go_wp2_with (fail)
    refine calls_world (fun W => Below w.heap.size w W ∧ BoxZ W w.heap.size a ∧ BoxZ W (w.heap.size + 1) b ∧ PtAt W (w.heap.size + 2) pa pb pc pd) ⟨by (repeat' (first | (with_reducible assumption) | (with_reducible exact Below.refl _ _) | (with_reducible refine below_wov ?_ ?_ _) | (with_reducible refine below_drewN ?_ _) | (with_reducible refine Below.drew ?_) | (with_reducible refine Below.alloc ?_ ?_ _) | (with_reducible refine Below.setCell ?_ ?_ _) | (with_reducible exact Nat.le_refl _) | omega | (simp only [World.size_alloc, World.size_setCell, World.size_drew, Wov_size, World.heap_drewN]; omega))), m1_0.below (by (repeat' (first | (with_reducible assumption) | (with_reducible exact Below.refl _ _) | (with_reducible refine below_wov ?_ ?_ _) | (with_reducible refine below_drewN ?_ _) | (with_reducible refine Below.drew ?_) | (with_reducible refine Below.alloc ?_ ?_ _) | (with_reducible refine Below.setCell ?_ ?_ _) | (with_reducible exact Nat.le_refl _) | omega | (simp only [World.size_alloc, World.size_setCell, World.size_drew, Wov_size, World.heap_drewN]; omega)))), m1_1.below (by (repeat' (first | (with_reducible assumption) | (with_reducible exact Below.refl _ _) | (with_reducible refine below_wov ?_ ?_ _) | (with_reducible refine below_drewN ?_ _) | (with_reducible refine Below.drew ?_) | (with_reducible refine Below.alloc ?_ ?_ _) | (with_reducible refine Below.setCell ?_ ?_ _) | (with_reducible exact Nat.le_refl _) | omega | (simp only [World.size_alloc, World.size_setCell, World.size_drew, Wov_size, World.heap_drewN]; omega)))), m1_2.below (by (repeat' (first | (with_reducible assumption) | (with_reducible exact Below.refl _ _) | (with_reducible refine below_wov ?_ ?_ _) | (with_reducible refine below_drewN ?_ _) | (with_reducible refine Below.drew ?_) | (with_reducible refine Below.alloc ?_ ?_ _) | (with_reducible refine Below.setCell ?_ ?_ _) | (with_reducible exact Nat.le_refl _) | omega | (simp only [World.size_alloc, World.size_setCell, World.size_drew, Wov_size, World.heap_drewN]; omega))))⟩ ?_
    rintro W2 ⟨hb2, m2_0, m2_1, m2_2⟩
    clear hb1 f1_0_lt f1_0_c0 f1_0_c1 f1_0_c2 f1_0_c3 f1_0_c4 f1_0_c5 f1_1_lt f1_1_c0 f1_1_c1 f1_1_c2 f1_1_c3 f1_1_c4 f1_1_c5 f1_2_lt f1_2_c0 f1_2_c1 f1_2_c2 f1_2_c3 m1_0 m1_1 m1_2 hs1
    have hs2 := hb2.size
    have f2_0_lt := m2_0.lt
    have f2_0_c0 := m2_0.c0
    have f2_0_c1 := m2_0.c1
    have f2_0_c2 := m2_0.c2
    have f2_0_c3 := m2_0.c3
    have f2_0_c4 := m2_0.c4
    have f2_0_c5 := m2_0.c5
    have f2_1_lt := m2_1.lt
    have f2_1_c0 := m2_1.c0
    have f2_1_c1 := m2_1.c1
    have f2_1_c2 := m2_1.c2
    have f2_1_c3 := m2_1.c3
    have f2_1_c4 := m2_1.c4
    have f2_1_c5 := m2_1.c5
    have f2_2_lt := m2_2.lt
    have f2_2_c0 := m2_2.c0
    have f2_2_c1 := m2_2.c1
    have f2_2_c2 := m2_2.c2
    have f2_2_c3 := m2_2.c3
    refine (SA.out _).mono ?_; rintro e w' ⟨rfl, q1, rfl⟩
    clear HA SA
    go_wp2
    all_goals
      go_ret
      exact gives_bool (by simp) (by (repeat' (first | (with_reducible assumption) | (with_reducible exact Below.refl _ _) | (with_reducible refine below_wov ?_ ?_ _) | (with_reducible refine below_drewN ?_ _) | (with_reducible refine Below.drew ?_) | (with_reducible refine Below.alloc ?_ ?_ _) | (with_reducible refine Below.setCell ?_ ?_ _) | (with_reducible exact Nat.le_refl _) | omega | (simp only [World.size_alloc, World.size_setCell, World.size_drew, Wov_size, World.heap_drewN]; omega))))
  · skip
    rw [ka] at SA
    cases kb : smallZ b
    · skip
      rw [kb] at SB
      clear ka kb wa wb wpa wpb wpc wpd
      unfold zoneV
      go_enter Try.func11, Try.ntmps11
      go_wp2_with (fail)
      refine calls_world (fun W => Below w.heap.size w W ∧ BoxZ W w.heap.size a ∧ BoxZ W (w.heap.size + 1) b ∧ PtAt W (w.heap.size + 2) pa pb pc pd) ⟨by (repeat' (first | (with_reducible assumption) | (with_reducible exact Below.refl _ _) | (with_reducible refine below_wov ?_ ?_ _) | (with_reducible refine below_drewN ?_ _) | (with_reducible refine Below.drew ?_) | (with_reducible refine Below.alloc ?_ ?_ _) | (with_reducible refine Below.setCell ?_ ?_ _) | (with_reducible exact Nat.le_refl _) | omega | (simp only [World.size_alloc, World.size_setCell, World.size_drew, Wov_size, World.heap_drewN]; omega))), (BoxZ.new (W := w) (t := 24) (by simp)).below (by (repeat' (first | (with_reducible assumption) | (with_reducible exact Below.refl _ _) | (with_reducible refine below_wov ?_ ?_ _) | (with_reducible refine below_drewN ?_ _) | (with_reducible refine Below.drew ?_) | (with_reducible refine Below.alloc ?_ ?_ _) | (with_reducible refine Below.setCell ?_ ?_ _) | (with_reducible exact Nat.le_refl _) | omega | (simp only [World.size_alloc, World.size_setCell, World.size_drew, Wov_size, World.heap_drewN]; omega)))), (BoxZ.new (W := (World.alloc w (.cells #[.int .i64 (a 0), .int .i64 (a 1), .int .i64 (a 2), .int .i64 (a 3), .int .i64 (a 4), .int .i64 (a 5)] 24))) (t := 24) (by simp)).below (by (repeat' (first | (with_reducible assumption) | (with_reducible exact Below.refl _ _) | (with_reducible refine below_wov ?_ ?_ _) | (with_reducible refine below_drewN ?_ _) | (with_reducible refine Below.drew ?_) | (with_reducible refine Below.alloc ?_ ?_ _) | (with_reducible refine Below.setCell ?_ ?_ _) | (with_reducible exact Nat.le_refl _) | omega | (simp only [World.size_alloc, World.size_setCell, World.size_drew, Wov_size, World.heap_drewN]; omega)))), (PtAt.new (W := (World.alloc (World.alloc w (.cells #[.int .i64 (a 0), .int .i64 (a 1), .int .i64 (a 2), .int .i64 (a 3), .int .i64 (a 4), .int .i64 (a 5)] 24)) (.cells #[.int .i64 (b 0), .int .i64 (b 1), .int .i64 (b 2), .int .i64 (b 3), .int .i64 (b 4), .int .i64 (b 5)] 24))) (t := 67) (by simp)).below (by (repeat' (first | (with_reducible assumption) | (with_reducible exact Below.refl _ _) | (with_reducible refine below_wov ?_ ?_ _) | (with_reducible refine below_drewN ?_ _) | (with_reducible refine Below.drew ?_) | (with_reducible refine Below.alloc ?_ ?_ _) | (with_reducible refine Below.setCell ?_ ?_ _) | (with_reducible exact Nat.le_refl _) | omega | (simp only [World.size_alloc, World.size_setCell, World.size_drew, Wov_size, World.heap_drewN]; omega))))⟩ ?_
      rintro W1 ⟨hb1, m1_0, m1_1, m1_2⟩
      have hs1 := hb1.size
      have f1_0_lt := m1_0.lt
      have f1_0_c0 := m1_0.c0
      have f1_0_c1 := m1_0.c1
      have f1_0_c2 := m1_0.c2
      have f1_0_c3 := m1_0.c3
      have f1_0_c4 := m1_0.c4
      have f1_0_c5 := m1_0.c5
      have f1_1_lt := m1_1.lt
      have f1_1_c0 := m1_1.c0
      have f1_1_c1 := m1_1.c1
      have f1_1_c2 := m1_1.c2
      have f1_1_c3 := m1_1.c3
      have f1_1_c4 := m1_1.c4
      have f1_1_c5 := m1_1.c5
      have f1_2_lt := m1_2.lt
      have f1_2_c0 := m1_2.c0
      have f1_2_c1 := m1_2.c1
      have f1_2_c2 := m1_2.c2
      have f1_2_c3 := m1_2.c3
      refine (HA.out _).mono ?_; rintro e w' ⟨rfl, q0, rfl⟩
      go_wp2_with (fail)
      refine calls_world (fun W => Below w.heap.size w W ∧ BoxZ W w.heap.size a ∧ BoxZ W (w.heap.size + 1) b ∧ PtAt W (w.heap.size + 2) pa pb pc pd) ⟨by (repeat' (first | (with_reducible assumption) | (with_reducible exact Below.refl _ _) | (with_reducible refine below_wov ?_ ?_ _) | (with_reducible refine below_drewN ?_ _) | (with_reducible refine Below.drew ?_) | (with_reducible refine Below.alloc ?_ ?_ _) | (with_reducible refine Below.setCell ?_ ?_ _) | (with_reducible exact Nat.le_refl _) | omega | (simp only [World.size_alloc, World.size_setCell, World.size_drew, Wov_size, World.heap_drewN]; omega))), m1_0.below (by (repeat' (first | (with_reducible assumption) | (with_reducible exact Below.refl _ _) | (with_reducible refine below_wov ?_ ?_ _) | (with_reducible refine below_drewN ?_ _) | (with_reducible refine Below.drew ?_) | (with_reducible refine Below.alloc ?_ ?_ _) | (with_reducible refine Below.setCell ?_ ?_ _) | (with_reducible exact Nat.le_refl _) | omega | (simp only [World.size_alloc, World.size_setCell, World.size_drew, Wov_size, World.heap_drewN]; omega)))), m1_1.below (by (repeat' (first | (with_reducible assumption) | (with_reducible exact Below.refl _ _) | (with_reducible refine below_wov ?_ ?_ _) | (with_reducible refine below_drewN ?_ _) | (with_reducible refine Below.drew ?_) | (with_reducible refine Below.alloc ?_ ?_ _) | (with_reducible refine Below.setCell ?_ ?_ _) | (with_reducible exact Nat.le_refl _) | omega | (simp only [World.size_alloc, World.size_setCell, World.size_drew, Wov_size, World.heap_drewN]; omega)))), m1_2.below (by (repeat' (first | (with_reducible assumption) | (with_reducible exact Below.refl _ _) | (with_reducible refine below_wov ?_ ?_ _) | (with_reducible refine below_drewN ?_ _) | (with_reducible refine Below.drew ?_) | (with_reducible refine Below.alloc ?_ ?_ _) | (with_reducible refine Below.setCell ?_ ?_ _) | (with_reducible exact Nat.le_refl _) | omega | (simp only [World.size_alloc, World.size_setCell, World.size_drew, Wov_size, World.heap_drewN]; omega))))⟩ ?_
      rintro W2 ⟨hb2, m2_0, m2_1, m2_2⟩
      clear hb1 f1_0_lt f1_0_c0 f1_0_c1 f1_0_c2 f1_0_c3 f1_0_c4 f1_0_c5 f1_1_lt f1_1_c0 f1_1_c1 f1_1_c2 f1_1_c3 f1_1_c4 f1_1_c5 f1_2_lt f1_2_c0 f1_2_c1 f1_2_c2 f1_2_c3 m1_0 m1_1 m1_2 hs1
      have hs2 := hb2.size
      have f2_0_lt := m2_0.lt
      have f2_0_c0 := m2_0.c0
      have f2_0_c1 := m2_0.c1
      have f2_0_c2 := m2_0.c2
      have f2_0_c3 := m2_0.c3
      have f2_0_c4 := m2_0.c4
      have f2_0_c5 := m2_0.c5
      have f2_1_lt := m2_1.lt
      have f2_1_c0 := m2_1.c0
      have f2_1_c1 := m2_1.c1
      have f2_1_c2 := m2_1.c2
      have f2_1_c3 := m2_1.c3
      have f2_1_c4 := m2_1.c4
      have f2_1_c5 := m2_1.c5
      have f2_2_lt := m2_2.lt
      have f2_2_c0 := m2_2.c0
      have f2_2_c1 := m2_2.c1
      have f2_2_c2 := m2_2.c2
      have f2_2_c3 := m2_2.c3
      refine (SA.out _).mono ?_; rintro e w' ⟨rfl, q1, rfl⟩
      go_wp2_with (fail)
      refine calls_world (fun W => Below w.heap.size w W ∧ BoxZ W w.heap.size a ∧ BoxZ W (w.heap.size + 1) b ∧ PtAt W (w.heap.size + 2) pa pb pc pd) ⟨by (repeat' (first | (with_reducible assumption) | (with_reducible exact Below.refl _ _) | (with_reducible refine below_wov ?_ ?_ _) | (with_reducible refine below_drewN ?_ _) | (with_reducible refine Below.drew ?_) | (with_reducible refine Below.alloc ?_ ?_ _) | (with_reducible refine Below.setCell ?_ ?_ _) | (with_reducible exact Nat.le_refl _) | omega | (simp only [World.size_alloc, World.size_setCell, World.size_drew, Wov_size, World.heap_drewN]; omega))), m2_0.below (by (repeat' (first | (with_reducible assumption) | (with_reducible exact Below.refl _ _) | (with_reducible refine below_wov ?_ ?_ _) | (with_reducible refine below_drewN ?_ _) | (with_reducible refine Below.drew ?_) | (with_reducible refine Below.alloc ?_ ?_ _) | (with_reducible refine Below.setCell ?_ ?_ _) | (with_reducible exact Nat.le_refl _) | omega | (simp only [World.size_alloc, World.size_setCell, World.size_drew, Wov_size, World.heap_drewN]; omega)))), m2_1.below (by (repeat' (first | (with_reducible assumption) | (with_reducible exact Below.refl _ _) | (with_reducible refine below_wov ?_ ?_ _) | (with_reducible refine below_drewN ?_ _) | (with_reducible refine Below.drew ?_) | (with_reducible refine Below.alloc ?_ ?_ _) | (with_reducible refine Below.setCell ?_ ?_ _) | (with_reducible exact Nat.le_refl _) | omega | (simp only [World.size_alloc, World.size_setCell, World.size_drew, Wov_size, World.heap_drewN]; omega)))), m2_2.below (by (repeat' (first | (with_reducible assumption) | (with_reducible exact Below.refl _ _) | (with_reducible refine below_wov ?_ ?_ _) | (with_reducible refine below_drewN ?_ _) | (with_reducible refine Below.drew ?_) | (with_reducible refine Below.alloc ?_ ?_ _) | (with_reducible refine Below.setCell ?_ ?_ _) | (with_reducible exact Nat.le_refl _) | omega | (simp only [World.size_alloc, World.size_setCell, World.size_drew, Wov_size, World.heap_drewN]; omega))))⟩ ?_
      rintro W3 ⟨hb3, m3_0, m3_1, m3_2⟩
      clear hb2 f2_0_lt f2_0_c0 f2_0_c1 f2_0_c2 f2_0_c3 f2_0_c4 f2_0_c5 f2_1_lt f2_1_c0 f2_1_c1 f2_1_c2 f2_1_c3 f2_1_c4 f2_1_c5 f2_2_lt f2_2_c0 f2_2_c1 f2_2_c2 f2_2_c3 m2_0 m2_1 m2_2 hs2
      have hs3 := hb3.size
      have f3_0_lt := m3_0.lt
      have f3_0_c0 := m3_0.c0
      have f3_0_c1 := m3_0.c1
      have f3_0_c2 := m3_0.c2
      have f3_0_c3 := m3_0.c3
      have f3_0_c4 := m3_0.c4
      have f3_0_c5 := m3_0.c5
      have f3_1_lt := m3_1.lt
      have f3_1_c0 := m3_1.c0
      have f3_1_c1 := m3_1.c1
      have f3_1_c2 := m3_1.c2
      have f3_1_c3 := m3_1.c3
      have f3_1_c4 := m3_1.c4
      have f3_1_c5 := m3_1.c5
      have f3_2_lt := m3_2.lt
      have f3_2_c0 := m3_2.c0
      have f3_2_c1 := m3_2.c1
      have f3_2_c2 := m3_2.c2
      have f3_2_c3 := m3_2.c3
      refine (SB.out _).mono ?_; rintro e w' ⟨rfl, q2, rfl⟩
      clear HA SA SB
      go_wp2
      all_goals
        go_ret
        exact gives_bool (by simp) (by (repeat' (first | (with_reducible assumption) | (with_reducible exact Below.refl _ _) | (with_reducible refine below_wov ?_ ?_ _) | (with_reducible refine below_drewN ?_ _) | (with_reducible refine Below.drew ?_) | (with_reducible refine Below.alloc ?_ ?_ _) | (with_reducible refine Below.setCell ?_ ?_ _) | (with_reducible exact Nat.le_refl _) | omega | (simp only [World.size_alloc, World.size_setCell, World.size_drew, Wov_size, World.heap_drewN]; omega))))
    · skip
      rw [kb] at SB
      by_cases h1 : 700 < pb
      · skip
        have d1 : decide (700 < pb) = true := decide_eq_true h1
        clear ka kb h1 wa wb wpa wpb wpc wpd
        unfold zoneV
        go_enter Try.func11, Try.ntmps11
        go_wp2_with (fail)
        refine calls_world (fun W => Below w.heap.size w W ∧ BoxZ W w.heap.size a ∧ BoxZ W (w.heap.size + 1) b ∧ PtAt W (w.heap.size + 2) pa pb pc pd) ⟨by (repeat' (first | (with_reducible assumption) | (with_reducible exact Below.refl _ _) | (with_reducible refine below_wov ?_ ?_ _) | (with_reducible refine below_drewN ?_ _) | (with_reducible refine Below.drew ?_) | (with_reducible refine Below.alloc ?_ ?_ _) | (with_reducible refine Below.setCell ?_ ?_ _) | (with_reducible exact Nat.le_refl _) | omega | (simp only [World.size_alloc, World.size_setCell, World.size_drew, Wov_size, World.heap_drewN]; omega))), (BoxZ.new (W := w) (t := 24) (by simp)).below (by (repeat' (first | (with_reducible assumption) | (with_reducible exact Below.refl _ _) | (with_reducible refine below_wov ?_ ?_ _) | (with_reducible refine below_drewN ?_ _) | (with_reducible refine Below.drew ?_) | (with_reducible refine Below.alloc ?_ ?_ _) | (with_reducible refine Below.setCell ?_ ?_ _) | (with_reducible exact Nat.le_refl _) | omega | (simp only [World.size_alloc, World.size_setCell, World.size_drew, Wov_size, World.heap_drewN]; omega)))), (BoxZ.new (W := (World.alloc w (.cells #[.int .i64 (a 0), .int .i64 (a 1), .int .i64 (a 2), .int .i64 (a 3), .int .i64 (a 4), .int .i64 (a 5)] 24))) (t := 24) (by simp)).below (by (repeat' (first | (with_reducible assumption) | (with_reducible exact Below.refl _ _) | (with_reducible refine below_wov ?_ ?_ _) | (with_reducible refine below_drewN ?_ _) | (with_reducible refine Below.drew ?_) | (with_reducible refine Below.alloc ?_ ?_ _) | (with_reducible refine Below.setCell ?_ ?_ _) | (with_reducible exact Nat.le_refl _) | omega | (simp only [World.size_alloc, World.size_setCell, World.size_drew, Wov_size, World.heap_drewN]; omega)))), (PtAt.new (W := (World.alloc (World.alloc w (.cells #[.int .i64 (a 0), .int .i64 (a 1), .int .i64 (a 2), .int .i64 (a 3), .int .i64 (a 4), .int .i64 (a 5)] 24)) (.cells #[.int .i64 (b 0), .int .i64 (b 1), .int .i64 (b 2), .int .i64 (b 3), .int .i64 (b 4), .int .i64 (b 5)] 24))) (t := 67) (by simp)).below (by (repeat' (first | (with_reducible assumption) | (with_reducible exact Below.refl _ _) | (with_reducible refine below_wov ?_ ?_ _) | (with_reducible refine below_drewN ?_ _) | (with_reducible refine Below.drew ?_) | (with_reducible refine Below.alloc ?_ ?_ _) | (with_reducible refine Below.setCell ?_ ?_ _) | (with_reducible exact Nat.le_refl _) | omega | (simp only [World.size_alloc, World.size_setCell, World.size_drew, Wov_size, World.heap_drewN]; omega))))⟩ ?_
        rintro W1 ⟨hb1, m1_0, m1_1, m1_2⟩
        have hs1 := hb1.size
        have f1_0_lt := m1_0.lt
        have f1_0_c0 := m1_0.c0
        have f1_0_c1 := m1_0.c1
        have f1_0_c2 := m1_0.c2
        have f1_0_c3 := m1_0.c3
        have f1_0_c4 := m1_0.c4
        have f1_0_c5 := m1_0.c5
        have f1_1_lt := m1_1.lt
        have f1_1_c0 := m1_1.c0
        have f1_1_c1 := m1_1.c1
        have f1_1_c2 := m1_1.c2
        have f1_1_c3 := m1_1.c3
        have f1_1_c4 := m1_1.c4
        have f1_1_c5 := m1_1.c5
        have f1_2_lt := m1_2.lt
        have f1_2_c0 := m1_2.c0
        have f1_2_c1 := m1_2.c1
        have f1_2_c2 := m1_2.c2
        have f1_2_c3 := m1_2.c3
        refine (HA.out _).mono ?_; rintro e w' ⟨rfl, q0, rfl⟩
        go_wp2_with (fail)
        refine calls_world (fun W => Below w.heap.size w W ∧ BoxZ W w.heap.size a ∧ BoxZ W (w.heap.size + 1) b ∧ PtAt W (w.heap.size + 2) pa pb pc pd) ⟨by (repeat' (first | (with_reducible assumption) | (with_reducible exact Below.refl _ _) | (with_reducible refine below_wov ?_ ?_ _) | (with_reducible refine below_drewN ?_ _) | (with_reducible refine Below.drew ?_) | (with_reducible refine Below.alloc ?_ ?_ _) | (with_reducible refine Below.setCell ?_ ?_ _) | (with_reducible exact Nat.le_refl _) | omega | (simp only [World.size_alloc, World.size_setCell, World.size_drew, Wov_size, World.heap_drewN]; omega))), m1_0.below (by (repeat' (first | (with_reducible assumption) | (with_reducible exact Below.refl _ _) | (with_reducible refine below_wov ?_ ?_ _) | (with_reducible refine below_drewN ?_ _) | (with_reducible refine Below.drew ?_) | (with_reducible refine Below.alloc ?_ ?_ _) | (with_reducible refine Below.setCell ?_ ?_ _) | (with_reducible exact Nat.le_refl _) | omega | (simp only [World.size_alloc, World.size_setCell, World.size_drew, Wov_size, World.heap_drewN]; omega)))), m1_1.below (by (repeat' (first | (with_reducible assumption) | (with_reducible exact Below.refl _ _) | (with_reducible refine below_wov ?_ ?_ _) | (with_reducible refine below_drewN ?_ _) | (with_reducible refine Below.drew ?_) | (with_reducible refine Below.alloc ?_ ?_ _) | (with_reducible refine Below.setCell ?_ ?_ _) | (with_reducible exact Nat.le_refl _) | omega | (simp only [World.size_alloc, World.size_setCell, World.size_drew, Wov_size, World.heap_drewN]; omega)))), m1_2.below (by (repeat' (first | (with_reducible assumption) | (with_reducible exact Below.refl _ _) | (with_reducible refine below_wov ?_ ?_ _) | (with_reducible refine below_drewN ?_ _) | (with_reducible refine Below.drew ?_) | (with_reducible refine Below.alloc ?_ ?_ _) | (with_reducible refine Below.setCell ?_ ?_ _) | (with_reducible exact Nat.le_refl _) | omega | (simp only [World.size_alloc, World.size_setCell, World.size_drew, Wov_size, World.heap_drewN]; omega))))⟩ ?_
        rintro W2 ⟨hb2, m2_0, m2_1, m2_2⟩
        clear hb1 f1_0_lt f1_0_c0 f1_0_c1 f1_0_c2 f1_0_c3 f1_0_c4 f1_0_c5 f1_1_lt f1_1_c0 f1_1_c1 f1_1_c2 f1_1_c3 f1_1_c4 f1_1_c5 f1_2_lt f1_2_c0 f1_2_c1 f1_2_c2 f1_2_c3 m1_0 m1_1 m1_2 hs1
        have hs2 := hb2.size
        have f2_0_lt := m2_0.lt
        have f2_0_c0 := m2_0.c0
        have f2_0_c1 := m2_0.c1
        have f2_0_c2 := m2_0.c2
        have f2_0_c3 := m2_0.c3
        have f2_0_c4 := m2_0.c4
        have f2_0_c5 := m2_0.c5
        have f2_1_lt := m2_1.lt
        have f2_1_c0 := m2_1.c0
        have f2_1_c1 := m2_1.c1
        have f2_1_c2 := m2_1.c2
        have f2_1_c3 := m2_1.c3
        have f2_1_c4 := m2_1.c4
        have f2_1_c5 := m2_1.c5
        have f2_2_lt := m2_2.lt
        have f2_2_c0 := m2_2.c0
        have f2_2_c1 := m2_2.c1
        have f2_2_c2 := m2_2.c2
        have f2_2_c3 := m2_2.c3
        refine (SA.out _).mono ?_; rintro e w' ⟨rfl, q1, rfl⟩
        go_wp2_with (fail)
        refine calls_world (fun W => Below w.heap.size w W ∧ BoxZ W w.heap.size a ∧ BoxZ W (w.heap.size + 1) b ∧ PtAt W (w.heap.size + 2) pa pb pc pd) ⟨by (repeat' (first | (with_reducible assumption) | (with_reducible exact Below.refl _ _) | (with_reducible refine below_wov ?_ ?_ _) | (with_reducible refine below_drewN ?_ _) | (with_reducible refine Below.drew ?_) | (with_reducible refine Below.alloc ?_ ?_ _) | (with_reducible refine Below.setCell ?_ ?_ _) | (with_reducible exact Nat.le_refl _) | omega | (simp only [World.size_alloc, World.size_setCell, World.size_drew, Wov_size, World.heap_drewN]; omega))), m2_0.below (by (repeat' (first | (with_reducible assumption) | (with_reducible exact Below.refl _ _) | (with_reducible refine below_wov ?_ ?_ _) | (with_reducible refine below_drewN ?_ _) | (with_reducible refine Below.drew ?_) | (with_reducible refine Below.alloc ?_ ?_ _) | (with_reducible refine Below.setCell ?_ ?_ _) | (with_reducible exact Nat.le_refl _) | omega | (simp only [World.size_alloc, World.size_setCell, World.size_drew, Wov_size, World.heap_drewN]; omega)))), m2_1.below (by (repeat' (first | (with_reducible assumption) | (with_reducible exact Below.refl _ _) | (with_reducible refine below_wov ?_ ?_ _) | (with_reducible refine below_drewN ?_ _) | (with_reducible refine Below.drew ?_) | (with_reducible refine Below.alloc ?_ ?_ _) | (with_reducible refine Below.setCell ?_ ?_ _) | (with_reducible exact Nat.le_refl _) | omega | (simp only [World.size_alloc, World.size_setCell, World.size_drew, Wov_size, World.heap_drewN]; omega)))), m2_2.below (by (repeat' (first | (with_reducible assumption) | (with_reducible exact Below.refl _ _) | (with_reducible refine below_wov ?_ ?_ _) | (with_reducible refine below_drewN ?_ _) | (with_reducible refine Below.drew ?_) | (with_reducible refine Below.alloc ?_ ?_ _) | (with_reducible refine Below.setCell ?_ ?_ _) | (with_reducible exact Nat.le_refl _) | omega | (simp only [World.size_alloc, World.size_setCell, World.size_drew, Wov_size, World.heap_drewN]; omega))))⟩ ?_
        rintro W3 ⟨hb3, m3_0, m3_1, m3_2⟩
        clear hb2 f2_0_lt f2_0_c0 f2_0_c1 f2_0_c2 f2_0_c3 f2_0_c4 f2_0_c5 f2_1_lt f2_1_c0 f2_1_c1 f2_1_c2 f2_1_c3 f2_1_c4 f2_1_c5 f2_2_lt f2_2_c0 f2_2_c1 f2_2_c2 f2_2_c3 m2_0 m2_1 m2_2 hs2
        have hs3 := hb3.size
        have f3_0_lt := m3_0.lt
        have f3_0_c0 := m3_0.c0
        have f3_0_c1 := m3_0.c1
        have f3_0_c2 := m3_0.c2
        have f3_0_c3 := m3_0.c3
        have f3_0_c4 := m3_0.c4
        have f3_0_c5 := m3_0.c5
        have f3_1_lt := m3_1.lt
        have f3_1_c0 := m3_1.c0
        have f3_1_c1 := m3_1.c1
        have f3_1_c2 := m3_1.c2
        have f3_1_c3 := m3_1.c3
        have f3_1_c4 := m3_1.c4
        have f3_1_c5 := m3_1.c5
        have f3_2_lt := m3_2.lt
        have f3_2_c0 := m3_2.c0
        have f3_2_c1 := m3_2.c1
        have f3_2_c2 := m3_2.c2
        have f3_2_c3 := m3_2.c3
        refine (SB.out _).mono ?_; rintro e w' ⟨rfl, q2, rfl⟩
        clear HA SA SB
        go_wp2
        all_goals
          go_ret
          exact gives_bool (by simp) (by (repeat' (first | (with_reducible assumption) | (with_reducible exact Below.refl _ _) | (with_reducible refine below_wov ?_ ?_ _) | (with_reducible refine below_drewN ?_ _) | (with_reducible refine Below.drew ?_) | (with_reducible refine Below.alloc ?_ ?_ _) | (with_reducible refine Below.setCell ?_ ?_ _) | (with_reducible exact Nat.le_refl _) | omega | (simp only [World.size_alloc, World.size_setCell, World.size_drew, Wov_size, World.heap_drewN]; omega))))
      · skip
        have d1 : decide (700 < pb) = false := decide_eq_false h1
        by_cases h2 : 700 < pd
        · skip
          have d2 : decide (700 < pd) = true := decide_eq_true h2
          clear ka kb h1 h2 wa wb wpa wpb wpc wpd
          unfold zoneV
          go_enter Try.func11, Try.ntmps11
          go_wp2_with (fail)
          refine calls_world (fun W => Below w.heap.size w W ∧ BoxZ W w.heap.size a ∧ BoxZ W (w.heap.size + 1) b ∧ PtAt W (w.heap.size + 2) pa pb pc pd) ⟨by (repeat' (first | (with_reducible assumption) | (with_reducible exact Below.refl _ _) | (with_reducible refine below_wov ?_ ?_ _) | (with_reducible refine below_drewN ?_ _) | (with_reducible refine Below.drew ?_) | (with_reducible refine Below.alloc ?_ ?_ _) | (with_reducible refine Below.setCell ?_ ?_ _) | (with_reducible exact Nat.le_refl _) | omega | (simp only [World.size_alloc, World.size_setCell, World.size_drew, Wov_size, World.heap_drewN]; omega))), (BoxZ.new (W := w) (t := 24) (by simp)).below (by (repeat' (first | (with_reducible assumption) | (with_reducible exact Below.refl _ _) | (with_reducible refine below_wov ?_ ?_ _) | (with_reducible refine below_drewN ?_ _) | (with_reducible refine Below.drew ?_) | (with_reducible refine Below.alloc ?_ ?_ _) | (with_reducible refine Below.setCell ?_ ?_ _) | (with_reducible exact Nat.le_refl _) | omega | (simp only [World.size_alloc, World.size_setCell, World.size_drew, Wov_size, World.heap_drewN]; omega)))), (BoxZ.new (W := (World.alloc w (.cells #[.int .i64 (a 0), .int .i64 (a 1), .int .i64 (a 2), .int .i64 (a 3), .int .i64 (a 4), .int .i64 (a 5)] 24))) (t := 24) (by simp)).below (by (repeat' (first | (with_reducible assumption) | (with_reducible exact Below.refl _ _) | (with_reducible refine below_wov ?_ ?_ _) | (with_reducible refine below_drewN ?_ _) | (with_reducible refine Below.drew ?_) | (with_reducible refine Below.alloc ?_ ?_ _) | (with_reducible refine Below.setCell ?_ ?_ _) | (with_reducible exact Nat.le_refl _) | omega | (simp only [World.size_alloc, World.size_setCell, World.size_drew, Wov_size, World.heap_drewN]; omega)))), (PtAt.new (W := (World.alloc (World.alloc w (.cells #[.int .i64 (a 0), .int .i64 (a 1), .int .i64 (a 2), .int .i64 (a 3), .int .i64 (a 4), .int .i64 (a 5)] 24)) (.cells #[.int .i64 (b 0), .int .i64 (b 1), .int .i64 (b 2), .int .i64 (b 3), .int .i64 (b 4), .int .i64 (b 5)] 24))) (t := 67) (by simp)).below (by (repeat' (first | (with_reducible assumption) | (with_reducible exact Below.refl _ _) | (with_reducible refine below_wov ?_ ?_ _) | (with_reducible refine below_drewN ?_ _) | (with_reducible refine Below.drew ?_) | (with_reducible refine Below.alloc ?_ ?_ _) | (with_reducible refine Below.setCell ?_ ?_ _) | (with_reducible exact Nat.le_refl _) | omega | (simp only [World.size_alloc, World.size_setCell, World.size_drew, Wov_size, World.heap_drewN]; omega))))⟩ ?_
          rintro W1 ⟨hb1, m1_0, m1_1, m1_2⟩
          have hs1 := hb1.size
          have f1_0_lt := m1_0.lt
          have f1_0_c0 := m1_0.c0
          have f1_0_c1 := m1_0.c1
          have f1_0_c2 := m1_0.c2
          have f1_0_c3 := m1_0.c3
          have f1_0_c4 := m1_0.c4
          have f1_0_c5 := m1_0.c5
          have f1_1_lt := m1_1.lt
          have f1_1_c0 := m1_1.c0
          have f1_1_c1 := m1_1.c1
          have f1_1_c2 := m1_1.c2
          have f1_1_c3 := m1_1.c3
          have f1_1_c4 := m1_1.c4
          have f1_1_c5 := m1_1.c5
          have f1_2_lt := m1_2.lt
          have f1_2_c0 := m1_2.c0
          have f1_2_c1 := m1_2.c1
          have f1_2_c2 := m1_2.c2
          have f1_2_c3 := m1_2.c3
          refine (HA.out _).mono ?_; rintro e w' ⟨rfl, q0, rfl⟩
          go_wp2_with (fail)
          refine calls_world (fun W => Below w.heap.size w W ∧ BoxZ W w.heap.size a ∧ BoxZ W (w.heap.size + 1) b ∧ PtAt W (w.heap.size + 2) pa pb pc pd) ⟨by (repeat' (first | (with_reducible assumption) | (with_reducible exact Below.refl _ _) | (with_reducible refine below_wov ?_ ?_ _) | (with_reducible refine below_drewN ?_ _) | (with_reducible refine Below.drew ?_) | (with_reducible refine Below.alloc ?_ ?_ _) | (with_reducible refine Below.setCell ?_ ?_ _) | (with_reducible exact Nat.le_refl _) | omega | (simp only [World.size_alloc, World.size_setCell, World.size_drew, Wov_size, World.heap_drewN]; omega))), m1_0.below (by (repeat' (first | (with_reducible assumption) | (with_reducible exact Below.refl _ _) | (with_reducible refine below_wov ?_ ?_ _) | (with_reducible refine below_drewN ?_ _) | (with_reducible refine Below.drew ?_) | (with_reducible refine Below.alloc ?_ ?_ _) | (with_reducible refine Below.setCell ?_ ?_ _) | (with_reducible exact Nat.le_refl _) | omega | (simp only [World.size_alloc, World.size_setCell, World.size_drew, Wov_size, World.heap_drewN]; omega)))), m1_1.below (by (repeat' (first | (with_reducible assumption) | (with_reducible exact Below.refl _ _) | (with_reducible refine below_wov ?_ ?_ _) | (with_reducible refine below_drewN ?_ _) | (with_reducible refine Below.drew ?_) | (with_reducible refine Below.alloc ?_ ?_ _) | (with_reducible refine Below.setCell ?_ ?_ _) | (with_reducible exact Nat.le_refl _) | omega | (simp only [World.size_alloc, World.size_setCell, World.size_drew, Wov_size, World.heap_drewN]; omega)))), m1_2.below (by (repeat' (first | (with_reducible assumption) | (with_reducible exact Below.refl _ _) | (with_reducible refine below_wov ?_ ?_ _) | (with_reducible refine below_drewN ?_ _) | (with_reducible refine Below.drew ?_) | (with_reducible refine Below.alloc ?_ ?_ _) | (with_reducible refine Below.setCell ?_ ?_ _) | (with_reducible exact Nat.le_refl _) | omega | (simp only [World.size_alloc, World.size_setCell, World.size_drew, Wov_size, World.heap_drewN]; omega))))⟩ ?_
          rintro W2 ⟨hb2, m2_0, m2_1, m2_2⟩
          clear hb1 f1_0_lt f1_0_c0 f1_0_c1 f1_0_c2 f1_0_c3 f1_0_c4 f1_0_c5 f1_1_lt f1_1_c0 f1_1_c1 f1_1_c2 f1_1_c3 f1_1_c4 f1_1_c5 f1_2_lt f1_2_c0 f1_2_c1 f1_2_c2 f1_2_c3 m1_0 m1_1 m1_2 hs1
          have hs2 := hb2.size
          have f2_0_lt := m2_0.lt
          have f2_0_c0 := m2_0.c0
          have f2_0_c1 := m2_0.c1
          have f2_0_c2 := m2_0.c2
          have f2_0_c3 := m2_0.c3
          have f2_0_c4 := m2_0.c4
          have f2_0_c5 := m2_0.c5
          have f2_1_lt := m2_1.lt
          have f2_1_c0 := m2_1.c0
          have f2_1_c1 := m2_1.c1
          have f2_1_c2 := m2_1.c2
          have f2_1_c3 := m2_1.c3
          have f2_1_c4 := m2_1.c4
          have f2_1_c5 := m2_1.c5
          have f2_2_lt := m2_2.lt
          have f2_2_c0 := m2_2.c0
          have f2_2_c1 := m2_2.c1
          have f2_2_c2 := m2_2.c2
          have f2_2_c3 := m2_2.c3
          refine (SA.out _).mono ?_; rintro e w' ⟨rfl, q1, rfl⟩
          go_wp2_with (fail)
          refine calls_world (fun W => Below w.heap.size w W ∧ BoxZ W w.heap.size a ∧ BoxZ W (w.heap.size + 1) b ∧ PtAt W (w.heap.size + 2) pa pb pc pd) ⟨by (repeat' (first | (with_reducible assumption) | (with_reducible exact Below.refl _ _) | (with_reducible refine below_wov ?_ ?_ _) | (with_reducible refine below_drewN ?_ _) | (with_reducible refine Below.drew ?_) | (with_reducible refine Below.alloc ?_ ?_ _) | (with_reducible refine Below.setCell ?_ ?_ _) | (with_reducible exact Nat.le_refl _) | omega | (simp only [World.size_alloc, World.size_setCell, World.size_drew, Wov_size, World.heap_drewN]; omega))), m2_0.below (by (repeat' (first | (with_reducible assumption) | (with_reducible exact Below.refl _ _) | (with_reducible refine below_wov ?_ ?_ _) | (with_reducible refine below_drewN ?_ _) | (with_reducible refine Below.drew ?_) | (with_reducible refine Below.alloc ?_ ?_ _) | (with_reducible refine Below.setCell ?_ ?_ _) | (with_reducible exact Nat.le_refl _) | omega | (simp only [World.size_alloc, World.size_setCell, World.size_drew, Wov_size, World.heap_drewN]; omega)))), m2_1.below (by (repeat' (first | (with_reducible assumption) | (with_reducible exact Below.refl _ _) | (with_reducible refine below_wov ?_ ?_ _) | (with_reducible refine below_drewN ?_ _) | (with_reducible refine Below.drew ?_) | (with_reducible refine Below.alloc ?_ ?_ _) | (with_reducible refine Below.setCell ?_ ?_ _) | (with_reducible exact Nat.le_refl _) | omega | (simp only [World.size_alloc, World.size_setCell, World.size_drew, Wov_size, World.heap_drewN]; omega)))), m2_2.below (by (repeat' (first | (with_reducible assumption) | (with_reducible exact Below.refl _ _) | (with_reducible refine below_wov ?_ ?_ _) | (with_reducible refine below_drewN ?_ _) | (with_reducible refine Below.drew ?_) | (with_reducible refine Below.alloc ?_ ?_ _) | (with_reducible refine Below.setCell ?_ ?_ _) | (with_reducible exact Nat.le_refl _) | omega | (simp only [World.size_alloc, World.size_setCell, World.size_drew, Wov_size, World.heap_drewN]; omega))))⟩ ?_
          rintro W3 ⟨hb3, m3_0, m3_1, m3_2⟩
          clear hb2 f2_0_lt f2_0_c0 f2_0_c1 f2_0_c2 f2_0_c3 f2_0_c4 f2_0_c5 f2_1_lt f2_1_c0 f2_1_c1 f2_1_c2 f2_1_c3 f2_1_c4 f2_1_c5 f2_2_lt f2_2_c0 f2_2_c1 f2_2_c2 f2_2_c3 m2_0 m2_1 m2_2 hs2
          have hs3 := hb3.size
          have f3_0_lt := m3_0.lt
          have f3_0_c0 := m3_0.c0
          have f3_0_c1 := m3_0.c1
          have f3_0_c2 := m3_0.c2
          have f3_0_c3 := m3_0.c3
          have f3_0_c4 := m3_0.c4
          have f3_0_c5 := m3_0.c5
          have f3_1_lt := m3_1.lt
          have f3_1_c0 := m3_1.c0
          have f3_1_c1 := m3_1.c1
          have f3_1_c2 := m3_1.c2
          have f3_1_c3 := m3_1.c3
          have f3_1_c4 := m3_1.c4
          have f3_1_c5 := m3_1.c5
          have f3_2_lt := m3_2.lt
          have f3_2_c0 := m3_2.c0
          have f3_2_c1 := m3_2.c1
          have f3_2_c2 := m3_2.c2
          have f3_2_c3 := m3_2.c3
          refine (SB.out _).mono ?_; rintro e w' ⟨rfl, q2, rfl⟩
          clear HA SA SB
          go_wp2
          all_goals
            go_ret
            exact gives_bool (by simp) (by (repeat' (first | (with_reducible assumption) | (with_reducible exact Below.refl _ _) | (with_reducible refine below_wov ?_ ?_ _) | (with_reducible refine below_drewN ?_ _) | (with_reducible refine Below.drew ?_) | (with_reducible refine Below.alloc ?_ ?_ _) | (with_reducible refine Below.setCell ?_ ?_ _) | (with_reducible exact Nat.le_refl _) | omega | (simp only [World.size_alloc, World.size_setCell, World.size_drew, Wov_size, World.heap_drewN]; omega))))
        · skip
          have d2 : decide (700 < pd) = false := decide_eq_false h2
          have sa := smallZ_iff.1 ka
          have sb := smallZ_iff.1 kb
          obtain ⟨⟨rx, ex⟩, hx⟩ : ∃ r, r = compZ a b := ⟨_, rfl⟩
          have Cx : Hid (∀ w, Calls Try.prog 18 #[.agg #[.int .i64 (a 0), .int .i64 (a 1), .int .i64 (a 2), .int .i64 (a 3), .int .i64 (a 4), .int .i64 (a 5)], .agg #[.int .i64 (b 0), .int .i64 (b 1), .int .i64 (b 2), .int .i64 (b 3), .int .i64 (b 4), .int .i64 (b 5)]] w (Gives w (.tuple #[.agg #[.int .i64 (rx 0), .int .i64 (rx 1), .int .i64 (rx 2), .int .i64 (rx 3), .int .i64 (rx 4), .int .i64 (rx 5)], .int .i64 ex]))) := fun w => by
            have := ccomp_any a b w wa wb
            rw [← hx] at this; exact this
          have KA : Hid (∀ w, Calls Try.prog 45 #[.agg #[.int .i64 (a 0), .int .i64 (a 1), .int .i64 (a 2), .int .i64 (a 3), .int .i64 (a 4), .int .i64 (a 5)]] w (Gives w (.int .i64 (rcode (okZ a))))) := fun w => zcheck_any a w wa
          have KB : Hid (∀ w, Calls Try.prog 45 #[.agg #[.int .i64 (b 0), .int .i64 (b 1), .int .i64 (b 2), .int .i64 (b 3), .int .i64 (b 4), .int .i64 (b 5)]] w (Gives w (.int .i64 (rcode (okZ b))))) := fun w => zcheck_any b w wb
          have xf := comp_fits a b
          rw [← hx] at xf
          dsimp only at xf
          cases oa : okZ a
          · skip
            rw [oa] at KA
            simp only [rcode_f] at KA
            have hxe : (rx, ex) = ((fun _ => 0), 8) := by rw [hx]; exact comp_bad (by rw [oa]; rfl)
            simp only [Prod.mk.injEq] at hxe
            obtain ⟨hrx, rfl⟩ := hxe
            clear ka kb h1 h2 sa sb hx oa xf hrx wa wb wpa wpb wpc wpd
            unfold zoneV
            go_enter Try.func11, Try.ntmps11
            go_wp2_with (fail)
            refine calls_world (fun W => Below w.heap.size w W ∧ BoxZ W w.heap.size a ∧ BoxZ W (w.heap.size + 1) b ∧ PtAt W (w.heap.size + 2) pa pb pc pd) ⟨by (repeat' (first | (with_reducible assumption) | (with_reducible exact Below.refl _ _) | (with_reducible refine below_wov ?_ ?_ _) | (with_reducible refine below_drewN ?_ _) | (with_reducible refine Below.drew ?_) | (with_reducible refine Below.alloc ?_ ?_ _) | (with_reducible refine Below.setCell ?_ ?_ _) | (with_reducible exact Nat.le_refl _) | omega | (simp only [World.size_alloc, World.size_setCell, World.size_drew, Wov_size, World.heap_drewN]; omega))), (BoxZ.new (W := w) (t := 24) (by simp)).below (by (repeat' (first | (with_reducible assumption) | (with_reducible exact Below.refl _ _) | (with_reducible refine below_wov ?_ ?_ _) | (with_reducible refine below_drewN ?_ _) | (with_reducible refine Below.drew ?_) | (with_reducible refine Below.alloc ?_ ?_ _) | (with_reducible refine Below.setCell ?_ ?_ _) | (with_reducible exact Nat.le_refl _) | omega | (simp only [World.size_alloc, World.size_setCell, World.size_drew, Wov_size, World.heap_drewN]; omega)))), (BoxZ.new (W := (World.alloc w (.cells #[.int .i64 (a 0), .int .i64 (a 1), .int .i64 (a 2), .int .i64 (a 3), .int .i64 (a 4), .int .i64 (a 5)] 24))) (t := 24) (by simp)).below (by (repeat' (first | (with_reducible assumption) | (with_reducible exact Below.refl _ _) | (with_reducible refine below_wov ?_ ?_ _) | (with_reducible refine below_drewN ?_ _) | (with_reducible refine Below.drew ?_) | (with_reducible refine Below.alloc ?_ ?_ _) | (with_reducible refine Below.setCell ?_ ?_ _) | (with_reducible exact Nat.le_refl _) | omega | (simp only [World.size_alloc, World.size_setCell, World.size_drew, Wov_size, World.heap_drewN]; omega)))), (PtAt.new (W := (World.alloc (World.alloc w (.cells #[.int .i64 (a 0), .int .i64 (a 1), .int .i64 (a 2), .int .i64 (a 3), .int .i64 (a 4), .int .i64 (a 5)] 24)) (.cells #[.int .i64 (b 0), .int .i64 (b 1), .int .i64 (b 2), .int .i64 (b 3), .int .i64 (b 4), .int .i64 (b 5)] 24))) (t := 67) (by simp)).below (by (repeat' (first | (with_reducible assumption) | (with_reducible exact Below.refl _ _) | (with_reducible refine below_wov ?_ ?_ _) | (with_reducible refine below_drewN ?_ _) | (with_reducible refine Below.drew ?_) | (with_reducible refine Below.alloc ?_ ?_ _) | (with_reducible refine Below.setCell ?_ ?_ _) | (with_reducible exact Nat.le_refl _) | omega | (simp only [World.size_alloc, World.size_setCell, World.size_drew, Wov_size, World.heap_drewN]; omega))))⟩ ?_
            rintro W1 ⟨hb1, m1_0, m1_1, m1_2⟩
            have hs1 := hb1.size
            have f1_0_lt := m1_0.lt
            have f1_0_c0 := m1_0.c0
            have f1_0_c1 := m1_0.c1
            have f1_0_c2 := m1_0.c2
            have f1_0_c3 := m1_0.c3
            have f1_0_c4 := m1_0.c4
            have f1_0_c5 := m1_0.c5
            have f1_1_lt := m1_1.lt
            have f1_1_c0 := m1_1.c0
            have f1_1_c1 := m1_1.c1
            have f1_1_c2 := m1_1.c2
            have f1_1_c3 := m1_1.c3
            have f1_1_c4 := m1_1.c4
            have f1_1_c5 := m1_1.c5
            have f1_2_lt := m1_2.lt
            have f1_2_c0 := m1_2.c0
            have f1_2_c1 := m1_2.c1
            have f1_2_c2 := m1_2.c2
            have f1_2_c3 := m1_2.c3
            refine (HA.out _).mono ?_; rintro e w' ⟨rfl, q0, rfl⟩
            go_wp2_with (fail)
            refine calls_world (fun W => Below w.heap.size w W ∧ BoxZ W w.heap.size a ∧ BoxZ W (w.heap.size + 1) b ∧ PtAt W (w.heap.size + 2) pa pb pc pd) ⟨by (repeat' (first | (with_reducible assumption) | (with_reducible exact Below.refl _ _) | (with_reducible refine below_wov ?_ ?_ _) | (with_reducible refine below_drewN ?_ _) | (with_reducible refine Below.drew ?_) | (with_reducible refine Below.alloc ?_ ?_ _) | (with_reducible refine Below.setCell ?_ ?_ _) | (with_reducible exact Nat.le_refl _) | omega | (simp only [World.size_alloc, World.size_setCell, World.size_drew, Wov_size, World.heap_drewN]; omega))), m1_0.below (by (repeat' (first | (with_reducible assumption) | (with_reducible exact Below.refl _ _) | (with_reducible refine below_wov ?_ ?_ _) | (with_reducible refine below_drewN ?_ _) | (with_reducible refine Below.drew ?_) | (with_reducible refine Below.alloc ?_ ?_ _) | (with_reducible refine Below.setCell ?_ ?_ _) | (with_reducible exact Nat.le_refl _) | omega | (simp only [World.size_alloc, World.size_setCell, World.size_drew, Wov_size, World.heap_drewN]; omega)))), m1_1.below (by (repeat' (first | (with_reducible assumption) | (with_reducible exact Below.refl _ _) | (with_reducible refine below_wov ?_ ?_ _) | (with_reducible refine below_drewN ?_ _) | (with_reducible refine Below.drew ?_) | (with_reducible refine Below.alloc ?_ ?_ _) | (with_reducible refine Below.setCell ?_ ?_ _) | (with_reducible exact Nat.le_refl _) | omega | (simp only [World.size_alloc, World.size_setCell, World.size_drew, Wov_size, World.heap_drewN]; omega)))), m1_2.below (by (repeat' (first | (with_reducible assumption) | (with_reducible exact Below.refl _ _) | (with_reducible refine below_wov ?_ ?_ _) | (with_reducible refine below_drewN ?_ _) | (with_reducible refine Below.drew ?_) | (with_reducible refine Below.alloc ?_ ?_ _) | (with_reducible refine Below.setCell ?_ ?_ _) | (with_reducible exact Nat.le_refl _) | omega | (simp only [World.size_alloc, World.size_setCell, World.size_drew, Wov_size, World.heap_drewN]; omega))))⟩ ?_
            rintro W2 ⟨hb2, m2_0, m2_1, m2_2⟩
            clear hb1 f1_0_lt f1_0_c0 f1_0_c1 f1_0_c2 f1_0_c3 f1_0_c4 f1_0_c5 f1_1_lt f1_1_c0 f1_1_c1 f1_1_c2 f1_1_c3 f1_1_c4 f1_1_c5 f1_2_lt f1_2_c0 f1_2_c1 f1_2_c2 f1_2_c3 m1_0 m1_1 m1_2 hs1
            have hs2 := hb2.size
            have f2_0_lt := m2_0.lt
            have f2_0_c0 := m2_0.c0
            have f2_0_c1 := m2_0.c1
            have f2_0_c2 := m2_0.c2
            have f2_0_c3 := m2_0.c3
            have f2_0_c4 := m2_0.c4
            have f2_0_c5 := m2_0.c5
            have f2_1_lt := m2_1.lt
            have f2_1_c0 := m2_1.c0
            have f2_1_c1 := m2_1.c1
            have f2_1_c2 := m2_1.c2
            have f2_1_c3 := m2_1.c3
            have f2_1_c4 := m2_1.c4
            have f2_1_c5 := m2_1.c5
            have f2_2_lt := m2_2.lt
            have f2_2_c0 := m2_2.c0
            have f2_2_c1 := m2_2.c1
            have f2_2_c2 := m2_2.c2
            have f2_2_c3 := m2_2.c3
            refine (SA.out _).mono ?_; rintro e w' ⟨rfl, q1, rfl⟩
            go_wp2_with (fail)
            refine calls_world (fun W => Below w.heap.size w W ∧ BoxZ W w.heap.size a ∧ BoxZ W (w.heap.size + 1) b ∧ PtAt W (w.heap.size + 2) pa pb pc pd) ⟨by (repeat' (first | (with_reducible assumption) | (with_reducible exact Below.refl _ _) | (with_reducible refine below_wov ?_ ?_ _) | (with_reducible refine below_drewN ?_ _) | (with_reducible refine Below.drew ?_) | (with_reducible refine Below.alloc ?_ ?_ _) | (with_reducible refine Below.setCell ?_ ?_ _) | (with_reducible exact Nat.le_refl _) | omega | (simp only [World.size_alloc, World.size_setCell, World.size_drew, Wov_size, World.heap_drewN]; omega))), m2_0.below (by (repeat' (first | (with_reducible assumption) | (with_reducible exact Below.refl _ _) | (with_reducible refine below_wov ?_ ?_ _) | (with_reducible refine below_drewN ?_ _) | (with_reducible refine Below.drew ?_) | (with_reducible refine Below.alloc ?_ ?_ _) | (with_reducible refine Below.setCell ?_ ?_ _) | (with_reducible exact Nat.le_refl _) | omega | (simp only [World.size_alloc, World.size_setCell, World.size_drew, Wov_size, World.heap_drewN]; omega)))), m2_1.below (by (repeat' (first | (with_reducible assumption) | (with_reducible exact Below.refl _ _) | (with_reducible refine below_wov ?_ ?_ _) | (with_reducible refine below_drewN ?_ _) | (with_reducible refine Below.drew ?_) | (with_reducible refine Below.alloc ?_ ?_ _) | (with_reducible refine Below.setCell ?_ ?_ _) | (with_reducible exact Nat.le_refl _) | omega | (simp only [World.size_alloc, World.size_setCell, World.size_drew, Wov_size, World.heap_drewN]; omega)))), m2_2.below (by (repeat' (first | (with_reducible assumption) | (with_reducible exact Below.refl _ _) | (with_reducible refine below_wov ?_ ?_ _) | (with_reducible refine below_drewN ?_ _) | (with_reducible refine Below.drew ?_) | (with_reducible refine Below.alloc ?_ ?_ _) | (with_reducible refine Below.setCell ?_ ?_ _) | (with_reducible exact Nat.le_refl _) | omega | (simp only [World.size_alloc, World.size_setCell, World.size_drew, Wov_size, World.heap_drewN]; omega))))⟩ ?_
            rintro W3 ⟨hb3, m3_0, m3_1, m3_2⟩
            clear hb2 f2_0_lt f2_0_c0 f2_0_c1 f2_0_c2 f2_0_c3 f2_0_c4 f2_0_c5 f2_1_lt f2_1_c0 f2_1_c1 f2_1_c2 f2_1_c3 f2_1_c4 f2_1_c5 f2_2_lt f2_2_c0 f2_2_c1 f2_2_c2 f2_2_c3 m2_0 m2_1 m2_2 hs2
            have hs3 := hb3.size
            have f3_0_lt := m3_0.lt
            have f3_0_c0 := m3_0.c0
            have f3_0_c1 := m3_0.c1
            have f3_0_c2 := m3_0.c2
            have f3_0_c3 := m3_0.c3
            have f3_0_c4 := m3_0.c4
            have f3_0_c5 := m3_0.c5
            have f3_1_lt := m3_1.lt
            have f3_1_c0 := m3_1.c0
            have f3_1_c1 := m3_1.c1
            have f3_1_c2 := m3_1.c2
            have f3_1_c3 := m3_1.c3
            have f3_1_c4 := m3_1.c4
            have f3_1_c5 := m3_1.c5
            have f3_2_lt := m3_2.lt
            have f3_2_c0 := m3_2.c0
            have f3_2_c1 := m3_2.c1
            have f3_2_c2 := m3_2.c2
            have f3_2_c3 := m3_2.c3
            refine (SB.out _).mono ?_; rintro e w' ⟨rfl, q2, rfl⟩
            go_wp2_with (fail)
            refine calls_world (fun W => Below w.heap.size w W ∧ BoxZ W w.heap.size a ∧ BoxZ W (w.heap.size + 1) b ∧ PtAt W (w.heap.size + 2) pa pb pc pd) ⟨by (repeat' (first | (with_reducible assumption) | (with_reducible exact Below.refl _ _) | (with_reducible refine below_wov ?_ ?_ _) | (with_reducible refine below_drewN ?_ _) | (with_reducible refine Below.drew ?_) | (with_reducible refine Below.alloc ?_ ?_ _) | (with_reducible refine Below.setCell ?_ ?_ _) | (with_reducible exact Nat.le_refl _) | omega | (simp only [World.size_alloc, World.size_setCell, World.size_drew, Wov_size, World.heap_drewN]; omega))), m3_0.below (by (repeat' (first | (with_reducible assumption) | (with_reducible exact Below.refl _ _) | (with_reducible refine below_wov ?_ ?_ _) | (with_reducible refine below_drewN ?_ _) | (with_reducible refine Below.drew ?_) | (with_reducible refine Below.alloc ?_ ?_ _) | (with_reducible refine Below.setCell ?_ ?_ _) | (with_reducible exact Nat.le_refl _) | omega | (simp only [World.size_alloc, World.size_setCell, World.size_drew, Wov_size, World.heap_drewN]; omega)))), m3_1.below (by (repeat' (first | (with_reducible assumption) | (with_reducible exact Below.refl _ _) | (with_reducible refine below_wov ?_ ?_ _) | (with_reducible refine below_drewN ?_ _) | (with_reducible refine Below.drew ?_) | (with_reducible refine Below.alloc ?_ ?_ _) | (with_reducible refine Below.setCell ?_ ?_ _) | (with_reducible exact Nat.le_refl _) | omega | (simp only [World.size_alloc, World.size_setCell, World.size_drew, Wov_size, World.heap_drewN]; omega)))), m3_2.below (by (repeat' (first | (with_reducible assumption) | (with_reducible exact Below.refl _ _) | (with_reducible refine below_wov ?_ ?_ _) | (with_reducible refine below_drewN ?_ _) | (with_reducible refine Below.drew ?_) | (with_reducible refine Below.alloc ?_ ?_ _) | (with_reducible refine Below.setCell ?_ ?_ _) | (with_reducible exact Nat.le_refl _) | omega | (simp only [World.size_alloc, World.size_setCell, World.size_drew, Wov_size, World.heap_drewN]; omega))))⟩ ?_
            rintro W4 ⟨hb4, m4_0, m4_1, m4_2⟩
            clear hb3 f3_0_lt f3_0_c0 f3_0_c1 f3_0_c2 f3_0_c3 f3_0_c4 f3_0_c5 f3_1_lt f3_1_c0 f3_1_c1 f3_1_c2 f3_1_c3 f3_1_c4 f3_1_c5 f3_2_lt f3_2_c0 f3_2_c1 f3_2_c2 f3_2_c3 m3_0 m3_1 m3_2 hs3
            have hs4 := hb4.size
            have f4_0_lt := m4_0.lt
            have f4_0_c0 := m4_0.c0
            have f4_0_c1 := m4_0.c1
            have f4_0_c2 := m4_0.c2
            have f4_0_c3 := m4_0.c3
            have f4_0_c4 := m4_0.c4
            have f4_0_c5 := m4_0.c5
            have f4_1_lt := m4_1.lt
            have f4_1_c0 := m4_1.c0
            have f4_1_c1 := m4_1.c1
            have f4_1_c2 := m4_1.c2
            have f4_1_c3 := m4_1.c3
            have f4_1_c4 := m4_1.c4
            have f4_1_c5 := m4_1.c5
            have f4_2_lt := m4_2.lt
            have f4_2_c0 := m4_2.c0
            have f4_2_c1 := m4_2.c1
            have f4_2_c2 := m4_2.c2
            have f4_2_c3 := m4_2.c3
            refine (Cx.out _).mono ?_; rintro e w' ⟨rfl, qx, rfl⟩
            clear HA SA SB Cx
            go_wp2_with (fail)
            obtain ⟨Ax, hAx⟩ : ∃ A, W4.heap.size + qx.bl.size = A := ⟨_, rfl⟩
            rw [hAx]
            refine calls_world (fun W => Below w.heap.size w W ∧ BoxZ W w.heap.size a ∧ BoxZ W (w.heap.size + 1) b ∧ PtAt W (w.heap.size + 2) pa pb pc pd ∧ BoxZ W Ax rx) ⟨by (repeat' (first | (with_reducible assumption) | (with_reducible exact Below.refl _ _) | (with_reducible refine below_wov ?_ ?_ _) | (with_reducible refine below_drewN ?_ _) | (with_reducible refine Below.drew ?_) | (with_reducible refine Below.alloc ?_ ?_ _) | (with_reducible refine Below.setCell ?_ ?_ _) | (with_reducible exact Nat.le_refl _) | omega | (simp only [World.size_alloc, World.size_setCell, World.size_drew, Wov_size, World.heap_drewN]; omega))), m4_0.below (by (repeat' (first | (with_reducible assumption) | (with_reducible exact Below.refl _ _) | (with_reducible refine below_wov ?_ ?_ _) | (with_reducible refine below_drewN ?_ _) | (with_reducible refine Below.drew ?_) | (with_reducible refine Below.alloc ?_ ?_ _) | (with_reducible refine Below.setCell ?_ ?_ _) | (with_reducible exact Nat.le_refl _) | omega | (simp only [World.size_alloc, World.size_setCell, World.size_drew, Wov_size, World.heap_drewN]; omega)))), m4_1.below (by (repeat' (first | (with_reducible assumption) | (with_reducible exact Below.refl _ _) | (with_reducible refine below_wov ?_ ?_ _) | (with_reducible refine below_drewN ?_ _) | (with_reducible refine Below.drew ?_) | (with_reducible refine Below.alloc ?_ ?_ _) | (with_reducible refine Below.setCell ?_ ?_ _) | (with_reducible exact Nat.le_refl _) | omega | (simp only [World.size_alloc, World.size_setCell, World.size_drew, Wov_size, World.heap_drewN]; omega)))), m4_2.below (by (repeat' (first | (with_reducible assumption) | (with_reducible exact Below.refl _ _) | (with_reducible refine below_wov ?_ ?_ _) | (with_reducible refine below_drewN ?_ _) | (with_reducible refine Below.drew ?_) | (with_reducible refine Below.alloc ?_ ?_ _) | (with_reducible refine Below.setCell ?_ ?_ _) | (with_reducible exact Nat.le_refl _) | omega | (simp only [World.size_alloc, World.size_setCell, World.size_drew, Wov_size, World.heap_drewN]; omega)))), BoxZ.new (by rw [← hAx]; (try simp only [Wov_size]))⟩ ?_
            rintro W5 ⟨hb5, m5_0, m5_1, m5_2, m5_3⟩
            clear hb4 f4_0_lt f4_0_c0 f4_0_c1 f4_0_c2 f4_0_c3 f4_0_c4 f4_0_c5 f4_1_lt f4_1_c0 f4_1_c1 f4_1_c2 f4_1_c3 f4_1_c4 f4_1_c5 f4_2_lt f4_2_c0 f4_2_c1 f4_2_c2 f4_2_c3 m4_0 m4_1 m4_2 hs4
            have hs5 := hb5.size
            have f5_0_lt := m5_0.lt
            have f5_0_c0 := m5_0.c0
            have f5_0_c1 := m5_0.c1
            have f5_0_c2 := m5_0.c2
            have f5_0_c3 := m5_0.c3
            have f5_0_c4 := m5_0.c4
            have f5_0_c5 := m5_0.c5
            have f5_1_lt := m5_1.lt
            have f5_1_c0 := m5_1.c0
            have f5_1_c1 := m5_1.c1
            have f5_1_c2 := m5_1.c2
            have f5_1_c3 := m5_1.c3
            have f5_1_c4 := m5_1.c4
            have f5_1_c5 := m5_1.c5
            have f5_2_lt := m5_2.lt
            have f5_2_c0 := m5_2.c0
            have f5_2_c1 := m5_2.c1
            have f5_2_c2 := m5_2.c2
            have f5_2_c3 := m5_2.c3
            have f5_3_lt := m5_3.lt
            have f5_3_c0 := m5_3.c0
            have f5_3_c1 := m5_3.c1
            have f5_3_c2 := m5_3.c2
            have f5_3_c3 := m5_3.c3
            have f5_3_c4 := m5_3.c4
            have f5_3_c5 := m5_3.c5
            clear hAx
            refine (KA.out _).mono ?_; rintro e w' ⟨rfl, q3, rfl⟩
            clear KA KB
            go_wp2
            all_goals
              go_ret
              exact gives_bool (by simp) (by (repeat' (first | (with_reducible assumption) | (with_reducible exact Below.refl _ _) | (with_reducible refine below_wov ?_ ?_ _) | (with_reducible refine below_drewN ?_ _) | (with_reducible refine Below.drew ?_) | (with_reducible refine Below.alloc ?_ ?_ _) | (with_reducible refine Below.setCell ?_ ?_ _) | (with_reducible exact Nat.le_refl _) | omega | (simp only [World.size_alloc, World.size_setCell, World.size_drew, Wov_size, World.heap_drewN]; omega))))
          · skip
            rw [oa] at KA
            simp only [rcode_t] at KA
            cases ob : okZ b
            · skip
              rw [ob] at KB
              simp only [rcode_f] at KB
              have hxe : (rx, ex) = ((fun _ => 0), 8) := by rw [hx]; exact comp_bad (by rw [oa, ob]; rfl)
              simp only [Prod.mk.injEq] at hxe
              obtain ⟨hrx, rfl⟩ := hxe
              clear ka kb h1 h2 sa sb hx oa ob xf hrx wa wb wpa wpb wpc wpd
              unfold zoneV
              go_enter Try.func11, Try.ntmps11
              go_wp2_with (fail)
              refine calls_world (fun W => Below w.heap.size w W ∧ BoxZ W w.heap.size a ∧ BoxZ W (w.heap.size + 1) b ∧ PtAt W (w.heap.size + 2) pa pb pc pd) ⟨by (repeat' (first | (with_reducible assumption) | (with_reducible exact Below.refl _ _) | (with_reducible refine below_wov ?_ ?_ _) | (with_reducible refine below_drewN ?_ _) | (with_reducible refine Below.drew ?_) | (with_reducible refine Below.alloc ?_ ?_ _) | (with_reducible refine Below.setCell ?_ ?_ _) | (with_reducible exact Nat.le_refl _) | omega | (simp only [World.size_alloc, World.size_setCell, World.size_drew, Wov_size, World.heap_drewN]; omega))), (BoxZ.new (W := w) (t := 24) (by simp)).below (by (repeat' (first | (with_reducible assumption) | (with_reducible exact Below.refl _ _) | (with_reducible refine below_wov ?_ ?_ _) | (with_reducible refine below_drewN ?_ _) | (with_reducible refine Below.drew ?_) | (with_reducible refine Below.alloc ?_ ?_ _) | (with_reducible refine Below.setCell ?_ ?_ _) | (with_reducible exact Nat.le_refl _) | omega | (simp only [World.size_alloc, World.size_setCell, World.size_drew, Wov_size, World.heap_drewN]; omega)))), (BoxZ.new (W := (World.alloc w (.cells #[.int .i64 (a 0), .int .i64 (a 1), .int .i64 (a 2), .int .i64 (a 3), .int .i64 (a 4), .int .i64 (a 5)] 24))) (t := 24) (by simp)).below (by (repeat' (first | (with_reducible assumption) | (with_reducible exact Below.refl _ _) | (with_reducible refine below_wov ?_ ?_ _) | (with_reducible refine below_drewN ?_ _) | (with_reducible refine Below.drew ?_) | (with_reducible refine Below.alloc ?_ ?_ _) | (with_reducible refine Below.setCell ?_ ?_ _) | (with_reducible exact Nat.le_refl _) | omega | (simp only [World.size_alloc, World.size_setCell, World.size_drew, Wov_size, World.heap_drewN]; omega)))), (PtAt.new (W := (World.alloc (World.alloc w (.cells #[.int .i64 (a 0), .int .i64 (a 1), .int .i64 (a 2), .int .i64 (a 3), .int .i64 (a 4), .int .i64 (a 5)] 24)) (.cells #[.int .i64 (b 0), .int .i64 (b 1), .int .i64 (b 2), .int .i64 (b 3), .int .i64 (b 4), .int .i64 (b 5)] 24))) (t := 67) (by simp)).below (by (repeat' (first | (with_reducible assumption) | (with_reducible exact Below.refl _ _) | (with_reducible refine below_wov ?_ ?_ _) | (with_reducible refine below_drewN ?_ _) | (with_reducible refine Below.drew ?_) | (with_reducible refine Below.alloc ?_ ?_ _) | (with_reducible refine Below.setCell ?_ ?_ _) | (with_reducible exact Nat.le_refl _) | omega | (simp only [World.size_alloc, World.size_setCell, World.size_drew, Wov_size, World.heap_drewN]; omega))))⟩ ?_
              rintro W1 ⟨hb1, m1_0, m1_1, m1_2⟩
              have hs1 := hb1.size
              have f1_0_lt := m1_0.lt
              have f1_0_c0 := m1_0.c0
              have f1_0_c1 := m1_0.c1
              have f1_0_c2 := m1_0.c2
              have f1_0_c3 := m1_0.c3
              have f1_0_c4 := m1_0.c4
              have f1_0_c5 := m1_0.c5
              have f1_1_lt := m1_1.lt
              have f1_1_c0 := m1_1.c0
              have f1_1_c1 := m1_1.c1
              have f1_1_c2 := m1_1.c2
              have f1_1_c3 := m1_1.c3
              have f1_1_c4 := m1_1.c4
              have f1_1_c5 := m1_1.c5
              have f1_2_lt := m1_2.lt
              have f1_2_c0 := m1_2.c0
              have f1_2_c1 := m1_2.c1
              have f1_2_c2 := m1_2.c2
              have f1_2_c3 := m1_2.c3
              refine (HA.out _).mono ?_; rintro e w' ⟨rfl, q0, rfl⟩
              go_wp2_with (fail)
              refine calls_world (fun W => Below w.heap.size w W ∧ BoxZ W w.heap.size a ∧ BoxZ W (w.heap.size + 1) b ∧ PtAt W (w.heap.size + 2) pa pb pc pd) ⟨by (repeat' (first | (with_reducible assumption) | (with_reducible exact Below.refl _ _) | (with_reducible refine below_wov ?_ ?_ _) | (with_reducible refine below_drewN ?_ _) | (with_reducible refine Below.drew ?_) | (with_reducible refine Below.alloc ?_ ?_ _) | (with_reducible refine Below.setCell ?_ ?_ _) | (with_reducible exact Nat.le_refl _) | omega | (simp only [World.size_alloc, World.size_setCell, World.size_drew, Wov_size, World.heap_drewN]; omega))), m1_0.below (by (repeat' (first | (with_reducible assumption) | (with_reducible exact Below.refl _ _) | (with_reducible refine below_wov ?_ ?_ _) | (with_reducible refine below_drewN ?_ _) | (with_reducible refine Below.drew ?_) | (with_reducible refine Below.alloc ?_ ?_ _) | (with_reducible refine Below.setCell ?_ ?_ _) | (with_reducible exact Nat.le_refl _) | omega | (simp only [World.size_alloc, World.size_setCell, World.size_drew, Wov_size, World.heap_drewN]; omega)))), m1_1.below (by (repeat' (first | (with_reducible assumption) | (with_reducible exact Below.refl _ _) | (with_reducible refine below_wov ?_ ?_ _) | (with_reducible refine below_drewN ?_ _) | (with_reducible refine Below.drew ?_) | (with_reducible refine Below.alloc ?_ ?_ _) | (with_reducible refine Below.setCell ?_ ?_ _) | (with_reducible exact Nat.le_refl _) | omega | (simp only [World.size_alloc, World.size_setCell, World.size_drew, Wov_size, World.heap_drewN]; omega)))), m1_2.below (by (repeat' (first | (with_reducible assumption) | (with_reducible exact Below.refl _ _) | (with_reducible refine below_wov ?_ ?_ _) | (with_reducible refine below_drewN ?_ _) | (with_reducible refine Below.drew ?_) | (with_reducible refine Below.alloc ?_ ?_ _) | (with_reducible refine Below.setCell ?_ ?_ _) | (with_reducible exact Nat.le_refl _) | omega | (simp only [World.size_alloc, World.size_setCell, World.size_drew, Wov_size, World.heap_drewN]; omega))))⟩ ?_
              rintro W2 ⟨hb2, m2_0, m2_1, m2_2⟩
              clear hb1 f1_0_lt f1_0_c0 f1_0_c1 f1_0_c2 f1_0_c3 f1_0_c4 f1_0_c5 f1_1_lt f1_1_c0 f1_1_c1 f1_1_c2 f1_1_c3 f1_1_c4 f1_1_c5 f1_2_lt f1_2_c0 f1_2_c1 f1_2_c2 f1_2_c3 m1_0 m1_1 m1_2 hs1
              have hs2 := hb2.size
              have f2_0_lt := m2_0.lt
              have f2_0_c0 := m2_0.c0
              have f2_0_c1 := m2_0.c1
              have f2_0_c2 := m2_0.c2
              have f2_0_c3 := m2_0.c3
              have f2_0_c4 := m2_0.c4
              have f2_0_c5 := m2_0.c5
              have f2_1_lt := m2_1.lt
              have f2_1_c0 := m2_1.c0
              have f2_1_c1 := m2_1.c1
              have f2_1_c2 := m2_1.c2
              have f2_1_c3 := m2_1.c3
              have f2_1_c4 := m2_1.c4
              have f2_1_c5 := m2_1.c5
              have f2_2_lt := m2_2.lt
              have f2_2_c0 := m2_2.c0
              have f2_2_c1 := m2_2.c1
              have f2_2_c2 := m2_2.c2
              have f2_2_c3 := m2_2.c3
              refine (SA.out _).mono ?_; rintro e w' ⟨rfl, q1, rfl⟩
              go_wp2_with (fail)
              refine calls_world (fun W => Below w.heap.size w W ∧ BoxZ W w.heap.size a ∧ BoxZ W (w.heap.size + 1) b ∧ PtAt W (w.heap.size + 2) pa pb pc pd) ⟨by (repeat' (first | (with_reducible assumption) | (with_reducible exact Below.refl _ _) | (with_reducible refine below_wov ?_ ?_ _) | (with_reducible refine below_drewN ?_ _) | (with_reducible refine Below.drew ?_) | (with_reducible refine Below.alloc ?_ ?_ _) | (with_reducible refine Below.setCell ?_ ?_ _) | (with_reducible exact Nat.le_refl _) | omega | (simp only [World.size_alloc, World.size_setCell, World.size_drew, Wov_size, World.heap_drewN]; omega))), m2_0.below (by (repeat' (first | (with_reducible assumption) | (with_reducible exact Below.refl _ _) | (with_reducible refine below_wov ?_ ?_ _) | (with_reducible refine below_drewN ?_ _) | (with_reducible refine Below.drew ?_) | (with_reducible refine Below.alloc ?_ ?_ _) | (with_reducible refine Below.setCell ?_ ?_ _) | (with_reducible exact Nat.le_refl _) | omega | (simp only [World.size_alloc, World.size_setCell, World.size_drew, Wov_size, World.heap_drewN]; omega)))), m2_1.below (by (repeat' (first | (with_reducible assumption) | (with_reducible exact Below.refl _ _) | (with_reducible refine below_wov ?_ ?_ _) | (with_reducible refine below_drewN ?_ _) | (with_reducible refine Below.drew ?_) | (with_reducible refine Below.alloc ?_ ?_ _) | (with_reducible refine Below.setCell ?_ ?_ _) | (with_reducible exact Nat.le_refl _) | omega | (simp only [World.size_alloc, World.size_setCell, World.size_drew, Wov_size, World.heap_drewN]; omega)))), m2_2.below (by (repeat' (first | (with_reducible assumption) | (with_reducible exact Below.refl _ _) | (with_reducible refine below_wov ?_ ?_ _) | (with_reducible refine below_drewN ?_ _) | (with_reducible refine Below.drew ?_) | (with_reducible refine Below.alloc ?_ ?_ _) | (with_reducible refine Below.setCell ?_ ?_ _) | (with_reducible exact Nat.le_refl _) | omega | (simp only [World.size_alloc, World.size_setCell, World.size_drew, Wov_size, World.heap_drewN]; omega))))⟩ ?_
              rintro W3 ⟨hb3, m3_0, m3_1, m3_2⟩
              clear hb2 f2_0_lt f2_0_c0 f2_0_c1 f2_0_c2 f2_0_c3 f2_0_c4 f2_0_c5 f2_1_lt f2_1_c0 f2_1_c1 f2_1_c2 f2_1_c3 f2_1_c4 f2_1_c5 f2_2_lt f2_2_c0 f2_2_c1 f2_2_c2 f2_2_c3 m2_0 m2_1 m2_2 hs2
              have hs3 := hb3.size
              have f3_0_lt := m3_0.lt
              have f3_0_c0 := m3_0.c0
              have f3_0_c1 := m3_0.c1
              have f3_0_c2 := m3_0.c2
              have f3_0_c3 := m3_0.c3
              have f3_0_c4 := m3_0.c4
              have f3_0_c5 := m3_0.c5
              have f3_1_lt := m3_1.lt
              have f3_1_c0 := m3_1.c0
              have f3_1_c1 := m3_1.c1
              have f3_1_c2 := m3_1.c2
              have f3_1_c3 := m3_1.c3
              have f3_1_c4 := m3_1.c4
              have f3_1_c5 := m3_1.c5
              have f3_2_lt := m3_2.lt
              have f3_2_c0 := m3_2.c0
              have f3_2_c1 := m3_2.c1
              have f3_2_c2 := m3_2.c2
              have f3_2_c3 := m3_2.c3
              refine (SB.out _).mono ?_; rintro e w' ⟨rfl, q2, rfl⟩
              go_wp2_with (fail)
              refine calls_world (fun W => Below w.heap.size w W ∧ BoxZ W w.heap.size a ∧ BoxZ W (w.heap.size + 1) b ∧ PtAt W (w.heap.size + 2) pa pb pc pd) ⟨by (repeat' (first | (with_reducible assumption) | (with_reducible exact Below.refl _ _) | (with_reducible refine below_wov ?_ ?_ _) | (with_reducible refine below_drewN ?_ _) | (with_reducible refine Below.drew ?_) | (with_reducible refine Below.alloc ?_ ?_ _) | (with_reducible refine Below.setCell ?_ ?_ _) | (with_reducible exact Nat.le_refl _) | omega | (simp only [World.size_alloc, World.size_setCell, World.size_drew, Wov_size, World.heap_drewN]; omega))), m3_0.below (by (repeat' (first | (with_reducible assumption) | (with_reducible exact Below.refl _ _) | (with_reducible refine below_wov ?_ ?_ _) | (with_reducible refine below_drewN ?_ _) | (with_reducible refine Below.drew ?_) | (with_reducible refine Below.alloc ?_ ?_ _) | (with_reducible refine Below.setCell ?_ ?_ _) | (with_reducible exact Nat.le_refl _) | omega | (simp only [World.size_alloc, World.size_setCell, World.size_drew, Wov_size, World.heap_drewN]; omega)))), m3_1.below (by (repeat' (first | (with_reducible assumption) | (with_reducible exact Below.refl _ _) | (with_reducible refine below_wov ?_ ?_ _) | (with_reducible refine below_drewN ?_ _) | (with_reducible refine Below.drew ?_) | (with_reducible refine Below.alloc ?_ ?_ _) | (with_reducible refine Below.setCell ?_ ?_ _) | (with_reducible exact Nat.le_refl _) | omega | (simp only [World.size_alloc, World.size_setCell, World.size_drew, Wov_size, World.heap_drewN]; omega)))), m3_2.below (by (repeat' (first | (with_reducible assumption) | (with_reducible exact Below.refl _ _) | (with_reducible refine below_wov ?_ ?_ _) | (with_reducible refine below_drewN ?_ _) | (with_reducible refine Below.drew ?_) | (with_reducible refine Below.alloc ?_ ?_ _) | (with_reducible refine Below.setCell ?_ ?_ _) | (with_reducible exact Nat.le_refl _) | omega | (simp only [World.size_alloc, World.size_setCell, World.size_drew, Wov_size, World.heap_drewN]; omega))))⟩ ?_
              rintro W4 ⟨hb4, m4_0, m4_1, m4_2⟩
              clear hb3 f3_0_lt f3_0_c0 f3_0_c1 f3_0_c2 f3_0_c3 f3_0_c4 f3_0_c5 f3_1_lt f3_1_c0 f3_1_c1 f3_1_c2 f3_1_c3 f3_1_c4 f3_1_c5 f3_2_lt f3_2_c0 f3_2_c1 f3_2_c2 f3_2_c3 m3_0 m3_1 m3_2 hs3
              have hs4 := hb4.size
              have f4_0_lt := m4_0.lt
              have f4_0_c0 := m4_0.c0
              have f4_0_c1 := m4_0.c1
              have f4_0_c2 := m4_0.c2
              have f4_0_c3 := m4_0.c3
              have f4_0_c4 := m4_0.c4
              have f4_0_c5 := m4_0.c5
              have f4_1_lt := m4_1.lt
              have f4_1_c0 := m4_1.c0
              have f4_1_c1 := m4_1.c1
              have f4_1_c2 := m4_1.c2
              have f4_1_c3 := m4_1.c3
              have f4_1_c4 := m4_1.c4
              have f4_1_c5 := m4_1.c5
              have f4_2_lt := m4_2.lt
              have f4_2_c0 := m4_2.c0
              have f4_2_c1 := m4_2.c1
              have f4_2_c2 := m4_2.c2
              have f4_2_c3 := m4_2.c3
              refine (Cx.out _).mono ?_; rintro e w' ⟨rfl, qx, rfl⟩
              clear HA SA SB Cx
              go_wp2_with (fail)
              obtain ⟨Ax, hAx⟩ : ∃ A, W4.heap.size + qx.bl.size = A := ⟨_, rfl⟩
              rw [hAx]
              refine calls_world (fun W => Below w.heap.size w W ∧ BoxZ W w.heap.size a ∧ BoxZ W (w.heap.size + 1) b ∧ PtAt W (w.heap.size + 2) pa pb pc pd ∧ BoxZ W Ax rx) ⟨by (repeat' (first | (with_reducible assumption) | (with_reducible exact Below.refl _ _) | (with_reducible refine below_wov ?_ ?_ _) | (with_reducible refine below_drewN ?_ _) | (with_reducible refine Below.drew ?_) | (with_reducible refine Below.alloc ?_ ?_ _) | (with_reducible refine Below.setCell ?_ ?_ _) | (with_reducible exact Nat.le_refl _) | omega | (simp only [World.size_alloc, World.size_setCell, World.size_drew, Wov_size, World.heap_drewN]; omega))), m4_0.below (by (repeat' (first | (with_reducible assumption) | (with_reducible exact Below.refl _ _) | (with_reducible refine below_wov ?_ ?_ _) | (with_reducible refine below_drewN ?_ _) | (with_reducible refine Below.drew ?_) | (with_reducible refine Below.alloc ?_ ?_ _) | (with_reducible refine Below.setCell ?_ ?_ _) | (with_reducible exact Nat.le_refl _) | omega | (simp only [World.size_alloc, World.size_setCell, World.size_drew, Wov_size, World.heap_drewN]; omega)))), m4_1.below (by (repeat' (first | (with_reducible assumption) | (with_reducible exact Below.refl _ _) | (with_reducible refine below_wov ?_ ?_ _) | (with_reducible refine below_drewN ?_ _) | (with_reducible refine Below.drew ?_) | (with_reducible refine Below.alloc ?_ ?_ _) | (with_reducible refine Below.setCell ?_ ?_ _) | (with_reducible exact Nat.le_refl _) | omega | (simp only [World.size_alloc, World.size_setCell, World.size_drew, Wov_size, World.heap_drewN]; omega)))), m4_2.below (by (repeat' (first | (with_reducible assumption) | (with_reducible exact Below.refl _ _) | (with_reducible refine below_wov ?_ ?_ _) | (with_reducible refine below_drewN ?_ _) | (with_reducible refine Below.drew ?_) | (with_reducible refine Below.alloc ?_ ?_ _) | (with_reducible refine Below.setCell ?_ ?_ _) | (with_reducible exact Nat.le_refl _) | omega | (simp only [World.size_alloc, World.size_setCell, World.size_drew, Wov_size, World.heap_drewN]; omega)))), BoxZ.new (by rw [← hAx]; (try simp only [Wov_size]))⟩ ?_
              rintro W5 ⟨hb5, m5_0, m5_1, m5_2, m5_3⟩
              clear hb4 f4_0_lt f4_0_c0 f4_0_c1 f4_0_c2 f4_0_c3 f4_0_c4 f4_0_c5 f4_1_lt f4_1_c0 f4_1_c1 f4_1_c2 f4_1_c3 f4_1_c4 f4_1_c5 f4_2_lt f4_2_c0 f4_2_c1 f4_2_c2 f4_2_c3 m4_0 m4_1 m4_2 hs4
              have hs5 := hb5.size
              have f5_0_lt := m5_0.lt
              have f5_0_c0 := m5_0.c0
              have f5_0_c1 := m5_0.c1
              have f5_0_c2 := m5_0.c2
              have f5_0_c3 := m5_0.c3
              have f5_0_c4 := m5_0.c4
              have f5_0_c5 := m5_0.c5
              have f5_1_lt := m5_1.lt
              have f5_1_c0 := m5_1.c0
              have f5_1_c1 := m5_1.c1
              have f5_1_c2 := m5_1.c2
              have f5_1_c3 := m5_1.c3
              have f5_1_c4 := m5_1.c4
              have f5_1_c5 := m5_1.c5
              have f5_2_lt := m5_2.lt
              have f5_2_c0 := m5_2.c0
              have f5_2_c1 := m5_2.c1
              have f5_2_c2 := m5_2.c2
              have f5_2_c3 := m5_2.c3
              have f5_3_lt := m5_3.lt
              have f5_3_c0 := m5_3.c0
              have f5_3_c1 := m5_3.c1
              have f5_3_c2 := m5_3.c2
              have f5_3_c3 := m5_3.c3
              have f5_3_c4 := m5_3.c4
              have f5_3_c5 := m5_3.c5
              clear hAx
              refine (KA.out _).mono ?_; rintro e w' ⟨rfl, q3, rfl⟩
              go_wp2_with (fail)
              refine calls_world (fun W => Below w.heap.size w W ∧ BoxZ W w.heap.size a ∧ BoxZ W (w.heap.size + 1) b ∧ PtAt W (w.heap.size + 2) pa pb pc pd ∧ BoxZ W Ax rx) ⟨by (repeat' (first | (with_reducible assumption) | (with_reducible exact Below.refl _ _) | (with_reducible refine below_wov ?_ ?_ _) | (with_reducible refine below_drewN ?_ _) | (with_reducible refine Below.drew ?_) | (with_reducible refine Below.alloc ?_ ?_ _) | (with_reducible refine Below.setCell ?_ ?_ _) | (with_reducible exact Nat.le_refl _) | omega | (simp only [World.size_alloc, World.size_setCell, World.size_drew, Wov_size, World.heap_drewN]; omega))), m5_0.below (by (repeat' (first | (with_reducible assumption) | (with_reducible exact Below.refl _ _) | (with_reducible refine below_wov ?_ ?_ _) | (with_reducible refine below_drewN ?_ _) | (with_reducible refine Below.drew ?_) | (with_reducible refine Below.alloc ?_ ?_ _) | (with_reducible refine Below.setCell ?_ ?_ _) | (with_reducible exact Nat.le_refl _) | omega | (simp only [World.size_alloc, World.size_setCell, World.size_drew, Wov_size, World.heap_drewN]; omega)))), m5_1.below (by (repeat' (first | (with_reducible assumption) | (with_reducible exact Below.refl _ _) | (with_reducible refine below_wov ?_ ?_ _) | (with_reducible refine below_drewN ?_ _) | (with_reducible refine Below.drew ?_) | (with_reducible refine Below.alloc ?_ ?_ _) | (with_reducible refine Below.setCell ?_ ?_ _) | (with_reducible exact Nat.le_refl _) | omega | (simp only [World.size_alloc, World.size_setCell, World.size_drew, Wov_size, World.heap_drewN]; omega)))), m5_2.below (by (repeat' (first | (with_reducible assumption) | (with_reducible exact Below.refl _ _) | (with_reducible refine below_wov ?_ ?_ _) | (with_reducible refine below_drewN ?_ _) | (with_reducible refine Below.drew ?_) | (with_reducible refine Below.alloc ?_ ?_ _) | (with_reducible refine Below.setCell ?_ ?_ _) | (with_reducible exact Nat.le_refl _) | omega | (simp only [World.size_alloc, World.size_setCell, World.size_drew, Wov_size, World.heap_drewN]; omega)))), m5_3.below (by (repeat' (first | (with_reducible assumption) | (with_reducible exact Below.refl _ _) | (with_reducible refine below_wov ?_ ?_ _) | (with_reducible refine below_drewN ?_ _) | (with_reducible refine Below.drew ?_) | (with_reducible refine Below.alloc ?_ ?_ _) | (with_reducible refine Below.setCell ?_ ?_ _) | (with_reducible exact Nat.le_refl _) | omega | (simp only [World.size_alloc, World.size_setCell, World.size_drew, Wov_size, World.heap_drewN]; omega))))⟩ ?_
              rintro W6 ⟨hb6, m6_0, m6_1, m6_2, m6_3⟩
              clear hb5 f5_0_lt f5_0_c0 f5_0_c1 f5_0_c2 f5_0_c3 f5_0_c4 f5_0_c5 f5_1_lt f5_1_c0 f5_1_c1 f5_1_c2 f5_1_c3 f5_1_c4 f5_1_c5 f5_2_lt f5_2_c0 f5_2_c1 f5_2_c2 f5_2_c3 f5_3_lt f5_3_c0 f5_3_c1 f5_3_c2 f5_3_c3 f5_3_c4 f5_3_c5 m5_0 m5_1 m5_2 m5_3 hs5
              have hs6 := hb6.size
              have f6_0_lt := m6_0.lt
              have f6_0_c0 := m6_0.c0
              have f6_0_c1 := m6_0.c1
              have f6_0_c2 := m6_0.c2
              have f6_0_c3 := m6_0.c3
              have f6_0_c4 := m6_0.c4
              have f6_0_c5 := m6_0.c5
              have f6_1_lt := m6_1.lt
              have f6_1_c0 := m6_1.c0
              have f6_1_c1 := m6_1.c1
              have f6_1_c2 := m6_1.c2
              have f6_1_c3 := m6_1.c3
              have f6_1_c4 := m6_1.c4
              have f6_1_c5 := m6_1.c5
              have f6_2_lt := m6_2.lt
              have f6_2_c0 := m6_2.c0
              have f6_2_c1 := m6_2.c1
              have f6_2_c2 := m6_2.c2
              have f6_2_c3 := m6_2.c3
              have f6_3_lt := m6_3.lt
              have f6_3_c0 := m6_3.c0
              have f6_3_c1 := m6_3.c1
              have f6_3_c2 := m6_3.c2
              have f6_3_c3 := m6_3.c3
              have f6_3_c4 := m6_3.c4
              have f6_3_c5 := m6_3.c5
              refine (KB.out _).mono ?_; rintro e w' ⟨rfl, q4, rfl⟩
              clear KA KB
              go_wp2
              all_goals
                go_ret
                exact gives_bool (by simp) (by (repeat' (first | (with_reducible assumption) | (with_reducible exact Below.refl _ _) | (with_reducible refine below_wov ?_ ?_ _) | (with_reducible refine below_drewN ?_ _) | (with_reducible refine Below.drew ?_) | (with_reducible refine Below.alloc ?_ ?_ _) | (with_reducible refine Below.setCell ?_ ?_ _) | (with_reducible exact Nat.le_refl _) | omega | (simp only [World.size_alloc, World.size_setCell, World.size_drew, Wov_size, World.heap_drewN]; omega))))
            · skip
              rw [ob] at KB
              simp only [rcode_t] at KB
              have law := cpoints_law (a := a) (b := b) (T := (pa, pb)) (U := (pc, pd)) oa ob sa sb (by show pb ≤ 700; omega) (by show pd ≤ 700; omega)
              have BT0 := fun w => between9_any a b pa pb pc pd w wa wb sa sb wpa wpb wpc wpd
              have HS0 := fun w => zhas_any rx pa pb pc pd w xf wpa wpb wpc wpd
              rw [← hx] at law
              dsimp only at law
              obtain ⟨there, hth⟩ : ∃ t, t = betweenE a b (pa, pb) (pc, pd) (endsL a b (pa, pb) (pc, pd) 8) := ⟨_, rfl⟩
              rw [← hth] at law BT0
              obtain ⟨⟨it, f⟩, hit⟩ : ∃ r, r = hasZ rx (pt pa pb pc pd) := ⟨_, rfl⟩
              rw [← hit] at law HS0
              dsimp only at law
              have BT : Hid (∀ w, Calls Try.prog 46 #[.agg #[.int .i64 (a 0), .int .i64 (a 1), .int .i64 (a 2), .int .i64 (a 3), .int .i64 (a 4), .int .i64 (a 5)], .agg #[.int .i64 (b 0), .int .i64 (b 1), .int .i64 (b 2), .int .i64 (b 3), .int .i64 (b 4), .int .i64 (b 5)], .agg #[.int .i64 pa, .int .i64 pb, .int .i64 pc, .int .i64 pd]] w (Gives w (.bool there))) := BT0
              have HS : Hid (∀ w, Calls Try.prog 38 #[.agg #[.int .i64 (rx 0), .int .i64 (rx 1), .int .i64 (rx 2), .int .i64 (rx 3), .int .i64 (rx 4), .int .i64 (rx 5)], .agg #[.int .i64 pa, .int .i64 pb, .int .i64 pc, .int .i64 pd]] w (Gives w (.tuple #[.bool it, .int .i64 f]))) := HS0
              have LAW := Lib.hid law
              clear ka kb h1 h2 sa sb hx oa ob xf law BT0 HS0 hth hit wa wb wpa wpb wpc wpd
              unfold zoneV
              go_enter Try.func11, Try.ntmps11
              go_wp2_with (fail)
              refine calls_world (fun W => Below w.heap.size w W ∧ BoxZ W w.heap.size a ∧ BoxZ W (w.heap.size + 1) b ∧ PtAt W (w.heap.size + 2) pa pb pc pd) ⟨by (repeat' (first | (with_reducible assumption) | (with_reducible exact Below.refl _ _) | (with_reducible refine below_wov ?_ ?_ _) | (with_reducible refine below_drewN ?_ _) | (with_reducible refine Below.drew ?_) | (with_reducible refine Below.alloc ?_ ?_ _) | (with_reducible refine Below.setCell ?_ ?_ _) | (with_reducible exact Nat.le_refl _) | omega | (simp only [World.size_alloc, World.size_setCell, World.size_drew, Wov_size, World.heap_drewN]; omega))), (BoxZ.new (W := w) (t := 24) (by simp)).below (by (repeat' (first | (with_reducible assumption) | (with_reducible exact Below.refl _ _) | (with_reducible refine below_wov ?_ ?_ _) | (with_reducible refine below_drewN ?_ _) | (with_reducible refine Below.drew ?_) | (with_reducible refine Below.alloc ?_ ?_ _) | (with_reducible refine Below.setCell ?_ ?_ _) | (with_reducible exact Nat.le_refl _) | omega | (simp only [World.size_alloc, World.size_setCell, World.size_drew, Wov_size, World.heap_drewN]; omega)))), (BoxZ.new (W := (World.alloc w (.cells #[.int .i64 (a 0), .int .i64 (a 1), .int .i64 (a 2), .int .i64 (a 3), .int .i64 (a 4), .int .i64 (a 5)] 24))) (t := 24) (by simp)).below (by (repeat' (first | (with_reducible assumption) | (with_reducible exact Below.refl _ _) | (with_reducible refine below_wov ?_ ?_ _) | (with_reducible refine below_drewN ?_ _) | (with_reducible refine Below.drew ?_) | (with_reducible refine Below.alloc ?_ ?_ _) | (with_reducible refine Below.setCell ?_ ?_ _) | (with_reducible exact Nat.le_refl _) | omega | (simp only [World.size_alloc, World.size_setCell, World.size_drew, Wov_size, World.heap_drewN]; omega)))), (PtAt.new (W := (World.alloc (World.alloc w (.cells #[.int .i64 (a 0), .int .i64 (a 1), .int .i64 (a 2), .int .i64 (a 3), .int .i64 (a 4), .int .i64 (a 5)] 24)) (.cells #[.int .i64 (b 0), .int .i64 (b 1), .int .i64 (b 2), .int .i64 (b 3), .int .i64 (b 4), .int .i64 (b 5)] 24))) (t := 67) (by simp)).below (by (repeat' (first | (with_reducible assumption) | (with_reducible exact Below.refl _ _) | (with_reducible refine below_wov ?_ ?_ _) | (with_reducible refine below_drewN ?_ _) | (with_reducible refine Below.drew ?_) | (with_reducible refine Below.alloc ?_ ?_ _) | (with_reducible refine Below.setCell ?_ ?_ _) | (with_reducible exact Nat.le_refl _) | omega | (simp only [World.size_alloc, World.size_setCell, World.size_drew, Wov_size, World.heap_drewN]; omega))))⟩ ?_
              rintro W1 ⟨hb1, m1_0, m1_1, m1_2⟩
              have hs1 := hb1.size
              have f1_0_lt := m1_0.lt
              have f1_0_c0 := m1_0.c0
              have f1_0_c1 := m1_0.c1
              have f1_0_c2 := m1_0.c2
              have f1_0_c3 := m1_0.c3
              have f1_0_c4 := m1_0.c4
              have f1_0_c5 := m1_0.c5
              have f1_1_lt := m1_1.lt
              have f1_1_c0 := m1_1.c0
              have f1_1_c1 := m1_1.c1
              have f1_1_c2 := m1_1.c2
              have f1_1_c3 := m1_1.c3
              have f1_1_c4 := m1_1.c4
              have f1_1_c5 := m1_1.c5
              have f1_2_lt := m1_2.lt
              have f1_2_c0 := m1_2.c0
              have f1_2_c1 := m1_2.c1
              have f1_2_c2 := m1_2.c2
              have f1_2_c3 := m1_2.c3
              refine (HA.out _).mono ?_; rintro e w' ⟨rfl, q0, rfl⟩
              go_wp2_with (fail)
              refine calls_world (fun W => Below w.heap.size w W ∧ BoxZ W w.heap.size a ∧ BoxZ W (w.heap.size + 1) b ∧ PtAt W (w.heap.size + 2) pa pb pc pd) ⟨by (repeat' (first | (with_reducible assumption) | (with_reducible exact Below.refl _ _) | (with_reducible refine below_wov ?_ ?_ _) | (with_reducible refine below_drewN ?_ _) | (with_reducible refine Below.drew ?_) | (with_reducible refine Below.alloc ?_ ?_ _) | (with_reducible refine Below.setCell ?_ ?_ _) | (with_reducible exact Nat.le_refl _) | omega | (simp only [World.size_alloc, World.size_setCell, World.size_drew, Wov_size, World.heap_drewN]; omega))), m1_0.below (by (repeat' (first | (with_reducible assumption) | (with_reducible exact Below.refl _ _) | (with_reducible refine below_wov ?_ ?_ _) | (with_reducible refine below_drewN ?_ _) | (with_reducible refine Below.drew ?_) | (with_reducible refine Below.alloc ?_ ?_ _) | (with_reducible refine Below.setCell ?_ ?_ _) | (with_reducible exact Nat.le_refl _) | omega | (simp only [World.size_alloc, World.size_setCell, World.size_drew, Wov_size, World.heap_drewN]; omega)))), m1_1.below (by (repeat' (first | (with_reducible assumption) | (with_reducible exact Below.refl _ _) | (with_reducible refine below_wov ?_ ?_ _) | (with_reducible refine below_drewN ?_ _) | (with_reducible refine Below.drew ?_) | (with_reducible refine Below.alloc ?_ ?_ _) | (with_reducible refine Below.setCell ?_ ?_ _) | (with_reducible exact Nat.le_refl _) | omega | (simp only [World.size_alloc, World.size_setCell, World.size_drew, Wov_size, World.heap_drewN]; omega)))), m1_2.below (by (repeat' (first | (with_reducible assumption) | (with_reducible exact Below.refl _ _) | (with_reducible refine below_wov ?_ ?_ _) | (with_reducible refine below_drewN ?_ _) | (with_reducible refine Below.drew ?_) | (with_reducible refine Below.alloc ?_ ?_ _) | (with_reducible refine Below.setCell ?_ ?_ _) | (with_reducible exact Nat.le_refl _) | omega | (simp only [World.size_alloc, World.size_setCell, World.size_drew, Wov_size, World.heap_drewN]; omega))))⟩ ?_
              rintro W2 ⟨hb2, m2_0, m2_1, m2_2⟩
              clear hb1 f1_0_lt f1_0_c0 f1_0_c1 f1_0_c2 f1_0_c3 f1_0_c4 f1_0_c5 f1_1_lt f1_1_c0 f1_1_c1 f1_1_c2 f1_1_c3 f1_1_c4 f1_1_c5 f1_2_lt f1_2_c0 f1_2_c1 f1_2_c2 f1_2_c3 m1_0 m1_1 m1_2 hs1
              have hs2 := hb2.size
              have f2_0_lt := m2_0.lt
              have f2_0_c0 := m2_0.c0
              have f2_0_c1 := m2_0.c1
              have f2_0_c2 := m2_0.c2
              have f2_0_c3 := m2_0.c3
              have f2_0_c4 := m2_0.c4
              have f2_0_c5 := m2_0.c5
              have f2_1_lt := m2_1.lt
              have f2_1_c0 := m2_1.c0
              have f2_1_c1 := m2_1.c1
              have f2_1_c2 := m2_1.c2
              have f2_1_c3 := m2_1.c3
              have f2_1_c4 := m2_1.c4
              have f2_1_c5 := m2_1.c5
              have f2_2_lt := m2_2.lt
              have f2_2_c0 := m2_2.c0
              have f2_2_c1 := m2_2.c1
              have f2_2_c2 := m2_2.c2
              have f2_2_c3 := m2_2.c3
              refine (SA.out _).mono ?_; rintro e w' ⟨rfl, q1, rfl⟩
              go_wp2_with (fail)
              refine calls_world (fun W => Below w.heap.size w W ∧ BoxZ W w.heap.size a ∧ BoxZ W (w.heap.size + 1) b ∧ PtAt W (w.heap.size + 2) pa pb pc pd) ⟨by (repeat' (first | (with_reducible assumption) | (with_reducible exact Below.refl _ _) | (with_reducible refine below_wov ?_ ?_ _) | (with_reducible refine below_drewN ?_ _) | (with_reducible refine Below.drew ?_) | (with_reducible refine Below.alloc ?_ ?_ _) | (with_reducible refine Below.setCell ?_ ?_ _) | (with_reducible exact Nat.le_refl _) | omega | (simp only [World.size_alloc, World.size_setCell, World.size_drew, Wov_size, World.heap_drewN]; omega))), m2_0.below (by (repeat' (first | (with_reducible assumption) | (with_reducible exact Below.refl _ _) | (with_reducible refine below_wov ?_ ?_ _) | (with_reducible refine below_drewN ?_ _) | (with_reducible refine Below.drew ?_) | (with_reducible refine Below.alloc ?_ ?_ _) | (with_reducible refine Below.setCell ?_ ?_ _) | (with_reducible exact Nat.le_refl _) | omega | (simp only [World.size_alloc, World.size_setCell, World.size_drew, Wov_size, World.heap_drewN]; omega)))), m2_1.below (by (repeat' (first | (with_reducible assumption) | (with_reducible exact Below.refl _ _) | (with_reducible refine below_wov ?_ ?_ _) | (with_reducible refine below_drewN ?_ _) | (with_reducible refine Below.drew ?_) | (with_reducible refine Below.alloc ?_ ?_ _) | (with_reducible refine Below.setCell ?_ ?_ _) | (with_reducible exact Nat.le_refl _) | omega | (simp only [World.size_alloc, World.size_setCell, World.size_drew, Wov_size, World.heap_drewN]; omega)))), m2_2.below (by (repeat' (first | (with_reducible assumption) | (with_reducible exact Below.refl _ _) | (with_reducible refine below_wov ?_ ?_ _) | (with_reducible refine below_drewN ?_ _) | (with_reducible refine Below.drew ?_) | (with_reducible refine Below.alloc ?_ ?_ _) | (with_reducible refine Below.setCell ?_ ?_ _) | (with_reducible exact Nat.le_refl _) | omega | (simp only [World.size_alloc, World.size_setCell, World.size_drew, Wov_size, World.heap_drewN]; omega))))⟩ ?_
              rintro W3 ⟨hb3, m3_0, m3_1, m3_2⟩
              clear hb2 f2_0_lt f2_0_c0 f2_0_c1 f2_0_c2 f2_0_c3 f2_0_c4 f2_0_c5 f2_1_lt f2_1_c0 f2_1_c1 f2_1_c2 f2_1_c3 f2_1_c4 f2_1_c5 f2_2_lt f2_2_c0 f2_2_c1 f2_2_c2 f2_2_c3 m2_0 m2_1 m2_2 hs2
              have hs3 := hb3.size
              have f3_0_lt := m3_0.lt
              have f3_0_c0 := m3_0.c0
              have f3_0_c1 := m3_0.c1
              have f3_0_c2 := m3_0.c2
              have f3_0_c3 := m3_0.c3
              have f3_0_c4 := m3_0.c4
              have f3_0_c5 := m3_0.c5
              have f3_1_lt := m3_1.lt
              have f3_1_c0 := m3_1.c0
              have f3_1_c1 := m3_1.c1
              have f3_1_c2 := m3_1.c2
              have f3_1_c3 := m3_1.c3
              have f3_1_c4 := m3_1.c4
              have f3_1_c5 := m3_1.c5
              have f3_2_lt := m3_2.lt
              have f3_2_c0 := m3_2.c0
              have f3_2_c1 := m3_2.c1
              have f3_2_c2 := m3_2.c2
              have f3_2_c3 := m3_2.c3
              refine (SB.out _).mono ?_; rintro e w' ⟨rfl, q2, rfl⟩
              go_wp2_with (fail)
              refine calls_world (fun W => Below w.heap.size w W ∧ BoxZ W w.heap.size a ∧ BoxZ W (w.heap.size + 1) b ∧ PtAt W (w.heap.size + 2) pa pb pc pd) ⟨by (repeat' (first | (with_reducible assumption) | (with_reducible exact Below.refl _ _) | (with_reducible refine below_wov ?_ ?_ _) | (with_reducible refine below_drewN ?_ _) | (with_reducible refine Below.drew ?_) | (with_reducible refine Below.alloc ?_ ?_ _) | (with_reducible refine Below.setCell ?_ ?_ _) | (with_reducible exact Nat.le_refl _) | omega | (simp only [World.size_alloc, World.size_setCell, World.size_drew, Wov_size, World.heap_drewN]; omega))), m3_0.below (by (repeat' (first | (with_reducible assumption) | (with_reducible exact Below.refl _ _) | (with_reducible refine below_wov ?_ ?_ _) | (with_reducible refine below_drewN ?_ _) | (with_reducible refine Below.drew ?_) | (with_reducible refine Below.alloc ?_ ?_ _) | (with_reducible refine Below.setCell ?_ ?_ _) | (with_reducible exact Nat.le_refl _) | omega | (simp only [World.size_alloc, World.size_setCell, World.size_drew, Wov_size, World.heap_drewN]; omega)))), m3_1.below (by (repeat' (first | (with_reducible assumption) | (with_reducible exact Below.refl _ _) | (with_reducible refine below_wov ?_ ?_ _) | (with_reducible refine below_drewN ?_ _) | (with_reducible refine Below.drew ?_) | (with_reducible refine Below.alloc ?_ ?_ _) | (with_reducible refine Below.setCell ?_ ?_ _) | (with_reducible exact Nat.le_refl _) | omega | (simp only [World.size_alloc, World.size_setCell, World.size_drew, Wov_size, World.heap_drewN]; omega)))), m3_2.below (by (repeat' (first | (with_reducible assumption) | (with_reducible exact Below.refl _ _) | (with_reducible refine below_wov ?_ ?_ _) | (with_reducible refine below_drewN ?_ _) | (with_reducible refine Below.drew ?_) | (with_reducible refine Below.alloc ?_ ?_ _) | (with_reducible refine Below.setCell ?_ ?_ _) | (with_reducible exact Nat.le_refl _) | omega | (simp only [World.size_alloc, World.size_setCell, World.size_drew, Wov_size, World.heap_drewN]; omega))))⟩ ?_
              rintro W4 ⟨hb4, m4_0, m4_1, m4_2⟩
              clear hb3 f3_0_lt f3_0_c0 f3_0_c1 f3_0_c2 f3_0_c3 f3_0_c4 f3_0_c5 f3_1_lt f3_1_c0 f3_1_c1 f3_1_c2 f3_1_c3 f3_1_c4 f3_1_c5 f3_2_lt f3_2_c0 f3_2_c1 f3_2_c2 f3_2_c3 m3_0 m3_1 m3_2 hs3
              have hs4 := hb4.size
              have f4_0_lt := m4_0.lt
              have f4_0_c0 := m4_0.c0
              have f4_0_c1 := m4_0.c1
              have f4_0_c2 := m4_0.c2
              have f4_0_c3 := m4_0.c3
              have f4_0_c4 := m4_0.c4
              have f4_0_c5 := m4_0.c5
              have f4_1_lt := m4_1.lt
              have f4_1_c0 := m4_1.c0
              have f4_1_c1 := m4_1.c1
              have f4_1_c2 := m4_1.c2
              have f4_1_c3 := m4_1.c3
              have f4_1_c4 := m4_1.c4
              have f4_1_c5 := m4_1.c5
              have f4_2_lt := m4_2.lt
              have f4_2_c0 := m4_2.c0
              have f4_2_c1 := m4_2.c1
              have f4_2_c2 := m4_2.c2
              have f4_2_c3 := m4_2.c3
              refine (Cx.out _).mono ?_; rintro e w' ⟨rfl, qx, rfl⟩
              clear HA SA SB Cx
              go_wp2_with (fail)
              obtain ⟨Ax, hAx⟩ : ∃ A, W4.heap.size + qx.bl.size = A := ⟨_, rfl⟩
              rw [hAx]
              refine calls_world (fun W => Below w.heap.size w W ∧ BoxZ W w.heap.size a ∧ BoxZ W (w.heap.size + 1) b ∧ PtAt W (w.heap.size + 2) pa pb pc pd ∧ BoxZ W Ax rx) ⟨by (repeat' (first | (with_reducible assumption) | (with_reducible exact Below.refl _ _) | (with_reducible refine below_wov ?_ ?_ _) | (with_reducible refine below_drewN ?_ _) | (with_reducible refine Below.drew ?_) | (with_reducible refine Below.alloc ?_ ?_ _) | (with_reducible refine Below.setCell ?_ ?_ _) | (with_reducible exact Nat.le_refl _) | omega | (simp only [World.size_alloc, World.size_setCell, World.size_drew, Wov_size, World.heap_drewN]; omega))), m4_0.below (by (repeat' (first | (with_reducible assumption) | (with_reducible exact Below.refl _ _) | (with_reducible refine below_wov ?_ ?_ _) | (with_reducible refine below_drewN ?_ _) | (with_reducible refine Below.drew ?_) | (with_reducible refine Below.alloc ?_ ?_ _) | (with_reducible refine Below.setCell ?_ ?_ _) | (with_reducible exact Nat.le_refl _) | omega | (simp only [World.size_alloc, World.size_setCell, World.size_drew, Wov_size, World.heap_drewN]; omega)))), m4_1.below (by (repeat' (first | (with_reducible assumption) | (with_reducible exact Below.refl _ _) | (with_reducible refine below_wov ?_ ?_ _) | (with_reducible refine below_drewN ?_ _) | (with_reducible refine Below.drew ?_) | (with_reducible refine Below.alloc ?_ ?_ _) | (with_reducible refine Below.setCell ?_ ?_ _) | (with_reducible exact Nat.le_refl _) | omega | (simp only [World.size_alloc, World.size_setCell, World.size_drew, Wov_size, World.heap_drewN]; omega)))), m4_2.below (by (repeat' (first | (with_reducible assumption) | (with_reducible exact Below.refl _ _) | (with_reducible refine below_wov ?_ ?_ _) | (with_reducible refine below_drewN ?_ _) | (with_reducible refine Below.drew ?_) | (with_reducible refine Below.alloc ?_ ?_ _) | (with_reducible refine Below.setCell ?_ ?_ _) | (with_reducible exact Nat.le_refl _) | omega | (simp only [World.size_alloc, World.size_setCell, World.size_drew, Wov_size, World.heap_drewN]; omega)))), BoxZ.new (by rw [← hAx]; (try simp only [Wov_size]))⟩ ?_
              rintro W5 ⟨hb5, m5_0, m5_1, m5_2, m5_3⟩
              clear hb4 f4_0_lt f4_0_c0 f4_0_c1 f4_0_c2 f4_0_c3 f4_0_c4 f4_0_c5 f4_1_lt f4_1_c0 f4_1_c1 f4_1_c2 f4_1_c3 f4_1_c4 f4_1_c5 f4_2_lt f4_2_c0 f4_2_c1 f4_2_c2 f4_2_c3 m4_0 m4_1 m4_2 hs4
              have hs5 := hb5.size
              have f5_0_lt := m5_0.lt
              have f5_0_c0 := m5_0.c0
              have f5_0_c1 := m5_0.c1
              have f5_0_c2 := m5_0.c2
              have f5_0_c3 := m5_0.c3
              have f5_0_c4 := m5_0.c4
              have f5_0_c5 := m5_0.c5
              have f5_1_lt := m5_1.lt
              have f5_1_c0 := m5_1.c0
              have f5_1_c1 := m5_1.c1
              have f5_1_c2 := m5_1.c2
              have f5_1_c3 := m5_1.c3
              have f5_1_c4 := m5_1.c4
              have f5_1_c5 := m5_1.c5
              have f5_2_lt := m5_2.lt
              have f5_2_c0 := m5_2.c0
              have f5_2_c1 := m5_2.c1
              have f5_2_c2 := m5_2.c2
              have f5_2_c3 := m5_2.c3
              have f5_3_lt := m5_3.lt
              have f5_3_c0 := m5_3.c0
              have f5_3_c1 := m5_3.c1
              have f5_3_c2 := m5_3.c2
              have f5_3_c3 := m5_3.c3
              have f5_3_c4 := m5_3.c4
              have f5_3_c5 := m5_3.c5
              clear hAx
              refine (KA.out _).mono ?_; rintro e w' ⟨rfl, q3, rfl⟩
              go_wp2_with (fail)
              refine calls_world (fun W => Below w.heap.size w W ∧ BoxZ W w.heap.size a ∧ BoxZ W (w.heap.size + 1) b ∧ PtAt W (w.heap.size + 2) pa pb pc pd ∧ BoxZ W Ax rx) ⟨by (repeat' (first | (with_reducible assumption) | (with_reducible exact Below.refl _ _) | (with_reducible refine below_wov ?_ ?_ _) | (with_reducible refine below_drewN ?_ _) | (with_reducible refine Below.drew ?_) | (with_reducible refine Below.alloc ?_ ?_ _) | (with_reducible refine Below.setCell ?_ ?_ _) | (with_reducible exact Nat.le_refl _) | omega | (simp only [World.size_alloc, World.size_setCell, World.size_drew, Wov_size, World.heap_drewN]; omega))), m5_0.below (by (repeat' (first | (with_reducible assumption) | (with_reducible exact Below.refl _ _) | (with_reducible refine below_wov ?_ ?_ _) | (with_reducible refine below_drewN ?_ _) | (with_reducible refine Below.drew ?_) | (with_reducible refine Below.alloc ?_ ?_ _) | (with_reducible refine Below.setCell ?_ ?_ _) | (with_reducible exact Nat.le_refl _) | omega | (simp only [World.size_alloc, World.size_setCell, World.size_drew, Wov_size, World.heap_drewN]; omega)))), m5_1.below (by (repeat' (first | (with_reducible assumption) | (with_reducible exact Below.refl _ _) | (with_reducible refine below_wov ?_ ?_ _) | (with_reducible refine below_drewN ?_ _) | (with_reducible refine Below.drew ?_) | (with_reducible refine Below.alloc ?_ ?_ _) | (with_reducible refine Below.setCell ?_ ?_ _) | (with_reducible exact Nat.le_refl _) | omega | (simp only [World.size_alloc, World.size_setCell, World.size_drew, Wov_size, World.heap_drewN]; omega)))), m5_2.below (by (repeat' (first | (with_reducible assumption) | (with_reducible exact Below.refl _ _) | (with_reducible refine below_wov ?_ ?_ _) | (with_reducible refine below_drewN ?_ _) | (with_reducible refine Below.drew ?_) | (with_reducible refine Below.alloc ?_ ?_ _) | (with_reducible refine Below.setCell ?_ ?_ _) | (with_reducible exact Nat.le_refl _) | omega | (simp only [World.size_alloc, World.size_setCell, World.size_drew, Wov_size, World.heap_drewN]; omega)))), m5_3.below (by (repeat' (first | (with_reducible assumption) | (with_reducible exact Below.refl _ _) | (with_reducible refine below_wov ?_ ?_ _) | (with_reducible refine below_drewN ?_ _) | (with_reducible refine Below.drew ?_) | (with_reducible refine Below.alloc ?_ ?_ _) | (with_reducible refine Below.setCell ?_ ?_ _) | (with_reducible exact Nat.le_refl _) | omega | (simp only [World.size_alloc, World.size_setCell, World.size_drew, Wov_size, World.heap_drewN]; omega))))⟩ ?_
              rintro W6 ⟨hb6, m6_0, m6_1, m6_2, m6_3⟩
              clear hb5 f5_0_lt f5_0_c0 f5_0_c1 f5_0_c2 f5_0_c3 f5_0_c4 f5_0_c5 f5_1_lt f5_1_c0 f5_1_c1 f5_1_c2 f5_1_c3 f5_1_c4 f5_1_c5 f5_2_lt f5_2_c0 f5_2_c1 f5_2_c2 f5_2_c3 f5_3_lt f5_3_c0 f5_3_c1 f5_3_c2 f5_3_c3 f5_3_c4 f5_3_c5 m5_0 m5_1 m5_2 m5_3 hs5
              have hs6 := hb6.size
              have f6_0_lt := m6_0.lt
              have f6_0_c0 := m6_0.c0
              have f6_0_c1 := m6_0.c1
              have f6_0_c2 := m6_0.c2
              have f6_0_c3 := m6_0.c3
              have f6_0_c4 := m6_0.c4
              have f6_0_c5 := m6_0.c5
              have f6_1_lt := m6_1.lt
              have f6_1_c0 := m6_1.c0
              have f6_1_c1 := m6_1.c1
              have f6_1_c2 := m6_1.c2
              have f6_1_c3 := m6_1.c3
              have f6_1_c4 := m6_1.c4
              have f6_1_c5 := m6_1.c5
              have f6_2_lt := m6_2.lt
              have f6_2_c0 := m6_2.c0
              have f6_2_c1 := m6_2.c1
              have f6_2_c2 := m6_2.c2
              have f6_2_c3 := m6_2.c3
              have f6_3_lt := m6_3.lt
              have f6_3_c0 := m6_3.c0
              have f6_3_c1 := m6_3.c1
              have f6_3_c2 := m6_3.c2
              have f6_3_c3 := m6_3.c3
              have f6_3_c4 := m6_3.c4
              have f6_3_c5 := m6_3.c5
              refine (KB.out _).mono ?_; rintro e w' ⟨rfl, q4, rfl⟩
              clear KA KB
              go_wp2_with (fail)
              refine calls_world (fun W => Below w.heap.size w W ∧ BoxZ W w.heap.size a ∧ BoxZ W (w.heap.size + 1) b ∧ PtAt W (w.heap.size + 2) pa pb pc pd ∧ BoxZ W Ax rx) ⟨by (repeat' (first | (with_reducible assumption) | (with_reducible exact Below.refl _ _) | (with_reducible refine below_wov ?_ ?_ _) | (with_reducible refine below_drewN ?_ _) | (with_reducible refine Below.drew ?_) | (with_reducible refine Below.alloc ?_ ?_ _) | (with_reducible refine Below.setCell ?_ ?_ _) | (with_reducible exact Nat.le_refl _) | omega | (simp only [World.size_alloc, World.size_setCell, World.size_drew, Wov_size, World.heap_drewN]; omega))), m6_0.below (by (repeat' (first | (with_reducible assumption) | (with_reducible exact Below.refl _ _) | (with_reducible refine below_wov ?_ ?_ _) | (with_reducible refine below_drewN ?_ _) | (with_reducible refine Below.drew ?_) | (with_reducible refine Below.alloc ?_ ?_ _) | (with_reducible refine Below.setCell ?_ ?_ _) | (with_reducible exact Nat.le_refl _) | omega | (simp only [World.size_alloc, World.size_setCell, World.size_drew, Wov_size, World.heap_drewN]; omega)))), m6_1.below (by (repeat' (first | (with_reducible assumption) | (with_reducible exact Below.refl _ _) | (with_reducible refine below_wov ?_ ?_ _) | (with_reducible refine below_drewN ?_ _) | (with_reducible refine Below.drew ?_) | (with_reducible refine Below.alloc ?_ ?_ _) | (with_reducible refine Below.setCell ?_ ?_ _) | (with_reducible exact Nat.le_refl _) | omega | (simp only [World.size_alloc, World.size_setCell, World.size_drew, Wov_size, World.heap_drewN]; omega)))), m6_2.below (by (repeat' (first | (with_reducible assumption) | (with_reducible exact Below.refl _ _) | (with_reducible refine below_wov ?_ ?_ _) | (with_reducible refine below_drewN ?_ _) | (with_reducible refine Below.drew ?_) | (with_reducible refine Below.alloc ?_ ?_ _) | (with_reducible refine Below.setCell ?_ ?_ _) | (with_reducible exact Nat.le_refl _) | omega | (simp only [World.size_alloc, World.size_setCell, World.size_drew, Wov_size, World.heap_drewN]; omega)))), m6_3.below (by (repeat' (first | (with_reducible assumption) | (with_reducible exact Below.refl _ _) | (with_reducible refine below_wov ?_ ?_ _) | (with_reducible refine below_drewN ?_ _) | (with_reducible refine Below.drew ?_) | (with_reducible refine Below.alloc ?_ ?_ _) | (with_reducible refine Below.setCell ?_ ?_ _) | (with_reducible exact Nat.le_refl _) | omega | (simp only [World.size_alloc, World.size_setCell, World.size_drew, Wov_size, World.heap_drewN]; omega))))⟩ ?_
              rintro W7 ⟨hb7, m7_0, m7_1, m7_2, m7_3⟩
              clear hb6 f6_0_lt f6_0_c0 f6_0_c1 f6_0_c2 f6_0_c3 f6_0_c4 f6_0_c5 f6_1_lt f6_1_c0 f6_1_c1 f6_1_c2 f6_1_c3 f6_1_c4 f6_1_c5 f6_2_lt f6_2_c0 f6_2_c1 f6_2_c2 f6_2_c3 f6_3_lt f6_3_c0 f6_3_c1 f6_3_c2 f6_3_c3 f6_3_c4 f6_3_c5 m6_0 m6_1 m6_2 m6_3 hs6
              have hs7 := hb7.size
              have f7_0_lt := m7_0.lt
              have f7_0_c0 := m7_0.c0
              have f7_0_c1 := m7_0.c1
              have f7_0_c2 := m7_0.c2
              have f7_0_c3 := m7_0.c3
              have f7_0_c4 := m7_0.c4
              have f7_0_c5 := m7_0.c5
              have f7_1_lt := m7_1.lt
              have f7_1_c0 := m7_1.c0
              have f7_1_c1 := m7_1.c1
              have f7_1_c2 := m7_1.c2
              have f7_1_c3 := m7_1.c3
              have f7_1_c4 := m7_1.c4
              have f7_1_c5 := m7_1.c5
              have f7_2_lt := m7_2.lt
              have f7_2_c0 := m7_2.c0
              have f7_2_c1 := m7_2.c1
              have f7_2_c2 := m7_2.c2
              have f7_2_c3 := m7_2.c3
              have f7_3_lt := m7_3.lt
              have f7_3_c0 := m7_3.c0
              have f7_3_c1 := m7_3.c1
              have f7_3_c2 := m7_3.c2
              have f7_3_c3 := m7_3.c3
              have f7_3_c4 := m7_3.c4
              have f7_3_c5 := m7_3.c5
              refine (BT.out _).mono ?_; rintro e w' ⟨rfl, q5, rfl⟩
              clear BT
              rcases LAW.out with ⟨rfl, rfl⟩ | ⟨rfl, hl⟩
              · skip
                clear LAW HS
                go_wp2
                all_goals
                  go_ret
                  exact gives_bool (by simp) (by (repeat' (first | (with_reducible assumption) | (with_reducible exact Below.refl _ _) | (with_reducible refine below_wov ?_ ?_ _) | (with_reducible refine below_drewN ?_ _) | (with_reducible refine Below.drew ?_) | (with_reducible refine Below.alloc ?_ ?_ _) | (with_reducible refine Below.setCell ?_ ?_ _) | (with_reducible exact Nat.le_refl _) | omega | (simp only [World.size_alloc, World.size_setCell, World.size_drew, Wov_size, World.heap_drewN]; omega))))
              · skip
                have HL := Lib.hid hl
                clear hl LAW
                go_wp2_with (fail)
                refine calls_world (fun W => Below w.heap.size w W ∧ BoxZ W w.heap.size a ∧ BoxZ W (w.heap.size + 1) b ∧ PtAt W (w.heap.size + 2) pa pb pc pd ∧ BoxZ W Ax rx) ⟨by (repeat' (first | (with_reducible assumption) | (with_reducible exact Below.refl _ _) | (with_reducible refine below_wov ?_ ?_ _) | (with_reducible refine below_drewN ?_ _) | (with_reducible refine Below.drew ?_) | (with_reducible refine Below.alloc ?_ ?_ _) | (with_reducible refine Below.setCell ?_ ?_ _) | (with_reducible exact Nat.le_refl _) | omega | (simp only [World.size_alloc, World.size_setCell, World.size_drew, Wov_size, World.heap_drewN]; omega))), m7_0.below (by (repeat' (first | (with_reducible assumption) | (with_reducible exact Below.refl _ _) | (with_reducible refine below_wov ?_ ?_ _) | (with_reducible refine below_drewN ?_ _) | (with_reducible refine Below.drew ?_) | (with_reducible refine Below.alloc ?_ ?_ _) | (with_reducible refine Below.setCell ?_ ?_ _) | (with_reducible exact Nat.le_refl _) | omega | (simp only [World.size_alloc, World.size_setCell, World.size_drew, Wov_size, World.heap_drewN]; omega)))), m7_1.below (by (repeat' (first | (with_reducible assumption) | (with_reducible exact Below.refl _ _) | (with_reducible refine below_wov ?_ ?_ _) | (with_reducible refine below_drewN ?_ _) | (with_reducible refine Below.drew ?_) | (with_reducible refine Below.alloc ?_ ?_ _) | (with_reducible refine Below.setCell ?_ ?_ _) | (with_reducible exact Nat.le_refl _) | omega | (simp only [World.size_alloc, World.size_setCell, World.size_drew, Wov_size, World.heap_drewN]; omega)))), m7_2.below (by (repeat' (first | (with_reducible assumption) | (with_reducible exact Below.refl _ _) | (with_reducible refine below_wov ?_ ?_ _) | (with_reducible refine below_drewN ?_ _) | (with_reducible refine Below.drew ?_) | (with_reducible refine Below.alloc ?_ ?_ _) | (with_reducible refine Below.setCell ?_ ?_ _) | (with_reducible exact Nat.le_refl _) | omega | (simp only [World.size_alloc, World.size_setCell, World.size_drew, Wov_size, World.heap_drewN]; omega)))), m7_3.below (by (repeat' (first | (with_reducible assumption) | (with_reducible exact Below.refl _ _) | (with_reducible refine below_wov ?_ ?_ _) | (with_reducible refine below_drewN ?_ _) | (with_reducible refine Below.drew ?_) | (with_reducible refine Below.alloc ?_ ?_ _) | (with_reducible refine Below.setCell ?_ ?_ _) | (with_reducible exact Nat.le_refl _) | omega | (simp only [World.size_alloc, World.size_setCell, World.size_drew, Wov_size, World.heap_drewN]; omega))))⟩ ?_
                rintro W8 ⟨hb8, m8_0, m8_1, m8_2, m8_3⟩
                clear hb7 f7_0_lt f7_0_c0 f7_0_c1 f7_0_c2 f7_0_c3 f7_0_c4 f7_0_c5 f7_1_lt f7_1_c0 f7_1_c1 f7_1_c2 f7_1_c3 f7_1_c4 f7_1_c5 f7_2_lt f7_2_c0 f7_2_c1 f7_2_c2 f7_2_c3 f7_3_lt f7_3_c0 f7_3_c1 f7_3_c2 f7_3_c3 f7_3_c4 f7_3_c5 m7_0 m7_1 m7_2 m7_3 hs7
                have hs8 := hb8.size
                have f8_0_lt := m8_0.lt
                have f8_0_c0 := m8_0.c0
                have f8_0_c1 := m8_0.c1
                have f8_0_c2 := m8_0.c2
                have f8_0_c3 := m8_0.c3
                have f8_0_c4 := m8_0.c4
                have f8_0_c5 := m8_0.c5
                have f8_1_lt := m8_1.lt
                have f8_1_c0 := m8_1.c0
                have f8_1_c1 := m8_1.c1
                have f8_1_c2 := m8_1.c2
                have f8_1_c3 := m8_1.c3
                have f8_1_c4 := m8_1.c4
                have f8_1_c5 := m8_1.c5
                have f8_2_lt := m8_2.lt
                have f8_2_c0 := m8_2.c0
                have f8_2_c1 := m8_2.c1
                have f8_2_c2 := m8_2.c2
                have f8_2_c3 := m8_2.c3
                have f8_3_lt := m8_3.lt
                have f8_3_c0 := m8_3.c0
                have f8_3_c1 := m8_3.c1
                have f8_3_c2 := m8_3.c2
                have f8_3_c3 := m8_3.c3
                have f8_3_c4 := m8_3.c4
                have f8_3_c5 := m8_3.c5
                refine (HS.out _).mono ?_; rintro e w' ⟨rfl, q6, rfl⟩
                clear HS
                by_cases hf : f = 0
                · skip
                  subst hf
                  obtain rfl : it = there := HL.out (by simp)
                  clear HL
                  cases it
                  all_goals
                    go_wp2
                    all_goals
                      go_ret
                      exact gives_bool (by simp) (by (repeat' (first | (with_reducible assumption) | (with_reducible exact Below.refl _ _) | (with_reducible refine below_wov ?_ ?_ _) | (with_reducible refine below_drewN ?_ _) | (with_reducible refine Below.drew ?_) | (with_reducible refine Below.alloc ?_ ?_ _) | (with_reducible refine Below.setCell ?_ ?_ _) | (with_reducible exact Nat.le_refl _) | omega | (simp only [World.size_alloc, World.size_setCell, World.size_drew, Wov_size, World.heap_drewN]; omega))))
                · skip
                  have bf : (f != 0) = true := by rw [bne_iff_ne]; exact hf
                  clear HL hf
                  go_wp2
                  all_goals
                    go_ret
                    exact gives_bool (by simp) (by (repeat' (first | (with_reducible assumption) | (with_reducible exact Below.refl _ _) | (with_reducible refine below_wov ?_ ?_ _) | (with_reducible refine below_drewN ?_ _) | (with_reducible refine Below.drew ?_) | (with_reducible refine Below.alloc ?_ ?_ _) | (with_reducible refine Below.setCell ?_ ?_ _) | (with_reducible exact Nat.le_refl _) | omega | (simp only [World.size_alloc, World.size_setCell, World.size_drew, Wov_size, World.heap_drewN]; omega))))
theorem walk (z0 : Nat → Int) (wz0 : FitsZ z0) (z1 : Nat → Int) (wz1 : FitsZ z1) (pa2 pb2 pc2 pd2 : Int) (wp2 : fits64 pa2) (wq2 : fits64 pb2) (wr2 : fits64 pc2) (ws2 : fits64 pd2) (w : World) : Calls Try.prog 11 #[zoneV z0, zoneV z1, .agg #[.int .i64 pa2, .int .i64 pb2, .int .i64 pc2, .int .i64 pd2]] w (Gives w (.bool true)) := walk0 z0 wz0 z1 wz1 pa2 pb2 pc2 pd2 wp2 wq2 wr2 ws2 w
end Go.Proofs.Ytbgbhfcnadjhdaa.compPoints
