/- The law WinLess (walk): of a zone that lies in another one what is in a window, or within a span, lies in that of the other one; and that a wider window has all. No condition. -/
import Derived.Test.YtnjhjgkekmjmdaaK11
import Derived.Test.YtnjhjgkekmjmdaaH9
import Derived.Test.YtnjhjgkekmjmdaaFrame2
namespace Go.Proofs.Ytnjhjgkekmjmdaa.winLess
open Go.ChangeShapes Go.WideShapes Go.ChangeAt Go.RowKit
set_option linter.unusedVariables false
set_option linter.unusedSimpArgs false
attribute [local go_sem] Nat.add_assoc Nat.add_lt_add_iff_left lit_lt_add
theorem lies_true {p q : Nat → Int} (h : inZ p q = (true, 0)) : Pure Try.prog 54 #[zoneV p, zoneV q] (.bool true) := by
  intro w
  have ok : okZ p = true ∧ okZ q = true := by
    cases k : (okZ p && okZ q)
    · rw [inZ_bad k] at h; simp at h
    · simpa using k
  have IN : Hid (∀ w, Calls Try.prog 53 #[.agg #[.int .i64 (p 0), .int .i64 (p 1), .int .i64 (p 2), .int .i64 (p 3), .int .i64 (p 4), .int .i64 (p 5)], .agg #[.int .i64 (q 0), .int .i64 (q 1), .int .i64 (q 2), .int .i64 (q 3), .int .i64 (q 4), .int .i64 (q 5)]] w (Gives w (.tuple #[.bool true, .int .i64 0]))) := fun w => by
    have := zin_any p q w (okZ_fits ok.1) (okZ_fits ok.2)
    rw [h] at this; exact this
  clear h ok
  unfold zoneV
  go_enter Try.func54, Try.ntmps54
  go_wp2_with (fail)
  refine (IN.out _).mono ?_; rintro e w' ⟨rfl, q1, rfl⟩
  clear IN
  go_wp2
  go_ret
  exact gives_bool rfl (by (repeat' (first | (with_reducible assumption) | (with_reducible exact Below.refl _ _) | (with_reducible refine below_wov ?_ ?_ _) | (with_reducible refine below_drewN ?_ _) | (with_reducible refine Below.drew ?_) | (with_reducible refine Below.alloc ?_ ?_ _) | (with_reducible refine Below.setCell ?_ ?_ _) | (with_reducible exact Nat.le_refl _) | omega | (simp only [World.size_alloc, World.size_setCell, World.size_drew, Wov_size, World.heap_drewN]; omega))))

set_option maxRecDepth 100000 in
set_option maxHeartbeats 16000000 in
theorem walk0 (a : Nat → Int) (wa : FitsZ a) (b : Nat → Int) (wb : FitsZ b) (s : Sp) (wlo : fits64 s.lo) (whi : fits64 s.hi) (p : Int) (wp : fits64 p) (q : Int) (wq : fits64 q) (m : Int) (wm : fits64 m) (w : World) :
    Calls Try.prog 11 #[zoneV a, zoneV b, .agg #[.int .i64 s.lo, .bool s.ls, .int .i64 s.hi, .bool s.hs, .bool s.op], .int .i64 p, .int .i64 q, .int .i64 m] w (Gives w (.bool true)) := by
  have HA := Lib.hid alive10
  obtain ⟨⟨i, e⟩, hin⟩ : ∃ r, r = inZ a b := ⟨_, rfl⟩
  have CI : Hid (∀ w, Calls Try.prog 53 #[.agg #[.int .i64 (a 0), .int .i64 (a 1), .int .i64 (a 2), .int .i64 (a 3), .int .i64 (a 4), .int .i64 (a 5)], .agg #[.int .i64 (b 0), .int .i64 (b 1), .int .i64 (b 2), .int .i64 (b 3), .int .i64 (b 4), .int .i64 (b 5)]] w (Gives w (.tuple #[.bool i, .int .i64 e]))) := fun w => by
    have := zin_any a b w wa wb
    rw [← hin] at this; exact this
  obtain ⟨⟨rx, ex⟩, hx⟩ : ∃ r, r = windowZ a p q := ⟨_, rfl⟩
  have Cx : Hid (∀ w, Calls Try.prog 39 #[.agg #[.int .i64 (a 0), .int .i64 (a 1), .int .i64 (a 2), .int .i64 (a 3), .int .i64 (a 4), .int .i64 (a 5)], .int .i64 p, .int .i64 q] w (Gives w (.tuple #[.agg #[.int .i64 (rx 0), .int .i64 (rx 1), .int .i64 (rx 2), .int .i64 (rx 3), .int .i64 (rx 4), .int .i64 (rx 5)], .int .i64 ex]))) := fun w => by
    have := wwindow_any a p q w wa wp wq
    rw [← hx] at this; exact this
  obtain ⟨⟨ry, ey⟩, hy⟩ : ∃ r, r = windowZ b p q := ⟨_, rfl⟩
  have Cy : Hid (∀ w, Calls Try.prog 39 #[.agg #[.int .i64 (b 0), .int .i64 (b 1), .int .i64 (b 2), .int .i64 (b 3), .int .i64 (b 4), .int .i64 (b 5)], .int .i64 p, .int .i64 q] w (Gives w (.tuple #[.agg #[.int .i64 (ry 0), .int .i64 (ry 1), .int .i64 (ry 2), .int .i64 (ry 3), .int .i64 (ry 4), .int .i64 (ry 5)], .int .i64 ey]))) := fun w => by
    have := wwindow_any b p q w wb wp wq
    rw [← hy] at this; exact this
  obtain ⟨⟨rv, ev⟩, hv⟩ : ∃ r, r = withinZ a s := ⟨_, rfl⟩
  have Cv : Hid (∀ w, Calls Try.prog 37 #[.agg #[.int .i64 (a 0), .int .i64 (a 1), .int .i64 (a 2), .int .i64 (a 3), .int .i64 (a 4), .int .i64 (a 5)], .agg #[.int .i64 s.lo, .bool s.ls, .int .i64 s.hi, .bool s.hs, .bool s.op]] w (Gives w (.tuple #[.agg #[.int .i64 (rv 0), .int .i64 (rv 1), .int .i64 (rv 2), .int .i64 (rv 3), .int .i64 (rv 4), .int .i64 (rv 5)], .int .i64 ev]))) := fun w => by
    have := wwithin_any a s w wa wlo whi
    rw [← hv] at this; exact this
  obtain ⟨⟨ru, eu⟩, hu⟩ : ∃ r, r = withinZ b s := ⟨_, rfl⟩
  have Cu : Hid (∀ w, Calls Try.prog 37 #[.agg #[.int .i64 (b 0), .int .i64 (b 1), .int .i64 (b 2), .int .i64 (b 3), .int .i64 (b 4), .int .i64 (b 5)], .agg #[.int .i64 s.lo, .bool s.ls, .int .i64 s.hi, .bool s.hs, .bool s.op]] w (Gives w (.tuple #[.agg #[.int .i64 (ru 0), .int .i64 (ru 1), .int .i64 (ru 2), .int .i64 (ru 3), .int .i64 (ru 4), .int .i64 (ru 5)], .int .i64 eu]))) := fun w => by
    have := wwithin_any b s w wb wlo whi
    rw [← hu] at this; exact this
  obtain ⟨⟨rj, ej⟩, hj⟩ : ∃ r, r = windowZ a p m := ⟨_, rfl⟩
  have Cj : Hid (∀ w, Calls Try.prog 39 #[.agg #[.int .i64 (a 0), .int .i64 (a 1), .int .i64 (a 2), .int .i64 (a 3), .int .i64 (a 4), .int .i64 (a 5)], .int .i64 p, .int .i64 m] w (Gives w (.tuple #[.agg #[.int .i64 (rj 0), .int .i64 (rj 1), .int .i64 (rj 2), .int .i64 (rj 3), .int .i64 (rj 4), .int .i64 (rj 5)], .int .i64 ej]))) := fun w => by
    have := wwindow_any a p m w wa wp wm
    rw [← hj] at this; exact this
  have L1 : Hid (i = true → e = 0 → ex = 0 → ey ≠ 6 ∧ (ey = 0 → inZ rx ry = (true, 0))) := fun h1 h2 h3 => by
    subst h1; subst h2; subst h3
    have := less1_law hin.symm hx.symm
    rw [← hy] at this; exact this
  have L2 : Hid (i = true → e = 0 → ev = 0 → eu ≠ 6 ∧ (eu = 0 → inZ rv ru = (true, 0))) := fun h1 h2 h3 => by
    subst h1; subst h2; subst h3
    have := less2_law hin.symm hv.symm
    rw [← hu] at this; exact this
  have L3 : Hid (ex = 0 → q ≤ m → ej ≠ 6 ∧ (ej = 0 → inZ rx rj = (true, 0))) := fun h1 h2 => by
    subst h1
    have := less3_law hx.symm h2
    rw [← hj] at this; exact this
  clear hin hx hy hv hu hj wa wb wlo whi wp wq wm
  unfold zoneV
  go_enter Try.func11, Try.ntmps11
  go_wp2_with (fail)
  refine calls_world (fun W => Below w.heap.size w W ∧ BoxZ W w.heap.size a ∧ BoxZ W (w.heap.size + 1) b ∧ BoxS W (w.heap.size + 2) s.lo s.ls s.hi s.hs s.op) ⟨by (repeat' (first | (with_reducible assumption) | (with_reducible exact Below.refl _ _) | (with_reducible refine below_wov ?_ ?_ _) | (with_reducible refine below_drewN ?_ _) | (with_reducible refine Below.drew ?_) | (with_reducible refine Below.alloc ?_ ?_ _) | (with_reducible refine Below.setCell ?_ ?_ _) | (with_reducible exact Nat.le_refl _) | omega | (simp only [World.size_alloc, World.size_setCell, World.size_drew, Wov_size, World.heap_drewN]; omega))), (BoxZ.new (W := w) (t := 26) (by simp)).below (by (repeat' (first | (with_reducible assumption) | (with_reducible exact Below.refl _ _) | (with_reducible refine below_wov ?_ ?_ _) | (with_reducible refine below_drewN ?_ _) | (with_reducible refine Below.drew ?_) | (with_reducible refine Below.alloc ?_ ?_ _) | (with_reducible refine Below.setCell ?_ ?_ _) | (with_reducible exact Nat.le_refl _) | omega | (simp only [World.size_alloc, World.size_setCell, World.size_drew, Wov_size, World.heap_drewN]; omega)))), (BoxZ.new (W := (World.alloc w (.cells #[.int .i64 (a 0), .int .i64 (a 1), .int .i64 (a 2), .int .i64 (a 3), .int .i64 (a 4), .int .i64 (a 5)] 26))) (t := 26) (by simp)).below (by (repeat' (first | (with_reducible assumption) | (with_reducible exact Below.refl _ _) | (with_reducible refine below_wov ?_ ?_ _) | (with_reducible refine below_drewN ?_ _) | (with_reducible refine Below.drew ?_) | (with_reducible refine Below.alloc ?_ ?_ _) | (with_reducible refine Below.setCell ?_ ?_ _) | (with_reducible exact Nat.le_refl _) | omega | (simp only [World.size_alloc, World.size_setCell, World.size_drew, Wov_size, World.heap_drewN]; omega)))), (BoxS.new (W := (World.alloc (World.alloc w (.cells #[.int .i64 (a 0), .int .i64 (a 1), .int .i64 (a 2), .int .i64 (a 3), .int .i64 (a 4), .int .i64 (a 5)] 26)) (.cells #[.int .i64 (b 0), .int .i64 (b 1), .int .i64 (b 2), .int .i64 (b 3), .int .i64 (b 4), .int .i64 (b 5)] 26))) (t := 23) (by simp)).below (by (repeat' (first | (with_reducible assumption) | (with_reducible exact Below.refl _ _) | (with_reducible refine below_wov ?_ ?_ _) | (with_reducible refine below_drewN ?_ _) | (with_reducible refine Below.drew ?_) | (with_reducible refine Below.alloc ?_ ?_ _) | (with_reducible refine Below.setCell ?_ ?_ _) | (with_reducible exact Nat.le_refl _) | omega | (simp only [World.size_alloc, World.size_setCell, World.size_drew, Wov_size, World.heap_drewN]; omega))))⟩ ?_
  rintro W1 ⟨hb1, m1_0, m1_1, m1_2⟩
  have hs1 := hb1.size
  have f1_0_lt := m1_0.lt
  have f1_0_c0 := m1_0.c0
  have f1_0_c1 := m1_0.c1
  have f1_0_c2 := m1_0.c2
  have f1_0_c3 := m1_0.c3
  have f1_0_c4 := m1_0.c4
  have f1_0_c5 := m1_0.c5
  have f1_1_lt := m1_1.lt
  have f1_1_c0 := m1_1.c0
  have f1_1_c1 := m1_1.c1
  have f1_1_c2 := m1_1.c2
  have f1_1_c3 := m1_1.c3
  have f1_1_c4 := m1_1.c4
  have f1_1_c5 := m1_1.c5
  have f1_2_lt := m1_2.lt
  have f1_2_c0 := m1_2.c0
  have f1_2_c1 := m1_2.c1
  have f1_2_c2 := m1_2.c2
  have f1_2_c3 := m1_2.c3
  have f1_2_c4 := m1_2.c4
  refine (HA.out _).mono ?_; rintro e w' ⟨rfl, q0, rfl⟩
  go_wp2_with (fail)
  refine calls_world (fun W => Below w.heap.size w W ∧ BoxZ W w.heap.size a ∧ BoxZ W (w.heap.size + 1) b ∧ BoxS W (w.heap.size + 2) s.lo s.ls s.hi s.hs s.op) ⟨by (repeat' (first | (with_reducible assumption) | (with_reducible exact Below.refl _ _) | (with_reducible refine below_wov ?_ ?_ _) | (with_reducible refine below_drewN ?_ _) | (with_reducible refine Below.drew ?_) | (with_reducible refine Below.alloc ?_ ?_ _) | (with_reducible refine Below.setCell ?_ ?_ _) | (with_reducible exact Nat.le_refl _) | omega | (simp only [World.size_alloc, World.size_setCell, World.size_drew, Wov_size, World.heap_drewN]; omega))), m1_0.below (by (repeat' (first | (with_reducible assumption) | (with_reducible exact Below.refl _ _) | (with_reducible refine below_wov ?_ ?_ _) | (with_reducible refine below_drewN ?_ _) | (with_reducible refine Below.drew ?_) | (with_reducible refine Below.alloc ?_ ?_ _) | (with_reducible refine Below.setCell ?_ ?_ _) | (with_reducible exact Nat.le_refl _) | omega | (simp only [World.size_alloc, World.size_setCell, World.size_drew, Wov_size, World.heap_drewN]; omega)))), m1_1.below (by (repeat' (first | (with_reducible assumption) | (with_reducible exact Below.refl _ _) | (with_reducible refine below_wov ?_ ?_ _) | (with_reducible refine below_drewN ?_ _) | (with_reducible refine Below.drew ?_) | (with_reducible refine Below.alloc ?_ ?_ _) | (with_reducible refine Below.setCell ?_ ?_ _) | (with_reducible exact Nat.le_refl _) | omega | (simp only [World.size_alloc, World.size_setCell, World.size_drew, Wov_size, World.heap_drewN]; omega)))), m1_2.below (by (repeat' (first | (with_reducible assumption) | (with_reducible exact Below.refl _ _) | (with_reducible refine below_wov ?_ ?_ _) | (with_reducible refine below_drewN ?_ _) | (with_reducible refine Below.drew ?_) | (with_reducible refine Below.alloc ?_ ?_ _) | (with_reducible refine Below.setCell ?_ ?_ _) | (with_reducible exact Nat.le_refl _) | omega | (simp only [World.size_alloc, World.size_setCell, World.size_drew, Wov_size, World.heap_drewN]; omega))))⟩ ?_
  rintro W2 ⟨hb2, m2_0, m2_1, m2_2⟩
  clear hb1 f1_0_lt f1_0_c0 f1_0_c1 f1_0_c2 f1_0_c3 f1_0_c4 f1_0_c5 f1_1_lt f1_1_c0 f1_1_c1 f1_1_c2 f1_1_c3 f1_1_c4 f1_1_c5 f1_2_lt f1_2_c0 f1_2_c1 f1_2_c2 f1_2_c3 f1_2_c4 m1_0 m1_1 m1_2 hs1
  have hs2 := hb2.size
  have f2_0_lt := m2_0.lt
  have f2_0_c0 := m2_0.c0
  have f2_0_c1 := m2_0.c1
  have f2_0_c2 := m2_0.c2
  have f2_0_c3 := m2_0.c3
  have f2_0_c4 := m2_0.c4
  have f2_0_c5 := m2_0.c5
  have f2_1_lt := m2_1.lt
  have f2_1_c0 := m2_1.c0
  have f2_1_c1 := m2_1.c1
  have f2_1_c2 := m2_1.c2
  have f2_1_c3 := m2_1.c3
  have f2_1_c4 := m2_1.c4
  have f2_1_c5 := m2_1.c5
  have f2_2_lt := m2_2.lt
  have f2_2_c0 := m2_2.c0
  have f2_2_c1 := m2_2.c1
  have f2_2_c2 := m2_2.c2
  have f2_2_c3 := m2_2.c3
  have f2_2_c4 := m2_2.c4
  refine (CI.out _).mono ?_; rintro e w' ⟨rfl, q1, rfl⟩
  go_wp2_with (fail)
  refine calls_world (fun W => Below w.heap.size w W ∧ BoxZ W w.heap.size a ∧ BoxZ W (w.heap.size + 1) b ∧ BoxS W (w.heap.size + 2) s.lo s.ls s.hi s.hs s.op) ⟨by (repeat' (first | (with_reducible assumption) | (with_reducible exact Below.refl _ _) | (with_reducible refine below_wov ?_ ?_ _) | (with_reducible refine below_drewN ?_ _) | (with_reducible refine Below.drew ?_) | (with_reducible refine Below.alloc ?_ ?_ _) | (with_reducible refine Below.setCell ?_ ?_ _) | (with_reducible exact Nat.le_refl _) | omega | (simp only [World.size_alloc, World.size_setCell, World.size_drew, Wov_size, World.heap_drewN]; omega))), m2_0.below (by (repeat' (first | (with_reducible assumption) | (with_reducible exact Below.refl _ _) | (with_reducible refine below_wov ?_ ?_ _) | (with_reducible refine below_drewN ?_ _) | (with_reducible refine Below.drew ?_) | (with_reducible refine Below.alloc ?_ ?_ _) | (with_reducible refine Below.setCell ?_ ?_ _) | (with_reducible exact Nat.le_refl _) | omega | (simp only [World.size_alloc, World.size_setCell, World.size_drew, Wov_size, World.heap_drewN]; omega)))), m2_1.below (by (repeat' (first | (with_reducible assumption) | (with_reducible exact Below.refl _ _) | (with_reducible refine below_wov ?_ ?_ _) | (with_reducible refine below_drewN ?_ _) | (with_reducible refine Below.drew ?_) | (with_reducible refine Below.alloc ?_ ?_ _) | (with_reducible refine Below.setCell ?_ ?_ _) | (with_reducible exact Nat.le_refl _) | omega | (simp only [World.size_alloc, World.size_setCell, World.size_drew, Wov_size, World.heap_drewN]; omega)))), m2_2.below (by (repeat' (first | (with_reducible assumption) | (with_reducible exact Below.refl _ _) | (with_reducible refine below_wov ?_ ?_ _) | (with_reducible refine below_drewN ?_ _) | (with_reducible refine Below.drew ?_) | (with_reducible refine Below.alloc ?_ ?_ _) | (with_reducible refine Below.setCell ?_ ?_ _) | (with_reducible exact Nat.le_refl _) | omega | (simp only [World.size_alloc, World.size_setCell, World.size_drew, Wov_size, World.heap_drewN]; omega))))⟩ ?_
  rintro W3 ⟨hb3, m3_0, m3_1, m3_2⟩
  clear hb2 f2_0_lt f2_0_c0 f2_0_c1 f2_0_c2 f2_0_c3 f2_0_c4 f2_0_c5 f2_1_lt f2_1_c0 f2_1_c1 f2_1_c2 f2_1_c3 f2_1_c4 f2_1_c5 f2_2_lt f2_2_c0 f2_2_c1 f2_2_c2 f2_2_c3 f2_2_c4 m2_0 m2_1 m2_2 hs2
  have hs3 := hb3.size
  have f3_0_lt := m3_0.lt
  have f3_0_c0 := m3_0.c0
  have f3_0_c1 := m3_0.c1
  have f3_0_c2 := m3_0.c2
  have f3_0_c3 := m3_0.c3
  have f3_0_c4 := m3_0.c4
  have f3_0_c5 := m3_0.c5
  have f3_1_lt := m3_1.lt
  have f3_1_c0 := m3_1.c0
  have f3_1_c1 := m3_1.c1
  have f3_1_c2 := m3_1.c2
  have f3_1_c3 := m3_1.c3
  have f3_1_c4 := m3_1.c4
  have f3_1_c5 := m3_1.c5
  have f3_2_lt := m3_2.lt
  have f3_2_c0 := m3_2.c0
  have f3_2_c1 := m3_2.c1
  have f3_2_c2 := m3_2.c2
  have f3_2_c3 := m3_2.c3
  have f3_2_c4 := m3_2.c4
  refine (Cx.out _).mono ?_; rintro e w' ⟨rfl, qx, rfl⟩
  go_wp2_with (fail)
  obtain ⟨Ax, hAx⟩ : ∃ A, W3.heap.size + qx.bl.size = A := ⟨_, rfl⟩
  rw [hAx]
  refine calls_world (fun W => Below w.heap.size w W ∧ BoxZ W w.heap.size a ∧ BoxZ W (w.heap.size + 1) b ∧ BoxS W (w.heap.size + 2) s.lo s.ls s.hi s.hs s.op ∧ BoxZ W Ax rx) ⟨by (repeat' (first | (with_reducible assumption) | (with_reducible exact Below.refl _ _) | (with_reducible refine below_wov ?_ ?_ _) | (with_reducible refine below_drewN ?_ _) | (with_reducible refine Below.drew ?_) | (with_reducible refine Below.alloc ?_ ?_ _) | (with_reducible refine Below.setCell ?_ ?_ _) | (with_reducible exact Nat.le_refl _) | omega | (simp only [World.size_alloc, World.size_setCell, World.size_drew, Wov_size, World.heap_drewN]; omega))), m3_0.below (by (repeat' (first | (with_reducible assumption) | (with_reducible exact Below.refl _ _) | (with_reducible refine below_wov ?_ ?_ _) | (with_reducible refine below_drewN ?_ _) | (with_reducible refine Below.drew ?_) | (with_reducible refine Below.alloc ?_ ?_ _) | (with_reducible refine Below.setCell ?_ ?_ _) | (with_reducible exact Nat.le_refl _) | omega | (simp only [World.size_alloc, World.size_setCell, World.size_drew, Wov_size, World.heap_drewN]; omega)))), m3_1.below (by (repeat' (first | (with_reducible assumption) | (with_reducible exact Below.refl _ _) | (with_reducible refine below_wov ?_ ?_ _) | (with_reducible refine below_drewN ?_ _) | (with_reducible refine Below.drew ?_) | (with_reducible refine Below.alloc ?_ ?_ _) | (with_reducible refine Below.setCell ?_ ?_ _) | (with_reducible exact Nat.le_refl _) | omega | (simp only [World.size_alloc, World.size_setCell, World.size_drew, Wov_size, World.heap_drewN]; omega)))), m3_2.below (by (repeat' (first | (with_reducible assumption) | (with_reducible exact Below.refl _ _) | (with_reducible refine below_wov ?_ ?_ _) | (with_reducible refine below_drewN ?_ _) | (with_reducible refine Below.drew ?_) | (with_reducible refine Below.alloc ?_ ?_ _) | (with_reducible refine Below.setCell ?_ ?_ _) | (with_reducible exact Nat.le_refl _) | omega | (simp only [World.size_alloc, World.size_setCell, World.size_drew, Wov_size, World.heap_drewN]; omega)))), BoxZ.new (by rw [← hAx]; (try simp only [Wov_size]))⟩ ?_
  rintro W4 ⟨hb4, m4_0, m4_1, m4_2, m4_3⟩
  clear hb3 f3_0_lt f3_0_c0 f3_0_c1 f3_0_c2 f3_0_c3 f3_0_c4 f3_0_c5 f3_1_lt f3_1_c0 f3_1_c1 f3_1_c2 f3_1_c3 f3_1_c4 f3_1_c5 f3_2_lt f3_2_c0 f3_2_c1 f3_2_c2 f3_2_c3 f3_2_c4 m3_0 m3_1 m3_2 hs3
  have hs4 := hb4.size
  have f4_0_lt := m4_0.lt
  have f4_0_c0 := m4_0.c0
  have f4_0_c1 := m4_0.c1
  have f4_0_c2 := m4_0.c2
  have f4_0_c3 := m4_0.c3
  have f4_0_c4 := m4_0.c4
  have f4_0_c5 := m4_0.c5
  have f4_1_lt := m4_1.lt
  have f4_1_c0 := m4_1.c0
  have f4_1_c1 := m4_1.c1
  have f4_1_c2 := m4_1.c2
  have f4_1_c3 := m4_1.c3
  have f4_1_c4 := m4_1.c4
  have f4_1_c5 := m4_1.c5
  have f4_2_lt := m4_2.lt
  have f4_2_c0 := m4_2.c0
  have f4_2_c1 := m4_2.c1
  have f4_2_c2 := m4_2.c2
  have f4_2_c3 := m4_2.c3
  have f4_2_c4 := m4_2.c4
  have f4_3_lt := m4_3.lt
  have f4_3_c0 := m4_3.c0
  have f4_3_c1 := m4_3.c1
  have f4_3_c2 := m4_3.c2
  have f4_3_c3 := m4_3.c3
  have f4_3_c4 := m4_3.c4
  have f4_3_c5 := m4_3.c5
  clear hAx Cx
  refine (Cy.out _).mono ?_; rintro e w' ⟨rfl, qy, rfl⟩
  go_wp2_with (fail)
  obtain ⟨Ay, hAy⟩ : ∃ A, W4.heap.size + qy.bl.size = A := ⟨_, rfl⟩
  rw [hAy]
  refine calls_world (fun W => Below w.heap.size w W ∧ BoxZ W w.heap.size a ∧ BoxZ W (w.heap.size + 1) b ∧ BoxS W (w.heap.size + 2) s.lo s.ls s.hi s.hs s.op ∧ BoxZ W Ax rx ∧ BoxZ W Ay ry) ⟨by (repeat' (first | (with_reducible assumption) | (with_reducible exact Below.refl _ _) | (with_reducible refine below_wov ?_ ?_ _) | (with_reducible refine below_drewN ?_ _) | (with_reducible refine Below.drew ?_) | (with_reducible refine Below.alloc ?_ ?_ _) | (with_reducible refine Below.setCell ?_ ?_ _) | (with_reducible exact Nat.le_refl _) | omega | (simp only [World.size_alloc, World.size_setCell, World.size_drew, Wov_size, World.heap_drewN]; omega))), m4_0.below (by (repeat' (first | (with_reducible assumption) | (with_reducible exact Below.refl _ _) | (with_reducible refine below_wov ?_ ?_ _) | (with_reducible refine below_drewN ?_ _) | (with_reducible refine Below.drew ?_) | (with_reducible refine Below.alloc ?_ ?_ _) | (with_reducible refine Below.setCell ?_ ?_ _) | (with_reducible exact Nat.le_refl _) | omega | (simp only [World.size_alloc, World.size_setCell, World.size_drew, Wov_size, World.heap_drewN]; omega)))), m4_1.below (by (repeat' (first | (with_reducible assumption) | (with_reducible exact Below.refl _ _) | (with_reducible refine below_wov ?_ ?_ _) | (with_reducible refine below_drewN ?_ _) | (with_reducible refine Below.drew ?_) | (with_reducible refine Below.alloc ?_ ?_ _) | (with_reducible refine Below.setCell ?_ ?_ _) | (with_reducible exact Nat.le_refl _) | omega | (simp only [World.size_alloc, World.size_setCell, World.size_drew, Wov_size, World.heap_drewN]; omega)))), m4_2.below (by (repeat' (first | (with_reducible assumption) | (with_reducible exact Below.refl _ _) | (with_reducible refine below_wov ?_ ?_ _) | (with_reducible refine below_drewN ?_ _) | (with_reducible refine Below.drew ?_) | (with_reducible refine Below.alloc ?_ ?_ _) | (with_reducible refine Below.setCell ?_ ?_ _) | (with_reducible exact Nat.le_refl _) | omega | (simp only [World.size_alloc, World.size_setCell, World.size_drew, Wov_size, World.heap_drewN]; omega)))), m4_3.below (by (repeat' (first | (with_reducible assumption) | (with_reducible exact Below.refl _ _) | (with_reducible refine below_wov ?_ ?_ _) | (with_reducible refine below_drewN ?_ _) | (with_reducible refine Below.drew ?_) | (with_reducible refine Below.alloc ?_ ?_ _) | (with_reducible refine Below.setCell ?_ ?_ _) | (with_reducible exact Nat.le_refl _) | omega | (simp only [World.size_alloc, World.size_setCell, World.size_drew, Wov_size, World.heap_drewN]; omega)))), BoxZ.new (by rw [← hAy]; (try simp only [Wov_size]))⟩ ?_
  rintro W5 ⟨hb5, m5_0, m5_1, m5_2, m5_3, m5_4⟩
  clear hb4 f4_0_lt f4_0_c0 f4_0_c1 f4_0_c2 f4_0_c3 f4_0_c4 f4_0_c5 f4_1_lt f4_1_c0 f4_1_c1 f4_1_c2 f4_1_c3 f4_1_c4 f4_1_c5 f4_2_lt f4_2_c0 f4_2_c1 f4_2_c2 f4_2_c3 f4_2_c4 f4_3_lt f4_3_c0 f4_3_c1 f4_3_c2 f4_3_c3 f4_3_c4 f4_3_c5 m4_0 m4_1 m4_2 m4_3 hs4
  have hs5 := hb5.size
  have f5_0_lt := m5_0.lt
  have f5_0_c0 := m5_0.c0
  have f5_0_c1 := m5_0.c1
  have f5_0_c2 := m5_0.c2
  have f5_0_c3 := m5_0.c3
  have f5_0_c4 := m5_0.c4
  have f5_0_c5 := m5_0.c5
  have f5_1_lt := m5_1.lt
  have f5_1_c0 := m5_1.c0
  have f5_1_c1 := m5_1.c1
  have f5_1_c2 := m5_1.c2
  have f5_1_c3 := m5_1.c3
  have f5_1_c4 := m5_1.c4
  have f5_1_c5 := m5_1.c5
  have f5_2_lt := m5_2.lt
  have f5_2_c0 := m5_2.c0
  have f5_2_c1 := m5_2.c1
  have f5_2_c2 := m5_2.c2
  have f5_2_c3 := m5_2.c3
  have f5_2_c4 := m5_2.c4
  have f5_3_lt := m5_3.lt
  have f5_3_c0 := m5_3.c0
  have f5_3_c1 := m5_3.c1
  have f5_3_c2 := m5_3.c2
  have f5_3_c3 := m5_3.c3
  have f5_3_c4 := m5_3.c4
  have f5_3_c5 := m5_3.c5
  have f5_4_lt := m5_4.lt
  have f5_4_c0 := m5_4.c0
  have f5_4_c1 := m5_4.c1
  have f5_4_c2 := m5_4.c2
  have f5_4_c3 := m5_4.c3
  have f5_4_c4 := m5_4.c4
  have f5_4_c5 := m5_4.c5
  clear hAy Cy
  refine (Cv.out _).mono ?_; rintro e w' ⟨rfl, qv, rfl⟩
  go_wp2_with (fail)
  obtain ⟨Av, hAv⟩ : ∃ A, W5.heap.size + qv.bl.size = A := ⟨_, rfl⟩
  rw [hAv]
  refine calls_world (fun W => Below w.heap.size w W ∧ BoxZ W w.heap.size a ∧ BoxZ W (w.heap.size + 1) b ∧ BoxS W (w.heap.size + 2) s.lo s.ls s.hi s.hs s.op ∧ BoxZ W Ax rx ∧ BoxZ W Ay ry ∧ BoxZ W Av rv) ⟨by (repeat' (first | (with_reducible assumption) | (with_reducible exact Below.refl _ _) | (with_reducible refine below_wov ?_ ?_ _) | (with_reducible refine below_drewN ?_ _) | (with_reducible refine Below.drew ?_) | (with_reducible refine Below.alloc ?_ ?_ _) | (with_reducible refine Below.setCell ?_ ?_ _) | (with_reducible exact Nat.le_refl _) | omega | (simp only [World.size_alloc, World.size_setCell, World.size_drew, Wov_size, World.heap_drewN]; omega))), m5_0.below (by (repeat' (first | (with_reducible assumption) | (with_reducible exact Below.refl _ _) | (with_reducible refine below_wov ?_ ?_ _) | (with_reducible refine below_drewN ?_ _) | (with_reducible refine Below.drew ?_) | (with_reducible refine Below.alloc ?_ ?_ _) | (with_reducible refine Below.setCell ?_ ?_ _) | (with_reducible exact Nat.le_refl _) | omega | (simp only [World.size_alloc, World.size_setCell, World.size_drew, Wov_size, World.heap_drewN]; omega)))), m5_1.below (by (repeat' (first | (with_reducible assumption) | (with_reducible exact Below.refl _ _) | (with_reducible refine below_wov ?_ ?_ _) | (with_reducible refine below_drewN ?_ _) | (with_reducible refine Below.drew ?_) | (with_reducible refine Below.alloc ?_ ?_ _) | (with_reducible refine Below.setCell ?_ ?_ _) | (with_reducible exact Nat.le_refl _) | omega | (simp only [World.size_alloc, World.size_setCell, World.size_drew, Wov_size, World.heap_drewN]; omega)))), m5_2.below (by (repeat' (first | (with_reducible assumption) | (with_reducible exact Below.refl _ _) | (with_reducible refine below_wov ?_ ?_ _) | (with_reducible refine below_drewN ?_ _) | (with_reducible refine Below.drew ?_) | (with_reducible refine Below.alloc ?_ ?_ _) | (with_reducible refine Below.setCell ?_ ?_ _) | (with_reducible exact Nat.le_refl _) | omega | (simp only [World.size_alloc, World.size_setCell, World.size_drew, Wov_size, World.heap_drewN]; omega)))), m5_3.below (by (repeat' (first | (with_reducible assumption) | (with_reducible exact Below.refl _ _) | (with_reducible refine below_wov ?_ ?_ _) | (with_reducible refine below_drewN ?_ _) | (with_reducible refine Below.drew ?_) | (with_reducible refine Below.alloc ?_ ?_ _) | (with_reducible refine Below.setCell ?_ ?_ _) | (with_reducible exact Nat.le_refl _) | omega | (simp only [World.size_alloc, World.size_setCell, World.size_drew, Wov_size, World.heap_drewN]; omega)))), m5_4.below (by (repeat' (first | (with_reducible assumption) | (with_reducible exact Below.refl _ _) | (with_reducible refine below_wov ?_ ?_ _) | (with_reducible refine below_drewN ?_ _) | (with_reducible refine Below.drew ?_) | (with_reducible refine Below.alloc ?_ ?_ _) | (with_reducible refine Below.setCell ?_ ?_ _) | (with_reducible exact Nat.le_refl _) | omega | (simp only [World.size_alloc, World.size_setCell, World.size_drew, Wov_size, World.heap_drewN]; omega)))), BoxZ.new (by rw [← hAv]; (try simp only [Wov_size]))⟩ ?_
  rintro W6 ⟨hb6, m6_0, m6_1, m6_2, m6_3, m6_4, m6_5⟩
  clear hb5 f5_0_lt f5_0_c0 f5_0_c1 f5_0_c2 f5_0_c3 f5_0_c4 f5_0_c5 f5_1_lt f5_1_c0 f5_1_c1 f5_1_c2 f5_1_c3 f5_1_c4 f5_1_c5 f5_2_lt f5_2_c0 f5_2_c1 f5_2_c2 f5_2_c3 f5_2_c4 f5_3_lt f5_3_c0 f5_3_c1 f5_3_c2 f5_3_c3 f5_3_c4 f5_3_c5 f5_4_lt f5_4_c0 f5_4_c1 f5_4_c2 f5_4_c3 f5_4_c4 f5_4_c5 m5_0 m5_1 m5_2 m5_3 m5_4 hs5
  have hs6 := hb6.size
  have f6_0_lt := m6_0.lt
  have f6_0_c0 := m6_0.c0
  have f6_0_c1 := m6_0.c1
  have f6_0_c2 := m6_0.c2
  have f6_0_c3 := m6_0.c3
  have f6_0_c4 := m6_0.c4
  have f6_0_c5 := m6_0.c5
  have f6_1_lt := m6_1.lt
  have f6_1_c0 := m6_1.c0
  have f6_1_c1 := m6_1.c1
  have f6_1_c2 := m6_1.c2
  have f6_1_c3 := m6_1.c3
  have f6_1_c4 := m6_1.c4
  have f6_1_c5 := m6_1.c5
  have f6_2_lt := m6_2.lt
  have f6_2_c0 := m6_2.c0
  have f6_2_c1 := m6_2.c1
  have f6_2_c2 := m6_2.c2
  have f6_2_c3 := m6_2.c3
  have f6_2_c4 := m6_2.c4
  have f6_3_lt := m6_3.lt
  have f6_3_c0 := m6_3.c0
  have f6_3_c1 := m6_3.c1
  have f6_3_c2 := m6_3.c2
  have f6_3_c3 := m6_3.c3
  have f6_3_c4 := m6_3.c4
  have f6_3_c5 := m6_3.c5
  have f6_4_lt := m6_4.lt
  have f6_4_c0 := m6_4.c0
  have f6_4_c1 := m6_4.c1
  have f6_4_c2 := m6_4.c2
  have f6_4_c3 := m6_4.c3
  have f6_4_c4 := m6_4.c4
  have f6_4_c5 := m6_4.c5
  have f6_5_lt := m6_5.lt
  have f6_5_c0 := m6_5.c0
  have f6_5_c1 := m6_5.c1
  have f6_5_c2 := m6_5.c2
  have f6_5_c3 := m6_5.c3
  have f6_5_c4 := m6_5.c4
  have f6_5_c5 := m6_5.c5
  clear hAv Cv
  refine (Cu.out _).mono ?_; rintro e w' ⟨rfl, qu, rfl⟩
  clear Cu CI HA
  by_cases he : e = 0
  · skip
    subst he
    cases i
    · skip
      by_cases hx0 : ex = 0
      · skip
        subst hx0
        go_wp2_with (fail)
        obtain ⟨Au, hAu⟩ : ∃ A, W6.heap.size + qu.bl.size = A := ⟨_, rfl⟩
        rw [hAu]
        refine calls_world (fun W => Below w.heap.size w W ∧ BoxZ W w.heap.size a ∧ BoxZ W (w.heap.size + 1) b ∧ BoxS W (w.heap.size + 2) s.lo s.ls s.hi s.hs s.op ∧ BoxZ W Ax rx ∧ BoxZ W Ay ry ∧ BoxZ W Av rv ∧ BoxZ W Au ru) ⟨by (repeat' (first | (with_reducible assumption) | (with_reducible exact Below.refl _ _) | (with_reducible refine below_wov ?_ ?_ _) | (with_reducible refine below_drewN ?_ _) | (with_reducible refine Below.drew ?_) | (with_reducible refine Below.alloc ?_ ?_ _) | (with_reducible refine Below.setCell ?_ ?_ _) | (with_reducible exact Nat.le_refl _) | omega | (simp only [World.size_alloc, World.size_setCell, World.size_drew, Wov_size, World.heap_drewN]; omega))), m6_0.below (by (repeat' (first | (with_reducible assumption) | (with_reducible exact Below.refl _ _) | (with_reducible refine below_wov ?_ ?_ _) | (with_reducible refine below_drewN ?_ _) | (with_reducible refine Below.drew ?_) | (with_reducible refine Below.alloc ?_ ?_ _) | (with_reducible refine Below.setCell ?_ ?_ _) | (with_reducible exact Nat.le_refl _) | omega | (simp only [World.size_alloc, World.size_setCell, World.size_drew, Wov_size, World.heap_drewN]; omega)))), m6_1.below (by (repeat' (first | (with_reducible assumption) | (with_reducible exact Below.refl _ _) | (with_reducible refine below_wov ?_ ?_ _) | (with_reducible refine below_drewN ?_ _) | (with_reducible refine Below.drew ?_) | (with_reducible refine Below.alloc ?_ ?_ _) | (with_reducible refine Below.setCell ?_ ?_ _) | (with_reducible exact Nat.le_refl _) | omega | (simp only [World.size_alloc, World.size_setCell, World.size_drew, Wov_size, World.heap_drewN]; omega)))), m6_2.below (by (repeat' (first | (with_reducible assumption) | (with_reducible exact Below.refl _ _) | (with_reducible refine below_wov ?_ ?_ _) | (with_reducible refine below_drewN ?_ _) | (with_reducible refine Below.drew ?_) | (with_reducible refine Below.alloc ?_ ?_ _) | (with_reducible refine Below.setCell ?_ ?_ _) | (with_reducible exact Nat.le_refl _) | omega | (simp only [World.size_alloc, World.size_setCell, World.size_drew, Wov_size, World.heap_drewN]; omega)))), m6_3.below (by (repeat' (first | (with_reducible assumption) | (with_reducible exact Below.refl _ _) | (with_reducible refine below_wov ?_ ?_ _) | (with_reducible refine below_drewN ?_ _) | (with_reducible refine Below.drew ?_) | (with_reducible refine Below.alloc ?_ ?_ _) | (with_reducible refine Below.setCell ?_ ?_ _) | (with_reducible exact Nat.le_refl _) | omega | (simp only [World.size_alloc, World.size_setCell, World.size_drew, Wov_size, World.heap_drewN]; omega)))), m6_4.below (by (repeat' (first | (with_reducible assumption) | (with_reducible exact Below.refl _ _) | (with_reducible refine below_wov ?_ ?_ _) | (with_reducible refine below_drewN ?_ _) | (with_reducible refine Below.drew ?_) | (with_reducible refine Below.alloc ?_ ?_ _) | (with_reducible refine Below.setCell ?_ ?_ _) | (with_reducible exact Nat.le_refl _) | omega | (simp only [World.size_alloc, World.size_setCell, World.size_drew, Wov_size, World.heap_drewN]; omega)))), m6_5.below (by (repeat' (first | (with_reducible assumption) | (with_reducible exact Below.refl _ _) | (with_reducible refine below_wov ?_ ?_ _) | (with_reducible refine below_drewN ?_ _) | (with_reducible refine Below.drew ?_) | (with_reducible refine Below.alloc ?_ ?_ _) | (with_reducible refine Below.setCell ?_ ?_ _) | (with_reducible exact Nat.le_refl _) | omega | (simp only [World.size_alloc, World.size_setCell, World.size_drew, Wov_size, World.heap_drewN]; omega)))), BoxZ.new (by rw [← hAu]; (try simp only [Wov_size]))⟩ ?_
        rintro W7 ⟨hb7, m7_0, m7_1, m7_2, m7_3, m7_4, m7_5, m7_6⟩
        clear hb6 f6_0_lt f6_0_c0 f6_0_c1 f6_0_c2 f6_0_c3 f6_0_c4 f6_0_c5 f6_1_lt f6_1_c0 f6_1_c1 f6_1_c2 f6_1_c3 f6_1_c4 f6_1_c5 f6_2_lt f6_2_c0 f6_2_c1 f6_2_c2 f6_2_c3 f6_2_c4 f6_3_lt f6_3_c0 f6_3_c1 f6_3_c2 f6_3_c3 f6_3_c4 f6_3_c5 f6_4_lt f6_4_c0 f6_4_c1 f6_4_c2 f6_4_c3 f6_4_c4 f6_4_c5 f6_5_lt f6_5_c0 f6_5_c1 f6_5_c2 f6_5_c3 f6_5_c4 f6_5_c5 m6_0 m6_1 m6_2 m6_3 m6_4 m6_5 hs6
        have hs7 := hb7.size
        have f7_0_lt := m7_0.lt
        have f7_0_c0 := m7_0.c0
        have f7_0_c1 := m7_0.c1
        have f7_0_c2 := m7_0.c2
        have f7_0_c3 := m7_0.c3
        have f7_0_c4 := m7_0.c4
        have f7_0_c5 := m7_0.c5
        have f7_1_lt := m7_1.lt
        have f7_1_c0 := m7_1.c0
        have f7_1_c1 := m7_1.c1
        have f7_1_c2 := m7_1.c2
        have f7_1_c3 := m7_1.c3
        have f7_1_c4 := m7_1.c4
        have f7_1_c5 := m7_1.c5
        have f7_2_lt := m7_2.lt
        have f7_2_c0 := m7_2.c0
        have f7_2_c1 := m7_2.c1
        have f7_2_c2 := m7_2.c2
        have f7_2_c3 := m7_2.c3
        have f7_2_c4 := m7_2.c4
        have f7_3_lt := m7_3.lt
        have f7_3_c0 := m7_3.c0
        have f7_3_c1 := m7_3.c1
        have f7_3_c2 := m7_3.c2
        have f7_3_c3 := m7_3.c3
        have f7_3_c4 := m7_3.c4
        have f7_3_c5 := m7_3.c5
        have f7_4_lt := m7_4.lt
        have f7_4_c0 := m7_4.c0
        have f7_4_c1 := m7_4.c1
        have f7_4_c2 := m7_4.c2
        have f7_4_c3 := m7_4.c3
        have f7_4_c4 := m7_4.c4
        have f7_4_c5 := m7_4.c5
        have f7_5_lt := m7_5.lt
        have f7_5_c0 := m7_5.c0
        have f7_5_c1 := m7_5.c1
        have f7_5_c2 := m7_5.c2
        have f7_5_c3 := m7_5.c3
        have f7_5_c4 := m7_5.c4
        have f7_5_c5 := m7_5.c5
        have f7_6_lt := m7_6.lt
        have f7_6_c0 := m7_6.c0
        have f7_6_c1 := m7_6.c1
        have f7_6_c2 := m7_6.c2
        have f7_6_c3 := m7_6.c3
        have f7_6_c4 := m7_6.c4
        have f7_6_c5 := m7_6.c5
        clear hAu
        refine (Cj.out _).mono ?_; rintro e w' ⟨rfl, qj, rfl⟩
        by_cases hm : m < q
        · skip
          have hm2 : decide (m < q) = true := decide_eq_true hm
          go_wp2
          all_goals
            go_ret
            exact gives_bool (by simp) (by (repeat' (first | (with_reducible assumption) | (with_reducible exact Below.refl _ _) | (with_reducible refine below_wov ?_ ?_ _) | (with_reducible refine below_drewN ?_ _) | (with_reducible refine Below.drew ?_) | (with_reducible refine Below.alloc ?_ ?_ _) | (with_reducible refine Below.setCell ?_ ?_ _) | (with_reducible exact Nat.le_refl _) | omega | (simp only [World.size_alloc, World.size_setCell, World.size_drew, Wov_size, World.heap_drewN]; omega))))
        · skip
          have hm2 : decide (m < q) = false := decide_eq_false hm
          obtain ⟨n6, l3⟩ := L3.out (by simp) (by omega)
          have b6 : (ej != 6) = true := by rw [bne_iff_ne]; exact n6
          by_cases hj0 : ej = 0
          · skip
            subst hj0
            have LT := Lib.hid (lies_true (l3 rfl))
            unfold zoneV at LT
            go_wp2_with (fail)
            obtain ⟨Aj, hAj⟩ : ∃ A, W7.heap.size + qj.bl.size = A := ⟨_, rfl⟩
            rw [hAj]
            refine calls_world (fun W => Below w.heap.size w W ∧ BoxZ W w.heap.size a ∧ BoxZ W (w.heap.size + 1) b ∧ BoxS W (w.heap.size + 2) s.lo s.ls s.hi s.hs s.op ∧ BoxZ W Ax rx ∧ BoxZ W Ay ry ∧ BoxZ W Av rv ∧ BoxZ W Au ru ∧ BoxZ W Aj rj) ⟨by (repeat' (first | (with_reducible assumption) | (with_reducible exact Below.refl _ _) | (with_reducible refine below_wov ?_ ?_ _) | (with_reducible refine below_drewN ?_ _) | (with_reducible refine Below.drew ?_) | (with_reducible refine Below.alloc ?_ ?_ _) | (with_reducible refine Below.setCell ?_ ?_ _) | (with_reducible exact Nat.le_refl _) | omega | (simp only [World.size_alloc, World.size_setCell, World.size_drew, Wov_size, World.heap_drewN]; omega))), m7_0.below (by (repeat' (first | (with_reducible assumption) | (with_reducible exact Below.refl _ _) | (with_reducible refine below_wov ?_ ?_ _) | (with_reducible refine below_drewN ?_ _) | (with_reducible refine Below.drew ?_) | (with_reducible refine Below.alloc ?_ ?_ _) | (with_reducible refine Below.setCell ?_ ?_ _) | (with_reducible exact Nat.le_refl _) | omega | (simp only [World.size_alloc, World.size_setCell, World.size_drew, Wov_size, World.heap_drewN]; omega)))), m7_1.below (by (repeat' (first | (with_reducible assumption) | (with_reducible exact Below.refl _ _) | (with_reducible refine below_wov ?_ ?_ _) | (with_reducible refine below_drewN ?_ _) | (with_reducible refine Below.drew ?_) | (with_reducible refine Below.alloc ?_ ?_ _) | (with_reducible refine Below.setCell ?_ ?_ _) | (with_reducible exact Nat.le_refl _) | omega | (simp only [World.size_alloc, World.size_setCell, World.size_drew, Wov_size, World.heap_drewN]; omega)))), m7_2.below (by (repeat' (first | (with_reducible assumption) | (with_reducible exact Below.refl _ _) | (with_reducible refine below_wov ?_ ?_ _) | (with_reducible refine below_drewN ?_ _) | (with_reducible refine Below.drew ?_) | (with_reducible refine Below.alloc ?_ ?_ _) | (with_reducible refine Below.setCell ?_ ?_ _) | (with_reducible exact Nat.le_refl _) | omega | (simp only [World.size_alloc, World.size_setCell, World.size_drew, Wov_size, World.heap_drewN]; omega)))), m7_3.below (by (repeat' (first | (with_reducible assumption) | (with_reducible exact Below.refl _ _) | (with_reducible refine below_wov ?_ ?_ _) | (with_reducible refine below_drewN ?_ _) | (with_reducible refine Below.drew ?_) | (with_reducible refine Below.alloc ?_ ?_ _) | (with_reducible refine Below.setCell ?_ ?_ _) | (with_reducible exact Nat.le_refl _) | omega | (simp only [World.size_alloc, World.size_setCell, World.size_drew, Wov_size, World.heap_drewN]; omega)))), m7_4.below (by (repeat' (first | (with_reducible assumption) | (with_reducible exact Below.refl _ _) | (with_reducible refine below_wov ?_ ?_ _) | (with_reducible refine below_drewN ?_ _) | (with_reducible refine Below.drew ?_) | (with_reducible refine Below.alloc ?_ ?_ _) | (with_reducible refine Below.setCell ?_ ?_ _) | (with_reducible exact Nat.le_refl _) | omega | (simp only [World.size_alloc, World.size_setCell, World.size_drew, Wov_size, World.heap_drewN]; omega)))), m7_5.below (by (repeat' (first | (with_reducible assumption) | (with_reducible exact Below.refl _ _) | (with_reducible refine below_wov ?_ ?_ _) | (with_reducible refine below_drewN ?_ _) | (with_reducible refine Below.drew ?_) | (with_reducible refine Below.alloc ?_ ?_ _) | (with_reducible refine Below.setCell ?_ ?_ _) | (with_reducible exact Nat.le_refl _) | omega | (simp only [World.size_alloc, World.size_setCell, World.size_drew, Wov_size, World.heap_drewN]; omega)))), m7_6.below (by (repeat' (first | (with_reducible assumption) | (with_reducible exact Below.refl _ _) | (with_reducible refine below_wov ?_ ?_ _) | (with_reducible refine below_drewN ?_ _) | (with_reducible refine Below.drew ?_) | (with_reducible refine Below.alloc ?_ ?_ _) | (with_reducible refine Below.setCell ?_ ?_ _) | (with_reducible exact Nat.le_refl _) | omega | (simp only [World.size_alloc, World.size_setCell, World.size_drew, Wov_size, World.heap_drewN]; omega)))), BoxZ.new (by rw [← hAj]; (try simp only [Wov_size]))⟩ ?_
            rintro W8 ⟨hb8, m8_0, m8_1, m8_2, m8_3, m8_4, m8_5, m8_6, m8_7⟩
            clear hb7 f7_0_lt f7_0_c0 f7_0_c1 f7_0_c2 f7_0_c3 f7_0_c4 f7_0_c5 f7_1_lt f7_1_c0 f7_1_c1 f7_1_c2 f7_1_c3 f7_1_c4 f7_1_c5 f7_2_lt f7_2_c0 f7_2_c1 f7_2_c2 f7_2_c3 f7_2_c4 f7_3_lt f7_3_c0 f7_3_c1 f7_3_c2 f7_3_c3 f7_3_c4 f7_3_c5 f7_4_lt f7_4_c0 f7_4_c1 f7_4_c2 f7_4_c3 f7_4_c4 f7_4_c5 f7_5_lt f7_5_c0 f7_5_c1 f7_5_c2 f7_5_c3 f7_5_c4 f7_5_c5 f7_6_lt f7_6_c0 f7_6_c1 f7_6_c2 f7_6_c3 f7_6_c4 f7_6_c5 m7_0 m7_1 m7_2 m7_3 m7_4 m7_5 m7_6 hs7
            have hs8 := hb8.size
            have f8_0_lt := m8_0.lt
            have f8_0_c0 := m8_0.c0
            have f8_0_c1 := m8_0.c1
            have f8_0_c2 := m8_0.c2
            have f8_0_c3 := m8_0.c3
            have f8_0_c4 := m8_0.c4
            have f8_0_c5 := m8_0.c5
            have f8_1_lt := m8_1.lt
            have f8_1_c0 := m8_1.c0
            have f8_1_c1 := m8_1.c1
            have f8_1_c2 := m8_1.c2
            have f8_1_c3 := m8_1.c3
            have f8_1_c4 := m8_1.c4
            have f8_1_c5 := m8_1.c5
            have f8_2_lt := m8_2.lt
            have f8_2_c0 := m8_2.c0
            have f8_2_c1 := m8_2.c1
            have f8_2_c2 := m8_2.c2
            have f8_2_c3 := m8_2.c3
            have f8_2_c4 := m8_2.c4
            have f8_3_lt := m8_3.lt
            have f8_3_c0 := m8_3.c0
            have f8_3_c1 := m8_3.c1
            have f8_3_c2 := m8_3.c2
            have f8_3_c3 := m8_3.c3
            have f8_3_c4 := m8_3.c4
            have f8_3_c5 := m8_3.c5
            have f8_4_lt := m8_4.lt
            have f8_4_c0 := m8_4.c0
            have f8_4_c1 := m8_4.c1
            have f8_4_c2 := m8_4.c2
            have f8_4_c3 := m8_4.c3
            have f8_4_c4 := m8_4.c4
            have f8_4_c5 := m8_4.c5
            have f8_5_lt := m8_5.lt
            have f8_5_c0 := m8_5.c0
            have f8_5_c1 := m8_5.c1
            have f8_5_c2 := m8_5.c2
            have f8_5_c3 := m8_5.c3
            have f8_5_c4 := m8_5.c4
            have f8_5_c5 := m8_5.c5
            have f8_6_lt := m8_6.lt
            have f8_6_c0 := m8_6.c0
            have f8_6_c1 := m8_6.c1
            have f8_6_c2 := m8_6.c2
            have f8_6_c3 := m8_6.c3
            have f8_6_c4 := m8_6.c4
            have f8_6_c5 := m8_6.c5
            have f8_7_lt := m8_7.lt
            have f8_7_c0 := m8_7.c0
            have f8_7_c1 := m8_7.c1
            have f8_7_c2 := m8_7.c2
            have f8_7_c3 := m8_7.c3
            have f8_7_c4 := m8_7.c4
            have f8_7_c5 := m8_7.c5
            clear hAj
            refine (LT.out _).mono ?_; rintro e w' ⟨rfl, qt, rfl⟩
            go_wp2
            all_goals
              go_ret
              exact gives_bool (by simp) (by (repeat' (first | (with_reducible assumption) | (with_reducible exact Below.refl _ _) | (with_reducible refine below_wov ?_ ?_ _) | (with_reducible refine below_drewN ?_ _) | (with_reducible refine Below.drew ?_) | (with_reducible refine Below.alloc ?_ ?_ _) | (with_reducible refine Below.setCell ?_ ?_ _) | (with_reducible exact Nat.le_refl _) | omega | (simp only [World.size_alloc, World.size_setCell, World.size_drew, Wov_size, World.heap_drewN]; omega))))
          · skip
            have bj : (ej != 0) = true := by rw [bne_iff_ne]; exact hj0
            go_wp2
            all_goals
              go_ret
              exact gives_bool (by simp) (by (repeat' (first | (with_reducible assumption) | (with_reducible exact Below.refl _ _) | (with_reducible refine below_wov ?_ ?_ _) | (with_reducible refine below_drewN ?_ _) | (with_reducible refine Below.drew ?_) | (with_reducible refine Below.alloc ?_ ?_ _) | (with_reducible refine Below.setCell ?_ ?_ _) | (with_reducible exact Nat.le_refl _) | omega | (simp only [World.size_alloc, World.size_setCell, World.size_drew, Wov_size, World.heap_drewN]; omega))))
      · skip
        have bx0 : (ex == 0) = false := by rw [beq_eq_false_iff_ne]; exact hx0
        have bx1 : (ex != 0) = true := by rw [bne_iff_ne]; exact hx0
        go_wp2_with (fail)
        obtain ⟨Au, hAu⟩ : ∃ A, W6.heap.size + qu.bl.size = A := ⟨_, rfl⟩
        rw [hAu]
        refine calls_world (fun W => Below w.heap.size w W ∧ BoxZ W w.heap.size a ∧ BoxZ W (w.heap.size + 1) b ∧ BoxS W (w.heap.size + 2) s.lo s.ls s.hi s.hs s.op ∧ BoxZ W Ax rx ∧ BoxZ W Ay ry ∧ BoxZ W Av rv ∧ BoxZ W Au ru) ⟨by (repeat' (first | (with_reducible assumption) | (with_reducible exact Below.refl _ _) | (with_reducible refine below_wov ?_ ?_ _) | (with_reducible refine below_drewN ?_ _) | (with_reducible refine Below.drew ?_) | (with_reducible refine Below.alloc ?_ ?_ _) | (with_reducible refine Below.setCell ?_ ?_ _) | (with_reducible exact Nat.le_refl _) | omega | (simp only [World.size_alloc, World.size_setCell, World.size_drew, Wov_size, World.heap_drewN]; omega))), m6_0.below (by (repeat' (first | (with_reducible assumption) | (with_reducible exact Below.refl _ _) | (with_reducible refine below_wov ?_ ?_ _) | (with_reducible refine below_drewN ?_ _) | (with_reducible refine Below.drew ?_) | (with_reducible refine Below.alloc ?_ ?_ _) | (with_reducible refine Below.setCell ?_ ?_ _) | (with_reducible exact Nat.le_refl _) | omega | (simp only [World.size_alloc, World.size_setCell, World.size_drew, Wov_size, World.heap_drewN]; omega)))), m6_1.below (by (repeat' (first | (with_reducible assumption) | (with_reducible exact Below.refl _ _) | (with_reducible refine below_wov ?_ ?_ _) | (with_reducible refine below_drewN ?_ _) | (with_reducible refine Below.drew ?_) | (with_reducible refine Below.alloc ?_ ?_ _) | (with_reducible refine Below.setCell ?_ ?_ _) | (with_reducible exact Nat.le_refl _) | omega | (simp only [World.size_alloc, World.size_setCell, World.size_drew, Wov_size, World.heap_drewN]; omega)))), m6_2.below (by (repeat' (first | (with_reducible assumption) | (with_reducible exact Below.refl _ _) | (with_reducible refine below_wov ?_ ?_ _) | (with_reducible refine below_drewN ?_ _) | (with_reducible refine Below.drew ?_) | (with_reducible refine Below.alloc ?_ ?_ _) | (with_reducible refine Below.setCell ?_ ?_ _) | (with_reducible exact Nat.le_refl _) | omega | (simp only [World.size_alloc, World.size_setCell, World.size_drew, Wov_size, World.heap_drewN]; omega)))), m6_3.below (by (repeat' (first | (with_reducible assumption) | (with_reducible exact Below.refl _ _) | (with_reducible refine below_wov ?_ ?_ _) | (with_reducible refine below_drewN ?_ _) | (with_reducible refine Below.drew ?_) | (with_reducible refine Below.alloc ?_ ?_ _) | (with_reducible refine Below.setCell ?_ ?_ _) | (with_reducible exact Nat.le_refl _) | omega | (simp only [World.size_alloc, World.size_setCell, World.size_drew, Wov_size, World.heap_drewN]; omega)))), m6_4.below (by (repeat' (first | (with_reducible assumption) | (with_reducible exact Below.refl _ _) | (with_reducible refine below_wov ?_ ?_ _) | (with_reducible refine below_drewN ?_ _) | (with_reducible refine Below.drew ?_) | (with_reducible refine Below.alloc ?_ ?_ _) | (with_reducible refine Below.setCell ?_ ?_ _) | (with_reducible exact Nat.le_refl _) | omega | (simp only [World.size_alloc, World.size_setCell, World.size_drew, Wov_size, World.heap_drewN]; omega)))), m6_5.below (by (repeat' (first | (with_reducible assumption) | (with_reducible exact Below.refl _ _) | (with_reducible refine below_wov ?_ ?_ _) | (with_reducible refine below_drewN ?_ _) | (with_reducible refine Below.drew ?_) | (with_reducible refine Below.alloc ?_ ?_ _) | (with_reducible refine Below.setCell ?_ ?_ _) | (with_reducible exact Nat.le_refl _) | omega | (simp only [World.size_alloc, World.size_setCell, World.size_drew, Wov_size, World.heap_drewN]; omega)))), BoxZ.new (by rw [← hAu]; (try simp only [Wov_size]))⟩ ?_
        rintro W7 ⟨hb7, m7_0, m7_1, m7_2, m7_3, m7_4, m7_5, m7_6⟩
        clear hb6 f6_0_lt f6_0_c0 f6_0_c1 f6_0_c2 f6_0_c3 f6_0_c4 f6_0_c5 f6_1_lt f6_1_c0 f6_1_c1 f6_1_c2 f6_1_c3 f6_1_c4 f6_1_c5 f6_2_lt f6_2_c0 f6_2_c1 f6_2_c2 f6_2_c3 f6_2_c4 f6_3_lt f6_3_c0 f6_3_c1 f6_3_c2 f6_3_c3 f6_3_c4 f6_3_c5 f6_4_lt f6_4_c0 f6_4_c1 f6_4_c2 f6_4_c3 f6_4_c4 f6_4_c5 f6_5_lt f6_5_c0 f6_5_c1 f6_5_c2 f6_5_c3 f6_5_c4 f6_5_c5 m6_0 m6_1 m6_2 m6_3 m6_4 m6_5 hs6
        have hs7 := hb7.size
        have f7_0_lt := m7_0.lt
        have f7_0_c0 := m7_0.c0
        have f7_0_c1 := m7_0.c1
        have f7_0_c2 := m7_0.c2
        have f7_0_c3 := m7_0.c3
        have f7_0_c4 := m7_0.c4
        have f7_0_c5 := m7_0.c5
        have f7_1_lt := m7_1.lt
        have f7_1_c0 := m7_1.c0
        have f7_1_c1 := m7_1.c1
        have f7_1_c2 := m7_1.c2
        have f7_1_c3 := m7_1.c3
        have f7_1_c4 := m7_1.c4
        have f7_1_c5 := m7_1.c5
        have f7_2_lt := m7_2.lt
        have f7_2_c0 := m7_2.c0
        have f7_2_c1 := m7_2.c1
        have f7_2_c2 := m7_2.c2
        have f7_2_c3 := m7_2.c3
        have f7_2_c4 := m7_2.c4
        have f7_3_lt := m7_3.lt
        have f7_3_c0 := m7_3.c0
        have f7_3_c1 := m7_3.c1
        have f7_3_c2 := m7_3.c2
        have f7_3_c3 := m7_3.c3
        have f7_3_c4 := m7_3.c4
        have f7_3_c5 := m7_3.c5
        have f7_4_lt := m7_4.lt
        have f7_4_c0 := m7_4.c0
        have f7_4_c1 := m7_4.c1
        have f7_4_c2 := m7_4.c2
        have f7_4_c3 := m7_4.c3
        have f7_4_c4 := m7_4.c4
        have f7_4_c5 := m7_4.c5
        have f7_5_lt := m7_5.lt
        have f7_5_c0 := m7_5.c0
        have f7_5_c1 := m7_5.c1
        have f7_5_c2 := m7_5.c2
        have f7_5_c3 := m7_5.c3
        have f7_5_c4 := m7_5.c4
        have f7_5_c5 := m7_5.c5
        have f7_6_lt := m7_6.lt
        have f7_6_c0 := m7_6.c0
        have f7_6_c1 := m7_6.c1
        have f7_6_c2 := m7_6.c2
        have f7_6_c3 := m7_6.c3
        have f7_6_c4 := m7_6.c4
        have f7_6_c5 := m7_6.c5
        clear hAu
        refine (Cj.out _).mono ?_; rintro e w' ⟨rfl, qj, rfl⟩
        go_wp2
        all_goals
          go_ret
          exact gives_bool (by simp) (by (repeat' (first | (with_reducible assumption) | (with_reducible exact Below.refl _ _) | (with_reducible refine below_wov ?_ ?_ _) | (with_reducible refine below_drewN ?_ _) | (with_reducible refine Below.drew ?_) | (with_reducible refine Below.alloc ?_ ?_ _) | (with_reducible refine Below.setCell ?_ ?_ _) | (with_reducible exact Nat.le_refl _) | omega | (simp only [World.size_alloc, World.size_setCell, World.size_drew, Wov_size, World.heap_drewN]; omega))))
    · skip
      by_cases hx0 : ex = 0
      · skip
        subst hx0
        obtain ⟨y6, y0⟩ := L1.out (by simp) (by simp) (by simp)
        have by6 : (ey == 6) = false := by rw [beq_eq_false_iff_ne]; exact y6
        by_cases hy0 : ey = 0
        · skip
          subst hy0
          have LY := Lib.hid (lies_true (y0 rfl))
          unfold zoneV at LY
          go_wp2_with (fail)
          obtain ⟨Au, hAu⟩ : ∃ A, W6.heap.size + qu.bl.size = A := ⟨_, rfl⟩
          rw [hAu]
          refine calls_world (fun W => Below w.heap.size w W ∧ BoxZ W w.heap.size a ∧ BoxZ W (w.heap.size + 1) b ∧ BoxS W (w.heap.size + 2) s.lo s.ls s.hi s.hs s.op ∧ BoxZ W Ax rx ∧ BoxZ W Ay ry ∧ BoxZ W Av rv ∧ BoxZ W Au ru) ⟨by (repeat' (first | (with_reducible assumption) | (with_reducible exact Below.refl _ _) | (with_reducible refine below_wov ?_ ?_ _) | (with_reducible refine below_drewN ?_ _) | (with_reducible refine Below.drew ?_) | (with_reducible refine Below.alloc ?_ ?_ _) | (with_reducible refine Below.setCell ?_ ?_ _) | (with_reducible exact Nat.le_refl _) | omega | (simp only [World.size_alloc, World.size_setCell, World.size_drew, Wov_size, World.heap_drewN]; omega))), m6_0.below (by (repeat' (first | (with_reducible assumption) | (with_reducible exact Below.refl _ _) | (with_reducible refine below_wov ?_ ?_ _) | (with_reducible refine below_drewN ?_ _) | (with_reducible refine Below.drew ?_) | (with_reducible refine Below.alloc ?_ ?_ _) | (with_reducible refine Below.setCell ?_ ?_ _) | (with_reducible exact Nat.le_refl _) | omega | (simp only [World.size_alloc, World.size_setCell, World.size_drew, Wov_size, World.heap_drewN]; omega)))), m6_1.below (by (repeat' (first | (with_reducible assumption) | (with_reducible exact Below.refl _ _) | (with_reducible refine below_wov ?_ ?_ _) | (with_reducible refine below_drewN ?_ _) | (with_reducible refine Below.drew ?_) | (with_reducible refine Below.alloc ?_ ?_ _) | (with_reducible refine Below.setCell ?_ ?_ _) | (with_reducible exact Nat.le_refl _) | omega | (simp only [World.size_alloc, World.size_setCell, World.size_drew, Wov_size, World.heap_drewN]; omega)))), m6_2.below (by (repeat' (first | (with_reducible assumption) | (with_reducible exact Below.refl _ _) | (with_reducible refine below_wov ?_ ?_ _) | (with_reducible refine below_drewN ?_ _) | (with_reducible refine Below.drew ?_) | (with_reducible refine Below.alloc ?_ ?_ _) | (with_reducible refine Below.setCell ?_ ?_ _) | (with_reducible exact Nat.le_refl _) | omega | (simp only [World.size_alloc, World.size_setCell, World.size_drew, Wov_size, World.heap_drewN]; omega)))), m6_3.below (by (repeat' (first | (with_reducible assumption) | (with_reducible exact Below.refl _ _) | (with_reducible refine below_wov ?_ ?_ _) | (with_reducible refine below_drewN ?_ _) | (with_reducible refine Below.drew ?_) | (with_reducible refine Below.alloc ?_ ?_ _) | (with_reducible refine Below.setCell ?_ ?_ _) | (with_reducible exact Nat.le_refl _) | omega | (simp only [World.size_alloc, World.size_setCell, World.size_drew, Wov_size, World.heap_drewN]; omega)))), m6_4.below (by (repeat' (first | (with_reducible assumption) | (with_reducible exact Below.refl _ _) | (with_reducible refine below_wov ?_ ?_ _) | (with_reducible refine below_drewN ?_ _) | (with_reducible refine Below.drew ?_) | (with_reducible refine Below.alloc ?_ ?_ _) | (with_reducible refine Below.setCell ?_ ?_ _) | (with_reducible exact Nat.le_refl _) | omega | (simp only [World.size_alloc, World.size_setCell, World.size_drew, Wov_size, World.heap_drewN]; omega)))), m6_5.below (by (repeat' (first | (with_reducible assumption) | (with_reducible exact Below.refl _ _) | (with_reducible refine below_wov ?_ ?_ _) | (with_reducible refine below_drewN ?_ _) | (with_reducible refine Below.drew ?_) | (with_reducible refine Below.alloc ?_ ?_ _) | (with_reducible refine Below.setCell ?_ ?_ _) | (with_reducible exact Nat.le_refl _) | omega | (simp only [World.size_alloc, World.size_setCell, World.size_drew, Wov_size, World.heap_drewN]; omega)))), BoxZ.new (by rw [← hAu]; (try simp only [Wov_size]))⟩ ?_
          rintro W7 ⟨hb7, m7_0, m7_1, m7_2, m7_3, m7_4, m7_5, m7_6⟩
          clear hb6 f6_0_lt f6_0_c0 f6_0_c1 f6_0_c2 f6_0_c3 f6_0_c4 f6_0_c5 f6_1_lt f6_1_c0 f6_1_c1 f6_1_c2 f6_1_c3 f6_1_c4 f6_1_c5 f6_2_lt f6_2_c0 f6_2_c1 f6_2_c2 f6_2_c3 f6_2_c4 f6_3_lt f6_3_c0 f6_3_c1 f6_3_c2 f6_3_c3 f6_3_c4 f6_3_c5 f6_4_lt f6_4_c0 f6_4_c1 f6_4_c2 f6_4_c3 f6_4_c4 f6_4_c5 f6_5_lt f6_5_c0 f6_5_c1 f6_5_c2 f6_5_c3 f6_5_c4 f6_5_c5 m6_0 m6_1 m6_2 m6_3 m6_4 m6_5 hs6
          have hs7 := hb7.size
          have f7_0_lt := m7_0.lt
          have f7_0_c0 := m7_0.c0
          have f7_0_c1 := m7_0.c1
          have f7_0_c2 := m7_0.c2
          have f7_0_c3 := m7_0.c3
          have f7_0_c4 := m7_0.c4
          have f7_0_c5 := m7_0.c5
          have f7_1_lt := m7_1.lt
          have f7_1_c0 := m7_1.c0
          have f7_1_c1 := m7_1.c1
          have f7_1_c2 := m7_1.c2
          have f7_1_c3 := m7_1.c3
          have f7_1_c4 := m7_1.c4
          have f7_1_c5 := m7_1.c5
          have f7_2_lt := m7_2.lt
          have f7_2_c0 := m7_2.c0
          have f7_2_c1 := m7_2.c1
          have f7_2_c2 := m7_2.c2
          have f7_2_c3 := m7_2.c3
          have f7_2_c4 := m7_2.c4
          have f7_3_lt := m7_3.lt
          have f7_3_c0 := m7_3.c0
          have f7_3_c1 := m7_3.c1
          have f7_3_c2 := m7_3.c2
          have f7_3_c3 := m7_3.c3
          have f7_3_c4 := m7_3.c4
          have f7_3_c5 := m7_3.c5
          have f7_4_lt := m7_4.lt
          have f7_4_c0 := m7_4.c0
          have f7_4_c1 := m7_4.c1
          have f7_4_c2 := m7_4.c2
          have f7_4_c3 := m7_4.c3
          have f7_4_c4 := m7_4.c4
          have f7_4_c5 := m7_4.c5
          have f7_5_lt := m7_5.lt
          have f7_5_c0 := m7_5.c0
          have f7_5_c1 := m7_5.c1
          have f7_5_c2 := m7_5.c2
          have f7_5_c3 := m7_5.c3
          have f7_5_c4 := m7_5.c4
          have f7_5_c5 := m7_5.c5
          have f7_6_lt := m7_6.lt
          have f7_6_c0 := m7_6.c0
          have f7_6_c1 := m7_6.c1
          have f7_6_c2 := m7_6.c2
          have f7_6_c3 := m7_6.c3
          have f7_6_c4 := m7_6.c4
          have f7_6_c5 := m7_6.c5
          clear hAu
          refine (LY.out _).mono ?_; rintro e w' ⟨rfl, qly, rfl⟩
          by_cases hv0 : ev = 0
          · skip
            subst hv0
            obtain ⟨u6, u0⟩ := L2.out (by simp) (by simp) (by simp)
            have bu6 : (eu == 6) = false := by rw [beq_eq_false_iff_ne]; exact u6
            by_cases hu0 : eu = 0
            · skip
              subst hu0
              have LU := Lib.hid (lies_true (u0 rfl))
              unfold zoneV at LU
              go_wp2_with (fail)
              refine calls_world (fun W => Below w.heap.size w W ∧ BoxZ W w.heap.size a ∧ BoxZ W (w.heap.size + 1) b ∧ BoxS W (w.heap.size + 2) s.lo s.ls s.hi s.hs s.op ∧ BoxZ W Ax rx ∧ BoxZ W Ay ry ∧ BoxZ W Av rv ∧ BoxZ W Au ru) ⟨by (repeat' (first | (with_reducible assumption) | (with_reducible exact Below.refl _ _) | (with_reducible refine below_wov ?_ ?_ _) | (with_reducible refine below_drewN ?_ _) | (with_reducible refine Below.drew ?_) | (with_reducible refine Below.alloc ?_ ?_ _) | (with_reducible refine Below.setCell ?_ ?_ _) | (with_reducible exact Nat.le_refl _) | omega | (simp only [World.size_alloc, World.size_setCell, World.size_drew, Wov_size, World.heap_drewN]; omega))), m7_0.below (by (repeat' (first | (with_reducible assumption) | (with_reducible exact Below.refl _ _) | (with_reducible refine below_wov ?_ ?_ _) | (with_reducible refine below_drewN ?_ _) | (with_reducible refine Below.drew ?_) | (with_reducible refine Below.alloc ?_ ?_ _) | (with_reducible refine Below.setCell ?_ ?_ _) | (with_reducible exact Nat.le_refl _) | omega | (simp only [World.size_alloc, World.size_setCell, World.size_drew, Wov_size, World.heap_drewN]; omega)))), m7_1.below (by (repeat' (first | (with_reducible assumption) | (with_reducible exact Below.refl _ _) | (with_reducible refine below_wov ?_ ?_ _) | (with_reducible refine below_drewN ?_ _) | (with_reducible refine Below.drew ?_) | (with_reducible refine Below.alloc ?_ ?_ _) | (with_reducible refine Below.setCell ?_ ?_ _) | (with_reducible exact Nat.le_refl _) | omega | (simp only [World.size_alloc, World.size_setCell, World.size_drew, Wov_size, World.heap_drewN]; omega)))), m7_2.below (by (repeat' (first | (with_reducible assumption) | (with_reducible exact Below.refl _ _) | (with_reducible refine below_wov ?_ ?_ _) | (with_reducible refine below_drewN ?_ _) | (with_reducible refine Below.drew ?_) | (with_reducible refine Below.alloc ?_ ?_ _) | (with_reducible refine Below.setCell ?_ ?_ _) | (with_reducible exact Nat.le_refl _) | omega | (simp only [World.size_alloc, World.size_setCell, World.size_drew, Wov_size, World.heap_drewN]; omega)))), m7_3.below (by (repeat' (first | (with_reducible assumption) | (with_reducible exact Below.refl _ _) | (with_reducible refine below_wov ?_ ?_ _) | (with_reducible refine below_drewN ?_ _) | (with_reducible refine Below.drew ?_) | (with_reducible refine Below.alloc ?_ ?_ _) | (with_reducible refine Below.setCell ?_ ?_ _) | (with_reducible exact Nat.le_refl _) | omega | (simp only [World.size_alloc, World.size_setCell, World.size_drew, Wov_size, World.heap_drewN]; omega)))), m7_4.below (by (repeat' (first | (with_reducible assumption) | (with_reducible exact Below.refl _ _) | (with_reducible refine below_wov ?_ ?_ _) | (with_reducible refine below_drewN ?_ _) | (with_reducible refine Below.drew ?_) | (with_reducible refine Below.alloc ?_ ?_ _) | (with_reducible refine Below.setCell ?_ ?_ _) | (with_reducible exact Nat.le_refl _) | omega | (simp only [World.size_alloc, World.size_setCell, World.size_drew, Wov_size, World.heap_drewN]; omega)))), m7_5.below (by (repeat' (first | (with_reducible assumption) | (with_reducible exact Below.refl _ _) | (with_reducible refine below_wov ?_ ?_ _) | (with_reducible refine below_drewN ?_ _) | (with_reducible refine Below.drew ?_) | (with_reducible refine Below.alloc ?_ ?_ _) | (with_reducible refine Below.setCell ?_ ?_ _) | (with_reducible exact Nat.le_refl _) | omega | (simp only [World.size_alloc, World.size_setCell, World.size_drew, Wov_size, World.heap_drewN]; omega)))), m7_6.below (by (repeat' (first | (with_reducible assumption) | (with_reducible exact Below.refl _ _) | (with_reducible refine below_wov ?_ ?_ _) | (with_reducible refine below_drewN ?_ _) | (with_reducible refine Below.drew ?_) | (with_reducible refine Below.alloc ?_ ?_ _) | (with_reducible refine Below.setCell ?_ ?_ _) | (with_reducible exact Nat.le_refl _) | omega | (simp only [World.size_alloc, World.size_setCell, World.size_drew, Wov_size, World.heap_drewN]; omega))))⟩ ?_
              rintro W8 ⟨hb8, m8_0, m8_1, m8_2, m8_3, m8_4, m8_5, m8_6⟩
              clear hb7 f7_0_lt f7_0_c0 f7_0_c1 f7_0_c2 f7_0_c3 f7_0_c4 f7_0_c5 f7_1_lt f7_1_c0 f7_1_c1 f7_1_c2 f7_1_c3 f7_1_c4 f7_1_c5 f7_2_lt f7_2_c0 f7_2_c1 f7_2_c2 f7_2_c3 f7_2_c4 f7_3_lt f7_3_c0 f7_3_c1 f7_3_c2 f7_3_c3 f7_3_c4 f7_3_c5 f7_4_lt f7_4_c0 f7_4_c1 f7_4_c2 f7_4_c3 f7_4_c4 f7_4_c5 f7_5_lt f7_5_c0 f7_5_c1 f7_5_c2 f7_5_c3 f7_5_c4 f7_5_c5 f7_6_lt f7_6_c0 f7_6_c1 f7_6_c2 f7_6_c3 f7_6_c4 f7_6_c5 m7_0 m7_1 m7_2 m7_3 m7_4 m7_5 m7_6 hs7
              have hs8 := hb8.size
              have f8_0_lt := m8_0.lt
              have f8_0_c0 := m8_0.c0
              have f8_0_c1 := m8_0.c1
              have f8_0_c2 := m8_0.c2
              have f8_0_c3 := m8_0.c3
              have f8_0_c4 := m8_0.c4
              have f8_0_c5 := m8_0.c5
              have f8_1_lt := m8_1.lt
              have f8_1_c0 := m8_1.c0
              have f8_1_c1 := m8_1.c1
              have f8_1_c2 := m8_1.c2
              have f8_1_c3 := m8_1.c3
              have f8_1_c4 := m8_1.c4
              have f8_1_c5 := m8_1.c5
              have f8_2_lt := m8_2.lt
              have f8_2_c0 := m8_2.c0
              have f8_2_c1 := m8_2.c1
              have f8_2_c2 := m8_2.c2
              have f8_2_c3 := m8_2.c3
              have f8_2_c4 := m8_2.c4
              have f8_3_lt := m8_3.lt
              have f8_3_c0 := m8_3.c0
              have f8_3_c1 := m8_3.c1
              have f8_3_c2 := m8_3.c2
              have f8_3_c3 := m8_3.c3
              have f8_3_c4 := m8_3.c4
              have f8_3_c5 := m8_3.c5
              have f8_4_lt := m8_4.lt
              have f8_4_c0 := m8_4.c0
              have f8_4_c1 := m8_4.c1
              have f8_4_c2 := m8_4.c2
              have f8_4_c3 := m8_4.c3
              have f8_4_c4 := m8_4.c4
              have f8_4_c5 := m8_4.c5
              have f8_5_lt := m8_5.lt
              have f8_5_c0 := m8_5.c0
              have f8_5_c1 := m8_5.c1
              have f8_5_c2 := m8_5.c2
              have f8_5_c3 := m8_5.c3
              have f8_5_c4 := m8_5.c4
              have f8_5_c5 := m8_5.c5
              have f8_6_lt := m8_6.lt
              have f8_6_c0 := m8_6.c0
              have f8_6_c1 := m8_6.c1
              have f8_6_c2 := m8_6.c2
              have f8_6_c3 := m8_6.c3
              have f8_6_c4 := m8_6.c4
              have f8_6_c5 := m8_6.c5
              refine (LU.out _).mono ?_; rintro e w' ⟨rfl, qlu, rfl⟩
              go_wp2_with (fail)
              refine calls_world (fun W => Below w.heap.size w W ∧ BoxZ W w.heap.size a ∧ BoxZ W (w.heap.size + 1) b ∧ BoxS W (w.heap.size + 2) s.lo s.ls s.hi s.hs s.op ∧ BoxZ W Ax rx ∧ BoxZ W Ay ry ∧ BoxZ W Av rv ∧ BoxZ W Au ru) ⟨by (repeat' (first | (with_reducible assumption) | (with_reducible exact Below.refl _ _) | (with_reducible refine below_wov ?_ ?_ _) | (with_reducible refine below_drewN ?_ _) | (with_reducible refine Below.drew ?_) | (with_reducible refine Below.alloc ?_ ?_ _) | (with_reducible refine Below.setCell ?_ ?_ _) | (with_reducible exact Nat.le_refl _) | omega | (simp only [World.size_alloc, World.size_setCell, World.size_drew, Wov_size, World.heap_drewN]; omega))), m8_0.below (by (repeat' (first | (with_reducible assumption) | (with_reducible exact Below.refl _ _) | (with_reducible refine below_wov ?_ ?_ _) | (with_reducible refine below_drewN ?_ _) | (with_reducible refine Below.drew ?_) | (with_reducible refine Below.alloc ?_ ?_ _) | (with_reducible refine Below.setCell ?_ ?_ _) | (with_reducible exact Nat.le_refl _) | omega | (simp only [World.size_alloc, World.size_setCell, World.size_drew, Wov_size, World.heap_drewN]; omega)))), m8_1.below (by (repeat' (first | (with_reducible assumption) | (with_reducible exact Below.refl _ _) | (with_reducible refine below_wov ?_ ?_ _) | (with_reducible refine below_drewN ?_ _) | (with_reducible refine Below.drew ?_) | (with_reducible refine Below.alloc ?_ ?_ _) | (with_reducible refine Below.setCell ?_ ?_ _) | (with_reducible exact Nat.le_refl _) | omega | (simp only [World.size_alloc, World.size_setCell, World.size_drew, Wov_size, World.heap_drewN]; omega)))), m8_2.below (by (repeat' (first | (with_reducible assumption) | (with_reducible exact Below.refl _ _) | (with_reducible refine below_wov ?_ ?_ _) | (with_reducible refine below_drewN ?_ _) | (with_reducible refine Below.drew ?_) | (with_reducible refine Below.alloc ?_ ?_ _) | (with_reducible refine Below.setCell ?_ ?_ _) | (with_reducible exact Nat.le_refl _) | omega | (simp only [World.size_alloc, World.size_setCell, World.size_drew, Wov_size, World.heap_drewN]; omega)))), m8_3.below (by (repeat' (first | (with_reducible assumption) | (with_reducible exact Below.refl _ _) | (with_reducible refine below_wov ?_ ?_ _) | (with_reducible refine below_drewN ?_ _) | (with_reducible refine Below.drew ?_) | (with_reducible refine Below.alloc ?_ ?_ _) | (with_reducible refine Below.setCell ?_ ?_ _) | (with_reducible exact Nat.le_refl _) | omega | (simp only [World.size_alloc, World.size_setCell, World.size_drew, Wov_size, World.heap_drewN]; omega)))), m8_4.below (by (repeat' (first | (with_reducible assumption) | (with_reducible exact Below.refl _ _) | (with_reducible refine below_wov ?_ ?_ _) | (with_reducible refine below_drewN ?_ _) | (with_reducible refine Below.drew ?_) | (with_reducible refine Below.alloc ?_ ?_ _) | (with_reducible refine Below.setCell ?_ ?_ _) | (with_reducible exact Nat.le_refl _) | omega | (simp only [World.size_alloc, World.size_setCell, World.size_drew, Wov_size, World.heap_drewN]; omega)))), m8_5.below (by (repeat' (first | (with_reducible assumption) | (with_reducible exact Below.refl _ _) | (with_reducible refine below_wov ?_ ?_ _) | (with_reducible refine below_drewN ?_ _) | (with_reducible refine Below.drew ?_) | (with_reducible refine Below.alloc ?_ ?_ _) | (with_reducible refine Below.setCell ?_ ?_ _) | (with_reducible exact Nat.le_refl _) | omega | (simp only [World.size_alloc, World.size_setCell, World.size_drew, Wov_size, World.heap_drewN]; omega)))), m8_6.below (by (repeat' (first | (with_reducible assumption) | (with_reducible exact Below.refl _ _) | (with_reducible refine below_wov ?_ ?_ _) | (with_reducible refine below_drewN ?_ _) | (with_reducible refine Below.drew ?_) | (with_reducible refine Below.alloc ?_ ?_ _) | (with_reducible refine Below.setCell ?_ ?_ _) | (with_reducible exact Nat.le_refl _) | omega | (simp only [World.size_alloc, World.size_setCell, World.size_drew, Wov_size, World.heap_drewN]; omega))))⟩ ?_
              rintro W9 ⟨hb9, m9_0, m9_1, m9_2, m9_3, m9_4, m9_5, m9_6⟩
              clear hb8 f8_0_lt f8_0_c0 f8_0_c1 f8_0_c2 f8_0_c3 f8_0_c4 f8_0_c5 f8_1_lt f8_1_c0 f8_1_c1 f8_1_c2 f8_1_c3 f8_1_c4 f8_1_c5 f8_2_lt f8_2_c0 f8_2_c1 f8_2_c2 f8_2_c3 f8_2_c4 f8_3_lt f8_3_c0 f8_3_c1 f8_3_c2 f8_3_c3 f8_3_c4 f8_3_c5 f8_4_lt f8_4_c0 f8_4_c1 f8_4_c2 f8_4_c3 f8_4_c4 f8_4_c5 f8_5_lt f8_5_c0 f8_5_c1 f8_5_c2 f8_5_c3 f8_5_c4 f8_5_c5 f8_6_lt f8_6_c0 f8_6_c1 f8_6_c2 f8_6_c3 f8_6_c4 f8_6_c5 m8_0 m8_1 m8_2 m8_3 m8_4 m8_5 m8_6 hs8
              have hs9 := hb9.size
              have f9_0_lt := m9_0.lt
              have f9_0_c0 := m9_0.c0
              have f9_0_c1 := m9_0.c1
              have f9_0_c2 := m9_0.c2
              have f9_0_c3 := m9_0.c3
              have f9_0_c4 := m9_0.c4
              have f9_0_c5 := m9_0.c5
              have f9_1_lt := m9_1.lt
              have f9_1_c0 := m9_1.c0
              have f9_1_c1 := m9_1.c1
              have f9_1_c2 := m9_1.c2
              have f9_1_c3 := m9_1.c3
              have f9_1_c4 := m9_1.c4
              have f9_1_c5 := m9_1.c5
              have f9_2_lt := m9_2.lt
              have f9_2_c0 := m9_2.c0
              have f9_2_c1 := m9_2.c1
              have f9_2_c2 := m9_2.c2
              have f9_2_c3 := m9_2.c3
              have f9_2_c4 := m9_2.c4
              have f9_3_lt := m9_3.lt
              have f9_3_c0 := m9_3.c0
              have f9_3_c1 := m9_3.c1
              have f9_3_c2 := m9_3.c2
              have f9_3_c3 := m9_3.c3
              have f9_3_c4 := m9_3.c4
              have f9_3_c5 := m9_3.c5
              have f9_4_lt := m9_4.lt
              have f9_4_c0 := m9_4.c0
              have f9_4_c1 := m9_4.c1
              have f9_4_c2 := m9_4.c2
              have f9_4_c3 := m9_4.c3
              have f9_4_c4 := m9_4.c4
              have f9_4_c5 := m9_4.c5
              have f9_5_lt := m9_5.lt
              have f9_5_c0 := m9_5.c0
              have f9_5_c1 := m9_5.c1
              have f9_5_c2 := m9_5.c2
              have f9_5_c3 := m9_5.c3
              have f9_5_c4 := m9_5.c4
              have f9_5_c5 := m9_5.c5
              have f9_6_lt := m9_6.lt
              have f9_6_c0 := m9_6.c0
              have f9_6_c1 := m9_6.c1
              have f9_6_c2 := m9_6.c2
              have f9_6_c3 := m9_6.c3
              have f9_6_c4 := m9_6.c4
              have f9_6_c5 := m9_6.c5
              refine (Cj.out _).mono ?_; rintro e w' ⟨rfl, qj, rfl⟩
              by_cases hm : m < q
              · skip
                have hm2 : decide (m < q) = true := decide_eq_true hm
                go_wp2
                all_goals
                  go_ret
                  exact gives_bool (by simp) (by (repeat' (first | (with_reducible assumption) | (with_reducible exact Below.refl _ _) | (with_reducible refine below_wov ?_ ?_ _) | (with_reducible refine below_drewN ?_ _) | (with_reducible refine Below.drew ?_) | (with_reducible refine Below.alloc ?_ ?_ _) | (with_reducible refine Below.setCell ?_ ?_ _) | (with_reducible exact Nat.le_refl _) | omega | (simp only [World.size_alloc, World.size_setCell, World.size_drew, Wov_size, World.heap_drewN]; omega))))
              · skip
                have hm2 : decide (m < q) = false := decide_eq_false hm
                obtain ⟨n6, l3⟩ := L3.out (by simp) (by omega)
                have b6 : (ej != 6) = true := by rw [bne_iff_ne]; exact n6
                by_cases hj0 : ej = 0
                · skip
                  subst hj0
                  have LT := Lib.hid (lies_true (l3 rfl))
                  unfold zoneV at LT
                  go_wp2_with (fail)
                  obtain ⟨Aj, hAj⟩ : ∃ A, W9.heap.size + qj.bl.size = A := ⟨_, rfl⟩
                  rw [hAj]
                  refine calls_world (fun W => Below w.heap.size w W ∧ BoxZ W w.heap.size a ∧ BoxZ W (w.heap.size + 1) b ∧ BoxS W (w.heap.size + 2) s.lo s.ls s.hi s.hs s.op ∧ BoxZ W Ax rx ∧ BoxZ W Ay ry ∧ BoxZ W Av rv ∧ BoxZ W Au ru ∧ BoxZ W Aj rj) ⟨by (repeat' (first | (with_reducible assumption) | (with_reducible exact Below.refl _ _) | (with_reducible refine below_wov ?_ ?_ _) | (with_reducible refine below_drewN ?_ _) | (with_reducible refine Below.drew ?_) | (with_reducible refine Below.alloc ?_ ?_ _) | (with_reducible refine Below.setCell ?_ ?_ _) | (with_reducible exact Nat.le_refl _) | omega | (simp only [World.size_alloc, World.size_setCell, World.size_drew, Wov_size, World.heap_drewN]; omega))), m9_0.below (by (repeat' (first | (with_reducible assumption) | (with_reducible exact Below.refl _ _) | (with_reducible refine below_wov ?_ ?_ _) | (with_reducible refine below_drewN ?_ _) | (with_reducible refine Below.drew ?_) | (with_reducible refine Below.alloc ?_ ?_ _) | (with_reducible refine Below.setCell ?_ ?_ _) | (with_reducible exact Nat.le_refl _) | omega | (simp only [World.size_alloc, World.size_setCell, World.size_drew, Wov_size, World.heap_drewN]; omega)))), m9_1.below (by (repeat' (first | (with_reducible assumption) | (with_reducible exact Below.refl _ _) | (with_reducible refine below_wov ?_ ?_ _) | (with_reducible refine below_drewN ?_ _) | (with_reducible refine Below.drew ?_) | (with_reducible refine Below.alloc ?_ ?_ _) | (with_reducible refine Below.setCell ?_ ?_ _) | (with_reducible exact Nat.le_refl _) | omega | (simp only [World.size_alloc, World.size_setCell, World.size_drew, Wov_size, World.heap_drewN]; omega)))), m9_2.below (by (repeat' (first | (with_reducible assumption) | (with_reducible exact Below.refl _ _) | (with_reducible refine below_wov ?_ ?_ _) | (with_reducible refine below_drewN ?_ _) | (with_reducible refine Below.drew ?_) | (with_reducible refine Below.alloc ?_ ?_ _) | (with_reducible refine Below.setCell ?_ ?_ _) | (with_reducible exact Nat.le_refl _) | omega | (simp only [World.size_alloc, World.size_setCell, World.size_drew, Wov_size, World.heap_drewN]; omega)))), m9_3.below (by (repeat' (first | (with_reducible assumption) | (with_reducible exact Below.refl _ _) | (with_reducible refine below_wov ?_ ?_ _) | (with_reducible refine below_drewN ?_ _) | (with_reducible refine Below.drew ?_) | (with_reducible refine Below.alloc ?_ ?_ _) | (with_reducible refine Below.setCell ?_ ?_ _) | (with_reducible exact Nat.le_refl _) | omega | (simp only [World.size_alloc, World.size_setCell, World.size_drew, Wov_size, World.heap_drewN]; omega)))), m9_4.below (by (repeat' (first | (with_reducible assumption) | (with_reducible exact Below.refl _ _) | (with_reducible refine below_wov ?_ ?_ _) | (with_reducible refine below_drewN ?_ _) | (with_reducible refine Below.drew ?_) | (with_reducible refine Below.alloc ?_ ?_ _) | (with_reducible refine Below.setCell ?_ ?_ _) | (with_reducible exact Nat.le_refl _) | omega | (simp only [World.size_alloc, World.size_setCell, World.size_drew, Wov_size, World.heap_drewN]; omega)))), m9_5.below (by (repeat' (first | (with_reducible assumption) | (with_reducible exact Below.refl _ _) | (with_reducible refine below_wov ?_ ?_ _) | (with_reducible refine below_drewN ?_ _) | (with_reducible refine Below.drew ?_) | (with_reducible refine Below.alloc ?_ ?_ _) | (with_reducible refine Below.setCell ?_ ?_ _) | (with_reducible exact Nat.le_refl _) | omega | (simp only [World.size_alloc, World.size_setCell, World.size_drew, Wov_size, World.heap_drewN]; omega)))), m9_6.below (by (repeat' (first | (with_reducible assumption) | (with_reducible exact Below.refl _ _) | (with_reducible refine below_wov ?_ ?_ _) | (with_reducible refine below_drewN ?_ _) | (with_reducible refine Below.drew ?_) | (with_reducible refine Below.alloc ?_ ?_ _) | (with_reducible refine Below.setCell ?_ ?_ _) | (with_reducible exact Nat.le_refl _) | omega | (simp only [World.size_alloc, World.size_setCell, World.size_drew, Wov_size, World.heap_drewN]; omega)))), BoxZ.new (by rw [← hAj]; (try simp only [Wov_size]))⟩ ?_
                  rintro W10 ⟨hb10, m10_0, m10_1, m10_2, m10_3, m10_4, m10_5, m10_6, m10_7⟩
                  clear hb9 f9_0_lt f9_0_c0 f9_0_c1 f9_0_c2 f9_0_c3 f9_0_c4 f9_0_c5 f9_1_lt f9_1_c0 f9_1_c1 f9_1_c2 f9_1_c3 f9_1_c4 f9_1_c5 f9_2_lt f9_2_c0 f9_2_c1 f9_2_c2 f9_2_c3 f9_2_c4 f9_3_lt f9_3_c0 f9_3_c1 f9_3_c2 f9_3_c3 f9_3_c4 f9_3_c5 f9_4_lt f9_4_c0 f9_4_c1 f9_4_c2 f9_4_c3 f9_4_c4 f9_4_c5 f9_5_lt f9_5_c0 f9_5_c1 f9_5_c2 f9_5_c3 f9_5_c4 f9_5_c5 f9_6_lt f9_6_c0 f9_6_c1 f9_6_c2 f9_6_c3 f9_6_c4 f9_6_c5 m9_0 m9_1 m9_2 m9_3 m9_4 m9_5 m9_6 hs9
                  have hs10 := hb10.size
                  have f10_0_lt := m10_0.lt
                  have f10_0_c0 := m10_0.c0
                  have f10_0_c1 := m10_0.c1
                  have f10_0_c2 := m10_0.c2
                  have f10_0_c3 := m10_0.c3
                  have f10_0_c4 := m10_0.c4
                  have f10_0_c5 := m10_0.c5
                  have f10_1_lt := m10_1.lt
                  have f10_1_c0 := m10_1.c0
                  have f10_1_c1 := m10_1.c1
                  have f10_1_c2 := m10_1.c2
                  have f10_1_c3 := m10_1.c3
                  have f10_1_c4 := m10_1.c4
                  have f10_1_c5 := m10_1.c5
                  have f10_2_lt := m10_2.lt
                  have f10_2_c0 := m10_2.c0
                  have f10_2_c1 := m10_2.c1
                  have f10_2_c2 := m10_2.c2
                  have f10_2_c3 := m10_2.c3
                  have f10_2_c4 := m10_2.c4
                  have f10_3_lt := m10_3.lt
                  have f10_3_c0 := m10_3.c0
                  have f10_3_c1 := m10_3.c1
                  have f10_3_c2 := m10_3.c2
                  have f10_3_c3 := m10_3.c3
                  have f10_3_c4 := m10_3.c4
                  have f10_3_c5 := m10_3.c5
                  have f10_4_lt := m10_4.lt
                  have f10_4_c0 := m10_4.c0
                  have f10_4_c1 := m10_4.c1
                  have f10_4_c2 := m10_4.c2
                  have f10_4_c3 := m10_4.c3
                  have f10_4_c4 := m10_4.c4
                  have f10_4_c5 := m10_4.c5
                  have f10_5_lt := m10_5.lt
                  have f10_5_c0 := m10_5.c0
                  have f10_5_c1 := m10_5.c1
                  have f10_5_c2 := m10_5.c2
                  have f10_5_c3 := m10_5.c3
                  have f10_5_c4 := m10_5.c4
                  have f10_5_c5 := m10_5.c5
                  have f10_6_lt := m10_6.lt
                  have f10_6_c0 := m10_6.c0
                  have f10_6_c1 := m10_6.c1
                  have f10_6_c2 := m10_6.c2
                  have f10_6_c3 := m10_6.c3
                  have f10_6_c4 := m10_6.c4
                  have f10_6_c5 := m10_6.c5
                  have f10_7_lt := m10_7.lt
                  have f10_7_c0 := m10_7.c0
                  have f10_7_c1 := m10_7.c1
                  have f10_7_c2 := m10_7.c2
                  have f10_7_c3 := m10_7.c3
                  have f10_7_c4 := m10_7.c4
                  have f10_7_c5 := m10_7.c5
                  clear hAj
                  refine (LT.out _).mono ?_; rintro e w' ⟨rfl, qt, rfl⟩
                  go_wp2
                  all_goals
                    go_ret
                    exact gives_bool (by simp) (by (repeat' (first | (with_reducible assumption) | (with_reducible exact Below.refl _ _) | (with_reducible refine below_wov ?_ ?_ _) | (with_reducible refine below_drewN ?_ _) | (with_reducible refine Below.drew ?_) | (with_reducible refine Below.alloc ?_ ?_ _) | (with_reducible refine Below.setCell ?_ ?_ _) | (with_reducible exact Nat.le_refl _) | omega | (simp only [World.size_alloc, World.size_setCell, World.size_drew, Wov_size, World.heap_drewN]; omega))))
                · skip
                  have bj : (ej != 0) = true := by rw [bne_iff_ne]; exact hj0
                  go_wp2
                  all_goals
                    go_ret
                    exact gives_bool (by simp) (by (repeat' (first | (with_reducible assumption) | (with_reducible exact Below.refl _ _) | (with_reducible refine below_wov ?_ ?_ _) | (with_reducible refine below_drewN ?_ _) | (with_reducible refine Below.drew ?_) | (with_reducible refine Below.alloc ?_ ?_ _) | (with_reducible refine Below.setCell ?_ ?_ _) | (with_reducible exact Nat.le_refl _) | omega | (simp only [World.size_alloc, World.size_setCell, World.size_drew, Wov_size, World.heap_drewN]; omega))))
            · skip
              have bu0 : (eu == 0) = false := by rw [beq_eq_false_iff_ne]; exact hu0
              go_wp2_with (fail)
              refine calls_world (fun W => Below w.heap.size w W ∧ BoxZ W w.heap.size a ∧ BoxZ W (w.heap.size + 1) b ∧ BoxS W (w.heap.size + 2) s.lo s.ls s.hi s.hs s.op ∧ BoxZ W Ax rx ∧ BoxZ W Ay ry ∧ BoxZ W Av rv ∧ BoxZ W Au ru) ⟨by (repeat' (first | (with_reducible assumption) | (with_reducible exact Below.refl _ _) | (with_reducible refine below_wov ?_ ?_ _) | (with_reducible refine below_drewN ?_ _) | (with_reducible refine Below.drew ?_) | (with_reducible refine Below.alloc ?_ ?_ _) | (with_reducible refine Below.setCell ?_ ?_ _) | (with_reducible exact Nat.le_refl _) | omega | (simp only [World.size_alloc, World.size_setCell, World.size_drew, Wov_size, World.heap_drewN]; omega))), m7_0.below (by (repeat' (first | (with_reducible assumption) | (with_reducible exact Below.refl _ _) | (with_reducible refine below_wov ?_ ?_ _) | (with_reducible refine below_drewN ?_ _) | (with_reducible refine Below.drew ?_) | (with_reducible refine Below.alloc ?_ ?_ _) | (with_reducible refine Below.setCell ?_ ?_ _) | (with_reducible exact Nat.le_refl _) | omega | (simp only [World.size_alloc, World.size_setCell, World.size_drew, Wov_size, World.heap_drewN]; omega)))), m7_1.below (by (repeat' (first | (with_reducible assumption) | (with_reducible exact Below.refl _ _) | (with_reducible refine below_wov ?_ ?_ _) | (with_reducible refine below_drewN ?_ _) | (with_reducible refine Below.drew ?_) | (with_reducible refine Below.alloc ?_ ?_ _) | (with_reducible refine Below.setCell ?_ ?_ _) | (with_reducible exact Nat.le_refl _) | omega | (simp only [World.size_alloc, World.size_setCell, World.size_drew, Wov_size, World.heap_drewN]; omega)))), m7_2.below (by (repeat' (first | (with_reducible assumption) | (with_reducible exact Below.refl _ _) | (with_reducible refine below_wov ?_ ?_ _) | (with_reducible refine below_drewN ?_ _) | (with_reducible refine Below.drew ?_) | (with_reducible refine Below.alloc ?_ ?_ _) | (with_reducible refine Below.setCell ?_ ?_ _) | (with_reducible exact Nat.le_refl _) | omega | (simp only [World.size_alloc, World.size_setCell, World.size_drew, Wov_size, World.heap_drewN]; omega)))), m7_3.below (by (repeat' (first | (with_reducible assumption) | (with_reducible exact Below.refl _ _) | (with_reducible refine below_wov ?_ ?_ _) | (with_reducible refine below_drewN ?_ _) | (with_reducible refine Below.drew ?_) | (with_reducible refine Below.alloc ?_ ?_ _) | (with_reducible refine Below.setCell ?_ ?_ _) | (with_reducible exact Nat.le_refl _) | omega | (simp only [World.size_alloc, World.size_setCell, World.size_drew, Wov_size, World.heap_drewN]; omega)))), m7_4.below (by (repeat' (first | (with_reducible assumption) | (with_reducible exact Below.refl _ _) | (with_reducible refine below_wov ?_ ?_ _) | (with_reducible refine below_drewN ?_ _) | (with_reducible refine Below.drew ?_) | (with_reducible refine Below.alloc ?_ ?_ _) | (with_reducible refine Below.setCell ?_ ?_ _) | (with_reducible exact Nat.le_refl _) | omega | (simp only [World.size_alloc, World.size_setCell, World.size_drew, Wov_size, World.heap_drewN]; omega)))), m7_5.below (by (repeat' (first | (with_reducible assumption) | (with_reducible exact Below.refl _ _) | (with_reducible refine below_wov ?_ ?_ _) | (with_reducible refine below_drewN ?_ _) | (with_reducible refine Below.drew ?_) | (with_reducible refine Below.alloc ?_ ?_ _) | (with_reducible refine Below.setCell ?_ ?_ _) | (with_reducible exact Nat.le_refl _) | omega | (simp only [World.size_alloc, World.size_setCell, World.size_drew, Wov_size, World.heap_drewN]; omega)))), m7_6.below (by (repeat' (first | (with_reducible assumption) | (with_reducible exact Below.refl _ _) | (with_reducible refine below_wov ?_ ?_ _) | (with_reducible refine below_drewN ?_ _) | (with_reducible refine Below.drew ?_) | (with_reducible refine Below.alloc ?_ ?_ _) | (with_reducible refine Below.setCell ?_ ?_ _) | (with_reducible exact Nat.le_refl _) | omega | (simp only [World.size_alloc, World.size_setCell, World.size_drew, Wov_size, World.heap_drewN]; omega))))⟩ ?_
              rintro W8 ⟨hb8, m8_0, m8_1, m8_2, m8_3, m8_4, m8_5, m8_6⟩
              clear hb7 f7_0_lt f7_0_c0 f7_0_c1 f7_0_c2 f7_0_c3 f7_0_c4 f7_0_c5 f7_1_lt f7_1_c0 f7_1_c1 f7_1_c2 f7_1_c3 f7_1_c4 f7_1_c5 f7_2_lt f7_2_c0 f7_2_c1 f7_2_c2 f7_2_c3 f7_2_c4 f7_3_lt f7_3_c0 f7_3_c1 f7_3_c2 f7_3_c3 f7_3_c4 f7_3_c5 f7_4_lt f7_4_c0 f7_4_c1 f7_4_c2 f7_4_c3 f7_4_c4 f7_4_c5 f7_5_lt f7_5_c0 f7_5_c1 f7_5_c2 f7_5_c3 f7_5_c4 f7_5_c5 f7_6_lt f7_6_c0 f7_6_c1 f7_6_c2 f7_6_c3 f7_6_c4 f7_6_c5 m7_0 m7_1 m7_2 m7_3 m7_4 m7_5 m7_6 hs7
              have hs8 := hb8.size
              have f8_0_lt := m8_0.lt
              have f8_0_c0 := m8_0.c0
              have f8_0_c1 := m8_0.c1
              have f8_0_c2 := m8_0.c2
              have f8_0_c3 := m8_0.c3
              have f8_0_c4 := m8_0.c4
              have f8_0_c5 := m8_0.c5
              have f8_1_lt := m8_1.lt
              have f8_1_c0 := m8_1.c0
              have f8_1_c1 := m8_1.c1
              have f8_1_c2 := m8_1.c2
              have f8_1_c3 := m8_1.c3
              have f8_1_c4 := m8_1.c4
              have f8_1_c5 := m8_1.c5
              have f8_2_lt := m8_2.lt
              have f8_2_c0 := m8_2.c0
              have f8_2_c1 := m8_2.c1
              have f8_2_c2 := m8_2.c2
              have f8_2_c3 := m8_2.c3
              have f8_2_c4 := m8_2.c4
              have f8_3_lt := m8_3.lt
              have f8_3_c0 := m8_3.c0
              have f8_3_c1 := m8_3.c1
              have f8_3_c2 := m8_3.c2
              have f8_3_c3 := m8_3.c3
              have f8_3_c4 := m8_3.c4
              have f8_3_c5 := m8_3.c5
              have f8_4_lt := m8_4.lt
              have f8_4_c0 := m8_4.c0
              have f8_4_c1 := m8_4.c1
              have f8_4_c2 := m8_4.c2
              have f8_4_c3 := m8_4.c3
              have f8_4_c4 := m8_4.c4
              have f8_4_c5 := m8_4.c5
              have f8_5_lt := m8_5.lt
              have f8_5_c0 := m8_5.c0
              have f8_5_c1 := m8_5.c1
              have f8_5_c2 := m8_5.c2
              have f8_5_c3 := m8_5.c3
              have f8_5_c4 := m8_5.c4
              have f8_5_c5 := m8_5.c5
              have f8_6_lt := m8_6.lt
              have f8_6_c0 := m8_6.c0
              have f8_6_c1 := m8_6.c1
              have f8_6_c2 := m8_6.c2
              have f8_6_c3 := m8_6.c3
              have f8_6_c4 := m8_6.c4
              have f8_6_c5 := m8_6.c5
              refine (Cj.out _).mono ?_; rintro e w' ⟨rfl, qj, rfl⟩
              by_cases hm : m < q
              · skip
                have hm2 : decide (m < q) = true := decide_eq_true hm
                go_wp2
                all_goals
                  go_ret
                  exact gives_bool (by simp) (by (repeat' (first | (with_reducible assumption) | (with_reducible exact Below.refl _ _) | (with_reducible refine below_wov ?_ ?_ _) | (with_reducible refine below_drewN ?_ _) | (with_reducible refine Below.drew ?_) | (with_reducible refine Below.alloc ?_ ?_ _) | (with_reducible refine Below.setCell ?_ ?_ _) | (with_reducible exact Nat.le_refl _) | omega | (simp only [World.size_alloc, World.size_setCell, World.size_drew, Wov_size, World.heap_drewN]; omega))))
              · skip
                have hm2 : decide (m < q) = false := decide_eq_false hm
                obtain ⟨n6, l3⟩ := L3.out (by simp) (by omega)
                have b6 : (ej != 6) = true := by rw [bne_iff_ne]; exact n6
                by_cases hj0 : ej = 0
                · skip
                  subst hj0
                  have LT := Lib.hid (lies_true (l3 rfl))
                  unfold zoneV at LT
                  go_wp2_with (fail)
                  obtain ⟨Aj, hAj⟩ : ∃ A, W8.heap.size + qj.bl.size = A := ⟨_, rfl⟩
                  rw [hAj]
                  refine calls_world (fun W => Below w.heap.size w W ∧ BoxZ W w.heap.size a ∧ BoxZ W (w.heap.size + 1) b ∧ BoxS W (w.heap.size + 2) s.lo s.ls s.hi s.hs s.op ∧ BoxZ W Ax rx ∧ BoxZ W Ay ry ∧ BoxZ W Av rv ∧ BoxZ W Au ru ∧ BoxZ W Aj rj) ⟨by (repeat' (first | (with_reducible assumption) | (with_reducible exact Below.refl _ _) | (with_reducible refine below_wov ?_ ?_ _) | (with_reducible refine below_drewN ?_ _) | (with_reducible refine Below.drew ?_) | (with_reducible refine Below.alloc ?_ ?_ _) | (with_reducible refine Below.setCell ?_ ?_ _) | (with_reducible exact Nat.le_refl _) | omega | (simp only [World.size_alloc, World.size_setCell, World.size_drew, Wov_size, World.heap_drewN]; omega))), m8_0.below (by (repeat' (first | (with_reducible assumption) | (with_reducible exact Below.refl _ _) | (with_reducible refine below_wov ?_ ?_ _) | (with_reducible refine below_drewN ?_ _) | (with_reducible refine Below.drew ?_) | (with_reducible refine Below.alloc ?_ ?_ _) | (with_reducible refine Below.setCell ?_ ?_ _) | (with_reducible exact Nat.le_refl _) | omega | (simp only [World.size_alloc, World.size_setCell, World.size_drew, Wov_size, World.heap_drewN]; omega)))), m8_1.below (by (repeat' (first | (with_reducible assumption) | (with_reducible exact Below.refl _ _) | (with_reducible refine below_wov ?_ ?_ _) | (with_reducible refine below_drewN ?_ _) | (with_reducible refine Below.drew ?_) | (with_reducible refine Below.alloc ?_ ?_ _) | (with_reducible refine Below.setCell ?_ ?_ _) | (with_reducible exact Nat.le_refl _) | omega | (simp only [World.size_alloc, World.size_setCell, World.size_drew, Wov_size, World.heap_drewN]; omega)))), m8_2.below (by (repeat' (first | (with_reducible assumption) | (with_reducible exact Below.refl _ _) | (with_reducible refine below_wov ?_ ?_ _) | (with_reducible refine below_drewN ?_ _) | (with_reducible refine Below.drew ?_) | (with_reducible refine Below.alloc ?_ ?_ _) | (with_reducible refine Below.setCell ?_ ?_ _) | (with_reducible exact Nat.le_refl _) | omega | (simp only [World.size_alloc, World.size_setCell, World.size_drew, Wov_size, World.heap_drewN]; omega)))), m8_3.below (by (repeat' (first | (with_reducible assumption) | (with_reducible exact Below.refl _ _) | (with_reducible refine below_wov ?_ ?_ _) | (with_reducible refine below_drewN ?_ _) | (with_reducible refine Below.drew ?_) | (with_reducible refine Below.alloc ?_ ?_ _) | (with_reducible refine Below.setCell ?_ ?_ _) | (with_reducible exact Nat.le_refl _) | omega | (simp only [World.size_alloc, World.size_setCell, World.size_drew, Wov_size, World.heap_drewN]; omega)))), m8_4.below (by (repeat' (first | (with_reducible assumption) | (with_reducible exact Below.refl _ _) | (with_reducible refine below_wov ?_ ?_ _) | (with_reducible refine below_drewN ?_ _) | (with_reducible refine Below.drew ?_) | (with_reducible refine Below.alloc ?_ ?_ _) | (with_reducible refine Below.setCell ?_ ?_ _) | (with_reducible exact Nat.le_refl _) | omega | (simp only [World.size_alloc, World.size_setCell, World.size_drew, Wov_size, World.heap_drewN]; omega)))), m8_5.below (by (repeat' (first | (with_reducible assumption) | (with_reducible exact Below.refl _ _) | (with_reducible refine below_wov ?_ ?_ _) | (with_reducible refine below_drewN ?_ _) | (with_reducible refine Below.drew ?_) | (with_reducible refine Below.alloc ?_ ?_ _) | (with_reducible refine Below.setCell ?_ ?_ _) | (with_reducible exact Nat.le_refl _) | omega | (simp only [World.size_alloc, World.size_setCell, World.size_drew, Wov_size, World.heap_drewN]; omega)))), m8_6.below (by (repeat' (first | (with_reducible assumption) | (with_reducible exact Below.refl _ _) | (with_reducible refine below_wov ?_ ?_ _) | (with_reducible refine below_drewN ?_ _) | (with_reducible refine Below.drew ?_) | (with_reducible refine Below.alloc ?_ ?_ _) | (with_reducible refine Below.setCell ?_ ?_ _) | (with_reducible exact Nat.le_refl _) | omega | (simp only [World.size_alloc, World.size_setCell, World.size_drew, Wov_size, World.heap_drewN]; omega)))), BoxZ.new (by rw [← hAj]; (try simp only [Wov_size]))⟩ ?_
                  rintro W9 ⟨hb9, m9_0, m9_1, m9_2, m9_3, m9_4, m9_5, m9_6, m9_7⟩
                  clear hb8 f8_0_lt f8_0_c0 f8_0_c1 f8_0_c2 f8_0_c3 f8_0_c4 f8_0_c5 f8_1_lt f8_1_c0 f8_1_c1 f8_1_c2 f8_1_c3 f8_1_c4 f8_1_c5 f8_2_lt f8_2_c0 f8_2_c1 f8_2_c2 f8_2_c3 f8_2_c4 f8_3_lt f8_3_c0 f8_3_c1 f8_3_c2 f8_3_c3 f8_3_c4 f8_3_c5 f8_4_lt f8_4_c0 f8_4_c1 f8_4_c2 f8_4_c3 f8_4_c4 f8_4_c5 f8_5_lt f8_5_c0 f8_5_c1 f8_5_c2 f8_5_c3 f8_5_c4 f8_5_c5 f8_6_lt f8_6_c0 f8_6_c1 f8_6_c2 f8_6_c3 f8_6_c4 f8_6_c5 m8_0 m8_1 m8_2 m8_3 m8_4 m8_5 m8_6 hs8
                  have hs9 := hb9.size
                  have f9_0_lt := m9_0.lt
                  have f9_0_c0 := m9_0.c0
                  have f9_0_c1 := m9_0.c1
                  have f9_0_c2 := m9_0.c2
                  have f9_0_c3 := m9_0.c3
                  have f9_0_c4 := m9_0.c4
                  have f9_0_c5 := m9_0.c5
                  have f9_1_lt := m9_1.lt
                  have f9_1_c0 := m9_1.c0
                  have f9_1_c1 := m9_1.c1
                  have f9_1_c2 := m9_1.c2
                  have f9_1_c3 := m9_1.c3
                  have f9_1_c4 := m9_1.c4
                  have f9_1_c5 := m9_1.c5
                  have f9_2_lt := m9_2.lt
                  have f9_2_c0 := m9_2.c0
                  have f9_2_c1 := m9_2.c1
                  have f9_2_c2 := m9_2.c2
                  have f9_2_c3 := m9_2.c3
                  have f9_2_c4 := m9_2.c4
                  have f9_3_lt := m9_3.lt
                  have f9_3_c0 := m9_3.c0
                  have f9_3_c1 := m9_3.c1
                  have f9_3_c2 := m9_3.c2
                  have f9_3_c3 := m9_3.c3
                  have f9_3_c4 := m9_3.c4
                  have f9_3_c5 := m9_3.c5
                  have f9_4_lt := m9_4.lt
                  have f9_4_c0 := m9_4.c0
                  have f9_4_c1 := m9_4.c1
                  have f9_4_c2 := m9_4.c2
                  have f9_4_c3 := m9_4.c3
                  have f9_4_c4 := m9_4.c4
                  have f9_4_c5 := m9_4.c5
                  have f9_5_lt := m9_5.lt
                  have f9_5_c0 := m9_5.c0
                  have f9_5_c1 := m9_5.c1
                  have f9_5_c2 := m9_5.c2
                  have f9_5_c3 := m9_5.c3
                  have f9_5_c4 := m9_5.c4
                  have f9_5_c5 := m9_5.c5
                  have f9_6_lt := m9_6.lt
                  have f9_6_c0 := m9_6.c0
                  have f9_6_c1 := m9_6.c1
                  have f9_6_c2 := m9_6.c2
                  have f9_6_c3 := m9_6.c3
                  have f9_6_c4 := m9_6.c4
                  have f9_6_c5 := m9_6.c5
                  have f9_7_lt := m9_7.lt
                  have f9_7_c0 := m9_7.c0
                  have f9_7_c1 := m9_7.c1
                  have f9_7_c2 := m9_7.c2
                  have f9_7_c3 := m9_7.c3
                  have f9_7_c4 := m9_7.c4
                  have f9_7_c5 := m9_7.c5
                  clear hAj
                  refine (LT.out _).mono ?_; rintro e w' ⟨rfl, qt, rfl⟩
                  go_wp2
                  all_goals
                    go_ret
                    exact gives_bool (by simp) (by (repeat' (first | (with_reducible assumption) | (with_reducible exact Below.refl _ _) | (with_reducible refine below_wov ?_ ?_ _) | (with_reducible refine below_drewN ?_ _) | (with_reducible refine Below.drew ?_) | (with_reducible refine Below.alloc ?_ ?_ _) | (with_reducible refine Below.setCell ?_ ?_ _) | (with_reducible exact Nat.le_refl _) | omega | (simp only [World.size_alloc, World.size_setCell, World.size_drew, Wov_size, World.heap_drewN]; omega))))
                · skip
                  have bj : (ej != 0) = true := by rw [bne_iff_ne]; exact hj0
                  go_wp2
                  all_goals
                    go_ret
                    exact gives_bool (by simp) (by (repeat' (first | (with_reducible assumption) | (with_reducible exact Below.refl _ _) | (with_reducible refine below_wov ?_ ?_ _) | (with_reducible refine below_drewN ?_ _) | (with_reducible refine Below.drew ?_) | (with_reducible refine Below.alloc ?_ ?_ _) | (with_reducible refine Below.setCell ?_ ?_ _) | (with_reducible exact Nat.le_refl _) | omega | (simp only [World.size_alloc, World.size_setCell, World.size_drew, Wov_size, World.heap_drewN]; omega))))
          · skip
            have bv0 : (ev == 0) = false := by rw [beq_eq_false_iff_ne]; exact hv0
            go_wp2_with (fail)
            refine calls_world (fun W => Below w.heap.size w W ∧ BoxZ W w.heap.size a ∧ BoxZ W (w.heap.size + 1) b ∧ BoxS W (w.heap.size + 2) s.lo s.ls s.hi s.hs s.op ∧ BoxZ W Ax rx ∧ BoxZ W Ay ry ∧ BoxZ W Av rv ∧ BoxZ W Au ru) ⟨by (repeat' (first | (with_reducible assumption) | (with_reducible exact Below.refl _ _) | (with_reducible refine below_wov ?_ ?_ _) | (with_reducible refine below_drewN ?_ _) | (with_reducible refine Below.drew ?_) | (with_reducible refine Below.alloc ?_ ?_ _) | (with_reducible refine Below.setCell ?_ ?_ _) | (with_reducible exact Nat.le_refl _) | omega | (simp only [World.size_alloc, World.size_setCell, World.size_drew, Wov_size, World.heap_drewN]; omega))), m7_0.below (by (repeat' (first | (with_reducible assumption) | (with_reducible exact Below.refl _ _) | (with_reducible refine below_wov ?_ ?_ _) | (with_reducible refine below_drewN ?_ _) | (with_reducible refine Below.drew ?_) | (with_reducible refine Below.alloc ?_ ?_ _) | (with_reducible refine Below.setCell ?_ ?_ _) | (with_reducible exact Nat.le_refl _) | omega | (simp only [World.size_alloc, World.size_setCell, World.size_drew, Wov_size, World.heap_drewN]; omega)))), m7_1.below (by (repeat' (first | (with_reducible assumption) | (with_reducible exact Below.refl _ _) | (with_reducible refine below_wov ?_ ?_ _) | (with_reducible refine below_drewN ?_ _) | (with_reducible refine Below.drew ?_) | (with_reducible refine Below.alloc ?_ ?_ _) | (with_reducible refine Below.setCell ?_ ?_ _) | (with_reducible exact Nat.le_refl _) | omega | (simp only [World.size_alloc, World.size_setCell, World.size_drew, Wov_size, World.heap_drewN]; omega)))), m7_2.below (by (repeat' (first | (with_reducible assumption) | (with_reducible exact Below.refl _ _) | (with_reducible refine below_wov ?_ ?_ _) | (with_reducible refine below_drewN ?_ _) | (with_reducible refine Below.drew ?_) | (with_reducible refine Below.alloc ?_ ?_ _) | (with_reducible refine Below.setCell ?_ ?_ _) | (with_reducible exact Nat.le_refl _) | omega | (simp only [World.size_alloc, World.size_setCell, World.size_drew, Wov_size, World.heap_drewN]; omega)))), m7_3.below (by (repeat' (first | (with_reducible assumption) | (with_reducible exact Below.refl _ _) | (with_reducible refine below_wov ?_ ?_ _) | (with_reducible refine below_drewN ?_ _) | (with_reducible refine Below.drew ?_) | (with_reducible refine Below.alloc ?_ ?_ _) | (with_reducible refine Below.setCell ?_ ?_ _) | (with_reducible exact Nat.le_refl _) | omega | (simp only [World.size_alloc, World.size_setCell, World.size_drew, Wov_size, World.heap_drewN]; omega)))), m7_4.below (by (repeat' (first | (with_reducible assumption) | (with_reducible exact Below.refl _ _) | (with_reducible refine below_wov ?_ ?_ _) | (with_reducible refine below_drewN ?_ _) | (with_reducible refine Below.drew ?_) | (with_reducible refine Below.alloc ?_ ?_ _) | (with_reducible refine Below.setCell ?_ ?_ _) | (with_reducible exact Nat.le_refl _) | omega | (simp only [World.size_alloc, World.size_setCell, World.size_drew, Wov_size, World.heap_drewN]; omega)))), m7_5.below (by (repeat' (first | (with_reducible assumption) | (with_reducible exact Below.refl _ _) | (with_reducible refine below_wov ?_ ?_ _) | (with_reducible refine below_drewN ?_ _) | (with_reducible refine Below.drew ?_) | (with_reducible refine Below.alloc ?_ ?_ _) | (with_reducible refine Below.setCell ?_ ?_ _) | (with_reducible exact Nat.le_refl _) | omega | (simp only [World.size_alloc, World.size_setCell, World.size_drew, Wov_size, World.heap_drewN]; omega)))), m7_6.below (by (repeat' (first | (with_reducible assumption) | (with_reducible exact Below.refl _ _) | (with_reducible refine below_wov ?_ ?_ _) | (with_reducible refine below_drewN ?_ _) | (with_reducible refine Below.drew ?_) | (with_reducible refine Below.alloc ?_ ?_ _) | (with_reducible refine Below.setCell ?_ ?_ _) | (with_reducible exact Nat.le_refl _) | omega | (simp only [World.size_alloc, World.size_setCell, World.size_drew, Wov_size, World.heap_drewN]; omega))))⟩ ?_
            rintro W8 ⟨hb8, m8_0, m8_1, m8_2, m8_3, m8_4, m8_5, m8_6⟩
            clear hb7 f7_0_lt f7_0_c0 f7_0_c1 f7_0_c2 f7_0_c3 f7_0_c4 f7_0_c5 f7_1_lt f7_1_c0 f7_1_c1 f7_1_c2 f7_1_c3 f7_1_c4 f7_1_c5 f7_2_lt f7_2_c0 f7_2_c1 f7_2_c2 f7_2_c3 f7_2_c4 f7_3_lt f7_3_c0 f7_3_c1 f7_3_c2 f7_3_c3 f7_3_c4 f7_3_c5 f7_4_lt f7_4_c0 f7_4_c1 f7_4_c2 f7_4_c3 f7_4_c4 f7_4_c5 f7_5_lt f7_5_c0 f7_5_c1 f7_5_c2 f7_5_c3 f7_5_c4 f7_5_c5 f7_6_lt f7_6_c0 f7_6_c1 f7_6_c2 f7_6_c3 f7_6_c4 f7_6_c5 m7_0 m7_1 m7_2 m7_3 m7_4 m7_5 m7_6 hs7
            have hs8 := hb8.size
            have f8_0_lt := m8_0.lt
            have f8_0_c0 := m8_0.c0
            have f8_0_c1 := m8_0.c1
            have f8_0_c2 := m8_0.c2
            have f8_0_c3 := m8_0.c3
            have f8_0_c4 := m8_0.c4
            have f8_0_c5 := m8_0.c5
            have f8_1_lt := m8_1.lt
            have f8_1_c0 := m8_1.c0
            have f8_1_c1 := m8_1.c1
            have f8_1_c2 := m8_1.c2
            have f8_1_c3 := m8_1.c3
            have f8_1_c4 := m8_1.c4
            have f8_1_c5 := m8_1.c5
            have f8_2_lt := m8_2.lt
            have f8_2_c0 := m8_2.c0
            have f8_2_c1 := m8_2.c1
            have f8_2_c2 := m8_2.c2
            have f8_2_c3 := m8_2.c3
            have f8_2_c4 := m8_2.c4
            have f8_3_lt := m8_3.lt
            have f8_3_c0 := m8_3.c0
            have f8_3_c1 := m8_3.c1
            have f8_3_c2 := m8_3.c2
            have f8_3_c3 := m8_3.c3
            have f8_3_c4 := m8_3.c4
            have f8_3_c5 := m8_3.c5
            have f8_4_lt := m8_4.lt
            have f8_4_c0 := m8_4.c0
            have f8_4_c1 := m8_4.c1
            have f8_4_c2 := m8_4.c2
            have f8_4_c3 := m8_4.c3
            have f8_4_c4 := m8_4.c4
            have f8_4_c5 := m8_4.c5
            have f8_5_lt := m8_5.lt
            have f8_5_c0 := m8_5.c0
            have f8_5_c1 := m8_5.c1
            have f8_5_c2 := m8_5.c2
            have f8_5_c3 := m8_5.c3
            have f8_5_c4 := m8_5.c4
            have f8_5_c5 := m8_5.c5
            have f8_6_lt := m8_6.lt
            have f8_6_c0 := m8_6.c0
            have f8_6_c1 := m8_6.c1
            have f8_6_c2 := m8_6.c2
            have f8_6_c3 := m8_6.c3
            have f8_6_c4 := m8_6.c4
            have f8_6_c5 := m8_6.c5
            refine (Cj.out _).mono ?_; rintro e w' ⟨rfl, qj, rfl⟩
            by_cases hm : m < q
            · skip
              have hm2 : decide (m < q) = true := decide_eq_true hm
              go_wp2
              all_goals
                go_ret
                exact gives_bool (by simp) (by (repeat' (first | (with_reducible assumption) | (with_reducible exact Below.refl _ _) | (with_reducible refine below_wov ?_ ?_ _) | (with_reducible refine below_drewN ?_ _) | (with_reducible refine Below.drew ?_) | (with_reducible refine Below.alloc ?_ ?_ _) | (with_reducible refine Below.setCell ?_ ?_ _) | (with_reducible exact Nat.le_refl _) | omega | (simp only [World.size_alloc, World.size_setCell, World.size_drew, Wov_size, World.heap_drewN]; omega))))
            · skip
              have hm2 : decide (m < q) = false := decide_eq_false hm
              obtain ⟨n6, l3⟩ := L3.out (by simp) (by omega)
              have b6 : (ej != 6) = true := by rw [bne_iff_ne]; exact n6
              by_cases hj0 : ej = 0
              · skip
                subst hj0
                have LT := Lib.hid (lies_true (l3 rfl))
                unfold zoneV at LT
                go_wp2_with (fail)
                obtain ⟨Aj, hAj⟩ : ∃ A, W8.heap.size + qj.bl.size = A := ⟨_, rfl⟩
                rw [hAj]
                refine calls_world (fun W => Below w.heap.size w W ∧ BoxZ W w.heap.size a ∧ BoxZ W (w.heap.size + 1) b ∧ BoxS W (w.heap.size + 2) s.lo s.ls s.hi s.hs s.op ∧ BoxZ W Ax rx ∧ BoxZ W Ay ry ∧ BoxZ W Av rv ∧ BoxZ W Au ru ∧ BoxZ W Aj rj) ⟨by (repeat' (first | (with_reducible assumption) | (with_reducible exact Below.refl _ _) | (with_reducible refine below_wov ?_ ?_ _) | (with_reducible refine below_drewN ?_ _) | (with_reducible refine Below.drew ?_) | (with_reducible refine Below.alloc ?_ ?_ _) | (with_reducible refine Below.setCell ?_ ?_ _) | (with_reducible exact Nat.le_refl _) | omega | (simp only [World.size_alloc, World.size_setCell, World.size_drew, Wov_size, World.heap_drewN]; omega))), m8_0.below (by (repeat' (first | (with_reducible assumption) | (with_reducible exact Below.refl _ _) | (with_reducible refine below_wov ?_ ?_ _) | (with_reducible refine below_drewN ?_ _) | (with_reducible refine Below.drew ?_) | (with_reducible refine Below.alloc ?_ ?_ _) | (with_reducible refine Below.setCell ?_ ?_ _) | (with_reducible exact Nat.le_refl _) | omega | (simp only [World.size_alloc, World.size_setCell, World.size_drew, Wov_size, World.heap_drewN]; omega)))), m8_1.below (by (repeat' (first | (with_reducible assumption) | (with_reducible exact Below.refl _ _) | (with_reducible refine below_wov ?_ ?_ _) | (with_reducible refine below_drewN ?_ _) | (with_reducible refine Below.drew ?_) | (with_reducible refine Below.alloc ?_ ?_ _) | (with_reducible refine Below.setCell ?_ ?_ _) | (with_reducible exact Nat.le_refl _) | omega | (simp only [World.size_alloc, World.size_setCell, World.size_drew, Wov_size, World.heap_drewN]; omega)))), m8_2.below (by (repeat' (first | (with_reducible assumption) | (with_reducible exact Below.refl _ _) | (with_reducible refine below_wov ?_ ?_ _) | (with_reducible refine below_drewN ?_ _) | (with_reducible refine Below.drew ?_) | (with_reducible refine Below.alloc ?_ ?_ _) | (with_reducible refine Below.setCell ?_ ?_ _) | (with_reducible exact Nat.le_refl _) | omega | (simp only [World.size_alloc, World.size_setCell, World.size_drew, Wov_size, World.heap_drewN]; omega)))), m8_3.below (by (repeat' (first | (with_reducible assumption) | (with_reducible exact Below.refl _ _) | (with_reducible refine below_wov ?_ ?_ _) | (with_reducible refine below_drewN ?_ _) | (with_reducible refine Below.drew ?_) | (with_reducible refine Below.alloc ?_ ?_ _) | (with_reducible refine Below.setCell ?_ ?_ _) | (with_reducible exact Nat.le_refl _) | omega | (simp only [World.size_alloc, World.size_setCell, World.size_drew, Wov_size, World.heap_drewN]; omega)))), m8_4.below (by (repeat' (first | (with_reducible assumption) | (with_reducible exact Below.refl _ _) | (with_reducible refine below_wov ?_ ?_ _) | (with_reducible refine below_drewN ?_ _) | (with_reducible refine Below.drew ?_) | (with_reducible refine Below.alloc ?_ ?_ _) | (with_reducible refine Below.setCell ?_ ?_ _) | (with_reducible exact Nat.le_refl _) | omega | (simp only [World.size_alloc, World.size_setCell, World.size_drew, Wov_size, World.heap_drewN]; omega)))), m8_5.below (by (repeat' (first | (with_reducible assumption) | (with_reducible exact Below.refl _ _) | (with_reducible refine below_wov ?_ ?_ _) | (with_reducible refine below_drewN ?_ _) | (with_reducible refine Below.drew ?_) | (with_reducible refine Below.alloc ?_ ?_ _) | (with_reducible refine Below.setCell ?_ ?_ _) | (with_reducible exact Nat.le_refl _) | omega | (simp only [World.size_alloc, World.size_setCell, World.size_drew, Wov_size, World.heap_drewN]; omega)))), m8_6.below (by (repeat' (first | (with_reducible assumption) | (with_reducible exact Below.refl _ _) | (with_reducible refine below_wov ?_ ?_ _) | (with_reducible refine below_drewN ?_ _) | (with_reducible refine Below.drew ?_) | (with_reducible refine Below.alloc ?_ ?_ _) | (with_reducible refine Below.setCell ?_ ?_ _) | (with_reducible exact Nat.le_refl _) | omega | (simp only [World.size_alloc, World.size_setCell, World.size_drew, Wov_size, World.heap_drewN]; omega)))), BoxZ.new (by rw [← hAj]; (try simp only [Wov_size]))⟩ ?_
                rintro W9 ⟨hb9, m9_0, m9_1, m9_2, m9_3, m9_4, m9_5, m9_6, m9_7⟩
                clear hb8 f8_0_lt f8_0_c0 f8_0_c1 f8_0_c2 f8_0_c3 f8_0_c4 f8_0_c5 f8_1_lt f8_1_c0 f8_1_c1 f8_1_c2 f8_1_c3 f8_1_c4 f8_1_c5 f8_2_lt f8_2_c0 f8_2_c1 f8_2_c2 f8_2_c3 f8_2_c4 f8_3_lt f8_3_c0 f8_3_c1 f8_3_c2 f8_3_c3 f8_3_c4 f8_3_c5 f8_4_lt f8_4_c0 f8_4_c1 f8_4_c2 f8_4_c3 f8_4_c4 f8_4_c5 f8_5_lt f8_5_c0 f8_5_c1 f8_5_c2 f8_5_c3 f8_5_c4 f8_5_c5 f8_6_lt f8_6_c0 f8_6_c1 f8_6_c2 f8_6_c3 f8_6_c4 f8_6_c5 m8_0 m8_1 m8_2 m8_3 m8_4 m8_5 m8_6 hs8
                have hs9 := hb9.size
                have f9_0_lt := m9_0.lt
                have f9_0_c0 := m9_0.c0
                have f9_0_c1 := m9_0.c1
                have f9_0_c2 := m9_0.c2
                have f9_0_c3 := m9_0.c3
                have f9_0_c4 := m9_0.c4
                have f9_0_c5 := m9_0.c5
                have f9_1_lt := m9_1.lt
                have f9_1_c0 := m9_1.c0
                have f9_1_c1 := m9_1.c1
                have f9_1_c2 := m9_1.c2
                have f9_1_c3 := m9_1.c3
                have f9_1_c4 := m9_1.c4
                have f9_1_c5 := m9_1.c5
                have f9_2_lt := m9_2.lt
                have f9_2_c0 := m9_2.c0
                have f9_2_c1 := m9_2.c1
                have f9_2_c2 := m9_2.c2
                have f9_2_c3 := m9_2.c3
                have f9_2_c4 := m9_2.c4
                have f9_3_lt := m9_3.lt
                have f9_3_c0 := m9_3.c0
                have f9_3_c1 := m9_3.c1
                have f9_3_c2 := m9_3.c2
                have f9_3_c3 := m9_3.c3
                have f9_3_c4 := m9_3.c4
                have f9_3_c5 := m9_3.c5
                have f9_4_lt := m9_4.lt
                have f9_4_c0 := m9_4.c0
                have f9_4_c1 := m9_4.c1
                have f9_4_c2 := m9_4.c2
                have f9_4_c3 := m9_4.c3
                have f9_4_c4 := m9_4.c4
                have f9_4_c5 := m9_4.c5
                have f9_5_lt := m9_5.lt
                have f9_5_c0 := m9_5.c0
                have f9_5_c1 := m9_5.c1
                have f9_5_c2 := m9_5.c2
                have f9_5_c3 := m9_5.c3
                have f9_5_c4 := m9_5.c4
                have f9_5_c5 := m9_5.c5
                have f9_6_lt := m9_6.lt
                have f9_6_c0 := m9_6.c0
                have f9_6_c1 := m9_6.c1
                have f9_6_c2 := m9_6.c2
                have f9_6_c3 := m9_6.c3
                have f9_6_c4 := m9_6.c4
                have f9_6_c5 := m9_6.c5
                have f9_7_lt := m9_7.lt
                have f9_7_c0 := m9_7.c0
                have f9_7_c1 := m9_7.c1
                have f9_7_c2 := m9_7.c2
                have f9_7_c3 := m9_7.c3
                have f9_7_c4 := m9_7.c4
                have f9_7_c5 := m9_7.c5
                clear hAj
                refine (LT.out _).mono ?_; rintro e w' ⟨rfl, qt, rfl⟩
                go_wp2
                all_goals
                  go_ret
                  exact gives_bool (by simp) (by (repeat' (first | (with_reducible assumption) | (with_reducible exact Below.refl _ _) | (with_reducible refine below_wov ?_ ?_ _) | (with_reducible refine below_drewN ?_ _) | (with_reducible refine Below.drew ?_) | (with_reducible refine Below.alloc ?_ ?_ _) | (with_reducible refine Below.setCell ?_ ?_ _) | (with_reducible exact Nat.le_refl _) | omega | (simp only [World.size_alloc, World.size_setCell, World.size_drew, Wov_size, World.heap_drewN]; omega))))
              · skip
                have bj : (ej != 0) = true := by rw [bne_iff_ne]; exact hj0
                go_wp2
                all_goals
                  go_ret
                  exact gives_bool (by simp) (by (repeat' (first | (with_reducible assumption) | (with_reducible exact Below.refl _ _) | (with_reducible refine below_wov ?_ ?_ _) | (with_reducible refine below_drewN ?_ _) | (with_reducible refine Below.drew ?_) | (with_reducible refine Below.alloc ?_ ?_ _) | (with_reducible refine Below.setCell ?_ ?_ _) | (with_reducible exact Nat.le_refl _) | omega | (simp only [World.size_alloc, World.size_setCell, World.size_drew, Wov_size, World.heap_drewN]; omega))))
        · skip
          have by0 : (ey == 0) = false := by rw [beq_eq_false_iff_ne]; exact hy0
          by_cases hv0 : ev = 0
          · skip
            subst hv0
            obtain ⟨u6, u0⟩ := L2.out (by simp) (by simp) (by simp)
            have bu6 : (eu == 6) = false := by rw [beq_eq_false_iff_ne]; exact u6
            by_cases hu0 : eu = 0
            · skip
              subst hu0
              have LU := Lib.hid (lies_true (u0 rfl))
              unfold zoneV at LU
              go_wp2_with (fail)
              obtain ⟨Au, hAu⟩ : ∃ A, W6.heap.size + qu.bl.size = A := ⟨_, rfl⟩
              rw [hAu]
              refine calls_world (fun W => Below w.heap.size w W ∧ BoxZ W w.heap.size a ∧ BoxZ W (w.heap.size + 1) b ∧ BoxS W (w.heap.size + 2) s.lo s.ls s.hi s.hs s.op ∧ BoxZ W Ax rx ∧ BoxZ W Ay ry ∧ BoxZ W Av rv ∧ BoxZ W Au ru) ⟨by (repeat' (first | (with_reducible assumption) | (with_reducible exact Below.refl _ _) | (with_reducible refine below_wov ?_ ?_ _) | (with_reducible refine below_drewN ?_ _) | (with_reducible refine Below.drew ?_) | (with_reducible refine Below.alloc ?_ ?_ _) | (with_reducible refine Below.setCell ?_ ?_ _) | (with_reducible exact Nat.le_refl _) | omega | (simp only [World.size_alloc, World.size_setCell, World.size_drew, Wov_size, World.heap_drewN]; omega))), m6_0.below (by (repeat' (first | (with_reducible assumption) | (with_reducible exact Below.refl _ _) | (with_reducible refine below_wov ?_ ?_ _) | (with_reducible refine below_drewN ?_ _) | (with_reducible refine Below.drew ?_) | (with_reducible refine Below.alloc ?_ ?_ _) | (with_reducible refine Below.setCell ?_ ?_ _) | (with_reducible exact Nat.le_refl _) | omega | (simp only [World.size_alloc, World.size_setCell, World.size_drew, Wov_size, World.heap_drewN]; omega)))), m6_1.below (by (repeat' (first | (with_reducible assumption) | (with_reducible exact Below.refl _ _) | (with_reducible refine below_wov ?_ ?_ _) | (with_reducible refine below_drewN ?_ _) | (with_reducible refine Below.drew ?_) | (with_reducible refine Below.alloc ?_ ?_ _) | (with_reducible refine Below.setCell ?_ ?_ _) | (with_reducible exact Nat.le_refl _) | omega | (simp only [World.size_alloc, World.size_setCell, World.size_drew, Wov_size, World.heap_drewN]; omega)))), m6_2.below (by (repeat' (first | (with_reducible assumption) | (with_reducible exact Below.refl _ _) | (with_reducible refine below_wov ?_ ?_ _) | (with_reducible refine below_drewN ?_ _) | (with_reducible refine Below.drew ?_) | (with_reducible refine Below.alloc ?_ ?_ _) | (with_reducible refine Below.setCell ?_ ?_ _) | (with_reducible exact Nat.le_refl _) | omega | (simp only [World.size_alloc, World.size_setCell, World.size_drew, Wov_size, World.heap_drewN]; omega)))), m6_3.below (by (repeat' (first | (with_reducible assumption) | (with_reducible exact Below.refl _ _) | (with_reducible refine below_wov ?_ ?_ _) | (with_reducible refine below_drewN ?_ _) | (with_reducible refine Below.drew ?_) | (with_reducible refine Below.alloc ?_ ?_ _) | (with_reducible refine Below.setCell ?_ ?_ _) | (with_reducible exact Nat.le_refl _) | omega | (simp only [World.size_alloc, World.size_setCell, World.size_drew, Wov_size, World.heap_drewN]; omega)))), m6_4.below (by (repeat' (first | (with_reducible assumption) | (with_reducible exact Below.refl _ _) | (with_reducible refine below_wov ?_ ?_ _) | (with_reducible refine below_drewN ?_ _) | (with_reducible refine Below.drew ?_) | (with_reducible refine Below.alloc ?_ ?_ _) | (with_reducible refine Below.setCell ?_ ?_ _) | (with_reducible exact Nat.le_refl _) | omega | (simp only [World.size_alloc, World.size_setCell, World.size_drew, Wov_size, World.heap_drewN]; omega)))), m6_5.below (by (repeat' (first | (with_reducible assumption) | (with_reducible exact Below.refl _ _) | (with_reducible refine below_wov ?_ ?_ _) | (with_reducible refine below_drewN ?_ _) | (with_reducible refine Below.drew ?_) | (with_reducible refine Below.alloc ?_ ?_ _) | (with_reducible refine Below.setCell ?_ ?_ _) | (with_reducible exact Nat.le_refl _) | omega | (simp only [World.size_alloc, World.size_setCell, World.size_drew, Wov_size, World.heap_drewN]; omega)))), BoxZ.new (by rw [← hAu]; (try simp only [Wov_size]))⟩ ?_
              rintro W7 ⟨hb7, m7_0, m7_1, m7_2, m7_3, m7_4, m7_5, m7_6⟩
              clear hb6 f6_0_lt f6_0_c0 f6_0_c1 f6_0_c2 f6_0_c3 f6_0_c4 f6_0_c5 f6_1_lt f6_1_c0 f6_1_c1 f6_1_c2 f6_1_c3 f6_1_c4 f6_1_c5 f6_2_lt f6_2_c0 f6_2_c1 f6_2_c2 f6_2_c3 f6_2_c4 f6_3_lt f6_3_c0 f6_3_c1 f6_3_c2 f6_3_c3 f6_3_c4 f6_3_c5 f6_4_lt f6_4_c0 f6_4_c1 f6_4_c2 f6_4_c3 f6_4_c4 f6_4_c5 f6_5_lt f6_5_c0 f6_5_c1 f6_5_c2 f6_5_c3 f6_5_c4 f6_5_c5 m6_0 m6_1 m6_2 m6_3 m6_4 m6_5 hs6
              have hs7 := hb7.size
              have f7_0_lt := m7_0.lt
              have f7_0_c0 := m7_0.c0
              have f7_0_c1 := m7_0.c1
              have f7_0_c2 := m7_0.c2
              have f7_0_c3 := m7_0.c3
              have f7_0_c4 := m7_0.c4
              have f7_0_c5 := m7_0.c5
              have f7_1_lt := m7_1.lt
              have f7_1_c0 := m7_1.c0
              have f7_1_c1 := m7_1.c1
              have f7_1_c2 := m7_1.c2
              have f7_1_c3 := m7_1.c3
              have f7_1_c4 := m7_1.c4
              have f7_1_c5 := m7_1.c5
              have f7_2_lt := m7_2.lt
              have f7_2_c0 := m7_2.c0
              have f7_2_c1 := m7_2.c1
              have f7_2_c2 := m7_2.c2
              have f7_2_c3 := m7_2.c3
              have f7_2_c4 := m7_2.c4
              have f7_3_lt := m7_3.lt
              have f7_3_c0 := m7_3.c0
              have f7_3_c1 := m7_3.c1
              have f7_3_c2 := m7_3.c2
              have f7_3_c3 := m7_3.c3
              have f7_3_c4 := m7_3.c4
              have f7_3_c5 := m7_3.c5
              have f7_4_lt := m7_4.lt
              have f7_4_c0 := m7_4.c0
              have f7_4_c1 := m7_4.c1
              have f7_4_c2 := m7_4.c2
              have f7_4_c3 := m7_4.c3
              have f7_4_c4 := m7_4.c4
              have f7_4_c5 := m7_4.c5
              have f7_5_lt := m7_5.lt
              have f7_5_c0 := m7_5.c0
              have f7_5_c1 := m7_5.c1
              have f7_5_c2 := m7_5.c2
              have f7_5_c3 := m7_5.c3
              have f7_5_c4 := m7_5.c4
              have f7_5_c5 := m7_5.c5
              have f7_6_lt := m7_6.lt
              have f7_6_c0 := m7_6.c0
              have f7_6_c1 := m7_6.c1
              have f7_6_c2 := m7_6.c2
              have f7_6_c3 := m7_6.c3
              have f7_6_c4 := m7_6.c4
              have f7_6_c5 := m7_6.c5
              clear hAu
              refine (LU.out _).mono ?_; rintro e w' ⟨rfl, qlu, rfl⟩
              go_wp2_with (fail)
              refine calls_world (fun W => Below w.heap.size w W ∧ BoxZ W w.heap.size a ∧ BoxZ W (w.heap.size + 1) b ∧ BoxS W (w.heap.size + 2) s.lo s.ls s.hi s.hs s.op ∧ BoxZ W Ax rx ∧ BoxZ W Ay ry ∧ BoxZ W Av rv ∧ BoxZ W Au ru) ⟨by (repeat' (first | (with_reducible assumption) | (with_reducible exact Below.refl _ _) | (with_reducible refine below_wov ?_ ?_ _) | (with_reducible refine below_drewN ?_ _) | (with_reducible refine Below.drew ?_) | (with_reducible refine Below.alloc ?_ ?_ _) | (with_reducible refine Below.setCell ?_ ?_ _) | (with_reducible exact Nat.le_refl _) | omega | (simp only [World.size_alloc, World.size_setCell, World.size_drew, Wov_size, World.heap_drewN]; omega))), m7_0.below (by (repeat' (first | (with_reducible assumption) | (with_reducible exact Below.refl _ _) | (with_reducible refine below_wov ?_ ?_ _) | (with_reducible refine below_drewN ?_ _) | (with_reducible refine Below.drew ?_) | (with_reducible refine Below.alloc ?_ ?_ _) | (with_reducible refine Below.setCell ?_ ?_ _) | (with_reducible exact Nat.le_refl _) | omega | (simp only [World.size_alloc, World.size_setCell, World.size_drew, Wov_size, World.heap_drewN]; omega)))), m7_1.below (by (repeat' (first | (with_reducible assumption) | (with_reducible exact Below.refl _ _) | (with_reducible refine below_wov ?_ ?_ _) | (with_reducible refine below_drewN ?_ _) | (with_reducible refine Below.drew ?_) | (with_reducible refine Below.alloc ?_ ?_ _) | (with_reducible refine Below.setCell ?_ ?_ _) | (with_reducible exact Nat.le_refl _) | omega | (simp only [World.size_alloc, World.size_setCell, World.size_drew, Wov_size, World.heap_drewN]; omega)))), m7_2.below (by (repeat' (first | (with_reducible assumption) | (with_reducible exact Below.refl _ _) | (with_reducible refine below_wov ?_ ?_ _) | (with_reducible refine below_drewN ?_ _) | (with_reducible refine Below.drew ?_) | (with_reducible refine Below.alloc ?_ ?_ _) | (with_reducible refine Below.setCell ?_ ?_ _) | (with_reducible exact Nat.le_refl _) | omega | (simp only [World.size_alloc, World.size_setCell, World.size_drew, Wov_size, World.heap_drewN]; omega)))), m7_3.below (by (repeat' (first | (with_reducible assumption) | (with_reducible exact Below.refl _ _) | (with_reducible refine below_wov ?_ ?_ _) | (with_reducible refine below_drewN ?_ _) | (with_reducible refine Below.drew ?_) | (with_reducible refine Below.alloc ?_ ?_ _) | (with_reducible refine Below.setCell ?_ ?_ _) | (with_reducible exact Nat.le_refl _) | omega | (simp only [World.size_alloc, World.size_setCell, World.size_drew, Wov_size, World.heap_drewN]; omega)))), m7_4.below (by (repeat' (first | (with_reducible assumption) | (with_reducible exact Below.refl _ _) | (with_reducible refine below_wov ?_ ?_ _) | (with_reducible refine below_drewN ?_ _) | (with_reducible refine Below.drew ?_) | (with_reducible refine Below.alloc ?_ ?_ _) | (with_reducible refine Below.setCell ?_ ?_ _) | (with_reducible exact Nat.le_refl _) | omega | (simp only [World.size_alloc, World.size_setCell, World.size_drew, Wov_size, World.heap_drewN]; omega)))), m7_5.below (by (repeat' (first | (with_reducible assumption) | (with_reducible exact Below.refl _ _) | (with_reducible refine below_wov ?_ ?_ _) | (with_reducible refine below_drewN ?_ _) | (with_reducible refine Below.drew ?_) | (with_reducible refine Below.alloc ?_ ?_ _) | (with_reducible refine Below.setCell ?_ ?_ _) | (with_reducible exact Nat.le_refl _) | omega | (simp only [World.size_alloc, World.size_setCell, World.size_drew, Wov_size, World.heap_drewN]; omega)))), m7_6.below (by (repeat' (first | (with_reducible assumption) | (with_reducible exact Below.refl _ _) | (with_reducible refine below_wov ?_ ?_ _) | (with_reducible refine below_drewN ?_ _) | (with_reducible refine Below.drew ?_) | (with_reducible refine Below.alloc ?_ ?_ _) | (with_reducible refine Below.setCell ?_ ?_ _) | (with_reducible exact Nat.le_refl _) | omega | (simp only [World.size_alloc, World.size_setCell, World.size_drew, Wov_size, World.heap_drewN]; omega))))⟩ ?_
              rintro W8 ⟨hb8, m8_0, m8_1, m8_2, m8_3, m8_4, m8_5, m8_6⟩
              clear hb7 f7_0_lt f7_0_c0 f7_0_c1 f7_0_c2 f7_0_c3 f7_0_c4 f7_0_c5 f7_1_lt f7_1_c0 f7_1_c1 f7_1_c2 f7_1_c3 f7_1_c4 f7_1_c5 f7_2_lt f7_2_c0 f7_2_c1 f7_2_c2 f7_2_c3 f7_2_c4 f7_3_lt f7_3_c0 f7_3_c1 f7_3_c2 f7_3_c3 f7_3_c4 f7_3_c5 f7_4_lt f7_4_c0 f7_4_c1 f7_4_c2 f7_4_c3 f7_4_c4 f7_4_c5 f7_5_lt f7_5_c0 f7_5_c1 f7_5_c2 f7_5_c3 f7_5_c4 f7_5_c5 f7_6_lt f7_6_c0 f7_6_c1 f7_6_c2 f7_6_c3 f7_6_c4 f7_6_c5 m7_0 m7_1 m7_2 m7_3 m7_4 m7_5 m7_6 hs7
              have hs8 := hb8.size
              have f8_0_lt := m8_0.lt
              have f8_0_c0 := m8_0.c0
              have f8_0_c1 := m8_0.c1
              have f8_0_c2 := m8_0.c2
              have f8_0_c3 := m8_0.c3
              have f8_0_c4 := m8_0.c4
              have f8_0_c5 := m8_0.c5
              have f8_1_lt := m8_1.lt
              have f8_1_c0 := m8_1.c0
              have f8_1_c1 := m8_1.c1
              have f8_1_c2 := m8_1.c2
              have f8_1_c3 := m8_1.c3
              have f8_1_c4 := m8_1.c4
              have f8_1_c5 := m8_1.c5
              have f8_2_lt := m8_2.lt
              have f8_2_c0 := m8_2.c0
              have f8_2_c1 := m8_2.c1
              have f8_2_c2 := m8_2.c2
              have f8_2_c3 := m8_2.c3
              have f8_2_c4 := m8_2.c4
              have f8_3_lt := m8_3.lt
              have f8_3_c0 := m8_3.c0
              have f8_3_c1 := m8_3.c1
              have f8_3_c2 := m8_3.c2
              have f8_3_c3 := m8_3.c3
              have f8_3_c4 := m8_3.c4
              have f8_3_c5 := m8_3.c5
              have f8_4_lt := m8_4.lt
              have f8_4_c0 := m8_4.c0
              have f8_4_c1 := m8_4.c1
              have f8_4_c2 := m8_4.c2
              have f8_4_c3 := m8_4.c3
              have f8_4_c4 := m8_4.c4
              have f8_4_c5 := m8_4.c5
              have f8_5_lt := m8_5.lt
              have f8_5_c0 := m8_5.c0
              have f8_5_c1 := m8_5.c1
              have f8_5_c2 := m8_5.c2
              have f8_5_c3 := m8_5.c3
              have f8_5_c4 := m8_5.c4
              have f8_5_c5 := m8_5.c5
              have f8_6_lt := m8_6.lt
              have f8_6_c0 := m8_6.c0
              have f8_6_c1 := m8_6.c1
              have f8_6_c2 := m8_6.c2
              have f8_6_c3 := m8_6.c3
              have f8_6_c4 := m8_6.c4
              have f8_6_c5 := m8_6.c5
              refine (Cj.out _).mono ?_; rintro e w' ⟨rfl, qj, rfl⟩
              by_cases hm : m < q
              · skip
                have hm2 : decide (m < q) = true := decide_eq_true hm
                go_wp2
                all_goals
                  go_ret
                  exact gives_bool (by simp) (by (repeat' (first | (with_reducible assumption) | (with_reducible exact Below.refl _ _) | (with_reducible refine below_wov ?_ ?_ _) | (with_reducible refine below_drewN ?_ _) | (with_reducible refine Below.drew ?_) | (with_reducible refine Below.alloc ?_ ?_ _) | (with_reducible refine Below.setCell ?_ ?_ _) | (with_reducible exact Nat.le_refl _) | omega | (simp only [World.size_alloc, World.size_setCell, World.size_drew, Wov_size, World.heap_drewN]; omega))))
              · skip
                have hm2 : decide (m < q) = false := decide_eq_false hm
                obtain ⟨n6, l3⟩ := L3.out (by simp) (by omega)
                have b6 : (ej != 6) = true := by rw [bne_iff_ne]; exact n6
                by_cases hj0 : ej = 0
                · skip
                  subst hj0
                  have LT := Lib.hid (lies_true (l3 rfl))
                  unfold zoneV at LT
                  go_wp2_with (fail)
                  obtain ⟨Aj, hAj⟩ : ∃ A, W8.heap.size + qj.bl.size = A := ⟨_, rfl⟩
                  rw [hAj]
                  refine calls_world (fun W => Below w.heap.size w W ∧ BoxZ W w.heap.size a ∧ BoxZ W (w.heap.size + 1) b ∧ BoxS W (w.heap.size + 2) s.lo s.ls s.hi s.hs s.op ∧ BoxZ W Ax rx ∧ BoxZ W Ay ry ∧ BoxZ W Av rv ∧ BoxZ W Au ru ∧ BoxZ W Aj rj) ⟨by (repeat' (first | (with_reducible assumption) | (with_reducible exact Below.refl _ _) | (with_reducible refine below_wov ?_ ?_ _) | (with_reducible refine below_drewN ?_ _) | (with_reducible refine Below.drew ?_) | (with_reducible refine Below.alloc ?_ ?_ _) | (with_reducible refine Below.setCell ?_ ?_ _) | (with_reducible exact Nat.le_refl _) | omega | (simp only [World.size_alloc, World.size_setCell, World.size_drew, Wov_size, World.heap_drewN]; omega))), m8_0.below (by (repeat' (first | (with_reducible assumption) | (with_reducible exact Below.refl _ _) | (with_reducible refine below_wov ?_ ?_ _) | (with_reducible refine below_drewN ?_ _) | (with_reducible refine Below.drew ?_) | (with_reducible refine Below.alloc ?_ ?_ _) | (with_reducible refine Below.setCell ?_ ?_ _) | (with_reducible exact Nat.le_refl _) | omega | (simp only [World.size_alloc, World.size_setCell, World.size_drew, Wov_size, World.heap_drewN]; omega)))), m8_1.below (by (repeat' (first | (with_reducible assumption) | (with_reducible exact Below.refl _ _) | (with_reducible refine below_wov ?_ ?_ _) | (with_reducible refine below_drewN ?_ _) | (with_reducible refine Below.drew ?_) | (with_reducible refine Below.alloc ?_ ?_ _) | (with_reducible refine Below.setCell ?_ ?_ _) | (with_reducible exact Nat.le_refl _) | omega | (simp only [World.size_alloc, World.size_setCell, World.size_drew, Wov_size, World.heap_drewN]; omega)))), m8_2.below (by (repeat' (first | (with_reducible assumption) | (with_reducible exact Below.refl _ _) | (with_reducible refine below_wov ?_ ?_ _) | (with_reducible refine below_drewN ?_ _) | (with_reducible refine Below.drew ?_) | (with_reducible refine Below.alloc ?_ ?_ _) | (with_reducible refine Below.setCell ?_ ?_ _) | (with_reducible exact Nat.le_refl _) | omega | (simp only [World.size_alloc, World.size_setCell, World.size_drew, Wov_size, World.heap_drewN]; omega)))), m8_3.below (by (repeat' (first | (with_reducible assumption) | (with_reducible exact Below.refl _ _) | (with_reducible refine below_wov ?_ ?_ _) | (with_reducible refine below_drewN ?_ _) | (with_reducible refine Below.drew ?_) | (with_reducible refine Below.alloc ?_ ?_ _) | (with_reducible refine Below.setCell ?_ ?_ _) | (with_reducible exact Nat.le_refl _) | omega | (simp only [World.size_alloc, World.size_setCell, World.size_drew, Wov_size, World.heap_drewN]; omega)))), m8_4.below (by (repeat' (first | (with_reducible assumption) | (with_reducible exact Below.refl _ _) | (with_reducible refine below_wov ?_ ?_ _) | (with_reducible refine below_drewN ?_ _) | (with_reducible refine Below.drew ?_) | (with_reducible refine Below.alloc ?_ ?_ _) | (with_reducible refine Below.setCell ?_ ?_ _) | (with_reducible exact Nat.le_refl _) | omega | (simp only [World.size_alloc, World.size_setCell, World.size_drew, Wov_size, World.heap_drewN]; omega)))), m8_5.below (by (repeat' (first | (with_reducible assumption) | (with_reducible exact Below.refl _ _) | (with_reducible refine below_wov ?_ ?_ _) | (with_reducible refine below_drewN ?_ _) | (with_reducible refine Below.drew ?_) | (with_reducible refine Below.alloc ?_ ?_ _) | (with_reducible refine Below.setCell ?_ ?_ _) | (with_reducible exact Nat.le_refl _) | omega | (simp only [World.size_alloc, World.size_setCell, World.size_drew, Wov_size, World.heap_drewN]; omega)))), m8_6.below (by (repeat' (first | (with_reducible assumption) | (with_reducible exact Below.refl _ _) | (with_reducible refine below_wov ?_ ?_ _) | (with_reducible refine below_drewN ?_ _) | (with_reducible refine Below.drew ?_) | (with_reducible refine Below.alloc ?_ ?_ _) | (with_reducible refine Below.setCell ?_ ?_ _) | (with_reducible exact Nat.le_refl _) | omega | (simp only [World.size_alloc, World.size_setCell, World.size_drew, Wov_size, World.heap_drewN]; omega)))), BoxZ.new (by rw [← hAj]; (try simp only [Wov_size]))⟩ ?_
                  rintro W9 ⟨hb9, m9_0, m9_1, m9_2, m9_3, m9_4, m9_5, m9_6, m9_7⟩
                  clear hb8 f8_0_lt f8_0_c0 f8_0_c1 f8_0_c2 f8_0_c3 f8_0_c4 f8_0_c5 f8_1_lt f8_1_c0 f8_1_c1 f8_1_c2 f8_1_c3 f8_1_c4 f8_1_c5 f8_2_lt f8_2_c0 f8_2_c1 f8_2_c2 f8_2_c3 f8_2_c4 f8_3_lt f8_3_c0 f8_3_c1 f8_3_c2 f8_3_c3 f8_3_c4 f8_3_c5 f8_4_lt f8_4_c0 f8_4_c1 f8_4_c2 f8_4_c3 f8_4_c4 f8_4_c5 f8_5_lt f8_5_c0 f8_5_c1 f8_5_c2 f8_5_c3 f8_5_c4 f8_5_c5 f8_6_lt f8_6_c0 f8_6_c1 f8_6_c2 f8_6_c3 f8_6_c4 f8_6_c5 m8_0 m8_1 m8_2 m8_3 m8_4 m8_5 m8_6 hs8
                  have hs9 := hb9.size
                  have f9_0_lt := m9_0.lt
                  have f9_0_c0 := m9_0.c0
                  have f9_0_c1 := m9_0.c1
                  have f9_0_c2 := m9_0.c2
                  have f9_0_c3 := m9_0.c3
                  have f9_0_c4 := m9_0.c4
                  have f9_0_c5 := m9_0.c5
                  have f9_1_lt := m9_1.lt
                  have f9_1_c0 := m9_1.c0
                  have f9_1_c1 := m9_1.c1
                  have f9_1_c2 := m9_1.c2
                  have f9_1_c3 := m9_1.c3
                  have f9_1_c4 := m9_1.c4
                  have f9_1_c5 := m9_1.c5
                  have f9_2_lt := m9_2.lt
                  have f9_2_c0 := m9_2.c0
                  have f9_2_c1 := m9_2.c1
                  have f9_2_c2 := m9_2.c2
                  have f9_2_c3 := m9_2.c3
                  have f9_2_c4 := m9_2.c4
                  have f9_3_lt := m9_3.lt
                  have f9_3_c0 := m9_3.c0
                  have f9_3_c1 := m9_3.c1
                  have f9_3_c2 := m9_3.c2
                  have f9_3_c3 := m9_3.c3
                  have f9_3_c4 := m9_3.c4
                  have f9_3_c5 := m9_3.c5
                  have f9_4_lt := m9_4.lt
                  have f9_4_c0 := m9_4.c0
                  have f9_4_c1 := m9_4.c1
                  have f9_4_c2 := m9_4.c2
                  have f9_4_c3 := m9_4.c3
                  have f9_4_c4 := m9_4.c4
                  have f9_4_c5 := m9_4.c5
                  have f9_5_lt := m9_5.lt
                  have f9_5_c0 := m9_5.c0
                  have f9_5_c1 := m9_5.c1
                  have f9_5_c2 := m9_5.c2
                  have f9_5_c3 := m9_5.c3
                  have f9_5_c4 := m9_5.c4
                  have f9_5_c5 := m9_5.c5
                  have f9_6_lt := m9_6.lt
                  have f9_6_c0 := m9_6.c0
                  have f9_6_c1 := m9_6.c1
                  have f9_6_c2 := m9_6.c2
                  have f9_6_c3 := m9_6.c3
                  have f9_6_c4 := m9_6.c4
                  have f9_6_c5 := m9_6.c5
                  have f9_7_lt := m9_7.lt
                  have f9_7_c0 := m9_7.c0
                  have f9_7_c1 := m9_7.c1
                  have f9_7_c2 := m9_7.c2
                  have f9_7_c3 := m9_7.c3
                  have f9_7_c4 := m9_7.c4
                  have f9_7_c5 := m9_7.c5
                  clear hAj
                  refine (LT.out _).mono ?_; rintro e w' ⟨rfl, qt, rfl⟩
                  go_wp2
                  all_goals
                    go_ret
                    exact gives_bool (by simp) (by (repeat' (first | (with_reducible assumption) | (with_reducible exact Below.refl _ _) | (with_reducible refine below_wov ?_ ?_ _) | (with_reducible refine below_drewN ?_ _) | (with_reducible refine Below.drew ?_) | (with_reducible refine Below.alloc ?_ ?_ _) | (with_reducible refine Below.setCell ?_ ?_ _) | (with_reducible exact Nat.le_refl _) | omega | (simp only [World.size_alloc, World.size_setCell, World.size_drew, Wov_size, World.heap_drewN]; omega))))
                · skip
                  have bj : (ej != 0) = true := by rw [bne_iff_ne]; exact hj0
                  go_wp2
                  all_goals
                    go_ret
                    exact gives_bool (by simp) (by (repeat' (first | (with_reducible assumption) | (with_reducible exact Below.refl _ _) | (with_reducible refine below_wov ?_ ?_ _) | (with_reducible refine below_drewN ?_ _) | (with_reducible refine Below.drew ?_) | (with_reducible refine Below.alloc ?_ ?_ _) | (with_reducible refine Below.setCell ?_ ?_ _) | (with_reducible exact Nat.le_refl _) | omega | (simp only [World.size_alloc, World.size_setCell, World.size_drew, Wov_size, World.heap_drewN]; omega))))
            · skip
              have bu0 : (eu == 0) = false := by rw [beq_eq_false_iff_ne]; exact hu0
              go_wp2_with (fail)
              obtain ⟨Au, hAu⟩ : ∃ A, W6.heap.size + qu.bl.size = A := ⟨_, rfl⟩
              rw [hAu]
              refine calls_world (fun W => Below w.heap.size w W ∧ BoxZ W w.heap.size a ∧ BoxZ W (w.heap.size + 1) b ∧ BoxS W (w.heap.size + 2) s.lo s.ls s.hi s.hs s.op ∧ BoxZ W Ax rx ∧ BoxZ W Ay ry ∧ BoxZ W Av rv ∧ BoxZ W Au ru) ⟨by (repeat' (first | (with_reducible assumption) | (with_reducible exact Below.refl _ _) | (with_reducible refine below_wov ?_ ?_ _) | (with_reducible refine below_drewN ?_ _) | (with_reducible refine Below.drew ?_) | (with_reducible refine Below.alloc ?_ ?_ _) | (with_reducible refine Below.setCell ?_ ?_ _) | (with_reducible exact Nat.le_refl _) | omega | (simp only [World.size_alloc, World.size_setCell, World.size_drew, Wov_size, World.heap_drewN]; omega))), m6_0.below (by (repeat' (first | (with_reducible assumption) | (with_reducible exact Below.refl _ _) | (with_reducible refine below_wov ?_ ?_ _) | (with_reducible refine below_drewN ?_ _) | (with_reducible refine Below.drew ?_) | (with_reducible refine Below.alloc ?_ ?_ _) | (with_reducible refine Below.setCell ?_ ?_ _) | (with_reducible exact Nat.le_refl _) | omega | (simp only [World.size_alloc, World.size_setCell, World.size_drew, Wov_size, World.heap_drewN]; omega)))), m6_1.below (by (repeat' (first | (with_reducible assumption) | (with_reducible exact Below.refl _ _) | (with_reducible refine below_wov ?_ ?_ _) | (with_reducible refine below_drewN ?_ _) | (with_reducible refine Below.drew ?_) | (with_reducible refine Below.alloc ?_ ?_ _) | (with_reducible refine Below.setCell ?_ ?_ _) | (with_reducible exact Nat.le_refl _) | omega | (simp only [World.size_alloc, World.size_setCell, World.size_drew, Wov_size, World.heap_drewN]; omega)))), m6_2.below (by (repeat' (first | (with_reducible assumption) | (with_reducible exact Below.refl _ _) | (with_reducible refine below_wov ?_ ?_ _) | (with_reducible refine below_drewN ?_ _) | (with_reducible refine Below.drew ?_) | (with_reducible refine Below.alloc ?_ ?_ _) | (with_reducible refine Below.setCell ?_ ?_ _) | (with_reducible exact Nat.le_refl _) | omega | (simp only [World.size_alloc, World.size_setCell, World.size_drew, Wov_size, World.heap_drewN]; omega)))), m6_3.below (by (repeat' (first | (with_reducible assumption) | (with_reducible exact Below.refl _ _) | (with_reducible refine below_wov ?_ ?_ _) | (with_reducible refine below_drewN ?_ _) | (with_reducible refine Below.drew ?_) | (with_reducible refine Below.alloc ?_ ?_ _) | (with_reducible refine Below.setCell ?_ ?_ _) | (with_reducible exact Nat.le_refl _) | omega | (simp only [World.size_alloc, World.size_setCell, World.size_drew, Wov_size, World.heap_drewN]; omega)))), m6_4.below (by (repeat' (first | (with_reducible assumption) | (with_reducible exact Below.refl _ _) | (with_reducible refine below_wov ?_ ?_ _) | (with_reducible refine below_drewN ?_ _) | (with_reducible refine Below.drew ?_) | (with_reducible refine Below.alloc ?_ ?_ _) | (with_reducible refine Below.setCell ?_ ?_ _) | (with_reducible exact Nat.le_refl _) | omega | (simp only [World.size_alloc, World.size_setCell, World.size_drew, Wov_size, World.heap_drewN]; omega)))), m6_5.below (by (repeat' (first | (with_reducible assumption) | (with_reducible exact Below.refl _ _) | (with_reducible refine below_wov ?_ ?_ _) | (with_reducible refine below_drewN ?_ _) | (with_reducible refine Below.drew ?_) | (with_reducible refine Below.alloc ?_ ?_ _) | (with_reducible refine Below.setCell ?_ ?_ _) | (with_reducible exact Nat.le_refl _) | omega | (simp only [World.size_alloc, World.size_setCell, World.size_drew, Wov_size, World.heap_drewN]; omega)))), BoxZ.new (by rw [← hAu]; (try simp only [Wov_size]))⟩ ?_
              rintro W7 ⟨hb7, m7_0, m7_1, m7_2, m7_3, m7_4, m7_5, m7_6⟩
              clear hb6 f6_0_lt f6_0_c0 f6_0_c1 f6_0_c2 f6_0_c3 f6_0_c4 f6_0_c5 f6_1_lt f6_1_c0 f6_1_c1 f6_1_c2 f6_1_c3 f6_1_c4 f6_1_c5 f6_2_lt f6_2_c0 f6_2_c1 f6_2_c2 f6_2_c3 f6_2_c4 f6_3_lt f6_3_c0 f6_3_c1 f6_3_c2 f6_3_c3 f6_3_c4 f6_3_c5 f6_4_lt f6_4_c0 f6_4_c1 f6_4_c2 f6_4_c3 f6_4_c4 f6_4_c5 f6_5_lt f6_5_c0 f6_5_c1 f6_5_c2 f6_5_c3 f6_5_c4 f6_5_c5 m6_0 m6_1 m6_2 m6_3 m6_4 m6_5 hs6
              have hs7 := hb7.size
              have f7_0_lt := m7_0.lt
              have f7_0_c0 := m7_0.c0
              have f7_0_c1 := m7_0.c1
              have f7_0_c2 := m7_0.c2
              have f7_0_c3 := m7_0.c3
              have f7_0_c4 := m7_0.c4
              have f7_0_c5 := m7_0.c5
              have f7_1_lt := m7_1.lt
              have f7_1_c0 := m7_1.c0
              have f7_1_c1 := m7_1.c1
              have f7_1_c2 := m7_1.c2
              have f7_1_c3 := m7_1.c3
              have f7_1_c4 := m7_1.c4
              have f7_1_c5 := m7_1.c5
              have f7_2_lt := m7_2.lt
              have f7_2_c0 := m7_2.c0
              have f7_2_c1 := m7_2.c1
              have f7_2_c2 := m7_2.c2
              have f7_2_c3 := m7_2.c3
              have f7_2_c4 := m7_2.c4
              have f7_3_lt := m7_3.lt
              have f7_3_c0 := m7_3.c0
              have f7_3_c1 := m7_3.c1
              have f7_3_c2 := m7_3.c2
              have f7_3_c3 := m7_3.c3
              have f7_3_c4 := m7_3.c4
              have f7_3_c5 := m7_3.c5
              have f7_4_lt := m7_4.lt
              have f7_4_c0 := m7_4.c0
              have f7_4_c1 := m7_4.c1
              have f7_4_c2 := m7_4.c2
              have f7_4_c3 := m7_4.c3
              have f7_4_c4 := m7_4.c4
              have f7_4_c5 := m7_4.c5
              have f7_5_lt := m7_5.lt
              have f7_5_c0 := m7_5.c0
              have f7_5_c1 := m7_5.c1
              have f7_5_c2 := m7_5.c2
              have f7_5_c3 := m7_5.c3
              have f7_5_c4 := m7_5.c4
              have f7_5_c5 := m7_5.c5
              have f7_6_lt := m7_6.lt
              have f7_6_c0 := m7_6.c0
              have f7_6_c1 := m7_6.c1
              have f7_6_c2 := m7_6.c2
              have f7_6_c3 := m7_6.c3
              have f7_6_c4 := m7_6.c4
              have f7_6_c5 := m7_6.c5
              clear hAu
              refine (Cj.out _).mono ?_; rintro e w' ⟨rfl, qj, rfl⟩
              by_cases hm : m < q
              · skip
                have hm2 : decide (m < q) = true := decide_eq_true hm
                go_wp2
                all_goals
                  go_ret
                  exact gives_bool (by simp) (by (repeat' (first | (with_reducible assumption) | (with_reducible exact Below.refl _ _) | (with_reducible refine below_wov ?_ ?_ _) | (with_reducible refine below_drewN ?_ _) | (with_reducible refine Below.drew ?_) | (with_reducible refine Below.alloc ?_ ?_ _) | (with_reducible refine Below.setCell ?_ ?_ _) | (with_reducible exact Nat.le_refl _) | omega | (simp only [World.size_alloc, World.size_setCell, World.size_drew, Wov_size, World.heap_drewN]; omega))))
              · skip
                have hm2 : decide (m < q) = false := decide_eq_false hm
                obtain ⟨n6, l3⟩ := L3.out (by simp) (by omega)
                have b6 : (ej != 6) = true := by rw [bne_iff_ne]; exact n6
                by_cases hj0 : ej = 0
                · skip
                  subst hj0
                  have LT := Lib.hid (lies_true (l3 rfl))
                  unfold zoneV at LT
                  go_wp2_with (fail)
                  obtain ⟨Aj, hAj⟩ : ∃ A, W7.heap.size + qj.bl.size = A := ⟨_, rfl⟩
                  rw [hAj]
                  refine calls_world (fun W => Below w.heap.size w W ∧ BoxZ W w.heap.size a ∧ BoxZ W (w.heap.size + 1) b ∧ BoxS W (w.heap.size + 2) s.lo s.ls s.hi s.hs s.op ∧ BoxZ W Ax rx ∧ BoxZ W Ay ry ∧ BoxZ W Av rv ∧ BoxZ W Au ru ∧ BoxZ W Aj rj) ⟨by (repeat' (first | (with_reducible assumption) | (with_reducible exact Below.refl _ _) | (with_reducible refine below_wov ?_ ?_ _) | (with_reducible refine below_drewN ?_ _) | (with_reducible refine Below.drew ?_) | (with_reducible refine Below.alloc ?_ ?_ _) | (with_reducible refine Below.setCell ?_ ?_ _) | (with_reducible exact Nat.le_refl _) | omega | (simp only [World.size_alloc, World.size_setCell, World.size_drew, Wov_size, World.heap_drewN]; omega))), m7_0.below (by (repeat' (first | (with_reducible assumption) | (with_reducible exact Below.refl _ _) | (with_reducible refine below_wov ?_ ?_ _) | (with_reducible refine below_drewN ?_ _) | (with_reducible refine Below.drew ?_) | (with_reducible refine Below.alloc ?_ ?_ _) | (with_reducible refine Below.setCell ?_ ?_ _) | (with_reducible exact Nat.le_refl _) | omega | (simp only [World.size_alloc, World.size_setCell, World.size_drew, Wov_size, World.heap_drewN]; omega)))), m7_1.below (by (repeat' (first | (with_reducible assumption) | (with_reducible exact Below.refl _ _) | (with_reducible refine below_wov ?_ ?_ _) | (with_reducible refine below_drewN ?_ _) | (with_reducible refine Below.drew ?_) | (with_reducible refine Below.alloc ?_ ?_ _) | (with_reducible refine Below.setCell ?_ ?_ _) | (with_reducible exact Nat.le_refl _) | omega | (simp only [World.size_alloc, World.size_setCell, World.size_drew, Wov_size, World.heap_drewN]; omega)))), m7_2.below (by (repeat' (first | (with_reducible assumption) | (with_reducible exact Below.refl _ _) | (with_reducible refine below_wov ?_ ?_ _) | (with_reducible refine below_drewN ?_ _) | (with_reducible refine Below.drew ?_) | (with_reducible refine Below.alloc ?_ ?_ _) | (with_reducible refine Below.setCell ?_ ?_ _) | (with_reducible exact Nat.le_refl _) | omega | (simp only [World.size_alloc, World.size_setCell, World.size_drew, Wov_size, World.heap_drewN]; omega)))), m7_3.below (by (repeat' (first | (with_reducible assumption) | (with_reducible exact Below.refl _ _) | (with_reducible refine below_wov ?_ ?_ _) | (with_reducible refine below_drewN ?_ _) | (with_reducible refine Below.drew ?_) | (with_reducible refine Below.alloc ?_ ?_ _) | (with_reducible refine Below.setCell ?_ ?_ _) | (with_reducible exact Nat.le_refl _) | omega | (simp only [World.size_alloc, World.size_setCell, World.size_drew, Wov_size, World.heap_drewN]; omega)))), m7_4.below (by (repeat' (first | (with_reducible assumption) | (with_reducible exact Below.refl _ _) | (with_reducible refine below_wov ?_ ?_ _) | (with_reducible refine below_drewN ?_ _) | (with_reducible refine Below.drew ?_) | (with_reducible refine Below.alloc ?_ ?_ _) | (with_reducible refine Below.setCell ?_ ?_ _) | (with_reducible exact Nat.le_refl _) | omega | (simp only [World.size_alloc, World.size_setCell, World.size_drew, Wov_size, World.heap_drewN]; omega)))), m7_5.below (by (repeat' (first | (with_reducible assumption) | (with_reducible exact Below.refl _ _) | (with_reducible refine below_wov ?_ ?_ _) | (with_reducible refine below_drewN ?_ _) | (with_reducible refine Below.drew ?_) | (with_reducible refine Below.alloc ?_ ?_ _) | (with_reducible refine Below.setCell ?_ ?_ _) | (with_reducible exact Nat.le_refl _) | omega | (simp only [World.size_alloc, World.size_setCell, World.size_drew, Wov_size, World.heap_drewN]; omega)))), m7_6.below (by (repeat' (first | (with_reducible assumption) | (with_reducible exact Below.refl _ _) | (with_reducible refine below_wov ?_ ?_ _) | (with_reducible refine below_drewN ?_ _) | (with_reducible refine Below.drew ?_) | (with_reducible refine Below.alloc ?_ ?_ _) | (with_reducible refine Below.setCell ?_ ?_ _) | (with_reducible exact Nat.le_refl _) | omega | (simp only [World.size_alloc, World.size_setCell, World.size_drew, Wov_size, World.heap_drewN]; omega)))), BoxZ.new (by rw [← hAj]; (try simp only [Wov_size]))⟩ ?_
                  rintro W8 ⟨hb8, m8_0, m8_1, m8_2, m8_3, m8_4, m8_5, m8_6, m8_7⟩
                  clear hb7 f7_0_lt f7_0_c0 f7_0_c1 f7_0_c2 f7_0_c3 f7_0_c4 f7_0_c5 f7_1_lt f7_1_c0 f7_1_c1 f7_1_c2 f7_1_c3 f7_1_c4 f7_1_c5 f7_2_lt f7_2_c0 f7_2_c1 f7_2_c2 f7_2_c3 f7_2_c4 f7_3_lt f7_3_c0 f7_3_c1 f7_3_c2 f7_3_c3 f7_3_c4 f7_3_c5 f7_4_lt f7_4_c0 f7_4_c1 f7_4_c2 f7_4_c3 f7_4_c4 f7_4_c5 f7_5_lt f7_5_c0 f7_5_c1 f7_5_c2 f7_5_c3 f7_5_c4 f7_5_c5 f7_6_lt f7_6_c0 f7_6_c1 f7_6_c2 f7_6_c3 f7_6_c4 f7_6_c5 m7_0 m7_1 m7_2 m7_3 m7_4 m7_5 m7_6 hs7
                  have hs8 := hb8.size
                  have f8_0_lt := m8_0.lt
                  have f8_0_c0 := m8_0.c0
                  have f8_0_c1 := m8_0.c1
                  have f8_0_c2 := m8_0.c2
                  have f8_0_c3 := m8_0.c3
                  have f8_0_c4 := m8_0.c4
                  have f8_0_c5 := m8_0.c5
                  have f8_1_lt := m8_1.lt
                  have f8_1_c0 := m8_1.c0
                  have f8_1_c1 := m8_1.c1
                  have f8_1_c2 := m8_1.c2
                  have f8_1_c3 := m8_1.c3
                  have f8_1_c4 := m8_1.c4
                  have f8_1_c5 := m8_1.c5
                  have f8_2_lt := m8_2.lt
                  have f8_2_c0 := m8_2.c0
                  have f8_2_c1 := m8_2.c1
                  have f8_2_c2 := m8_2.c2
                  have f8_2_c3 := m8_2.c3
                  have f8_2_c4 := m8_2.c4
                  have f8_3_lt := m8_3.lt
                  have f8_3_c0 := m8_3.c0
                  have f8_3_c1 := m8_3.c1
                  have f8_3_c2 := m8_3.c2
                  have f8_3_c3 := m8_3.c3
                  have f8_3_c4 := m8_3.c4
                  have f8_3_c5 := m8_3.c5
                  have f8_4_lt := m8_4.lt
                  have f8_4_c0 := m8_4.c0
                  have f8_4_c1 := m8_4.c1
                  have f8_4_c2 := m8_4.c2
                  have f8_4_c3 := m8_4.c3
                  have f8_4_c4 := m8_4.c4
                  have f8_4_c5 := m8_4.c5
                  have f8_5_lt := m8_5.lt
                  have f8_5_c0 := m8_5.c0
                  have f8_5_c1 := m8_5.c1
                  have f8_5_c2 := m8_5.c2
                  have f8_5_c3 := m8_5.c3
                  have f8_5_c4 := m8_5.c4
                  have f8_5_c5 := m8_5.c5
                  have f8_6_lt := m8_6.lt
                  have f8_6_c0 := m8_6.c0
                  have f8_6_c1 := m8_6.c1
                  have f8_6_c2 := m8_6.c2
                  have f8_6_c3 := m8_6.c3
                  have f8_6_c4 := m8_6.c4
                  have f8_6_c5 := m8_6.c5
                  have f8_7_lt := m8_7.lt
                  have f8_7_c0 := m8_7.c0
                  have f8_7_c1 := m8_7.c1
                  have f8_7_c2 := m8_7.c2
                  have f8_7_c3 := m8_7.c3
                  have f8_7_c4 := m8_7.c4
                  have f8_7_c5 := m8_7.c5
                  clear hAj
                  refine (LT.out _).mono ?_; rintro e w' ⟨rfl, qt, rfl⟩
                  go_wp2
                  all_goals
                    go_ret
                    exact gives_bool (by simp) (by (repeat' (first | (with_reducible assumption) | (with_reducible exact Below.refl _ _) | (with_reducible refine below_wov ?_ ?_ _) | (with_reducible refine below_drewN ?_ _) | (with_reducible refine Below.drew ?_) | (with_reducible refine Below.alloc ?_ ?_ _) | (with_reducible refine Below.setCell ?_ ?_ _) | (with_reducible exact Nat.le_refl _) | omega | (simp only [World.size_alloc, World.size_setCell, World.size_drew, Wov_size, World.heap_drewN]; omega))))
                · skip
                  have bj : (ej != 0) = true := by rw [bne_iff_ne]; exact hj0
                  go_wp2
                  all_goals
                    go_ret
                    exact gives_bool (by simp) (by (repeat' (first | (with_reducible assumption) | (with_reducible exact Below.refl _ _) | (with_reducible refine below_wov ?_ ?_ _) | (with_reducible refine below_drewN ?_ _) | (with_reducible refine Below.drew ?_) | (with_reducible refine Below.alloc ?_ ?_ _) | (with_reducible refine Below.setCell ?_ ?_ _) | (with_reducible exact Nat.le_refl _) | omega | (simp only [World.size_alloc, World.size_setCell, World.size_drew, Wov_size, World.heap_drewN]; omega))))
          · skip
            have bv0 : (ev == 0) = false := by rw [beq_eq_false_iff_ne]; exact hv0
            go_wp2_with (fail)
            obtain ⟨Au, hAu⟩ : ∃ A, W6.heap.size + qu.bl.size = A := ⟨_, rfl⟩
            rw [hAu]
            refine calls_world (fun W => Below w.heap.size w W ∧ BoxZ W w.heap.size a ∧ BoxZ W (w.heap.size + 1) b ∧ BoxS W (w.heap.size + 2) s.lo s.ls s.hi s.hs s.op ∧ BoxZ W Ax rx ∧ BoxZ W Ay ry ∧ BoxZ W Av rv ∧ BoxZ W Au ru) ⟨by (repeat' (first | (with_reducible assumption) | (with_reducible exact Below.refl _ _) | (with_reducible refine below_wov ?_ ?_ _) | (with_reducible refine below_drewN ?_ _) | (with_reducible refine Below.drew ?_) | (with_reducible refine Below.alloc ?_ ?_ _) | (with_reducible refine Below.setCell ?_ ?_ _) | (with_reducible exact Nat.le_refl _) | omega | (simp only [World.size_alloc, World.size_setCell, World.size_drew, Wov_size, World.heap_drewN]; omega))), m6_0.below (by (repeat' (first | (with_reducible assumption) | (with_reducible exact Below.refl _ _) | (with_reducible refine below_wov ?_ ?_ _) | (with_reducible refine below_drewN ?_ _) | (with_reducible refine Below.drew ?_) | (with_reducible refine Below.alloc ?_ ?_ _) | (with_reducible refine Below.setCell ?_ ?_ _) | (with_reducible exact Nat.le_refl _) | omega | (simp only [World.size_alloc, World.size_setCell, World.size_drew, Wov_size, World.heap_drewN]; omega)))), m6_1.below (by (repeat' (first | (with_reducible assumption) | (with_reducible exact Below.refl _ _) | (with_reducible refine below_wov ?_ ?_ _) | (with_reducible refine below_drewN ?_ _) | (with_reducible refine Below.drew ?_) | (with_reducible refine Below.alloc ?_ ?_ _) | (with_reducible refine Below.setCell ?_ ?_ _) | (with_reducible exact Nat.le_refl _) | omega | (simp only [World.size_alloc, World.size_setCell, World.size_drew, Wov_size, World.heap_drewN]; omega)))), m6_2.below (by (repeat' (first | (with_reducible assumption) | (with_reducible exact Below.refl _ _) | (with_reducible refine below_wov ?_ ?_ _) | (with_reducible refine below_drewN ?_ _) | (with_reducible refine Below.drew ?_) | (with_reducible refine Below.alloc ?_ ?_ _) | (with_reducible refine Below.setCell ?_ ?_ _) | (with_reducible exact Nat.le_refl _) | omega | (simp only [World.size_alloc, World.size_setCell, World.size_drew, Wov_size, World.heap_drewN]; omega)))), m6_3.below (by (repeat' (first | (with_reducible assumption) | (with_reducible exact Below.refl _ _) | (with_reducible refine below_wov ?_ ?_ _) | (with_reducible refine below_drewN ?_ _) | (with_reducible refine Below.drew ?_) | (with_reducible refine Below.alloc ?_ ?_ _) | (with_reducible refine Below.setCell ?_ ?_ _) | (with_reducible exact Nat.le_refl _) | omega | (simp only [World.size_alloc, World.size_setCell, World.size_drew, Wov_size, World.heap_drewN]; omega)))), m6_4.below (by (repeat' (first | (with_reducible assumption) | (with_reducible exact Below.refl _ _) | (with_reducible refine below_wov ?_ ?_ _) | (with_reducible refine below_drewN ?_ _) | (with_reducible refine Below.drew ?_) | (with_reducible refine Below.alloc ?_ ?_ _) | (with_reducible refine Below.setCell ?_ ?_ _) | (with_reducible exact Nat.le_refl _) | omega | (simp only [World.size_alloc, World.size_setCell, World.size_drew, Wov_size, World.heap_drewN]; omega)))), m6_5.below (by (repeat' (first | (with_reducible assumption) | (with_reducible exact Below.refl _ _) | (with_reducible refine below_wov ?_ ?_ _) | (with_reducible refine below_drewN ?_ _) | (with_reducible refine Below.drew ?_) | (with_reducible refine Below.alloc ?_ ?_ _) | (with_reducible refine Below.setCell ?_ ?_ _) | (with_reducible exact Nat.le_refl _) | omega | (simp only [World.size_alloc, World.size_setCell, World.size_drew, Wov_size, World.heap_drewN]; omega)))), BoxZ.new (by rw [← hAu]; (try simp only [Wov_size]))⟩ ?_
            rintro W7 ⟨hb7, m7_0, m7_1, m7_2, m7_3, m7_4, m7_5, m7_6⟩
            clear hb6 f6_0_lt f6_0_c0 f6_0_c1 f6_0_c2 f6_0_c3 f6_0_c4 f6_0_c5 f6_1_lt f6_1_c0 f6_1_c1 f6_1_c2 f6_1_c3 f6_1_c4 f6_1_c5 f6_2_lt f6_2_c0 f6_2_c1 f6_2_c2 f6_2_c3 f6_2_c4 f6_3_lt f6_3_c0 f6_3_c1 f6_3_c2 f6_3_c3 f6_3_c4 f6_3_c5 f6_4_lt f6_4_c0 f6_4_c1 f6_4_c2 f6_4_c3 f6_4_c4 f6_4_c5 f6_5_lt f6_5_c0 f6_5_c1 f6_5_c2 f6_5_c3 f6_5_c4 f6_5_c5 m6_0 m6_1 m6_2 m6_3 m6_4 m6_5 hs6
            have hs7 := hb7.size
            have f7_0_lt := m7_0.lt
            have f7_0_c0 := m7_0.c0
            have f7_0_c1 := m7_0.c1
            have f7_0_c2 := m7_0.c2
            have f7_0_c3 := m7_0.c3
            have f7_0_c4 := m7_0.c4
            have f7_0_c5 := m7_0.c5
            have f7_1_lt := m7_1.lt
            have f7_1_c0 := m7_1.c0
            have f7_1_c1 := m7_1.c1
            have f7_1_c2 := m7_1.c2
            have f7_1_c3 := m7_1.c3
            have f7_1_c4 := m7_1.c4
            have f7_1_c5 := m7_1.c5
            have f7_2_lt := m7_2.lt
            have f7_2_c0 := m7_2.c0
            have f7_2_c1 := m7_2.c1
            have f7_2_c2 := m7_2.c2
            have f7_2_c3 := m7_2.c3
            have f7_2_c4 := m7_2.c4
            have f7_3_lt := m7_3.lt
            have f7_3_c0 := m7_3.c0
            have f7_3_c1 := m7_3.c1
            have f7_3_c2 := m7_3.c2
            have f7_3_c3 := m7_3.c3
            have f7_3_c4 := m7_3.c4
            have f7_3_c5 := m7_3.c5
            have f7_4_lt := m7_4.lt
            have f7_4_c0 := m7_4.c0
            have f7_4_c1 := m7_4.c1
            have f7_4_c2 := m7_4.c2
            have f7_4_c3 := m7_4.c3
            have f7_4_c4 := m7_4.c4
            have f7_4_c5 := m7_4.c5
            have f7_5_lt := m7_5.lt
            have f7_5_c0 := m7_5.c0
            have f7_5_c1 := m7_5.c1
            have f7_5_c2 := m7_5.c2
            have f7_5_c3 := m7_5.c3
            have f7_5_c4 := m7_5.c4
            have f7_5_c5 := m7_5.c5
            have f7_6_lt := m7_6.lt
            have f7_6_c0 := m7_6.c0
            have f7_6_c1 := m7_6.c1
            have f7_6_c2 := m7_6.c2
            have f7_6_c3 := m7_6.c3
            have f7_6_c4 := m7_6.c4
            have f7_6_c5 := m7_6.c5
            clear hAu
            refine (Cj.out _).mono ?_; rintro e w' ⟨rfl, qj, rfl⟩
            by_cases hm : m < q
            · skip
              have hm2 : decide (m < q) = true := decide_eq_true hm
              go_wp2
              all_goals
                go_ret
                exact gives_bool (by simp) (by (repeat' (first | (with_reducible assumption) | (with_reducible exact Below.refl _ _) | (with_reducible refine below_wov ?_ ?_ _) | (with_reducible refine below_drewN ?_ _) | (with_reducible refine Below.drew ?_) | (with_reducible refine Below.alloc ?_ ?_ _) | (with_reducible refine Below.setCell ?_ ?_ _) | (with_reducible exact Nat.le_refl _) | omega | (simp only [World.size_alloc, World.size_setCell, World.size_drew, Wov_size, World.heap_drewN]; omega))))
            · skip
              have hm2 : decide (m < q) = false := decide_eq_false hm
              obtain ⟨n6, l3⟩ := L3.out (by simp) (by omega)
              have b6 : (ej != 6) = true := by rw [bne_iff_ne]; exact n6
              by_cases hj0 : ej = 0
              · skip
                subst hj0
                have LT := Lib.hid (lies_true (l3 rfl))
                unfold zoneV at LT
                go_wp2_with (fail)
                obtain ⟨Aj, hAj⟩ : ∃ A, W7.heap.size + qj.bl.size = A := ⟨_, rfl⟩
                rw [hAj]
                refine calls_world (fun W => Below w.heap.size w W ∧ BoxZ W w.heap.size a ∧ BoxZ W (w.heap.size + 1) b ∧ BoxS W (w.heap.size + 2) s.lo s.ls s.hi s.hs s.op ∧ BoxZ W Ax rx ∧ BoxZ W Ay ry ∧ BoxZ W Av rv ∧ BoxZ W Au ru ∧ BoxZ W Aj rj) ⟨by (repeat' (first | (with_reducible assumption) | (with_reducible exact Below.refl _ _) | (with_reducible refine below_wov ?_ ?_ _) | (with_reducible refine below_drewN ?_ _) | (with_reducible refine Below.drew ?_) | (with_reducible refine Below.alloc ?_ ?_ _) | (with_reducible refine Below.setCell ?_ ?_ _) | (with_reducible exact Nat.le_refl _) | omega | (simp only [World.size_alloc, World.size_setCell, World.size_drew, Wov_size, World.heap_drewN]; omega))), m7_0.below (by (repeat' (first | (with_reducible assumption) | (with_reducible exact Below.refl _ _) | (with_reducible refine below_wov ?_ ?_ _) | (with_reducible refine below_drewN ?_ _) | (with_reducible refine Below.drew ?_) | (with_reducible refine Below.alloc ?_ ?_ _) | (with_reducible refine Below.setCell ?_ ?_ _) | (with_reducible exact Nat.le_refl _) | omega | (simp only [World.size_alloc, World.size_setCell, World.size_drew, Wov_size, World.heap_drewN]; omega)))), m7_1.below (by (repeat' (first | (with_reducible assumption) | (with_reducible exact Below.refl _ _) | (with_reducible refine below_wov ?_ ?_ _) | (with_reducible refine below_drewN ?_ _) | (with_reducible refine Below.drew ?_) | (with_reducible refine Below.alloc ?_ ?_ _) | (with_reducible refine Below.setCell ?_ ?_ _) | (with_reducible exact Nat.le_refl _) | omega | (simp only [World.size_alloc, World.size_setCell, World.size_drew, Wov_size, World.heap_drewN]; omega)))), m7_2.below (by (repeat' (first | (with_reducible assumption) | (with_reducible exact Below.refl _ _) | (with_reducible refine below_wov ?_ ?_ _) | (with_reducible refine below_drewN ?_ _) | (with_reducible refine Below.drew ?_) | (with_reducible refine Below.alloc ?_ ?_ _) | (with_reducible refine Below.setCell ?_ ?_ _) | (with_reducible exact Nat.le_refl _) | omega | (simp only [World.size_alloc, World.size_setCell, World.size_drew, Wov_size, World.heap_drewN]; omega)))), m7_3.below (by (repeat' (first | (with_reducible assumption) | (with_reducible exact Below.refl _ _) | (with_reducible refine below_wov ?_ ?_ _) | (with_reducible refine below_drewN ?_ _) | (with_reducible refine Below.drew ?_) | (with_reducible refine Below.alloc ?_ ?_ _) | (with_reducible refine Below.setCell ?_ ?_ _) | (with_reducible exact Nat.le_refl _) | omega | (simp only [World.size_alloc, World.size_setCell, World.size_drew, Wov_size, World.heap_drewN]; omega)))), m7_4.below (by (repeat' (first | (with_reducible assumption) | (with_reducible exact Below.refl _ _) | (with_reducible refine below_wov ?_ ?_ _) | (with_reducible refine below_drewN ?_ _) | (with_reducible refine Below.drew ?_) | (with_reducible refine Below.alloc ?_ ?_ _) | (with_reducible refine Below.setCell ?_ ?_ _) | (with_reducible exact Nat.le_refl _) | omega | (simp only [World.size_alloc, World.size_setCell, World.size_drew, Wov_size, World.heap_drewN]; omega)))), m7_5.below (by (repeat' (first | (with_reducible assumption) | (with_reducible exact Below.refl _ _) | (with_reducible refine below_wov ?_ ?_ _) | (with_reducible refine below_drewN ?_ _) | (with_reducible refine Below.drew ?_) | (with_reducible refine Below.alloc ?_ ?_ _) | (with_reducible refine Below.setCell ?_ ?_ _) | (with_reducible exact Nat.le_refl _) | omega | (simp only [World.size_alloc, World.size_setCell, World.size_drew, Wov_size, World.heap_drewN]; omega)))), m7_6.below (by (repeat' (first | (with_reducible assumption) | (with_reducible exact Below.refl _ _) | (with_reducible refine below_wov ?_ ?_ _) | (with_reducible refine below_drewN ?_ _) | (with_reducible refine Below.drew ?_) | (with_reducible refine Below.alloc ?_ ?_ _) | (with_reducible refine Below.setCell ?_ ?_ _) | (with_reducible exact Nat.le_refl _) | omega | (simp only [World.size_alloc, World.size_setCell, World.size_drew, Wov_size, World.heap_drewN]; omega)))), BoxZ.new (by rw [← hAj]; (try simp only [Wov_size]))⟩ ?_
                rintro W8 ⟨hb8, m8_0, m8_1, m8_2, m8_3, m8_4, m8_5, m8_6, m8_7⟩
                clear hb7 f7_0_lt f7_0_c0 f7_0_c1 f7_0_c2 f7_0_c3 f7_0_c4 f7_0_c5 f7_1_lt f7_1_c0 f7_1_c1 f7_1_c2 f7_1_c3 f7_1_c4 f7_1_c5 f7_2_lt f7_2_c0 f7_2_c1 f7_2_c2 f7_2_c3 f7_2_c4 f7_3_lt f7_3_c0 f7_3_c1 f7_3_c2 f7_3_c3 f7_3_c4 f7_3_c5 f7_4_lt f7_4_c0 f7_4_c1 f7_4_c2 f7_4_c3 f7_4_c4 f7_4_c5 f7_5_lt f7_5_c0 f7_5_c1 f7_5_c2 f7_5_c3 f7_5_c4 f7_5_c5 f7_6_lt f7_6_c0 f7_6_c1 f7_6_c2 f7_6_c3 f7_6_c4 f7_6_c5 m7_0 m7_1 m7_2 m7_3 m7_4 m7_5 m7_6 hs7
                have hs8 := hb8.size
                have f8_0_lt := m8_0.lt
                have f8_0_c0 := m8_0.c0
                have f8_0_c1 := m8_0.c1
                have f8_0_c2 := m8_0.c2
                have f8_0_c3 := m8_0.c3
                have f8_0_c4 := m8_0.c4
                have f8_0_c5 := m8_0.c5
                have f8_1_lt := m8_1.lt
                have f8_1_c0 := m8_1.c0
                have f8_1_c1 := m8_1.c1
                have f8_1_c2 := m8_1.c2
                have f8_1_c3 := m8_1.c3
                have f8_1_c4 := m8_1.c4
                have f8_1_c5 := m8_1.c5
                have f8_2_lt := m8_2.lt
                have f8_2_c0 := m8_2.c0
                have f8_2_c1 := m8_2.c1
                have f8_2_c2 := m8_2.c2
                have f8_2_c3 := m8_2.c3
                have f8_2_c4 := m8_2.c4
                have f8_3_lt := m8_3.lt
                have f8_3_c0 := m8_3.c0
                have f8_3_c1 := m8_3.c1
                have f8_3_c2 := m8_3.c2
                have f8_3_c3 := m8_3.c3
                have f8_3_c4 := m8_3.c4
                have f8_3_c5 := m8_3.c5
                have f8_4_lt := m8_4.lt
                have f8_4_c0 := m8_4.c0
                have f8_4_c1 := m8_4.c1
                have f8_4_c2 := m8_4.c2
                have f8_4_c3 := m8_4.c3
                have f8_4_c4 := m8_4.c4
                have f8_4_c5 := m8_4.c5
                have f8_5_lt := m8_5.lt
                have f8_5_c0 := m8_5.c0
                have f8_5_c1 := m8_5.c1
                have f8_5_c2 := m8_5.c2
                have f8_5_c3 := m8_5.c3
                have f8_5_c4 := m8_5.c4
                have f8_5_c5 := m8_5.c5
                have f8_6_lt := m8_6.lt
                have f8_6_c0 := m8_6.c0
                have f8_6_c1 := m8_6.c1
                have f8_6_c2 := m8_6.c2
                have f8_6_c3 := m8_6.c3
                have f8_6_c4 := m8_6.c4
                have f8_6_c5 := m8_6.c5
                have f8_7_lt := m8_7.lt
                have f8_7_c0 := m8_7.c0
                have f8_7_c1 := m8_7.c1
                have f8_7_c2 := m8_7.c2
                have f8_7_c3 := m8_7.c3
                have f8_7_c4 := m8_7.c4
                have f8_7_c5 := m8_7.c5
                clear hAj
                refine (LT.out _).mono ?_; rintro e w' ⟨rfl, qt, rfl⟩
                go_wp2
                all_goals
                  go_ret
                  exact gives_bool (by simp) (by (repeat' (first | (with_reducible assumption) | (with_reducible exact Below.refl _ _) | (with_reducible refine below_wov ?_ ?_ _) | (with_reducible refine below_drewN ?_ _) | (with_reducible refine Below.drew ?_) | (with_reducible refine Below.alloc ?_ ?_ _) | (with_reducible refine Below.setCell ?_ ?_ _) | (with_reducible exact Nat.le_refl _) | omega | (simp only [World.size_alloc, World.size_setCell, World.size_drew, Wov_size, World.heap_drewN]; omega))))
              · skip
                have bj : (ej != 0) = true := by rw [bne_iff_ne]; exact hj0
                go_wp2
                all_goals
                  go_ret
                  exact gives_bool (by simp) (by (repeat' (first | (with_reducible assumption) | (with_reducible exact Below.refl _ _) | (with_reducible refine below_wov ?_ ?_ _) | (with_reducible refine below_drewN ?_ _) | (with_reducible refine Below.drew ?_) | (with_reducible refine Below.alloc ?_ ?_ _) | (with_reducible refine Below.setCell ?_ ?_ _) | (with_reducible exact Nat.le_refl _) | omega | (simp only [World.size_alloc, World.size_setCell, World.size_drew, Wov_size, World.heap_drewN]; omega))))
      · skip
        have bx0 : (ex == 0) = false := by rw [beq_eq_false_iff_ne]; exact hx0
        have bx1 : (ex != 0) = true := by rw [bne_iff_ne]; exact hx0
        by_cases hv0 : ev = 0
        · skip
          subst hv0
          obtain ⟨u6, u0⟩ := L2.out (by simp) (by simp) (by simp)
          have bu6 : (eu == 6) = false := by rw [beq_eq_false_iff_ne]; exact u6
          by_cases hu0 : eu = 0
          · skip
            subst hu0
            have LU := Lib.hid (lies_true (u0 rfl))
            unfold zoneV at LU
            go_wp2_with (fail)
            obtain ⟨Au, hAu⟩ : ∃ A, W6.heap.size + qu.bl.size = A := ⟨_, rfl⟩
            rw [hAu]
            refine calls_world (fun W => Below w.heap.size w W ∧ BoxZ W w.heap.size a ∧ BoxZ W (w.heap.size + 1) b ∧ BoxS W (w.heap.size + 2) s.lo s.ls s.hi s.hs s.op ∧ BoxZ W Ax rx ∧ BoxZ W Ay ry ∧ BoxZ W Av rv ∧ BoxZ W Au ru) ⟨by (repeat' (first | (with_reducible assumption) | (with_reducible exact Below.refl _ _) | (with_reducible refine below_wov ?_ ?_ _) | (with_reducible refine below_drewN ?_ _) | (with_reducible refine Below.drew ?_) | (with_reducible refine Below.alloc ?_ ?_ _) | (with_reducible refine Below.setCell ?_ ?_ _) | (with_reducible exact Nat.le_refl _) | omega | (simp only [World.size_alloc, World.size_setCell, World.size_drew, Wov_size, World.heap_drewN]; omega))), m6_0.below (by (repeat' (first | (with_reducible assumption) | (with_reducible exact Below.refl _ _) | (with_reducible refine below_wov ?_ ?_ _) | (with_reducible refine below_drewN ?_ _) | (with_reducible refine Below.drew ?_) | (with_reducible refine Below.alloc ?_ ?_ _) | (with_reducible refine Below.setCell ?_ ?_ _) | (with_reducible exact Nat.le_refl _) | omega | (simp only [World.size_alloc, World.size_setCell, World.size_drew, Wov_size, World.heap_drewN]; omega)))), m6_1.below (by (repeat' (first | (with_reducible assumption) | (with_reducible exact Below.refl _ _) | (with_reducible refine below_wov ?_ ?_ _) | (with_reducible refine below_drewN ?_ _) | (with_reducible refine Below.drew ?_) | (with_reducible refine Below.alloc ?_ ?_ _) | (with_reducible refine Below.setCell ?_ ?_ _) | (with_reducible exact Nat.le_refl _) | omega | (simp only [World.size_alloc, World.size_setCell, World.size_drew, Wov_size, World.heap_drewN]; omega)))), m6_2.below (by (repeat' (first | (with_reducible assumption) | (with_reducible exact Below.refl _ _) | (with_reducible refine below_wov ?_ ?_ _) | (with_reducible refine below_drewN ?_ _) | (with_reducible refine Below.drew ?_) | (with_reducible refine Below.alloc ?_ ?_ _) | (with_reducible refine Below.setCell ?_ ?_ _) | (with_reducible exact Nat.le_refl _) | omega | (simp only [World.size_alloc, World.size_setCell, World.size_drew, Wov_size, World.heap_drewN]; omega)))), m6_3.below (by (repeat' (first | (with_reducible assumption) | (with_reducible exact Below.refl _ _) | (with_reducible refine below_wov ?_ ?_ _) | (with_reducible refine below_drewN ?_ _) | (with_reducible refine Below.drew ?_) | (with_reducible refine Below.alloc ?_ ?_ _) | (with_reducible refine Below.setCell ?_ ?_ _) | (with_reducible exact Nat.le_refl _) | omega | (simp only [World.size_alloc, World.size_setCell, World.size_drew, Wov_size, World.heap_drewN]; omega)))), m6_4.below (by (repeat' (first | (with_reducible assumption) | (with_reducible exact Below.refl _ _) | (with_reducible refine below_wov ?_ ?_ _) | (with_reducible refine below_drewN ?_ _) | (with_reducible refine Below.drew ?_) | (with_reducible refine Below.alloc ?_ ?_ _) | (with_reducible refine Below.setCell ?_ ?_ _) | (with_reducible exact Nat.le_refl _) | omega | (simp only [World.size_alloc, World.size_setCell, World.size_drew, Wov_size, World.heap_drewN]; omega)))), m6_5.below (by (repeat' (first | (with_reducible assumption) | (with_reducible exact Below.refl _ _) | (with_reducible refine below_wov ?_ ?_ _) | (with_reducible refine below_drewN ?_ _) | (with_reducible refine Below.drew ?_) | (with_reducible refine Below.alloc ?_ ?_ _) | (with_reducible refine Below.setCell ?_ ?_ _) | (with_reducible exact Nat.le_refl _) | omega | (simp only [World.size_alloc, World.size_setCell, World.size_drew, Wov_size, World.heap_drewN]; omega)))), BoxZ.new (by rw [← hAu]; (try simp only [Wov_size]))⟩ ?_
            rintro W7 ⟨hb7, m7_0, m7_1, m7_2, m7_3, m7_4, m7_5, m7_6⟩
            clear hb6 f6_0_lt f6_0_c0 f6_0_c1 f6_0_c2 f6_0_c3 f6_0_c4 f6_0_c5 f6_1_lt f6_1_c0 f6_1_c1 f6_1_c2 f6_1_c3 f6_1_c4 f6_1_c5 f6_2_lt f6_2_c0 f6_2_c1 f6_2_c2 f6_2_c3 f6_2_c4 f6_3_lt f6_3_c0 f6_3_c1 f6_3_c2 f6_3_c3 f6_3_c4 f6_3_c5 f6_4_lt f6_4_c0 f6_4_c1 f6_4_c2 f6_4_c3 f6_4_c4 f6_4_c5 f6_5_lt f6_5_c0 f6_5_c1 f6_5_c2 f6_5_c3 f6_5_c4 f6_5_c5 m6_0 m6_1 m6_2 m6_3 m6_4 m6_5 hs6
            have hs7 := hb7.size
            have f7_0_lt := m7_0.lt
            have f7_0_c0 := m7_0.c0
            have f7_0_c1 := m7_0.c1
            have f7_0_c2 := m7_0.c2
            have f7_0_c3 := m7_0.c3
            have f7_0_c4 := m7_0.c4
            have f7_0_c5 := m7_0.c5
            have f7_1_lt := m7_1.lt
            have f7_1_c0 := m7_1.c0
            have f7_1_c1 := m7_1.c1
            have f7_1_c2 := m7_1.c2
            have f7_1_c3 := m7_1.c3
            have f7_1_c4 := m7_1.c4
            have f7_1_c5 := m7_1.c5
            have f7_2_lt := m7_2.lt
            have f7_2_c0 := m7_2.c0
            have f7_2_c1 := m7_2.c1
            have f7_2_c2 := m7_2.c2
            have f7_2_c3 := m7_2.c3
            have f7_2_c4 := m7_2.c4
            have f7_3_lt := m7_3.lt
            have f7_3_c0 := m7_3.c0
            have f7_3_c1 := m7_3.c1
            have f7_3_c2 := m7_3.c2
            have f7_3_c3 := m7_3.c3
            have f7_3_c4 := m7_3.c4
            have f7_3_c5 := m7_3.c5
            have f7_4_lt := m7_4.lt
            have f7_4_c0 := m7_4.c0
            have f7_4_c1 := m7_4.c1
            have f7_4_c2 := m7_4.c2
            have f7_4_c3 := m7_4.c3
            have f7_4_c4 := m7_4.c4
            have f7_4_c5 := m7_4.c5
            have f7_5_lt := m7_5.lt
            have f7_5_c0 := m7_5.c0
            have f7_5_c1 := m7_5.c1
            have f7_5_c2 := m7_5.c2
            have f7_5_c3 := m7_5.c3
            have f7_5_c4 := m7_5.c4
            have f7_5_c5 := m7_5.c5
            have f7_6_lt := m7_6.lt
            have f7_6_c0 := m7_6.c0
            have f7_6_c1 := m7_6.c1
            have f7_6_c2 := m7_6.c2
            have f7_6_c3 := m7_6.c3
            have f7_6_c4 := m7_6.c4
            have f7_6_c5 := m7_6.c5
            clear hAu
            refine (LU.out _).mono ?_; rintro e w' ⟨rfl, qlu, rfl⟩
            go_wp2_with (fail)
            refine calls_world (fun W => Below w.heap.size w W ∧ BoxZ W w.heap.size a ∧ BoxZ W (w.heap.size + 1) b ∧ BoxS W (w.heap.size + 2) s.lo s.ls s.hi s.hs s.op ∧ BoxZ W Ax rx ∧ BoxZ W Ay ry ∧ BoxZ W Av rv ∧ BoxZ W Au ru) ⟨by (repeat' (first | (with_reducible assumption) | (with_reducible exact Below.refl _ _) | (with_reducible refine below_wov ?_ ?_ _) | (with_reducible refine below_drewN ?_ _) | (with_reducible refine Below.drew ?_) | (with_reducible refine Below.alloc ?_ ?_ _) | (with_reducible refine Below.setCell ?_ ?_ _) | (with_reducible exact Nat.le_refl _) | omega | (simp only [World.size_alloc, World.size_setCell, World.size_drew, Wov_size, World.heap_drewN]; omega))), m7_0.below (by (repeat' (first | (with_reducible assumption) | (with_reducible exact Below.refl _ _) | (with_reducible refine below_wov ?_ ?_ _) | (with_reducible refine below_drewN ?_ _) | (with_reducible refine Below.drew ?_) | (with_reducible refine Below.alloc ?_ ?_ _) | (with_reducible refine Below.setCell ?_ ?_ _) | (with_reducible exact Nat.le_refl _) | omega | (simp only [World.size_alloc, World.size_setCell, World.size_drew, Wov_size, World.heap_drewN]; omega)))), m7_1.below (by (repeat' (first | (with_reducible assumption) | (with_reducible exact Below.refl _ _) | (with_reducible refine below_wov ?_ ?_ _) | (with_reducible refine below_drewN ?_ _) | (with_reducible refine Below.drew ?_) | (with_reducible refine Below.alloc ?_ ?_ _) | (with_reducible refine Below.setCell ?_ ?_ _) | (with_reducible exact Nat.le_refl _) | omega | (simp only [World.size_alloc, World.size_setCell, World.size_drew, Wov_size, World.heap_drewN]; omega)))), m7_2.below (by (repeat' (first | (with_reducible assumption) | (with_reducible exact Below.refl _ _) | (with_reducible refine below_wov ?_ ?_ _) | (with_reducible refine below_drewN ?_ _) | (with_reducible refine Below.drew ?_) | (with_reducible refine Below.alloc ?_ ?_ _) | (with_reducible refine Below.setCell ?_ ?_ _) | (with_reducible exact Nat.le_refl _) | omega | (simp only [World.size_alloc, World.size_setCell, World.size_drew, Wov_size, World.heap_drewN]; omega)))), m7_3.below (by (repeat' (first | (with_reducible assumption) | (with_reducible exact Below.refl _ _) | (with_reducible refine below_wov ?_ ?_ _) | (with_reducible refine below_drewN ?_ _) | (with_reducible refine Below.drew ?_) | (with_reducible refine Below.alloc ?_ ?_ _) | (with_reducible refine Below.setCell ?_ ?_ _) | (with_reducible exact Nat.le_refl _) | omega | (simp only [World.size_alloc, World.size_setCell, World.size_drew, Wov_size, World.heap_drewN]; omega)))), m7_4.below (by (repeat' (first | (with_reducible assumption) | (with_reducible exact Below.refl _ _) | (with_reducible refine below_wov ?_ ?_ _) | (with_reducible refine below_drewN ?_ _) | (with_reducible refine Below.drew ?_) | (with_reducible refine Below.alloc ?_ ?_ _) | (with_reducible refine Below.setCell ?_ ?_ _) | (with_reducible exact Nat.le_refl _) | omega | (simp only [World.size_alloc, World.size_setCell, World.size_drew, Wov_size, World.heap_drewN]; omega)))), m7_5.below (by (repeat' (first | (with_reducible assumption) | (with_reducible exact Below.refl _ _) | (with_reducible refine below_wov ?_ ?_ _) | (with_reducible refine below_drewN ?_ _) | (with_reducible refine Below.drew ?_) | (with_reducible refine Below.alloc ?_ ?_ _) | (with_reducible refine Below.setCell ?_ ?_ _) | (with_reducible exact Nat.le_refl _) | omega | (simp only [World.size_alloc, World.size_setCell, World.size_drew, Wov_size, World.heap_drewN]; omega)))), m7_6.below (by (repeat' (first | (with_reducible assumption) | (with_reducible exact Below.refl _ _) | (with_reducible refine below_wov ?_ ?_ _) | (with_reducible refine below_drewN ?_ _) | (with_reducible refine Below.drew ?_) | (with_reducible refine Below.alloc ?_ ?_ _) | (with_reducible refine Below.setCell ?_ ?_ _) | (with_reducible exact Nat.le_refl _) | omega | (simp only [World.size_alloc, World.size_setCell, World.size_drew, Wov_size, World.heap_drewN]; omega))))⟩ ?_
            rintro W8 ⟨hb8, m8_0, m8_1, m8_2, m8_3, m8_4, m8_5, m8_6⟩
            clear hb7 f7_0_lt f7_0_c0 f7_0_c1 f7_0_c2 f7_0_c3 f7_0_c4 f7_0_c5 f7_1_lt f7_1_c0 f7_1_c1 f7_1_c2 f7_1_c3 f7_1_c4 f7_1_c5 f7_2_lt f7_2_c0 f7_2_c1 f7_2_c2 f7_2_c3 f7_2_c4 f7_3_lt f7_3_c0 f7_3_c1 f7_3_c2 f7_3_c3 f7_3_c4 f7_3_c5 f7_4_lt f7_4_c0 f7_4_c1 f7_4_c2 f7_4_c3 f7_4_c4 f7_4_c5 f7_5_lt f7_5_c0 f7_5_c1 f7_5_c2 f7_5_c3 f7_5_c4 f7_5_c5 f7_6_lt f7_6_c0 f7_6_c1 f7_6_c2 f7_6_c3 f7_6_c4 f7_6_c5 m7_0 m7_1 m7_2 m7_3 m7_4 m7_5 m7_6 hs7
            have hs8 := hb8.size
            have f8_0_lt := m8_0.lt
            have f8_0_c0 := m8_0.c0
            have f8_0_c1 := m8_0.c1
            have f8_0_c2 := m8_0.c2
            have f8_0_c3 := m8_0.c3
            have f8_0_c4 := m8_0.c4
            have f8_0_c5 := m8_0.c5
            have f8_1_lt := m8_1.lt
            have f8_1_c0 := m8_1.c0
            have f8_1_c1 := m8_1.c1
            have f8_1_c2 := m8_1.c2
            have f8_1_c3 := m8_1.c3
            have f8_1_c4 := m8_1.c4
            have f8_1_c5 := m8_1.c5
            have f8_2_lt := m8_2.lt
            have f8_2_c0 := m8_2.c0
            have f8_2_c1 := m8_2.c1
            have f8_2_c2 := m8_2.c2
            have f8_2_c3 := m8_2.c3
            have f8_2_c4 := m8_2.c4
            have f8_3_lt := m8_3.lt
            have f8_3_c0 := m8_3.c0
            have f8_3_c1 := m8_3.c1
            have f8_3_c2 := m8_3.c2
            have f8_3_c3 := m8_3.c3
            have f8_3_c4 := m8_3.c4
            have f8_3_c5 := m8_3.c5
            have f8_4_lt := m8_4.lt
            have f8_4_c0 := m8_4.c0
            have f8_4_c1 := m8_4.c1
            have f8_4_c2 := m8_4.c2
            have f8_4_c3 := m8_4.c3
            have f8_4_c4 := m8_4.c4
            have f8_4_c5 := m8_4.c5
            have f8_5_lt := m8_5.lt
            have f8_5_c0 := m8_5.c0
            have f8_5_c1 := m8_5.c1
            have f8_5_c2 := m8_5.c2
            have f8_5_c3 := m8_5.c3
            have f8_5_c4 := m8_5.c4
            have f8_5_c5 := m8_5.c5
            have f8_6_lt := m8_6.lt
            have f8_6_c0 := m8_6.c0
            have f8_6_c1 := m8_6.c1
            have f8_6_c2 := m8_6.c2
            have f8_6_c3 := m8_6.c3
            have f8_6_c4 := m8_6.c4
            have f8_6_c5 := m8_6.c5
            refine (Cj.out _).mono ?_; rintro e w' ⟨rfl, qj, rfl⟩
            go_wp2
            all_goals
              go_ret
              exact gives_bool (by simp) (by (repeat' (first | (with_reducible assumption) | (with_reducible exact Below.refl _ _) | (with_reducible refine below_wov ?_ ?_ _) | (with_reducible refine below_drewN ?_ _) | (with_reducible refine Below.drew ?_) | (with_reducible refine Below.alloc ?_ ?_ _) | (with_reducible refine Below.setCell ?_ ?_ _) | (with_reducible exact Nat.le_refl _) | omega | (simp only [World.size_alloc, World.size_setCell, World.size_drew, Wov_size, World.heap_drewN]; omega))))
          · skip
            have bu0 : (eu == 0) = false := by rw [beq_eq_false_iff_ne]; exact hu0
            go_wp2_with (fail)
            obtain ⟨Au, hAu⟩ : ∃ A, W6.heap.size + qu.bl.size = A := ⟨_, rfl⟩
            rw [hAu]
            refine calls_world (fun W => Below w.heap.size w W ∧ BoxZ W w.heap.size a ∧ BoxZ W (w.heap.size + 1) b ∧ BoxS W (w.heap.size + 2) s.lo s.ls s.hi s.hs s.op ∧ BoxZ W Ax rx ∧ BoxZ W Ay ry ∧ BoxZ W Av rv ∧ BoxZ W Au ru) ⟨by (repeat' (first | (with_reducible assumption) | (with_reducible exact Below.refl _ _) | (with_reducible refine below_wov ?_ ?_ _) | (with_reducible refine below_drewN ?_ _) | (with_reducible refine Below.drew ?_) | (with_reducible refine Below.alloc ?_ ?_ _) | (with_reducible refine Below.setCell ?_ ?_ _) | (with_reducible exact Nat.le_refl _) | omega | (simp only [World.size_alloc, World.size_setCell, World.size_drew, Wov_size, World.heap_drewN]; omega))), m6_0.below (by (repeat' (first | (with_reducible assumption) | (with_reducible exact Below.refl _ _) | (with_reducible refine below_wov ?_ ?_ _) | (with_reducible refine below_drewN ?_ _) | (with_reducible refine Below.drew ?_) | (with_reducible refine Below.alloc ?_ ?_ _) | (with_reducible refine Below.setCell ?_ ?_ _) | (with_reducible exact Nat.le_refl _) | omega | (simp only [World.size_alloc, World.size_setCell, World.size_drew, Wov_size, World.heap_drewN]; omega)))), m6_1.below (by (repeat' (first | (with_reducible assumption) | (with_reducible exact Below.refl _ _) | (with_reducible refine below_wov ?_ ?_ _) | (with_reducible refine below_drewN ?_ _) | (with_reducible refine Below.drew ?_) | (with_reducible refine Below.alloc ?_ ?_ _) | (with_reducible refine Below.setCell ?_ ?_ _) | (with_reducible exact Nat.le_refl _) | omega | (simp only [World.size_alloc, World.size_setCell, World.size_drew, Wov_size, World.heap_drewN]; omega)))), m6_2.below (by (repeat' (first | (with_reducible assumption) | (with_reducible exact Below.refl _ _) | (with_reducible refine below_wov ?_ ?_ _) | (with_reducible refine below_drewN ?_ _) | (with_reducible refine Below.drew ?_) | (with_reducible refine Below.alloc ?_ ?_ _) | (with_reducible refine Below.setCell ?_ ?_ _) | (with_reducible exact Nat.le_refl _) | omega | (simp only [World.size_alloc, World.size_setCell, World.size_drew, Wov_size, World.heap_drewN]; omega)))), m6_3.below (by (repeat' (first | (with_reducible assumption) | (with_reducible exact Below.refl _ _) | (with_reducible refine below_wov ?_ ?_ _) | (with_reducible refine below_drewN ?_ _) | (with_reducible refine Below.drew ?_) | (with_reducible refine Below.alloc ?_ ?_ _) | (with_reducible refine Below.setCell ?_ ?_ _) | (with_reducible exact Nat.le_refl _) | omega | (simp only [World.size_alloc, World.size_setCell, World.size_drew, Wov_size, World.heap_drewN]; omega)))), m6_4.below (by (repeat' (first | (with_reducible assumption) | (with_reducible exact Below.refl _ _) | (with_reducible refine below_wov ?_ ?_ _) | (with_reducible refine below_drewN ?_ _) | (with_reducible refine Below.drew ?_) | (with_reducible refine Below.alloc ?_ ?_ _) | (with_reducible refine Below.setCell ?_ ?_ _) | (with_reducible exact Nat.le_refl _) | omega | (simp only [World.size_alloc, World.size_setCell, World.size_drew, Wov_size, World.heap_drewN]; omega)))), m6_5.below (by (repeat' (first | (with_reducible assumption) | (with_reducible exact Below.refl _ _) | (with_reducible refine below_wov ?_ ?_ _) | (with_reducible refine below_drewN ?_ _) | (with_reducible refine Below.drew ?_) | (with_reducible refine Below.alloc ?_ ?_ _) | (with_reducible refine Below.setCell ?_ ?_ _) | (with_reducible exact Nat.le_refl _) | omega | (simp only [World.size_alloc, World.size_setCell, World.size_drew, Wov_size, World.heap_drewN]; omega)))), BoxZ.new (by rw [← hAu]; (try simp only [Wov_size]))⟩ ?_
            rintro W7 ⟨hb7, m7_0, m7_1, m7_2, m7_3, m7_4, m7_5, m7_6⟩
            clear hb6 f6_0_lt f6_0_c0 f6_0_c1 f6_0_c2 f6_0_c3 f6_0_c4 f6_0_c5 f6_1_lt f6_1_c0 f6_1_c1 f6_1_c2 f6_1_c3 f6_1_c4 f6_1_c5 f6_2_lt f6_2_c0 f6_2_c1 f6_2_c2 f6_2_c3 f6_2_c4 f6_3_lt f6_3_c0 f6_3_c1 f6_3_c2 f6_3_c3 f6_3_c4 f6_3_c5 f6_4_lt f6_4_c0 f6_4_c1 f6_4_c2 f6_4_c3 f6_4_c4 f6_4_c5 f6_5_lt f6_5_c0 f6_5_c1 f6_5_c2 f6_5_c3 f6_5_c4 f6_5_c5 m6_0 m6_1 m6_2 m6_3 m6_4 m6_5 hs6
            have hs7 := hb7.size
            have f7_0_lt := m7_0.lt
            have f7_0_c0 := m7_0.c0
            have f7_0_c1 := m7_0.c1
            have f7_0_c2 := m7_0.c2
            have f7_0_c3 := m7_0.c3
            have f7_0_c4 := m7_0.c4
            have f7_0_c5 := m7_0.c5
            have f7_1_lt := m7_1.lt
            have f7_1_c0 := m7_1.c0
            have f7_1_c1 := m7_1.c1
            have f7_1_c2 := m7_1.c2
            have f7_1_c3 := m7_1.c3
            have f7_1_c4 := m7_1.c4
            have f7_1_c5 := m7_1.c5
            have f7_2_lt := m7_2.lt
            have f7_2_c0 := m7_2.c0
            have f7_2_c1 := m7_2.c1
            have f7_2_c2 := m7_2.c2
            have f7_2_c3 := m7_2.c3
            have f7_2_c4 := m7_2.c4
            have f7_3_lt := m7_3.lt
            have f7_3_c0 := m7_3.c0
            have f7_3_c1 := m7_3.c1
            have f7_3_c2 := m7_3.c2
            have f7_3_c3 := m7_3.c3
            have f7_3_c4 := m7_3.c4
            have f7_3_c5 := m7_3.c5
            have f7_4_lt := m7_4.lt
            have f7_4_c0 := m7_4.c0
            have f7_4_c1 := m7_4.c1
            have f7_4_c2 := m7_4.c2
            have f7_4_c3 := m7_4.c3
            have f7_4_c4 := m7_4.c4
            have f7_4_c5 := m7_4.c5
            have f7_5_lt := m7_5.lt
            have f7_5_c0 := m7_5.c0
            have f7_5_c1 := m7_5.c1
            have f7_5_c2 := m7_5.c2
            have f7_5_c3 := m7_5.c3
            have f7_5_c4 := m7_5.c4
            have f7_5_c5 := m7_5.c5
            have f7_6_lt := m7_6.lt
            have f7_6_c0 := m7_6.c0
            have f7_6_c1 := m7_6.c1
            have f7_6_c2 := m7_6.c2
            have f7_6_c3 := m7_6.c3
            have f7_6_c4 := m7_6.c4
            have f7_6_c5 := m7_6.c5
            clear hAu
            refine (Cj.out _).mono ?_; rintro e w' ⟨rfl, qj, rfl⟩
            go_wp2
            all_goals
              go_ret
              exact gives_bool (by simp) (by (repeat' (first | (with_reducible assumption) | (with_reducible exact Below.refl _ _) | (with_reducible refine below_wov ?_ ?_ _) | (with_reducible refine below_drewN ?_ _) | (with_reducible refine Below.drew ?_) | (with_reducible refine Below.alloc ?_ ?_ _) | (with_reducible refine Below.setCell ?_ ?_ _) | (with_reducible exact Nat.le_refl _) | omega | (simp only [World.size_alloc, World.size_setCell, World.size_drew, Wov_size, World.heap_drewN]; omega))))
        · skip
          have bv0 : (ev == 0) = false := by rw [beq_eq_false_iff_ne]; exact hv0
          go_wp2_with (fail)
          obtain ⟨Au, hAu⟩ : ∃ A, W6.heap.size + qu.bl.size = A := ⟨_, rfl⟩
          rw [hAu]
          refine calls_world (fun W => Below w.heap.size w W ∧ BoxZ W w.heap.size a ∧ BoxZ W (w.heap.size + 1) b ∧ BoxS W (w.heap.size + 2) s.lo s.ls s.hi s.hs s.op ∧ BoxZ W Ax rx ∧ BoxZ W Ay ry ∧ BoxZ W Av rv ∧ BoxZ W Au ru) ⟨by (repeat' (first | (with_reducible assumption) | (with_reducible exact Below.refl _ _) | (with_reducible refine below_wov ?_ ?_ _) | (with_reducible refine below_drewN ?_ _) | (with_reducible refine Below.drew ?_) | (with_reducible refine Below.alloc ?_ ?_ _) | (with_reducible refine Below.setCell ?_ ?_ _) | (with_reducible exact Nat.le_refl _) | omega | (simp only [World.size_alloc, World.size_setCell, World.size_drew, Wov_size, World.heap_drewN]; omega))), m6_0.below (by (repeat' (first | (with_reducible assumption) | (with_reducible exact Below.refl _ _) | (with_reducible refine below_wov ?_ ?_ _) | (with_reducible refine below_drewN ?_ _) | (with_reducible refine Below.drew ?_) | (with_reducible refine Below.alloc ?_ ?_ _) | (with_reducible refine Below.setCell ?_ ?_ _) | (with_reducible exact Nat.le_refl _) | omega | (simp only [World.size_alloc, World.size_setCell, World.size_drew, Wov_size, World.heap_drewN]; omega)))), m6_1.below (by (repeat' (first | (with_reducible assumption) | (with_reducible exact Below.refl _ _) | (with_reducible refine below_wov ?_ ?_ _) | (with_reducible refine below_drewN ?_ _) | (with_reducible refine Below.drew ?_) | (with_reducible refine Below.alloc ?_ ?_ _) | (with_reducible refine Below.setCell ?_ ?_ _) | (with_reducible exact Nat.le_refl _) | omega | (simp only [World.size_alloc, World.size_setCell, World.size_drew, Wov_size, World.heap_drewN]; omega)))), m6_2.below (by (repeat' (first | (with_reducible assumption) | (with_reducible exact Below.refl _ _) | (with_reducible refine below_wov ?_ ?_ _) | (with_reducible refine below_drewN ?_ _) | (with_reducible refine Below.drew ?_) | (with_reducible refine Below.alloc ?_ ?_ _) | (with_reducible refine Below.setCell ?_ ?_ _) | (with_reducible exact Nat.le_refl _) | omega | (simp only [World.size_alloc, World.size_setCell, World.size_drew, Wov_size, World.heap_drewN]; omega)))), m6_3.below (by (repeat' (first | (with_reducible assumption) | (with_reducible exact Below.refl _ _) | (with_reducible refine below_wov ?_ ?_ _) | (with_reducible refine below_drewN ?_ _) | (with_reducible refine Below.drew ?_) | (with_reducible refine Below.alloc ?_ ?_ _) | (with_reducible refine Below.setCell ?_ ?_ _) | (with_reducible exact Nat.le_refl _) | omega | (simp only [World.size_alloc, World.size_setCell, World.size_drew, Wov_size, World.heap_drewN]; omega)))), m6_4.below (by (repeat' (first | (with_reducible assumption) | (with_reducible exact Below.refl _ _) | (with_reducible refine below_wov ?_ ?_ _) | (with_reducible refine below_drewN ?_ _) | (with_reducible refine Below.drew ?_) | (with_reducible refine Below.alloc ?_ ?_ _) | (with_reducible refine Below.setCell ?_ ?_ _) | (with_reducible exact Nat.le_refl _) | omega | (simp only [World.size_alloc, World.size_setCell, World.size_drew, Wov_size, World.heap_drewN]; omega)))), m6_5.below (by (repeat' (first | (with_reducible assumption) | (with_reducible exact Below.refl _ _) | (with_reducible refine below_wov ?_ ?_ _) | (with_reducible refine below_drewN ?_ _) | (with_reducible refine Below.drew ?_) | (with_reducible refine Below.alloc ?_ ?_ _) | (with_reducible refine Below.setCell ?_ ?_ _) | (with_reducible exact Nat.le_refl _) | omega | (simp only [World.size_alloc, World.size_setCell, World.size_drew, Wov_size, World.heap_drewN]; omega)))), BoxZ.new (by rw [← hAu]; (try simp only [Wov_size]))⟩ ?_
          rintro W7 ⟨hb7, m7_0, m7_1, m7_2, m7_3, m7_4, m7_5, m7_6⟩
          clear hb6 f6_0_lt f6_0_c0 f6_0_c1 f6_0_c2 f6_0_c3 f6_0_c4 f6_0_c5 f6_1_lt f6_1_c0 f6_1_c1 f6_1_c2 f6_1_c3 f6_1_c4 f6_1_c5 f6_2_lt f6_2_c0 f6_2_c1 f6_2_c2 f6_2_c3 f6_2_c4 f6_3_lt f6_3_c0 f6_3_c1 f6_3_c2 f6_3_c3 f6_3_c4 f6_3_c5 f6_4_lt f6_4_c0 f6_4_c1 f6_4_c2 f6_4_c3 f6_4_c4 f6_4_c5 f6_5_lt f6_5_c0 f6_5_c1 f6_5_c2 f6_5_c3 f6_5_c4 f6_5_c5 m6_0 m6_1 m6_2 m6_3 m6_4 m6_5 hs6
          have hs7 := hb7.size
          have f7_0_lt := m7_0.lt
          have f7_0_c0 := m7_0.c0
          have f7_0_c1 := m7_0.c1
          have f7_0_c2 := m7_0.c2
          have f7_0_c3 := m7_0.c3
          have f7_0_c4 := m7_0.c4
          have f7_0_c5 := m7_0.c5
          have f7_1_lt := m7_1.lt
          have f7_1_c0 := m7_1.c0
          have f7_1_c1 := m7_1.c1
          have f7_1_c2 := m7_1.c2
          have f7_1_c3 := m7_1.c3
          have f7_1_c4 := m7_1.c4
          have f7_1_c5 := m7_1.c5
          have f7_2_lt := m7_2.lt
          have f7_2_c0 := m7_2.c0
          have f7_2_c1 := m7_2.c1
          have f7_2_c2 := m7_2.c2
          have f7_2_c3 := m7_2.c3
          have f7_2_c4 := m7_2.c4
          have f7_3_lt := m7_3.lt
          have f7_3_c0 := m7_3.c0
          have f7_3_c1 := m7_3.c1
          have f7_3_c2 := m7_3.c2
          have f7_3_c3 := m7_3.c3
          have f7_3_c4 := m7_3.c4
          have f7_3_c5 := m7_3.c5
          have f7_4_lt := m7_4.lt
          have f7_4_c0 := m7_4.c0
          have f7_4_c1 := m7_4.c1
          have f7_4_c2 := m7_4.c2
          have f7_4_c3 := m7_4.c3
          have f7_4_c4 := m7_4.c4
          have f7_4_c5 := m7_4.c5
          have f7_5_lt := m7_5.lt
          have f7_5_c0 := m7_5.c0
          have f7_5_c1 := m7_5.c1
          have f7_5_c2 := m7_5.c2
          have f7_5_c3 := m7_5.c3
          have f7_5_c4 := m7_5.c4
          have f7_5_c5 := m7_5.c5
          have f7_6_lt := m7_6.lt
          have f7_6_c0 := m7_6.c0
          have f7_6_c1 := m7_6.c1
          have f7_6_c2 := m7_6.c2
          have f7_6_c3 := m7_6.c3
          have f7_6_c4 := m7_6.c4
          have f7_6_c5 := m7_6.c5
          clear hAu
          refine (Cj.out _).mono ?_; rintro e w' ⟨rfl, qj, rfl⟩
          go_wp2
          all_goals
            go_ret
            exact gives_bool (by simp) (by (repeat' (first | (with_reducible assumption) | (with_reducible exact Below.refl _ _) | (with_reducible refine below_wov ?_ ?_ _) | (with_reducible refine below_drewN ?_ _) | (with_reducible refine Below.drew ?_) | (with_reducible refine Below.alloc ?_ ?_ _) | (with_reducible refine Below.setCell ?_ ?_ _) | (with_reducible exact Nat.le_refl _) | omega | (simp only [World.size_alloc, World.size_setCell, World.size_drew, Wov_size, World.heap_drewN]; omega))))
  · skip
    have hb : (e != 0) = true := by rw [bne_iff_ne]; exact he
    go_wp2
    all_goals
      go_ret
      exact gives_bool (by simp) (by (repeat' (first | (with_reducible assumption) | (with_reducible exact Below.refl _ _) | (with_reducible refine below_wov ?_ ?_ _) | (with_reducible refine below_drewN ?_ _) | (with_reducible refine Below.drew ?_) | (with_reducible refine Below.alloc ?_ ?_ _) | (with_reducible refine Below.setCell ?_ ?_ _) | (with_reducible exact Nat.le_refl _) | omega | (simp only [World.size_alloc, World.size_setCell, World.size_drew, Wov_size, World.heap_drewN]; omega))))
theorem walk (z0 : Nat → Int) (wz0 : FitsZ z0) (z1 : Nat → Int) (wz1 : FitsZ z1) (lo2 : Int) (ls2 : Bool) (hi2 : Int) (hs2 op2 : Bool) (wlo2 : fits64 lo2) (whi2 : fits64 hi2) (a3 : Int) (wa3 : (Lit.int .i64 a3).wf = true) (a4 : Int) (wa4 : (Lit.int .i64 a4).wf = true) (a5 : Int) (wa5 : (Lit.int .i64 a5).wf = true) (w : World) : Calls Try.prog 11 #[zoneV z0, zoneV z1, .agg #[.int .i64 lo2, .bool ls2, .int .i64 hi2, .bool hs2, .bool op2], .int .i64 a3, .int .i64 a4, .int .i64 a5] w (Gives w (.bool true)) := walk0 z0 wz0 z1 wz1 ⟨lo2, ls2, hi2, hs2, op2⟩ wlo2 whi2 a3 (fits_of_wf wa3) a4 (fits_of_wf wa4) a5 (fits_of_wf wa5) w
end Go.Proofs.Ytnjhjgkekmjmdaa.winLess
