/- The law WinOrder (walk): which of span and window comes first turns nothing; windows that follow one another share no pair. No condition. -/
import Derived.Test.YtnjhjgkekmjmdaaK11
import Derived.Test.YtnjhjgkekmjmdaaH9
import Derived.Test.YtnjhjgkekmjmdaaH12
import Derived.Test.YtnjhjgkekmjmdaaFrame2
namespace Go.Proofs.Ytnjhjgkekmjmdaa.winOrder
open Go.ChangeShapes Go.WideShapes Go.ChangeAt Go.RowKit
set_option linter.unusedVariables false
set_option linter.unusedSimpArgs false
attribute [local go_sem] Nat.add_assoc Nat.add_lt_add_iff_left lit_lt_add

set_option maxRecDepth 100000 in
set_option maxHeartbeats 16000000 in
theorem walk0 (z : Nat → Int) (wz : FitsZ z) (s : Sp) (wlo : fits64 s.lo) (whi : fits64 s.hi) (p : Int) (wp : fits64 p) (q : Int) (wq : fits64 q) (m : Int) (wm : fits64 m) (w : World) :
    Calls Try.prog 12 #[zoneV z, .agg #[.int .i64 s.lo, .bool s.ls, .int .i64 s.hi, .bool s.hs, .bool s.op], .int .i64 p, .int .i64 q, .int .i64 m] w (Gives w (.bool true)) := by
  have HA := Lib.hid alive10
  obtain ⟨⟨ra, ea⟩, ha⟩ : ∃ r, r = withinZ z s := ⟨_, rfl⟩
  have Ca : Hid (∀ w, Calls Try.prog 37 #[.agg #[.int .i64 (z 0), .int .i64 (z 1), .int .i64 (z 2), .int .i64 (z 3), .int .i64 (z 4), .int .i64 (z 5)], .agg #[.int .i64 s.lo, .bool s.ls, .int .i64 s.hi, .bool s.hs, .bool s.op]] w (Gives w (.tuple #[.agg #[.int .i64 (ra 0), .int .i64 (ra 1), .int .i64 (ra 2), .int .i64 (ra 3), .int .i64 (ra 4), .int .i64 (ra 5)], .int .i64 ea]))) := fun w => by
    have := wwithin_any z s w wz wlo whi
    rw [← ha] at this; exact this
  obtain ⟨⟨rb, eb⟩, hb⟩ : ∃ r, r = windowZ z p q := ⟨_, rfl⟩
  have Cb : Hid (∀ w, Calls Try.prog 39 #[.agg #[.int .i64 (z 0), .int .i64 (z 1), .int .i64 (z 2), .int .i64 (z 3), .int .i64 (z 4), .int .i64 (z 5)], .int .i64 p, .int .i64 q] w (Gives w (.tuple #[.agg #[.int .i64 (rb 0), .int .i64 (rb 1), .int .i64 (rb 2), .int .i64 (rb 3), .int .i64 (rb 4), .int .i64 (rb 5)], .int .i64 eb]))) := fun w => by
    have := wwindow_any z p q w wz wp wq
    rw [← hb] at this; exact this
  obtain ⟨⟨rx, ex⟩, hx⟩ : ∃ r, r = windowZ z q m := ⟨_, rfl⟩
  have Cx : Hid (∀ w, Calls Try.prog 39 #[.agg #[.int .i64 (z 0), .int .i64 (z 1), .int .i64 (z 2), .int .i64 (z 3), .int .i64 (z 4), .int .i64 (z 5)], .int .i64 q, .int .i64 m] w (Gives w (.tuple #[.agg #[.int .i64 (rx 0), .int .i64 (rx 1), .int .i64 (rx 2), .int .i64 (rx 3), .int .i64 (rx 4), .int .i64 (rx 5)], .int .i64 ex]))) := fun w => by
    have := wwindow_any z q m w wz wq wm
    rw [← hx] at this; exact this
  have O1 : Hid (ea = 0 → eb = 0 → ∃ (c : Nat → Int) (ec : Int), (∀ w, Calls Try.prog 39 #[.agg #[.int .i64 (ra 0), .int .i64 (ra 1), .int .i64 (ra 2), .int .i64 (ra 3), .int .i64 (ra 4), .int .i64 (ra 5)], .int .i64 p, .int .i64 q] w (Gives w (.tuple #[.agg #[.int .i64 (c 0), .int .i64 (c 1), .int .i64 (c 2), .int .i64 (c 3), .int .i64 (c 4), .int .i64 (c 5)], .int .i64 ec]))) ∧ (∀ w, Calls Try.prog 37 #[.agg #[.int .i64 (rb 0), .int .i64 (rb 1), .int .i64 (rb 2), .int .i64 (rb 3), .int .i64 (rb 4), .int .i64 (rb 5)], .agg #[.int .i64 s.lo, .bool s.ls, .int .i64 s.hi, .bool s.hs, .bool s.op]] w (Gives w (.tuple #[.agg #[.int .i64 (c 0), .int .i64 (c 1), .int .i64 (c 2), .int .i64 (c 3), .int .i64 (c 4), .int .i64 (c 5)], .int .i64 ec])))) := fun h1 h2 => by
    subst h1; subst h2
    obtain ⟨k1, k2, k3⟩ := order1_law ha.symm hb.symm
    refine ⟨(windowZ ra p q).1, (windowZ ra p q).2, fun w => wwindow_any ra p q w (okZ_fits k2) wp wq, fun w => ?_⟩
    rw [k1]
    exact wwithin_any rb s w (okZ_fits k3) wlo whi
  have O2 : Hid (eb = 0 → ex = 0 → ∃ (mm r : Nat → Int), (∀ w, Calls Try.prog 55 #[.agg #[.int .i64 (rb 0), .int .i64 (rb 1), .int .i64 (rb 2), .int .i64 (rb 3), .int .i64 (rb 4), .int .i64 (rb 5)], .agg #[.int .i64 (rx 0), .int .i64 (rx 1), .int .i64 (rx 2), .int .i64 (rx 3), .int .i64 (rx 4), .int .i64 (rx 5)]] w (Gives w (.tuple #[.agg #[.int .i64 (mm 0), .int .i64 (mm 1), .int .i64 (mm 2), .int .i64 (mm 3), .int .i64 (mm 4), .int .i64 (mm 5)], .int .i64 6]))) ∧ (∀ w, Calls Try.prog 39 #[.agg #[.int .i64 (z 0), .int .i64 (z 1), .int .i64 (z 2), .int .i64 (z 3), .int .i64 (z 4), .int .i64 (z 5)], .int .i64 p, .int .i64 m] w (Gives w (.tuple #[.agg #[.int .i64 (r 0), .int .i64 (r 1), .int .i64 (r 2), .int .i64 (r 3), .int .i64 (r 4), .int .i64 (r 5)], .int .i64 0]))) ∧ (∀ w, Calls Try.prog 53 #[.agg #[.int .i64 (rb 0), .int .i64 (rb 1), .int .i64 (rb 2), .int .i64 (rb 3), .int .i64 (rb 4), .int .i64 (rb 5)], .agg #[.int .i64 (r 0), .int .i64 (r 1), .int .i64 (r 2), .int .i64 (r 3), .int .i64 (r 4), .int .i64 (r 5)]] w (Gives w (.tuple #[.bool true, .int .i64 0]))) ∧ (∀ w, Calls Try.prog 53 #[.agg #[.int .i64 (rx 0), .int .i64 (rx 1), .int .i64 (rx 2), .int .i64 (rx 3), .int .i64 (rx 4), .int .i64 (rx 5)], .agg #[.int .i64 (r 0), .int .i64 (r 1), .int .i64 (r 2), .int .i64 (r 3), .int .i64 (r 4), .int .i64 (r 5)]] w (Gives w (.tuple #[.bool true, .int .i64 0])))) := fun h1 h2 => by
    subst h1; subst h2
    obtain ⟨k1, r, k2, k3, k4⟩ := order2_law hb.symm hx.symm
    have okb := (window_ok hb.symm).2.2.1
    have okx := (window_ok hx.symm).2.2.1
    have okr := (window_ok k2).2.2.1
    refine ⟨(meetZ rb rx).1, r, fun w => ?_, fun w => ?_, fun w => ?_, fun w => ?_⟩
    · have := zmeet_any rb rx w (okZ_fits okb) (okZ_fits okx)
      rw [k1] at this; exact this
    · have := wwindow_any z p m w wz wp wm
      rw [k2] at this; exact this
    · have := zin_any rb r w (okZ_fits okb) (okZ_fits okr)
      rw [k3] at this; exact this
    · have := zin_any rx r w (okZ_fits okx) (okZ_fits okr)
      rw [k4] at this; exact this
  clear ha hb hx wz wlo whi wp wq wm
  unfold zoneV
  go_enter Try.func12, Try.ntmps12
  go_wp2_with (fail)
  refine calls_world (fun W => Below w.heap.size w W ∧ BoxZ W w.heap.size z ∧ BoxS W (w.heap.size + 1) s.lo s.ls s.hi s.hs s.op) ⟨by (repeat' (first | (with_reducible assumption) | (with_reducible exact Below.refl _ _) | (with_reducible refine below_wov ?_ ?_ _) | (with_reducible refine below_drewN ?_ _) | (with_reducible refine Below.drew ?_) | (with_reducible refine Below.alloc ?_ ?_ _) | (with_reducible refine Below.setCell ?_ ?_ _) | (with_reducible exact Nat.le_refl _) | omega | (simp only [World.size_alloc, World.size_setCell, World.size_drew, Wov_size, World.heap_drewN]; omega))), (BoxZ.new (W := w) (t := 26) (by simp)).below (by (repeat' (first | (with_reducible assumption) | (with_reducible exact Below.refl _ _) | (with_reducible refine below_wov ?_ ?_ _) | (with_reducible refine below_drewN ?_ _) | (with_reducible refine Below.drew ?_) | (with_reducible refine Below.alloc ?_ ?_ _) | (with_reducible refine Below.setCell ?_ ?_ _) | (with_reducible exact Nat.le_refl _) | omega | (simp only [World.size_alloc, World.size_setCell, World.size_drew, Wov_size, World.heap_drewN]; omega)))), (BoxS.new (W := (World.alloc w (.cells #[.int .i64 (z 0), .int .i64 (z 1), .int .i64 (z 2), .int .i64 (z 3), .int .i64 (z 4), .int .i64 (z 5)] 26))) (t := 23) (by simp)).below (by (repeat' (first | (with_reducible assumption) | (with_reducible exact Below.refl _ _) | (with_reducible refine below_wov ?_ ?_ _) | (with_reducible refine below_drewN ?_ _) | (with_reducible refine Below.drew ?_) | (with_reducible refine Below.alloc ?_ ?_ _) | (with_reducible refine Below.setCell ?_ ?_ _) | (with_reducible exact Nat.le_refl _) | omega | (simp only [World.size_alloc, World.size_setCell, World.size_drew, Wov_size, World.heap_drewN]; omega))))⟩ ?_
  rintro W1 ⟨hb1, m1_0, m1_1⟩
  have hs1 := hb1.size
  have f1_0_lt := m1_0.lt
  have f1_0_c0 := m1_0.c0
  have f1_0_c1 := m1_0.c1
  have f1_0_c2 := m1_0.c2
  have f1_0_c3 := m1_0.c3
  have f1_0_c4 := m1_0.c4
  have f1_0_c5 := m1_0.c5
  have f1_1_lt := m1_1.lt
  have f1_1_c0 := m1_1.c0
  have f1_1_c1 := m1_1.c1
  have f1_1_c2 := m1_1.c2
  have f1_1_c3 := m1_1.c3
  have f1_1_c4 := m1_1.c4
  refine (HA.out _).mono ?_; rintro e w' ⟨rfl, q0, rfl⟩
  go_wp2_with (fail)
  refine calls_world (fun W => Below w.heap.size w W ∧ BoxZ W w.heap.size z ∧ BoxS W (w.heap.size + 1) s.lo s.ls s.hi s.hs s.op) ⟨by (repeat' (first | (with_reducible assumption) | (with_reducible exact Below.refl _ _) | (with_reducible refine below_wov ?_ ?_ _) | (with_reducible refine below_drewN ?_ _) | (with_reducible refine Below.drew ?_) | (with_reducible refine Below.alloc ?_ ?_ _) | (with_reducible refine Below.setCell ?_ ?_ _) | (with_reducible exact Nat.le_refl _) | omega | (simp only [World.size_alloc, World.size_setCell, World.size_drew, Wov_size, World.heap_drewN]; omega))), m1_0.below (by (repeat' (first | (with_reducible assumption) | (with_reducible exact Below.refl _ _) | (with_reducible refine below_wov ?_ ?_ _) | (with_reducible refine below_drewN ?_ _) | (with_reducible refine Below.drew ?_) | (with_reducible refine Below.alloc ?_ ?_ _) | (with_reducible refine Below.setCell ?_ ?_ _) | (with_reducible exact Nat.le_refl _) | omega | (simp only [World.size_alloc, World.size_setCell, World.size_drew, Wov_size, World.heap_drewN]; omega)))), m1_1.below (by (repeat' (first | (with_reducible assumption) | (with_reducible exact Below.refl _ _) | (with_reducible refine below_wov ?_ ?_ _) | (with_reducible refine below_drewN ?_ _) | (with_reducible refine Below.drew ?_) | (with_reducible refine Below.alloc ?_ ?_ _) | (with_reducible refine Below.setCell ?_ ?_ _) | (with_reducible exact Nat.le_refl _) | omega | (simp only [World.size_alloc, World.size_setCell, World.size_drew, Wov_size, World.heap_drewN]; omega))))⟩ ?_
  rintro W2 ⟨hb2, m2_0, m2_1⟩
  clear hb1 f1_0_lt f1_0_c0 f1_0_c1 f1_0_c2 f1_0_c3 f1_0_c4 f1_0_c5 f1_1_lt f1_1_c0 f1_1_c1 f1_1_c2 f1_1_c3 f1_1_c4 m1_0 m1_1 hs1
  have hs2 := hb2.size
  have f2_0_lt := m2_0.lt
  have f2_0_c0 := m2_0.c0
  have f2_0_c1 := m2_0.c1
  have f2_0_c2 := m2_0.c2
  have f2_0_c3 := m2_0.c3
  have f2_0_c4 := m2_0.c4
  have f2_0_c5 := m2_0.c5
  have f2_1_lt := m2_1.lt
  have f2_1_c0 := m2_1.c0
  have f2_1_c1 := m2_1.c1
  have f2_1_c2 := m2_1.c2
  have f2_1_c3 := m2_1.c3
  have f2_1_c4 := m2_1.c4
  refine (Ca.out _).mono ?_; rintro e w' ⟨rfl, qa, rfl⟩
  go_wp2_with (fail)
  obtain ⟨Aa, hAa⟩ : ∃ A, W2.heap.size + qa.bl.size = A := ⟨_, rfl⟩
  rw [hAa]
  refine calls_world (fun W => Below w.heap.size w W ∧ BoxZ W w.heap.size z ∧ BoxS W (w.heap.size + 1) s.lo s.ls s.hi s.hs s.op ∧ BoxZ W Aa ra) ⟨by (repeat' (first | (with_reducible assumption) | (with_reducible exact Below.refl _ _) | (with_reducible refine below_wov ?_ ?_ _) | (with_reducible refine below_drewN ?_ _) | (with_reducible refine Below.drew ?_) | (with_reducible refine Below.alloc ?_ ?_ _) | (with_reducible refine Below.setCell ?_ ?_ _) | (with_reducible exact Nat.le_refl _) | omega | (simp only [World.size_alloc, World.size_setCell, World.size_drew, Wov_size, World.heap_drewN]; omega))), m2_0.below (by (repeat' (first | (with_reducible assumption) | (with_reducible exact Below.refl _ _) | (with_reducible refine below_wov ?_ ?_ _) | (with_reducible refine below_drewN ?_ _) | (with_reducible refine Below.drew ?_) | (with_reducible refine Below.alloc ?_ ?_ _) | (with_reducible refine Below.setCell ?_ ?_ _) | (with_reducible exact Nat.le_refl _) | omega | (simp only [World.size_alloc, World.size_setCell, World.size_drew, Wov_size, World.heap_drewN]; omega)))), m2_1.below (by (repeat' (first | (with_reducible assumption) | (with_reducible exact Below.refl _ _) | (with_reducible refine below_wov ?_ ?_ _) | (with_reducible refine below_drewN ?_ _) | (with_reducible refine Below.drew ?_) | (with_reducible refine Below.alloc ?_ ?_ _) | (with_reducible refine Below.setCell ?_ ?_ _) | (with_reducible exact Nat.le_refl _) | omega | (simp only [World.size_alloc, World.size_setCell, World.size_drew, Wov_size, World.heap_drewN]; omega)))), BoxZ.new (by rw [← hAa]; (try simp only [Wov_size]))⟩ ?_
  rintro W3 ⟨hb3, m3_0, m3_1, m3_2⟩
  clear hb2 f2_0_lt f2_0_c0 f2_0_c1 f2_0_c2 f2_0_c3 f2_0_c4 f2_0_c5 f2_1_lt f2_1_c0 f2_1_c1 f2_1_c2 f2_1_c3 f2_1_c4 m2_0 m2_1 hs2
  have hs3 := hb3.size
  have f3_0_lt := m3_0.lt
  have f3_0_c0 := m3_0.c0
  have f3_0_c1 := m3_0.c1
  have f3_0_c2 := m3_0.c2
  have f3_0_c3 := m3_0.c3
  have f3_0_c4 := m3_0.c4
  have f3_0_c5 := m3_0.c5
  have f3_1_lt := m3_1.lt
  have f3_1_c0 := m3_1.c0
  have f3_1_c1 := m3_1.c1
  have f3_1_c2 := m3_1.c2
  have f3_1_c3 := m3_1.c3
  have f3_1_c4 := m3_1.c4
  have f3_2_lt := m3_2.lt
  have f3_2_c0 := m3_2.c0
  have f3_2_c1 := m3_2.c1
  have f3_2_c2 := m3_2.c2
  have f3_2_c3 := m3_2.c3
  have f3_2_c4 := m3_2.c4
  have f3_2_c5 := m3_2.c5
  clear hAa Ca
  refine (Cb.out _).mono ?_; rintro e w' ⟨rfl, qb, rfl⟩
  clear Cb HA
  by_cases hb0 : eb = 0
  · skip
    subst hb0
    by_cases ha0 : ea = 0
    · skip
      subst ha0
      obtain ⟨c, ec, N1, N2⟩ := O1.out (by simp) (by simp)
      have N1 := Lib.hid N1
      have N2 := Lib.hid N2
      have E : eq6 (c 0) (c 1) (c 2) (c 3) (c 4) (c 5) (c 0) (c 1) (c 2) (c 3) (c 4) (c 5) = true := (eq6_iff c c).2 (fun _ _ => rfl)
      go_wp2_with (fail)
      obtain ⟨Ab, hAb⟩ : ∃ A, W3.heap.size + qb.bl.size = A := ⟨_, rfl⟩
      rw [hAb]
      refine calls_world (fun W => Below w.heap.size w W ∧ BoxZ W w.heap.size z ∧ BoxS W (w.heap.size + 1) s.lo s.ls s.hi s.hs s.op ∧ BoxZ W Aa ra ∧ BoxZ W Ab rb) ⟨by (repeat' (first | (with_reducible assumption) | (with_reducible exact Below.refl _ _) | (with_reducible refine below_wov ?_ ?_ _) | (with_reducible refine below_drewN ?_ _) | (with_reducible refine Below.drew ?_) | (with_reducible refine Below.alloc ?_ ?_ _) | (with_reducible refine Below.setCell ?_ ?_ _) | (with_reducible exact Nat.le_refl _) | omega | (simp only [World.size_alloc, World.size_setCell, World.size_drew, Wov_size, World.heap_drewN]; omega))), m3_0.below (by (repeat' (first | (with_reducible assumption) | (with_reducible exact Below.refl _ _) | (with_reducible refine below_wov ?_ ?_ _) | (with_reducible refine below_drewN ?_ _) | (with_reducible refine Below.drew ?_) | (with_reducible refine Below.alloc ?_ ?_ _) | (with_reducible refine Below.setCell ?_ ?_ _) | (with_reducible exact Nat.le_refl _) | omega | (simp only [World.size_alloc, World.size_setCell, World.size_drew, Wov_size, World.heap_drewN]; omega)))), m3_1.below (by (repeat' (first | (with_reducible assumption) | (with_reducible exact Below.refl _ _) | (with_reducible refine below_wov ?_ ?_ _) | (with_reducible refine below_drewN ?_ _) | (with_reducible refine Below.drew ?_) | (with_reducible refine Below.alloc ?_ ?_ _) | (with_reducible refine Below.setCell ?_ ?_ _) | (with_reducible exact Nat.le_refl _) | omega | (simp only [World.size_alloc, World.size_setCell, World.size_drew, Wov_size, World.heap_drewN]; omega)))), m3_2.below (by (repeat' (first | (with_reducible assumption) | (with_reducible exact Below.refl _ _) | (with_reducible refine below_wov ?_ ?_ _) | (with_reducible refine below_drewN ?_ _) | (with_reducible refine Below.drew ?_) | (with_reducible refine Below.alloc ?_ ?_ _) | (with_reducible refine Below.setCell ?_ ?_ _) | (with_reducible exact Nat.le_refl _) | omega | (simp only [World.size_alloc, World.size_setCell, World.size_drew, Wov_size, World.heap_drewN]; omega)))), BoxZ.new (by rw [← hAb]; (try simp only [Wov_size]))⟩ ?_
      rintro W4 ⟨hb4, m4_0, m4_1, m4_2, m4_3⟩
      clear hb3 f3_0_lt f3_0_c0 f3_0_c1 f3_0_c2 f3_0_c3 f3_0_c4 f3_0_c5 f3_1_lt f3_1_c0 f3_1_c1 f3_1_c2 f3_1_c3 f3_1_c4 f3_2_lt f3_2_c0 f3_2_c1 f3_2_c2 f3_2_c3 f3_2_c4 f3_2_c5 m3_0 m3_1 m3_2 hs3
      have hs4 := hb4.size
      have f4_0_lt := m4_0.lt
      have f4_0_c0 := m4_0.c0
      have f4_0_c1 := m4_0.c1
      have f4_0_c2 := m4_0.c2
      have f4_0_c3 := m4_0.c3
      have f4_0_c4 := m4_0.c4
      have f4_0_c5 := m4_0.c5
      have f4_1_lt := m4_1.lt
      have f4_1_c0 := m4_1.c0
      have f4_1_c1 := m4_1.c1
      have f4_1_c2 := m4_1.c2
      have f4_1_c3 := m4_1.c3
      have f4_1_c4 := m4_1.c4
      have f4_2_lt := m4_2.lt
      have f4_2_c0 := m4_2.c0
      have f4_2_c1 := m4_2.c1
      have f4_2_c2 := m4_2.c2
      have f4_2_c3 := m4_2.c3
      have f4_2_c4 := m4_2.c4
      have f4_2_c5 := m4_2.c5
      have f4_3_lt := m4_3.lt
      have f4_3_c0 := m4_3.c0
      have f4_3_c1 := m4_3.c1
      have f4_3_c2 := m4_3.c2
      have f4_3_c3 := m4_3.c3
      have f4_3_c4 := m4_3.c4
      have f4_3_c5 := m4_3.c5
      clear hAb
      refine (N1.out _).mono ?_; rintro e w' ⟨rfl, qn1, rfl⟩
      go_wp2_with (fail)
      obtain ⟨Ac, hAc⟩ : ∃ A, W4.heap.size + qn1.bl.size = A := ⟨_, rfl⟩
      rw [hAc]
      refine calls_world (fun W => Below w.heap.size w W ∧ BoxZ W w.heap.size z ∧ BoxS W (w.heap.size + 1) s.lo s.ls s.hi s.hs s.op ∧ BoxZ W Aa ra ∧ BoxZ W Ab rb ∧ BoxZ W Ac c) ⟨by (repeat' (first | (with_reducible assumption) | (with_reducible exact Below.refl _ _) | (with_reducible refine below_wov ?_ ?_ _) | (with_reducible refine below_drewN ?_ _) | (with_reducible refine Below.drew ?_) | (with_reducible refine Below.alloc ?_ ?_ _) | (with_reducible refine Below.setCell ?_ ?_ _) | (with_reducible exact Nat.le_refl _) | omega | (simp only [World.size_alloc, World.size_setCell, World.size_drew, Wov_size, World.heap_drewN]; omega))), m4_0.below (by (repeat' (first | (with_reducible assumption) | (with_reducible exact Below.refl _ _) | (with_reducible refine below_wov ?_ ?_ _) | (with_reducible refine below_drewN ?_ _) | (with_reducible refine Below.drew ?_) | (with_reducible refine Below.alloc ?_ ?_ _) | (with_reducible refine Below.setCell ?_ ?_ _) | (with_reducible exact Nat.le_refl _) | omega | (simp only [World.size_alloc, World.size_setCell, World.size_drew, Wov_size, World.heap_drewN]; omega)))), m4_1.below (by (repeat' (first | (with_reducible assumption) | (with_reducible exact Below.refl _ _) | (with_reducible refine below_wov ?_ ?_ _) | (with_reducible refine below_drewN ?_ _) | (with_reducible refine Below.drew ?_) | (with_reducible refine Below.alloc ?_ ?_ _) | (with_reducible refine Below.setCell ?_ ?_ _) | (with_reducible exact Nat.le_refl _) | omega | (simp only [World.size_alloc, World.size_setCell, World.size_drew, Wov_size, World.heap_drewN]; omega)))), m4_2.below (by (repeat' (first | (with_reducible assumption) | (with_reducible exact Below.refl _ _) | (with_reducible refine below_wov ?_ ?_ _) | (with_reducible refine below_drewN ?_ _) | (with_reducible refine Below.drew ?_) | (with_reducible refine Below.alloc ?_ ?_ _) | (with_reducible refine Below.setCell ?_ ?_ _) | (with_reducible exact Nat.le_refl _) | omega | (simp only [World.size_alloc, World.size_setCell, World.size_drew, Wov_size, World.heap_drewN]; omega)))), m4_3.below (by (repeat' (first | (with_reducible assumption) | (with_reducible exact Below.refl _ _) | (with_reducible refine below_wov ?_ ?_ _) | (with_reducible refine below_drewN ?_ _) | (with_reducible refine Below.drew ?_) | (with_reducible refine Below.alloc ?_ ?_ _) | (with_reducible refine Below.setCell ?_ ?_ _) | (with_reducible exact Nat.le_refl _) | omega | (simp only [World.size_alloc, World.size_setCell, World.size_drew, Wov_size, World.heap_drewN]; omega)))), BoxZ.new (by rw [← hAc]; (try simp only [Wov_size]))⟩ ?_
      rintro W5 ⟨hb5, m5_0, m5_1, m5_2, m5_3, m5_4⟩
      clear hb4 f4_0_lt f4_0_c0 f4_0_c1 f4_0_c2 f4_0_c3 f4_0_c4 f4_0_c5 f4_1_lt f4_1_c0 f4_1_c1 f4_1_c2 f4_1_c3 f4_1_c4 f4_2_lt f4_2_c0 f4_2_c1 f4_2_c2 f4_2_c3 f4_2_c4 f4_2_c5 f4_3_lt f4_3_c0 f4_3_c1 f4_3_c2 f4_3_c3 f4_3_c4 f4_3_c5 m4_0 m4_1 m4_2 m4_3 hs4
      have hs5 := hb5.size
      have f5_0_lt := m5_0.lt
      have f5_0_c0 := m5_0.c0
      have f5_0_c1 := m5_0.c1
      have f5_0_c2 := m5_0.c2
      have f5_0_c3 := m5_0.c3
      have f5_0_c4 := m5_0.c4
      have f5_0_c5 := m5_0.c5
      have f5_1_lt := m5_1.lt
      have f5_1_c0 := m5_1.c0
      have f5_1_c1 := m5_1.c1
      have f5_1_c2 := m5_1.c2
      have f5_1_c3 := m5_1.c3
      have f5_1_c4 := m5_1.c4
      have f5_2_lt := m5_2.lt
      have f5_2_c0 := m5_2.c0
      have f5_2_c1 := m5_2.c1
      have f5_2_c2 := m5_2.c2
      have f5_2_c3 := m5_2.c3
      have f5_2_c4 := m5_2.c4
      have f5_2_c5 := m5_2.c5
      have f5_3_lt := m5_3.lt
      have f5_3_c0 := m5_3.c0
      have f5_3_c1 := m5_3.c1
      have f5_3_c2 := m5_3.c2
      have f5_3_c3 := m5_3.c3
      have f5_3_c4 := m5_3.c4
      have f5_3_c5 := m5_3.c5
      have f5_4_lt := m5_4.lt
      have f5_4_c0 := m5_4.c0
      have f5_4_c1 := m5_4.c1
      have f5_4_c2 := m5_4.c2
      have f5_4_c3 := m5_4.c3
      have f5_4_c4 := m5_4.c4
      have f5_4_c5 := m5_4.c5
      clear hAc
      refine (N2.out _).mono ?_; rintro e w' ⟨rfl, qn2, rfl⟩
      go_wp2_with (fail)
      refine calls_world (fun W => Below w.heap.size w W ∧ BoxZ W w.heap.size z ∧ BoxS W (w.heap.size + 1) s.lo s.ls s.hi s.hs s.op ∧ BoxZ W Aa ra ∧ BoxZ W Ab rb ∧ BoxZ W Ac c) ⟨by (repeat' (first | (with_reducible assumption) | (with_reducible exact Below.refl _ _) | (with_reducible refine below_wov ?_ ?_ _) | (with_reducible refine below_drewN ?_ _) | (with_reducible refine Below.drew ?_) | (with_reducible refine Below.alloc ?_ ?_ _) | (with_reducible refine Below.setCell ?_ ?_ _) | (with_reducible exact Nat.le_refl _) | omega | (simp only [World.size_alloc, World.size_setCell, World.size_drew, Wov_size, World.heap_drewN]; omega))), m5_0.below (by (repeat' (first | (with_reducible assumption) | (with_reducible exact Below.refl _ _) | (with_reducible refine below_wov ?_ ?_ _) | (with_reducible refine below_drewN ?_ _) | (with_reducible refine Below.drew ?_) | (with_reducible refine Below.alloc ?_ ?_ _) | (with_reducible refine Below.setCell ?_ ?_ _) | (with_reducible exact Nat.le_refl _) | omega | (simp only [World.size_alloc, World.size_setCell, World.size_drew, Wov_size, World.heap_drewN]; omega)))), m5_1.below (by (repeat' (first | (with_reducible assumption) | (with_reducible exact Below.refl _ _) | (with_reducible refine below_wov ?_ ?_ _) | (with_reducible refine below_drewN ?_ _) | (with_reducible refine Below.drew ?_) | (with_reducible refine Below.alloc ?_ ?_ _) | (with_reducible refine Below.setCell ?_ ?_ _) | (with_reducible exact Nat.le_refl _) | omega | (simp only [World.size_alloc, World.size_setCell, World.size_drew, Wov_size, World.heap_drewN]; omega)))), m5_2.below (by (repeat' (first | (with_reducible assumption) | (with_reducible exact Below.refl _ _) | (with_reducible refine below_wov ?_ ?_ _) | (with_reducible refine below_drewN ?_ _) | (with_reducible refine Below.drew ?_) | (with_reducible refine Below.alloc ?_ ?_ _) | (with_reducible refine Below.setCell ?_ ?_ _) | (with_reducible exact Nat.le_refl _) | omega | (simp only [World.size_alloc, World.size_setCell, World.size_drew, Wov_size, World.heap_drewN]; omega)))), m5_3.below (by (repeat' (first | (with_reducible assumption) | (with_reducible exact Below.refl _ _) | (with_reducible refine below_wov ?_ ?_ _) | (with_reducible refine below_drewN ?_ _) | (with_reducible refine Below.drew ?_) | (with_reducible refine Below.alloc ?_ ?_ _) | (with_reducible refine Below.setCell ?_ ?_ _) | (with_reducible exact Nat.le_refl _) | omega | (simp only [World.size_alloc, World.size_setCell, World.size_drew, Wov_size, World.heap_drewN]; omega)))), m5_4.below (by (repeat' (first | (with_reducible assumption) | (with_reducible exact Below.refl _ _) | (with_reducible refine below_wov ?_ ?_ _) | (with_reducible refine below_drewN ?_ _) | (with_reducible refine Below.drew ?_) | (with_reducible refine Below.alloc ?_ ?_ _) | (with_reducible refine Below.setCell ?_ ?_ _) | (with_reducible exact Nat.le_refl _) | omega | (simp only [World.size_alloc, World.size_setCell, World.size_drew, Wov_size, World.heap_drewN]; omega))))⟩ ?_
      rintro W6 ⟨hb6, m6_0, m6_1, m6_2, m6_3, m6_4⟩
      clear hb5 f5_0_lt f5_0_c0 f5_0_c1 f5_0_c2 f5_0_c3 f5_0_c4 f5_0_c5 f5_1_lt f5_1_c0 f5_1_c1 f5_1_c2 f5_1_c3 f5_1_c4 f5_2_lt f5_2_c0 f5_2_c1 f5_2_c2 f5_2_c3 f5_2_c4 f5_2_c5 f5_3_lt f5_3_c0 f5_3_c1 f5_3_c2 f5_3_c3 f5_3_c4 f5_3_c5 f5_4_lt f5_4_c0 f5_4_c1 f5_4_c2 f5_4_c3 f5_4_c4 f5_4_c5 m5_0 m5_1 m5_2 m5_3 m5_4 hs5
      have hs6 := hb6.size
      have f6_0_lt := m6_0.lt
      have f6_0_c0 := m6_0.c0
      have f6_0_c1 := m6_0.c1
      have f6_0_c2 := m6_0.c2
      have f6_0_c3 := m6_0.c3
      have f6_0_c4 := m6_0.c4
      have f6_0_c5 := m6_0.c5
      have f6_1_lt := m6_1.lt
      have f6_1_c0 := m6_1.c0
      have f6_1_c1 := m6_1.c1
      have f6_1_c2 := m6_1.c2
      have f6_1_c3 := m6_1.c3
      have f6_1_c4 := m6_1.c4
      have f6_2_lt := m6_2.lt
      have f6_2_c0 := m6_2.c0
      have f6_2_c1 := m6_2.c1
      have f6_2_c2 := m6_2.c2
      have f6_2_c3 := m6_2.c3
      have f6_2_c4 := m6_2.c4
      have f6_2_c5 := m6_2.c5
      have f6_3_lt := m6_3.lt
      have f6_3_c0 := m6_3.c0
      have f6_3_c1 := m6_3.c1
      have f6_3_c2 := m6_3.c2
      have f6_3_c3 := m6_3.c3
      have f6_3_c4 := m6_3.c4
      have f6_3_c5 := m6_3.c5
      have f6_4_lt := m6_4.lt
      have f6_4_c0 := m6_4.c0
      have f6_4_c1 := m6_4.c1
      have f6_4_c2 := m6_4.c2
      have f6_4_c3 := m6_4.c3
      have f6_4_c4 := m6_4.c4
      have f6_4_c5 := m6_4.c5
      refine (Cx.out _).mono ?_; rintro e w' ⟨rfl, qx, rfl⟩
      by_cases hx0 : ex = 0
      · skip
        subst hx0
        obtain ⟨mm, rr, M1, M2, M3, M4⟩ := O2.out (by simp) (by simp)
        have M1 := Lib.hid M1
        have M2 := Lib.hid M2
        have M3 := Lib.hid M3
        have M4 := Lib.hid M4
        go_wp2_with (fail)
        obtain ⟨Ax, hAx⟩ : ∃ A, W6.heap.size + qx.bl.size = A := ⟨_, rfl⟩
        rw [hAx]
        refine calls_world (fun W => Below w.heap.size w W ∧ BoxZ W w.heap.size z ∧ BoxS W (w.heap.size + 1) s.lo s.ls s.hi s.hs s.op ∧ BoxZ W Aa ra ∧ BoxZ W Ab rb ∧ BoxZ W Ac c ∧ BoxZ W Ax rx) ⟨by (repeat' (first | (with_reducible assumption) | (with_reducible exact Below.refl _ _) | (with_reducible refine below_wov ?_ ?_ _) | (with_reducible refine below_drewN ?_ _) | (with_reducible refine Below.drew ?_) | (with_reducible refine Below.alloc ?_ ?_ _) | (with_reducible refine Below.setCell ?_ ?_ _) | (with_reducible exact Nat.le_refl _) | omega | (simp only [World.size_alloc, World.size_setCell, World.size_drew, Wov_size, World.heap_drewN]; omega))), m6_0.below (by (repeat' (first | (with_reducible assumption) | (with_reducible exact Below.refl _ _) | (with_reducible refine below_wov ?_ ?_ _) | (with_reducible refine below_drewN ?_ _) | (with_reducible refine Below.drew ?_) | (with_reducible refine Below.alloc ?_ ?_ _) | (with_reducible refine Below.setCell ?_ ?_ _) | (with_reducible exact Nat.le_refl _) | omega | (simp only [World.size_alloc, World.size_setCell, World.size_drew, Wov_size, World.heap_drewN]; omega)))), m6_1.below (by (repeat' (first | (with_reducible assumption) | (with_reducible exact Below.refl _ _) | (with_reducible refine below_wov ?_ ?_ _) | (with_reducible refine below_drewN ?_ _) | (with_reducible refine Below.drew ?_) | (with_reducible refine Below.alloc ?_ ?_ _) | (with_reducible refine Below.setCell ?_ ?_ _) | (with_reducible exact Nat.le_refl _) | omega | (simp only [World.size_alloc, World.size_setCell, World.size_drew, Wov_size, World.heap_drewN]; omega)))), m6_2.below (by (repeat' (first | (with_reducible assumption) | (with_reducible exact Below.refl _ _) | (with_reducible refine below_wov ?_ ?_ _) | (with_reducible refine below_drewN ?_ _) | (with_reducible refine Below.drew ?_) | (with_reducible refine Below.alloc ?_ ?_ _) | (with_reducible refine Below.setCell ?_ ?_ _) | (with_reducible exact Nat.le_refl _) | omega | (simp only [World.size_alloc, World.size_setCell, World.size_drew, Wov_size, World.heap_drewN]; omega)))), m6_3.below (by (repeat' (first | (with_reducible assumption) | (with_reducible exact Below.refl _ _) | (with_reducible refine below_wov ?_ ?_ _) | (with_reducible refine below_drewN ?_ _) | (with_reducible refine Below.drew ?_) | (with_reducible refine Below.alloc ?_ ?_ _) | (with_reducible refine Below.setCell ?_ ?_ _) | (with_reducible exact Nat.le_refl _) | omega | (simp only [World.size_alloc, World.size_setCell, World.size_drew, Wov_size, World.heap_drewN]; omega)))), m6_4.below (by (repeat' (first | (with_reducible assumption) | (with_reducible exact Below.refl _ _) | (with_reducible refine below_wov ?_ ?_ _) | (with_reducible refine below_drewN ?_ _) | (with_reducible refine Below.drew ?_) | (with_reducible refine Below.alloc ?_ ?_ _) | (with_reducible refine Below.setCell ?_ ?_ _) | (with_reducible exact Nat.le_refl _) | omega | (simp only [World.size_alloc, World.size_setCell, World.size_drew, Wov_size, World.heap_drewN]; omega)))), BoxZ.new (by rw [← hAx]; (try simp only [Wov_size]))⟩ ?_
        rintro W7 ⟨hb7, m7_0, m7_1, m7_2, m7_3, m7_4, m7_5⟩
        clear hb6 f6_0_lt f6_0_c0 f6_0_c1 f6_0_c2 f6_0_c3 f6_0_c4 f6_0_c5 f6_1_lt f6_1_c0 f6_1_c1 f6_1_c2 f6_1_c3 f6_1_c4 f6_2_lt f6_2_c0 f6_2_c1 f6_2_c2 f6_2_c3 f6_2_c4 f6_2_c5 f6_3_lt f6_3_c0 f6_3_c1 f6_3_c2 f6_3_c3 f6_3_c4 f6_3_c5 f6_4_lt f6_4_c0 f6_4_c1 f6_4_c2 f6_4_c3 f6_4_c4 f6_4_c5 m6_0 m6_1 m6_2 m6_3 m6_4 hs6
        have hs7 := hb7.size
        have f7_0_lt := m7_0.lt
        have f7_0_c0 := m7_0.c0
        have f7_0_c1 := m7_0.c1
        have f7_0_c2 := m7_0.c2
        have f7_0_c3 := m7_0.c3
        have f7_0_c4 := m7_0.c4
        have f7_0_c5 := m7_0.c5
        have f7_1_lt := m7_1.lt
        have f7_1_c0 := m7_1.c0
        have f7_1_c1 := m7_1.c1
        have f7_1_c2 := m7_1.c2
        have f7_1_c3 := m7_1.c3
        have f7_1_c4 := m7_1.c4
        have f7_2_lt := m7_2.lt
        have f7_2_c0 := m7_2.c0
        have f7_2_c1 := m7_2.c1
        have f7_2_c2 := m7_2.c2
        have f7_2_c3 := m7_2.c3
        have f7_2_c4 := m7_2.c4
        have f7_2_c5 := m7_2.c5
        have f7_3_lt := m7_3.lt
        have f7_3_c0 := m7_3.c0
        have f7_3_c1 := m7_3.c1
        have f7_3_c2 := m7_3.c2
        have f7_3_c3 := m7_3.c3
        have f7_3_c4 := m7_3.c4
        have f7_3_c5 := m7_3.c5
        have f7_4_lt := m7_4.lt
        have f7_4_c0 := m7_4.c0
        have f7_4_c1 := m7_4.c1
        have f7_4_c2 := m7_4.c2
        have f7_4_c3 := m7_4.c3
        have f7_4_c4 := m7_4.c4
        have f7_4_c5 := m7_4.c5
        have f7_5_lt := m7_5.lt
        have f7_5_c0 := m7_5.c0
        have f7_5_c1 := m7_5.c1
        have f7_5_c2 := m7_5.c2
        have f7_5_c3 := m7_5.c3
        have f7_5_c4 := m7_5.c4
        have f7_5_c5 := m7_5.c5
        clear hAx
        refine (M1.out _).mono ?_; rintro e w' ⟨rfl, qm1, rfl⟩
        go_wp2_with (fail)
        refine calls_world (fun W => Below w.heap.size w W ∧ BoxZ W w.heap.size z ∧ BoxS W (w.heap.size + 1) s.lo s.ls s.hi s.hs s.op ∧ BoxZ W Aa ra ∧ BoxZ W Ab rb ∧ BoxZ W Ac c ∧ BoxZ W Ax rx) ⟨by (repeat' (first | (with_reducible assumption) | (with_reducible exact Below.refl _ _) | (with_reducible refine below_wov ?_ ?_ _) | (with_reducible refine below_drewN ?_ _) | (with_reducible refine Below.drew ?_) | (with_reducible refine Below.alloc ?_ ?_ _) | (with_reducible refine Below.setCell ?_ ?_ _) | (with_reducible exact Nat.le_refl _) | omega | (simp only [World.size_alloc, World.size_setCell, World.size_drew, Wov_size, World.heap_drewN]; omega))), m7_0.below (by (repeat' (first | (with_reducible assumption) | (with_reducible exact Below.refl _ _) | (with_reducible refine below_wov ?_ ?_ _) | (with_reducible refine below_drewN ?_ _) | (with_reducible refine Below.drew ?_) | (with_reducible refine Below.alloc ?_ ?_ _) | (with_reducible refine Below.setCell ?_ ?_ _) | (with_reducible exact Nat.le_refl _) | omega | (simp only [World.size_alloc, World.size_setCell, World.size_drew, Wov_size, World.heap_drewN]; omega)))), m7_1.below (by (repeat' (first | (with_reducible assumption) | (with_reducible exact Below.refl _ _) | (with_reducible refine below_wov ?_ ?_ _) | (with_reducible refine below_drewN ?_ _) | (with_reducible refine Below.drew ?_) | (with_reducible refine Below.alloc ?_ ?_ _) | (with_reducible refine Below.setCell ?_ ?_ _) | (with_reducible exact Nat.le_refl _) | omega | (simp only [World.size_alloc, World.size_setCell, World.size_drew, Wov_size, World.heap_drewN]; omega)))), m7_2.below (by (repeat' (first | (with_reducible assumption) | (with_reducible exact Below.refl _ _) | (with_reducible refine below_wov ?_ ?_ _) | (with_reducible refine below_drewN ?_ _) | (with_reducible refine Below.drew ?_) | (with_reducible refine Below.alloc ?_ ?_ _) | (with_reducible refine Below.setCell ?_ ?_ _) | (with_reducible exact Nat.le_refl _) | omega | (simp only [World.size_alloc, World.size_setCell, World.size_drew, Wov_size, World.heap_drewN]; omega)))), m7_3.below (by (repeat' (first | (with_reducible assumption) | (with_reducible exact Below.refl _ _) | (with_reducible refine below_wov ?_ ?_ _) | (with_reducible refine below_drewN ?_ _) | (with_reducible refine Below.drew ?_) | (with_reducible refine Below.alloc ?_ ?_ _) | (with_reducible refine Below.setCell ?_ ?_ _) | (with_reducible exact Nat.le_refl _) | omega | (simp only [World.size_alloc, World.size_setCell, World.size_drew, Wov_size, World.heap_drewN]; omega)))), m7_4.below (by (repeat' (first | (with_reducible assumption) | (with_reducible exact Below.refl _ _) | (with_reducible refine below_wov ?_ ?_ _) | (with_reducible refine below_drewN ?_ _) | (with_reducible refine Below.drew ?_) | (with_reducible refine Below.alloc ?_ ?_ _) | (with_reducible refine Below.setCell ?_ ?_ _) | (with_reducible exact Nat.le_refl _) | omega | (simp only [World.size_alloc, World.size_setCell, World.size_drew, Wov_size, World.heap_drewN]; omega)))), m7_5.below (by (repeat' (first | (with_reducible assumption) | (with_reducible exact Below.refl _ _) | (with_reducible refine below_wov ?_ ?_ _) | (with_reducible refine below_drewN ?_ _) | (with_reducible refine Below.drew ?_) | (with_reducible refine Below.alloc ?_ ?_ _) | (with_reducible refine Below.setCell ?_ ?_ _) | (with_reducible exact Nat.le_refl _) | omega | (simp only [World.size_alloc, World.size_setCell, World.size_drew, Wov_size, World.heap_drewN]; omega))))⟩ ?_
        rintro W8 ⟨hb8, m8_0, m8_1, m8_2, m8_3, m8_4, m8_5⟩
        clear hb7 f7_0_lt f7_0_c0 f7_0_c1 f7_0_c2 f7_0_c3 f7_0_c4 f7_0_c5 f7_1_lt f7_1_c0 f7_1_c1 f7_1_c2 f7_1_c3 f7_1_c4 f7_2_lt f7_2_c0 f7_2_c1 f7_2_c2 f7_2_c3 f7_2_c4 f7_2_c5 f7_3_lt f7_3_c0 f7_3_c1 f7_3_c2 f7_3_c3 f7_3_c4 f7_3_c5 f7_4_lt f7_4_c0 f7_4_c1 f7_4_c2 f7_4_c3 f7_4_c4 f7_4_c5 f7_5_lt f7_5_c0 f7_5_c1 f7_5_c2 f7_5_c3 f7_5_c4 f7_5_c5 m7_0 m7_1 m7_2 m7_3 m7_4 m7_5 hs7
        have hs8 := hb8.size
        have f8_0_lt := m8_0.lt
        have f8_0_c0 := m8_0.c0
        have f8_0_c1 := m8_0.c1
        have f8_0_c2 := m8_0.c2
        have f8_0_c3 := m8_0.c3
        have f8_0_c4 := m8_0.c4
        have f8_0_c5 := m8_0.c5
        have f8_1_lt := m8_1.lt
        have f8_1_c0 := m8_1.c0
        have f8_1_c1 := m8_1.c1
        have f8_1_c2 := m8_1.c2
        have f8_1_c3 := m8_1.c3
        have f8_1_c4 := m8_1.c4
        have f8_2_lt := m8_2.lt
        have f8_2_c0 := m8_2.c0
        have f8_2_c1 := m8_2.c1
        have f8_2_c2 := m8_2.c2
        have f8_2_c3 := m8_2.c3
        have f8_2_c4 := m8_2.c4
        have f8_2_c5 := m8_2.c5
        have f8_3_lt := m8_3.lt
        have f8_3_c0 := m8_3.c0
        have f8_3_c1 := m8_3.c1
        have f8_3_c2 := m8_3.c2
        have f8_3_c3 := m8_3.c3
        have f8_3_c4 := m8_3.c4
        have f8_3_c5 := m8_3.c5
        have f8_4_lt := m8_4.lt
        have f8_4_c0 := m8_4.c0
        have f8_4_c1 := m8_4.c1
        have f8_4_c2 := m8_4.c2
        have f8_4_c3 := m8_4.c3
        have f8_4_c4 := m8_4.c4
        have f8_4_c5 := m8_4.c5
        have f8_5_lt := m8_5.lt
        have f8_5_c0 := m8_5.c0
        have f8_5_c1 := m8_5.c1
        have f8_5_c2 := m8_5.c2
        have f8_5_c3 := m8_5.c3
        have f8_5_c4 := m8_5.c4
        have f8_5_c5 := m8_5.c5
        refine (M2.out _).mono ?_; rintro e w' ⟨rfl, qm2, rfl⟩
        go_wp2_with (fail)
        obtain ⟨Ar, hAr⟩ : ∃ A, W8.heap.size + qm2.bl.size = A := ⟨_, rfl⟩
        rw [hAr]
        refine calls_world (fun W => Below w.heap.size w W ∧ BoxZ W w.heap.size z ∧ BoxS W (w.heap.size + 1) s.lo s.ls s.hi s.hs s.op ∧ BoxZ W Aa ra ∧ BoxZ W Ab rb ∧ BoxZ W Ac c ∧ BoxZ W Ax rx ∧ BoxZ W Ar rr) ⟨by (repeat' (first | (with_reducible assumption) | (with_reducible exact Below.refl _ _) | (with_reducible refine below_wov ?_ ?_ _) | (with_reducible refine below_drewN ?_ _) | (with_reducible refine Below.drew ?_) | (with_reducible refine Below.alloc ?_ ?_ _) | (with_reducible refine Below.setCell ?_ ?_ _) | (with_reducible exact Nat.le_refl _) | omega | (simp only [World.size_alloc, World.size_setCell, World.size_drew, Wov_size, World.heap_drewN]; omega))), m8_0.below (by (repeat' (first | (with_reducible assumption) | (with_reducible exact Below.refl _ _) | (with_reducible refine below_wov ?_ ?_ _) | (with_reducible refine below_drewN ?_ _) | (with_reducible refine Below.drew ?_) | (with_reducible refine Below.alloc ?_ ?_ _) | (with_reducible refine Below.setCell ?_ ?_ _) | (with_reducible exact Nat.le_refl _) | omega | (simp only [World.size_alloc, World.size_setCell, World.size_drew, Wov_size, World.heap_drewN]; omega)))), m8_1.below (by (repeat' (first | (with_reducible assumption) | (with_reducible exact Below.refl _ _) | (with_reducible refine below_wov ?_ ?_ _) | (with_reducible refine below_drewN ?_ _) | (with_reducible refine Below.drew ?_) | (with_reducible refine Below.alloc ?_ ?_ _) | (with_reducible refine Below.setCell ?_ ?_ _) | (with_reducible exact Nat.le_refl _) | omega | (simp only [World.size_alloc, World.size_setCell, World.size_drew, Wov_size, World.heap_drewN]; omega)))), m8_2.below (by (repeat' (first | (with_reducible assumption) | (with_reducible exact Below.refl _ _) | (with_reducible refine below_wov ?_ ?_ _) | (with_reducible refine below_drewN ?_ _) | (with_reducible refine Below.drew ?_) | (with_reducible refine Below.alloc ?_ ?_ _) | (with_reducible refine Below.setCell ?_ ?_ _) | (with_reducible exact Nat.le_refl _) | omega | (simp only [World.size_alloc, World.size_setCell, World.size_drew, Wov_size, World.heap_drewN]; omega)))), m8_3.below (by (repeat' (first | (with_reducible assumption) | (with_reducible exact Below.refl _ _) | (with_reducible refine below_wov ?_ ?_ _) | (with_reducible refine below_drewN ?_ _) | (with_reducible refine Below.drew ?_) | (with_reducible refine Below.alloc ?_ ?_ _) | (with_reducible refine Below.setCell ?_ ?_ _) | (with_reducible exact Nat.le_refl _) | omega | (simp only [World.size_alloc, World.size_setCell, World.size_drew, Wov_size, World.heap_drewN]; omega)))), m8_4.below (by (repeat' (first | (with_reducible assumption) | (with_reducible exact Below.refl _ _) | (with_reducible refine below_wov ?_ ?_ _) | (with_reducible refine below_drewN ?_ _) | (with_reducible refine Below.drew ?_) | (with_reducible refine Below.alloc ?_ ?_ _) | (with_reducible refine Below.setCell ?_ ?_ _) | (with_reducible exact Nat.le_refl _) | omega | (simp only [World.size_alloc, World.size_setCell, World.size_drew, Wov_size, World.heap_drewN]; omega)))), m8_5.below (by (repeat' (first | (with_reducible assumption) | (with_reducible exact Below.refl _ _) | (with_reducible refine below_wov ?_ ?_ _) | (with_reducible refine below_drewN ?_ _) | (with_reducible refine Below.drew ?_) | (with_reducible refine Below.alloc ?_ ?_ _) | (with_reducible refine Below.setCell ?_ ?_ _) | (with_reducible exact Nat.le_refl _) | omega | (simp only [World.size_alloc, World.size_setCell, World.size_drew, Wov_size, World.heap_drewN]; omega)))), BoxZ.new (by rw [← hAr]; (try simp only [Wov_size]))⟩ ?_
        rintro W9 ⟨hb9, m9_0, m9_1, m9_2, m9_3, m9_4, m9_5, m9_6⟩
        clear hb8 f8_0_lt f8_0_c0 f8_0_c1 f8_0_c2 f8_0_c3 f8_0_c4 f8_0_c5 f8_1_lt f8_1_c0 f8_1_c1 f8_1_c2 f8_1_c3 f8_1_c4 f8_2_lt f8_2_c0 f8_2_c1 f8_2_c2 f8_2_c3 f8_2_c4 f8_2_c5 f8_3_lt f8_3_c0 f8_3_c1 f8_3_c2 f8_3_c3 f8_3_c4 f8_3_c5 f8_4_lt f8_4_c0 f8_4_c1 f8_4_c2 f8_4_c3 f8_4_c4 f8_4_c5 f8_5_lt f8_5_c0 f8_5_c1 f8_5_c2 f8_5_c3 f8_5_c4 f8_5_c5 m8_0 m8_1 m8_2 m8_3 m8_4 m8_5 hs8
        have hs9 := hb9.size
        have f9_0_lt := m9_0.lt
        have f9_0_c0 := m9_0.c0
        have f9_0_c1 := m9_0.c1
        have f9_0_c2 := m9_0.c2
        have f9_0_c3 := m9_0.c3
        have f9_0_c4 := m9_0.c4
        have f9_0_c5 := m9_0.c5
        have f9_1_lt := m9_1.lt
        have f9_1_c0 := m9_1.c0
        have f9_1_c1 := m9_1.c1
        have f9_1_c2 := m9_1.c2
        have f9_1_c3 := m9_1.c3
        have f9_1_c4 := m9_1.c4
        have f9_2_lt := m9_2.lt
        have f9_2_c0 := m9_2.c0
        have f9_2_c1 := m9_2.c1
        have f9_2_c2 := m9_2.c2
        have f9_2_c3 := m9_2.c3
        have f9_2_c4 := m9_2.c4
        have f9_2_c5 := m9_2.c5
        have f9_3_lt := m9_3.lt
        have f9_3_c0 := m9_3.c0
        have f9_3_c1 := m9_3.c1
        have f9_3_c2 := m9_3.c2
        have f9_3_c3 := m9_3.c3
        have f9_3_c4 := m9_3.c4
        have f9_3_c5 := m9_3.c5
        have f9_4_lt := m9_4.lt
        have f9_4_c0 := m9_4.c0
        have f9_4_c1 := m9_4.c1
        have f9_4_c2 := m9_4.c2
        have f9_4_c3 := m9_4.c3
        have f9_4_c4 := m9_4.c4
        have f9_4_c5 := m9_4.c5
        have f9_5_lt := m9_5.lt
        have f9_5_c0 := m9_5.c0
        have f9_5_c1 := m9_5.c1
        have f9_5_c2 := m9_5.c2
        have f9_5_c3 := m9_5.c3
        have f9_5_c4 := m9_5.c4
        have f9_5_c5 := m9_5.c5
        have f9_6_lt := m9_6.lt
        have f9_6_c0 := m9_6.c0
        have f9_6_c1 := m9_6.c1
        have f9_6_c2 := m9_6.c2
        have f9_6_c3 := m9_6.c3
        have f9_6_c4 := m9_6.c4
        have f9_6_c5 := m9_6.c5
        clear hAr
        refine (M3.out _).mono ?_; rintro e w' ⟨rfl, qm3, rfl⟩
        go_wp2_with (fail)
        refine calls_world (fun W => Below w.heap.size w W ∧ BoxZ W w.heap.size z ∧ BoxS W (w.heap.size + 1) s.lo s.ls s.hi s.hs s.op ∧ BoxZ W Aa ra ∧ BoxZ W Ab rb ∧ BoxZ W Ac c ∧ BoxZ W Ax rx ∧ BoxZ W Ar rr) ⟨by (repeat' (first | (with_reducible assumption) | (with_reducible exact Below.refl _ _) | (with_reducible refine below_wov ?_ ?_ _) | (with_reducible refine below_drewN ?_ _) | (with_reducible refine Below.drew ?_) | (with_reducible refine Below.alloc ?_ ?_ _) | (with_reducible refine Below.setCell ?_ ?_ _) | (with_reducible exact Nat.le_refl _) | omega | (simp only [World.size_alloc, World.size_setCell, World.size_drew, Wov_size, World.heap_drewN]; omega))), m9_0.below (by (repeat' (first | (with_reducible assumption) | (with_reducible exact Below.refl _ _) | (with_reducible refine below_wov ?_ ?_ _) | (with_reducible refine below_drewN ?_ _) | (with_reducible refine Below.drew ?_) | (with_reducible refine Below.alloc ?_ ?_ _) | (with_reducible refine Below.setCell ?_ ?_ _) | (with_reducible exact Nat.le_refl _) | omega | (simp only [World.size_alloc, World.size_setCell, World.size_drew, Wov_size, World.heap_drewN]; omega)))), m9_1.below (by (repeat' (first | (with_reducible assumption) | (with_reducible exact Below.refl _ _) | (with_reducible refine below_wov ?_ ?_ _) | (with_reducible refine below_drewN ?_ _) | (with_reducible refine Below.drew ?_) | (with_reducible refine Below.alloc ?_ ?_ _) | (with_reducible refine Below.setCell ?_ ?_ _) | (with_reducible exact Nat.le_refl _) | omega | (simp only [World.size_alloc, World.size_setCell, World.size_drew, Wov_size, World.heap_drewN]; omega)))), m9_2.below (by (repeat' (first | (with_reducible assumption) | (with_reducible exact Below.refl _ _) | (with_reducible refine below_wov ?_ ?_ _) | (with_reducible refine below_drewN ?_ _) | (with_reducible refine Below.drew ?_) | (with_reducible refine Below.alloc ?_ ?_ _) | (with_reducible refine Below.setCell ?_ ?_ _) | (with_reducible exact Nat.le_refl _) | omega | (simp only [World.size_alloc, World.size_setCell, World.size_drew, Wov_size, World.heap_drewN]; omega)))), m9_3.below (by (repeat' (first | (with_reducible assumption) | (with_reducible exact Below.refl _ _) | (with_reducible refine below_wov ?_ ?_ _) | (with_reducible refine below_drewN ?_ _) | (with_reducible refine Below.drew ?_) | (with_reducible refine Below.alloc ?_ ?_ _) | (with_reducible refine Below.setCell ?_ ?_ _) | (with_reducible exact Nat.le_refl _) | omega | (simp only [World.size_alloc, World.size_setCell, World.size_drew, Wov_size, World.heap_drewN]; omega)))), m9_4.below (by (repeat' (first | (with_reducible assumption) | (with_reducible exact Below.refl _ _) | (with_reducible refine below_wov ?_ ?_ _) | (with_reducible refine below_drewN ?_ _) | (with_reducible refine Below.drew ?_) | (with_reducible refine Below.alloc ?_ ?_ _) | (with_reducible refine Below.setCell ?_ ?_ _) | (with_reducible exact Nat.le_refl _) | omega | (simp only [World.size_alloc, World.size_setCell, World.size_drew, Wov_size, World.heap_drewN]; omega)))), m9_5.below (by (repeat' (first | (with_reducible assumption) | (with_reducible exact Below.refl _ _) | (with_reducible refine below_wov ?_ ?_ _) | (with_reducible refine below_drewN ?_ _) | (with_reducible refine Below.drew ?_) | (with_reducible refine Below.alloc ?_ ?_ _) | (with_reducible refine Below.setCell ?_ ?_ _) | (with_reducible exact Nat.le_refl _) | omega | (simp only [World.size_alloc, World.size_setCell, World.size_drew, Wov_size, World.heap_drewN]; omega)))), m9_6.below (by (repeat' (first | (with_reducible assumption) | (with_reducible exact Below.refl _ _) | (with_reducible refine below_wov ?_ ?_ _) | (with_reducible refine below_drewN ?_ _) | (with_reducible refine Below.drew ?_) | (with_reducible refine Below.alloc ?_ ?_ _) | (with_reducible refine Below.setCell ?_ ?_ _) | (with_reducible exact Nat.le_refl _) | omega | (simp only [World.size_alloc, World.size_setCell, World.size_drew, Wov_size, World.heap_drewN]; omega))))⟩ ?_
        rintro W10 ⟨hb10, m10_0, m10_1, m10_2, m10_3, m10_4, m10_5, m10_6⟩
        clear hb9 f9_0_lt f9_0_c0 f9_0_c1 f9_0_c2 f9_0_c3 f9_0_c4 f9_0_c5 f9_1_lt f9_1_c0 f9_1_c1 f9_1_c2 f9_1_c3 f9_1_c4 f9_2_lt f9_2_c0 f9_2_c1 f9_2_c2 f9_2_c3 f9_2_c4 f9_2_c5 f9_3_lt f9_3_c0 f9_3_c1 f9_3_c2 f9_3_c3 f9_3_c4 f9_3_c5 f9_4_lt f9_4_c0 f9_4_c1 f9_4_c2 f9_4_c3 f9_4_c4 f9_4_c5 f9_5_lt f9_5_c0 f9_5_c1 f9_5_c2 f9_5_c3 f9_5_c4 f9_5_c5 f9_6_lt f9_6_c0 f9_6_c1 f9_6_c2 f9_6_c3 f9_6_c4 f9_6_c5 m9_0 m9_1 m9_2 m9_3 m9_4 m9_5 m9_6 hs9
        have hs10 := hb10.size
        have f10_0_lt := m10_0.lt
        have f10_0_c0 := m10_0.c0
        have f10_0_c1 := m10_0.c1
        have f10_0_c2 := m10_0.c2
        have f10_0_c3 := m10_0.c3
        have f10_0_c4 := m10_0.c4
        have f10_0_c5 := m10_0.c5
        have f10_1_lt := m10_1.lt
        have f10_1_c0 := m10_1.c0
        have f10_1_c1 := m10_1.c1
        have f10_1_c2 := m10_1.c2
        have f10_1_c3 := m10_1.c3
        have f10_1_c4 := m10_1.c4
        have f10_2_lt := m10_2.lt
        have f10_2_c0 := m10_2.c0
        have f10_2_c1 := m10_2.c1
        have f10_2_c2 := m10_2.c2
        have f10_2_c3 := m10_2.c3
        have f10_2_c4 := m10_2.c4
        have f10_2_c5 := m10_2.c5
        have f10_3_lt := m10_3.lt
        have f10_3_c0 := m10_3.c0
        have f10_3_c1 := m10_3.c1
        have f10_3_c2 := m10_3.c2
        have f10_3_c3 := m10_3.c3
        have f10_3_c4 := m10_3.c4
        have f10_3_c5 := m10_3.c5
        have f10_4_lt := m10_4.lt
        have f10_4_c0 := m10_4.c0
        have f10_4_c1 := m10_4.c1
        have f10_4_c2 := m10_4.c2
        have f10_4_c3 := m10_4.c3
        have f10_4_c4 := m10_4.c4
        have f10_4_c5 := m10_4.c5
        have f10_5_lt := m10_5.lt
        have f10_5_c0 := m10_5.c0
        have f10_5_c1 := m10_5.c1
        have f10_5_c2 := m10_5.c2
        have f10_5_c3 := m10_5.c3
        have f10_5_c4 := m10_5.c4
        have f10_5_c5 := m10_5.c5
        have f10_6_lt := m10_6.lt
        have f10_6_c0 := m10_6.c0
        have f10_6_c1 := m10_6.c1
        have f10_6_c2 := m10_6.c2
        have f10_6_c3 := m10_6.c3
        have f10_6_c4 := m10_6.c4
        have f10_6_c5 := m10_6.c5
        refine (M4.out _).mono ?_; rintro e w' ⟨rfl, qm4, rfl⟩
        clear M1 M2 M3 M4 O1 O2
        go_wp2
        all_goals
          go_ret
          exact gives_bool (by simp) (by (repeat' (first | (with_reducible assumption) | (with_reducible exact Below.refl _ _) | (with_reducible refine below_wov ?_ ?_ _) | (with_reducible refine below_drewN ?_ _) | (with_reducible refine Below.drew ?_) | (with_reducible refine Below.alloc ?_ ?_ _) | (with_reducible refine Below.setCell ?_ ?_ _) | (with_reducible exact Nat.le_refl _) | omega | (simp only [World.size_alloc, World.size_setCell, World.size_drew, Wov_size, World.heap_drewN]; omega))))
      · skip
        have bx0 : (ex != 0) = true := by rw [bne_iff_ne]; exact hx0
        go_wp2
        all_goals
          go_ret
          exact gives_bool (by simp) (by (repeat' (first | (with_reducible assumption) | (with_reducible exact Below.refl _ _) | (with_reducible refine below_wov ?_ ?_ _) | (with_reducible refine below_drewN ?_ _) | (with_reducible refine Below.drew ?_) | (with_reducible refine Below.alloc ?_ ?_ _) | (with_reducible refine Below.setCell ?_ ?_ _) | (with_reducible exact Nat.le_refl _) | omega | (simp only [World.size_alloc, World.size_setCell, World.size_drew, Wov_size, World.heap_drewN]; omega))))
    · skip
      have ba0 : (ea == 0) = false := by rw [beq_eq_false_iff_ne]; exact ha0
      go_wp2_with (fail)
      obtain ⟨Ab, hAb⟩ : ∃ A, W3.heap.size + qb.bl.size = A := ⟨_, rfl⟩
      rw [hAb]
      refine calls_world (fun W => Below w.heap.size w W ∧ BoxZ W w.heap.size z ∧ BoxS W (w.heap.size + 1) s.lo s.ls s.hi s.hs s.op ∧ BoxZ W Aa ra ∧ BoxZ W Ab rb) ⟨by (repeat' (first | (with_reducible assumption) | (with_reducible exact Below.refl _ _) | (with_reducible refine below_wov ?_ ?_ _) | (with_reducible refine below_drewN ?_ _) | (with_reducible refine Below.drew ?_) | (with_reducible refine Below.alloc ?_ ?_ _) | (with_reducible refine Below.setCell ?_ ?_ _) | (with_reducible exact Nat.le_refl _) | omega | (simp only [World.size_alloc, World.size_setCell, World.size_drew, Wov_size, World.heap_drewN]; omega))), m3_0.below (by (repeat' (first | (with_reducible assumption) | (with_reducible exact Below.refl _ _) | (with_reducible refine below_wov ?_ ?_ _) | (with_reducible refine below_drewN ?_ _) | (with_reducible refine Below.drew ?_) | (with_reducible refine Below.alloc ?_ ?_ _) | (with_reducible refine Below.setCell ?_ ?_ _) | (with_reducible exact Nat.le_refl _) | omega | (simp only [World.size_alloc, World.size_setCell, World.size_drew, Wov_size, World.heap_drewN]; omega)))), m3_1.below (by (repeat' (first | (with_reducible assumption) | (with_reducible exact Below.refl _ _) | (with_reducible refine below_wov ?_ ?_ _) | (with_reducible refine below_drewN ?_ _) | (with_reducible refine Below.drew ?_) | (with_reducible refine Below.alloc ?_ ?_ _) | (with_reducible refine Below.setCell ?_ ?_ _) | (with_reducible exact Nat.le_refl _) | omega | (simp only [World.size_alloc, World.size_setCell, World.size_drew, Wov_size, World.heap_drewN]; omega)))), m3_2.below (by (repeat' (first | (with_reducible assumption) | (with_reducible exact Below.refl _ _) | (with_reducible refine below_wov ?_ ?_ _) | (with_reducible refine below_drewN ?_ _) | (with_reducible refine Below.drew ?_) | (with_reducible refine Below.alloc ?_ ?_ _) | (with_reducible refine Below.setCell ?_ ?_ _) | (with_reducible exact Nat.le_refl _) | omega | (simp only [World.size_alloc, World.size_setCell, World.size_drew, Wov_size, World.heap_drewN]; omega)))), BoxZ.new (by rw [← hAb]; (try simp only [Wov_size]))⟩ ?_
      rintro W4 ⟨hb4, m4_0, m4_1, m4_2, m4_3⟩
      clear hb3 f3_0_lt f3_0_c0 f3_0_c1 f3_0_c2 f3_0_c3 f3_0_c4 f3_0_c5 f3_1_lt f3_1_c0 f3_1_c1 f3_1_c2 f3_1_c3 f3_1_c4 f3_2_lt f3_2_c0 f3_2_c1 f3_2_c2 f3_2_c3 f3_2_c4 f3_2_c5 m3_0 m3_1 m3_2 hs3
      have hs4 := hb4.size
      have f4_0_lt := m4_0.lt
      have f4_0_c0 := m4_0.c0
      have f4_0_c1 := m4_0.c1
      have f4_0_c2 := m4_0.c2
      have f4_0_c3 := m4_0.c3
      have f4_0_c4 := m4_0.c4
      have f4_0_c5 := m4_0.c5
      have f4_1_lt := m4_1.lt
      have f4_1_c0 := m4_1.c0
      have f4_1_c1 := m4_1.c1
      have f4_1_c2 := m4_1.c2
      have f4_1_c3 := m4_1.c3
      have f4_1_c4 := m4_1.c4
      have f4_2_lt := m4_2.lt
      have f4_2_c0 := m4_2.c0
      have f4_2_c1 := m4_2.c1
      have f4_2_c2 := m4_2.c2
      have f4_2_c3 := m4_2.c3
      have f4_2_c4 := m4_2.c4
      have f4_2_c5 := m4_2.c5
      have f4_3_lt := m4_3.lt
      have f4_3_c0 := m4_3.c0
      have f4_3_c1 := m4_3.c1
      have f4_3_c2 := m4_3.c2
      have f4_3_c3 := m4_3.c3
      have f4_3_c4 := m4_3.c4
      have f4_3_c5 := m4_3.c5
      clear hAb
      refine (Cx.out _).mono ?_; rintro e w' ⟨rfl, qx, rfl⟩
      by_cases hx0 : ex = 0
      · skip
        subst hx0
        obtain ⟨mm, rr, M1, M2, M3, M4⟩ := O2.out (by simp) (by simp)
        have M1 := Lib.hid M1
        have M2 := Lib.hid M2
        have M3 := Lib.hid M3
        have M4 := Lib.hid M4
        go_wp2_with (fail)
        obtain ⟨Ax, hAx⟩ : ∃ A, W4.heap.size + qx.bl.size = A := ⟨_, rfl⟩
        rw [hAx]
        refine calls_world (fun W => Below w.heap.size w W ∧ BoxZ W w.heap.size z ∧ BoxS W (w.heap.size + 1) s.lo s.ls s.hi s.hs s.op ∧ BoxZ W Aa ra ∧ BoxZ W Ab rb ∧ BoxZ W Ax rx) ⟨by (repeat' (first | (with_reducible assumption) | (with_reducible exact Below.refl _ _) | (with_reducible refine below_wov ?_ ?_ _) | (with_reducible refine below_drewN ?_ _) | (with_reducible refine Below.drew ?_) | (with_reducible refine Below.alloc ?_ ?_ _) | (with_reducible refine Below.setCell ?_ ?_ _) | (with_reducible exact Nat.le_refl _) | omega | (simp only [World.size_alloc, World.size_setCell, World.size_drew, Wov_size, World.heap_drewN]; omega))), m4_0.below (by (repeat' (first | (with_reducible assumption) | (with_reducible exact Below.refl _ _) | (with_reducible refine below_wov ?_ ?_ _) | (with_reducible refine below_drewN ?_ _) | (with_reducible refine Below.drew ?_) | (with_reducible refine Below.alloc ?_ ?_ _) | (with_reducible refine Below.setCell ?_ ?_ _) | (with_reducible exact Nat.le_refl _) | omega | (simp only [World.size_alloc, World.size_setCell, World.size_drew, Wov_size, World.heap_drewN]; omega)))), m4_1.below (by (repeat' (first | (with_reducible assumption) | (with_reducible exact Below.refl _ _) | (with_reducible refine below_wov ?_ ?_ _) | (with_reducible refine below_drewN ?_ _) | (with_reducible refine Below.drew ?_) | (with_reducible refine Below.alloc ?_ ?_ _) | (with_reducible refine Below.setCell ?_ ?_ _) | (with_reducible exact Nat.le_refl _) | omega | (simp only [World.size_alloc, World.size_setCell, World.size_drew, Wov_size, World.heap_drewN]; omega)))), m4_2.below (by (repeat' (first | (with_reducible assumption) | (with_reducible exact Below.refl _ _) | (with_reducible refine below_wov ?_ ?_ _) | (with_reducible refine below_drewN ?_ _) | (with_reducible refine Below.drew ?_) | (with_reducible refine Below.alloc ?_ ?_ _) | (with_reducible refine Below.setCell ?_ ?_ _) | (with_reducible exact Nat.le_refl _) | omega | (simp only [World.size_alloc, World.size_setCell, World.size_drew, Wov_size, World.heap_drewN]; omega)))), m4_3.below (by (repeat' (first | (with_reducible assumption) | (with_reducible exact Below.refl _ _) | (with_reducible refine below_wov ?_ ?_ _) | (with_reducible refine below_drewN ?_ _) | (with_reducible refine Below.drew ?_) | (with_reducible refine Below.alloc ?_ ?_ _) | (with_reducible refine Below.setCell ?_ ?_ _) | (with_reducible exact Nat.le_refl _) | omega | (simp only [World.size_alloc, World.size_setCell, World.size_drew, Wov_size, World.heap_drewN]; omega)))), BoxZ.new (by rw [← hAx]; (try simp only [Wov_size]))⟩ ?_
        rintro W5 ⟨hb5, m5_0, m5_1, m5_2, m5_3, m5_4⟩
        clear hb4 f4_0_lt f4_0_c0 f4_0_c1 f4_0_c2 f4_0_c3 f4_0_c4 f4_0_c5 f4_1_lt f4_1_c0 f4_1_c1 f4_1_c2 f4_1_c3 f4_1_c4 f4_2_lt f4_2_c0 f4_2_c1 f4_2_c2 f4_2_c3 f4_2_c4 f4_2_c5 f4_3_lt f4_3_c0 f4_3_c1 f4_3_c2 f4_3_c3 f4_3_c4 f4_3_c5 m4_0 m4_1 m4_2 m4_3 hs4
        have hs5 := hb5.size
        have f5_0_lt := m5_0.lt
        have f5_0_c0 := m5_0.c0
        have f5_0_c1 := m5_0.c1
        have f5_0_c2 := m5_0.c2
        have f5_0_c3 := m5_0.c3
        have f5_0_c4 := m5_0.c4
        have f5_0_c5 := m5_0.c5
        have f5_1_lt := m5_1.lt
        have f5_1_c0 := m5_1.c0
        have f5_1_c1 := m5_1.c1
        have f5_1_c2 := m5_1.c2
        have f5_1_c3 := m5_1.c3
        have f5_1_c4 := m5_1.c4
        have f5_2_lt := m5_2.lt
        have f5_2_c0 := m5_2.c0
        have f5_2_c1 := m5_2.c1
        have f5_2_c2 := m5_2.c2
        have f5_2_c3 := m5_2.c3
        have f5_2_c4 := m5_2.c4
        have f5_2_c5 := m5_2.c5
        have f5_3_lt := m5_3.lt
        have f5_3_c0 := m5_3.c0
        have f5_3_c1 := m5_3.c1
        have f5_3_c2 := m5_3.c2
        have f5_3_c3 := m5_3.c3
        have f5_3_c4 := m5_3.c4
        have f5_3_c5 := m5_3.c5
        have f5_4_lt := m5_4.lt
        have f5_4_c0 := m5_4.c0
        have f5_4_c1 := m5_4.c1
        have f5_4_c2 := m5_4.c2
        have f5_4_c3 := m5_4.c3
        have f5_4_c4 := m5_4.c4
        have f5_4_c5 := m5_4.c5
        clear hAx
        refine (M1.out _).mono ?_; rintro e w' ⟨rfl, qm1, rfl⟩
        go_wp2_with (fail)
        refine calls_world (fun W => Below w.heap.size w W ∧ BoxZ W w.heap.size z ∧ BoxS W (w.heap.size + 1) s.lo s.ls s.hi s.hs s.op ∧ BoxZ W Aa ra ∧ BoxZ W Ab rb ∧ BoxZ W Ax rx) ⟨by (repeat' (first | (with_reducible assumption) | (with_reducible exact Below.refl _ _) | (with_reducible refine below_wov ?_ ?_ _) | (with_reducible refine below_drewN ?_ _) | (with_reducible refine Below.drew ?_) | (with_reducible refine Below.alloc ?_ ?_ _) | (with_reducible refine Below.setCell ?_ ?_ _) | (with_reducible exact Nat.le_refl _) | omega | (simp only [World.size_alloc, World.size_setCell, World.size_drew, Wov_size, World.heap_drewN]; omega))), m5_0.below (by (repeat' (first | (with_reducible assumption) | (with_reducible exact Below.refl _ _) | (with_reducible refine below_wov ?_ ?_ _) | (with_reducible refine below_drewN ?_ _) | (with_reducible refine Below.drew ?_) | (with_reducible refine Below.alloc ?_ ?_ _) | (with_reducible refine Below.setCell ?_ ?_ _) | (with_reducible exact Nat.le_refl _) | omega | (simp only [World.size_alloc, World.size_setCell, World.size_drew, Wov_size, World.heap_drewN]; omega)))), m5_1.below (by (repeat' (first | (with_reducible assumption) | (with_reducible exact Below.refl _ _) | (with_reducible refine below_wov ?_ ?_ _) | (with_reducible refine below_drewN ?_ _) | (with_reducible refine Below.drew ?_) | (with_reducible refine Below.alloc ?_ ?_ _) | (with_reducible refine Below.setCell ?_ ?_ _) | (with_reducible exact Nat.le_refl _) | omega | (simp only [World.size_alloc, World.size_setCell, World.size_drew, Wov_size, World.heap_drewN]; omega)))), m5_2.below (by (repeat' (first | (with_reducible assumption) | (with_reducible exact Below.refl _ _) | (with_reducible refine below_wov ?_ ?_ _) | (with_reducible refine below_drewN ?_ _) | (with_reducible refine Below.drew ?_) | (with_reducible refine Below.alloc ?_ ?_ _) | (with_reducible refine Below.setCell ?_ ?_ _) | (with_reducible exact Nat.le_refl _) | omega | (simp only [World.size_alloc, World.size_setCell, World.size_drew, Wov_size, World.heap_drewN]; omega)))), m5_3.below (by (repeat' (first | (with_reducible assumption) | (with_reducible exact Below.refl _ _) | (with_reducible refine below_wov ?_ ?_ _) | (with_reducible refine below_drewN ?_ _) | (with_reducible refine Below.drew ?_) | (with_reducible refine Below.alloc ?_ ?_ _) | (with_reducible refine Below.setCell ?_ ?_ _) | (with_reducible exact Nat.le_refl _) | omega | (simp only [World.size_alloc, World.size_setCell, World.size_drew, Wov_size, World.heap_drewN]; omega)))), m5_4.below (by (repeat' (first | (with_reducible assumption) | (with_reducible exact Below.refl _ _) | (with_reducible refine below_wov ?_ ?_ _) | (with_reducible refine below_drewN ?_ _) | (with_reducible refine Below.drew ?_) | (with_reducible refine Below.alloc ?_ ?_ _) | (with_reducible refine Below.setCell ?_ ?_ _) | (with_reducible exact Nat.le_refl _) | omega | (simp only [World.size_alloc, World.size_setCell, World.size_drew, Wov_size, World.heap_drewN]; omega))))⟩ ?_
        rintro W6 ⟨hb6, m6_0, m6_1, m6_2, m6_3, m6_4⟩
        clear hb5 f5_0_lt f5_0_c0 f5_0_c1 f5_0_c2 f5_0_c3 f5_0_c4 f5_0_c5 f5_1_lt f5_1_c0 f5_1_c1 f5_1_c2 f5_1_c3 f5_1_c4 f5_2_lt f5_2_c0 f5_2_c1 f5_2_c2 f5_2_c3 f5_2_c4 f5_2_c5 f5_3_lt f5_3_c0 f5_3_c1 f5_3_c2 f5_3_c3 f5_3_c4 f5_3_c5 f5_4_lt f5_4_c0 f5_4_c1 f5_4_c2 f5_4_c3 f5_4_c4 f5_4_c5 m5_0 m5_1 m5_2 m5_3 m5_4 hs5
        have hs6 := hb6.size
        have f6_0_lt := m6_0.lt
        have f6_0_c0 := m6_0.c0
        have f6_0_c1 := m6_0.c1
        have f6_0_c2 := m6_0.c2
        have f6_0_c3 := m6_0.c3
        have f6_0_c4 := m6_0.c4
        have f6_0_c5 := m6_0.c5
        have f6_1_lt := m6_1.lt
        have f6_1_c0 := m6_1.c0
        have f6_1_c1 := m6_1.c1
        have f6_1_c2 := m6_1.c2
        have f6_1_c3 := m6_1.c3
        have f6_1_c4 := m6_1.c4
        have f6_2_lt := m6_2.lt
        have f6_2_c0 := m6_2.c0
        have f6_2_c1 := m6_2.c1
        have f6_2_c2 := m6_2.c2
        have f6_2_c3 := m6_2.c3
        have f6_2_c4 := m6_2.c4
        have f6_2_c5 := m6_2.c5
        have f6_3_lt := m6_3.lt
        have f6_3_c0 := m6_3.c0
        have f6_3_c1 := m6_3.c1
        have f6_3_c2 := m6_3.c2
        have f6_3_c3 := m6_3.c3
        have f6_3_c4 := m6_3.c4
        have f6_3_c5 := m6_3.c5
        have f6_4_lt := m6_4.lt
        have f6_4_c0 := m6_4.c0
        have f6_4_c1 := m6_4.c1
        have f6_4_c2 := m6_4.c2
        have f6_4_c3 := m6_4.c3
        have f6_4_c4 := m6_4.c4
        have f6_4_c5 := m6_4.c5
        refine (M2.out _).mono ?_; rintro e w' ⟨rfl, qm2, rfl⟩
        go_wp2_with (fail)
        obtain ⟨Ar, hAr⟩ : ∃ A, W6.heap.size + qm2.bl.size = A := ⟨_, rfl⟩
        rw [hAr]
        refine calls_world (fun W => Below w.heap.size w W ∧ BoxZ W w.heap.size z ∧ BoxS W (w.heap.size + 1) s.lo s.ls s.hi s.hs s.op ∧ BoxZ W Aa ra ∧ BoxZ W Ab rb ∧ BoxZ W Ax rx ∧ BoxZ W Ar rr) ⟨by (repeat' (first | (with_reducible assumption) | (with_reducible exact Below.refl _ _) | (with_reducible refine below_wov ?_ ?_ _) | (with_reducible refine below_drewN ?_ _) | (with_reducible refine Below.drew ?_) | (with_reducible refine Below.alloc ?_ ?_ _) | (with_reducible refine Below.setCell ?_ ?_ _) | (with_reducible exact Nat.le_refl _) | omega | (simp only [World.size_alloc, World.size_setCell, World.size_drew, Wov_size, World.heap_drewN]; omega))), m6_0.below (by (repeat' (first | (with_reducible assumption) | (with_reducible exact Below.refl _ _) | (with_reducible refine below_wov ?_ ?_ _) | (with_reducible refine below_drewN ?_ _) | (with_reducible refine Below.drew ?_) | (with_reducible refine Below.alloc ?_ ?_ _) | (with_reducible refine Below.setCell ?_ ?_ _) | (with_reducible exact Nat.le_refl _) | omega | (simp only [World.size_alloc, World.size_setCell, World.size_drew, Wov_size, World.heap_drewN]; omega)))), m6_1.below (by (repeat' (first | (with_reducible assumption) | (with_reducible exact Below.refl _ _) | (with_reducible refine below_wov ?_ ?_ _) | (with_reducible refine below_drewN ?_ _) | (with_reducible refine Below.drew ?_) | (with_reducible refine Below.alloc ?_ ?_ _) | (with_reducible refine Below.setCell ?_ ?_ _) | (with_reducible exact Nat.le_refl _) | omega | (simp only [World.size_alloc, World.size_setCell, World.size_drew, Wov_size, World.heap_drewN]; omega)))), m6_2.below (by (repeat' (first | (with_reducible assumption) | (with_reducible exact Below.refl _ _) | (with_reducible refine below_wov ?_ ?_ _) | (with_reducible refine below_drewN ?_ _) | (with_reducible refine Below.drew ?_) | (with_reducible refine Below.alloc ?_ ?_ _) | (with_reducible refine Below.setCell ?_ ?_ _) | (with_reducible exact Nat.le_refl _) | omega | (simp only [World.size_alloc, World.size_setCell, World.size_drew, Wov_size, World.heap_drewN]; omega)))), m6_3.below (by (repeat' (first | (with_reducible assumption) | (with_reducible exact Below.refl _ _) | (with_reducible refine below_wov ?_ ?_ _) | (with_reducible refine below_drewN ?_ _) | (with_reducible refine Below.drew ?_) | (with_reducible refine Below.alloc ?_ ?_ _) | (with_reducible refine Below.setCell ?_ ?_ _) | (with_reducible exact Nat.le_refl _) | omega | (simp only [World.size_alloc, World.size_setCell, World.size_drew, Wov_size, World.heap_drewN]; omega)))), m6_4.below (by (repeat' (first | (with_reducible assumption) | (with_reducible exact Below.refl _ _) | (with_reducible refine below_wov ?_ ?_ _) | (with_reducible refine below_drewN ?_ _) | (with_reducible refine Below.drew ?_) | (with_reducible refine Below.alloc ?_ ?_ _) | (with_reducible refine Below.setCell ?_ ?_ _) | (with_reducible exact Nat.le_refl _) | omega | (simp only [World.size_alloc, World.size_setCell, World.size_drew, Wov_size, World.heap_drewN]; omega)))), BoxZ.new (by rw [← hAr]; (try simp only [Wov_size]))⟩ ?_
        rintro W7 ⟨hb7, m7_0, m7_1, m7_2, m7_3, m7_4, m7_5⟩
        clear hb6 f6_0_lt f6_0_c0 f6_0_c1 f6_0_c2 f6_0_c3 f6_0_c4 f6_0_c5 f6_1_lt f6_1_c0 f6_1_c1 f6_1_c2 f6_1_c3 f6_1_c4 f6_2_lt f6_2_c0 f6_2_c1 f6_2_c2 f6_2_c3 f6_2_c4 f6_2_c5 f6_3_lt f6_3_c0 f6_3_c1 f6_3_c2 f6_3_c3 f6_3_c4 f6_3_c5 f6_4_lt f6_4_c0 f6_4_c1 f6_4_c2 f6_4_c3 f6_4_c4 f6_4_c5 m6_0 m6_1 m6_2 m6_3 m6_4 hs6
        have hs7 := hb7.size
        have f7_0_lt := m7_0.lt
        have f7_0_c0 := m7_0.c0
        have f7_0_c1 := m7_0.c1
        have f7_0_c2 := m7_0.c2
        have f7_0_c3 := m7_0.c3
        have f7_0_c4 := m7_0.c4
        have f7_0_c5 := m7_0.c5
        have f7_1_lt := m7_1.lt
        have f7_1_c0 := m7_1.c0
        have f7_1_c1 := m7_1.c1
        have f7_1_c2 := m7_1.c2
        have f7_1_c3 := m7_1.c3
        have f7_1_c4 := m7_1.c4
        have f7_2_lt := m7_2.lt
        have f7_2_c0 := m7_2.c0
        have f7_2_c1 := m7_2.c1
        have f7_2_c2 := m7_2.c2
        have f7_2_c3 := m7_2.c3
        have f7_2_c4 := m7_2.c4
        have f7_2_c5 := m7_2.c5
        have f7_3_lt := m7_3.lt
        have f7_3_c0 := m7_3.c0
        have f7_3_c1 := m7_3.c1
        have f7_3_c2 := m7_3.c2
        have f7_3_c3 := m7_3.c3
        have f7_3_c4 := m7_3.c4
        have f7_3_c5 := m7_3.c5
        have f7_4_lt := m7_4.lt
        have f7_4_c0 := m7_4.c0
        have f7_4_c1 := m7_4.c1
        have f7_4_c2 := m7_4.c2
        have f7_4_c3 := m7_4.c3
        have f7_4_c4 := m7_4.c4
        have f7_4_c5 := m7_4.c5
        have f7_5_lt := m7_5.lt
        have f7_5_c0 := m7_5.c0
        have f7_5_c1 := m7_5.c1
        have f7_5_c2 := m7_5.c2
        have f7_5_c3 := m7_5.c3
        have f7_5_c4 := m7_5.c4
        have f7_5_c5 := m7_5.c5
        clear hAr
        refine (M3.out _).mono ?_; rintro e w' ⟨rfl, qm3, rfl⟩
        go_wp2_with (fail)
        refine calls_world (fun W => Below w.heap.size w W ∧ BoxZ W w.heap.size z ∧ BoxS W (w.heap.size + 1) s.lo s.ls s.hi s.hs s.op ∧ BoxZ W Aa ra ∧ BoxZ W Ab rb ∧ BoxZ W Ax rx ∧ BoxZ W Ar rr) ⟨by (repeat' (first | (with_reducible assumption) | (with_reducible exact Below.refl _ _) | (with_reducible refine below_wov ?_ ?_ _) | (with_reducible refine below_drewN ?_ _) | (with_reducible refine Below.drew ?_) | (with_reducible refine Below.alloc ?_ ?_ _) | (with_reducible refine Below.setCell ?_ ?_ _) | (with_reducible exact Nat.le_refl _) | omega | (simp only [World.size_alloc, World.size_setCell, World.size_drew, Wov_size, World.heap_drewN]; omega))), m7_0.below (by (repeat' (first | (with_reducible assumption) | (with_reducible exact Below.refl _ _) | (with_reducible refine below_wov ?_ ?_ _) | (with_reducible refine below_drewN ?_ _) | (with_reducible refine Below.drew ?_) | (with_reducible refine Below.alloc ?_ ?_ _) | (with_reducible refine Below.setCell ?_ ?_ _) | (with_reducible exact Nat.le_refl _) | omega | (simp only [World.size_alloc, World.size_setCell, World.size_drew, Wov_size, World.heap_drewN]; omega)))), m7_1.below (by (repeat' (first | (with_reducible assumption) | (with_reducible exact Below.refl _ _) | (with_reducible refine below_wov ?_ ?_ _) | (with_reducible refine below_drewN ?_ _) | (with_reducible refine Below.drew ?_) | (with_reducible refine Below.alloc ?_ ?_ _) | (with_reducible refine Below.setCell ?_ ?_ _) | (with_reducible exact Nat.le_refl _) | omega | (simp only [World.size_alloc, World.size_setCell, World.size_drew, Wov_size, World.heap_drewN]; omega)))), m7_2.below (by (repeat' (first | (with_reducible assumption) | (with_reducible exact Below.refl _ _) | (with_reducible refine below_wov ?_ ?_ _) | (with_reducible refine below_drewN ?_ _) | (with_reducible refine Below.drew ?_) | (with_reducible refine Below.alloc ?_ ?_ _) | (with_reducible refine Below.setCell ?_ ?_ _) | (with_reducible exact Nat.le_refl _) | omega | (simp only [World.size_alloc, World.size_setCell, World.size_drew, Wov_size, World.heap_drewN]; omega)))), m7_3.below (by (repeat' (first | (with_reducible assumption) | (with_reducible exact Below.refl _ _) | (with_reducible refine below_wov ?_ ?_ _) | (with_reducible refine below_drewN ?_ _) | (with_reducible refine Below.drew ?_) | (with_reducible refine Below.alloc ?_ ?_ _) | (with_reducible refine Below.setCell ?_ ?_ _) | (with_reducible exact Nat.le_refl _) | omega | (simp only [World.size_alloc, World.size_setCell, World.size_drew, Wov_size, World.heap_drewN]; omega)))), m7_4.below (by (repeat' (first | (with_reducible assumption) | (with_reducible exact Below.refl _ _) | (with_reducible refine below_wov ?_ ?_ _) | (with_reducible refine below_drewN ?_ _) | (with_reducible refine Below.drew ?_) | (with_reducible refine Below.alloc ?_ ?_ _) | (with_reducible refine Below.setCell ?_ ?_ _) | (with_reducible exact Nat.le_refl _) | omega | (simp only [World.size_alloc, World.size_setCell, World.size_drew, Wov_size, World.heap_drewN]; omega)))), m7_5.below (by (repeat' (first | (with_reducible assumption) | (with_reducible exact Below.refl _ _) | (with_reducible refine below_wov ?_ ?_ _) | (with_reducible refine below_drewN ?_ _) | (with_reducible refine Below.drew ?_) | (with_reducible refine Below.alloc ?_ ?_ _) | (with_reducible refine Below.setCell ?_ ?_ _) | (with_reducible exact Nat.le_refl _) | omega | (simp only [World.size_alloc, World.size_setCell, World.size_drew, Wov_size, World.heap_drewN]; omega))))⟩ ?_
        rintro W8 ⟨hb8, m8_0, m8_1, m8_2, m8_3, m8_4, m8_5⟩
        clear hb7 f7_0_lt f7_0_c0 f7_0_c1 f7_0_c2 f7_0_c3 f7_0_c4 f7_0_c5 f7_1_lt f7_1_c0 f7_1_c1 f7_1_c2 f7_1_c3 f7_1_c4 f7_2_lt f7_2_c0 f7_2_c1 f7_2_c2 f7_2_c3 f7_2_c4 f7_2_c5 f7_3_lt f7_3_c0 f7_3_c1 f7_3_c2 f7_3_c3 f7_3_c4 f7_3_c5 f7_4_lt f7_4_c0 f7_4_c1 f7_4_c2 f7_4_c3 f7_4_c4 f7_4_c5 f7_5_lt f7_5_c0 f7_5_c1 f7_5_c2 f7_5_c3 f7_5_c4 f7_5_c5 m7_0 m7_1 m7_2 m7_3 m7_4 m7_5 hs7
        have hs8 := hb8.size
        have f8_0_lt := m8_0.lt
        have f8_0_c0 := m8_0.c0
        have f8_0_c1 := m8_0.c1
        have f8_0_c2 := m8_0.c2
        have f8_0_c3 := m8_0.c3
        have f8_0_c4 := m8_0.c4
        have f8_0_c5 := m8_0.c5
        have f8_1_lt := m8_1.lt
        have f8_1_c0 := m8_1.c0
        have f8_1_c1 := m8_1.c1
        have f8_1_c2 := m8_1.c2
        have f8_1_c3 := m8_1.c3
        have f8_1_c4 := m8_1.c4
        have f8_2_lt := m8_2.lt
        have f8_2_c0 := m8_2.c0
        have f8_2_c1 := m8_2.c1
        have f8_2_c2 := m8_2.c2
        have f8_2_c3 := m8_2.c3
        have f8_2_c4 := m8_2.c4
        have f8_2_c5 := m8_2.c5
        have f8_3_lt := m8_3.lt
        have f8_3_c0 := m8_3.c0
        have f8_3_c1 := m8_3.c1
        have f8_3_c2 := m8_3.c2
        have f8_3_c3 := m8_3.c3
        have f8_3_c4 := m8_3.c4
        have f8_3_c5 := m8_3.c5
        have f8_4_lt := m8_4.lt
        have f8_4_c0 := m8_4.c0
        have f8_4_c1 := m8_4.c1
        have f8_4_c2 := m8_4.c2
        have f8_4_c3 := m8_4.c3
        have f8_4_c4 := m8_4.c4
        have f8_4_c5 := m8_4.c5
        have f8_5_lt := m8_5.lt
        have f8_5_c0 := m8_5.c0
        have f8_5_c1 := m8_5.c1
        have f8_5_c2 := m8_5.c2
        have f8_5_c3 := m8_5.c3
        have f8_5_c4 := m8_5.c4
        have f8_5_c5 := m8_5.c5
        refine (M4.out _).mono ?_; rintro e w' ⟨rfl, qm4, rfl⟩
        clear M1 M2 M3 M4 O1 O2
        go_wp2
        all_goals
          go_ret
          exact gives_bool (by simp) (by (repeat' (first | (with_reducible assumption) | (with_reducible exact Below.refl _ _) | (with_reducible refine below_wov ?_ ?_ _) | (with_reducible refine below_drewN ?_ _) | (with_reducible refine Below.drew ?_) | (with_reducible refine Below.alloc ?_ ?_ _) | (with_reducible refine Below.setCell ?_ ?_ _) | (with_reducible exact Nat.le_refl _) | omega | (simp only [World.size_alloc, World.size_setCell, World.size_drew, Wov_size, World.heap_drewN]; omega))))
      · skip
        have bx0 : (ex != 0) = true := by rw [bne_iff_ne]; exact hx0
        go_wp2
        all_goals
          go_ret
          exact gives_bool (by simp) (by (repeat' (first | (with_reducible assumption) | (with_reducible exact Below.refl _ _) | (with_reducible refine below_wov ?_ ?_ _) | (with_reducible refine below_drewN ?_ _) | (with_reducible refine Below.drew ?_) | (with_reducible refine Below.alloc ?_ ?_ _) | (with_reducible refine Below.setCell ?_ ?_ _) | (with_reducible exact Nat.le_refl _) | omega | (simp only [World.size_alloc, World.size_setCell, World.size_drew, Wov_size, World.heap_drewN]; omega))))
  · skip
    have bb0 : (eb == 0) = false := by rw [beq_eq_false_iff_ne]; exact hb0
    have bb1 : (eb != 0) = true := by rw [bne_iff_ne]; exact hb0
    by_cases ha0 : ea = 0
    · skip
      subst ha0
      go_wp2_with (fail)
      obtain ⟨Ab, hAb⟩ : ∃ A, W3.heap.size + qb.bl.size = A := ⟨_, rfl⟩
      rw [hAb]
      refine calls_world (fun W => Below w.heap.size w W ∧ BoxZ W w.heap.size z ∧ BoxS W (w.heap.size + 1) s.lo s.ls s.hi s.hs s.op ∧ BoxZ W Aa ra ∧ BoxZ W Ab rb) ⟨by (repeat' (first | (with_reducible assumption) | (with_reducible exact Below.refl _ _) | (with_reducible refine below_wov ?_ ?_ _) | (with_reducible refine below_drewN ?_ _) | (with_reducible refine Below.drew ?_) | (with_reducible refine Below.alloc ?_ ?_ _) | (with_reducible refine Below.setCell ?_ ?_ _) | (with_reducible exact Nat.le_refl _) | omega | (simp only [World.size_alloc, World.size_setCell, World.size_drew, Wov_size, World.heap_drewN]; omega))), m3_0.below (by (repeat' (first | (with_reducible assumption) | (with_reducible exact Below.refl _ _) | (with_reducible refine below_wov ?_ ?_ _) | (with_reducible refine below_drewN ?_ _) | (with_reducible refine Below.drew ?_) | (with_reducible refine Below.alloc ?_ ?_ _) | (with_reducible refine Below.setCell ?_ ?_ _) | (with_reducible exact Nat.le_refl _) | omega | (simp only [World.size_alloc, World.size_setCell, World.size_drew, Wov_size, World.heap_drewN]; omega)))), m3_1.below (by (repeat' (first | (with_reducible assumption) | (with_reducible exact Below.refl _ _) | (with_reducible refine below_wov ?_ ?_ _) | (with_reducible refine below_drewN ?_ _) | (with_reducible refine Below.drew ?_) | (with_reducible refine Below.alloc ?_ ?_ _) | (with_reducible refine Below.setCell ?_ ?_ _) | (with_reducible exact Nat.le_refl _) | omega | (simp only [World.size_alloc, World.size_setCell, World.size_drew, Wov_size, World.heap_drewN]; omega)))), m3_2.below (by (repeat' (first | (with_reducible assumption) | (with_reducible exact Below.refl _ _) | (with_reducible refine below_wov ?_ ?_ _) | (with_reducible refine below_drewN ?_ _) | (with_reducible refine Below.drew ?_) | (with_reducible refine Below.alloc ?_ ?_ _) | (with_reducible refine Below.setCell ?_ ?_ _) | (with_reducible exact Nat.le_refl _) | omega | (simp only [World.size_alloc, World.size_setCell, World.size_drew, Wov_size, World.heap_drewN]; omega)))), BoxZ.new (by rw [← hAb]; (try simp only [Wov_size]))⟩ ?_
      rintro W4 ⟨hb4, m4_0, m4_1, m4_2, m4_3⟩
      clear hb3 f3_0_lt f3_0_c0 f3_0_c1 f3_0_c2 f3_0_c3 f3_0_c4 f3_0_c5 f3_1_lt f3_1_c0 f3_1_c1 f3_1_c2 f3_1_c3 f3_1_c4 f3_2_lt f3_2_c0 f3_2_c1 f3_2_c2 f3_2_c3 f3_2_c4 f3_2_c5 m3_0 m3_1 m3_2 hs3
      have hs4 := hb4.size
      have f4_0_lt := m4_0.lt
      have f4_0_c0 := m4_0.c0
      have f4_0_c1 := m4_0.c1
      have f4_0_c2 := m4_0.c2
      have f4_0_c3 := m4_0.c3
      have f4_0_c4 := m4_0.c4
      have f4_0_c5 := m4_0.c5
      have f4_1_lt := m4_1.lt
      have f4_1_c0 := m4_1.c0
      have f4_1_c1 := m4_1.c1
      have f4_1_c2 := m4_1.c2
      have f4_1_c3 := m4_1.c3
      have f4_1_c4 := m4_1.c4
      have f4_2_lt := m4_2.lt
      have f4_2_c0 := m4_2.c0
      have f4_2_c1 := m4_2.c1
      have f4_2_c2 := m4_2.c2
      have f4_2_c3 := m4_2.c3
      have f4_2_c4 := m4_2.c4
      have f4_2_c5 := m4_2.c5
      have f4_3_lt := m4_3.lt
      have f4_3_c0 := m4_3.c0
      have f4_3_c1 := m4_3.c1
      have f4_3_c2 := m4_3.c2
      have f4_3_c3 := m4_3.c3
      have f4_3_c4 := m4_3.c4
      have f4_3_c5 := m4_3.c5
      clear hAb
      refine (Cx.out _).mono ?_; rintro e w' ⟨rfl, qx, rfl⟩
      go_wp2
      all_goals
        go_ret
        exact gives_bool (by simp) (by (repeat' (first | (with_reducible assumption) | (with_reducible exact Below.refl _ _) | (with_reducible refine below_wov ?_ ?_ _) | (with_reducible refine below_drewN ?_ _) | (with_reducible refine Below.drew ?_) | (with_reducible refine Below.alloc ?_ ?_ _) | (with_reducible refine Below.setCell ?_ ?_ _) | (with_reducible exact Nat.le_refl _) | omega | (simp only [World.size_alloc, World.size_setCell, World.size_drew, Wov_size, World.heap_drewN]; omega))))
    · skip
      have ba0 : (ea == 0) = false := by rw [beq_eq_false_iff_ne]; exact ha0
      go_wp2_with (fail)
      obtain ⟨Ab, hAb⟩ : ∃ A, W3.heap.size + qb.bl.size = A := ⟨_, rfl⟩
      rw [hAb]
      refine calls_world (fun W => Below w.heap.size w W ∧ BoxZ W w.heap.size z ∧ BoxS W (w.heap.size + 1) s.lo s.ls s.hi s.hs s.op ∧ BoxZ W Aa ra ∧ BoxZ W Ab rb) ⟨by (repeat' (first | (with_reducible assumption) | (with_reducible exact Below.refl _ _) | (with_reducible refine below_wov ?_ ?_ _) | (with_reducible refine below_drewN ?_ _) | (with_reducible refine Below.drew ?_) | (with_reducible refine Below.alloc ?_ ?_ _) | (with_reducible refine Below.setCell ?_ ?_ _) | (with_reducible exact Nat.le_refl _) | omega | (simp only [World.size_alloc, World.size_setCell, World.size_drew, Wov_size, World.heap_drewN]; omega))), m3_0.below (by (repeat' (first | (with_reducible assumption) | (with_reducible exact Below.refl _ _) | (with_reducible refine below_wov ?_ ?_ _) | (with_reducible refine below_drewN ?_ _) | (with_reducible refine Below.drew ?_) | (with_reducible refine Below.alloc ?_ ?_ _) | (with_reducible refine Below.setCell ?_ ?_ _) | (with_reducible exact Nat.le_refl _) | omega | (simp only [World.size_alloc, World.size_setCell, World.size_drew, Wov_size, World.heap_drewN]; omega)))), m3_1.below (by (repeat' (first | (with_reducible assumption) | (with_reducible exact Below.refl _ _) | (with_reducible refine below_wov ?_ ?_ _) | (with_reducible refine below_drewN ?_ _) | (with_reducible refine Below.drew ?_) | (with_reducible refine Below.alloc ?_ ?_ _) | (with_reducible refine Below.setCell ?_ ?_ _) | (with_reducible exact Nat.le_refl _) | omega | (simp only [World.size_alloc, World.size_setCell, World.size_drew, Wov_size, World.heap_drewN]; omega)))), m3_2.below (by (repeat' (first | (with_reducible assumption) | (with_reducible exact Below.refl _ _) | (with_reducible refine below_wov ?_ ?_ _) | (with_reducible refine below_drewN ?_ _) | (with_reducible refine Below.drew ?_) | (with_reducible refine Below.alloc ?_ ?_ _) | (with_reducible refine Below.setCell ?_ ?_ _) | (with_reducible exact Nat.le_refl _) | omega | (simp only [World.size_alloc, World.size_setCell, World.size_drew, Wov_size, World.heap_drewN]; omega)))), BoxZ.new (by rw [← hAb]; (try simp only [Wov_size]))⟩ ?_
      rintro W4 ⟨hb4, m4_0, m4_1, m4_2, m4_3⟩
      clear hb3 f3_0_lt f3_0_c0 f3_0_c1 f3_0_c2 f3_0_c3 f3_0_c4 f3_0_c5 f3_1_lt f3_1_c0 f3_1_c1 f3_1_c2 f3_1_c3 f3_1_c4 f3_2_lt f3_2_c0 f3_2_c1 f3_2_c2 f3_2_c3 f3_2_c4 f3_2_c5 m3_0 m3_1 m3_2 hs3
      have hs4 := hb4.size
      have f4_0_lt := m4_0.lt
      have f4_0_c0 := m4_0.c0
      have f4_0_c1 := m4_0.c1
      have f4_0_c2 := m4_0.c2
      have f4_0_c3 := m4_0.c3
      have f4_0_c4 := m4_0.c4
      have f4_0_c5 := m4_0.c5
      have f4_1_lt := m4_1.lt
      have f4_1_c0 := m4_1.c0
      have f4_1_c1 := m4_1.c1
      have f4_1_c2 := m4_1.c2
      have f4_1_c3 := m4_1.c3
      have f4_1_c4 := m4_1.c4
      have f4_2_lt := m4_2.lt
      have f4_2_c0 := m4_2.c0
      have f4_2_c1 := m4_2.c1
      have f4_2_c2 := m4_2.c2
      have f4_2_c3 := m4_2.c3
      have f4_2_c4 := m4_2.c4
      have f4_2_c5 := m4_2.c5
      have f4_3_lt := m4_3.lt
      have f4_3_c0 := m4_3.c0
      have f4_3_c1 := m4_3.c1
      have f4_3_c2 := m4_3.c2
      have f4_3_c3 := m4_3.c3
      have f4_3_c4 := m4_3.c4
      have f4_3_c5 := m4_3.c5
      clear hAb
      refine (Cx.out _).mono ?_; rintro e w' ⟨rfl, qx, rfl⟩
      go_wp2
      all_goals
        go_ret
        exact gives_bool (by simp) (by (repeat' (first | (with_reducible assumption) | (with_reducible exact Below.refl _ _) | (with_reducible refine below_wov ?_ ?_ _) | (with_reducible refine below_drewN ?_ _) | (with_reducible refine Below.drew ?_) | (with_reducible refine Below.alloc ?_ ?_ _) | (with_reducible refine Below.setCell ?_ ?_ _) | (with_reducible exact Nat.le_refl _) | omega | (simp only [World.size_alloc, World.size_setCell, World.size_drew, Wov_size, World.heap_drewN]; omega))))
theorem walk (z0 : Nat → Int) (wz0 : FitsZ z0) (lo1 : Int) (ls1 : Bool) (hi1 : Int) (hs1 op1 : Bool) (wlo1 : fits64 lo1) (whi1 : fits64 hi1) (a2 : Int) (wa2 : (Lit.int .i64 a2).wf = true) (a3 : Int) (wa3 : (Lit.int .i64 a3).wf = true) (a4 : Int) (wa4 : (Lit.int .i64 a4).wf = true) (w : World) : Calls Try.prog 12 #[zoneV z0, .agg #[.int .i64 lo1, .bool ls1, .int .i64 hi1, .bool hs1, .bool op1], .int .i64 a2, .int .i64 a3, .int .i64 a4] w (Gives w (.bool true)) := walk0 z0 wz0 ⟨lo1, ls1, hi1, hs1, op1⟩ wlo1 whi1 a2 (fits_of_wf wa2) a3 (fits_of_wf wa3) a4 (fits_of_wf wa4) w
end Go.Proofs.Ytnjhjgkekmjmdaa.winOrder
