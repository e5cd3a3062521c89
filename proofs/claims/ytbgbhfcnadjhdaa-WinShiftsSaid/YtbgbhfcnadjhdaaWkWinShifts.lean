/- The law WinShifts (walk): a pair is in a later zone just if both times, as much less, are in the zone; later, and as much sooner, is the zone. No condition. -/
import Derived.Test.YtbgbhfcnadjhdaaK12
import Derived.Test.YtbgbhfcnadjhdaaH8
import Derived.Test.YtbgbhfcnadjhdaaFrame2
namespace Go.Proofs.Ytbgbhfcnadjhdaa.winShifts
open Go.ChangeShapes Go.WideShapes Go.ChangeAt Go.RowKit
set_option linter.unusedVariables false
set_option linter.unusedSimpArgs false
attribute [local go_sem] Nat.add_assoc Nat.add_lt_add_iff_left lit_lt_add

set_option maxRecDepth 100000 in
set_option maxHeartbeats 16000000 in
theorem walk0 (z : Nat → Int) (wz : FitsZ z) (n : Int) (wn : fits64 n) (pa pb pc pd : Int) (wpa : fits64 pa) (wpb : fits64 pb) (wpc : fits64 pc) (wpd : fits64 pd) (w : World) :
    Calls Try.prog 10 #[zoneV z, .int .i64 n, .agg #[.int .i64 pa, .int .i64 pb, .int .i64 pc, .int .i64 pd]] w (Gives w (.bool true)) := by
  have HA := Lib.hid alive10
  obtain ⟨⟨ra, ea⟩, ha⟩ : ∃ r, r = shiftZ z n := ⟨_, rfl⟩
  have Ca : Hid (∀ w, Calls Try.prog 28 #[.agg #[.int .i64 (z 0), .int .i64 (z 1), .int .i64 (z 2), .int .i64 (z 3), .int .i64 (z 4), .int .i64 (z 5)], .int .i64 n] w (Gives w (.tuple #[.agg #[.int .i64 (ra 0), .int .i64 (ra 1), .int .i64 (ra 2), .int .i64 (ra 3), .int .i64 (ra 4), .int .i64 (ra 5)], .int .i64 ea]))) := fun w => by
    have := wshift_any z n w wz wn
    rw [← ha] at this; exact this
  by_cases h0 : ea = 0
  · skip
    subst h0
    obtain ⟨ok, fn, oka, hra⟩ := shift_ok ha.symm
    obtain ⟨hb2, hbz⟩ := shift_back ha.symm
    have bn := fitsW_bd fn
    obtain ⟨m, hm⟩ : ∃ m, m = -n := ⟨_, rfl⟩
    have hw : IntKind.i64.wrap (-n) = m := by rw [IntKind.wrap_i64]; omega
    have wm : fits64 m := by unfold fits64; omega
    rw [← hm] at hb2 hbz
    rw [← hra] at oka
    obtain ⟨⟨rb, eb⟩, hb⟩ : ∃ r, r = shiftZ ra m := ⟨_, rfl⟩
    have Cb : Hid (∀ w, Calls Try.prog 28 #[.agg #[.int .i64 (ra 0), .int .i64 (ra 1), .int .i64 (ra 2), .int .i64 (ra 3), .int .i64 (ra 4), .int .i64 (ra 5)], .int .i64 m] w (Gives w (.tuple #[.agg #[.int .i64 (rb 0), .int .i64 (rb 1), .int .i64 (rb 2), .int .i64 (rb 3), .int .i64 (rb 4), .int .i64 (rb 5)], .int .i64 eb]))) := fun w => by
      have := wshift_any ra m w (okZ_fits oka) wm
      rw [← hb] at this; exact this
    rw [← hb] at hb2 hbz
    dsimp only at hb2 hbz
    subst hb2
    have E : eq6 (rb 0) (rb 1) (rb 2) (rb 3) (rb 4) (rb 5) (z 0) (z 1) (z 2) (z 3) (z 4) (z 5) = true := (eq6_iff rb z).2 hbz
    have h8 : ok8 (8 * m) := by unfold ok8; omega
    have okm : okRat m 1 = true := by have := q8_ok h8; rwa [q8_whole] at this
    have OL : Hid (∀ w, Calls Try.prog 42 #[.int .i64 m, .int .i64 1] w (Gives w (.tuple #[.agg #[.int .i64 m, .int .i64 1], .int .i64 0]))) := fun w => by
      have := of_any m 1 (by omega) (by omega) (by decide) w
      rw [ofR_one h8] at this; exact this
    obtain ⟨⟨t1, t2, e3⟩, ht⟩ : ∃ r, r = addPR pa pb m 1 1 := ⟨_, rfl⟩
    obtain ⟨⟨u1, u2, e4⟩, hu⟩ : ∃ r, r = addPR pc pd m 1 1 := ⟨_, rfl⟩
    have AT : Hid (∀ w, Calls Try.prog 43 #[.agg #[.int .i64 pa, .int .i64 pb], .agg #[.int .i64 m, .int .i64 1]] w (Gives w (.tuple #[.agg #[.int .i64 t1, .int .i64 t2], .int .i64 e3]))) := fun w => by
      have := ratAdd_any pa pb m 1 wpa wm w
      rw [← ht] at this; exact this
    have AU : Hid (∀ w, Calls Try.prog 43 #[.agg #[.int .i64 pc, .int .i64 pd], .agg #[.int .i64 m, .int .i64 1]] w (Gives w (.tuple #[.agg #[.int .i64 u1, .int .i64 u2], .int .i64 e4]))) := fun w => by
      have := ratAdd_any pc pd m 1 wpc wm w
      rw [← hu] at this; exact this
    have HH : Hid (e3 = 0 → e4 = 0 → ∃ k : Bool, (∀ w, Calls Try.prog 38 #[.agg #[.int .i64 (ra 0), .int .i64 (ra 1), .int .i64 (ra 2), .int .i64 (ra 3), .int .i64 (ra 4), .int .i64 (ra 5)], .agg #[.int .i64 pa, .int .i64 pb, .int .i64 pc, .int .i64 pd]] w (Gives w (.tuple #[.bool k, .int .i64 0]))) ∧ (∀ w, Calls Try.prog 38 #[.agg #[.int .i64 (z 0), .int .i64 (z 1), .int .i64 (z 2), .int .i64 (z 3), .int .i64 (z 4), .int .i64 (z 5)], .agg #[.int .i64 t1, .int .i64 t2, .int .i64 u1, .int .i64 u2]] w (Gives w (.tuple #[.bool k, .int .i64 0])))) := fun k3 k4 => by
      subst k3; subst k4
      rcases addPR_spec (by decide) ht.symm with ⟨_, o1, _, f1, o2, x1, y1, y2, _⟩ | ⟨x, _⟩
      case inr => exact absurd rfl x
      rcases addPR_spec (by decide) hu.symm with ⟨_, o3, _, f3, o4, x3, y3, y4, _⟩ | ⟨x, _⟩
      case inr => exact absurd rfl x
      have d2 : fits64 t2 := by have := okRat_bd o2; unfold fits64; omega
      have d4 : fits64 u2 := by have := okRat_bd o4; unfold fits64; omega
      have rp : allRat 2 (pt pa pb pc pd) = true := by rw [rat2]; show (okRat pa pb && okRat pc pd) = true; rw [o1, o3]; rfl
      have rt : allRat 2 (pt t1 t2 u1 u2) = true := by rw [rat2]; show (okRat t1 t2 && okRat u1 u2) = true; rw [o2, o4]; rfl
      refine ⟨keptAll 3 (zF z) (pt t1 t2 u1 u2), fun w => ?_, fun w => ?_⟩
      · have := zhas_any ra pa pb pc pd w (okZ_fits oka) wpa wpb wpc wpd
        rw [hasZ_of oka rp, hra, shift_points ok fn y2 y4 y1 y3 (by rw [← hm]; exact x1) (by rw [← hm]; exact x3), ← hra] at this
        exact this
      · have := zhas_any z t1 t2 u1 u2 w wz f1 d2 f3 d4
        rw [hasZ_of ok rt] at this
        exact this
    clear ha hb hra ok fn oka bn hm wm h8 okm ht hu wz wn wpa wpb wpc wpd hbz
    unfold zoneV
    go_enter Try.func10, Try.ntmps10
    go_wp2_with (fail)
    refine calls_world (fun W => Below w.heap.size w W ∧ BoxZ W w.heap.size z ∧ PtAt W (w.heap.size + 1) pa pb pc pd) ⟨by (repeat' (first | (with_reducible assumption) | (with_reducible exact Below.refl _ _) | (with_reducible refine below_wov ?_ ?_ _) | (with_reducible refine below_drewN ?_ _) | (with_reducible refine Below.drew ?_) | (with_reducible refine Below.alloc ?_ ?_ _) | (with_reducible refine Below.setCell ?_ ?_ _) | (with_reducible exact Nat.le_refl _) | omega | (simp only [World.size_alloc, World.size_setCell, World.size_drew, Wov_size, World.heap_drewN]; omega))), (BoxZ.new (W := w) (t := 24) (by simp)).below (by (repeat' (first | (with_reducible assumption) | (with_reducible exact Below.refl _ _) | (with_reducible refine below_wov ?_ ?_ _) | (with_reducible refine below_drewN ?_ _) | (with_reducible refine Below.drew ?_) | (with_reducible refine Below.alloc ?_ ?_ _) | (with_reducible refine Below.setCell ?_ ?_ _) | (with_reducible exact Nat.le_refl _) | omega | (simp only [World.size_alloc, World.size_setCell, World.size_drew, Wov_size, World.heap_drewN]; omega)))), (PtAt.new (W := (World.alloc w (.cells #[.int .i64 (z 0), .int .i64 (z 1), .int .i64 (z 2), .int .i64 (z 3), .int .i64 (z 4), .int .i64 (z 5)] 24))) (t := 67) (by simp)).below (by (repeat' (first | (with_reducible assumption) | (with_reducible exact Below.refl _ _) | (with_reducible refine below_wov ?_ ?_ _) | (with_reducible refine below_drewN ?_ _) | (with_reducible refine Below.drew ?_) | (with_reducible refine Below.alloc ?_ ?_ _) | (with_reducible refine Below.setCell ?_ ?_ _) | (with_reducible exact Nat.le_refl _) | omega | (simp only [World.size_alloc, World.size_setCell, World.size_drew, Wov_size, World.heap_drewN]; omega))))⟩ ?_
    rintro W1 ⟨hb1, m1_0, m1_1⟩
    have hs1 := hb1.size
    have f1_0_lt := m1_0.lt
    have f1_0_c0 := m1_0.c0
    have f1_0_c1 := m1_0.c1
    have f1_0_c2 := m1_0.c2
    have f1_0_c3 := m1_0.c3
    have f1_0_c4 := m1_0.c4
    have f1_0_c5 := m1_0.c5
    have f1_1_lt := m1_1.lt
    have f1_1_c0 := m1_1.c0
    have f1_1_c1 := m1_1.c1
    have f1_1_c2 := m1_1.c2
    have f1_1_c3 := m1_1.c3
    refine (HA.out _).mono ?_; rintro e w' ⟨rfl, q0, rfl⟩
    go_wp2_with (fail)
    refine calls_world (fun W => Below w.heap.size w W ∧ BoxZ W w.heap.size z ∧ PtAt W (w.heap.size + 1) pa pb pc pd) ⟨by (repeat' (first | (with_reducible assumption) | (with_reducible exact Below.refl _ _) | (with_reducible refine below_wov ?_ ?_ _) | (with_reducible refine below_drewN ?_ _) | (with_reducible refine Below.drew ?_) | (with_reducible refine Below.alloc ?_ ?_ _) | (with_reducible refine Below.setCell ?_ ?_ _) | (with_reducible exact Nat.le_refl _) | omega | (simp only [World.size_alloc, World.size_setCell, World.size_drew, Wov_size, World.heap_drewN]; omega))), m1_0.below (by (repeat' (first | (with_reducible assumption) | (with_reducible exact Below.refl _ _) | (with_reducible refine below_wov ?_ ?_ _) | (with_reducible refine below_drewN ?_ _) | (with_reducible refine Below.drew ?_) | (with_reducible refine Below.alloc ?_ ?_ _) | (with_reducible refine Below.setCell ?_ ?_ _) | (with_reducible exact Nat.le_refl _) | omega | (simp only [World.size_alloc, World.size_setCell, World.size_drew, Wov_size, World.heap_drewN]; omega)))), m1_1.below (by (repeat' (first | (with_reducible assumption) | (with_reducible exact Below.refl _ _) | (with_reducible refine below_wov ?_ ?_ _) | (with_reducible refine below_drewN ?_ _) | (with_reducible refine Below.drew ?_) | (with_reducible refine Below.alloc ?_ ?_ _) | (with_reducible refine Below.setCell ?_ ?_ _) | (with_reducible exact Nat.le_refl _) | omega | (simp only [World.size_alloc, World.size_setCell, World.size_drew, Wov_size, World.heap_drewN]; omega))))⟩ ?_
    rintro W2 ⟨hb2, m2_0, m2_1⟩
    clear hb1 f1_0_lt f1_0_c0 f1_0_c1 f1_0_c2 f1_0_c3 f1_0_c4 f1_0_c5 f1_1_lt f1_1_c0 f1_1_c1 f1_1_c2 f1_1_c3 m1_0 m1_1 hs1
    have hs2 := hb2.size
    have f2_0_lt := m2_0.lt
    have f2_0_c0 := m2_0.c0
    have f2_0_c1 := m2_0.c1
    have f2_0_c2 := m2_0.c2
    have f2_0_c3 := m2_0.c3
    have f2_0_c4 := m2_0.c4
    have f2_0_c5 := m2_0.c5
    have f2_1_lt := m2_1.lt
    have f2_1_c0 := m2_1.c0
    have f2_1_c1 := m2_1.c1
    have f2_1_c2 := m2_1.c2
    have f2_1_c3 := m2_1.c3
    refine (Ca.out _).mono ?_; rintro e w' ⟨rfl, qa, rfl⟩
    go_wp2_with (fail)
    obtain ⟨Aa, hAa⟩ : ∃ A, W2.heap.size + qa.bl.size = A := ⟨_, rfl⟩
    rw [hAa]
    refine calls_world (fun W => Below w.heap.size w W ∧ BoxZ W w.heap.size z ∧ PtAt W (w.heap.size + 1) pa pb pc pd ∧ BoxZ W Aa ra) ⟨by (repeat' (first | (with_reducible assumption) | (with_reducible exact Below.refl _ _) | (with_reducible refine below_wov ?_ ?_ _) | (with_reducible refine below_drewN ?_ _) | (with_reducible refine Below.drew ?_) | (with_reducible refine Below.alloc ?_ ?_ _) | (with_reducible refine Below.setCell ?_ ?_ _) | (with_reducible exact Nat.le_refl _) | omega | (simp only [World.size_alloc, World.size_setCell, World.size_drew, Wov_size, World.heap_drewN]; omega))), m2_0.below (by (repeat' (first | (with_reducible assumption) | (with_reducible exact Below.refl _ _) | (with_reducible refine below_wov ?_ ?_ _) | (with_reducible refine below_drewN ?_ _) | (with_reducible refine Below.drew ?_) | (with_reducible refine Below.alloc ?_ ?_ _) | (with_reducible refine Below.setCell ?_ ?_ _) | (with_reducible exact Nat.le_refl _) | omega | (simp only [World.size_alloc, World.size_setCell, World.size_drew, Wov_size, World.heap_drewN]; omega)))), m2_1.below (by (repeat' (first | (with_reducible assumption) | (with_reducible exact Below.refl _ _) | (with_reducible refine below_wov ?_ ?_ _) | (with_reducible refine below_drewN ?_ _) | (with_reducible refine Below.drew ?_) | (with_reducible refine Below.alloc ?_ ?_ _) | (with_reducible refine Below.setCell ?_ ?_ _) | (with_reducible exact Nat.le_refl _) | omega | (simp only [World.size_alloc, World.size_setCell, World.size_drew, Wov_size, World.heap_drewN]; omega)))), BoxZ.new (by rw [← hAa]; (try simp only [Wov_size]))⟩ ?_
    rintro W3 ⟨hb3, m3_0, m3_1, m3_2⟩
    clear hb2 f2_0_lt f2_0_c0 f2_0_c1 f2_0_c2 f2_0_c3 f2_0_c4 f2_0_c5 f2_1_lt f2_1_c0 f2_1_c1 f2_1_c2 f2_1_c3 m2_0 m2_1 hs2
    have hs3 := hb3.size
    have f3_0_lt := m3_0.lt
    have f3_0_c0 := m3_0.c0
    have f3_0_c1 := m3_0.c1
    have f3_0_c2 := m3_0.c2
    have f3_0_c3 := m3_0.c3
    have f3_0_c4 := m3_0.c4
    have f3_0_c5 := m3_0.c5
    have f3_1_lt := m3_1.lt
    have f3_1_c0 := m3_1.c0
    have f3_1_c1 := m3_1.c1
    have f3_1_c2 := m3_1.c2
    have f3_1_c3 := m3_1.c3
    have f3_2_lt := m3_2.lt
    have f3_2_c0 := m3_2.c0
    have f3_2_c1 := m3_2.c1
    have f3_2_c2 := m3_2.c2
    have f3_2_c3 := m3_2.c3
    have f3_2_c4 := m3_2.c4
    have f3_2_c5 := m3_2.c5
    clear hAa Ca
    refine (Cb.out _).mono ?_; rintro e w' ⟨rfl, qb, rfl⟩
    go_wp2_with (fail)
    obtain ⟨Ab, hAb⟩ : ∃ A, W3.heap.size + qb.bl.size = A := ⟨_, rfl⟩
    rw [hAb]
    refine calls_world (fun W => Below w.heap.size w W ∧ BoxZ W w.heap.size z ∧ PtAt W (w.heap.size + 1) pa pb pc pd ∧ BoxZ W Aa ra ∧ BoxZ W Ab rb) ⟨by (repeat' (first | (with_reducible assumption) | (with_reducible exact Below.refl _ _) | (with_reducible refine below_wov ?_ ?_ _) | (with_reducible refine below_drewN ?_ _) | (with_reducible refine Below.drew ?_) | (with_reducible refine Below.alloc ?_ ?_ _) | (with_reducible refine Below.setCell ?_ ?_ _) | (with_reducible exact Nat.le_refl _) | omega | (simp only [World.size_alloc, World.size_setCell, World.size_drew, Wov_size, World.heap_drewN]; omega))), m3_0.below (by (repeat' (first | (with_reducible assumption) | (with_reducible exact Below.refl _ _) | (with_reducible refine below_wov ?_ ?_ _) | (with_reducible refine below_drewN ?_ _) | (with_reducible refine Below.drew ?_) | (with_reducible refine Below.alloc ?_ ?_ _) | (with_reducible refine Below.setCell ?_ ?_ _) | (with_reducible exact Nat.le_refl _) | omega | (simp only [World.size_alloc, World.size_setCell, World.size_drew, Wov_size, World.heap_drewN]; omega)))), m3_1.below (by (repeat' (first | (with_reducible assumption) | (with_reducible exact Below.refl _ _) | (with_reducible refine below_wov ?_ ?_ _) | (with_reducible refine below_drewN ?_ _) | (with_reducible refine Below.drew ?_) | (with_reducible refine Below.alloc ?_ ?_ _) | (with_reducible refine Below.setCell ?_ ?_ _) | (with_reducible exact Nat.le_refl _) | omega | (simp only [World.size_alloc, World.size_setCell, World.size_drew, Wov_size, World.heap_drewN]; omega)))), m3_2.below (by (repeat' (first | (with_reducible assumption) | (with_reducible exact Below.refl _ _) | (with_reducible refine below_wov ?_ ?_ _) | (with_reducible refine below_drewN ?_ _) | (with_reducible refine Below.drew ?_) | (with_reducible refine Below.alloc ?_ ?_ _) | (with_reducible refine Below.setCell ?_ ?_ _) | (with_reducible exact Nat.le_refl _) | omega | (simp only [World.size_alloc, World.size_setCell, World.size_drew, Wov_size, World.heap_drewN]; omega)))), BoxZ.new (by rw [← hAb]; (try simp only [Wov_size]))⟩ ?_
    rintro W4 ⟨hb4, m4_0, m4_1, m4_2, m4_3⟩
    clear hb3 f3_0_lt f3_0_c0 f3_0_c1 f3_0_c2 f3_0_c3 f3_0_c4 f3_0_c5 f3_1_lt f3_1_c0 f3_1_c1 f3_1_c2 f3_1_c3 f3_2_lt f3_2_c0 f3_2_c1 f3_2_c2 f3_2_c3 f3_2_c4 f3_2_c5 m3_0 m3_1 m3_2 hs3
    have hs4 := hb4.size
    have f4_0_lt := m4_0.lt
    have f4_0_c0 := m4_0.c0
    have f4_0_c1 := m4_0.c1
    have f4_0_c2 := m4_0.c2
    have f4_0_c3 := m4_0.c3
    have f4_0_c4 := m4_0.c4
    have f4_0_c5 := m4_0.c5
    have f4_1_lt := m4_1.lt
    have f4_1_c0 := m4_1.c0
    have f4_1_c1 := m4_1.c1
    have f4_1_c2 := m4_1.c2
    have f4_1_c3 := m4_1.c3
    have f4_2_lt := m4_2.lt
    have f4_2_c0 := m4_2.c0
    have f4_2_c1 := m4_2.c1
    have f4_2_c2 := m4_2.c2
    have f4_2_c3 := m4_2.c3
    have f4_2_c4 := m4_2.c4
    have f4_2_c5 := m4_2.c5
    have f4_3_lt := m4_3.lt
    have f4_3_c0 := m4_3.c0
    have f4_3_c1 := m4_3.c1
    have f4_3_c2 := m4_3.c2
    have f4_3_c3 := m4_3.c3
    have f4_3_c4 := m4_3.c4
    have f4_3_c5 := m4_3.c5
    clear hAb Cb
    refine (OL.out _).mono ?_; rintro e w' ⟨rfl, ql, rfl⟩
    go_wp2_with (fail)
    obtain ⟨AL, hAL⟩ : ∃ A, W4.heap.size + ql.bl.size = A := ⟨_, rfl⟩
    rw [hAL]
    refine calls_world (fun W => Below w.heap.size w W ∧ BoxZ W w.heap.size z ∧ PtAt W (w.heap.size + 1) pa pb pc pd ∧ BoxZ W Aa ra ∧ BoxZ W Ab rb ∧ BoxR W AL m 1) ⟨by (repeat' (first | (with_reducible assumption) | (with_reducible exact Below.refl _ _) | (with_reducible refine below_wov ?_ ?_ _) | (with_reducible refine below_drewN ?_ _) | (with_reducible refine Below.drew ?_) | (with_reducible refine Below.alloc ?_ ?_ _) | (with_reducible refine Below.setCell ?_ ?_ _) | (with_reducible exact Nat.le_refl _) | omega | (simp only [World.size_alloc, World.size_setCell, World.size_drew, Wov_size, World.heap_drewN]; omega))), m4_0.below (by (repeat' (first | (with_reducible assumption) | (with_reducible exact Below.refl _ _) | (with_reducible refine below_wov ?_ ?_ _) | (with_reducible refine below_drewN ?_ _) | (with_reducible refine Below.drew ?_) | (with_reducible refine Below.alloc ?_ ?_ _) | (with_reducible refine Below.setCell ?_ ?_ _) | (with_reducible exact Nat.le_refl _) | omega | (simp only [World.size_alloc, World.size_setCell, World.size_drew, Wov_size, World.heap_drewN]; omega)))), m4_1.below (by (repeat' (first | (with_reducible assumption) | (with_reducible exact Below.refl _ _) | (with_reducible refine below_wov ?_ ?_ _) | (with_reducible refine below_drewN ?_ _) | (with_reducible refine Below.drew ?_) | (with_reducible refine Below.alloc ?_ ?_ _) | (with_reducible refine Below.setCell ?_ ?_ _) | (with_reducible exact Nat.le_refl _) | omega | (simp only [World.size_alloc, World.size_setCell, World.size_drew, Wov_size, World.heap_drewN]; omega)))), m4_2.below (by (repeat' (first | (with_reducible assumption) | (with_reducible exact Below.refl _ _) | (with_reducible refine below_wov ?_ ?_ _) | (with_reducible refine below_drewN ?_ _) | (with_reducible refine Below.drew ?_) | (with_reducible refine Below.alloc ?_ ?_ _) | (with_reducible refine Below.setCell ?_ ?_ _) | (with_reducible exact Nat.le_refl _) | omega | (simp only [World.size_alloc, World.size_setCell, World.size_drew, Wov_size, World.heap_drewN]; omega)))), m4_3.below (by (repeat' (first | (with_reducible assumption) | (with_reducible exact Below.refl _ _) | (with_reducible refine below_wov ?_ ?_ _) | (with_reducible refine below_drewN ?_ _) | (with_reducible refine Below.drew ?_) | (with_reducible refine Below.alloc ?_ ?_ _) | (with_reducible refine Below.setCell ?_ ?_ _) | (with_reducible exact Nat.le_refl _) | omega | (simp only [World.size_alloc, World.size_setCell, World.size_drew, Wov_size, World.heap_drewN]; omega)))), BoxR.new (by rw [← hAL]; (try simp only [Wov_size]))⟩ ?_
    rintro W5 ⟨hb5, m5_0, m5_1, m5_2, m5_3, m5_4⟩
    clear hb4 f4_0_lt f4_0_c0 f4_0_c1 f4_0_c2 f4_0_c3 f4_0_c4 f4_0_c5 f4_1_lt f4_1_c0 f4_1_c1 f4_1_c2 f4_1_c3 f4_2_lt f4_2_c0 f4_2_c1 f4_2_c2 f4_2_c3 f4_2_c4 f4_2_c5 f4_3_lt f4_3_c0 f4_3_c1 f4_3_c2 f4_3_c3 f4_3_c4 f4_3_c5 m4_0 m4_1 m4_2 m4_3 hs4
    have hs5 := hb5.size
    have f5_0_lt := m5_0.lt
    have f5_0_c0 := m5_0.c0
    have f5_0_c1 := m5_0.c1
    have f5_0_c2 := m5_0.c2
    have f5_0_c3 := m5_0.c3
    have f5_0_c4 := m5_0.c4
    have f5_0_c5 := m5_0.c5
    have f5_1_lt := m5_1.lt
    have f5_1_c0 := m5_1.c0
    have f5_1_c1 := m5_1.c1
    have f5_1_c2 := m5_1.c2
    have f5_1_c3 := m5_1.c3
    have f5_2_lt := m5_2.lt
    have f5_2_c0 := m5_2.c0
    have f5_2_c1 := m5_2.c1
    have f5_2_c2 := m5_2.c2
    have f5_2_c3 := m5_2.c3
    have f5_2_c4 := m5_2.c4
    have f5_2_c5 := m5_2.c5
    have f5_3_lt := m5_3.lt
    have f5_3_c0 := m5_3.c0
    have f5_3_c1 := m5_3.c1
    have f5_3_c2 := m5_3.c2
    have f5_3_c3 := m5_3.c3
    have f5_3_c4 := m5_3.c4
    have f5_3_c5 := m5_3.c5
    have f5_4_lt := m5_4.lt
    have f5_4_c0 := m5_4.c0
    have f5_4_c1 := m5_4.c1
    clear hAL
    refine (AT.out _).mono ?_; rintro e w' ⟨rfl, qt, rfl⟩
    go_wp2_with (fail)
    obtain ⟨BT, hBT⟩ : ∃ A, W5.heap.size + qt.bl.size = A := ⟨_, rfl⟩
    rw [hBT]
    refine calls_world (fun W => Below w.heap.size w W ∧ BoxZ W w.heap.size z ∧ PtAt W (w.heap.size + 1) pa pb pc pd ∧ BoxZ W Aa ra ∧ BoxZ W Ab rb ∧ BoxR W AL m 1 ∧ BoxR W BT t1 t2) ⟨by (repeat' (first | (with_reducible assumption) | (with_reducible exact Below.refl _ _) | (with_reducible refine below_wov ?_ ?_ _) | (with_reducible refine below_drewN ?_ _) | (with_reducible refine Below.drew ?_) | (with_reducible refine Below.alloc ?_ ?_ _) | (with_reducible refine Below.setCell ?_ ?_ _) | (with_reducible exact Nat.le_refl _) | omega | (simp only [World.size_alloc, World.size_setCell, World.size_drew, Wov_size, World.heap_drewN]; omega))), m5_0.below (by (repeat' (first | (with_reducible assumption) | (with_reducible exact Below.refl _ _) | (with_reducible refine below_wov ?_ ?_ _) | (with_reducible refine below_drewN ?_ _) | (with_reducible refine Below.drew ?_) | (with_reducible refine Below.alloc ?_ ?_ _) | (with_reducible refine Below.setCell ?_ ?_ _) | (with_reducible exact Nat.le_refl _) | omega | (simp only [World.size_alloc, World.size_setCell, World.size_drew, Wov_size, World.heap_drewN]; omega)))), m5_1.below (by (repeat' (first | (with_reducible assumption) | (with_reducible exact Below.refl _ _) | (with_reducible refine below_wov ?_ ?_ _) | (with_reducible refine below_drewN ?_ _) | (with_reducible refine Below.drew ?_) | (with_reducible refine Below.alloc ?_ ?_ _) | (with_reducible refine Below.setCell ?_ ?_ _) | (with_reducible exact Nat.le_refl _) | omega | (simp only [World.size_alloc, World.size_setCell, World.size_drew, Wov_size, World.heap_drewN]; omega)))), m5_2.below (by (repeat' (first | (with_reducible assumption) | (with_reducible exact Below.refl _ _) | (with_reducible refine below_wov ?_ ?_ _) | (with_reducible refine below_drewN ?_ _) | (with_reducible refine Below.drew ?_) | (with_reducible refine Below.alloc ?_ ?_ _) | (with_reducible refine Below.setCell ?_ ?_ _) | (with_reducible exact Nat.le_refl _) | omega | (simp only [World.size_alloc, World.size_setCell, World.size_drew, Wov_size, World.heap_drewN]; omega)))), m5_3.below (by (repeat' (first | (with_reducible assumption) | (with_reducible exact Below.refl _ _) | (with_reducible refine below_wov ?_ ?_ _) | (with_reducible refine below_drewN ?_ _) | (with_reducible refine Below.drew ?_) | (with_reducible refine Below.alloc ?_ ?_ _) | (with_reducible refine Below.setCell ?_ ?_ _) | (with_reducible exact Nat.le_refl _) | omega | (simp only [World.size_alloc, World.size_setCell, World.size_drew, Wov_size, World.heap_drewN]; omega)))), m5_4.below (by (repeat' (first | (with_reducible assumption) | (with_reducible exact Below.refl _ _) | (with_reducible refine below_wov ?_ ?_ _) | (with_reducible refine below_drewN ?_ _) | (with_reducible refine Below.drew ?_) | (with_reducible refine Below.alloc ?_ ?_ _) | (with_reducible refine Below.setCell ?_ ?_ _) | (with_reducible exact Nat.le_refl _) | omega | (simp only [World.size_alloc, World.size_setCell, World.size_drew, Wov_size, World.heap_drewN]; omega)))), BoxR.new (by rw [← hBT]; (try simp only [Wov_size]))⟩ ?_
    rintro W6 ⟨hb6, m6_0, m6_1, m6_2, m6_3, m6_4, m6_5⟩
    clear hb5 f5_0_lt f5_0_c0 f5_0_c1 f5_0_c2 f5_0_c3 f5_0_c4 f5_0_c5 f5_1_lt f5_1_c0 f5_1_c1 f5_1_c2 f5_1_c3 f5_2_lt f5_2_c0 f5_2_c1 f5_2_c2 f5_2_c3 f5_2_c4 f5_2_c5 f5_3_lt f5_3_c0 f5_3_c1 f5_3_c2 f5_3_c3 f5_3_c4 f5_3_c5 f5_4_lt f5_4_c0 f5_4_c1 m5_0 m5_1 m5_2 m5_3 m5_4 hs5
    have hs6 := hb6.size
    have f6_0_lt := m6_0.lt
    have f6_0_c0 := m6_0.c0
    have f6_0_c1 := m6_0.c1
    have f6_0_c2 := m6_0.c2
    have f6_0_c3 := m6_0.c3
    have f6_0_c4 := m6_0.c4
    have f6_0_c5 := m6_0.c5
    have f6_1_lt := m6_1.lt
    have f6_1_c0 := m6_1.c0
    have f6_1_c1 := m6_1.c1
    have f6_1_c2 := m6_1.c2
    have f6_1_c3 := m6_1.c3
    have f6_2_lt := m6_2.lt
    have f6_2_c0 := m6_2.c0
    have f6_2_c1 := m6_2.c1
    have f6_2_c2 := m6_2.c2
    have f6_2_c3 := m6_2.c3
    have f6_2_c4 := m6_2.c4
    have f6_2_c5 := m6_2.c5
    have f6_3_lt := m6_3.lt
    have f6_3_c0 := m6_3.c0
    have f6_3_c1 := m6_3.c1
    have f6_3_c2 := m6_3.c2
    have f6_3_c3 := m6_3.c3
    have f6_3_c4 := m6_3.c4
    have f6_3_c5 := m6_3.c5
    have f6_4_lt := m6_4.lt
    have f6_4_c0 := m6_4.c0
    have f6_4_c1 := m6_4.c1
    have f6_5_lt := m6_5.lt
    have f6_5_c0 := m6_5.c0
    have f6_5_c1 := m6_5.c1
    clear hBT
    refine (AU.out _).mono ?_; rintro e w' ⟨rfl, qu, rfl⟩
    clear AT AU OL HA hw E
    by_cases k3 : e3 = 0
    · skip
      by_cases k4 : e4 = 0
      · skip
        subst k3; subst k4
        obtain ⟨k, H1, H2⟩ := HH.out (by simp) (by simp)
        have H1 := Lib.hid H1
        have H2 := Lib.hid H2
        clear HH
        go_wp2_with (fail)
        obtain ⟨BU, hBU⟩ : ∃ A, W6.heap.size + qu.bl.size = A := ⟨_, rfl⟩
        rw [hBU]
        refine calls_world (fun W => Below w.heap.size w W ∧ BoxZ W w.heap.size z ∧ PtAt W (w.heap.size + 1) pa pb pc pd ∧ BoxZ W Aa ra ∧ BoxZ W Ab rb ∧ BoxR W AL m 1 ∧ BoxR W BT t1 t2 ∧ BoxR W BU u1 u2) ⟨by (repeat' (first | (with_reducible assumption) | (with_reducible exact Below.refl _ _) | (with_reducible refine below_wov ?_ ?_ _) | (with_reducible refine below_drewN ?_ _) | (with_reducible refine Below.drew ?_) | (with_reducible refine Below.alloc ?_ ?_ _) | (with_reducible refine Below.setCell ?_ ?_ _) | (with_reducible exact Nat.le_refl _) | omega | (simp only [World.size_alloc, World.size_setCell, World.size_drew, Wov_size, World.heap_drewN]; omega))), m6_0.below (by (repeat' (first | (with_reducible assumption) | (with_reducible exact Below.refl _ _) | (with_reducible refine below_wov ?_ ?_ _) | (with_reducible refine below_drewN ?_ _) | (with_reducible refine Below.drew ?_) | (with_reducible refine Below.alloc ?_ ?_ _) | (with_reducible refine Below.setCell ?_ ?_ _) | (with_reducible exact Nat.le_refl _) | omega | (simp only [World.size_alloc, World.size_setCell, World.size_drew, Wov_size, World.heap_drewN]; omega)))), m6_1.below (by (repeat' (first | (with_reducible assumption) | (with_reducible exact Below.refl _ _) | (with_reducible refine below_wov ?_ ?_ _) | (with_reducible refine below_drewN ?_ _) | (with_reducible refine Below.drew ?_) | (with_reducible refine Below.alloc ?_ ?_ _) | (with_reducible refine Below.setCell ?_ ?_ _) | (with_reducible exact Nat.le_refl _) | omega | (simp only [World.size_alloc, World.size_setCell, World.size_drew, Wov_size, World.heap_drewN]; omega)))), m6_2.below (by (repeat' (first | (with_reducible assumption) | (with_reducible exact Below.refl _ _) | (with_reducible refine below_wov ?_ ?_ _) | (with_reducible refine below_drewN ?_ _) | (with_reducible refine Below.drew ?_) | (with_reducible refine Below.alloc ?_ ?_ _) | (with_reducible refine Below.setCell ?_ ?_ _) | (with_reducible exact Nat.le_refl _) | omega | (simp only [World.size_alloc, World.size_setCell, World.size_drew, Wov_size, World.heap_drewN]; omega)))), m6_3.below (by (repeat' (first | (with_reducible assumption) | (with_reducible exact Below.refl _ _) | (with_reducible refine below_wov ?_ ?_ _) | (with_reducible refine below_drewN ?_ _) | (with_reducible refine Below.drew ?_) | (with_reducible refine Below.alloc ?_ ?_ _) | (with_reducible refine Below.setCell ?_ ?_ _) | (with_reducible exact Nat.le_refl _) | omega | (simp only [World.size_alloc, World.size_setCell, World.size_drew, Wov_size, World.heap_drewN]; omega)))), m6_4.below (by (repeat' (first | (with_reducible assumption) | (with_reducible exact Below.refl _ _) | (with_reducible refine below_wov ?_ ?_ _) | (with_reducible refine below_drewN ?_ _) | (with_reducible refine Below.drew ?_) | (with_reducible refine Below.alloc ?_ ?_ _) | (with_reducible refine Below.setCell ?_ ?_ _) | (with_reducible exact Nat.le_refl _) | omega | (simp only [World.size_alloc, World.size_setCell, World.size_drew, Wov_size, World.heap_drewN]; omega)))), m6_5.below (by (repeat' (first | (with_reducible assumption) | (with_reducible exact Below.refl _ _) | (with_reducible refine below_wov ?_ ?_ _) | (with_reducible refine below_drewN ?_ _) | (with_reducible refine Below.drew ?_) | (with_reducible refine Below.alloc ?_ ?_ _) | (with_reducible refine Below.setCell ?_ ?_ _) | (with_reducible exact Nat.le_refl _) | omega | (simp only [World.size_alloc, World.size_setCell, World.size_drew, Wov_size, World.heap_drewN]; omega)))), BoxR.new (by rw [← hBU]; (try simp only [Wov_size]))⟩ ?_
        rintro W7 ⟨hb7, m7_0, m7_1, m7_2, m7_3, m7_4, m7_5, m7_6⟩
        clear hb6 f6_0_lt f6_0_c0 f6_0_c1 f6_0_c2 f6_0_c3 f6_0_c4 f6_0_c5 f6_1_lt f6_1_c0 f6_1_c1 f6_1_c2 f6_1_c3 f6_2_lt f6_2_c0 f6_2_c1 f6_2_c2 f6_2_c3 f6_2_c4 f6_2_c5 f6_3_lt f6_3_c0 f6_3_c1 f6_3_c2 f6_3_c3 f6_3_c4 f6_3_c5 f6_4_lt f6_4_c0 f6_4_c1 f6_5_lt f6_5_c0 f6_5_c1 m6_0 m6_1 m6_2 m6_3 m6_4 m6_5 hs6
        have hs7 := hb7.size
        have f7_0_lt := m7_0.lt
        have f7_0_c0 := m7_0.c0
        have f7_0_c1 := m7_0.c1
        have f7_0_c2 := m7_0.c2
        have f7_0_c3 := m7_0.c3
        have f7_0_c4 := m7_0.c4
        have f7_0_c5 := m7_0.c5
        have f7_1_lt := m7_1.lt
        have f7_1_c0 := m7_1.c0
        have f7_1_c1 := m7_1.c1
        have f7_1_c2 := m7_1.c2
        have f7_1_c3 := m7_1.c3
        have f7_2_lt := m7_2.lt
        have f7_2_c0 := m7_2.c0
        have f7_2_c1 := m7_2.c1
        have f7_2_c2 := m7_2.c2
        have f7_2_c3 := m7_2.c3
        have f7_2_c4 := m7_2.c4
        have f7_2_c5 := m7_2.c5
        have f7_3_lt := m7_3.lt
        have f7_3_c0 := m7_3.c0
        have f7_3_c1 := m7_3.c1
        have f7_3_c2 := m7_3.c2
        have f7_3_c3 := m7_3.c3
        have f7_3_c4 := m7_3.c4
        have f7_3_c5 := m7_3.c5
        have f7_4_lt := m7_4.lt
        have f7_4_c0 := m7_4.c0
        have f7_4_c1 := m7_4.c1
        have f7_5_lt := m7_5.lt
        have f7_5_c0 := m7_5.c0
        have f7_5_c1 := m7_5.c1
        have f7_6_lt := m7_6.lt
        have f7_6_c0 := m7_6.c0
        have f7_6_c1 := m7_6.c1
        clear hBU
        refine (H1.out _).mono ?_; rintro e w' ⟨rfl, q1, rfl⟩
        go_wp2_with (fail)
        refine calls_world (fun W => Below w.heap.size w W ∧ BoxZ W w.heap.size z ∧ PtAt W (w.heap.size + 1) pa pb pc pd ∧ BoxZ W Aa ra ∧ BoxZ W Ab rb ∧ BoxR W AL m 1 ∧ BoxR W BT t1 t2 ∧ BoxR W BU u1 u2) ⟨by (repeat' (first | (with_reducible assumption) | (with_reducible exact Below.refl _ _) | (with_reducible refine below_wov ?_ ?_ _) | (with_reducible refine below_drewN ?_ _) | (with_reducible refine Below.drew ?_) | (with_reducible refine Below.alloc ?_ ?_ _) | (with_reducible refine Below.setCell ?_ ?_ _) | (with_reducible exact Nat.le_refl _) | omega | (simp only [World.size_alloc, World.size_setCell, World.size_drew, Wov_size, World.heap_drewN]; omega))), m7_0.below (by (repeat' (first | (with_reducible assumption) | (with_reducible exact Below.refl _ _) | (with_reducible refine below_wov ?_ ?_ _) | (with_reducible refine below_drewN ?_ _) | (with_reducible refine Below.drew ?_) | (with_reducible refine Below.alloc ?_ ?_ _) | (with_reducible refine Below.setCell ?_ ?_ _) | (with_reducible exact Nat.le_refl _) | omega | (simp only [World.size_alloc, World.size_setCell, World.size_drew, Wov_size, World.heap_drewN]; omega)))), m7_1.below (by (repeat' (first | (with_reducible assumption) | (with_reducible exact Below.refl _ _) | (with_reducible refine below_wov ?_ ?_ _) | (with_reducible refine below_drewN ?_ _) | (with_reducible refine Below.drew ?_) | (with_reducible refine Below.alloc ?_ ?_ _) | (with_reducible refine Below.setCell ?_ ?_ _) | (with_reducible exact Nat.le_refl _) | omega | (simp only [World.size_alloc, World.size_setCell, World.size_drew, Wov_size, World.heap_drewN]; omega)))), m7_2.below (by (repeat' (first | (with_reducible assumption) | (with_reducible exact Below.refl _ _) | (with_reducible refine below_wov ?_ ?_ _) | (with_reducible refine below_drewN ?_ _) | (with_reducible refine Below.drew ?_) | (with_reducible refine Below.alloc ?_ ?_ _) | (with_reducible refine Below.setCell ?_ ?_ _) | (with_reducible exact Nat.le_refl _) | omega | (simp only [World.size_alloc, World.size_setCell, World.size_drew, Wov_size, World.heap_drewN]; omega)))), m7_3.below (by (repeat' (first | (with_reducible assumption) | (with_reducible exact Below.refl _ _) | (with_reducible refine below_wov ?_ ?_ _) | (with_reducible refine below_drewN ?_ _) | (with_reducible refine Below.drew ?_) | (with_reducible refine Below.alloc ?_ ?_ _) | (with_reducible refine Below.setCell ?_ ?_ _) | (with_reducible exact Nat.le_refl _) | omega | (simp only [World.size_alloc, World.size_setCell, World.size_drew, Wov_size, World.heap_drewN]; omega)))), m7_4.below (by (repeat' (first | (with_reducible assumption) | (with_reducible exact Below.refl _ _) | (with_reducible refine below_wov ?_ ?_ _) | (with_reducible refine below_drewN ?_ _) | (with_reducible refine Below.drew ?_) | (with_reducible refine Below.alloc ?_ ?_ _) | (with_reducible refine Below.setCell ?_ ?_ _) | (with_reducible exact Nat.le_refl _) | omega | (simp only [World.size_alloc, World.size_setCell, World.size_drew, Wov_size, World.heap_drewN]; omega)))), m7_5.below (by (repeat' (first | (with_reducible assumption) | (with_reducible exact Below.refl _ _) | (with_reducible refine below_wov ?_ ?_ _) | (with_reducible refine below_drewN ?_ _) | (with_reducible refine Below.drew ?_) | (with_reducible refine Below.alloc ?_ ?_ _) | (with_reducible refine Below.setCell ?_ ?_ _) | (with_reducible exact Nat.le_refl _) | omega | (simp only [World.size_alloc, World.size_setCell, World.size_drew, Wov_size, World.heap_drewN]; omega)))), m7_6.below (by (repeat' (first | (with_reducible assumption) | (with_reducible exact Below.refl _ _) | (with_reducible refine below_wov ?_ ?_ _) | (with_reducible refine below_drewN ?_ _) | (with_reducible refine Below.drew ?_) | (with_reducible refine Below.alloc ?_ ?_ _) | (with_reducible refine Below.setCell ?_ ?_ _) | (with_reducible exact Nat.le_refl _) | omega | (simp only [World.size_alloc, World.size_setCell, World.size_drew, Wov_size, World.heap_drewN]; omega))))⟩ ?_
        rintro W8 ⟨hb8, m8_0, m8_1, m8_2, m8_3, m8_4, m8_5, m8_6⟩
        clear hb7 f7_0_lt f7_0_c0 f7_0_c1 f7_0_c2 f7_0_c3 f7_0_c4 f7_0_c5 f7_1_lt f7_1_c0 f7_1_c1 f7_1_c2 f7_1_c3 f7_2_lt f7_2_c0 f7_2_c1 f7_2_c2 f7_2_c3 f7_2_c4 f7_2_c5 f7_3_lt f7_3_c0 f7_3_c1 f7_3_c2 f7_3_c3 f7_3_c4 f7_3_c5 f7_4_lt f7_4_c0 f7_4_c1 f7_5_lt f7_5_c0 f7_5_c1 f7_6_lt f7_6_c0 f7_6_c1 m7_0 m7_1 m7_2 m7_3 m7_4 m7_5 m7_6 hs7
        have hs8 := hb8.size
        have f8_0_lt := m8_0.lt
        have f8_0_c0 := m8_0.c0
        have f8_0_c1 := m8_0.c1
        have f8_0_c2 := m8_0.c2
        have f8_0_c3 := m8_0.c3
        have f8_0_c4 := m8_0.c4
        have f8_0_c5 := m8_0.c5
        have f8_1_lt := m8_1.lt
        have f8_1_c0 := m8_1.c0
        have f8_1_c1 := m8_1.c1
        have f8_1_c2 := m8_1.c2
        have f8_1_c3 := m8_1.c3
        have f8_2_lt := m8_2.lt
        have f8_2_c0 := m8_2.c0
        have f8_2_c1 := m8_2.c1
        have f8_2_c2 := m8_2.c2
        have f8_2_c3 := m8_2.c3
        have f8_2_c4 := m8_2.c4
        have f8_2_c5 := m8_2.c5
        have f8_3_lt := m8_3.lt
        have f8_3_c0 := m8_3.c0
        have f8_3_c1 := m8_3.c1
        have f8_3_c2 := m8_3.c2
        have f8_3_c3 := m8_3.c3
        have f8_3_c4 := m8_3.c4
        have f8_3_c5 := m8_3.c5
        have f8_4_lt := m8_4.lt
        have f8_4_c0 := m8_4.c0
        have f8_4_c1 := m8_4.c1
        have f8_5_lt := m8_5.lt
        have f8_5_c0 := m8_5.c0
        have f8_5_c1 := m8_5.c1
        have f8_6_lt := m8_6.lt
        have f8_6_c0 := m8_6.c0
        have f8_6_c1 := m8_6.c1
        refine (H2.out _).mono ?_; rintro e w' ⟨rfl, q2, rfl⟩
        clear H1 H2
        go_wp2
        all_goals
          go_ret
          exact gives_bool (by simp) (by (repeat' (first | (with_reducible assumption) | (with_reducible exact Below.refl _ _) | (with_reducible refine below_wov ?_ ?_ _) | (with_reducible refine below_drewN ?_ _) | (with_reducible refine Below.drew ?_) | (with_reducible refine Below.alloc ?_ ?_ _) | (with_reducible refine Below.setCell ?_ ?_ _) | (with_reducible exact Nat.le_refl _) | omega | (simp only [World.size_alloc, World.size_setCell, World.size_drew, Wov_size, World.heap_drewN]; omega))))
      · skip
        subst k3
        have bk : (e4 != 0) = true := by rw [bne_iff_ne]; exact k4
        clear HH
        go_wp2
        all_goals
          go_ret
          exact gives_bool (by simp) (by (repeat' (first | (with_reducible assumption) | (with_reducible exact Below.refl _ _) | (with_reducible refine below_wov ?_ ?_ _) | (with_reducible refine below_drewN ?_ _) | (with_reducible refine Below.drew ?_) | (with_reducible refine Below.alloc ?_ ?_ _) | (with_reducible refine Below.setCell ?_ ?_ _) | (with_reducible exact Nat.le_refl _) | omega | (simp only [World.size_alloc, World.size_setCell, World.size_drew, Wov_size, World.heap_drewN]; omega))))
    · skip
      have bk : (e3 != 0) = true := by rw [bne_iff_ne]; exact k3
      clear HH
      go_wp2
      all_goals
        go_ret
        exact gives_bool (by simp) (by (repeat' (first | (with_reducible assumption) | (with_reducible exact Below.refl _ _) | (with_reducible refine below_wov ?_ ?_ _) | (with_reducible refine below_drewN ?_ _) | (with_reducible refine Below.drew ?_) | (with_reducible refine Below.alloc ?_ ?_ _) | (with_reducible refine Below.setCell ?_ ?_ _) | (with_reducible exact Nat.le_refl _) | omega | (simp only [World.size_alloc, World.size_setCell, World.size_drew, Wov_size, World.heap_drewN]; omega))))
  · skip
    have bk : (ea != 0) = true := by rw [bne_iff_ne]; exact h0
    have hz := shift_err (z := z) (n := n) (by rw [← ha]; exact h0)
    rw [← ha] at hz
    dsimp only at hz
    subst hz
    clear ha wz wn wpa wpb wpc wpd h0
    unfold zoneV
    go_enter Try.func10, Try.ntmps10
    go_wp2_with (fail)
    refine calls_world (fun W => Below w.heap.size w W ∧ BoxZ W w.heap.size z ∧ PtAt W (w.heap.size + 1) pa pb pc pd) ⟨by (repeat' (first | (with_reducible assumption) | (with_reducible exact Below.refl _ _) | (with_reducible refine below_wov ?_ ?_ _) | (with_reducible refine below_drewN ?_ _) | (with_reducible refine Below.drew ?_) | (with_reducible refine Below.alloc ?_ ?_ _) | (with_reducible refine Below.setCell ?_ ?_ _) | (with_reducible exact Nat.le_refl _) | omega | (simp only [World.size_alloc, World.size_setCell, World.size_drew, Wov_size, World.heap_drewN]; omega))), (BoxZ.new (W := w) (t := 24) (by simp)).below (by (repeat' (first | (with_reducible assumption) | (with_reducible exact Below.refl _ _) | (with_reducible refine below_wov ?_ ?_ _) | (with_reducible refine below_drewN ?_ _) | (with_reducible refine Below.drew ?_) | (with_reducible refine Below.alloc ?_ ?_ _) | (with_reducible refine Below.setCell ?_ ?_ _) | (with_reducible exact Nat.le_refl _) | omega | (simp only [World.size_alloc, World.size_setCell, World.size_drew, Wov_size, World.heap_drewN]; omega)))), (PtAt.new (W := (World.alloc w (.cells #[.int .i64 (z 0), .int .i64 (z 1), .int .i64 (z 2), .int .i64 (z 3), .int .i64 (z 4), .int .i64 (z 5)] 24))) (t := 67) (by simp)).below (by (repeat' (first | (with_reducible assumption) | (with_reducible exact Below.refl _ _) | (with_reducible refine below_wov ?_ ?_ _) | (with_reducible refine below_drewN ?_ _) | (with_reducible refine Below.drew ?_) | (with_reducible refine Below.alloc ?_ ?_ _) | (with_reducible refine Below.setCell ?_ ?_ _) | (with_reducible exact Nat.le_refl _) | omega | (simp only [World.size_alloc, World.size_setCell, World.size_drew, Wov_size, World.heap_drewN]; omega))))⟩ ?_
    rintro W1 ⟨hb1, m1_0, m1_1⟩
    have hs1 := hb1.size
    have f1_0_lt := m1_0.lt
    have f1_0_c0 := m1_0.c0
    have f1_0_c1 := m1_0.c1
    have f1_0_c2 := m1_0.c2
    have f1_0_c3 := m1_0.c3
    have f1_0_c4 := m1_0.c4
    have f1_0_c5 := m1_0.c5
    have f1_1_lt := m1_1.lt
    have f1_1_c0 := m1_1.c0
    have f1_1_c1 := m1_1.c1
    have f1_1_c2 := m1_1.c2
    have f1_1_c3 := m1_1.c3
    refine (HA.out _).mono ?_; rintro e w' ⟨rfl, q0, rfl⟩
    go_wp2_with (fail)
    refine calls_world (fun W => Below w.heap.size w W ∧ BoxZ W w.heap.size z ∧ PtAt W (w.heap.size + 1) pa pb pc pd) ⟨by (repeat' (first | (with_reducible assumption) | (with_reducible exact Below.refl _ _) | (with_reducible refine below_wov ?_ ?_ _) | (with_reducible refine below_drewN ?_ _) | (with_reducible refine Below.drew ?_) | (with_reducible refine Below.alloc ?_ ?_ _) | (with_reducible refine Below.setCell ?_ ?_ _) | (with_reducible exact Nat.le_refl _) | omega | (simp only [World.size_alloc, World.size_setCell, World.size_drew, Wov_size, World.heap_drewN]; omega))), m1_0.below (by (repeat' (first | (with_reducible assumption) | (with_reducible exact Below.refl _ _) | (with_reducible refine below_wov ?_ ?_ _) | (with_reducible refine below_drewN ?_ _) | (with_reducible refine Below.drew ?_) | (with_reducible refine Below.alloc ?_ ?_ _) | (with_reducible refine Below.setCell ?_ ?_ _) | (with_reducible exact Nat.le_refl _) | omega | (simp only [World.size_alloc, World.size_setCell, World.size_drew, Wov_size, World.heap_drewN]; omega)))), m1_1.below (by (repeat' (first | (with_reducible assumption) | (with_reducible exact Below.refl _ _) | (with_reducible refine below_wov ?_ ?_ _) | (with_reducible refine below_drewN ?_ _) | (with_reducible refine Below.drew ?_) | (with_reducible refine Below.alloc ?_ ?_ _) | (with_reducible refine Below.setCell ?_ ?_ _) | (with_reducible exact Nat.le_refl _) | omega | (simp only [World.size_alloc, World.size_setCell, World.size_drew, Wov_size, World.heap_drewN]; omega))))⟩ ?_
    rintro W2 ⟨hb2, m2_0, m2_1⟩
    clear hb1 f1_0_lt f1_0_c0 f1_0_c1 f1_0_c2 f1_0_c3 f1_0_c4 f1_0_c5 f1_1_lt f1_1_c0 f1_1_c1 f1_1_c2 f1_1_c3 m1_0 m1_1 hs1
    have hs2 := hb2.size
    have f2_0_lt := m2_0.lt
    have f2_0_c0 := m2_0.c0
    have f2_0_c1 := m2_0.c1
    have f2_0_c2 := m2_0.c2
    have f2_0_c3 := m2_0.c3
    have f2_0_c4 := m2_0.c4
    have f2_0_c5 := m2_0.c5
    have f2_1_lt := m2_1.lt
    have f2_1_c0 := m2_1.c0
    have f2_1_c1 := m2_1.c1
    have f2_1_c2 := m2_1.c2
    have f2_1_c3 := m2_1.c3
    refine (Ca.out _).mono ?_; rintro e w' ⟨rfl, qa, rfl⟩
    clear HA Ca
    go_wp2
    all_goals
      go_ret
      exact gives_bool (by first | rfl | simp) (by (repeat' (first | (with_reducible assumption) | (with_reducible exact Below.refl _ _) | (with_reducible refine below_wov ?_ ?_ _) | (with_reducible refine below_drewN ?_ _) | (with_reducible refine Below.drew ?_) | (with_reducible refine Below.alloc ?_ ?_ _) | (with_reducible refine Below.setCell ?_ ?_ _) | (with_reducible exact Nat.le_refl _) | omega | (simp only [World.size_alloc, World.size_setCell, World.size_drew, Wov_size, World.heap_drewN]; omega))))
theorem walk (z0 : Nat → Int) (wz0 : FitsZ z0) (a1 : Int) (wa1 : (Lit.int .i64 a1).wf = true) (pa2 pb2 pc2 pd2 : Int) (wp2 : fits64 pa2) (wq2 : fits64 pb2) (wr2 : fits64 pc2) (ws2 : fits64 pd2) (w : World) : Calls Try.prog 10 #[zoneV z0, .int .i64 a1, .agg #[.int .i64 pa2, .int .i64 pb2, .int .i64 pc2, .int .i64 pd2]] w (Gives w (.bool true)) := walk0 z0 wz0 a1 (fits_of_wf wa1) pa2 pb2 pc2 pd2 wp2 wq2 wr2 ws2 w
end Go.Proofs.Ytbgbhfcnadjhdaa.winShifts
