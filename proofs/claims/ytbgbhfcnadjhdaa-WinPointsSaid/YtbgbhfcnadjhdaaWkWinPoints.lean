/- The law WinPoints (walk): a pair is within a span just if it is in the zone, and its difference in the span; and in a window just if it is in the zone, and its end in the window. No condition. -/
import Derived.Test.YtbgbhfcnadjhdaaK12
import Derived.Test.YtbgbhfcnadjhdaaH8
import Derived.Test.YtbgbhfcnadjhdaaFrame2
namespace Go.Proofs.Ytbgbhfcnadjhdaa.winPoints
open Go.ChangeShapes Go.WideShapes Go.ChangeAt Go.RowKit
set_option linter.unusedVariables false
set_option linter.unusedSimpArgs false
attribute [local go_sem] Nat.add_assoc Nat.add_lt_add_iff_left lit_lt_add

set_option maxRecDepth 100000 in
set_option maxHeartbeats 16000000 in
theorem walk0 (z : Nat → Int) (wz : FitsZ z) (s : Sp) (wlo : fits64 s.lo) (whi : fits64 s.hi) (p : Int) (wp : fits64 p) (q : Int) (wq : fits64 q) (pa pb pc pd : Int) (wpa : fits64 pa) (wpb : fits64 pb) (wpc : fits64 pc) (wpd : fits64 pd) (w : World) :
    Calls Try.prog 9 #[zoneV z, .agg #[.int .i64 s.lo, .bool s.ls, .int .i64 s.hi, .bool s.hs, .bool s.op], .int .i64 p, .int .i64 q, .agg #[.int .i64 pa, .int .i64 pb, .int .i64 pc, .int .i64 pd]] w (Gives w (.bool true)) := by
  have HA := Lib.hid alive10
  obtain ⟨⟨one, e⟩, hone⟩ : ∃ r, r = hasZ z (pt pa pb pc pd) := ⟨_, rfl⟩
  have C1 : Hid (∀ w, Calls Try.prog 38 #[.agg #[.int .i64 (z 0), .int .i64 (z 1), .int .i64 (z 2), .int .i64 (z 3), .int .i64 (z 4), .int .i64 (z 5)], .agg #[.int .i64 pa, .int .i64 pb, .int .i64 pc, .int .i64 pd]] w (Gives w (.tuple #[.bool one, .int .i64 e]))) := fun w => by
    have := zhas_any z pa pb pc pd w wz wpa wpb wpc wpd
    rw [← hone] at this; exact this
  obtain ⟨⟨⟨d1, d2⟩, is⟩, hd⟩ : ∃ r, r = diffR pa pb pc pd := ⟨_, rfl⟩
  have C2 : Hid (∀ w, Calls Try.prog 39 #[.agg #[.int .i64 pa, .int .i64 pb, .int .i64 pc, .int .i64 pd]] w (Gives w (.tuple #[.agg #[.int .i64 d1, .int .i64 d2], .bool is]))) := fun w => by
    have := difference_any pa pb pc pd wpa wpb wpc wpd w
    rw [← hd] at this; exact this
  obtain ⟨⟨ra, ea⟩, ha⟩ : ∃ r, r = withinZ z s := ⟨_, rfl⟩
  have Ca : Hid (∀ w, Calls Try.prog 40 #[.agg #[.int .i64 (z 0), .int .i64 (z 1), .int .i64 (z 2), .int .i64 (z 3), .int .i64 (z 4), .int .i64 (z 5)], .agg #[.int .i64 s.lo, .bool s.ls, .int .i64 s.hi, .bool s.hs, .bool s.op]] w (Gives w (.tuple #[.agg #[.int .i64 (ra 0), .int .i64 (ra 1), .int .i64 (ra 2), .int .i64 (ra 3), .int .i64 (ra 4), .int .i64 (ra 5)], .int .i64 ea]))) := fun w => by
    have := wwithin_any z s w wz wlo whi
    rw [← ha] at this; exact this
  obtain ⟨⟨rb, eb⟩, hb⟩ : ∃ r, r = windowZ z p q := ⟨_, rfl⟩
  have Cb : Hid (∀ w, Calls Try.prog 24 #[.agg #[.int .i64 (z 0), .int .i64 (z 1), .int .i64 (z 2), .int .i64 (z 3), .int .i64 (z 4), .int .i64 (z 5)], .int .i64 p, .int .i64 q] w (Gives w (.tuple #[.agg #[.int .i64 (rb 0), .int .i64 (rb 1), .int .i64 (rb 2), .int .i64 (rb 3), .int .i64 (rb 4), .int .i64 (rb 5)], .int .i64 eb]))) := fun w => by
    have := wwindow_any z p q w wz wp wq
    rw [← hb] at this; exact this
  have HP : Hid (e = 0 → is = true → (ea = 0 ∨ ea = 6 → ∃ k : Bool, (∀ w, Calls Try.prog 41 #[.agg #[.int .i64 d1, .int .i64 d2], .agg #[.int .i64 s.lo, .bool s.ls, .int .i64 s.hi, .bool s.hs, .bool s.op]] w (Gives w (.bool k))) ∧ (ea = 6 → (one && k) = false) ∧ (ea = 0 → (∀ w, Calls Try.prog 38 #[.agg #[.int .i64 (ra 0), .int .i64 (ra 1), .int .i64 (ra 2), .int .i64 (ra 3), .int .i64 (ra 4), .int .i64 (ra 5)], .agg #[.int .i64 pa, .int .i64 pb, .int .i64 pc, .int .i64 pd]] w (Gives w (.tuple #[.bool (one && k), .int .i64 0]))))) ∧ (eb = 0 ∨ eb = 6 → ∃ k : Bool, (∀ w, Calls Try.prog 41 #[.agg #[.int .i64 pc, .int .i64 pd], .agg #[.int .i64 p, .bool true, .int .i64 q, .bool false, .bool false]] w (Gives w (.bool k))) ∧ (eb = 6 → (one && k) = false) ∧ (eb = 0 → (∀ w, Calls Try.prog 38 #[.agg #[.int .i64 (rb 0), .int .i64 (rb 1), .int .i64 (rb 2), .int .i64 (rb 3), .int .i64 (rb 4), .int .i64 (rb 5)], .agg #[.int .i64 pa, .int .i64 pb, .int .i64 pc, .int .i64 pd]] w (Gives w (.tuple #[.bool (one && k), .int .i64 0])))))) := fun k1 k2 => by
    subst k1; subst k2
    obtain ⟨ok, rp, h1⟩ := hasZ_ok hone.symm
    have rp2 := rp
    rw [rat2, Bool.and_eq_true] at rp2
    obtain ⟨o1, o2⟩ := rp2
    unfold diffR at hd
    split at hd
    · simp at hd
    simp only [Prod.mk.injEq] at hd
    obtain ⟨⟨x1, x2⟩, x3⟩ := hd
    have x3 := of_decide_eq_true x3.symm
    have hadd : addPR pc pd (-pa) pb 1 = (d1, d2, 0) := by rw [x1, x2, ← x3]
    rcases addPR_spec (by decide) hadd with ⟨_, _, _, f1, o3, y1, y2, _, _⟩ | ⟨x, _⟩
    case inr => exact absurd rfl x
    have fd : fits64 d2 := by have := okRat_bd o3; unfold fits64; omega
    obtain ⟨l1, l2⟩ := points1_law (s := s) ok rp y2 y1
    obtain ⟨l3, l4⟩ := points2_law (f := p) (e := q) ok rp
    rw [← ha] at l1 l2
    rw [← hb] at l3 l4
    dsimp only at l1 l2 l3 l4
    refine ⟨fun he => ?_, fun he => ?_⟩
    · have sok : s.ok = true := by rcases he with he | he; exact (l1 he).1; exact (l2 he).1
      refine ⟨s.inn (d1, d2), fun w => inspan_any s d1 d2 sok o3 f1 w, fun h6 => by rw [h1]; exact (l2 h6).2, fun h0 w => ?_⟩
      have okr : okZ ra = true := by subst h0; exact (within_ok ha.symm).2.2.1
      have := zhas_any ra pa pb pc pd w (okZ_fits okr) wpa wpb wpc wpd
      rw [(l1 h0).2, ← h1] at this
      exact this
    · have wok : windowOK p q = true := by rcases he with he | he; exact (l3 he).1; exact (l4 he).1
      obtain ⟨w1, w2, w3, w4, w5⟩ := windowOK_bd wok
      refine ⟨(Sp.mk p true q false false).inn (pc, pd), fun w => inspan_any (Sp.mk p true q false false) pc pd (by unfold Sp.ok spanB; simp; omega) o2 wpc w, fun h6 => by rw [h1]; exact (l4 h6).2, fun h0 w => ?_⟩
      have okr : okZ rb = true := by subst h0; exact (window_ok hb.symm).2.2.1
      have := zhas_any rb pa pb pc pd w (okZ_fits okr) wpa wpb wpc wpd
      rw [(l3 h0).2, ← h1] at this
      exact this
  clear hone hd ha hb wz wlo whi wp wq wpa wpb wpc wpd
  unfold zoneV
  go_enter Try.func9, Try.ntmps9
  go_wp2_with (fail)
  refine calls_world (fun W => Below w.heap.size w W ∧ BoxZ W w.heap.size z ∧ BoxS W (w.heap.size + 1) s.lo s.ls s.hi s.hs s.op ∧ PtAt W (w.heap.size + 2) pa pb pc pd) ⟨by (repeat' (first | (with_reducible assumption) | (with_reducible exact Below.refl _ _) | (with_reducible refine below_wov ?_ ?_ _) | (with_reducible refine below_drewN ?_ _) | (with_reducible refine Below.drew ?_) | (with_reducible refine Below.alloc ?_ ?_ _) | (with_reducible refine Below.setCell ?_ ?_ _) | (with_reducible exact Nat.le_refl _) | omega | (simp only [World.size_alloc, World.size_setCell, World.size_drew, Wov_size, World.heap_drewN]; omega))), (BoxZ.new (W := w) (t := 24) (by simp)).below (by (repeat' (first | (with_reducible assumption) | (with_reducible exact Below.refl _ _) | (with_reducible refine below_wov ?_ ?_ _) | (with_reducible refine below_drewN ?_ _) | (with_reducible refine Below.drew ?_) | (with_reducible refine Below.alloc ?_ ?_ _) | (with_reducible refine Below.setCell ?_ ?_ _) | (with_reducible exact Nat.le_refl _) | omega | (simp only [World.size_alloc, World.size_setCell, World.size_drew, Wov_size, World.heap_drewN]; omega)))), (BoxS.new (W := (World.alloc w (.cells #[.int .i64 (z 0), .int .i64 (z 1), .int .i64 (z 2), .int .i64 (z 3), .int .i64 (z 4), .int .i64 (z 5)] 24))) (t := 42) (by simp)).below (by (repeat' (first | (with_reducible assumption) | (with_reducible exact Below.refl _ _) | (with_reducible refine below_wov ?_ ?_ _) | (with_reducible refine below_drewN ?_ _) | (with_reducible refine Below.drew ?_) | (with_reducible refine Below.alloc ?_ ?_ _) | (with_reducible refine Below.setCell ?_ ?_ _) | (with_reducible exact Nat.le_refl _) | omega | (simp only [World.size_alloc, World.size_setCell, World.size_drew, Wov_size, World.heap_drewN]; omega)))), (PtAt.new (W := (World.alloc (World.alloc w (.cells #[.int .i64 (z 0), .int .i64 (z 1), .int .i64 (z 2), .int .i64 (z 3), .int .i64 (z 4), .int .i64 (z 5)] 24)) (.cells #[.int .i64 s.lo, .bool s.ls, .int .i64 s.hi, .bool s.hs, .bool s.op] 42))) (t := 67) (by simp)).below (by (repeat' (first | (with_reducible assumption) | (with_reducible exact Below.refl _ _) | (with_reducible refine below_wov ?_ ?_ _) | (with_reducible refine below_drewN ?_ _) | (with_reducible refine Below.drew ?_) | (with_reducible refine Below.alloc ?_ ?_ _) | (with_reducible refine Below.setCell ?_ ?_ _) | (with_reducible exact Nat.le_refl _) | omega | (simp only [World.size_alloc, World.size_setCell, World.size_drew, Wov_size, World.heap_drewN]; omega))))⟩ ?_
  rintro W1 ⟨hb1, m1_0, m1_1, m1_2⟩
  have hs1 := hb1.size
  have f1_0_lt := m1_0.lt
  have f1_0_c0 := m1_0.c0
  have f1_0_c1 := m1_0.c1
  have f1_0_c2 := m1_0.c2
  have f1_0_c3 := m1_0.c3
  have f1_0_c4 := m1_0.c4
  have f1_0_c5 := m1_0.c5
  have f1_1_lt := m1_1.lt
  have f1_1_c0 := m1_1.c0
  have f1_1_c1 := m1_1.c1
  have f1_1_c2 := m1_1.c2
  have f1_1_c3 := m1_1.c3
  have f1_1_c4 := m1_1.c4
  have f1_2_lt := m1_2.lt
  have f1_2_c0 := m1_2.c0
  have f1_2_c1 := m1_2.c1
  have f1_2_c2 := m1_2.c2
  have f1_2_c3 := m1_2.c3
  refine (HA.out _).mono ?_; rintro e w' ⟨rfl, q0, rfl⟩
  go_wp2_with (fail)
  refine calls_world (fun W => Below w.heap.size w W ∧ BoxZ W w.heap.size z ∧ BoxS W (w.heap.size + 1) s.lo s.ls s.hi s.hs s.op ∧ PtAt W (w.heap.size + 2) pa pb pc pd) ⟨by (repeat' (first | (with_reducible assumption) | (with_reducible exact Below.refl _ _) | (with_reducible refine below_wov ?_ ?_ _) | (with_reducible refine below_drewN ?_ _) | (with_reducible refine Below.drew ?_) | (with_reducible refine Below.alloc ?_ ?_ _) | (with_reducible refine Below.setCell ?_ ?_ _) | (with_reducible exact Nat.le_refl _) | omega | (simp only [World.size_alloc, World.size_setCell, World.size_drew, Wov_size, World.heap_drewN]; omega))), m1_0.below (by (repeat' (first | (with_reducible assumption) | (with_reducible exact Below.refl _ _) | (with_reducible refine below_wov ?_ ?_ _) | (with_reducible refine below_drewN ?_ _) | (with_reducible refine Below.drew ?_) | (with_reducible refine Below.alloc ?_ ?_ _) | (with_reducible refine Below.setCell ?_ ?_ _) | (with_reducible exact Nat.le_refl _) | omega | (simp only [World.size_alloc, World.size_setCell, World.size_drew, Wov_size, World.heap_drewN]; omega)))), m1_1.below (by (repeat' (first | (with_reducible assumption) | (with_reducible exact Below.refl _ _) | (with_reducible refine below_wov ?_ ?_ _) | (with_reducible refine below_drewN ?_ _) | (with_reducible refine Below.drew ?_) | (with_reducible refine Below.alloc ?_ ?_ _) | (with_reducible refine Below.setCell ?_ ?_ _) | (with_reducible exact Nat.le_refl _) | omega | (simp only [World.size_alloc, World.size_setCell, World.size_drew, Wov_size, World.heap_drewN]; omega)))), m1_2.below (by (repeat' (first | (with_reducible assumption) | (with_reducible exact Below.refl _ _) | (with_reducible refine below_wov ?_ ?_ _) | (with_reducible refine below_drewN ?_ _) | (with_reducible refine Below.drew ?_) | (with_reducible refine Below.alloc ?_ ?_ _) | (with_reducible refine Below.setCell ?_ ?_ _) | (with_reducible exact Nat.le_refl _) | omega | (simp only [World.size_alloc, World.size_setCell, World.size_drew, Wov_size, World.heap_drewN]; omega))))⟩ ?_
  rintro W2 ⟨hb2, m2_0, m2_1, m2_2⟩
  clear hb1 f1_0_lt f1_0_c0 f1_0_c1 f1_0_c2 f1_0_c3 f1_0_c4 f1_0_c5 f1_1_lt f1_1_c0 f1_1_c1 f1_1_c2 f1_1_c3 f1_1_c4 f1_2_lt f1_2_c0 f1_2_c1 f1_2_c2 f1_2_c3 m1_0 m1_1 m1_2 hs1
  have hs2 := hb2.size
  have f2_0_lt := m2_0.lt
  have f2_0_c0 := m2_0.c0
  have f2_0_c1 := m2_0.c1
  have f2_0_c2 := m2_0.c2
  have f2_0_c3 := m2_0.c3
  have f2_0_c4 := m2_0.c4
  have f2_0_c5 := m2_0.c5
  have f2_1_lt := m2_1.lt
  have f2_1_c0 := m2_1.c0
  have f2_1_c1 := m2_1.c1
  have f2_1_c2 := m2_1.c2
  have f2_1_c3 := m2_1.c3
  have f2_1_c4 := m2_1.c4
  have f2_2_lt := m2_2.lt
  have f2_2_c0 := m2_2.c0
  have f2_2_c1 := m2_2.c1
  have f2_2_c2 := m2_2.c2
  have f2_2_c3 := m2_2.c3
  refine (C1.out _).mono ?_; rintro e w' ⟨rfl, q1, rfl⟩
  go_wp2_with (fail)
  refine calls_world (fun W => Below w.heap.size w W ∧ BoxZ W w.heap.size z ∧ BoxS W (w.heap.size + 1) s.lo s.ls s.hi s.hs s.op ∧ PtAt W (w.heap.size + 2) pa pb pc pd) ⟨by (repeat' (first | (with_reducible assumption) | (with_reducible exact Below.refl _ _) | (with_reducible refine below_wov ?_ ?_ _) | (with_reducible refine below_drewN ?_ _) | (with_reducible refine Below.drew ?_) | (with_reducible refine Below.alloc ?_ ?_ _) | (with_reducible refine Below.setCell ?_ ?_ _) | (with_reducible exact Nat.le_refl _) | omega | (simp only [World.size_alloc, World.size_setCell, World.size_drew, Wov_size, World.heap_drewN]; omega))), m2_0.below (by (repeat' (first | (with_reducible assumption) | (with_reducible exact Below.refl _ _) | (with_reducible refine below_wov ?_ ?_ _) | (with_reducible refine below_drewN ?_ _) | (with_reducible refine Below.drew ?_) | (with_reducible refine Below.alloc ?_ ?_ _) | (with_reducible refine Below.setCell ?_ ?_ _) | (with_reducible exact Nat.le_refl _) | omega | (simp only [World.size_alloc, World.size_setCell, World.size_drew, Wov_size, World.heap_drewN]; omega)))), m2_1.below (by (repeat' (first | (with_reducible assumption) | (with_reducible exact Below.refl _ _) | (with_reducible refine below_wov ?_ ?_ _) | (with_reducible refine below_drewN ?_ _) | (with_reducible refine Below.drew ?_) | (with_reducible refine Below.alloc ?_ ?_ _) | (with_reducible refine Below.setCell ?_ ?_ _) | (with_reducible exact Nat.le_refl _) | omega | (simp only [World.size_alloc, World.size_setCell, World.size_drew, Wov_size, World.heap_drewN]; omega)))), m2_2.below (by (repeat' (first | (with_reducible assumption) | (with_reducible exact Below.refl _ _) | (with_reducible refine below_wov ?_ ?_ _) | (with_reducible refine below_drewN ?_ _) | (with_reducible refine Below.drew ?_) | (with_reducible refine Below.alloc ?_ ?_ _) | (with_reducible refine Below.setCell ?_ ?_ _) | (with_reducible exact Nat.le_refl _) | omega | (simp only [World.size_alloc, World.size_setCell, World.size_drew, Wov_size, World.heap_drewN]; omega))))⟩ ?_
  rintro W3 ⟨hb3, m3_0, m3_1, m3_2⟩
  clear hb2 f2_0_lt f2_0_c0 f2_0_c1 f2_0_c2 f2_0_c3 f2_0_c4 f2_0_c5 f2_1_lt f2_1_c0 f2_1_c1 f2_1_c2 f2_1_c3 f2_1_c4 f2_2_lt f2_2_c0 f2_2_c1 f2_2_c2 f2_2_c3 m2_0 m2_1 m2_2 hs2
  have hs3 := hb3.size
  have f3_0_lt := m3_0.lt
  have f3_0_c0 := m3_0.c0
  have f3_0_c1 := m3_0.c1
  have f3_0_c2 := m3_0.c2
  have f3_0_c3 := m3_0.c3
  have f3_0_c4 := m3_0.c4
  have f3_0_c5 := m3_0.c5
  have f3_1_lt := m3_1.lt
  have f3_1_c0 := m3_1.c0
  have f3_1_c1 := m3_1.c1
  have f3_1_c2 := m3_1.c2
  have f3_1_c3 := m3_1.c3
  have f3_1_c4 := m3_1.c4
  have f3_2_lt := m3_2.lt
  have f3_2_c0 := m3_2.c0
  have f3_2_c1 := m3_2.c1
  have f3_2_c2 := m3_2.c2
  have f3_2_c3 := m3_2.c3
  refine (C2.out _).mono ?_; rintro e w' ⟨rfl, q2, rfl⟩
  clear HA C1 C2
  by_cases k1 : e = 0
  · skip
    cases is
    · skip
      subst k1
      clear HP Ca Cb
      go_wp2
      all_goals
        go_ret
        exact gives_bool (by simp) (by (repeat' (first | (with_reducible assumption) | (with_reducible exact Below.refl _ _) | (with_reducible refine below_wov ?_ ?_ _) | (with_reducible refine below_drewN ?_ _) | (with_reducible refine Below.drew ?_) | (with_reducible refine Below.alloc ?_ ?_ _) | (with_reducible refine Below.setCell ?_ ?_ _) | (with_reducible exact Nat.le_refl _) | omega | (simp only [World.size_alloc, World.size_setCell, World.size_drew, Wov_size, World.heap_drewN]; omega))))
    · skip
      subst k1
      obtain ⟨P1, P2⟩ := HP.out (by simp) (by simp)
      have P1 := Lib.hid P1
      have P2 := Lib.hid P2
      clear HP
      go_wp2_with (fail)
      obtain ⟨AD, hAD⟩ : ∃ A, W3.heap.size + q2.bl.size = A := ⟨_, rfl⟩
      rw [hAD]
      refine calls_world (fun W => Below w.heap.size w W ∧ BoxZ W w.heap.size z ∧ BoxS W (w.heap.size + 1) s.lo s.ls s.hi s.hs s.op ∧ PtAt W (w.heap.size + 2) pa pb pc pd ∧ BoxR W AD d1 d2) ⟨by (repeat' (first | (with_reducible assumption) | (with_reducible exact Below.refl _ _) | (with_reducible refine below_wov ?_ ?_ _) | (with_reducible refine below_drewN ?_ _) | (with_reducible refine Below.drew ?_) | (with_reducible refine Below.alloc ?_ ?_ _) | (with_reducible refine Below.setCell ?_ ?_ _) | (with_reducible exact Nat.le_refl _) | omega | (simp only [World.size_alloc, World.size_setCell, World.size_drew, Wov_size, World.heap_drewN]; omega))), m3_0.below (by (repeat' (first | (with_reducible assumption) | (with_reducible exact Below.refl _ _) | (with_reducible refine below_wov ?_ ?_ _) | (with_reducible refine below_drewN ?_ _) | (with_reducible refine Below.drew ?_) | (with_reducible refine Below.alloc ?_ ?_ _) | (with_reducible refine Below.setCell ?_ ?_ _) | (with_reducible exact Nat.le_refl _) | omega | (simp only [World.size_alloc, World.size_setCell, World.size_drew, Wov_size, World.heap_drewN]; omega)))), m3_1.below (by (repeat' (first | (with_reducible assumption) | (with_reducible exact Below.refl _ _) | (with_reducible refine below_wov ?_ ?_ _) | (with_reducible refine below_drewN ?_ _) | (with_reducible refine Below.drew ?_) | (with_reducible refine Below.alloc ?_ ?_ _) | (with_reducible refine Below.setCell ?_ ?_ _) | (with_reducible exact Nat.le_refl _) | omega | (simp only [World.size_alloc, World.size_setCell, World.size_drew, Wov_size, World.heap_drewN]; omega)))), m3_2.below (by (repeat' (first | (with_reducible assumption) | (with_reducible exact Below.refl _ _) | (with_reducible refine below_wov ?_ ?_ _) | (with_reducible refine below_drewN ?_ _) | (with_reducible refine Below.drew ?_) | (with_reducible refine Below.alloc ?_ ?_ _) | (with_reducible refine Below.setCell ?_ ?_ _) | (with_reducible exact Nat.le_refl _) | omega | (simp only [World.size_alloc, World.size_setCell, World.size_drew, Wov_size, World.heap_drewN]; omega)))), BoxR.new (by rw [← hAD]; (try simp only [Wov_size]))⟩ ?_
      rintro W4 ⟨hb4, m4_0, m4_1, m4_2, m4_3⟩
      clear hb3 f3_0_lt f3_0_c0 f3_0_c1 f3_0_c2 f3_0_c3 f3_0_c4 f3_0_c5 f3_1_lt f3_1_c0 f3_1_c1 f3_1_c2 f3_1_c3 f3_1_c4 f3_2_lt f3_2_c0 f3_2_c1 f3_2_c2 f3_2_c3 m3_0 m3_1 m3_2 hs3
      have hs4 := hb4.size
      have f4_0_lt := m4_0.lt
      have f4_0_c0 := m4_0.c0
      have f4_0_c1 := m4_0.c1
      have f4_0_c2 := m4_0.c2
      have f4_0_c3 := m4_0.c3
      have f4_0_c4 := m4_0.c4
      have f4_0_c5 := m4_0.c5
      have f4_1_lt := m4_1.lt
      have f4_1_c0 := m4_1.c0
      have f4_1_c1 := m4_1.c1
      have f4_1_c2 := m4_1.c2
      have f4_1_c3 := m4_1.c3
      have f4_1_c4 := m4_1.c4
      have f4_2_lt := m4_2.lt
      have f4_2_c0 := m4_2.c0
      have f4_2_c1 := m4_2.c1
      have f4_2_c2 := m4_2.c2
      have f4_2_c3 := m4_2.c3
      have f4_3_lt := m4_3.lt
      have f4_3_c0 := m4_3.c0
      have f4_3_c1 := m4_3.c1
      clear hAD
      refine (Ca.out _).mono ?_; rintro e w' ⟨rfl, qa, rfl⟩
      by_cases a0 : ea = 0
      · skip
        subst a0
        obtain ⟨k, M1, _, M2⟩ := P1.out (by simp)
        replace M2 := M2 (by simp)
        have M1 := Lib.hid M1
        have M2 := Lib.hid M2
        clear P1
        go_wp2_with (fail)
        obtain ⟨AA, hAA⟩ : ∃ A, W4.heap.size + qa.bl.size = A := ⟨_, rfl⟩
        rw [hAA]
        refine calls_world (fun W => Below w.heap.size w W ∧ BoxZ W w.heap.size z ∧ BoxS W (w.heap.size + 1) s.lo s.ls s.hi s.hs s.op ∧ PtAt W (w.heap.size + 2) pa pb pc pd ∧ BoxR W AD d1 d2 ∧ BoxZ W AA ra) ⟨by (repeat' (first | (with_reducible assumption) | (with_reducible exact Below.refl _ _) | (with_reducible refine below_wov ?_ ?_ _) | (with_reducible refine below_drewN ?_ _) | (with_reducible refine Below.drew ?_) | (with_reducible refine Below.alloc ?_ ?_ _) | (with_reducible refine Below.setCell ?_ ?_ _) | (with_reducible exact Nat.le_refl _) | omega | (simp only [World.size_alloc, World.size_setCell, World.size_drew, Wov_size, World.heap_drewN]; omega))), m4_0.below (by (repeat' (first | (with_reducible assumption) | (with_reducible exact Below.refl _ _) | (with_reducible refine below_wov ?_ ?_ _) | (with_reducible refine below_drewN ?_ _) | (with_reducible refine Below.drew ?_) | (with_reducible refine Below.alloc ?_ ?_ _) | (with_reducible refine Below.setCell ?_ ?_ _) | (with_reducible exact Nat.le_refl _) | omega | (simp only [World.size_alloc, World.size_setCell, World.size_drew, Wov_size, World.heap_drewN]; omega)))), m4_1.below (by (repeat' (first | (with_reducible assumption) | (with_reducible exact Below.refl _ _) | (with_reducible refine below_wov ?_ ?_ _) | (with_reducible refine below_drewN ?_ _) | (with_reducible refine Below.drew ?_) | (with_reducible refine Below.alloc ?_ ?_ _) | (with_reducible refine Below.setCell ?_ ?_ _) | (with_reducible exact Nat.le_refl _) | omega | (simp only [World.size_alloc, World.size_setCell, World.size_drew, Wov_size, World.heap_drewN]; omega)))), m4_2.below (by (repeat' (first | (with_reducible assumption) | (with_reducible exact Below.refl _ _) | (with_reducible refine below_wov ?_ ?_ _) | (with_reducible refine below_drewN ?_ _) | (with_reducible refine Below.drew ?_) | (with_reducible refine Below.alloc ?_ ?_ _) | (with_reducible refine Below.setCell ?_ ?_ _) | (with_reducible exact Nat.le_refl _) | omega | (simp only [World.size_alloc, World.size_setCell, World.size_drew, Wov_size, World.heap_drewN]; omega)))), m4_3.below (by (repeat' (first | (with_reducible assumption) | (with_reducible exact Below.refl _ _) | (with_reducible refine below_wov ?_ ?_ _) | (with_reducible refine below_drewN ?_ _) | (with_reducible refine Below.drew ?_) | (with_reducible refine Below.alloc ?_ ?_ _) | (with_reducible refine Below.setCell ?_ ?_ _) | (with_reducible exact Nat.le_refl _) | omega | (simp only [World.size_alloc, World.size_setCell, World.size_drew, Wov_size, World.heap_drewN]; omega)))), BoxZ.new (by rw [← hAA]; (try simp only [Wov_size]))⟩ ?_
        rintro W5 ⟨hb5, m5_0, m5_1, m5_2, m5_3, m5_4⟩
        clear hb4 f4_0_lt f4_0_c0 f4_0_c1 f4_0_c2 f4_0_c3 f4_0_c4 f4_0_c5 f4_1_lt f4_1_c0 f4_1_c1 f4_1_c2 f4_1_c3 f4_1_c4 f4_2_lt f4_2_c0 f4_2_c1 f4_2_c2 f4_2_c3 f4_3_lt f4_3_c0 f4_3_c1 m4_0 m4_1 m4_2 m4_3 hs4
        have hs5 := hb5.size
        have f5_0_lt := m5_0.lt
        have f5_0_c0 := m5_0.c0
        have f5_0_c1 := m5_0.c1
        have f5_0_c2 := m5_0.c2
        have f5_0_c3 := m5_0.c3
        have f5_0_c4 := m5_0.c4
        have f5_0_c5 := m5_0.c5
        have f5_1_lt := m5_1.lt
        have f5_1_c0 := m5_1.c0
        have f5_1_c1 := m5_1.c1
        have f5_1_c2 := m5_1.c2
        have f5_1_c3 := m5_1.c3
        have f5_1_c4 := m5_1.c4
        have f5_2_lt := m5_2.lt
        have f5_2_c0 := m5_2.c0
        have f5_2_c1 := m5_2.c1
        have f5_2_c2 := m5_2.c2
        have f5_2_c3 := m5_2.c3
        have f5_3_lt := m5_3.lt
        have f5_3_c0 := m5_3.c0
        have f5_3_c1 := m5_3.c1
        have f5_4_lt := m5_4.lt
        have f5_4_c0 := m5_4.c0
        have f5_4_c1 := m5_4.c1
        have f5_4_c2 := m5_4.c2
        have f5_4_c3 := m5_4.c3
        have f5_4_c4 := m5_4.c4
        have f5_4_c5 := m5_4.c5
        clear hAA
        refine (M2.out _).mono ?_; rintro e w' ⟨rfl, qc, rfl⟩
        cases one
        · skip
          simp only [Bool.false_and]
          go_wp2_with (fail)
          refine calls_world (fun W => Below w.heap.size w W ∧ BoxZ W w.heap.size z ∧ BoxS W (w.heap.size + 1) s.lo s.ls s.hi s.hs s.op ∧ PtAt W (w.heap.size + 2) pa pb pc pd ∧ BoxR W AD d1 d2 ∧ BoxZ W AA ra) ⟨by (repeat' (first | (with_reducible assumption) | (with_reducible exact Below.refl _ _) | (with_reducible refine below_wov ?_ ?_ _) | (with_reducible refine below_drewN ?_ _) | (with_reducible refine Below.drew ?_) | (with_reducible refine Below.alloc ?_ ?_ _) | (with_reducible refine Below.setCell ?_ ?_ _) | (with_reducible exact Nat.le_refl _) | omega | (simp only [World.size_alloc, World.size_setCell, World.size_drew, Wov_size, World.heap_drewN]; omega))), m5_0.below (by (repeat' (first | (with_reducible assumption) | (with_reducible exact Below.refl _ _) | (with_reducible refine below_wov ?_ ?_ _) | (with_reducible refine below_drewN ?_ _) | (with_reducible refine Below.drew ?_) | (with_reducible refine Below.alloc ?_ ?_ _) | (with_reducible refine Below.setCell ?_ ?_ _) | (with_reducible exact Nat.le_refl _) | omega | (simp only [World.size_alloc, World.size_setCell, World.size_drew, Wov_size, World.heap_drewN]; omega)))), m5_1.below (by (repeat' (first | (with_reducible assumption) | (with_reducible exact Below.refl _ _) | (with_reducible refine below_wov ?_ ?_ _) | (with_reducible refine below_drewN ?_ _) | (with_reducible refine Below.drew ?_) | (with_reducible refine Below.alloc ?_ ?_ _) | (with_reducible refine Below.setCell ?_ ?_ _) | (with_reducible exact Nat.le_refl _) | omega | (simp only [World.size_alloc, World.size_setCell, World.size_drew, Wov_size, World.heap_drewN]; omega)))), m5_2.below (by (repeat' (first | (with_reducible assumption) | (with_reducible exact Below.refl _ _) | (with_reducible refine below_wov ?_ ?_ _) | (with_reducible refine below_drewN ?_ _) | (with_reducible refine Below.drew ?_) | (with_reducible refine Below.alloc ?_ ?_ _) | (with_reducible refine Below.setCell ?_ ?_ _) | (with_reducible exact Nat.le_refl _) | omega | (simp only [World.size_alloc, World.size_setCell, World.size_drew, Wov_size, World.heap_drewN]; omega)))), m5_3.below (by (repeat' (first | (with_reducible assumption) | (with_reducible exact Below.refl _ _) | (with_reducible refine below_wov ?_ ?_ _) | (with_reducible refine below_drewN ?_ _) | (with_reducible refine Below.drew ?_) | (with_reducible refine Below.alloc ?_ ?_ _) | (with_reducible refine Below.setCell ?_ ?_ _) | (with_reducible exact Nat.le_refl _) | omega | (simp only [World.size_alloc, World.size_setCell, World.size_drew, Wov_size, World.heap_drewN]; omega)))), m5_4.below (by (repeat' (first | (with_reducible assumption) | (with_reducible exact Below.refl _ _) | (with_reducible refine below_wov ?_ ?_ _) | (with_reducible refine below_drewN ?_ _) | (with_reducible refine Below.drew ?_) | (with_reducible refine Below.alloc ?_ ?_ _) | (with_reducible refine Below.setCell ?_ ?_ _) | (with_reducible exact Nat.le_refl _) | omega | (simp only [World.size_alloc, World.size_setCell, World.size_drew, Wov_size, World.heap_drewN]; omega))))⟩ ?_
          rintro W6 ⟨hb6, m6_0, m6_1, m6_2, m6_3, m6_4⟩
          clear hb5 f5_0_lt f5_0_c0 f5_0_c1 f5_0_c2 f5_0_c3 f5_0_c4 f5_0_c5 f5_1_lt f5_1_c0 f5_1_c1 f5_1_c2 f5_1_c3 f5_1_c4 f5_2_lt f5_2_c0 f5_2_c1 f5_2_c2 f5_2_c3 f5_3_lt f5_3_c0 f5_3_c1 f5_4_lt f5_4_c0 f5_4_c1 f5_4_c2 f5_4_c3 f5_4_c4 f5_4_c5 m5_0 m5_1 m5_2 m5_3 m5_4 hs5
          have hs6 := hb6.size
          have f6_0_lt := m6_0.lt
          have f6_0_c0 := m6_0.c0
          have f6_0_c1 := m6_0.c1
          have f6_0_c2 := m6_0.c2
          have f6_0_c3 := m6_0.c3
          have f6_0_c4 := m6_0.c4
          have f6_0_c5 := m6_0.c5
          have f6_1_lt := m6_1.lt
          have f6_1_c0 := m6_1.c0
          have f6_1_c1 := m6_1.c1
          have f6_1_c2 := m6_1.c2
          have f6_1_c3 := m6_1.c3
          have f6_1_c4 := m6_1.c4
          have f6_2_lt := m6_2.lt
          have f6_2_c0 := m6_2.c0
          have f6_2_c1 := m6_2.c1
          have f6_2_c2 := m6_2.c2
          have f6_2_c3 := m6_2.c3
          have f6_3_lt := m6_3.lt
          have f6_3_c0 := m6_3.c0
          have f6_3_c1 := m6_3.c1
          have f6_4_lt := m6_4.lt
          have f6_4_c0 := m6_4.c0
          have f6_4_c1 := m6_4.c1
          have f6_4_c2 := m6_4.c2
          have f6_4_c3 := m6_4.c3
          have f6_4_c4 := m6_4.c4
          have f6_4_c5 := m6_4.c5
          refine (Cb.out _).mono ?_; rintro e w' ⟨rfl, qb, rfl⟩
          by_cases b0 : eb = 0
          · skip
            subst b0
            obtain ⟨k, N1, _, N2⟩ := P2.out (by simp)
            replace N2 := N2 (by simp)
            have N1 := Lib.hid N1
            go_wp2_with (fail)
            obtain ⟨AB, hAB⟩ : ∃ A, W6.heap.size + qb.bl.size = A := ⟨_, rfl⟩
            rw [hAB]
            refine calls_world (fun W => Below w.heap.size w W ∧ BoxZ W w.heap.size z ∧ BoxS W (w.heap.size + 1) s.lo s.ls s.hi s.hs s.op ∧ PtAt W (w.heap.size + 2) pa pb pc pd ∧ BoxR W AD d1 d2 ∧ BoxZ W AA ra ∧ BoxZ W AB rb) ⟨by (repeat' (first | (with_reducible assumption) | (with_reducible exact Below.refl _ _) | (with_reducible refine below_wov ?_ ?_ _) | (with_reducible refine below_drewN ?_ _) | (with_reducible refine Below.drew ?_) | (with_reducible refine Below.alloc ?_ ?_ _) | (with_reducible refine Below.setCell ?_ ?_ _) | (with_reducible exact Nat.le_refl _) | omega | (simp only [World.size_alloc, World.size_setCell, World.size_drew, Wov_size, World.heap_drewN]; omega))), m6_0.below (by (repeat' (first | (with_reducible assumption) | (with_reducible exact Below.refl _ _) | (with_reducible refine below_wov ?_ ?_ _) | (with_reducible refine below_drewN ?_ _) | (with_reducible refine Below.drew ?_) | (with_reducible refine Below.alloc ?_ ?_ _) | (with_reducible refine Below.setCell ?_ ?_ _) | (with_reducible exact Nat.le_refl _) | omega | (simp only [World.size_alloc, World.size_setCell, World.size_drew, Wov_size, World.heap_drewN]; omega)))), m6_1.below (by (repeat' (first | (with_reducible assumption) | (with_reducible exact Below.refl _ _) | (with_reducible refine below_wov ?_ ?_ _) | (with_reducible refine below_drewN ?_ _) | (with_reducible refine Below.drew ?_) | (with_reducible refine Below.alloc ?_ ?_ _) | (with_reducible refine Below.setCell ?_ ?_ _) | (with_reducible exact Nat.le_refl _) | omega | (simp only [World.size_alloc, World.size_setCell, World.size_drew, Wov_size, World.heap_drewN]; omega)))), m6_2.below (by (repeat' (first | (with_reducible assumption) | (with_reducible exact Below.refl _ _) | (with_reducible refine below_wov ?_ ?_ _) | (with_reducible refine below_drewN ?_ _) | (with_reducible refine Below.drew ?_) | (with_reducible refine Below.alloc ?_ ?_ _) | (with_reducible refine Below.setCell ?_ ?_ _) | (with_reducible exact Nat.le_refl _) | omega | (simp only [World.size_alloc, World.size_setCell, World.size_drew, Wov_size, World.heap_drewN]; omega)))), m6_3.below (by (repeat' (first | (with_reducible assumption) | (with_reducible exact Below.refl _ _) | (with_reducible refine below_wov ?_ ?_ _) | (with_reducible refine below_drewN ?_ _) | (with_reducible refine Below.drew ?_) | (with_reducible refine Below.alloc ?_ ?_ _) | (with_reducible refine Below.setCell ?_ ?_ _) | (with_reducible exact Nat.le_refl _) | omega | (simp only [World.size_alloc, World.size_setCell, World.size_drew, Wov_size, World.heap_drewN]; omega)))), m6_4.below (by (repeat' (first | (with_reducible assumption) | (with_reducible exact Below.refl _ _) | (with_reducible refine below_wov ?_ ?_ _) | (with_reducible refine below_drewN ?_ _) | (with_reducible refine Below.drew ?_) | (with_reducible refine Below.alloc ?_ ?_ _) | (with_reducible refine Below.setCell ?_ ?_ _) | (with_reducible exact Nat.le_refl _) | omega | (simp only [World.size_alloc, World.size_setCell, World.size_drew, Wov_size, World.heap_drewN]; omega)))), BoxZ.new (by rw [← hAB]; (try simp only [Wov_size]))⟩ ?_
            rintro W7 ⟨hb7, m7_0, m7_1, m7_2, m7_3, m7_4, m7_5⟩
            clear hb6 f6_0_lt f6_0_c0 f6_0_c1 f6_0_c2 f6_0_c3 f6_0_c4 f6_0_c5 f6_1_lt f6_1_c0 f6_1_c1 f6_1_c2 f6_1_c3 f6_1_c4 f6_2_lt f6_2_c0 f6_2_c1 f6_2_c2 f6_2_c3 f6_3_lt f6_3_c0 f6_3_c1 f6_4_lt f6_4_c0 f6_4_c1 f6_4_c2 f6_4_c3 f6_4_c4 f6_4_c5 m6_0 m6_1 m6_2 m6_3 m6_4 hs6
            have hs7 := hb7.size
            have f7_0_lt := m7_0.lt
            have f7_0_c0 := m7_0.c0
            have f7_0_c1 := m7_0.c1
            have f7_0_c2 := m7_0.c2
            have f7_0_c3 := m7_0.c3
            have f7_0_c4 := m7_0.c4
            have f7_0_c5 := m7_0.c5
            have f7_1_lt := m7_1.lt
            have f7_1_c0 := m7_1.c0
            have f7_1_c1 := m7_1.c1
            have f7_1_c2 := m7_1.c2
            have f7_1_c3 := m7_1.c3
            have f7_1_c4 := m7_1.c4
            have f7_2_lt := m7_2.lt
            have f7_2_c0 := m7_2.c0
            have f7_2_c1 := m7_2.c1
            have f7_2_c2 := m7_2.c2
            have f7_2_c3 := m7_2.c3
            have f7_3_lt := m7_3.lt
            have f7_3_c0 := m7_3.c0
            have f7_3_c1 := m7_3.c1
            have f7_4_lt := m7_4.lt
            have f7_4_c0 := m7_4.c0
            have f7_4_c1 := m7_4.c1
            have f7_4_c2 := m7_4.c2
            have f7_4_c3 := m7_4.c3
            have f7_4_c4 := m7_4.c4
            have f7_4_c5 := m7_4.c5
            have f7_5_lt := m7_5.lt
            have f7_5_c0 := m7_5.c0
            have f7_5_c1 := m7_5.c1
            have f7_5_c2 := m7_5.c2
            have f7_5_c3 := m7_5.c3
            have f7_5_c4 := m7_5.c4
            have f7_5_c5 := m7_5.c5
            clear hAB
            simp only [Bool.false_and] at N2
            have N2 := Lib.hid N2
            refine (N2.out _).mono ?_; rintro e w' ⟨rfl, qn, rfl⟩
            go_wp2
            all_goals
              go_ret
              exact gives_bool (by simp) (by (repeat' (first | (with_reducible assumption) | (with_reducible exact Below.refl _ _) | (with_reducible refine below_wov ?_ ?_ _) | (with_reducible refine below_drewN ?_ _) | (with_reducible refine Below.drew ?_) | (with_reducible refine Below.alloc ?_ ?_ _) | (with_reducible refine Below.setCell ?_ ?_ _) | (with_reducible exact Nat.le_refl _) | omega | (simp only [World.size_alloc, World.size_setCell, World.size_drew, Wov_size, World.heap_drewN]; omega))))
          · skip
            by_cases b6 : eb = 6
            · skip
              subst b6
              obtain ⟨k, N1, N3, _⟩ := P2.out (by simp)
              replace N3 := N3 (by simp)
              have N1 := Lib.hid N1
              clear N3
              go_wp2
              all_goals
                go_ret
                exact gives_bool (by simp) (by (repeat' (first | (with_reducible assumption) | (with_reducible exact Below.refl _ _) | (with_reducible refine below_wov ?_ ?_ _) | (with_reducible refine below_drewN ?_ _) | (with_reducible refine Below.drew ?_) | (with_reducible refine Below.alloc ?_ ?_ _) | (with_reducible refine Below.setCell ?_ ?_ _) | (with_reducible exact Nat.le_refl _) | omega | (simp only [World.size_alloc, World.size_setCell, World.size_drew, Wov_size, World.heap_drewN]; omega))))
            · skip
              have bb0 : (eb != 0) = true := by rw [bne_iff_ne]; exact b0
              have bb6 : (eb != 6) = true := by rw [bne_iff_ne]; exact b6
              have bb1 : (eb == 0) = false := by rw [beq_eq_false_iff_ne]; exact b0
              clear P2 b0 b6
              go_wp2
              all_goals
                go_ret
                exact gives_bool (by simp) (by (repeat' (first | (with_reducible assumption) | (with_reducible exact Below.refl _ _) | (with_reducible refine below_wov ?_ ?_ _) | (with_reducible refine below_drewN ?_ _) | (with_reducible refine Below.drew ?_) | (with_reducible refine Below.alloc ?_ ?_ _) | (with_reducible refine Below.setCell ?_ ?_ _) | (with_reducible exact Nat.le_refl _) | omega | (simp only [World.size_alloc, World.size_setCell, World.size_drew, Wov_size, World.heap_drewN]; omega))))
        · skip
          simp only [Bool.true_and]
          go_wp2_with (fail)
          refine calls_world (fun W => Below w.heap.size w W ∧ BoxZ W w.heap.size z ∧ BoxS W (w.heap.size + 1) s.lo s.ls s.hi s.hs s.op ∧ PtAt W (w.heap.size + 2) pa pb pc pd ∧ BoxR W AD d1 d2 ∧ BoxZ W AA ra) ⟨by (repeat' (first | (with_reducible assumption) | (with_reducible exact Below.refl _ _) | (with_reducible refine below_wov ?_ ?_ _) | (with_reducible refine below_drewN ?_ _) | (with_reducible refine Below.drew ?_) | (with_reducible refine Below.alloc ?_ ?_ _) | (with_reducible refine Below.setCell ?_ ?_ _) | (with_reducible exact Nat.le_refl _) | omega | (simp only [World.size_alloc, World.size_setCell, World.size_drew, Wov_size, World.heap_drewN]; omega))), m5_0.below (by (repeat' (first | (with_reducible assumption) | (with_reducible exact Below.refl _ _) | (with_reducible refine below_wov ?_ ?_ _) | (with_reducible refine below_drewN ?_ _) | (with_reducible refine Below.drew ?_) | (with_reducible refine Below.alloc ?_ ?_ _) | (with_reducible refine Below.setCell ?_ ?_ _) | (with_reducible exact Nat.le_refl _) | omega | (simp only [World.size_alloc, World.size_setCell, World.size_drew, Wov_size, World.heap_drewN]; omega)))), m5_1.below (by (repeat' (first | (with_reducible assumption) | (with_reducible exact Below.refl _ _) | (with_reducible refine below_wov ?_ ?_ _) | (with_reducible refine below_drewN ?_ _) | (with_reducible refine Below.drew ?_) | (with_reducible refine Below.alloc ?_ ?_ _) | (with_reducible refine Below.setCell ?_ ?_ _) | (with_reducible exact Nat.le_refl _) | omega | (simp only [World.size_alloc, World.size_setCell, World.size_drew, Wov_size, World.heap_drewN]; omega)))), m5_2.below (by (repeat' (first | (with_reducible assumption) | (with_reducible exact Below.refl _ _) | (with_reducible refine below_wov ?_ ?_ _) | (with_reducible refine below_drewN ?_ _) | (with_reducible refine Below.drew ?_) | (with_reducible refine Below.alloc ?_ ?_ _) | (with_reducible refine Below.setCell ?_ ?_ _) | (with_reducible exact Nat.le_refl _) | omega | (simp only [World.size_alloc, World.size_setCell, World.size_drew, Wov_size, World.heap_drewN]; omega)))), m5_3.below (by (repeat' (first | (with_reducible assumption) | (with_reducible exact Below.refl _ _) | (with_reducible refine below_wov ?_ ?_ _) | (with_reducible refine below_drewN ?_ _) | (with_reducible refine Below.drew ?_) | (with_reducible refine Below.alloc ?_ ?_ _) | (with_reducible refine Below.setCell ?_ ?_ _) | (with_reducible exact Nat.le_refl _) | omega | (simp only [World.size_alloc, World.size_setCell, World.size_drew, Wov_size, World.heap_drewN]; omega)))), m5_4.below (by (repeat' (first | (with_reducible assumption) | (with_reducible exact Below.refl _ _) | (with_reducible refine below_wov ?_ ?_ _) | (with_reducible refine below_drewN ?_ _) | (with_reducible refine Below.drew ?_) | (with_reducible refine Below.alloc ?_ ?_ _) | (with_reducible refine Below.setCell ?_ ?_ _) | (with_reducible exact Nat.le_refl _) | omega | (simp only [World.size_alloc, World.size_setCell, World.size_drew, Wov_size, World.heap_drewN]; omega))))⟩ ?_
          rintro W6 ⟨hb6, m6_0, m6_1, m6_2, m6_3, m6_4⟩
          clear hb5 f5_0_lt f5_0_c0 f5_0_c1 f5_0_c2 f5_0_c3 f5_0_c4 f5_0_c5 f5_1_lt f5_1_c0 f5_1_c1 f5_1_c2 f5_1_c3 f5_1_c4 f5_2_lt f5_2_c0 f5_2_c1 f5_2_c2 f5_2_c3 f5_3_lt f5_3_c0 f5_3_c1 f5_4_lt f5_4_c0 f5_4_c1 f5_4_c2 f5_4_c3 f5_4_c4 f5_4_c5 m5_0 m5_1 m5_2 m5_3 m5_4 hs5
          have hs6 := hb6.size
          have f6_0_lt := m6_0.lt
          have f6_0_c0 := m6_0.c0
          have f6_0_c1 := m6_0.c1
          have f6_0_c2 := m6_0.c2
          have f6_0_c3 := m6_0.c3
          have f6_0_c4 := m6_0.c4
          have f6_0_c5 := m6_0.c5
          have f6_1_lt := m6_1.lt
          have f6_1_c0 := m6_1.c0
          have f6_1_c1 := m6_1.c1
          have f6_1_c2 := m6_1.c2
          have f6_1_c3 := m6_1.c3
          have f6_1_c4 := m6_1.c4
          have f6_2_lt := m6_2.lt
          have f6_2_c0 := m6_2.c0
          have f6_2_c1 := m6_2.c1
          have f6_2_c2 := m6_2.c2
          have f6_2_c3 := m6_2.c3
          have f6_3_lt := m6_3.lt
          have f6_3_c0 := m6_3.c0
          have f6_3_c1 := m6_3.c1
          have f6_4_lt := m6_4.lt
          have f6_4_c0 := m6_4.c0
          have f6_4_c1 := m6_4.c1
          have f6_4_c2 := m6_4.c2
          have f6_4_c3 := m6_4.c3
          have f6_4_c4 := m6_4.c4
          have f6_4_c5 := m6_4.c5
          refine (M1.out _).mono ?_; rintro e w' ⟨rfl, qm0, rfl⟩
          go_wp2_with (fail)
          refine calls_world (fun W => Below w.heap.size w W ∧ BoxZ W w.heap.size z ∧ BoxS W (w.heap.size + 1) s.lo s.ls s.hi s.hs s.op ∧ PtAt W (w.heap.size + 2) pa pb pc pd ∧ BoxR W AD d1 d2 ∧ BoxZ W AA ra) ⟨by (repeat' (first | (with_reducible assumption) | (with_reducible exact Below.refl _ _) | (with_reducible refine below_wov ?_ ?_ _) | (with_reducible refine below_drewN ?_ _) | (with_reducible refine Below.drew ?_) | (with_reducible refine Below.alloc ?_ ?_ _) | (with_reducible refine Below.setCell ?_ ?_ _) | (with_reducible exact Nat.le_refl _) | omega | (simp only [World.size_alloc, World.size_setCell, World.size_drew, Wov_size, World.heap_drewN]; omega))), m6_0.below (by (repeat' (first | (with_reducible assumption) | (with_reducible exact Below.refl _ _) | (with_reducible refine below_wov ?_ ?_ _) | (with_reducible refine below_drewN ?_ _) | (with_reducible refine Below.drew ?_) | (with_reducible refine Below.alloc ?_ ?_ _) | (with_reducible refine Below.setCell ?_ ?_ _) | (with_reducible exact Nat.le_refl _) | omega | (simp only [World.size_alloc, World.size_setCell, World.size_drew, Wov_size, World.heap_drewN]; omega)))), m6_1.below (by (repeat' (first | (with_reducible assumption) | (with_reducible exact Below.refl _ _) | (with_reducible refine below_wov ?_ ?_ _) | (with_reducible refine below_drewN ?_ _) | (with_reducible refine Below.drew ?_) | (with_reducible refine Below.alloc ?_ ?_ _) | (with_reducible refine Below.setCell ?_ ?_ _) | (with_reducible exact Nat.le_refl _) | omega | (simp only [World.size_alloc, World.size_setCell, World.size_drew, Wov_size, World.heap_drewN]; omega)))), m6_2.below (by (repeat' (first | (with_reducible assumption) | (with_reducible exact Below.refl _ _) | (with_reducible refine below_wov ?_ ?_ _) | (with_reducible refine below_drewN ?_ _) | (with_reducible refine Below.drew ?_) | (with_reducible refine Below.alloc ?_ ?_ _) | (with_reducible refine Below.setCell ?_ ?_ _) | (with_reducible exact Nat.le_refl _) | omega | (simp only [World.size_alloc, World.size_setCell, World.size_drew, Wov_size, World.heap_drewN]; omega)))), m6_3.below (by (repeat' (first | (with_reducible assumption) | (with_reducible exact Below.refl _ _) | (with_reducible refine below_wov ?_ ?_ _) | (with_reducible refine below_drewN ?_ _) | (with_reducible refine Below.drew ?_) | (with_reducible refine Below.alloc ?_ ?_ _) | (with_reducible refine Below.setCell ?_ ?_ _) | (with_reducible exact Nat.le_refl _) | omega | (simp only [World.size_alloc, World.size_setCell, World.size_drew, Wov_size, World.heap_drewN]; omega)))), m6_4.below (by (repeat' (first | (with_reducible assumption) | (with_reducible exact Below.refl _ _) | (with_reducible refine below_wov ?_ ?_ _) | (with_reducible refine below_drewN ?_ _) | (with_reducible refine Below.drew ?_) | (with_reducible refine Below.alloc ?_ ?_ _) | (with_reducible refine Below.setCell ?_ ?_ _) | (with_reducible exact Nat.le_refl _) | omega | (simp only [World.size_alloc, World.size_setCell, World.size_drew, Wov_size, World.heap_drewN]; omega))))⟩ ?_
          rintro W7 ⟨hb7, m7_0, m7_1, m7_2, m7_3, m7_4⟩
          clear hb6 f6_0_lt f6_0_c0 f6_0_c1 f6_0_c2 f6_0_c3 f6_0_c4 f6_0_c5 f6_1_lt f6_1_c0 f6_1_c1 f6_1_c2 f6_1_c3 f6_1_c4 f6_2_lt f6_2_c0 f6_2_c1 f6_2_c2 f6_2_c3 f6_3_lt f6_3_c0 f6_3_c1 f6_4_lt f6_4_c0 f6_4_c1 f6_4_c2 f6_4_c3 f6_4_c4 f6_4_c5 m6_0 m6_1 m6_2 m6_3 m6_4 hs6
          have hs7 := hb7.size
          have f7_0_lt := m7_0.lt
          have f7_0_c0 := m7_0.c0
          have f7_0_c1 := m7_0.c1
          have f7_0_c2 := m7_0.c2
          have f7_0_c3 := m7_0.c3
          have f7_0_c4 := m7_0.c4
          have f7_0_c5 := m7_0.c5
          have f7_1_lt := m7_1.lt
          have f7_1_c0 := m7_1.c0
          have f7_1_c1 := m7_1.c1
          have f7_1_c2 := m7_1.c2
          have f7_1_c3 := m7_1.c3
          have f7_1_c4 := m7_1.c4
          have f7_2_lt := m7_2.lt
          have f7_2_c0 := m7_2.c0
          have f7_2_c1 := m7_2.c1
          have f7_2_c2 := m7_2.c2
          have f7_2_c3 := m7_2.c3
          have f7_3_lt := m7_3.lt
          have f7_3_c0 := m7_3.c0
          have f7_3_c1 := m7_3.c1
          have f7_4_lt := m7_4.lt
          have f7_4_c0 := m7_4.c0
          have f7_4_c1 := m7_4.c1
          have f7_4_c2 := m7_4.c2
          have f7_4_c3 := m7_4.c3
          have f7_4_c4 := m7_4.c4
          have f7_4_c5 := m7_4.c5
          refine (Cb.out _).mono ?_; rintro e w' ⟨rfl, qb, rfl⟩
          by_cases b0 : eb = 0
          · skip
            subst b0
            obtain ⟨k, N1, _, N2⟩ := P2.out (by simp)
            replace N2 := N2 (by simp)
            have N1 := Lib.hid N1
            go_wp2_with (fail)
            obtain ⟨AB, hAB⟩ : ∃ A, W7.heap.size + qb.bl.size = A := ⟨_, rfl⟩
            rw [hAB]
            refine calls_world (fun W => Below w.heap.size w W ∧ BoxZ W w.heap.size z ∧ BoxS W (w.heap.size + 1) s.lo s.ls s.hi s.hs s.op ∧ PtAt W (w.heap.size + 2) pa pb pc pd ∧ BoxR W AD d1 d2 ∧ BoxZ W AA ra ∧ BoxZ W AB rb) ⟨by (repeat' (first | (with_reducible assumption) | (with_reducible exact Below.refl _ _) | (with_reducible refine below_wov ?_ ?_ _) | (with_reducible refine below_drewN ?_ _) | (with_reducible refine Below.drew ?_) | (with_reducible refine Below.alloc ?_ ?_ _) | (with_reducible refine Below.setCell ?_ ?_ _) | (with_reducible exact Nat.le_refl _) | omega | (simp only [World.size_alloc, World.size_setCell, World.size_drew, Wov_size, World.heap_drewN]; omega))), m7_0.below (by (repeat' (first | (with_reducible assumption) | (with_reducible exact Below.refl _ _) | (with_reducible refine below_wov ?_ ?_ _) | (with_reducible refine below_drewN ?_ _) | (with_reducible refine Below.drew ?_) | (with_reducible refine Below.alloc ?_ ?_ _) | (with_reducible refine Below.setCell ?_ ?_ _) | (with_reducible exact Nat.le_refl _) | omega | (simp only [World.size_alloc, World.size_setCell, World.size_drew, Wov_size, World.heap_drewN]; omega)))), m7_1.below (by (repeat' (first | (with_reducible assumption) | (with_reducible exact Below.refl _ _) | (with_reducible refine below_wov ?_ ?_ _) | (with_reducible refine below_drewN ?_ _) | (with_reducible refine Below.drew ?_) | (with_reducible refine Below.alloc ?_ ?_ _) | (with_reducible refine Below.setCell ?_ ?_ _) | (with_reducible exact Nat.le_refl _) | omega | (simp only [World.size_alloc, World.size_setCell, World.size_drew, Wov_size, World.heap_drewN]; omega)))), m7_2.below (by (repeat' (first | (with_reducible assumption) | (with_reducible exact Below.refl _ _) | (with_reducible refine below_wov ?_ ?_ _) | (with_reducible refine below_drewN ?_ _) | (with_reducible refine Below.drew ?_) | (with_reducible refine Below.alloc ?_ ?_ _) | (with_reducible refine Below.setCell ?_ ?_ _) | (with_reducible exact Nat.le_refl _) | omega | (simp only [World.size_alloc, World.size_setCell, World.size_drew, Wov_size, World.heap_drewN]; omega)))), m7_3.below (by (repeat' (first | (with_reducible assumption) | (with_reducible exact Below.refl _ _) | (with_reducible refine below_wov ?_ ?_ _) | (with_reducible refine below_drewN ?_ _) | (with_reducible refine Below.drew ?_) | (with_reducible refine Below.alloc ?_ ?_ _) | (with_reducible refine Below.setCell ?_ ?_ _) | (with_reducible exact Nat.le_refl _) | omega | (simp only [World.size_alloc, World.size_setCell, World.size_drew, Wov_size, World.heap_drewN]; omega)))), m7_4.below (by (repeat' (first | (with_reducible assumption) | (with_reducible exact Below.refl _ _) | (with_reducible refine below_wov ?_ ?_ _) | (with_reducible refine below_drewN ?_ _) | (with_reducible refine Below.drew ?_) | (with_reducible refine Below.alloc ?_ ?_ _) | (with_reducible refine Below.setCell ?_ ?_ _) | (with_reducible exact Nat.le_refl _) | omega | (simp only [World.size_alloc, World.size_setCell, World.size_drew, Wov_size, World.heap_drewN]; omega)))), BoxZ.new (by rw [← hAB]; (try simp only [Wov_size]))⟩ ?_
            rintro W8 ⟨hb8, m8_0, m8_1, m8_2, m8_3, m8_4, m8_5⟩
            clear hb7 f7_0_lt f7_0_c0 f7_0_c1 f7_0_c2 f7_0_c3 f7_0_c4 f7_0_c5 f7_1_lt f7_1_c0 f7_1_c1 f7_1_c2 f7_1_c3 f7_1_c4 f7_2_lt f7_2_c0 f7_2_c1 f7_2_c2 f7_2_c3 f7_3_lt f7_3_c0 f7_3_c1 f7_4_lt f7_4_c0 f7_4_c1 f7_4_c2 f7_4_c3 f7_4_c4 f7_4_c5 m7_0 m7_1 m7_2 m7_3 m7_4 hs7
            have hs8 := hb8.size
            have f8_0_lt := m8_0.lt
            have f8_0_c0 := m8_0.c0
            have f8_0_c1 := m8_0.c1
            have f8_0_c2 := m8_0.c2
            have f8_0_c3 := m8_0.c3
            have f8_0_c4 := m8_0.c4
            have f8_0_c5 := m8_0.c5
            have f8_1_lt := m8_1.lt
            have f8_1_c0 := m8_1.c0
            have f8_1_c1 := m8_1.c1
            have f8_1_c2 := m8_1.c2
            have f8_1_c3 := m8_1.c3
            have f8_1_c4 := m8_1.c4
            have f8_2_lt := m8_2.lt
            have f8_2_c0 := m8_2.c0
            have f8_2_c1 := m8_2.c1
            have f8_2_c2 := m8_2.c2
            have f8_2_c3 := m8_2.c3
            have f8_3_lt := m8_3.lt
            have f8_3_c0 := m8_3.c0
            have f8_3_c1 := m8_3.c1
            have f8_4_lt := m8_4.lt
            have f8_4_c0 := m8_4.c0
            have f8_4_c1 := m8_4.c1
            have f8_4_c2 := m8_4.c2
            have f8_4_c3 := m8_4.c3
            have f8_4_c4 := m8_4.c4
            have f8_4_c5 := m8_4.c5
            have f8_5_lt := m8_5.lt
            have f8_5_c0 := m8_5.c0
            have f8_5_c1 := m8_5.c1
            have f8_5_c2 := m8_5.c2
            have f8_5_c3 := m8_5.c3
            have f8_5_c4 := m8_5.c4
            have f8_5_c5 := m8_5.c5
            clear hAB
            simp only [Bool.true_and] at N2
            have N2 := Lib.hid N2
            refine (N2.out _).mono ?_; rintro e w' ⟨rfl, qn, rfl⟩
            go_wp2_with (fail)
            refine calls_world (fun W => Below w.heap.size w W ∧ BoxZ W w.heap.size z ∧ BoxS W (w.heap.size + 1) s.lo s.ls s.hi s.hs s.op ∧ PtAt W (w.heap.size + 2) pa pb pc pd ∧ BoxR W AD d1 d2 ∧ BoxZ W AA ra ∧ BoxZ W AB rb) ⟨by (repeat' (first | (with_reducible assumption) | (with_reducible exact Below.refl _ _) | (with_reducible refine below_wov ?_ ?_ _) | (with_reducible refine below_drewN ?_ _) | (with_reducible refine Below.drew ?_) | (with_reducible refine Below.alloc ?_ ?_ _) | (with_reducible refine Below.setCell ?_ ?_ _) | (with_reducible exact Nat.le_refl _) | omega | (simp only [World.size_alloc, World.size_setCell, World.size_drew, Wov_size, World.heap_drewN]; omega))), m8_0.below (by (repeat' (first | (with_reducible assumption) | (with_reducible exact Below.refl _ _) | (with_reducible refine below_wov ?_ ?_ _) | (with_reducible refine below_drewN ?_ _) | (with_reducible refine Below.drew ?_) | (with_reducible refine Below.alloc ?_ ?_ _) | (with_reducible refine Below.setCell ?_ ?_ _) | (with_reducible exact Nat.le_refl _) | omega | (simp only [World.size_alloc, World.size_setCell, World.size_drew, Wov_size, World.heap_drewN]; omega)))), m8_1.below (by (repeat' (first | (with_reducible assumption) | (with_reducible exact Below.refl _ _) | (with_reducible refine below_wov ?_ ?_ _) | (with_reducible refine below_drewN ?_ _) | (with_reducible refine Below.drew ?_) | (with_reducible refine Below.alloc ?_ ?_ _) | (with_reducible refine Below.setCell ?_ ?_ _) | (with_reducible exact Nat.le_refl _) | omega | (simp only [World.size_alloc, World.size_setCell, World.size_drew, Wov_size, World.heap_drewN]; omega)))), m8_2.below (by (repeat' (first | (with_reducible assumption) | (with_reducible exact Below.refl _ _) | (with_reducible refine below_wov ?_ ?_ _) | (with_reducible refine below_drewN ?_ _) | (with_reducible refine Below.drew ?_) | (with_reducible refine Below.alloc ?_ ?_ _) | (with_reducible refine Below.setCell ?_ ?_ _) | (with_reducible exact Nat.le_refl _) | omega | (simp only [World.size_alloc, World.size_setCell, World.size_drew, Wov_size, World.heap_drewN]; omega)))), m8_3.below (by (repeat' (first | (with_reducible assumption) | (with_reducible exact Below.refl _ _) | (with_reducible refine below_wov ?_ ?_ _) | (with_reducible refine below_drewN ?_ _) | (with_reducible refine Below.drew ?_) | (with_reducible refine Below.alloc ?_ ?_ _) | (with_reducible refine Below.setCell ?_ ?_ _) | (with_reducible exact Nat.le_refl _) | omega | (simp only [World.size_alloc, World.size_setCell, World.size_drew, Wov_size, World.heap_drewN]; omega)))), m8_4.below (by (repeat' (first | (with_reducible assumption) | (with_reducible exact Below.refl _ _) | (with_reducible refine below_wov ?_ ?_ _) | (with_reducible refine below_drewN ?_ _) | (with_reducible refine Below.drew ?_) | (with_reducible refine Below.alloc ?_ ?_ _) | (with_reducible refine Below.setCell ?_ ?_ _) | (with_reducible exact Nat.le_refl _) | omega | (simp only [World.size_alloc, World.size_setCell, World.size_drew, Wov_size, World.heap_drewN]; omega)))), m8_5.below (by (repeat' (first | (with_reducible assumption) | (with_reducible exact Below.refl _ _) | (with_reducible refine below_wov ?_ ?_ _) | (with_reducible refine below_drewN ?_ _) | (with_reducible refine Below.drew ?_) | (with_reducible refine Below.alloc ?_ ?_ _) | (with_reducible refine Below.setCell ?_ ?_ _) | (with_reducible exact Nat.le_refl _) | omega | (simp only [World.size_alloc, World.size_setCell, World.size_drew, Wov_size, World.heap_drewN]; omega))))⟩ ?_
            rintro W9 ⟨hb9, m9_0, m9_1, m9_2, m9_3, m9_4, m9_5⟩
            clear hb8 f8_0_lt f8_0_c0 f8_0_c1 f8_0_c2 f8_0_c3 f8_0_c4 f8_0_c5 f8_1_lt f8_1_c0 f8_1_c1 f8_1_c2 f8_1_c3 f8_1_c4 f8_2_lt f8_2_c0 f8_2_c1 f8_2_c2 f8_2_c3 f8_3_lt f8_3_c0 f8_3_c1 f8_4_lt f8_4_c0 f8_4_c1 f8_4_c2 f8_4_c3 f8_4_c4 f8_4_c5 f8_5_lt f8_5_c0 f8_5_c1 f8_5_c2 f8_5_c3 f8_5_c4 f8_5_c5 m8_0 m8_1 m8_2 m8_3 m8_4 m8_5 hs8
            have hs9 := hb9.size
            have f9_0_lt := m9_0.lt
            have f9_0_c0 := m9_0.c0
            have f9_0_c1 := m9_0.c1
            have f9_0_c2 := m9_0.c2
            have f9_0_c3 := m9_0.c3
            have f9_0_c4 := m9_0.c4
            have f9_0_c5 := m9_0.c5
            have f9_1_lt := m9_1.lt
            have f9_1_c0 := m9_1.c0
            have f9_1_c1 := m9_1.c1
            have f9_1_c2 := m9_1.c2
            have f9_1_c3 := m9_1.c3
            have f9_1_c4 := m9_1.c4
            have f9_2_lt := m9_2.lt
            have f9_2_c0 := m9_2.c0
            have f9_2_c1 := m9_2.c1
            have f9_2_c2 := m9_2.c2
            have f9_2_c3 := m9_2.c3
            have f9_3_lt := m9_3.lt
            have f9_3_c0 := m9_3.c0
            have f9_3_c1 := m9_3.c1
            have f9_4_lt := m9_4.lt
            have f9_4_c0 := m9_4.c0
            have f9_4_c1 := m9_4.c1
            have f9_4_c2 := m9_4.c2
            have f9_4_c3 := m9_4.c3
            have f9_4_c4 := m9_4.c4
            have f9_4_c5 := m9_4.c5
            have f9_5_lt := m9_5.lt
            have f9_5_c0 := m9_5.c0
            have f9_5_c1 := m9_5.c1
            have f9_5_c2 := m9_5.c2
            have f9_5_c3 := m9_5.c3
            have f9_5_c4 := m9_5.c4
            have f9_5_c5 := m9_5.c5
            refine (N1.out _).mono ?_; rintro e w' ⟨rfl, qm, rfl⟩
            go_wp2
            all_goals
              go_ret
              exact gives_bool (by simp) (by (repeat' (first | (with_reducible assumption) | (with_reducible exact Below.refl _ _) | (with_reducible refine below_wov ?_ ?_ _) | (with_reducible refine below_drewN ?_ _) | (with_reducible refine Below.drew ?_) | (with_reducible refine Below.alloc ?_ ?_ _) | (with_reducible refine Below.setCell ?_ ?_ _) | (with_reducible exact Nat.le_refl _) | omega | (simp only [World.size_alloc, World.size_setCell, World.size_drew, Wov_size, World.heap_drewN]; omega))))
          · skip
            by_cases b6 : eb = 6
            · skip
              subst b6
              obtain ⟨k, N1, N3, _⟩ := P2.out (by simp)
              replace N3 := N3 (by simp)
              have N1 := Lib.hid N1
              simp only [Bool.true_and] at N3
              subst N3
              go_wp2_with (fail)
              refine calls_world (fun W => Below w.heap.size w W ∧ BoxZ W w.heap.size z ∧ BoxS W (w.heap.size + 1) s.lo s.ls s.hi s.hs s.op ∧ PtAt W (w.heap.size + 2) pa pb pc pd ∧ BoxR W AD d1 d2 ∧ BoxZ W AA ra) ⟨by (repeat' (first | (with_reducible assumption) | (with_reducible exact Below.refl _ _) | (with_reducible refine below_wov ?_ ?_ _) | (with_reducible refine below_drewN ?_ _) | (with_reducible refine Below.drew ?_) | (with_reducible refine Below.alloc ?_ ?_ _) | (with_reducible refine Below.setCell ?_ ?_ _) | (with_reducible exact Nat.le_refl _) | omega | (simp only [World.size_alloc, World.size_setCell, World.size_drew, Wov_size, World.heap_drewN]; omega))), m7_0.below (by (repeat' (first | (with_reducible assumption) | (with_reducible exact Below.refl _ _) | (with_reducible refine below_wov ?_ ?_ _) | (with_reducible refine below_drewN ?_ _) | (with_reducible refine Below.drew ?_) | (with_reducible refine Below.alloc ?_ ?_ _) | (with_reducible refine Below.setCell ?_ ?_ _) | (with_reducible exact Nat.le_refl _) | omega | (simp only [World.size_alloc, World.size_setCell, World.size_drew, Wov_size, World.heap_drewN]; omega)))), m7_1.below (by (repeat' (first | (with_reducible assumption) | (with_reducible exact Below.refl _ _) | (with_reducible refine below_wov ?_ ?_ _) | (with_reducible refine below_drewN ?_ _) | (with_reducible refine Below.drew ?_) | (with_reducible refine Below.alloc ?_ ?_ _) | (with_reducible refine Below.setCell ?_ ?_ _) | (with_reducible exact Nat.le_refl _) | omega | (simp only [World.size_alloc, World.size_setCell, World.size_drew, Wov_size, World.heap_drewN]; omega)))), m7_2.below (by (repeat' (first | (with_reducible assumption) | (with_reducible exact Below.refl _ _) | (with_reducible refine below_wov ?_ ?_ _) | (with_reducible refine below_drewN ?_ _) | (with_reducible refine Below.drew ?_) | (with_reducible refine Below.alloc ?_ ?_ _) | (with_reducible refine Below.setCell ?_ ?_ _) | (with_reducible exact Nat.le_refl _) | omega | (simp only [World.size_alloc, World.size_setCell, World.size_drew, Wov_size, World.heap_drewN]; omega)))), m7_3.below (by (repeat' (first | (with_reducible assumption) | (with_reducible exact Below.refl _ _) | (with_reducible refine below_wov ?_ ?_ _) | (with_reducible refine below_drewN ?_ _) | (with_reducible refine Below.drew ?_) | (with_reducible refine Below.alloc ?_ ?_ _) | (with_reducible refine Below.setCell ?_ ?_ _) | (with_reducible exact Nat.le_refl _) | omega | (simp only [World.size_alloc, World.size_setCell, World.size_drew, Wov_size, World.heap_drewN]; omega)))), m7_4.below (by (repeat' (first | (with_reducible assumption) | (with_reducible exact Below.refl _ _) | (with_reducible refine below_wov ?_ ?_ _) | (with_reducible refine below_drewN ?_ _) | (with_reducible refine Below.drew ?_) | (with_reducible refine Below.alloc ?_ ?_ _) | (with_reducible refine Below.setCell ?_ ?_ _) | (with_reducible exact Nat.le_refl _) | omega | (simp only [World.size_alloc, World.size_setCell, World.size_drew, Wov_size, World.heap_drewN]; omega))))⟩ ?_
              rintro W8 ⟨hb8, m8_0, m8_1, m8_2, m8_3, m8_4⟩
              clear hb7 f7_0_lt f7_0_c0 f7_0_c1 f7_0_c2 f7_0_c3 f7_0_c4 f7_0_c5 f7_1_lt f7_1_c0 f7_1_c1 f7_1_c2 f7_1_c3 f7_1_c4 f7_2_lt f7_2_c0 f7_2_c1 f7_2_c2 f7_2_c3 f7_3_lt f7_3_c0 f7_3_c1 f7_4_lt f7_4_c0 f7_4_c1 f7_4_c2 f7_4_c3 f7_4_c4 f7_4_c5 m7_0 m7_1 m7_2 m7_3 m7_4 hs7
              have hs8 := hb8.size
              have f8_0_lt := m8_0.lt
              have f8_0_c0 := m8_0.c0
              have f8_0_c1 := m8_0.c1
              have f8_0_c2 := m8_0.c2
              have f8_0_c3 := m8_0.c3
              have f8_0_c4 := m8_0.c4
              have f8_0_c5 := m8_0.c5
              have f8_1_lt := m8_1.lt
              have f8_1_c0 := m8_1.c0
              have f8_1_c1 := m8_1.c1
              have f8_1_c2 := m8_1.c2
              have f8_1_c3 := m8_1.c3
              have f8_1_c4 := m8_1.c4
              have f8_2_lt := m8_2.lt
              have f8_2_c0 := m8_2.c0
              have f8_2_c1 := m8_2.c1
              have f8_2_c2 := m8_2.c2
              have f8_2_c3 := m8_2.c3
              have f8_3_lt := m8_3.lt
              have f8_3_c0 := m8_3.c0
              have f8_3_c1 := m8_3.c1
              have f8_4_lt := m8_4.lt
              have f8_4_c0 := m8_4.c0
              have f8_4_c1 := m8_4.c1
              have f8_4_c2 := m8_4.c2
              have f8_4_c3 := m8_4.c3
              have f8_4_c4 := m8_4.c4
              have f8_4_c5 := m8_4.c5
              refine (N1.out _).mono ?_; rintro e w' ⟨rfl, qm, rfl⟩
              go_wp2
              all_goals
                go_ret
                exact gives_bool (by simp) (by (repeat' (first | (with_reducible assumption) | (with_reducible exact Below.refl _ _) | (with_reducible refine below_wov ?_ ?_ _) | (with_reducible refine below_drewN ?_ _) | (with_reducible refine Below.drew ?_) | (with_reducible refine Below.alloc ?_ ?_ _) | (with_reducible refine Below.setCell ?_ ?_ _) | (with_reducible exact Nat.le_refl _) | omega | (simp only [World.size_alloc, World.size_setCell, World.size_drew, Wov_size, World.heap_drewN]; omega))))
            · skip
              have bb0 : (eb != 0) = true := by rw [bne_iff_ne]; exact b0
              have bb6 : (eb != 6) = true := by rw [bne_iff_ne]; exact b6
              have bb1 : (eb == 0) = false := by rw [beq_eq_false_iff_ne]; exact b0
              clear P2 b0 b6
              go_wp2
              all_goals
                go_ret
                exact gives_bool (by simp) (by (repeat' (first | (with_reducible assumption) | (with_reducible exact Below.refl _ _) | (with_reducible refine below_wov ?_ ?_ _) | (with_reducible refine below_drewN ?_ _) | (with_reducible refine Below.drew ?_) | (with_reducible refine Below.alloc ?_ ?_ _) | (with_reducible refine Below.setCell ?_ ?_ _) | (with_reducible exact Nat.le_refl _) | omega | (simp only [World.size_alloc, World.size_setCell, World.size_drew, Wov_size, World.heap_drewN]; omega))))
      · skip
        by_cases a6 : ea = 6
        · skip
          subst a6
          obtain ⟨k, M1, M3, _⟩ := P1.out (by simp)
          replace M3 := M3 (by simp)
          have M1 := Lib.hid M1
          clear P1
          cases one
          · skip
            clear M3
            go_wp2_with (fail)
            obtain ⟨AA, hAA⟩ : ∃ A, W4.heap.size + qa.bl.size = A := ⟨_, rfl⟩
            rw [hAA]
            refine calls_world (fun W => Below w.heap.size w W ∧ BoxZ W w.heap.size z ∧ BoxS W (w.heap.size + 1) s.lo s.ls s.hi s.hs s.op ∧ PtAt W (w.heap.size + 2) pa pb pc pd ∧ BoxR W AD d1 d2 ∧ BoxZ W AA ra) ⟨by (repeat' (first | (with_reducible assumption) | (with_reducible exact Below.refl _ _) | (with_reducible refine below_wov ?_ ?_ _) | (with_reducible refine below_drewN ?_ _) | (with_reducible refine Below.drew ?_) | (with_reducible refine Below.alloc ?_ ?_ _) | (with_reducible refine Below.setCell ?_ ?_ _) | (with_reducible exact Nat.le_refl _) | omega | (simp only [World.size_alloc, World.size_setCell, World.size_drew, Wov_size, World.heap_drewN]; omega))), m4_0.below (by (repeat' (first | (with_reducible assumption) | (with_reducible exact Below.refl _ _) | (with_reducible refine below_wov ?_ ?_ _) | (with_reducible refine below_drewN ?_ _) | (with_reducible refine Below.drew ?_) | (with_reducible refine Below.alloc ?_ ?_ _) | (with_reducible refine Below.setCell ?_ ?_ _) | (with_reducible exact Nat.le_refl _) | omega | (simp only [World.size_alloc, World.size_setCell, World.size_drew, Wov_size, World.heap_drewN]; omega)))), m4_1.below (by (repeat' (first | (with_reducible assumption) | (with_reducible exact Below.refl _ _) | (with_reducible refine below_wov ?_ ?_ _) | (with_reducible refine below_drewN ?_ _) | (with_reducible refine Below.drew ?_) | (with_reducible refine Below.alloc ?_ ?_ _) | (with_reducible refine Below.setCell ?_ ?_ _) | (with_reducible exact Nat.le_refl _) | omega | (simp only [World.size_alloc, World.size_setCell, World.size_drew, Wov_size, World.heap_drewN]; omega)))), m4_2.below (by (repeat' (first | (with_reducible assumption) | (with_reducible exact Below.refl _ _) | (with_reducible refine below_wov ?_ ?_ _) | (with_reducible refine below_drewN ?_ _) | (with_reducible refine Below.drew ?_) | (with_reducible refine Below.alloc ?_ ?_ _) | (with_reducible refine Below.setCell ?_ ?_ _) | (with_reducible exact Nat.le_refl _) | omega | (simp only [World.size_alloc, World.size_setCell, World.size_drew, Wov_size, World.heap_drewN]; omega)))), m4_3.below (by (repeat' (first | (with_reducible assumption) | (with_reducible exact Below.refl _ _) | (with_reducible refine below_wov ?_ ?_ _) | (with_reducible refine below_drewN ?_ _) | (with_reducible refine Below.drew ?_) | (with_reducible refine Below.alloc ?_ ?_ _) | (with_reducible refine Below.setCell ?_ ?_ _) | (with_reducible exact Nat.le_refl _) | omega | (simp only [World.size_alloc, World.size_setCell, World.size_drew, Wov_size, World.heap_drewN]; omega)))), BoxZ.new (by rw [← hAA]; (try simp only [Wov_size]))⟩ ?_
            rintro W5 ⟨hb5, m5_0, m5_1, m5_2, m5_3, m5_4⟩
            clear hb4 f4_0_lt f4_0_c0 f4_0_c1 f4_0_c2 f4_0_c3 f4_0_c4 f4_0_c5 f4_1_lt f4_1_c0 f4_1_c1 f4_1_c2 f4_1_c3 f4_1_c4 f4_2_lt f4_2_c0 f4_2_c1 f4_2_c2 f4_2_c3 f4_3_lt f4_3_c0 f4_3_c1 m4_0 m4_1 m4_2 m4_3 hs4
            have hs5 := hb5.size
            have f5_0_lt := m5_0.lt
            have f5_0_c0 := m5_0.c0
            have f5_0_c1 := m5_0.c1
            have f5_0_c2 := m5_0.c2
            have f5_0_c3 := m5_0.c3
            have f5_0_c4 := m5_0.c4
            have f5_0_c5 := m5_0.c5
            have f5_1_lt := m5_1.lt
            have f5_1_c0 := m5_1.c0
            have f5_1_c1 := m5_1.c1
            have f5_1_c2 := m5_1.c2
            have f5_1_c3 := m5_1.c3
            have f5_1_c4 := m5_1.c4
            have f5_2_lt := m5_2.lt
            have f5_2_c0 := m5_2.c0
            have f5_2_c1 := m5_2.c1
            have f5_2_c2 := m5_2.c2
            have f5_2_c3 := m5_2.c3
            have f5_3_lt := m5_3.lt
            have f5_3_c0 := m5_3.c0
            have f5_3_c1 := m5_3.c1
            have f5_4_lt := m5_4.lt
            have f5_4_c0 := m5_4.c0
            have f5_4_c1 := m5_4.c1
            have f5_4_c2 := m5_4.c2
            have f5_4_c3 := m5_4.c3
            have f5_4_c4 := m5_4.c4
            have f5_4_c5 := m5_4.c5
            clear hAA
            refine (Cb.out _).mono ?_; rintro e w' ⟨rfl, qb, rfl⟩
            by_cases b0 : eb = 0
            · skip
              subst b0
              obtain ⟨k, N1, _, N2⟩ := P2.out (by simp)
              replace N2 := N2 (by simp)
              have N1 := Lib.hid N1
              go_wp2_with (fail)
              obtain ⟨AB, hAB⟩ : ∃ A, W5.heap.size + qb.bl.size = A := ⟨_, rfl⟩
              rw [hAB]
              refine calls_world (fun W => Below w.heap.size w W ∧ BoxZ W w.heap.size z ∧ BoxS W (w.heap.size + 1) s.lo s.ls s.hi s.hs s.op ∧ PtAt W (w.heap.size + 2) pa pb pc pd ∧ BoxR W AD d1 d2 ∧ BoxZ W AA ra ∧ BoxZ W AB rb) ⟨by (repeat' (first | (with_reducible assumption) | (with_reducible exact Below.refl _ _) | (with_reducible refine below_wov ?_ ?_ _) | (with_reducible refine below_drewN ?_ _) | (with_reducible refine Below.drew ?_) | (with_reducible refine Below.alloc ?_ ?_ _) | (with_reducible refine Below.setCell ?_ ?_ _) | (with_reducible exact Nat.le_refl _) | omega | (simp only [World.size_alloc, World.size_setCell, World.size_drew, Wov_size, World.heap_drewN]; omega))), m5_0.below (by (repeat' (first | (with_reducible assumption) | (with_reducible exact Below.refl _ _) | (with_reducible refine below_wov ?_ ?_ _) | (with_reducible refine below_drewN ?_ _) | (with_reducible refine Below.drew ?_) | (with_reducible refine Below.alloc ?_ ?_ _) | (with_reducible refine Below.setCell ?_ ?_ _) | (with_reducible exact Nat.le_refl _) | omega | (simp only [World.size_alloc, World.size_setCell, World.size_drew, Wov_size, World.heap_drewN]; omega)))), m5_1.below (by (repeat' (first | (with_reducible assumption) | (with_reducible exact Below.refl _ _) | (with_reducible refine below_wov ?_ ?_ _) | (with_reducible refine below_drewN ?_ _) | (with_reducible refine Below.drew ?_) | (with_reducible refine Below.alloc ?_ ?_ _) | (with_reducible refine Below.setCell ?_ ?_ _) | (with_reducible exact Nat.le_refl _) | omega | (simp only [World.size_alloc, World.size_setCell, World.size_drew, Wov_size, World.heap_drewN]; omega)))), m5_2.below (by (repeat' (first | (with_reducible assumption) | (with_reducible exact Below.refl _ _) | (with_reducible refine below_wov ?_ ?_ _) | (with_reducible refine below_drewN ?_ _) | (with_reducible refine Below.drew ?_) | (with_reducible refine Below.alloc ?_ ?_ _) | (with_reducible refine Below.setCell ?_ ?_ _) | (with_reducible exact Nat.le_refl _) | omega | (simp only [World.size_alloc, World.size_setCell, World.size_drew, Wov_size, World.heap_drewN]; omega)))), m5_3.below (by (repeat' (first | (with_reducible assumption) | (with_reducible exact Below.refl _ _) | (with_reducible refine below_wov ?_ ?_ _) | (with_reducible refine below_drewN ?_ _) | (with_reducible refine Below.drew ?_) | (with_reducible refine Below.alloc ?_ ?_ _) | (with_reducible refine Below.setCell ?_ ?_ _) | (with_reducible exact Nat.le_refl _) | omega | (simp only [World.size_alloc, World.size_setCell, World.size_drew, Wov_size, World.heap_drewN]; omega)))), m5_4.below (by (repeat' (first | (with_reducible assumption) | (with_reducible exact Below.refl _ _) | (with_reducible refine below_wov ?_ ?_ _) | (with_reducible refine below_drewN ?_ _) | (with_reducible refine Below.drew ?_) | (with_reducible refine Below.alloc ?_ ?_ _) | (with_reducible refine Below.setCell ?_ ?_ _) | (with_reducible exact Nat.le_refl _) | omega | (simp only [World.size_alloc, World.size_setCell, World.size_drew, Wov_size, World.heap_drewN]; omega)))), BoxZ.new (by rw [← hAB]; (try simp only [Wov_size]))⟩ ?_
              rintro W6 ⟨hb6, m6_0, m6_1, m6_2, m6_3, m6_4, m6_5⟩
              clear hb5 f5_0_lt f5_0_c0 f5_0_c1 f5_0_c2 f5_0_c3 f5_0_c4 f5_0_c5 f5_1_lt f5_1_c0 f5_1_c1 f5_1_c2 f5_1_c3 f5_1_c4 f5_2_lt f5_2_c0 f5_2_c1 f5_2_c2 f5_2_c3 f5_3_lt f5_3_c0 f5_3_c1 f5_4_lt f5_4_c0 f5_4_c1 f5_4_c2 f5_4_c3 f5_4_c4 f5_4_c5 m5_0 m5_1 m5_2 m5_3 m5_4 hs5
              have hs6 := hb6.size
              have f6_0_lt := m6_0.lt
              have f6_0_c0 := m6_0.c0
              have f6_0_c1 := m6_0.c1
              have f6_0_c2 := m6_0.c2
              have f6_0_c3 := m6_0.c3
              have f6_0_c4 := m6_0.c4
              have f6_0_c5 := m6_0.c5
              have f6_1_lt := m6_1.lt
              have f6_1_c0 := m6_1.c0
              have f6_1_c1 := m6_1.c1
              have f6_1_c2 := m6_1.c2
              have f6_1_c3 := m6_1.c3
              have f6_1_c4 := m6_1.c4
              have f6_2_lt := m6_2.lt
              have f6_2_c0 := m6_2.c0
              have f6_2_c1 := m6_2.c1
              have f6_2_c2 := m6_2.c2
              have f6_2_c3 := m6_2.c3
              have f6_3_lt := m6_3.lt
              have f6_3_c0 := m6_3.c0
              have f6_3_c1 := m6_3.c1
              have f6_4_lt := m6_4.lt
              have f6_4_c0 := m6_4.c0
              have f6_4_c1 := m6_4.c1
              have f6_4_c2 := m6_4.c2
              have f6_4_c3 := m6_4.c3
              have f6_4_c4 := m6_4.c4
              have f6_4_c5 := m6_4.c5
              have f6_5_lt := m6_5.lt
              have f6_5_c0 := m6_5.c0
              have f6_5_c1 := m6_5.c1
              have f6_5_c2 := m6_5.c2
              have f6_5_c3 := m6_5.c3
              have f6_5_c4 := m6_5.c4
              have f6_5_c5 := m6_5.c5
              clear hAB
              simp only [Bool.false_and] at N2
              have N2 := Lib.hid N2
              refine (N2.out _).mono ?_; rintro e w' ⟨rfl, qn, rfl⟩
              go_wp2
              all_goals
                go_ret
                exact gives_bool (by simp) (by (repeat' (first | (with_reducible assumption) | (with_reducible exact Below.refl _ _) | (with_reducible refine below_wov ?_ ?_ _) | (with_reducible refine below_drewN ?_ _) | (with_reducible refine Below.drew ?_) | (with_reducible refine Below.alloc ?_ ?_ _) | (with_reducible refine Below.setCell ?_ ?_ _) | (with_reducible exact Nat.le_refl _) | omega | (simp only [World.size_alloc, World.size_setCell, World.size_drew, Wov_size, World.heap_drewN]; omega))))
            · skip
              by_cases b6 : eb = 6
              · skip
                subst b6
                obtain ⟨k, N1, N3, _⟩ := P2.out (by simp)
                replace N3 := N3 (by simp)
                have N1 := Lib.hid N1
                clear N3
                go_wp2
                all_goals
                  go_ret
                  exact gives_bool (by simp) (by (repeat' (first | (with_reducible assumption) | (with_reducible exact Below.refl _ _) | (with_reducible refine below_wov ?_ ?_ _) | (with_reducible refine below_drewN ?_ _) | (with_reducible refine Below.drew ?_) | (with_reducible refine Below.alloc ?_ ?_ _) | (with_reducible refine Below.setCell ?_ ?_ _) | (with_reducible exact Nat.le_refl _) | omega | (simp only [World.size_alloc, World.size_setCell, World.size_drew, Wov_size, World.heap_drewN]; omega))))
              · skip
                have bb0 : (eb != 0) = true := by rw [bne_iff_ne]; exact b0
                have bb6 : (eb != 6) = true := by rw [bne_iff_ne]; exact b6
                have bb1 : (eb == 0) = false := by rw [beq_eq_false_iff_ne]; exact b0
                clear P2 b0 b6
                go_wp2
                all_goals
                  go_ret
                  exact gives_bool (by simp) (by (repeat' (first | (with_reducible assumption) | (with_reducible exact Below.refl _ _) | (with_reducible refine below_wov ?_ ?_ _) | (with_reducible refine below_drewN ?_ _) | (with_reducible refine Below.drew ?_) | (with_reducible refine Below.alloc ?_ ?_ _) | (with_reducible refine Below.setCell ?_ ?_ _) | (with_reducible exact Nat.le_refl _) | omega | (simp only [World.size_alloc, World.size_setCell, World.size_drew, Wov_size, World.heap_drewN]; omega))))
          · skip
            simp only [Bool.true_and] at M3
            subst M3
            go_wp2_with (fail)
            obtain ⟨AA, hAA⟩ : ∃ A, W4.heap.size + qa.bl.size = A := ⟨_, rfl⟩
            rw [hAA]
            refine calls_world (fun W => Below w.heap.size w W ∧ BoxZ W w.heap.size z ∧ BoxS W (w.heap.size + 1) s.lo s.ls s.hi s.hs s.op ∧ PtAt W (w.heap.size + 2) pa pb pc pd ∧ BoxR W AD d1 d2 ∧ BoxZ W AA ra) ⟨by (repeat' (first | (with_reducible assumption) | (with_reducible exact Below.refl _ _) | (with_reducible refine below_wov ?_ ?_ _) | (with_reducible refine below_drewN ?_ _) | (with_reducible refine Below.drew ?_) | (with_reducible refine Below.alloc ?_ ?_ _) | (with_reducible refine Below.setCell ?_ ?_ _) | (with_reducible exact Nat.le_refl _) | omega | (simp only [World.size_alloc, World.size_setCell, World.size_drew, Wov_size, World.heap_drewN]; omega))), m4_0.below (by (repeat' (first | (with_reducible assumption) | (with_reducible exact Below.refl _ _) | (with_reducible refine below_wov ?_ ?_ _) | (with_reducible refine below_drewN ?_ _) | (with_reducible refine Below.drew ?_) | (with_reducible refine Below.alloc ?_ ?_ _) | (with_reducible refine Below.setCell ?_ ?_ _) | (with_reducible exact Nat.le_refl _) | omega | (simp only [World.size_alloc, World.size_setCell, World.size_drew, Wov_size, World.heap_drewN]; omega)))), m4_1.below (by (repeat' (first | (with_reducible assumption) | (with_reducible exact Below.refl _ _) | (with_reducible refine below_wov ?_ ?_ _) | (with_reducible refine below_drewN ?_ _) | (with_reducible refine Below.drew ?_) | (with_reducible refine Below.alloc ?_ ?_ _) | (with_reducible refine Below.setCell ?_ ?_ _) | (with_reducible exact Nat.le_refl _) | omega | (simp only [World.size_alloc, World.size_setCell, World.size_drew, Wov_size, World.heap_drewN]; omega)))), m4_2.below (by (repeat' (first | (with_reducible assumption) | (with_reducible exact Below.refl _ _) | (with_reducible refine below_wov ?_ ?_ _) | (with_reducible refine below_drewN ?_ _) | (with_reducible refine Below.drew ?_) | (with_reducible refine Below.alloc ?_ ?_ _) | (with_reducible refine Below.setCell ?_ ?_ _) | (with_reducible exact Nat.le_refl _) | omega | (simp only [World.size_alloc, World.size_setCell, World.size_drew, Wov_size, World.heap_drewN]; omega)))), m4_3.below (by (repeat' (first | (with_reducible assumption) | (with_reducible exact Below.refl _ _) | (with_reducible refine below_wov ?_ ?_ _) | (with_reducible refine below_drewN ?_ _) | (with_reducible refine Below.drew ?_) | (with_reducible refine Below.alloc ?_ ?_ _) | (with_reducible refine Below.setCell ?_ ?_ _) | (with_reducible exact Nat.le_refl _) | omega | (simp only [World.size_alloc, World.size_setCell, World.size_drew, Wov_size, World.heap_drewN]; omega)))), BoxZ.new (by rw [← hAA]; (try simp only [Wov_size]))⟩ ?_
            rintro W5 ⟨hb5, m5_0, m5_1, m5_2, m5_3, m5_4⟩
            clear hb4 f4_0_lt f4_0_c0 f4_0_c1 f4_0_c2 f4_0_c3 f4_0_c4 f4_0_c5 f4_1_lt f4_1_c0 f4_1_c1 f4_1_c2 f4_1_c3 f4_1_c4 f4_2_lt f4_2_c0 f4_2_c1 f4_2_c2 f4_2_c3 f4_3_lt f4_3_c0 f4_3_c1 m4_0 m4_1 m4_2 m4_3 hs4
            have hs5 := hb5.size
            have f5_0_lt := m5_0.lt
            have f5_0_c0 := m5_0.c0
            have f5_0_c1 := m5_0.c1
            have f5_0_c2 := m5_0.c2
            have f5_0_c3 := m5_0.c3
            have f5_0_c4 := m5_0.c4
            have f5_0_c5 := m5_0.c5
            have f5_1_lt := m5_1.lt
            have f5_1_c0 := m5_1.c0
            have f5_1_c1 := m5_1.c1
            have f5_1_c2 := m5_1.c2
            have f5_1_c3 := m5_1.c3
            have f5_1_c4 := m5_1.c4
            have f5_2_lt := m5_2.lt
            have f5_2_c0 := m5_2.c0
            have f5_2_c1 := m5_2.c1
            have f5_2_c2 := m5_2.c2
            have f5_2_c3 := m5_2.c3
            have f5_3_lt := m5_3.lt
            have f5_3_c0 := m5_3.c0
            have f5_3_c1 := m5_3.c1
            have f5_4_lt := m5_4.lt
            have f5_4_c0 := m5_4.c0
            have f5_4_c1 := m5_4.c1
            have f5_4_c2 := m5_4.c2
            have f5_4_c3 := m5_4.c3
            have f5_4_c4 := m5_4.c4
            have f5_4_c5 := m5_4.c5
            clear hAA
            refine (M1.out _).mono ?_; rintro e w' ⟨rfl, qm0, rfl⟩
            go_wp2_with (fail)
            refine calls_world (fun W => Below w.heap.size w W ∧ BoxZ W w.heap.size z ∧ BoxS W (w.heap.size + 1) s.lo s.ls s.hi s.hs s.op ∧ PtAt W (w.heap.size + 2) pa pb pc pd ∧ BoxR W AD d1 d2 ∧ BoxZ W AA ra) ⟨by (repeat' (first | (with_reducible assumption) | (with_reducible exact Below.refl _ _) | (with_reducible refine below_wov ?_ ?_ _) | (with_reducible refine below_drewN ?_ _) | (with_reducible refine Below.drew ?_) | (with_reducible refine Below.alloc ?_ ?_ _) | (with_reducible refine Below.setCell ?_ ?_ _) | (with_reducible exact Nat.le_refl _) | omega | (simp only [World.size_alloc, World.size_setCell, World.size_drew, Wov_size, World.heap_drewN]; omega))), m5_0.below (by (repeat' (first | (with_reducible assumption) | (with_reducible exact Below.refl _ _) | (with_reducible refine below_wov ?_ ?_ _) | (with_reducible refine below_drewN ?_ _) | (with_reducible refine Below.drew ?_) | (with_reducible refine Below.alloc ?_ ?_ _) | (with_reducible refine Below.setCell ?_ ?_ _) | (with_reducible exact Nat.le_refl _) | omega | (simp only [World.size_alloc, World.size_setCell, World.size_drew, Wov_size, World.heap_drewN]; omega)))), m5_1.below (by (repeat' (first | (with_reducible assumption) | (with_reducible exact Below.refl _ _) | (with_reducible refine below_wov ?_ ?_ _) | (with_reducible refine below_drewN ?_ _) | (with_reducible refine Below.drew ?_) | (with_reducible refine Below.alloc ?_ ?_ _) | (with_reducible refine Below.setCell ?_ ?_ _) | (with_reducible exact Nat.le_refl _) | omega | (simp only [World.size_alloc, World.size_setCell, World.size_drew, Wov_size, World.heap_drewN]; omega)))), m5_2.below (by (repeat' (first | (with_reducible assumption) | (with_reducible exact Below.refl _ _) | (with_reducible refine below_wov ?_ ?_ _) | (with_reducible refine below_drewN ?_ _) | (with_reducible refine Below.drew ?_) | (with_reducible refine Below.alloc ?_ ?_ _) | (with_reducible refine Below.setCell ?_ ?_ _) | (with_reducible exact Nat.le_refl _) | omega | (simp only [World.size_alloc, World.size_setCell, World.size_drew, Wov_size, World.heap_drewN]; omega)))), m5_3.below (by (repeat' (first | (with_reducible assumption) | (with_reducible exact Below.refl _ _) | (with_reducible refine below_wov ?_ ?_ _) | (with_reducible refine below_drewN ?_ _) | (with_reducible refine Below.drew ?_) | (with_reducible refine Below.alloc ?_ ?_ _) | (with_reducible refine Below.setCell ?_ ?_ _) | (with_reducible exact Nat.le_refl _) | omega | (simp only [World.size_alloc, World.size_setCell, World.size_drew, Wov_size, World.heap_drewN]; omega)))), m5_4.below (by (repeat' (first | (with_reducible assumption) | (with_reducible exact Below.refl _ _) | (with_reducible refine below_wov ?_ ?_ _) | (with_reducible refine below_drewN ?_ _) | (with_reducible refine Below.drew ?_) | (with_reducible refine Below.alloc ?_ ?_ _) | (with_reducible refine Below.setCell ?_ ?_ _) | (with_reducible exact Nat.le_refl _) | omega | (simp only [World.size_alloc, World.size_setCell, World.size_drew, Wov_size, World.heap_drewN]; omega))))⟩ ?_
            rintro W6 ⟨hb6, m6_0, m6_1, m6_2, m6_3, m6_4⟩
            clear hb5 f5_0_lt f5_0_c0 f5_0_c1 f5_0_c2 f5_0_c3 f5_0_c4 f5_0_c5 f5_1_lt f5_1_c0 f5_1_c1 f5_1_c2 f5_1_c3 f5_1_c4 f5_2_lt f5_2_c0 f5_2_c1 f5_2_c2 f5_2_c3 f5_3_lt f5_3_c0 f5_3_c1 f5_4_lt f5_4_c0 f5_4_c1 f5_4_c2 f5_4_c3 f5_4_c4 f5_4_c5 m5_0 m5_1 m5_2 m5_3 m5_4 hs5
            have hs6 := hb6.size
            have f6_0_lt := m6_0.lt
            have f6_0_c0 := m6_0.c0
            have f6_0_c1 := m6_0.c1
            have f6_0_c2 := m6_0.c2
            have f6_0_c3 := m6_0.c3
            have f6_0_c4 := m6_0.c4
            have f6_0_c5 := m6_0.c5
            have f6_1_lt := m6_1.lt
            have f6_1_c0 := m6_1.c0
            have f6_1_c1 := m6_1.c1
            have f6_1_c2 := m6_1.c2
            have f6_1_c3 := m6_1.c3
            have f6_1_c4 := m6_1.c4
            have f6_2_lt := m6_2.lt
            have f6_2_c0 := m6_2.c0
            have f6_2_c1 := m6_2.c1
            have f6_2_c2 := m6_2.c2
            have f6_2_c3 := m6_2.c3
            have f6_3_lt := m6_3.lt
            have f6_3_c0 := m6_3.c0
            have f6_3_c1 := m6_3.c1
            have f6_4_lt := m6_4.lt
            have f6_4_c0 := m6_4.c0
            have f6_4_c1 := m6_4.c1
            have f6_4_c2 := m6_4.c2
            have f6_4_c3 := m6_4.c3
            have f6_4_c4 := m6_4.c4
            have f6_4_c5 := m6_4.c5
            refine (Cb.out _).mono ?_; rintro e w' ⟨rfl, qb, rfl⟩
            by_cases b0 : eb = 0
            · skip
              subst b0
              obtain ⟨k, N1, _, N2⟩ := P2.out (by simp)
              replace N2 := N2 (by simp)
              have N1 := Lib.hid N1
              go_wp2_with (fail)
              obtain ⟨AB, hAB⟩ : ∃ A, W6.heap.size + qb.bl.size = A := ⟨_, rfl⟩
              rw [hAB]
              refine calls_world (fun W => Below w.heap.size w W ∧ BoxZ W w.heap.size z ∧ BoxS W (w.heap.size + 1) s.lo s.ls s.hi s.hs s.op ∧ PtAt W (w.heap.size + 2) pa pb pc pd ∧ BoxR W AD d1 d2 ∧ BoxZ W AA ra ∧ BoxZ W AB rb) ⟨by (repeat' (first | (with_reducible assumption) | (with_reducible exact Below.refl _ _) | (with_reducible refine below_wov ?_ ?_ _) | (with_reducible refine below_drewN ?_ _) | (with_reducible refine Below.drew ?_) | (with_reducible refine Below.alloc ?_ ?_ _) | (with_reducible refine Below.setCell ?_ ?_ _) | (with_reducible exact Nat.le_refl _) | omega | (simp only [World.size_alloc, World.size_setCell, World.size_drew, Wov_size, World.heap_drewN]; omega))), m6_0.below (by (repeat' (first | (with_reducible assumption) | (with_reducible exact Below.refl _ _) | (with_reducible refine below_wov ?_ ?_ _) | (with_reducible refine below_drewN ?_ _) | (with_reducible refine Below.drew ?_) | (with_reducible refine Below.alloc ?_ ?_ _) | (with_reducible refine Below.setCell ?_ ?_ _) | (with_reducible exact Nat.le_refl _) | omega | (simp only [World.size_alloc, World.size_setCell, World.size_drew, Wov_size, World.heap_drewN]; omega)))), m6_1.below (by (repeat' (first | (with_reducible assumption) | (with_reducible exact Below.refl _ _) | (with_reducible refine below_wov ?_ ?_ _) | (with_reducible refine below_drewN ?_ _) | (with_reducible refine Below.drew ?_) | (with_reducible refine Below.alloc ?_ ?_ _) | (with_reducible refine Below.setCell ?_ ?_ _) | (with_reducible exact Nat.le_refl _) | omega | (simp only [World.size_alloc, World.size_setCell, World.size_drew, Wov_size, World.heap_drewN]; omega)))), m6_2.below (by (repeat' (first | (with_reducible assumption) | (with_reducible exact Below.refl _ _) | (with_reducible refine below_wov ?_ ?_ _) | (with_reducible refine below_drewN ?_ _) | (with_reducible refine Below.drew ?_) | (with_reducible refine Below.alloc ?_ ?_ _) | (with_reducible refine Below.setCell ?_ ?_ _) | (with_reducible exact Nat.le_refl _) | omega | (simp only [World.size_alloc, World.size_setCell, World.size_drew, Wov_size, World.heap_drewN]; omega)))), m6_3.below (by (repeat' (first | (with_reducible assumption) | (with_reducible exact Below.refl _ _) | (with_reducible refine below_wov ?_ ?_ _) | (with_reducible refine below_drewN ?_ _) | (with_reducible refine Below.drew ?_) | (with_reducible refine Below.alloc ?_ ?_ _) | (with_reducible refine Below.setCell ?_ ?_ _) | (with_reducible exact Nat.le_refl _) | omega | (simp only [World.size_alloc, World.size_setCell, World.size_drew, Wov_size, World.heap_drewN]; omega)))), m6_4.below (by (repeat' (first | (with_reducible assumption) | (with_reducible exact Below.refl _ _) | (with_reducible refine below_wov ?_ ?_ _) | (with_reducible refine below_drewN ?_ _) | (with_reducible refine Below.drew ?_) | (with_reducible refine Below.alloc ?_ ?_ _) | (with_reducible refine Below.setCell ?_ ?_ _) | (with_reducible exact Nat.le_refl _) | omega | (simp only [World.size_alloc, World.size_setCell, World.size_drew, Wov_size, World.heap_drewN]; omega)))), BoxZ.new (by rw [← hAB]; (try simp only [Wov_size]))⟩ ?_
              rintro W7 ⟨hb7, m7_0, m7_1, m7_2, m7_3, m7_4, m7_5⟩
              clear hb6 f6_0_lt f6_0_c0 f6_0_c1 f6_0_c2 f6_0_c3 f6_0_c4 f6_0_c5 f6_1_lt f6_1_c0 f6_1_c1 f6_1_c2 f6_1_c3 f6_1_c4 f6_2_lt f6_2_c0 f6_2_c1 f6_2_c2 f6_2_c3 f6_3_lt f6_3_c0 f6_3_c1 f6_4_lt f6_4_c0 f6_4_c1 f6_4_c2 f6_4_c3 f6_4_c4 f6_4_c5 m6_0 m6_1 m6_2 m6_3 m6_4 hs6
              have hs7 := hb7.size
              have f7_0_lt := m7_0.lt
              have f7_0_c0 := m7_0.c0
              have f7_0_c1 := m7_0.c1
              have f7_0_c2 := m7_0.c2
              have f7_0_c3 := m7_0.c3
              have f7_0_c4 := m7_0.c4
              have f7_0_c5 := m7_0.c5
              have f7_1_lt := m7_1.lt
              have f7_1_c0 := m7_1.c0
              have f7_1_c1 := m7_1.c1
              have f7_1_c2 := m7_1.c2
              have f7_1_c3 := m7_1.c3
              have f7_1_c4 := m7_1.c4
              have f7_2_lt := m7_2.lt
              have f7_2_c0 := m7_2.c0
              have f7_2_c1 := m7_2.c1
              have f7_2_c2 := m7_2.c2
              have f7_2_c3 := m7_2.c3
              have f7_3_lt := m7_3.lt
              have f7_3_c0 := m7_3.c0
              have f7_3_c1 := m7_3.c1
              have f7_4_lt := m7_4.lt
              have f7_4_c0 := m7_4.c0
              have f7_4_c1 := m7_4.c1
              have f7_4_c2 := m7_4.c2
              have f7_4_c3 := m7_4.c3
              have f7_4_c4 := m7_4.c4
              have f7_4_c5 := m7_4.c5
              have f7_5_lt := m7_5.lt
              have f7_5_c0 := m7_5.c0
              have f7_5_c1 := m7_5.c1
              have f7_5_c2 := m7_5.c2
              have f7_5_c3 := m7_5.c3
              have f7_5_c4 := m7_5.c4
              have f7_5_c5 := m7_5.c5
              clear hAB
              simp only [Bool.true_and] at N2
              have N2 := Lib.hid N2
              refine (N2.out _).mono ?_; rintro e w' ⟨rfl, qn, rfl⟩
              go_wp2_with (fail)
              refine calls_world (fun W => Below w.heap.size w W ∧ BoxZ W w.heap.size z ∧ BoxS W (w.heap.size + 1) s.lo s.ls s.hi s.hs s.op ∧ PtAt W (w.heap.size + 2) pa pb pc pd ∧ BoxR W AD d1 d2 ∧ BoxZ W AA ra ∧ BoxZ W AB rb) ⟨by (repeat' (first | (with_reducible assumption) | (with_reducible exact Below.refl _ _) | (with_reducible refine below_wov ?_ ?_ _) | (with_reducible refine below_drewN ?_ _) | (with_reducible refine Below.drew ?_) | (with_reducible refine Below.alloc ?_ ?_ _) | (with_reducible refine Below.setCell ?_ ?_ _) | (with_reducible exact Nat.le_refl _) | omega | (simp only [World.size_alloc, World.size_setCell, World.size_drew, Wov_size, World.heap_drewN]; omega))), m7_0.below (by (repeat' (first | (with_reducible assumption) | (with_reducible exact Below.refl _ _) | (with_reducible refine below_wov ?_ ?_ _) | (with_reducible refine below_drewN ?_ _) | (with_reducible refine Below.drew ?_) | (with_reducible refine Below.alloc ?_ ?_ _) | (with_reducible refine Below.setCell ?_ ?_ _) | (with_reducible exact Nat.le_refl _) | omega | (simp only [World.size_alloc, World.size_setCell, World.size_drew, Wov_size, World.heap_drewN]; omega)))), m7_1.below (by (repeat' (first | (with_reducible assumption) | (with_reducible exact Below.refl _ _) | (with_reducible refine below_wov ?_ ?_ _) | (with_reducible refine below_drewN ?_ _) | (with_reducible refine Below.drew ?_) | (with_reducible refine Below.alloc ?_ ?_ _) | (with_reducible refine Below.setCell ?_ ?_ _) | (with_reducible exact Nat.le_refl _) | omega | (simp only [World.size_alloc, World.size_setCell, World.size_drew, Wov_size, World.heap_drewN]; omega)))), m7_2.below (by (repeat' (first | (with_reducible assumption) | (with_reducible exact Below.refl _ _) | (with_reducible refine below_wov ?_ ?_ _) | (with_reducible refine below_drewN ?_ _) | (with_reducible refine Below.drew ?_) | (with_reducible refine Below.alloc ?_ ?_ _) | (with_reducible refine Below.setCell ?_ ?_ _) | (with_reducible exact Nat.le_refl _) | omega | (simp only [World.size_alloc, World.size_setCell, World.size_drew, Wov_size, World.heap_drewN]; omega)))), m7_3.below (by (repeat' (first | (with_reducible assumption) | (with_reducible exact Below.refl _ _) | (with_reducible refine below_wov ?_ ?_ _) | (with_reducible refine below_drewN ?_ _) | (with_reducible refine Below.drew ?_) | (with_reducible refine Below.alloc ?_ ?_ _) | (with_reducible refine Below.setCell ?_ ?_ _) | (with_reducible exact Nat.le_refl _) | omega | (simp only [World.size_alloc, World.size_setCell, World.size_drew, Wov_size, World.heap_drewN]; omega)))), m7_4.below (by (repeat' (first | (with_reducible assumption) | (with_reducible exact Below.refl _ _) | (with_reducible refine below_wov ?_ ?_ _) | (with_reducible refine below_drewN ?_ _) | (with_reducible refine Below.drew ?_) | (with_reducible refine Below.alloc ?_ ?_ _) | (with_reducible refine Below.setCell ?_ ?_ _) | (with_reducible exact Nat.le_refl _) | omega | (simp only [World.size_alloc, World.size_setCell, World.size_drew, Wov_size, World.heap_drewN]; omega)))), m7_5.below (by (repeat' (first | (with_reducible assumption) | (with_reducible exact Below.refl _ _) | (with_reducible refine below_wov ?_ ?_ _) | (with_reducible refine below_drewN ?_ _) | (with_reducible refine Below.drew ?_) | (with_reducible refine Below.alloc ?_ ?_ _) | (with_reducible refine Below.setCell ?_ ?_ _) | (with_reducible exact Nat.le_refl _) | omega | (simp only [World.size_alloc, World.size_setCell, World.size_drew, Wov_size, World.heap_drewN]; omega))))⟩ ?_
              rintro W8 ⟨hb8, m8_0, m8_1, m8_2, m8_3, m8_4, m8_5⟩
              clear hb7 f7_0_lt f7_0_c0 f7_0_c1 f7_0_c2 f7_0_c3 f7_0_c4 f7_0_c5 f7_1_lt f7_1_c0 f7_1_c1 f7_1_c2 f7_1_c3 f7_1_c4 f7_2_lt f7_2_c0 f7_2_c1 f7_2_c2 f7_2_c3 f7_3_lt f7_3_c0 f7_3_c1 f7_4_lt f7_4_c0 f7_4_c1 f7_4_c2 f7_4_c3 f7_4_c4 f7_4_c5 f7_5_lt f7_5_c0 f7_5_c1 f7_5_c2 f7_5_c3 f7_5_c4 f7_5_c5 m7_0 m7_1 m7_2 m7_3 m7_4 m7_5 hs7
              have hs8 := hb8.size
              have f8_0_lt := m8_0.lt
              have f8_0_c0 := m8_0.c0
              have f8_0_c1 := m8_0.c1
              have f8_0_c2 := m8_0.c2
              have f8_0_c3 := m8_0.c3
              have f8_0_c4 := m8_0.c4
              have f8_0_c5 := m8_0.c5
              have f8_1_lt := m8_1.lt
              have f8_1_c0 := m8_1.c0
              have f8_1_c1 := m8_1.c1
              have f8_1_c2 := m8_1.c2
              have f8_1_c3 := m8_1.c3
              have f8_1_c4 := m8_1.c4
              have f8_2_lt := m8_2.lt
              have f8_2_c0 := m8_2.c0
              have f8_2_c1 := m8_2.c1
              have f8_2_c2 := m8_2.c2
              have f8_2_c3 := m8_2.c3
              have f8_3_lt := m8_3.lt
              have f8_3_c0 := m8_3.c0
              have f8_3_c1 := m8_3.c1
              have f8_4_lt := m8_4.lt
              have f8_4_c0 := m8_4.c0
              have f8_4_c1 := m8_4.c1
              have f8_4_c2 := m8_4.c2
              have f8_4_c3 := m8_4.c3
              have f8_4_c4 := m8_4.c4
              have f8_4_c5 := m8_4.c5
              have f8_5_lt := m8_5.lt
              have f8_5_c0 := m8_5.c0
              have f8_5_c1 := m8_5.c1
              have f8_5_c2 := m8_5.c2
              have f8_5_c3 := m8_5.c3
              have f8_5_c4 := m8_5.c4
              have f8_5_c5 := m8_5.c5
              refine (N1.out _).mono ?_; rintro e w' ⟨rfl, qm, rfl⟩
              go_wp2
              all_goals
                go_ret
                exact gives_bool (by simp) (by (repeat' (first | (with_reducible assumption) | (with_reducible exact Below.refl _ _) | (with_reducible refine below_wov ?_ ?_ _) | (with_reducible refine below_drewN ?_ _) | (with_reducible refine Below.drew ?_) | (with_reducible refine Below.alloc ?_ ?_ _) | (with_reducible refine Below.setCell ?_ ?_ _) | (with_reducible exact Nat.le_refl _) | omega | (simp only [World.size_alloc, World.size_setCell, World.size_drew, Wov_size, World.heap_drewN]; omega))))
            · skip
              by_cases b6 : eb = 6
              · skip
                subst b6
                obtain ⟨k, N1, N3, _⟩ := P2.out (by simp)
                replace N3 := N3 (by simp)
                have N1 := Lib.hid N1
                simp only [Bool.true_and] at N3
                subst N3
                go_wp2_with (fail)
                refine calls_world (fun W => Below w.heap.size w W ∧ BoxZ W w.heap.size z ∧ BoxS W (w.heap.size + 1) s.lo s.ls s.hi s.hs s.op ∧ PtAt W (w.heap.size + 2) pa pb pc pd ∧ BoxR W AD d1 d2 ∧ BoxZ W AA ra) ⟨by (repeat' (first | (with_reducible assumption) | (with_reducible exact Below.refl _ _) | (with_reducible refine below_wov ?_ ?_ _) | (with_reducible refine below_drewN ?_ _) | (with_reducible refine Below.drew ?_) | (with_reducible refine Below.alloc ?_ ?_ _) | (with_reducible refine Below.setCell ?_ ?_ _) | (with_reducible exact Nat.le_refl _) | omega | (simp only [World.size_alloc, World.size_setCell, World.size_drew, Wov_size, World.heap_drewN]; omega))), m6_0.below (by (repeat' (first | (with_reducible assumption) | (with_reducible exact Below.refl _ _) | (with_reducible refine below_wov ?_ ?_ _) | (with_reducible refine below_drewN ?_ _) | (with_reducible refine Below.drew ?_) | (with_reducible refine Below.alloc ?_ ?_ _) | (with_reducible refine Below.setCell ?_ ?_ _) | (with_reducible exact Nat.le_refl _) | omega | (simp only [World.size_alloc, World.size_setCell, World.size_drew, Wov_size, World.heap_drewN]; omega)))), m6_1.below (by (repeat' (first | (with_reducible assumption) | (with_reducible exact Below.refl _ _) | (with_reducible refine below_wov ?_ ?_ _) | (with_reducible refine below_drewN ?_ _) | (with_reducible refine Below.drew ?_) | (with_reducible refine Below.alloc ?_ ?_ _) | (with_reducible refine Below.setCell ?_ ?_ _) | (with_reducible exact Nat.le_refl _) | omega | (simp only [World.size_alloc, World.size_setCell, World.size_drew, Wov_size, World.heap_drewN]; omega)))), m6_2.below (by (repeat' (first | (with_reducible assumption) | (with_reducible exact Below.refl _ _) | (with_reducible refine below_wov ?_ ?_ _) | (with_reducible refine below_drewN ?_ _) | (with_reducible refine Below.drew ?_) | (with_reducible refine Below.alloc ?_ ?_ _) | (with_reducible refine Below.setCell ?_ ?_ _) | (with_reducible exact Nat.le_refl _) | omega | (simp only [World.size_alloc, World.size_setCell, World.size_drew, Wov_size, World.heap_drewN]; omega)))), m6_3.below (by (repeat' (first | (with_reducible assumption) | (with_reducible exact Below.refl _ _) | (with_reducible refine below_wov ?_ ?_ _) | (with_reducible refine below_drewN ?_ _) | (with_reducible refine Below.drew ?_) | (with_reducible refine Below.alloc ?_ ?_ _) | (with_reducible refine Below.setCell ?_ ?_ _) | (with_reducible exact Nat.le_refl _) | omega | (simp only [World.size_alloc, World.size_setCell, World.size_drew, Wov_size, World.heap_drewN]; omega)))), m6_4.below (by (repeat' (first | (with_reducible assumption) | (with_reducible exact Below.refl _ _) | (with_reducible refine below_wov ?_ ?_ _) | (with_reducible refine below_drewN ?_ _) | (with_reducible refine Below.drew ?_) | (with_reducible refine Below.alloc ?_ ?_ _) | (with_reducible refine Below.setCell ?_ ?_ _) | (with_reducible exact Nat.le_refl _) | omega | (simp only [World.size_alloc, World.size_setCell, World.size_drew, Wov_size, World.heap_drewN]; omega))))⟩ ?_
                rintro W7 ⟨hb7, m7_0, m7_1, m7_2, m7_3, m7_4⟩
                clear hb6 f6_0_lt f6_0_c0 f6_0_c1 f6_0_c2 f6_0_c3 f6_0_c4 f6_0_c5 f6_1_lt f6_1_c0 f6_1_c1 f6_1_c2 f6_1_c3 f6_1_c4 f6_2_lt f6_2_c0 f6_2_c1 f6_2_c2 f6_2_c3 f6_3_lt f6_3_c0 f6_3_c1 f6_4_lt f6_4_c0 f6_4_c1 f6_4_c2 f6_4_c3 f6_4_c4 f6_4_c5 m6_0 m6_1 m6_2 m6_3 m6_4 hs6
                have hs7 := hb7.size
                have f7_0_lt := m7_0.lt
                have f7_0_c0 := m7_0.c0
                have f7_0_c1 := m7_0.c1
                have f7_0_c2 := m7_0.c2
                have f7_0_c3 := m7_0.c3
                have f7_0_c4 := m7_0.c4
                have f7_0_c5 := m7_0.c5
                have f7_1_lt := m7_1.lt
                have f7_1_c0 := m7_1.c0
                have f7_1_c1 := m7_1.c1
                have f7_1_c2 := m7_1.c2
                have f7_1_c3 := m7_1.c3
                have f7_1_c4 := m7_1.c4
                have f7_2_lt := m7_2.lt
                have f7_2_c0 := m7_2.c0
                have f7_2_c1 := m7_2.c1
                have f7_2_c2 := m7_2.c2
                have f7_2_c3 := m7_2.c3
                have f7_3_lt := m7_3.lt
                have f7_3_c0 := m7_3.c0
                have f7_3_c1 := m7_3.c1
                have f7_4_lt := m7_4.lt
                have f7_4_c0 := m7_4.c0
                have f7_4_c1 := m7_4.c1
                have f7_4_c2 := m7_4.c2
                have f7_4_c3 := m7_4.c3
                have f7_4_c4 := m7_4.c4
                have f7_4_c5 := m7_4.c5
                refine (N1.out _).mono ?_; rintro e w' ⟨rfl, qm, rfl⟩
                go_wp2
                all_goals
                  go_ret
                  exact gives_bool (by simp) (by (repeat' (first | (with_reducible assumption) | (with_reducible exact Below.refl _ _) | (with_reducible refine below_wov ?_ ?_ _) | (with_reducible refine below_drewN ?_ _) | (with_reducible refine Below.drew ?_) | (with_reducible refine Below.alloc ?_ ?_ _) | (with_reducible refine Below.setCell ?_ ?_ _) | (with_reducible exact Nat.le_refl _) | omega | (simp only [World.size_alloc, World.size_setCell, World.size_drew, Wov_size, World.heap_drewN]; omega))))
              · skip
                have bb0 : (eb != 0) = true := by rw [bne_iff_ne]; exact b0
                have bb6 : (eb != 6) = true := by rw [bne_iff_ne]; exact b6
                have bb1 : (eb == 0) = false := by rw [beq_eq_false_iff_ne]; exact b0
                clear P2 b0 b6
                go_wp2
                all_goals
                  go_ret
                  exact gives_bool (by simp) (by (repeat' (first | (with_reducible assumption) | (with_reducible exact Below.refl _ _) | (with_reducible refine below_wov ?_ ?_ _) | (with_reducible refine below_drewN ?_ _) | (with_reducible refine Below.drew ?_) | (with_reducible refine Below.alloc ?_ ?_ _) | (with_reducible refine Below.setCell ?_ ?_ _) | (with_reducible exact Nat.le_refl _) | omega | (simp only [World.size_alloc, World.size_setCell, World.size_drew, Wov_size, World.heap_drewN]; omega))))
        · skip
          have ba0 : (ea == 0) = false := by rw [beq_eq_false_iff_ne]; exact a0
          have ba6 : (ea == 6) = false := by rw [beq_eq_false_iff_ne]; exact a6
          clear P1 a0 a6
          cases one
          · skip
            go_wp2_with (fail)
            obtain ⟨AA, hAA⟩ : ∃ A, W4.heap.size + qa.bl.size = A := ⟨_, rfl⟩
            rw [hAA]
            refine calls_world (fun W => Below w.heap.size w W ∧ BoxZ W w.heap.size z ∧ BoxS W (w.heap.size + 1) s.lo s.ls s.hi s.hs s.op ∧ PtAt W (w.heap.size + 2) pa pb pc pd ∧ BoxR W AD d1 d2 ∧ BoxZ W AA ra) ⟨by (repeat' (first | (with_reducible assumption) | (with_reducible exact Below.refl _ _) | (with_reducible refine below_wov ?_ ?_ _) | (with_reducible refine below_drewN ?_ _) | (with_reducible refine Below.drew ?_) | (with_reducible refine Below.alloc ?_ ?_ _) | (with_reducible refine Below.setCell ?_ ?_ _) | (with_reducible exact Nat.le_refl _) | omega | (simp only [World.size_alloc, World.size_setCell, World.size_drew, Wov_size, World.heap_drewN]; omega))), m4_0.below (by (repeat' (first | (with_reducible assumption) | (with_reducible exact Below.refl _ _) | (with_reducible refine below_wov ?_ ?_ _) | (with_reducible refine below_drewN ?_ _) | (with_reducible refine Below.drew ?_) | (with_reducible refine Below.alloc ?_ ?_ _) | (with_reducible refine Below.setCell ?_ ?_ _) | (with_reducible exact Nat.le_refl _) | omega | (simp only [World.size_alloc, World.size_setCell, World.size_drew, Wov_size, World.heap_drewN]; omega)))), m4_1.below (by (repeat' (first | (with_reducible assumption) | (with_reducible exact Below.refl _ _) | (with_reducible refine below_wov ?_ ?_ _) | (with_reducible refine below_drewN ?_ _) | (with_reducible refine Below.drew ?_) | (with_reducible refine Below.alloc ?_ ?_ _) | (with_reducible refine Below.setCell ?_ ?_ _) | (with_reducible exact Nat.le_refl _) | omega | (simp only [World.size_alloc, World.size_setCell, World.size_drew, Wov_size, World.heap_drewN]; omega)))), m4_2.below (by (repeat' (first | (with_reducible assumption) | (with_reducible exact Below.refl _ _) | (with_reducible refine below_wov ?_ ?_ _) | (with_reducible refine below_drewN ?_ _) | (with_reducible refine Below.drew ?_) | (with_reducible refine Below.alloc ?_ ?_ _) | (with_reducible refine Below.setCell ?_ ?_ _) | (with_reducible exact Nat.le_refl _) | omega | (simp only [World.size_alloc, World.size_setCell, World.size_drew, Wov_size, World.heap_drewN]; omega)))), m4_3.below (by (repeat' (first | (with_reducible assumption) | (with_reducible exact Below.refl _ _) | (with_reducible refine below_wov ?_ ?_ _) | (with_reducible refine below_drewN ?_ _) | (with_reducible refine Below.drew ?_) | (with_reducible refine Below.alloc ?_ ?_ _) | (with_reducible refine Below.setCell ?_ ?_ _) | (with_reducible exact Nat.le_refl _) | omega | (simp only [World.size_alloc, World.size_setCell, World.size_drew, Wov_size, World.heap_drewN]; omega)))), BoxZ.new (by rw [← hAA]; (try simp only [Wov_size]))⟩ ?_
            rintro W5 ⟨hb5, m5_0, m5_1, m5_2, m5_3, m5_4⟩
            clear hb4 f4_0_lt f4_0_c0 f4_0_c1 f4_0_c2 f4_0_c3 f4_0_c4 f4_0_c5 f4_1_lt f4_1_c0 f4_1_c1 f4_1_c2 f4_1_c3 f4_1_c4 f4_2_lt f4_2_c0 f4_2_c1 f4_2_c2 f4_2_c3 f4_3_lt f4_3_c0 f4_3_c1 m4_0 m4_1 m4_2 m4_3 hs4
            have hs5 := hb5.size
            have f5_0_lt := m5_0.lt
            have f5_0_c0 := m5_0.c0
            have f5_0_c1 := m5_0.c1
            have f5_0_c2 := m5_0.c2
            have f5_0_c3 := m5_0.c3
            have f5_0_c4 := m5_0.c4
            have f5_0_c5 := m5_0.c5
            have f5_1_lt := m5_1.lt
            have f5_1_c0 := m5_1.c0
            have f5_1_c1 := m5_1.c1
            have f5_1_c2 := m5_1.c2
            have f5_1_c3 := m5_1.c3
            have f5_1_c4 := m5_1.c4
            have f5_2_lt := m5_2.lt
            have f5_2_c0 := m5_2.c0
            have f5_2_c1 := m5_2.c1
            have f5_2_c2 := m5_2.c2
            have f5_2_c3 := m5_2.c3
            have f5_3_lt := m5_3.lt
            have f5_3_c0 := m5_3.c0
            have f5_3_c1 := m5_3.c1
            have f5_4_lt := m5_4.lt
            have f5_4_c0 := m5_4.c0
            have f5_4_c1 := m5_4.c1
            have f5_4_c2 := m5_4.c2
            have f5_4_c3 := m5_4.c3
            have f5_4_c4 := m5_4.c4
            have f5_4_c5 := m5_4.c5
            clear hAA
            refine (Cb.out _).mono ?_; rintro e w' ⟨rfl, qb, rfl⟩
            by_cases b0 : eb = 0
            · skip
              subst b0
              obtain ⟨k, N1, _, N2⟩ := P2.out (by simp)
              replace N2 := N2 (by simp)
              have N1 := Lib.hid N1
              go_wp2_with (fail)
              obtain ⟨AB, hAB⟩ : ∃ A, W5.heap.size + qb.bl.size = A := ⟨_, rfl⟩
              rw [hAB]
              refine calls_world (fun W => Below w.heap.size w W ∧ BoxZ W w.heap.size z ∧ BoxS W (w.heap.size + 1) s.lo s.ls s.hi s.hs s.op ∧ PtAt W (w.heap.size + 2) pa pb pc pd ∧ BoxR W AD d1 d2 ∧ BoxZ W AA ra ∧ BoxZ W AB rb) ⟨by (repeat' (first | (with_reducible assumption) | (with_reducible exact Below.refl _ _) | (with_reducible refine below_wov ?_ ?_ _) | (with_reducible refine below_drewN ?_ _) | (with_reducible refine Below.drew ?_) | (with_reducible refine Below.alloc ?_ ?_ _) | (with_reducible refine Below.setCell ?_ ?_ _) | (with_reducible exact Nat.le_refl _) | omega | (simp only [World.size_alloc, World.size_setCell, World.size_drew, Wov_size, World.heap_drewN]; omega))), m5_0.below (by (repeat' (first | (with_reducible assumption) | (with_reducible exact Below.refl _ _) | (with_reducible refine below_wov ?_ ?_ _) | (with_reducible refine below_drewN ?_ _) | (with_reducible refine Below.drew ?_) | (with_reducible refine Below.alloc ?_ ?_ _) | (with_reducible refine Below.setCell ?_ ?_ _) | (with_reducible exact Nat.le_refl _) | omega | (simp only [World.size_alloc, World.size_setCell, World.size_drew, Wov_size, World.heap_drewN]; omega)))), m5_1.below (by (repeat' (first | (with_reducible assumption) | (with_reducible exact Below.refl _ _) | (with_reducible refine below_wov ?_ ?_ _) | (with_reducible refine below_drewN ?_ _) | (with_reducible refine Below.drew ?_) | (with_reducible refine Below.alloc ?_ ?_ _) | (with_reducible refine Below.setCell ?_ ?_ _) | (with_reducible exact Nat.le_refl _) | omega | (simp only [World.size_alloc, World.size_setCell, World.size_drew, Wov_size, World.heap_drewN]; omega)))), m5_2.below (by (repeat' (first | (with_reducible assumption) | (with_reducible exact Below.refl _ _) | (with_reducible refine below_wov ?_ ?_ _) | (with_reducible refine below_drewN ?_ _) | (with_reducible refine Below.drew ?_) | (with_reducible refine Below.alloc ?_ ?_ _) | (with_reducible refine Below.setCell ?_ ?_ _) | (with_reducible exact Nat.le_refl _) | omega | (simp only [World.size_alloc, World.size_setCell, World.size_drew, Wov_size, World.heap_drewN]; omega)))), m5_3.below (by (repeat' (first | (with_reducible assumption) | (with_reducible exact Below.refl _ _) | (with_reducible refine below_wov ?_ ?_ _) | (with_reducible refine below_drewN ?_ _) | (with_reducible refine Below.drew ?_) | (with_reducible refine Below.alloc ?_ ?_ _) | (with_reducible refine Below.setCell ?_ ?_ _) | (with_reducible exact Nat.le_refl _) | omega | (simp only [World.size_alloc, World.size_setCell, World.size_drew, Wov_size, World.heap_drewN]; omega)))), m5_4.below (by (repeat' (first | (with_reducible assumption) | (with_reducible exact Below.refl _ _) | (with_reducible refine below_wov ?_ ?_ _) | (with_reducible refine below_drewN ?_ _) | (with_reducible refine Below.drew ?_) | (with_reducible refine Below.alloc ?_ ?_ _) | (with_reducible refine Below.setCell ?_ ?_ _) | (with_reducible exact Nat.le_refl _) | omega | (simp only [World.size_alloc, World.size_setCell, World.size_drew, Wov_size, World.heap_drewN]; omega)))), BoxZ.new (by rw [← hAB]; (try simp only [Wov_size]))⟩ ?_
              rintro W6 ⟨hb6, m6_0, m6_1, m6_2, m6_3, m6_4, m6_5⟩
              clear hb5 f5_0_lt f5_0_c0 f5_0_c1 f5_0_c2 f5_0_c3 f5_0_c4 f5_0_c5 f5_1_lt f5_1_c0 f5_1_c1 f5_1_c2 f5_1_c3 f5_1_c4 f5_2_lt f5_2_c0 f5_2_c1 f5_2_c2 f5_2_c3 f5_3_lt f5_3_c0 f5_3_c1 f5_4_lt f5_4_c0 f5_4_c1 f5_4_c2 f5_4_c3 f5_4_c4 f5_4_c5 m5_0 m5_1 m5_2 m5_3 m5_4 hs5
              have hs6 := hb6.size
              have f6_0_lt := m6_0.lt
              have f6_0_c0 := m6_0.c0
              have f6_0_c1 := m6_0.c1
              have f6_0_c2 := m6_0.c2
              have f6_0_c3 := m6_0.c3
              have f6_0_c4 := m6_0.c4
              have f6_0_c5 := m6_0.c5
              have f6_1_lt := m6_1.lt
              have f6_1_c0 := m6_1.c0
              have f6_1_c1 := m6_1.c1
              have f6_1_c2 := m6_1.c2
              have f6_1_c3 := m6_1.c3
              have f6_1_c4 := m6_1.c4
              have f6_2_lt := m6_2.lt
              have f6_2_c0 := m6_2.c0
              have f6_2_c1 := m6_2.c1
              have f6_2_c2 := m6_2.c2
              have f6_2_c3 := m6_2.c3
              have f6_3_lt := m6_3.lt
              have f6_3_c0 := m6_3.c0
              have f6_3_c1 := m6_3.c1
              have f6_4_lt := m6_4.lt
              have f6_4_c0 := m6_4.c0
              have f6_4_c1 := m6_4.c1
              have f6_4_c2 := m6_4.c2
              have f6_4_c3 := m6_4.c3
              have f6_4_c4 := m6_4.c4
              have f6_4_c5 := m6_4.c5
              have f6_5_lt := m6_5.lt
              have f6_5_c0 := m6_5.c0
              have f6_5_c1 := m6_5.c1
              have f6_5_c2 := m6_5.c2
              have f6_5_c3 := m6_5.c3
              have f6_5_c4 := m6_5.c4
              have f6_5_c5 := m6_5.c5
              clear hAB
              simp only [Bool.false_and] at N2
              have N2 := Lib.hid N2
              refine (N2.out _).mono ?_; rintro e w' ⟨rfl, qn, rfl⟩
              go_wp2
              all_goals
                go_ret
                exact gives_bool (by simp) (by (repeat' (first | (with_reducible assumption) | (with_reducible exact Below.refl _ _) | (with_reducible refine below_wov ?_ ?_ _) | (with_reducible refine below_drewN ?_ _) | (with_reducible refine Below.drew ?_) | (with_reducible refine Below.alloc ?_ ?_ _) | (with_reducible refine Below.setCell ?_ ?_ _) | (with_reducible exact Nat.le_refl _) | omega | (simp only [World.size_alloc, World.size_setCell, World.size_drew, Wov_size, World.heap_drewN]; omega))))
            · skip
              by_cases b6 : eb = 6
              · skip
                subst b6
                obtain ⟨k, N1, N3, _⟩ := P2.out (by simp)
                replace N3 := N3 (by simp)
                have N1 := Lib.hid N1
                clear N3
                go_wp2
                all_goals
                  go_ret
                  exact gives_bool (by simp) (by (repeat' (first | (with_reducible assumption) | (with_reducible exact Below.refl _ _) | (with_reducible refine below_wov ?_ ?_ _) | (with_reducible refine below_drewN ?_ _) | (with_reducible refine Below.drew ?_) | (with_reducible refine Below.alloc ?_ ?_ _) | (with_reducible refine Below.setCell ?_ ?_ _) | (with_reducible exact Nat.le_refl _) | omega | (simp only [World.size_alloc, World.size_setCell, World.size_drew, Wov_size, World.heap_drewN]; omega))))
              · skip
                have bb0 : (eb != 0) = true := by rw [bne_iff_ne]; exact b0
                have bb6 : (eb != 6) = true := by rw [bne_iff_ne]; exact b6
                have bb1 : (eb == 0) = false := by rw [beq_eq_false_iff_ne]; exact b0
                clear P2 b0 b6
                go_wp2
                all_goals
                  go_ret
                  exact gives_bool (by simp) (by (repeat' (first | (with_reducible assumption) | (with_reducible exact Below.refl _ _) | (with_reducible refine below_wov ?_ ?_ _) | (with_reducible refine below_drewN ?_ _) | (with_reducible refine Below.drew ?_) | (with_reducible refine Below.alloc ?_ ?_ _) | (with_reducible refine Below.setCell ?_ ?_ _) | (with_reducible exact Nat.le_refl _) | omega | (simp only [World.size_alloc, World.size_setCell, World.size_drew, Wov_size, World.heap_drewN]; omega))))
          · skip
            go_wp2_with (fail)
            obtain ⟨AA, hAA⟩ : ∃ A, W4.heap.size + qa.bl.size = A := ⟨_, rfl⟩
            rw [hAA]
            refine calls_world (fun W => Below w.heap.size w W ∧ BoxZ W w.heap.size z ∧ BoxS W (w.heap.size + 1) s.lo s.ls s.hi s.hs s.op ∧ PtAt W (w.heap.size + 2) pa pb pc pd ∧ BoxR W AD d1 d2 ∧ BoxZ W AA ra) ⟨by (repeat' (first | (with_reducible assumption) | (with_reducible exact Below.refl _ _) | (with_reducible refine below_wov ?_ ?_ _) | (with_reducible refine below_drewN ?_ _) | (with_reducible refine Below.drew ?_) | (with_reducible refine Below.alloc ?_ ?_ _) | (with_reducible refine Below.setCell ?_ ?_ _) | (with_reducible exact Nat.le_refl _) | omega | (simp only [World.size_alloc, World.size_setCell, World.size_drew, Wov_size, World.heap_drewN]; omega))), m4_0.below (by (repeat' (first | (with_reducible assumption) | (with_reducible exact Below.refl _ _) | (with_reducible refine below_wov ?_ ?_ _) | (with_reducible refine below_drewN ?_ _) | (with_reducible refine Below.drew ?_) | (with_reducible refine Below.alloc ?_ ?_ _) | (with_reducible refine Below.setCell ?_ ?_ _) | (with_reducible exact Nat.le_refl _) | omega | (simp only [World.size_alloc, World.size_setCell, World.size_drew, Wov_size, World.heap_drewN]; omega)))), m4_1.below (by (repeat' (first | (with_reducible assumption) | (with_reducible exact Below.refl _ _) | (with_reducible refine below_wov ?_ ?_ _) | (with_reducible refine below_drewN ?_ _) | (with_reducible refine Below.drew ?_) | (with_reducible refine Below.alloc ?_ ?_ _) | (with_reducible refine Below.setCell ?_ ?_ _) | (with_reducible exact Nat.le_refl _) | omega | (simp only [World.size_alloc, World.size_setCell, World.size_drew, Wov_size, World.heap_drewN]; omega)))), m4_2.below (by (repeat' (first | (with_reducible assumption) | (with_reducible exact Below.refl _ _) | (with_reducible refine below_wov ?_ ?_ _) | (with_reducible refine below_drewN ?_ _) | (with_reducible refine Below.drew ?_) | (with_reducible refine Below.alloc ?_ ?_ _) | (with_reducible refine Below.setCell ?_ ?_ _) | (with_reducible exact Nat.le_refl _) | omega | (simp only [World.size_alloc, World.size_setCell, World.size_drew, Wov_size, World.heap_drewN]; omega)))), m4_3.below (by (repeat' (first | (with_reducible assumption) | (with_reducible exact Below.refl _ _) | (with_reducible refine below_wov ?_ ?_ _) | (with_reducible refine below_drewN ?_ _) | (with_reducible refine Below.drew ?_) | (with_reducible refine Below.alloc ?_ ?_ _) | (with_reducible refine Below.setCell ?_ ?_ _) | (with_reducible exact Nat.le_refl _) | omega | (simp only [World.size_alloc, World.size_setCell, World.size_drew, Wov_size, World.heap_drewN]; omega)))), BoxZ.new (by rw [← hAA]; (try simp only [Wov_size]))⟩ ?_
            rintro W5 ⟨hb5, m5_0, m5_1, m5_2, m5_3, m5_4⟩
            clear hb4 f4_0_lt f4_0_c0 f4_0_c1 f4_0_c2 f4_0_c3 f4_0_c4 f4_0_c5 f4_1_lt f4_1_c0 f4_1_c1 f4_1_c2 f4_1_c3 f4_1_c4 f4_2_lt f4_2_c0 f4_2_c1 f4_2_c2 f4_2_c3 f4_3_lt f4_3_c0 f4_3_c1 m4_0 m4_1 m4_2 m4_3 hs4
            have hs5 := hb5.size
            have f5_0_lt := m5_0.lt
            have f5_0_c0 := m5_0.c0
            have f5_0_c1 := m5_0.c1
            have f5_0_c2 := m5_0.c2
            have f5_0_c3 := m5_0.c3
            have f5_0_c4 := m5_0.c4
            have f5_0_c5 := m5_0.c5
            have f5_1_lt := m5_1.lt
            have f5_1_c0 := m5_1.c0
            have f5_1_c1 := m5_1.c1
            have f5_1_c2 := m5_1.c2
            have f5_1_c3 := m5_1.c3
            have f5_1_c4 := m5_1.c4
            have f5_2_lt := m5_2.lt
            have f5_2_c0 := m5_2.c0
            have f5_2_c1 := m5_2.c1
            have f5_2_c2 := m5_2.c2
            have f5_2_c3 := m5_2.c3
            have f5_3_lt := m5_3.lt
            have f5_3_c0 := m5_3.c0
            have f5_3_c1 := m5_3.c1
            have f5_4_lt := m5_4.lt
            have f5_4_c0 := m5_4.c0
            have f5_4_c1 := m5_4.c1
            have f5_4_c2 := m5_4.c2
            have f5_4_c3 := m5_4.c3
            have f5_4_c4 := m5_4.c4
            have f5_4_c5 := m5_4.c5
            clear hAA
            refine (Cb.out _).mono ?_; rintro e w' ⟨rfl, qb, rfl⟩
            by_cases b0 : eb = 0
            · skip
              subst b0
              obtain ⟨k, N1, _, N2⟩ := P2.out (by simp)
              replace N2 := N2 (by simp)
              have N1 := Lib.hid N1
              go_wp2_with (fail)
              obtain ⟨AB, hAB⟩ : ∃ A, W5.heap.size + qb.bl.size = A := ⟨_, rfl⟩
              rw [hAB]
              refine calls_world (fun W => Below w.heap.size w W ∧ BoxZ W w.heap.size z ∧ BoxS W (w.heap.size + 1) s.lo s.ls s.hi s.hs s.op ∧ PtAt W (w.heap.size + 2) pa pb pc pd ∧ BoxR W AD d1 d2 ∧ BoxZ W AA ra ∧ BoxZ W AB rb) ⟨by (repeat' (first | (with_reducible assumption) | (with_reducible exact Below.refl _ _) | (with_reducible refine below_wov ?_ ?_ _) | (with_reducible refine below_drewN ?_ _) | (with_reducible refine Below.drew ?_) | (with_reducible refine Below.alloc ?_ ?_ _) | (with_reducible refine Below.setCell ?_ ?_ _) | (with_reducible exact Nat.le_refl _) | omega | (simp only [World.size_alloc, World.size_setCell, World.size_drew, Wov_size, World.heap_drewN]; omega))), m5_0.below (by (repeat' (first | (with_reducible assumption) | (with_reducible exact Below.refl _ _) | (with_reducible refine below_wov ?_ ?_ _) | (with_reducible refine below_drewN ?_ _) | (with_reducible refine Below.drew ?_) | (with_reducible refine Below.alloc ?_ ?_ _) | (with_reducible refine Below.setCell ?_ ?_ _) | (with_reducible exact Nat.le_refl _) | omega | (simp only [World.size_alloc, World.size_setCell, World.size_drew, Wov_size, World.heap_drewN]; omega)))), m5_1.below (by (repeat' (first | (with_reducible assumption) | (with_reducible exact Below.refl _ _) | (with_reducible refine below_wov ?_ ?_ _) | (with_reducible refine below_drewN ?_ _) | (with_reducible refine Below.drew ?_) | (with_reducible refine Below.alloc ?_ ?_ _) | (with_reducible refine Below.setCell ?_ ?_ _) | (with_reducible exact Nat.le_refl _) | omega | (simp only [World.size_alloc, World.size_setCell, World.size_drew, Wov_size, World.heap_drewN]; omega)))), m5_2.below (by (repeat' (first | (with_reducible assumption) | (with_reducible exact Below.refl _ _) | (with_reducible refine below_wov ?_ ?_ _) | (with_reducible refine below_drewN ?_ _) | (with_reducible refine Below.drew ?_) | (with_reducible refine Below.alloc ?_ ?_ _) | (with_reducible refine Below.setCell ?_ ?_ _) | (with_reducible exact Nat.le_refl _) | omega | (simp only [World.size_alloc, World.size_setCell, World.size_drew, Wov_size, World.heap_drewN]; omega)))), m5_3.below (by (repeat' (first | (with_reducible assumption) | (with_reducible exact Below.refl _ _) | (with_reducible refine below_wov ?_ ?_ _) | (with_reducible refine below_drewN ?_ _) | (with_reducible refine Below.drew ?_) | (with_reducible refine Below.alloc ?_ ?_ _) | (with_reducible refine Below.setCell ?_ ?_ _) | (with_reducible exact Nat.le_refl _) | omega | (simp only [World.size_alloc, World.size_setCell, World.size_drew, Wov_size, World.heap_drewN]; omega)))), m5_4.below (by (repeat' (first | (with_reducible assumption) | (with_reducible exact Below.refl _ _) | (with_reducible refine below_wov ?_ ?_ _) | (with_reducible refine below_drewN ?_ _) | (with_reducible refine Below.drew ?_) | (with_reducible refine Below.alloc ?_ ?_ _) | (with_reducible refine Below.setCell ?_ ?_ _) | (with_reducible exact Nat.le_refl _) | omega | (simp only [World.size_alloc, World.size_setCell, World.size_drew, Wov_size, World.heap_drewN]; omega)))), BoxZ.new (by rw [← hAB]; (try simp only [Wov_size]))⟩ ?_
              rintro W6 ⟨hb6, m6_0, m6_1, m6_2, m6_3, m6_4, m6_5⟩
              clear hb5 f5_0_lt f5_0_c0 f5_0_c1 f5_0_c2 f5_0_c3 f5_0_c4 f5_0_c5 f5_1_lt f5_1_c0 f5_1_c1 f5_1_c2 f5_1_c3 f5_1_c4 f5_2_lt f5_2_c0 f5_2_c1 f5_2_c2 f5_2_c3 f5_3_lt f5_3_c0 f5_3_c1 f5_4_lt f5_4_c0 f5_4_c1 f5_4_c2 f5_4_c3 f5_4_c4 f5_4_c5 m5_0 m5_1 m5_2 m5_3 m5_4 hs5
              have hs6 := hb6.size
              have f6_0_lt := m6_0.lt
              have f6_0_c0 := m6_0.c0
              have f6_0_c1 := m6_0.c1
              have f6_0_c2 := m6_0.c2
              have f6_0_c3 := m6_0.c3
              have f6_0_c4 := m6_0.c4
              have f6_0_c5 := m6_0.c5
              have f6_1_lt := m6_1.lt
              have f6_1_c0 := m6_1.c0
              have f6_1_c1 := m6_1.c1
              have f6_1_c2 := m6_1.c2
              have f6_1_c3 := m6_1.c3
              have f6_1_c4 := m6_1.c4
              have f6_2_lt := m6_2.lt
              have f6_2_c0 := m6_2.c0
              have f6_2_c1 := m6_2.c1
              have f6_2_c2 := m6_2.c2
              have f6_2_c3 := m6_2.c3
              have f6_3_lt := m6_3.lt
              have f6_3_c0 := m6_3.c0
              have f6_3_c1 := m6_3.c1
              have f6_4_lt := m6_4.lt
              have f6_4_c0 := m6_4.c0
              have f6_4_c1 := m6_4.c1
              have f6_4_c2 := m6_4.c2
              have f6_4_c3 := m6_4.c3
              have f6_4_c4 := m6_4.c4
              have f6_4_c5 := m6_4.c5
              have f6_5_lt := m6_5.lt
              have f6_5_c0 := m6_5.c0
              have f6_5_c1 := m6_5.c1
              have f6_5_c2 := m6_5.c2
              have f6_5_c3 := m6_5.c3
              have f6_5_c4 := m6_5.c4
              have f6_5_c5 := m6_5.c5
              clear hAB
              simp only [Bool.true_and] at N2
              have N2 := Lib.hid N2
              refine (N2.out _).mono ?_; rintro e w' ⟨rfl, qn, rfl⟩
              go_wp2_with (fail)
              refine calls_world (fun W => Below w.heap.size w W ∧ BoxZ W w.heap.size z ∧ BoxS W (w.heap.size + 1) s.lo s.ls s.hi s.hs s.op ∧ PtAt W (w.heap.size + 2) pa pb pc pd ∧ BoxR W AD d1 d2 ∧ BoxZ W AA ra ∧ BoxZ W AB rb) ⟨by (repeat' (first | (with_reducible assumption) | (with_reducible exact Below.refl _ _) | (with_reducible refine below_wov ?_ ?_ _) | (with_reducible refine below_drewN ?_ _) | (with_reducible refine Below.drew ?_) | (with_reducible refine Below.alloc ?_ ?_ _) | (with_reducible refine Below.setCell ?_ ?_ _) | (with_reducible exact Nat.le_refl _) | omega | (simp only [World.size_alloc, World.size_setCell, World.size_drew, Wov_size, World.heap_drewN]; omega))), m6_0.below (by (repeat' (first | (with_reducible assumption) | (with_reducible exact Below.refl _ _) | (with_reducible refine below_wov ?_ ?_ _) | (with_reducible refine below_drewN ?_ _) | (with_reducible refine Below.drew ?_) | (with_reducible refine Below.alloc ?_ ?_ _) | (with_reducible refine Below.setCell ?_ ?_ _) | (with_reducible exact Nat.le_refl _) | omega | (simp only [World.size_alloc, World.size_setCell, World.size_drew, Wov_size, World.heap_drewN]; omega)))), m6_1.below (by (repeat' (first | (with_reducible assumption) | (with_reducible exact Below.refl _ _) | (with_reducible refine below_wov ?_ ?_ _) | (with_reducible refine below_drewN ?_ _) | (with_reducible refine Below.drew ?_) | (with_reducible refine Below.alloc ?_ ?_ _) | (with_reducible refine Below.setCell ?_ ?_ _) | (with_reducible exact Nat.le_refl _) | omega | (simp only [World.size_alloc, World.size_setCell, World.size_drew, Wov_size, World.heap_drewN]; omega)))), m6_2.below (by (repeat' (first | (with_reducible assumption) | (with_reducible exact Below.refl _ _) | (with_reducible refine below_wov ?_ ?_ _) | (with_reducible refine below_drewN ?_ _) | (with_reducible refine Below.drew ?_) | (with_reducible refine Below.alloc ?_ ?_ _) | (with_reducible refine Below.setCell ?_ ?_ _) | (with_reducible exact Nat.le_refl _) | omega | (simp only [World.size_alloc, World.size_setCell, World.size_drew, Wov_size, World.heap_drewN]; omega)))), m6_3.below (by (repeat' (first | (with_reducible assumption) | (with_reducible exact Below.refl _ _) | (with_reducible refine below_wov ?_ ?_ _) | (with_reducible refine below_drewN ?_ _) | (with_reducible refine Below.drew ?_) | (with_reducible refine Below.alloc ?_ ?_ _) | (with_reducible refine Below.setCell ?_ ?_ _) | (with_reducible exact Nat.le_refl _) | omega | (simp only [World.size_alloc, World.size_setCell, World.size_drew, Wov_size, World.heap_drewN]; omega)))), m6_4.below (by (repeat' (first | (with_reducible assumption) | (with_reducible exact Below.refl _ _) | (with_reducible refine below_wov ?_ ?_ _) | (with_reducible refine below_drewN ?_ _) | (with_reducible refine Below.drew ?_) | (with_reducible refine Below.alloc ?_ ?_ _) | (with_reducible refine Below.setCell ?_ ?_ _) | (with_reducible exact Nat.le_refl _) | omega | (simp only [World.size_alloc, World.size_setCell, World.size_drew, Wov_size, World.heap_drewN]; omega)))), m6_5.below (by (repeat' (first | (with_reducible assumption) | (with_reducible exact Below.refl _ _) | (with_reducible refine below_wov ?_ ?_ _) | (with_reducible refine below_drewN ?_ _) | (with_reducible refine Below.drew ?_) | (with_reducible refine Below.alloc ?_ ?_ _) | (with_reducible refine Below.setCell ?_ ?_ _) | (with_reducible exact Nat.le_refl _) | omega | (simp only [World.size_alloc, World.size_setCell, World.size_drew, Wov_size, World.heap_drewN]; omega))))⟩ ?_
              rintro W7 ⟨hb7, m7_0, m7_1, m7_2, m7_3, m7_4, m7_5⟩
              clear hb6 f6_0_lt f6_0_c0 f6_0_c1 f6_0_c2 f6_0_c3 f6_0_c4 f6_0_c5 f6_1_lt f6_1_c0 f6_1_c1 f6_1_c2 f6_1_c3 f6_1_c4 f6_2_lt f6_2_c0 f6_2_c1 f6_2_c2 f6_2_c3 f6_3_lt f6_3_c0 f6_3_c1 f6_4_lt f6_4_c0 f6_4_c1 f6_4_c2 f6_4_c3 f6_4_c4 f6_4_c5 f6_5_lt f6_5_c0 f6_5_c1 f6_5_c2 f6_5_c3 f6_5_c4 f6_5_c5 m6_0 m6_1 m6_2 m6_3 m6_4 m6_5 hs6
              have hs7 := hb7.size
              have f7_0_lt := m7_0.lt
              have f7_0_c0 := m7_0.c0
              have f7_0_c1 := m7_0.c1
              have f7_0_c2 := m7_0.c2
              have f7_0_c3 := m7_0.c3
              have f7_0_c4 := m7_0.c4
              have f7_0_c5 := m7_0.c5
              have f7_1_lt := m7_1.lt
              have f7_1_c0 := m7_1.c0
              have f7_1_c1 := m7_1.c1
              have f7_1_c2 := m7_1.c2
              have f7_1_c3 := m7_1.c3
              have f7_1_c4 := m7_1.c4
              have f7_2_lt := m7_2.lt
              have f7_2_c0 := m7_2.c0
              have f7_2_c1 := m7_2.c1
              have f7_2_c2 := m7_2.c2
              have f7_2_c3 := m7_2.c3
              have f7_3_lt := m7_3.lt
              have f7_3_c0 := m7_3.c0
              have f7_3_c1 := m7_3.c1
              have f7_4_lt := m7_4.lt
              have f7_4_c0 := m7_4.c0
              have f7_4_c1 := m7_4.c1
              have f7_4_c2 := m7_4.c2
              have f7_4_c3 := m7_4.c3
              have f7_4_c4 := m7_4.c4
              have f7_4_c5 := m7_4.c5
              have f7_5_lt := m7_5.lt
              have f7_5_c0 := m7_5.c0
              have f7_5_c1 := m7_5.c1
              have f7_5_c2 := m7_5.c2
              have f7_5_c3 := m7_5.c3
              have f7_5_c4 := m7_5.c4
              have f7_5_c5 := m7_5.c5
              refine (N1.out _).mono ?_; rintro e w' ⟨rfl, qm, rfl⟩
              go_wp2
              all_goals
                go_ret
                exact gives_bool (by simp) (by (repeat' (first | (with_reducible assumption) | (with_reducible exact Below.refl _ _) | (with_reducible refine below_wov ?_ ?_ _) | (with_reducible refine below_drewN ?_ _) | (with_reducible refine Below.drew ?_) | (with_reducible refine Below.alloc ?_ ?_ _) | (with_reducible refine Below.setCell ?_ ?_ _) | (with_reducible exact Nat.le_refl _) | omega | (simp only [World.size_alloc, World.size_setCell, World.size_drew, Wov_size, World.heap_drewN]; omega))))
            · skip
              by_cases b6 : eb = 6
              · skip
                subst b6
                obtain ⟨k, N1, N3, _⟩ := P2.out (by simp)
                replace N3 := N3 (by simp)
                have N1 := Lib.hid N1
                simp only [Bool.true_and] at N3
                subst N3
                go_wp2_with (fail)
                refine calls_world (fun W => Below w.heap.size w W ∧ BoxZ W w.heap.size z ∧ BoxS W (w.heap.size + 1) s.lo s.ls s.hi s.hs s.op ∧ PtAt W (w.heap.size + 2) pa pb pc pd ∧ BoxR W AD d1 d2 ∧ BoxZ W AA ra) ⟨by (repeat' (first | (with_reducible assumption) | (with_reducible exact Below.refl _ _) | (with_reducible refine below_wov ?_ ?_ _) | (with_reducible refine below_drewN ?_ _) | (with_reducible refine Below.drew ?_) | (with_reducible refine Below.alloc ?_ ?_ _) | (with_reducible refine Below.setCell ?_ ?_ _) | (with_reducible exact Nat.le_refl _) | omega | (simp only [World.size_alloc, World.size_setCell, World.size_drew, Wov_size, World.heap_drewN]; omega))), m5_0.below (by (repeat' (first | (with_reducible assumption) | (with_reducible exact Below.refl _ _) | (with_reducible refine below_wov ?_ ?_ _) | (with_reducible refine below_drewN ?_ _) | (with_reducible refine Below.drew ?_) | (with_reducible refine Below.alloc ?_ ?_ _) | (with_reducible refine Below.setCell ?_ ?_ _) | (with_reducible exact Nat.le_refl _) | omega | (simp only [World.size_alloc, World.size_setCell, World.size_drew, Wov_size, World.heap_drewN]; omega)))), m5_1.below (by (repeat' (first | (with_reducible assumption) | (with_reducible exact Below.refl _ _) | (with_reducible refine below_wov ?_ ?_ _) | (with_reducible refine below_drewN ?_ _) | (with_reducible refine Below.drew ?_) | (with_reducible refine Below.alloc ?_ ?_ _) | (with_reducible refine Below.setCell ?_ ?_ _) | (with_reducible exact Nat.le_refl _) | omega | (simp only [World.size_alloc, World.size_setCell, World.size_drew, Wov_size, World.heap_drewN]; omega)))), m5_2.below (by (repeat' (first | (with_reducible assumption) | (with_reducible exact Below.refl _ _) | (with_reducible refine below_wov ?_ ?_ _) | (with_reducible refine below_drewN ?_ _) | (with_reducible refine Below.drew ?_) | (with_reducible refine Below.alloc ?_ ?_ _) | (with_reducible refine Below.setCell ?_ ?_ _) | (with_reducible exact Nat.le_refl _) | omega | (simp only [World.size_alloc, World.size_setCell, World.size_drew, Wov_size, World.heap_drewN]; omega)))), m5_3.below (by (repeat' (first | (with_reducible assumption) | (with_reducible exact Below.refl _ _) | (with_reducible refine below_wov ?_ ?_ _) | (with_reducible refine below_drewN ?_ _) | (with_reducible refine Below.drew ?_) | (with_reducible refine Below.alloc ?_ ?_ _) | (with_reducible refine Below.setCell ?_ ?_ _) | (with_reducible exact Nat.le_refl _) | omega | (simp only [World.size_alloc, World.size_setCell, World.size_drew, Wov_size, World.heap_drewN]; omega)))), m5_4.below (by (repeat' (first | (with_reducible assumption) | (with_reducible exact Below.refl _ _) | (with_reducible refine below_wov ?_ ?_ _) | (with_reducible refine below_drewN ?_ _) | (with_reducible refine Below.drew ?_) | (with_reducible refine Below.alloc ?_ ?_ _) | (with_reducible refine Below.setCell ?_ ?_ _) | (with_reducible exact Nat.le_refl _) | omega | (simp only [World.size_alloc, World.size_setCell, World.size_drew, Wov_size, World.heap_drewN]; omega))))⟩ ?_
                rintro W6 ⟨hb6, m6_0, m6_1, m6_2, m6_3, m6_4⟩
                clear hb5 f5_0_lt f5_0_c0 f5_0_c1 f5_0_c2 f5_0_c3 f5_0_c4 f5_0_c5 f5_1_lt f5_1_c0 f5_1_c1 f5_1_c2 f5_1_c3 f5_1_c4 f5_2_lt f5_2_c0 f5_2_c1 f5_2_c2 f5_2_c3 f5_3_lt f5_3_c0 f5_3_c1 f5_4_lt f5_4_c0 f5_4_c1 f5_4_c2 f5_4_c3 f5_4_c4 f5_4_c5 m5_0 m5_1 m5_2 m5_3 m5_4 hs5
                have hs6 := hb6.size
                have f6_0_lt := m6_0.lt
                have f6_0_c0 := m6_0.c0
                have f6_0_c1 := m6_0.c1
                have f6_0_c2 := m6_0.c2
                have f6_0_c3 := m6_0.c3
                have f6_0_c4 := m6_0.c4
                have f6_0_c5 := m6_0.c5
                have f6_1_lt := m6_1.lt
                have f6_1_c0 := m6_1.c0
                have f6_1_c1 := m6_1.c1
                have f6_1_c2 := m6_1.c2
                have f6_1_c3 := m6_1.c3
                have f6_1_c4 := m6_1.c4
                have f6_2_lt := m6_2.lt
                have f6_2_c0 := m6_2.c0
                have f6_2_c1 := m6_2.c1
                have f6_2_c2 := m6_2.c2
                have f6_2_c3 := m6_2.c3
                have f6_3_lt := m6_3.lt
                have f6_3_c0 := m6_3.c0
                have f6_3_c1 := m6_3.c1
                have f6_4_lt := m6_4.lt
                have f6_4_c0 := m6_4.c0
                have f6_4_c1 := m6_4.c1
                have f6_4_c2 := m6_4.c2
                have f6_4_c3 := m6_4.c3
                have f6_4_c4 := m6_4.c4
                have f6_4_c5 := m6_4.c5
                refine (N1.out _).mono ?_; rintro e w' ⟨rfl, qm, rfl⟩
                go_wp2
                all_goals
                  go_ret
                  exact gives_bool (by simp) (by (repeat' (first | (with_reducible assumption) | (with_reducible exact Below.refl _ _) | (with_reducible refine below_wov ?_ ?_ _) | (with_reducible refine below_drewN ?_ _) | (with_reducible refine Below.drew ?_) | (with_reducible refine Below.alloc ?_ ?_ _) | (with_reducible refine Below.setCell ?_ ?_ _) | (with_reducible exact Nat.le_refl _) | omega | (simp only [World.size_alloc, World.size_setCell, World.size_drew, Wov_size, World.heap_drewN]; omega))))
              · skip
                have bb0 : (eb != 0) = true := by rw [bne_iff_ne]; exact b0
                have bb6 : (eb != 6) = true := by rw [bne_iff_ne]; exact b6
                have bb1 : (eb == 0) = false := by rw [beq_eq_false_iff_ne]; exact b0
                clear P2 b0 b6
                go_wp2
                all_goals
                  go_ret
                  exact gives_bool (by simp) (by (repeat' (first | (with_reducible assumption) | (with_reducible exact Below.refl _ _) | (with_reducible refine below_wov ?_ ?_ _) | (with_reducible refine below_drewN ?_ _) | (with_reducible refine Below.drew ?_) | (with_reducible refine Below.alloc ?_ ?_ _) | (with_reducible refine Below.setCell ?_ ?_ _) | (with_reducible exact Nat.le_refl _) | omega | (simp only [World.size_alloc, World.size_setCell, World.size_drew, Wov_size, World.heap_drewN]; omega))))
  · skip
    have bk : (e != 0) = true := by rw [bne_iff_ne]; exact k1
    clear HP Ca Cb
    go_wp2
    all_goals
      go_ret
      exact gives_bool (by simp) (by (repeat' (first | (with_reducible assumption) | (with_reducible exact Below.refl _ _) | (with_reducible refine below_wov ?_ ?_ _) | (with_reducible refine below_drewN ?_ _) | (with_reducible refine Below.drew ?_) | (with_reducible refine Below.alloc ?_ ?_ _) | (with_reducible refine Below.setCell ?_ ?_ _) | (with_reducible exact Nat.le_refl _) | omega | (simp only [World.size_alloc, World.size_setCell, World.size_drew, Wov_size, World.heap_drewN]; omega))))
theorem walk (z0 : Nat → Int) (wz0 : FitsZ z0) (lo1 : Int) (ls1 : Bool) (hi1 : Int) (hs1 op1 : Bool) (wlo1 : fits64 lo1) (whi1 : fits64 hi1) (a2 : Int) (wa2 : (Lit.int .i64 a2).wf = true) (a3 : Int) (wa3 : (Lit.int .i64 a3).wf = true) (pa4 pb4 pc4 pd4 : Int) (wp4 : fits64 pa4) (wq4 : fits64 pb4) (wr4 : fits64 pc4) (ws4 : fits64 pd4) (w : World) : Calls Try.prog 9 #[zoneV z0, .agg #[.int .i64 lo1, .bool ls1, .int .i64 hi1, .bool hs1, .bool op1], .int .i64 a2, .int .i64 a3, .agg #[.int .i64 pa4, .int .i64 pb4, .int .i64 pc4, .int .i64 pd4]] w (Gives w (.bool true)) := walk0 z0 wz0 ⟨lo1, ls1, hi1, hs1, op1⟩ wlo1 whi1 a2 (fits_of_wf wa2) a3 (fits_of_wf wa3) pa4 pb4 pc4 pd4 wp4 wq4 wr4 ws4 w
end Go.Proofs.Ytbgbhfcnadjhdaa.winPoints
