/- The law ZonePicks (walk): a picked point is in its zone, and, where one lies in another one, in that. No condition. -/
import Derived.Test.YtnjhjgkekmjmdaaH10
namespace Go.Proofs.Ytnjhjgkekmjmdaa.zonePicks
open Go.ChangeShapes Go.WideShapes Go.ChangeAt Go.RowKit
set_option linter.unusedVariables false
set_option linter.unusedSimpArgs false
attribute [local go_sem] Nat.add_assoc Nat.add_lt_add_iff_left lit_lt_add

set_option maxRecDepth 100000 in
set_option maxHeartbeats 16000000 in
theorem walk (a : Nat → Int) (wa : FitsZ a) (b : Nat → Int) (wb : FitsZ b) (w : World) :
    Calls Try.prog 22 #[zoneV a, zoneV b] w (Gives w (.bool true)) := by
  have HA := Lib.hid alive8
  obtain ⟨⟨T, e⟩, hT⟩ : ∃ r, r = pickZ a := ⟨_, rfl⟩
  obtain ⟨l1, l2⟩ := zpicks_law hT
  obtain ⟨⟨x, f⟩, hx⟩ : ∃ r, r = inZ a b := ⟨_, rfl⟩
  obtain ⟨p1, hp1⟩ : ∃ p, p = T 0 := ⟨_, rfl⟩
  obtain ⟨p2, hp2⟩ : ∃ p, p = T 1 := ⟨_, rfl⟩
  obtain ⟨pa, pb⟩ := p1
  obtain ⟨pc, pd⟩ := p2
  have PK : Hid (∀ w, Calls Try.prog 68 #[.agg #[.int .i64 (a 0), .int .i64 (a 1), .int .i64 (a 2), .int .i64 (a 3), .int .i64 (a 4), .int .i64 (a 5)]] w (Gives w (.tuple #[.agg #[.int .i64 pa, .int .i64 pb, .int .i64 pc, .int .i64 pd], .int .i64 e]))) := fun w => by
    have := zpick_any a w wa
    rw [← hT] at this
    unfold pointR pointV at this
    simp only [← hp1, ← hp2] at this
    exact this
  have IN : Hid (∀ w, Calls Try.prog 53 #[.agg #[.int .i64 (a 0), .int .i64 (a 1), .int .i64 (a 2), .int .i64 (a 3), .int .i64 (a 4), .int .i64 (a 5)], .agg #[.int .i64 (b 0), .int .i64 (b 1), .int .i64 (b 2), .int .i64 (b 3), .int .i64 (b 4), .int .i64 (b 5)]] w (Gives w (.tuple #[.bool x, .int .i64 f]))) := fun w => by
    have := zin_any a b w wa wb
    rw [← hx] at this
    exact this
  by_cases he : e = 0
  · skip
    obtain ⟨ok, fT, h1, l3⟩ := l2 he
    subst he
    have l4 := l3 b x f hx
    have hT2 : ∀ z, hasZ z T = hasZ z (pt pa pb pc pd) := fun z => by
      unfold hasZ
      rw [← hp1, ← hp2]
      have : keepsD 3 9 (zF z) 2 T = keepsD 3 9 (zF z) 2 (pt pa pb pc pd) := keepsD_two (by rw [← hp1]; rfl) (by rw [← hp2]; rfl)
      rw [this]; rfl
    rw [hT2] at h1 l4
    have ft0 := fT 0 (by omega)
    have ft1 := fT 1 (by omega)
    rw [← hp1] at ft0
    rw [← hp2] at ft1
    have H1 : Hid (∀ w, Calls Try.prog 59 #[.agg #[.int .i64 (a 0), .int .i64 (a 1), .int .i64 (a 2), .int .i64 (a 3), .int .i64 (a 4), .int .i64 (a 5)], .agg #[.int .i64 pa, .int .i64 pb, .int .i64 pc, .int .i64 pd]] w (Gives w (.tuple #[.bool true, .int .i64 0]))) := fun w => by
      have := zhas_any a pa pb pc pd w wa ft0.1 ft0.2 ft1.1 ft1.2
      rw [h1] at this
      exact this
    by_cases hf : f = 0
    · skip
      obtain ⟨it, h2, h3⟩ := l4 hf
      subst hf
      have H2 : Hid (∀ w, Calls Try.prog 59 #[.agg #[.int .i64 (b 0), .int .i64 (b 1), .int .i64 (b 2), .int .i64 (b 3), .int .i64 (b 4), .int .i64 (b 5)], .agg #[.int .i64 pa, .int .i64 pb, .int .i64 pc, .int .i64 pd]] w (Gives w (.tuple #[.bool it, .int .i64 0]))) := fun w => by
        have := zhas_any b pa pb pc pd w wb ft0.1 ft0.2 ft1.1 ft1.2
        rw [h2] at this
        exact this
      have H3 := Lib.hid h3
      clear l1 l2 l3 l4 hT hT2 hx hp1 hp2 fT ft0 ft1 ok h1 h2 h3 wa wb
      unfold zoneV
      go_enter Try.func22, Try.ntmps22
      go_wp2_with (fail)
      refine calls_world (fun W => Below w.heap.size w W ∧ BoxZ W w.heap.size a ∧ BoxZ W (w.heap.size + 1) b) ⟨by (repeat' (first | (with_reducible assumption) | (with_reducible exact Below.refl _ _) | (with_reducible refine below_wov ?_ ?_ _) | (with_reducible refine below_drewN ?_ _) | (with_reducible refine Below.drew ?_) | (with_reducible refine Below.alloc ?_ ?_ _) | (with_reducible refine Below.setCell ?_ ?_ _) | (with_reducible exact Nat.le_refl _) | omega | (simp only [World.size_alloc, World.size_setCell, World.size_drew, Wov_size, World.heap_drewN]; omega))), (BoxZ.new (W := w) (t := 26) (by simp)).below (by (repeat' (first | (with_reducible assumption) | (with_reducible exact Below.refl _ _) | (with_reducible refine below_wov ?_ ?_ _) | (with_reducible refine below_drewN ?_ _) | (with_reducible refine Below.drew ?_) | (with_reducible refine Below.alloc ?_ ?_ _) | (with_reducible refine Below.setCell ?_ ?_ _) | (with_reducible exact Nat.le_refl _) | omega | (simp only [World.size_alloc, World.size_setCell, World.size_drew, Wov_size, World.heap_drewN]; omega)))), (BoxZ.new (W := (World.alloc w (.cells #[.int .i64 (a 0), .int .i64 (a 1), .int .i64 (a 2), .int .i64 (a 3), .int .i64 (a 4), .int .i64 (a 5)] 26))) (t := 26) (by simp)).below (by (repeat' (first | (with_reducible assumption) | (with_reducible exact Below.refl _ _) | (with_reducible refine below_wov ?_ ?_ _) | (with_reducible refine below_drewN ?_ _) | (with_reducible refine Below.drew ?_) | (with_reducible refine Below.alloc ?_ ?_ _) | (with_reducible refine Below.setCell ?_ ?_ _) | (with_reducible exact Nat.le_refl _) | omega | (simp only [World.size_alloc, World.size_setCell, World.size_drew, Wov_size, World.heap_drewN]; omega))))⟩ ?_
      rintro W1 ⟨hb1, m1_0, m1_1⟩
      have f1_0_lt := m1_0.lt
      have f1_0_c0 := m1_0.c0
      have f1_0_c1 := m1_0.c1
      have f1_0_c2 := m1_0.c2
      have f1_0_c3 := m1_0.c3
      have f1_0_c4 := m1_0.c4
      have f1_0_c5 := m1_0.c5
      have f1_1_lt := m1_1.lt
      have f1_1_c0 := m1_1.c0
      have f1_1_c1 := m1_1.c1
      have f1_1_c2 := m1_1.c2
      have f1_1_c3 := m1_1.c3
      have f1_1_c4 := m1_1.c4
      have f1_1_c5 := m1_1.c5
      refine (HA.out _).mono ?_; rintro e w' ⟨rfl, q0, rfl⟩
      go_wp2_with (fail)
      refine calls_world (fun W => Below w.heap.size w W ∧ BoxZ W w.heap.size a ∧ BoxZ W (w.heap.size + 1) b) ⟨by (repeat' (first | (with_reducible assumption) | (with_reducible exact Below.refl _ _) | (with_reducible refine below_wov ?_ ?_ _) | (with_reducible refine below_drewN ?_ _) | (with_reducible refine Below.drew ?_) | (with_reducible refine Below.alloc ?_ ?_ _) | (with_reducible refine Below.setCell ?_ ?_ _) | (with_reducible exact Nat.le_refl _) | omega | (simp only [World.size_alloc, World.size_setCell, World.size_drew, Wov_size, World.heap_drewN]; omega))), m1_0.below (by (repeat' (first | (with_reducible assumption) | (with_reducible exact Below.refl _ _) | (with_reducible refine below_wov ?_ ?_ _) | (with_reducible refine below_drewN ?_ _) | (with_reducible refine Below.drew ?_) | (with_reducible refine Below.alloc ?_ ?_ _) | (with_reducible refine Below.setCell ?_ ?_ _) | (with_reducible exact Nat.le_refl _) | omega | (simp only [World.size_alloc, World.size_setCell, World.size_drew, Wov_size, World.heap_drewN]; omega)))), m1_1.below (by (repeat' (first | (with_reducible assumption) | (with_reducible exact Below.refl _ _) | (with_reducible refine below_wov ?_ ?_ _) | (with_reducible refine below_drewN ?_ _) | (with_reducible refine Below.drew ?_) | (with_reducible refine Below.alloc ?_ ?_ _) | (with_reducible refine Below.setCell ?_ ?_ _) | (with_reducible exact Nat.le_refl _) | omega | (simp only [World.size_alloc, World.size_setCell, World.size_drew, Wov_size, World.heap_drewN]; omega))))⟩ ?_
      rintro W2 ⟨hb2, m2_0, m2_1⟩
      clear hb1 f1_0_lt f1_0_c0 f1_0_c1 f1_0_c2 f1_0_c3 f1_0_c4 f1_0_c5 f1_1_lt f1_1_c0 f1_1_c1 f1_1_c2 f1_1_c3 f1_1_c4 f1_1_c5 m1_0 m1_1
      have f2_0_lt := m2_0.lt
      have f2_0_c0 := m2_0.c0
      have f2_0_c1 := m2_0.c1
      have f2_0_c2 := m2_0.c2
      have f2_0_c3 := m2_0.c3
      have f2_0_c4 := m2_0.c4
      have f2_0_c5 := m2_0.c5
      have f2_1_lt := m2_1.lt
      have f2_1_c0 := m2_1.c0
      have f2_1_c1 := m2_1.c1
      have f2_1_c2 := m2_1.c2
      have f2_1_c3 := m2_1.c3
      have f2_1_c4 := m2_1.c4
      have f2_1_c5 := m2_1.c5
      refine (PK.out _).mono ?_; rintro e w' ⟨rfl, q1, rfl⟩
      go_wp2_with (fail)
      obtain ⟨A1, hA1⟩ : ∃ A, W2.heap.size + q1.bl.size = A := ⟨_, rfl⟩
      rw [hA1]
      refine calls_world (fun W => Below w.heap.size w W ∧ BoxZ W w.heap.size a ∧ BoxZ W (w.heap.size + 1) b ∧ PtAt W A1 pa pb pc pd) ⟨by (repeat' (first | (with_reducible assumption) | (with_reducible exact Below.refl _ _) | (with_reducible refine below_wov ?_ ?_ _) | (with_reducible refine below_drewN ?_ _) | (with_reducible refine Below.drew ?_) | (with_reducible refine Below.alloc ?_ ?_ _) | (with_reducible refine Below.setCell ?_ ?_ _) | (with_reducible exact Nat.le_refl _) | omega | (simp only [World.size_alloc, World.size_setCell, World.size_drew, Wov_size, World.heap_drewN]; omega))), m2_0.below (by (repeat' (first | (with_reducible assumption) | (with_reducible exact Below.refl _ _) | (with_reducible refine below_wov ?_ ?_ _) | (with_reducible refine below_drewN ?_ _) | (with_reducible refine Below.drew ?_) | (with_reducible refine Below.alloc ?_ ?_ _) | (with_reducible refine Below.setCell ?_ ?_ _) | (with_reducible exact Nat.le_refl _) | omega | (simp only [World.size_alloc, World.size_setCell, World.size_drew, Wov_size, World.heap_drewN]; omega)))), m2_1.below (by (repeat' (first | (with_reducible assumption) | (with_reducible exact Below.refl _ _) | (with_reducible refine below_wov ?_ ?_ _) | (with_reducible refine below_drewN ?_ _) | (with_reducible refine Below.drew ?_) | (with_reducible refine Below.alloc ?_ ?_ _) | (with_reducible refine Below.setCell ?_ ?_ _) | (with_reducible exact Nat.le_refl _) | omega | (simp only [World.size_alloc, World.size_setCell, World.size_drew, Wov_size, World.heap_drewN]; omega)))), PtAt.new (by rw [← hA1]; (try simp only [Wov_size]))⟩ ?_
      rintro W3 ⟨hb3, m3_0, m3_1, m3_2⟩
      clear hb2 f2_0_lt f2_0_c0 f2_0_c1 f2_0_c2 f2_0_c3 f2_0_c4 f2_0_c5 f2_1_lt f2_1_c0 f2_1_c1 f2_1_c2 f2_1_c3 f2_1_c4 f2_1_c5 m2_0 m2_1
      have f3_0_lt := m3_0.lt
      have f3_0_c0 := m3_0.c0
      have f3_0_c1 := m3_0.c1
      have f3_0_c2 := m3_0.c2
      have f3_0_c3 := m3_0.c3
      have f3_0_c4 := m3_0.c4
      have f3_0_c5 := m3_0.c5
      have f3_1_lt := m3_1.lt
      have f3_1_c0 := m3_1.c0
      have f3_1_c1 := m3_1.c1
      have f3_1_c2 := m3_1.c2
      have f3_1_c3 := m3_1.c3
      have f3_1_c4 := m3_1.c4
      have f3_1_c5 := m3_1.c5
      have f3_2_lt := m3_2.lt
      have f3_2_c0 := m3_2.c0
      have f3_2_c1 := m3_2.c1
      have f3_2_c2 := m3_2.c2
      have f3_2_c3 := m3_2.c3
      clear hA1 HA PK
      refine (H1.out _).mono ?_; rintro e w' ⟨rfl, q2, rfl⟩
      go_wp2_with (fail)
      refine calls_world (fun W => Below w.heap.size w W ∧ BoxZ W w.heap.size a ∧ BoxZ W (w.heap.size + 1) b ∧ PtAt W A1 pa pb pc pd) ⟨by (repeat' (first | (with_reducible assumption) | (with_reducible exact Below.refl _ _) | (with_reducible refine below_wov ?_ ?_ _) | (with_reducible refine below_drewN ?_ _) | (with_reducible refine Below.drew ?_) | (with_reducible refine Below.alloc ?_ ?_ _) | (with_reducible refine Below.setCell ?_ ?_ _) | (with_reducible exact Nat.le_refl _) | omega | (simp only [World.size_alloc, World.size_setCell, World.size_drew, Wov_size, World.heap_drewN]; omega))), m3_0.below (by (repeat' (first | (with_reducible assumption) | (with_reducible exact Below.refl _ _) | (with_reducible refine below_wov ?_ ?_ _) | (with_reducible refine below_drewN ?_ _) | (with_reducible refine Below.drew ?_) | (with_reducible refine Below.alloc ?_ ?_ _) | (with_reducible refine Below.setCell ?_ ?_ _) | (with_reducible exact Nat.le_refl _) | omega | (simp only [World.size_alloc, World.size_setCell, World.size_drew, Wov_size, World.heap_drewN]; omega)))), m3_1.below (by (repeat' (first | (with_reducible assumption) | (with_reducible exact Below.refl _ _) | (with_reducible refine below_wov ?_ ?_ _) | (with_reducible refine below_drewN ?_ _) | (with_reducible refine Below.drew ?_) | (with_reducible refine Below.alloc ?_ ?_ _) | (with_reducible refine Below.setCell ?_ ?_ _) | (with_reducible exact Nat.le_refl _) | omega | (simp only [World.size_alloc, World.size_setCell, World.size_drew, Wov_size, World.heap_drewN]; omega)))), m3_2.below (by (repeat' (first | (with_reducible assumption) | (with_reducible exact Below.refl _ _) | (with_reducible refine below_wov ?_ ?_ _) | (with_reducible refine below_drewN ?_ _) | (with_reducible refine Below.drew ?_) | (with_reducible refine Below.alloc ?_ ?_ _) | (with_reducible refine Below.setCell ?_ ?_ _) | (with_reducible exact Nat.le_refl _) | omega | (simp only [World.size_alloc, World.size_setCell, World.size_drew, Wov_size, World.heap_drewN]; omega))))⟩ ?_
      rintro W4 ⟨hb4, m4_0, m4_1, m4_2⟩
      clear hb3 f3_0_lt f3_0_c0 f3_0_c1 f3_0_c2 f3_0_c3 f3_0_c4 f3_0_c5 f3_1_lt f3_1_c0 f3_1_c1 f3_1_c2 f3_1_c3 f3_1_c4 f3_1_c5 f3_2_lt f3_2_c0 f3_2_c1 f3_2_c2 f3_2_c3 m3_0 m3_1 m3_2
      have f4_0_lt := m4_0.lt
      have f4_0_c0 := m4_0.c0
      have f4_0_c1 := m4_0.c1
      have f4_0_c2 := m4_0.c2
      have f4_0_c3 := m4_0.c3
      have f4_0_c4 := m4_0.c4
      have f4_0_c5 := m4_0.c5
      have f4_1_lt := m4_1.lt
      have f4_1_c0 := m4_1.c0
      have f4_1_c1 := m4_1.c1
      have f4_1_c2 := m4_1.c2
      have f4_1_c3 := m4_1.c3
      have f4_1_c4 := m4_1.c4
      have f4_1_c5 := m4_1.c5
      have f4_2_lt := m4_2.lt
      have f4_2_c0 := m4_2.c0
      have f4_2_c1 := m4_2.c1
      have f4_2_c2 := m4_2.c2
      have f4_2_c3 := m4_2.c3
      refine (IN.out _).mono ?_; rintro e w' ⟨rfl, q3, rfl⟩
      go_wp2_with (fail)
      refine calls_world (fun W => Below w.heap.size w W ∧ BoxZ W w.heap.size a ∧ BoxZ W (w.heap.size + 1) b ∧ PtAt W A1 pa pb pc pd) ⟨by (repeat' (first | (with_reducible assumption) | (with_reducible exact Below.refl _ _) | (with_reducible refine below_wov ?_ ?_ _) | (with_reducible refine below_drewN ?_ _) | (with_reducible refine Below.drew ?_) | (with_reducible refine Below.alloc ?_ ?_ _) | (with_reducible refine Below.setCell ?_ ?_ _) | (with_reducible exact Nat.le_refl _) | omega | (simp only [World.size_alloc, World.size_setCell, World.size_drew, Wov_size, World.heap_drewN]; omega))), m4_0.below (by (repeat' (first | (with_reducible assumption) | (with_reducible exact Below.refl _ _) | (with_reducible refine below_wov ?_ ?_ _) | (with_reducible refine below_drewN ?_ _) | (with_reducible refine Below.drew ?_) | (with_reducible refine Below.alloc ?_ ?_ _) | (with_reducible refine Below.setCell ?_ ?_ _) | (with_reducible exact Nat.le_refl _) | omega | (simp only [World.size_alloc, World.size_setCell, World.size_drew, Wov_size, World.heap_drewN]; omega)))), m4_1.below (by (repeat' (first | (with_reducible assumption) | (with_reducible exact Below.refl _ _) | (with_reducible refine below_wov ?_ ?_ _) | (with_reducible refine below_drewN ?_ _) | (with_reducible refine Below.drew ?_) | (with_reducible refine Below.alloc ?_ ?_ _) | (with_reducible refine Below.setCell ?_ ?_ _) | (with_reducible exact Nat.le_refl _) | omega | (simp only [World.size_alloc, World.size_setCell, World.size_drew, Wov_size, World.heap_drewN]; omega)))), m4_2.below (by (repeat' (first | (with_reducible assumption) | (with_reducible exact Below.refl _ _) | (with_reducible refine below_wov ?_ ?_ _) | (with_reducible refine below_drewN ?_ _) | (with_reducible refine Below.drew ?_) | (with_reducible refine Below.alloc ?_ ?_ _) | (with_reducible refine Below.setCell ?_ ?_ _) | (with_reducible exact Nat.le_refl _) | omega | (simp only [World.size_alloc, World.size_setCell, World.size_drew, Wov_size, World.heap_drewN]; omega))))⟩ ?_
      rintro W5 ⟨hb5, m5_0, m5_1, m5_2⟩
      clear hb4 f4_0_lt f4_0_c0 f4_0_c1 f4_0_c2 f4_0_c3 f4_0_c4 f4_0_c5 f4_1_lt f4_1_c0 f4_1_c1 f4_1_c2 f4_1_c3 f4_1_c4 f4_1_c5 f4_2_lt f4_2_c0 f4_2_c1 f4_2_c2 f4_2_c3 m4_0 m4_1 m4_2
      have f5_0_lt := m5_0.lt
      have f5_0_c0 := m5_0.c0
      have f5_0_c1 := m5_0.c1
      have f5_0_c2 := m5_0.c2
      have f5_0_c3 := m5_0.c3
      have f5_0_c4 := m5_0.c4
      have f5_0_c5 := m5_0.c5
      have f5_1_lt := m5_1.lt
      have f5_1_c0 := m5_1.c0
      have f5_1_c1 := m5_1.c1
      have f5_1_c2 := m5_1.c2
      have f5_1_c3 := m5_1.c3
      have f5_1_c4 := m5_1.c4
      have f5_1_c5 := m5_1.c5
      have f5_2_lt := m5_2.lt
      have f5_2_c0 := m5_2.c0
      have f5_2_c1 := m5_2.c1
      have f5_2_c2 := m5_2.c2
      have f5_2_c3 := m5_2.c3
      refine (H2.out _).mono ?_; rintro e w' ⟨rfl, q4, rfl⟩
      clear H1 H2 IN
      have h3 := H3.out
      clear H3
      cases x <;> cases it
      all_goals first
        | (exfalso; simp at h3; done)
        | (clear h3; go_wp2; all_goals (go_ret; exact gives_bool (by simp) (by (repeat' (first | (with_reducible assumption) | (with_reducible exact Below.refl _ _) | (with_reducible refine below_wov ?_ ?_ _) | (with_reducible refine below_drewN ?_ _) | (with_reducible refine Below.drew ?_) | (with_reducible refine Below.alloc ?_ ?_ _) | (with_reducible refine Below.setCell ?_ ?_ _) | (with_reducible exact Nat.le_refl _) | omega | (simp only [World.size_alloc, World.size_setCell, World.size_drew, Wov_size, World.heap_drewN]; omega))))))
    · skip
      have bf : (f != 0) = true := by rw [bne_iff_ne]; exact hf
      clear l1 l2 l3 l4 hT hT2 hx hp1 hp2 fT ft0 ft1 ok h1 hf wa wb
      unfold zoneV
      go_enter Try.func22, Try.ntmps22
      go_wp2_with (fail)
      refine calls_world (fun W => Below w.heap.size w W ∧ BoxZ W w.heap.size a ∧ BoxZ W (w.heap.size + 1) b) ⟨by (repeat' (first | (with_reducible assumption) | (with_reducible exact Below.refl _ _) | (with_reducible refine below_wov ?_ ?_ _) | (with_reducible refine below_drewN ?_ _) | (with_reducible refine Below.drew ?_) | (with_reducible refine Below.alloc ?_ ?_ _) | (with_reducible refine Below.setCell ?_ ?_ _) | (with_reducible exact Nat.le_refl _) | omega | (simp only [World.size_alloc, World.size_setCell, World.size_drew, Wov_size, World.heap_drewN]; omega))), (BoxZ.new (W := w) (t := 26) (by simp)).below (by (repeat' (first | (with_reducible assumption) | (with_reducible exact Below.refl _ _) | (with_reducible refine below_wov ?_ ?_ _) | (with_reducible refine below_drewN ?_ _) | (with_reducible refine Below.drew ?_) | (with_reducible refine Below.alloc ?_ ?_ _) | (with_reducible refine Below.setCell ?_ ?_ _) | (with_reducible exact Nat.le_refl _) | omega | (simp only [World.size_alloc, World.size_setCell, World.size_drew, Wov_size, World.heap_drewN]; omega)))), (BoxZ.new (W := (World.alloc w (.cells #[.int .i64 (a 0), .int .i64 (a 1), .int .i64 (a 2), .int .i64 (a 3), .int .i64 (a 4), .int .i64 (a 5)] 26))) (t := 26) (by simp)).below (by (repeat' (first | (with_reducible assumption) | (with_reducible exact Below.refl _ _) | (with_reducible refine below_wov ?_ ?_ _) | (with_reducible refine below_drewN ?_ _) | (with_reducible refine Below.drew ?_) | (with_reducible refine Below.alloc ?_ ?_ _) | (with_reducible refine Below.setCell ?_ ?_ _) | (with_reducible exact Nat.le_refl _) | omega | (simp only [World.size_alloc, World.size_setCell, World.size_drew, Wov_size, World.heap_drewN]; omega))))⟩ ?_
      rintro W1 ⟨hb1, m1_0, m1_1⟩
      have f1_0_lt := m1_0.lt
      have f1_0_c0 := m1_0.c0
      have f1_0_c1 := m1_0.c1
      have f1_0_c2 := m1_0.c2
      have f1_0_c3 := m1_0.c3
      have f1_0_c4 := m1_0.c4
      have f1_0_c5 := m1_0.c5
      have f1_1_lt := m1_1.lt
      have f1_1_c0 := m1_1.c0
      have f1_1_c1 := m1_1.c1
      have f1_1_c2 := m1_1.c2
      have f1_1_c3 := m1_1.c3
      have f1_1_c4 := m1_1.c4
      have f1_1_c5 := m1_1.c5
      refine (HA.out _).mono ?_; rintro e w' ⟨rfl, q0, rfl⟩
      go_wp2_with (fail)
      refine calls_world (fun W => Below w.heap.size w W ∧ BoxZ W w.heap.size a ∧ BoxZ W (w.heap.size + 1) b) ⟨by (repeat' (first | (with_reducible assumption) | (with_reducible exact Below.refl _ _) | (with_reducible refine below_wov ?_ ?_ _) | (with_reducible refine below_drewN ?_ _) | (with_reducible refine Below.drew ?_) | (with_reducible refine Below.alloc ?_ ?_ _) | (with_reducible refine Below.setCell ?_ ?_ _) | (with_reducible exact Nat.le_refl _) | omega | (simp only [World.size_alloc, World.size_setCell, World.size_drew, Wov_size, World.heap_drewN]; omega))), m1_0.below (by (repeat' (first | (with_reducible assumption) | (with_reducible exact Below.refl _ _) | (with_reducible refine below_wov ?_ ?_ _) | (with_reducible refine below_drewN ?_ _) | (with_reducible refine Below.drew ?_) | (with_reducible refine Below.alloc ?_ ?_ _) | (with_reducible refine Below.setCell ?_ ?_ _) | (with_reducible exact Nat.le_refl _) | omega | (simp only [World.size_alloc, World.size_setCell, World.size_drew, Wov_size, World.heap_drewN]; omega)))), m1_1.below (by (repeat' (first | (with_reducible assumption) | (with_reducible exact Below.refl _ _) | (with_reducible refine below_wov ?_ ?_ _) | (with_reducible refine below_drewN ?_ _) | (with_reducible refine Below.drew ?_) | (with_reducible refine Below.alloc ?_ ?_ _) | (with_reducible refine Below.setCell ?_ ?_ _) | (with_reducible exact Nat.le_refl _) | omega | (simp only [World.size_alloc, World.size_setCell, World.size_drew, Wov_size, World.heap_drewN]; omega))))⟩ ?_
      rintro W2 ⟨hb2, m2_0, m2_1⟩
      clear hb1 f1_0_lt f1_0_c0 f1_0_c1 f1_0_c2 f1_0_c3 f1_0_c4 f1_0_c5 f1_1_lt f1_1_c0 f1_1_c1 f1_1_c2 f1_1_c3 f1_1_c4 f1_1_c5 m1_0 m1_1
      have f2_0_lt := m2_0.lt
      have f2_0_c0 := m2_0.c0
      have f2_0_c1 := m2_0.c1
      have f2_0_c2 := m2_0.c2
      have f2_0_c3 := m2_0.c3
      have f2_0_c4 := m2_0.c4
      have f2_0_c5 := m2_0.c5
      have f2_1_lt := m2_1.lt
      have f2_1_c0 := m2_1.c0
      have f2_1_c1 := m2_1.c1
      have f2_1_c2 := m2_1.c2
      have f2_1_c3 := m2_1.c3
      have f2_1_c4 := m2_1.c4
      have f2_1_c5 := m2_1.c5
      refine (PK.out _).mono ?_; rintro e w' ⟨rfl, q1, rfl⟩
      go_wp2_with (fail)
      obtain ⟨A1, hA1⟩ : ∃ A, W2.heap.size + q1.bl.size = A := ⟨_, rfl⟩
      rw [hA1]
      refine calls_world (fun W => Below w.heap.size w W ∧ BoxZ W w.heap.size a ∧ BoxZ W (w.heap.size + 1) b ∧ PtAt W A1 pa pb pc pd) ⟨by (repeat' (first | (with_reducible assumption) | (with_reducible exact Below.refl _ _) | (with_reducible refine below_wov ?_ ?_ _) | (with_reducible refine below_drewN ?_ _) | (with_reducible refine Below.drew ?_) | (with_reducible refine Below.alloc ?_ ?_ _) | (with_reducible refine Below.setCell ?_ ?_ _) | (with_reducible exact Nat.le_refl _) | omega | (simp only [World.size_alloc, World.size_setCell, World.size_drew, Wov_size, World.heap_drewN]; omega))), m2_0.below (by (repeat' (first | (with_reducible assumption) | (with_reducible exact Below.refl _ _) | (with_reducible refine below_wov ?_ ?_ _) | (with_reducible refine below_drewN ?_ _) | (with_reducible refine Below.drew ?_) | (with_reducible refine Below.alloc ?_ ?_ _) | (with_reducible refine Below.setCell ?_ ?_ _) | (with_reducible exact Nat.le_refl _) | omega | (simp only [World.size_alloc, World.size_setCell, World.size_drew, Wov_size, World.heap_drewN]; omega)))), m2_1.below (by (repeat' (first | (with_reducible assumption) | (with_reducible exact Below.refl _ _) | (with_reducible refine below_wov ?_ ?_ _) | (with_reducible refine below_drewN ?_ _) | (with_reducible refine Below.drew ?_) | (with_reducible refine Below.alloc ?_ ?_ _) | (with_reducible refine Below.setCell ?_ ?_ _) | (with_reducible exact Nat.le_refl _) | omega | (simp only [World.size_alloc, World.size_setCell, World.size_drew, Wov_size, World.heap_drewN]; omega)))), PtAt.new (by rw [← hA1]; (try simp only [Wov_size]))⟩ ?_
      rintro W3 ⟨hb3, m3_0, m3_1, m3_2⟩
      clear hb2 f2_0_lt f2_0_c0 f2_0_c1 f2_0_c2 f2_0_c3 f2_0_c4 f2_0_c5 f2_1_lt f2_1_c0 f2_1_c1 f2_1_c2 f2_1_c3 f2_1_c4 f2_1_c5 m2_0 m2_1
      have f3_0_lt := m3_0.lt
      have f3_0_c0 := m3_0.c0
      have f3_0_c1 := m3_0.c1
      have f3_0_c2 := m3_0.c2
      have f3_0_c3 := m3_0.c3
      have f3_0_c4 := m3_0.c4
      have f3_0_c5 := m3_0.c5
      have f3_1_lt := m3_1.lt
      have f3_1_c0 := m3_1.c0
      have f3_1_c1 := m3_1.c1
      have f3_1_c2 := m3_1.c2
      have f3_1_c3 := m3_1.c3
      have f3_1_c4 := m3_1.c4
      have f3_1_c5 := m3_1.c5
      have f3_2_lt := m3_2.lt
      have f3_2_c0 := m3_2.c0
      have f3_2_c1 := m3_2.c1
      have f3_2_c2 := m3_2.c2
      have f3_2_c3 := m3_2.c3
      clear hA1 HA PK
      refine (H1.out _).mono ?_; rintro e w' ⟨rfl, q2, rfl⟩
      go_wp2_with (fail)
      refine calls_world (fun W => Below w.heap.size w W ∧ BoxZ W w.heap.size a ∧ BoxZ W (w.heap.size + 1) b ∧ PtAt W A1 pa pb pc pd) ⟨by (repeat' (first | (with_reducible assumption) | (with_reducible exact Below.refl _ _) | (with_reducible refine below_wov ?_ ?_ _) | (with_reducible refine below_drewN ?_ _) | (with_reducible refine Below.drew ?_) | (with_reducible refine Below.alloc ?_ ?_ _) | (with_reducible refine Below.setCell ?_ ?_ _) | (with_reducible exact Nat.le_refl _) | omega | (simp only [World.size_alloc, World.size_setCell, World.size_drew, Wov_size, World.heap_drewN]; omega))), m3_0.below (by (repeat' (first | (with_reducible assumption) | (with_reducible exact Below.refl _ _) | (with_reducible refine below_wov ?_ ?_ _) | (with_reducible refine below_drewN ?_ _) | (with_reducible refine Below.drew ?_) | (with_reducible refine Below.alloc ?_ ?_ _) | (with_reducible refine Below.setCell ?_ ?_ _) | (with_reducible exact Nat.le_refl _) | omega | (simp only [World.size_alloc, World.size_setCell, World.size_drew, Wov_size, World.heap_drewN]; omega)))), m3_1.below (by (repeat' (first | (with_reducible assumption) | (with_reducible exact Below.refl _ _) | (with_reducible refine below_wov ?_ ?_ _) | (with_reducible refine below_drewN ?_ _) | (with_reducible refine Below.drew ?_) | (with_reducible refine Below.alloc ?_ ?_ _) | (with_reducible refine Below.setCell ?_ ?_ _) | (with_reducible exact Nat.le_refl _) | omega | (simp only [World.size_alloc, World.size_setCell, World.size_drew, Wov_size, World.heap_drewN]; omega)))), m3_2.below (by (repeat' (first | (with_reducible assumption) | (with_reducible exact Below.refl _ _) | (with_reducible refine below_wov ?_ ?_ _) | (with_reducible refine below_drewN ?_ _) | (with_reducible refine Below.drew ?_) | (with_reducible refine Below.alloc ?_ ?_ _) | (with_reducible refine Below.setCell ?_ ?_ _) | (with_reducible exact Nat.le_refl _) | omega | (simp only [World.size_alloc, World.size_setCell, World.size_drew, Wov_size, World.heap_drewN]; omega))))⟩ ?_
      rintro W4 ⟨hb4, m4_0, m4_1, m4_2⟩
      clear hb3 f3_0_lt f3_0_c0 f3_0_c1 f3_0_c2 f3_0_c3 f3_0_c4 f3_0_c5 f3_1_lt f3_1_c0 f3_1_c1 f3_1_c2 f3_1_c3 f3_1_c4 f3_1_c5 f3_2_lt f3_2_c0 f3_2_c1 f3_2_c2 f3_2_c3 m3_0 m3_1 m3_2
      have f4_0_lt := m4_0.lt
      have f4_0_c0 := m4_0.c0
      have f4_0_c1 := m4_0.c1
      have f4_0_c2 := m4_0.c2
      have f4_0_c3 := m4_0.c3
      have f4_0_c4 := m4_0.c4
      have f4_0_c5 := m4_0.c5
      have f4_1_lt := m4_1.lt
      have f4_1_c0 := m4_1.c0
      have f4_1_c1 := m4_1.c1
      have f4_1_c2 := m4_1.c2
      have f4_1_c3 := m4_1.c3
      have f4_1_c4 := m4_1.c4
      have f4_1_c5 := m4_1.c5
      have f4_2_lt := m4_2.lt
      have f4_2_c0 := m4_2.c0
      have f4_2_c1 := m4_2.c1
      have f4_2_c2 := m4_2.c2
      have f4_2_c3 := m4_2.c3
      refine (IN.out _).mono ?_; rintro e w' ⟨rfl, q3, rfl⟩
      clear H1 IN
      go_wp2
      all_goals
        go_ret
        exact gives_bool (by simp) (by (repeat' (first | (with_reducible assumption) | (with_reducible exact Below.refl _ _) | (with_reducible refine below_wov ?_ ?_ _) | (with_reducible refine below_drewN ?_ _) | (with_reducible refine Below.drew ?_) | (with_reducible refine Below.alloc ?_ ?_ _) | (with_reducible refine Below.setCell ?_ ?_ _) | (with_reducible exact Nat.le_refl _) | omega | (simp only [World.size_alloc, World.size_setCell, World.size_drew, Wov_size, World.heap_drewN]; omega))))
  · skip
    obtain ⟨rfl, ok⟩ := l1 he
    have CK : Hid (∀ w, Calls Try.prog 58 #[.agg #[.int .i64 (a 0), .int .i64 (a 1), .int .i64 (a 2), .int .i64 (a 3), .int .i64 (a 4), .int .i64 (a 5)]] w (Gives w (.int .i64 8))) := fun w => by
      have := zcheck_any a w wa
      rw [ok] at this
      exact this
    clear l1 l2 he ok hT hx hp1 hp2 wa wb
    unfold zoneV
    go_enter Try.func22, Try.ntmps22
    go_wp2_with (fail)
    refine calls_world (fun W => Below w.heap.size w W ∧ BoxZ W w.heap.size a ∧ BoxZ W (w.heap.size + 1) b) ⟨by (repeat' (first | (with_reducible assumption) | (with_reducible exact Below.refl _ _) | (with_reducible refine below_wov ?_ ?_ _) | (with_reducible refine below_drewN ?_ _) | (with_reducible refine Below.drew ?_) | (with_reducible refine Below.alloc ?_ ?_ _) | (with_reducible refine Below.setCell ?_ ?_ _) | (with_reducible exact Nat.le_refl _) | omega | (simp only [World.size_alloc, World.size_setCell, World.size_drew, Wov_size, World.heap_drewN]; omega))), (BoxZ.new (W := w) (t := 26) (by simp)).below (by (repeat' (first | (with_reducible assumption) | (with_reducible exact Below.refl _ _) | (with_reducible refine below_wov ?_ ?_ _) | (with_reducible refine below_drewN ?_ _) | (with_reducible refine Below.drew ?_) | (with_reducible refine Below.alloc ?_ ?_ _) | (with_reducible refine Below.setCell ?_ ?_ _) | (with_reducible exact Nat.le_refl _) | omega | (simp only [World.size_alloc, World.size_setCell, World.size_drew, Wov_size, World.heap_drewN]; omega)))), (BoxZ.new (W := (World.alloc w (.cells #[.int .i64 (a 0), .int .i64 (a 1), .int .i64 (a 2), .int .i64 (a 3), .int .i64 (a 4), .int .i64 (a 5)] 26))) (t := 26) (by simp)).below (by (repeat' (first | (with_reducible assumption) | (with_reducible exact Below.refl _ _) | (with_reducible refine below_wov ?_ ?_ _) | (with_reducible refine below_drewN ?_ _) | (with_reducible refine Below.drew ?_) | (with_reducible refine Below.alloc ?_ ?_ _) | (with_reducible refine Below.setCell ?_ ?_ _) | (with_reducible exact Nat.le_refl _) | omega | (simp only [World.size_alloc, World.size_setCell, World.size_drew, Wov_size, World.heap_drewN]; omega))))⟩ ?_
    rintro W1 ⟨hb1, m1_0, m1_1⟩
    have f1_0_lt := m1_0.lt
    have f1_0_c0 := m1_0.c0
    have f1_0_c1 := m1_0.c1
    have f1_0_c2 := m1_0.c2
    have f1_0_c3 := m1_0.c3
    have f1_0_c4 := m1_0.c4
    have f1_0_c5 := m1_0.c5
    have f1_1_lt := m1_1.lt
    have f1_1_c0 := m1_1.c0
    have f1_1_c1 := m1_1.c1
    have f1_1_c2 := m1_1.c2
    have f1_1_c3 := m1_1.c3
    have f1_1_c4 := m1_1.c4
    have f1_1_c5 := m1_1.c5
    refine (HA.out _).mono ?_; rintro e w' ⟨rfl, q0, rfl⟩
    go_wp2_with (fail)
    refine calls_world (fun W => Below w.heap.size w W ∧ BoxZ W w.heap.size a ∧ BoxZ W (w.heap.size + 1) b) ⟨by (repeat' (first | (with_reducible assumption) | (with_reducible exact Below.refl _ _) | (with_reducible refine below_wov ?_ ?_ _) | (with_reducible refine below_drewN ?_ _) | (with_reducible refine Below.drew ?_) | (with_reducible refine Below.alloc ?_ ?_ _) | (with_reducible refine Below.setCell ?_ ?_ _) | (with_reducible exact Nat.le_refl _) | omega | (simp only [World.size_alloc, World.size_setCell, World.size_drew, Wov_size, World.heap_drewN]; omega))), m1_0.below (by (repeat' (first | (with_reducible assumption) | (with_reducible exact Below.refl _ _) | (with_reducible refine below_wov ?_ ?_ _) | (with_reducible refine below_drewN ?_ _) | (with_reducible refine Below.drew ?_) | (with_reducible refine Below.alloc ?_ ?_ _) | (with_reducible refine Below.setCell ?_ ?_ _) | (with_reducible exact Nat.le_refl _) | omega | (simp only [World.size_alloc, World.size_setCell, World.size_drew, Wov_size, World.heap_drewN]; omega)))), m1_1.below (by (repeat' (first | (with_reducible assumption) | (with_reducible exact Below.refl _ _) | (with_reducible refine below_wov ?_ ?_ _) | (with_reducible refine below_drewN ?_ _) | (with_reducible refine Below.drew ?_) | (with_reducible refine Below.alloc ?_ ?_ _) | (with_reducible refine Below.setCell ?_ ?_ _) | (with_reducible exact Nat.le_refl _) | omega | (simp only [World.size_alloc, World.size_setCell, World.size_drew, Wov_size, World.heap_drewN]; omega))))⟩ ?_
    rintro W2 ⟨hb2, m2_0, m2_1⟩
    clear hb1 f1_0_lt f1_0_c0 f1_0_c1 f1_0_c2 f1_0_c3 f1_0_c4 f1_0_c5 f1_1_lt f1_1_c0 f1_1_c1 f1_1_c2 f1_1_c3 f1_1_c4 f1_1_c5 m1_0 m1_1
    have f2_0_lt := m2_0.lt
    have f2_0_c0 := m2_0.c0
    have f2_0_c1 := m2_0.c1
    have f2_0_c2 := m2_0.c2
    have f2_0_c3 := m2_0.c3
    have f2_0_c4 := m2_0.c4
    have f2_0_c5 := m2_0.c5
    have f2_1_lt := m2_1.lt
    have f2_1_c0 := m2_1.c0
    have f2_1_c1 := m2_1.c1
    have f2_1_c2 := m2_1.c2
    have f2_1_c3 := m2_1.c3
    have f2_1_c4 := m2_1.c4
    have f2_1_c5 := m2_1.c5
    refine (PK.out _).mono ?_; rintro e w' ⟨rfl, q1, rfl⟩
    go_wp2_with (fail)
    obtain ⟨A1, hA1⟩ : ∃ A, W2.heap.size + q1.bl.size = A := ⟨_, rfl⟩
    rw [hA1]
    refine calls_world (fun W => Below w.heap.size w W ∧ BoxZ W w.heap.size a ∧ BoxZ W (w.heap.size + 1) b ∧ PtAt W A1 pa pb pc pd) ⟨by (repeat' (first | (with_reducible assumption) | (with_reducible exact Below.refl _ _) | (with_reducible refine below_wov ?_ ?_ _) | (with_reducible refine below_drewN ?_ _) | (with_reducible refine Below.drew ?_) | (with_reducible refine Below.alloc ?_ ?_ _) | (with_reducible refine Below.setCell ?_ ?_ _) | (with_reducible exact Nat.le_refl _) | omega | (simp only [World.size_alloc, World.size_setCell, World.size_drew, Wov_size, World.heap_drewN]; omega))), m2_0.below (by (repeat' (first | (with_reducible assumption) | (with_reducible exact Below.refl _ _) | (with_reducible refine below_wov ?_ ?_ _) | (with_reducible refine below_drewN ?_ _) | (with_reducible refine Below.drew ?_) | (with_reducible refine Below.alloc ?_ ?_ _) | (with_reducible refine Below.setCell ?_ ?_ _) | (with_reducible exact Nat.le_refl _) | omega | (simp only [World.size_alloc, World.size_setCell, World.size_drew, Wov_size, World.heap_drewN]; omega)))), m2_1.below (by (repeat' (first | (with_reducible assumption) | (with_reducible exact Below.refl _ _) | (with_reducible refine below_wov ?_ ?_ _) | (with_reducible refine below_drewN ?_ _) | (with_reducible refine Below.drew ?_) | (with_reducible refine Below.alloc ?_ ?_ _) | (with_reducible refine Below.setCell ?_ ?_ _) | (with_reducible exact Nat.le_refl _) | omega | (simp only [World.size_alloc, World.size_setCell, World.size_drew, Wov_size, World.heap_drewN]; omega)))), PtAt.new (by rw [← hA1]; (try simp only [Wov_size]))⟩ ?_
    rintro W3 ⟨hb3, m3_0, m3_1, m3_2⟩
    clear hb2 f2_0_lt f2_0_c0 f2_0_c1 f2_0_c2 f2_0_c3 f2_0_c4 f2_0_c5 f2_1_lt f2_1_c0 f2_1_c1 f2_1_c2 f2_1_c3 f2_1_c4 f2_1_c5 m2_0 m2_1
    have f3_0_lt := m3_0.lt
    have f3_0_c0 := m3_0.c0
    have f3_0_c1 := m3_0.c1
    have f3_0_c2 := m3_0.c2
    have f3_0_c3 := m3_0.c3
    have f3_0_c4 := m3_0.c4
    have f3_0_c5 := m3_0.c5
    have f3_1_lt := m3_1.lt
    have f3_1_c0 := m3_1.c0
    have f3_1_c1 := m3_1.c1
    have f3_1_c2 := m3_1.c2
    have f3_1_c3 := m3_1.c3
    have f3_1_c4 := m3_1.c4
    have f3_1_c5 := m3_1.c5
    have f3_2_lt := m3_2.lt
    have f3_2_c0 := m3_2.c0
    have f3_2_c1 := m3_2.c1
    have f3_2_c2 := m3_2.c2
    have f3_2_c3 := m3_2.c3
    clear hA1 HA PK
    refine (CK.out _).mono ?_; rintro e w' ⟨rfl, q2, rfl⟩
    go_wp2
    all_goals
      go_ret
      exact gives_bool (by simp) (by (repeat' (first | (with_reducible assumption) | (with_reducible exact Below.refl _ _) | (with_reducible refine below_wov ?_ ?_ _) | (with_reducible refine below_drewN ?_ _) | (with_reducible refine Below.drew ?_) | (with_reducible refine Below.alloc ?_ ?_ _) | (with_reducible refine Below.setCell ?_ ?_ _) | (with_reducible exact Nat.le_refl _) | omega | (simp only [World.size_alloc, World.size_setCell, World.size_drew, Wov_size, World.heap_drewN]; omega))))
end Go.Proofs.Ytnjhjgkekmjmdaa.zonePicks
