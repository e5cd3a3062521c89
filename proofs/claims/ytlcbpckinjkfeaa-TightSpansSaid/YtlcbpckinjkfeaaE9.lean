/- The law package's two, is and alive (layer 5). No condition. -/
import Derived.Test.YtlcbpckinjkfeaaE10
namespace Go.Proofs.Ytlcbpckinjkfeaa
open Go.ChangeShapes Go.WideShapes Go.ChangeAt Go.RowKit Go.Joins Go.Deep
set_option linter.unusedSimpArgs false
set_option linter.unusedVariables false
attribute [local go_sem] Nat.add_assoc Nat.add_lt_add_iff_left lit_lt_add

set_option maxRecDepth 10000 in
set_option maxHeartbeats 1000000 in
theorem two5_any (a b c d : Int) (w : World) : Calls Try.prog 38 #[.int .i64 a, .int .i64 b, .int .i64 c, .int .i64 d] w (twoPost w a b c d) := by
  go_enter Try.func38, Try.ntmps38
  go_wp2
  go_returns
  refine ⟨w.heap.size + 1, rfl, by omega, by simp [World.setCell], ?_, Wov_of_below (by (repeat' (first | (with_reducible assumption) | (with_reducible exact Below.refl _ _) | (with_reducible refine below_wov ?_ ?_ _) | (with_reducible refine below_drewN ?_ _) | (with_reducible refine Below.drew ?_) | (with_reducible refine Below.alloc ?_ ?_ _) | (with_reducible refine Below.setCell ?_ ?_ _) | (with_reducible exact Nat.le_refl _) | omega | (simp only [World.size_alloc, World.size_setCell, World.size_drew, Wov_size, World.heap_drewN]; omega))))⟩
  intro x hx
  rcases x with _ | _ | _ | _ | x
  all_goals first | omega | (constructor <;> simp [go_sem, four])

set_option maxRecDepth 10000 in
set_option maxHeartbeats 1000000 in
theorem is5_t (n : Int) (N : Nat) (p1 p2 : Option Addr) (c1 c2 : Nat) (f1 f2 : Nat → Int) (w : World) (hN : N ≤ 1000000) (hS1 : SlP w p1 N f1) (hS2 : SlP w p2 N f2) (h : ∀ x, x < N → f1 x = f2 x) :
    Calls Try.prog 104 #[.agg #[.int .i64 n, .slice p1 N c1], .int .i64 0, .agg #[.int .i64 n, .slice p2 N c2]] w (Gives w (.bool true)) := by
  have S : Hid (∀ w', Below w.heap.size w w' → Calls Try.prog 34 #[.agg #[.int .i64 n, .slice p1 N c1], .agg #[.int .i64 n, .slice p2 N c2]] w' (Gives w' (.bool true))) := fun w' hb => by
    have := refSame_any n n p1 p2 N N c1 c2 f1 f2 w' (hS1.below hb) (hS2.below hb) hN
    rwa [sameB_of h] at this
  clear hS1 hS2 h
  go_enter Try.func104, Try.ntmps104
  go_wp2_with (fail)
  refine (S.out _ (by (repeat' (first | (with_reducible assumption) | (with_reducible exact Below.refl _ _) | (with_reducible refine below_wov ?_ ?_ _) | (with_reducible refine below_drewN ?_ _) | (with_reducible refine Below.drew ?_) | (with_reducible refine Below.alloc ?_ ?_ _) | (with_reducible refine Below.setCell ?_ ?_ _) | (with_reducible exact Nat.le_refl _) | omega | (simp only [World.size_alloc, World.size_setCell, World.size_drew, Wov_size, World.heap_drewN]; omega))))).mono ?_; rintro e w' ⟨rfl, q, rfl⟩
  go_wp2
  go_ret
  exact gives_bool rfl (by (repeat' (first | (with_reducible assumption) | (with_reducible exact Below.refl _ _) | (with_reducible refine below_wov ?_ ?_ _) | (with_reducible refine below_drewN ?_ _) | (with_reducible refine Below.drew ?_) | (with_reducible refine Below.alloc ?_ ?_ _) | (with_reducible refine Below.setCell ?_ ?_ _) | (with_reducible exact Nat.le_refl _) | omega | (simp only [World.size_alloc, World.size_setCell, World.size_drew, Wov_size, World.heap_drewN]; omega))))

set_option maxRecDepth 100000 in
set_option maxHeartbeats 8000000 in
theorem alive5 : Pure Try.prog 42 #[] (.bool true) := by
  intro w
  obtain ⟨⟨n1, N1, f1, e1⟩, h1⟩ : ∃ r, r = setM 2 4 (four 1 noneB noneB 1) 1 0 9 := ⟨_, rfl⟩
  obtain ⟨⟨n2, N2, f2, e2⟩, h2⟩ : ∃ r, r = meetM 2 4 (four 1 noneB 9 1) 2 4 (four 1 (-3) noneB 1) := ⟨_, rfl⟩
  obtain ⟨⟨n3, N3, f3, e3⟩, h3⟩ : ∃ r, r = betweenM 2 4 (four 1 noneB noneB 1) 1 2 false 4 true false := ⟨_, rfl⟩
  obtain ⟨⟨n4, N4, f4, e4⟩, h4⟩ : ∃ r, r = closeM 2 4 (four 1 noneB noneB 1) := ⟨_, rfl⟩
  have v1 : (setM 2 4 (four 1 noneB noneB 1) 1 0 9).n = 2 ∧ (setM 2 4 (four 1 noneB noneB 1) 1 0 9).N = 4 ∧ (setM 2 4 (four 1 noneB noneB 1) 1 0 9).e = 0 ∧ ∀ x, x < 4 → (setM 2 4 (four 1 noneB noneB 1) 1 0 9).f x = four 1 noneB 9 1 x := by decide +kernel
  have v2 : (meetM 2 4 (four 1 noneB 9 1) 2 4 (four 1 (-3) noneB 1)).n = 2 ∧ (meetM 2 4 (four 1 noneB 9 1) 2 4 (four 1 (-3) noneB 1)).N = 4 ∧ (meetM 2 4 (four 1 noneB 9 1) 2 4 (four 1 (-3) noneB 1)).e = 0 ∧ ∀ x, x < 4 → (meetM 2 4 (four 1 noneB 9 1) 2 4 (four 1 (-3) noneB 1)).f x = four 1 (-3) 9 1 x := by decide +kernel
  have v3 : (betweenM 2 4 (four 1 noneB noneB 1) 1 2 false 4 true false).n = 2 ∧ (betweenM 2 4 (four 1 noneB noneB 1) 1 2 false 4 true false).N = 4 ∧ (betweenM 2 4 (four 1 noneB noneB 1) 1 2 false 4 true false).e = 0 ∧ ∀ x, x < 4 → (betweenM 2 4 (four 1 noneB noneB 1) 1 2 false 4 true false).f x = four 1 (-3) 8 1 x := by decide +kernel
  have v4 : (closeM 2 4 (four 1 noneB noneB 1)).n = 2 ∧ (closeM 2 4 (four 1 noneB noneB 1)).N = 4 ∧ (closeM 2 4 (four 1 noneB noneB 1)).e = 0 ∧ ∀ x, x < 4 → (closeM 2 4 (four 1 noneB noneB 1)).f x = four 1 noneB noneB 1 x := by decide +kernel
  have F1 : Fits 4 (four 1 noneB noneB 1) := four_fits (by decide) (by decide) (by decide) (by decide)
  have F2 : Fits 4 (four 1 noneB 9 1) := four_fits (by decide) (by decide) (by decide) (by decide)
  have F3 : Fits 4 (four 1 (-3) noneB 1) := four_fits (by decide) (by decide) (by decide) (by decide)
  have C1 : Hid (∀ B W, SlP W (some ⟨B, 0, none⟩) 4 (four 1 noneB noneB 1) → Calls Try.prog 39 #[.agg #[.int .i64 2, .slice (some ⟨B, 0, none⟩) 4 4], .int .i64 1, .int .i64 0, .int .i64 9] W (matC W 2 4 f1 0)) := fun B W h => by
    have := set_any 2 (some ⟨B, 0, none⟩) 4 4 _ 1 0 9 W (by decide) h F1 (by omega) (by decide)
    rw [← h1] at this v1
    obtain ⟨rfl, rfl, rfl, _⟩ := v1
    exact this
  have C2 : Hid (∀ B B2 W, SlP W (some ⟨B, 0, none⟩) 4 (four 1 noneB 9 1) → SlP W (some ⟨B2, 0, none⟩) 4 (four 1 (-3) noneB 1) → Calls Try.prog 40 #[.agg #[.int .i64 2, .slice (some ⟨B, 0, none⟩) 4 4], .agg #[.int .i64 2, .slice (some ⟨B2, 0, none⟩) 4 4]] W (matC W 2 4 f2 0)) := fun B B2 W h g => by
    have := meet_any 2 (some ⟨B, 0, none⟩) 4 4 _ 2 (some ⟨B2, 0, none⟩) 4 4 _ W (by decide) (by decide) h g F2 F3 (by omega) (by omega)
    rw [← h2] at this v2
    obtain ⟨rfl, rfl, rfl, _⟩ := v2
    exact this
  have C3 : Hid (∀ B W, SlP W (some ⟨B, 0, none⟩) 4 (four 1 noneB noneB 1) → Calls Try.prog 41 #[.agg #[.int .i64 2, .slice (some ⟨B, 0, none⟩) 4 4], .int .i64 1, .agg #[.int .i64 2, .bool false, .int .i64 4, .bool true, .bool false]] W (matC W 2 4 f3 0)) := fun B W h => by
    have := between_any 2 (some ⟨B, 0, none⟩) 4 4 _ 1 2 false 4 true false W (by decide) h F1 (by omega) (by decide) (by decide)
    rw [← h3] at this v3
    obtain ⟨rfl, rfl, rfl, _⟩ := v3
    exact this
  have C4 : Hid (∀ B W, SlP W (some ⟨B, 0, none⟩) 4 (four 1 noneB noneB 1) → Calls Try.prog 29 #[.agg #[.int .i64 2, .slice (some ⟨B, 0, none⟩) 4 4]] W (matC W 2 4 f4 0)) := fun B W h => by
    have := closeM_any 2 (some ⟨B, 0, none⟩) 4 4 _ W (by decide) h F1 (by omega)
    rw [← h4] at this v4
    obtain ⟨rfl, rfl, rfl, _⟩ := v4
    exact this
  have V1 : Hid (∀ x, x < 4 → f1 x = four 1 noneB 9 1 x) := by have := v1.2.2.2; rw [← h1] at this; exact this
  have V2 : Hid (∀ x, x < 4 → f2 x = four 1 (-3) 9 1 x) := by have := v2.2.2.2; rw [← h2] at this; exact this
  have V3 : Hid (∀ x, x < 4 → f3 x = four 1 (-3) 8 1 x) := by have := v3.2.2.2; rw [← h3] at this; exact this
  have V4 : Hid (∀ x, x < 4 → f4 x = four 1 noneB noneB 1 x) := by have := v4.2.2.2; rw [← h4] at this; exact this
  clear v1 v2 v3 v4 h1 h2 h3 h4 F1 F2 F3
  go_enter Try.func42, Try.ntmps42
  go_wp2_with (fail)
  refine (two5_any _ _ _ _ _).mono ?_; rintro e w' ⟨B1, rfl, hA1, hB1, hH1, p1, rfl⟩
  have t1 : SlP (Wov w p1) (some ⟨B1, 0, none⟩) 4 (four 1 noneB noneB 1) := slp_of hH1 hB1
  clear hA1 hB1 hH1
  go_wp2_with (fail)
  obtain ⟨A1, hA1⟩ : ∃ A, w.heap.size + p1.bl.size = A := ⟨_, rfl⟩
  rw [hA1]
  refine calls_world (fun W => Below w.heap.size w W ∧ BoxM W A1 2 (some ⟨B1, 0, none⟩) 4 4 (four 1 noneB noneB 1)) ⟨by (repeat' (first | (with_reducible assumption) | (with_reducible exact Below.refl _ _) | (with_reducible refine below_wov ?_ ?_ _) | (with_reducible refine below_drewN ?_ _) | (with_reducible refine Below.drew ?_) | (with_reducible refine Below.alloc ?_ ?_ _) | (with_reducible refine Below.setCell ?_ ?_ _) | (with_reducible exact Nat.le_refl _) | omega | (simp only [World.size_alloc, World.size_setCell, World.size_drew, Wov_size, World.heap_drewN]; omega))), BoxM.new (t1) (by rw [← hA1]; (try simp only [Wov_size]))⟩ ?_
  rintro W1 ⟨hb1, m1_0⟩
  have l1_0 := m1_0.lt
  have c1_0 := m1_0.c0
  have d1_0 := m1_0.c1
  clear t1
  refine (C1.out _ _ m1_0.sl).mono ?_; rintro e w' ⟨⟨pa, ca, rfl, ho⟩, q1, rfl⟩
  have t2 := ho.slp
  clear ho
  go_wp2_with (fail)
  obtain ⟨A2, hA2⟩ : ∃ A, W1.heap.size + q1.bl.size = A := ⟨_, rfl⟩
  rw [hA2]
  refine calls_world (fun W => Below w.heap.size w W ∧ BoxM W A1 2 (some ⟨B1, 0, none⟩) 4 4 (four 1 noneB noneB 1) ∧ BoxM W A2 2 pa 4 ca f1) ⟨by (repeat' (first | (with_reducible assumption) | (with_reducible exact Below.refl _ _) | (with_reducible refine below_wov ?_ ?_ _) | (with_reducible refine below_drewN ?_ _) | (with_reducible refine Below.drew ?_) | (with_reducible refine Below.alloc ?_ ?_ _) | (with_reducible refine Below.setCell ?_ ?_ _) | (with_reducible exact Nat.le_refl _) | omega | (simp only [World.size_alloc, World.size_setCell, World.size_drew, Wov_size, World.heap_drewN]; omega))), m1_0.below (by (repeat' (first | (with_reducible assumption) | (with_reducible exact Below.refl _ _) | (with_reducible refine below_wov ?_ ?_ _) | (with_reducible refine below_drewN ?_ _) | (with_reducible refine Below.drew ?_) | (with_reducible refine Below.alloc ?_ ?_ _) | (with_reducible refine Below.setCell ?_ ?_ _) | (with_reducible exact Nat.le_refl _) | omega | (simp only [World.size_alloc, World.size_setCell, World.size_drew, Wov_size, World.heap_drewN]; omega)))), BoxM.new (t2) (by rw [← hA2]; (try simp only [Wov_size]))⟩ ?_
  rintro W2 ⟨hb2, m2_0, m2_1⟩
  have l2_0 := m2_0.lt
  have c2_0 := m2_0.c0
  have d2_0 := m2_0.c1
  have l2_1 := m2_1.lt
  have c2_1 := m2_1.c0
  have d2_1 := m2_1.c1
  clear hb1 l1_0 c1_0 d1_0 m1_0
  clear t2
  refine (two5_any _ _ _ _ _).mono ?_; rintro e w' ⟨B2, rfl, hA1, hB1, hH1, p2, rfl⟩
  have t3 : SlP (Wov W2 p2) (some ⟨B2, 0, none⟩) 4 (four 1 noneB 9 1) := slp_of hH1 hB1
  clear hA1 hB1 hH1
  go_wp2_with (fail)
  refine calls_world (fun W => Below w.heap.size w W ∧ BoxM W A1 2 (some ⟨B1, 0, none⟩) 4 4 (four 1 noneB noneB 1) ∧ BoxM W A2 2 pa 4 ca f1 ∧ SlP W (some ⟨B2, 0, none⟩) 4 (four 1 noneB 9 1)) ⟨by (repeat' (first | (with_reducible assumption) | (with_reducible exact Below.refl _ _) | (with_reducible refine below_wov ?_ ?_ _) | (with_reducible refine below_drewN ?_ _) | (with_reducible refine Below.drew ?_) | (with_reducible refine Below.alloc ?_ ?_ _) | (with_reducible refine Below.setCell ?_ ?_ _) | (with_reducible exact Nat.le_refl _) | omega | (simp only [World.size_alloc, World.size_setCell, World.size_drew, Wov_size, World.heap_drewN]; omega))), m2_0.below (by (repeat' (first | (with_reducible assumption) | (with_reducible exact Below.refl _ _) | (with_reducible refine below_wov ?_ ?_ _) | (with_reducible refine below_drewN ?_ _) | (with_reducible refine Below.drew ?_) | (with_reducible refine Below.alloc ?_ ?_ _) | (with_reducible refine Below.setCell ?_ ?_ _) | (with_reducible exact Nat.le_refl _) | omega | (simp only [World.size_alloc, World.size_setCell, World.size_drew, Wov_size, World.heap_drewN]; omega)))), m2_1.below (by (repeat' (first | (with_reducible assumption) | (with_reducible exact Below.refl _ _) | (with_reducible refine below_wov ?_ ?_ _) | (with_reducible refine below_drewN ?_ _) | (with_reducible refine Below.drew ?_) | (with_reducible refine Below.alloc ?_ ?_ _) | (with_reducible refine Below.setCell ?_ ?_ _) | (with_reducible exact Nat.le_refl _) | omega | (simp only [World.size_alloc, World.size_setCell, World.size_drew, Wov_size, World.heap_drewN]; omega)))), t3⟩ ?_
  rintro W3 ⟨hb3, m3_0, m3_1, s3_0⟩
  have l3_0 := m3_0.lt
  have c3_0 := m3_0.c0
  have d3_0 := m3_0.c1
  have l3_1 := m3_1.lt
  have c3_1 := m3_1.c0
  have d3_1 := m3_1.c1
  clear hb2 l2_0 c2_0 d2_0 m2_0 l2_1 c2_1 d2_1 m2_1
  clear t3
  refine (two5_any _ _ _ _ _).mono ?_; rintro e w' ⟨B3, rfl, hA1, hB1, hH1, p3, rfl⟩
  have t4 : SlP (Wov W3 p3) (some ⟨B3, 0, none⟩) 4 (four 1 (-3) noneB 1) := slp_of hH1 hB1
  clear hA1 hB1 hH1
  go_wp2_with (fail)
  refine calls_world (fun W => Below w.heap.size w W ∧ BoxM W A1 2 (some ⟨B1, 0, none⟩) 4 4 (four 1 noneB noneB 1) ∧ BoxM W A2 2 pa 4 ca f1 ∧ SlP W (some ⟨B2, 0, none⟩) 4 (four 1 noneB 9 1) ∧ SlP W (some ⟨B3, 0, none⟩) 4 (four 1 (-3) noneB 1)) ⟨by (repeat' (first | (with_reducible assumption) | (with_reducible exact Below.refl _ _) | (with_reducible refine below_wov ?_ ?_ _) | (with_reducible refine below_drewN ?_ _) | (with_reducible refine Below.drew ?_) | (with_reducible refine Below.alloc ?_ ?_ _) | (with_reducible refine Below.setCell ?_ ?_ _) | (with_reducible exact Nat.le_refl _) | omega | (simp only [World.size_alloc, World.size_setCell, World.size_drew, Wov_size, World.heap_drewN]; omega))), m3_0.below (by (repeat' (first | (with_reducible assumption) | (with_reducible exact Below.refl _ _) | (with_reducible refine below_wov ?_ ?_ _) | (with_reducible refine below_drewN ?_ _) | (with_reducible refine Below.drew ?_) | (with_reducible refine Below.alloc ?_ ?_ _) | (with_reducible refine Below.setCell ?_ ?_ _) | (with_reducible exact Nat.le_refl _) | omega | (simp only [World.size_alloc, World.size_setCell, World.size_drew, Wov_size, World.heap_drewN]; omega)))), m3_1.below (by (repeat' (first | (with_reducible assumption) | (with_reducible exact Below.refl _ _) | (with_reducible refine below_wov ?_ ?_ _) | (with_reducible refine below_drewN ?_ _) | (with_reducible refine Below.drew ?_) | (with_reducible refine Below.alloc ?_ ?_ _) | (with_reducible refine Below.setCell ?_ ?_ _) | (with_reducible exact Nat.le_refl _) | omega | (simp only [World.size_alloc, World.size_setCell, World.size_drew, Wov_size, World.heap_drewN]; omega)))), s3_0.below (by (repeat' (first | (with_reducible assumption) | (with_reducible exact Below.refl _ _) | (with_reducible refine below_wov ?_ ?_ _) | (with_reducible refine below_drewN ?_ _) | (with_reducible refine Below.drew ?_) | (with_reducible refine Below.alloc ?_ ?_ _) | (with_reducible refine Below.setCell ?_ ?_ _) | (with_reducible exact Nat.le_refl _) | omega | (simp only [World.size_alloc, World.size_setCell, World.size_drew, Wov_size, World.heap_drewN]; omega)))), t4⟩ ?_
  rintro W4 ⟨hb4, m4_0, m4_1, s4_0, s4_1⟩
  have l4_0 := m4_0.lt
  have c4_0 := m4_0.c0
  have d4_0 := m4_0.c1
  have l4_1 := m4_1.lt
  have c4_1 := m4_1.c0
  have d4_1 := m4_1.c1
  clear hb3 l3_0 c3_0 d3_0 m3_0 l3_1 c3_1 d3_1 m3_1 s3_0
  clear t4
  refine (C2.out _ _ _ s4_0 s4_1).mono ?_; rintro e w' ⟨⟨pb, cb, rfl, ho⟩, q4, rfl⟩
  have t5 := ho.slp
  clear ho
  go_wp2_with (fail)
  obtain ⟨A3, hA3⟩ : ∃ A, W4.heap.size + q4.bl.size = A := ⟨_, rfl⟩
  rw [hA3]
  refine calls_world (fun W => Below w.heap.size w W ∧ BoxM W A1 2 (some ⟨B1, 0, none⟩) 4 4 (four 1 noneB noneB 1) ∧ BoxM W A2 2 pa 4 ca f1 ∧ BoxM W A3 2 pb 4 cb f2) ⟨by (repeat' (first | (with_reducible assumption) | (with_reducible exact Below.refl _ _) | (with_reducible refine below_wov ?_ ?_ _) | (with_reducible refine below_drewN ?_ _) | (with_reducible refine Below.drew ?_) | (with_reducible refine Below.alloc ?_ ?_ _) | (with_reducible refine Below.setCell ?_ ?_ _) | (with_reducible exact Nat.le_refl _) | omega | (simp only [World.size_alloc, World.size_setCell, World.size_drew, Wov_size, World.heap_drewN]; omega))), m4_0.below (by (repeat' (first | (with_reducible assumption) | (with_reducible exact Below.refl _ _) | (with_reducible refine below_wov ?_ ?_ _) | (with_reducible refine below_drewN ?_ _) | (with_reducible refine Below.drew ?_) | (with_reducible refine Below.alloc ?_ ?_ _) | (with_reducible refine Below.setCell ?_ ?_ _) | (with_reducible exact Nat.le_refl _) | omega | (simp only [World.size_alloc, World.size_setCell, World.size_drew, Wov_size, World.heap_drewN]; omega)))), m4_1.below (by (repeat' (first | (with_reducible assumption) | (with_reducible exact Below.refl _ _) | (with_reducible refine below_wov ?_ ?_ _) | (with_reducible refine below_drewN ?_ _) | (with_reducible refine Below.drew ?_) | (with_reducible refine Below.alloc ?_ ?_ _) | (with_reducible refine Below.setCell ?_ ?_ _) | (with_reducible exact Nat.le_refl _) | omega | (simp only [World.size_alloc, World.size_setCell, World.size_drew, Wov_size, World.heap_drewN]; omega)))), BoxM.new (t5) (by rw [← hA3]; (try simp only [Wov_size]))⟩ ?_
  rintro W5 ⟨hb5, m5_0, m5_1, m5_2⟩
  have l5_0 := m5_0.lt
  have c5_0 := m5_0.c0
  have d5_0 := m5_0.c1
  have l5_1 := m5_1.lt
  have c5_1 := m5_1.c0
  have d5_1 := m5_1.c1
  have l5_2 := m5_2.lt
  have c5_2 := m5_2.c0
  have d5_2 := m5_2.c1
  clear hb4 l4_0 c4_0 d4_0 m4_0 l4_1 c4_1 d4_1 m4_1 s4_0 s4_1
  clear t5
  refine (C3.out _ _ m5_0.sl).mono ?_; rintro e w' ⟨⟨pc, cc, rfl, ho⟩, q5, rfl⟩
  have t6 := ho.slp
  clear ho
  go_wp2_with (fail)
  obtain ⟨A4, hA4⟩ : ∃ A, W5.heap.size + q5.bl.size = A := ⟨_, rfl⟩
  rw [hA4]
  refine calls_world (fun W => Below w.heap.size w W ∧ BoxM W A1 2 (some ⟨B1, 0, none⟩) 4 4 (four 1 noneB noneB 1) ∧ BoxM W A2 2 pa 4 ca f1 ∧ BoxM W A3 2 pb 4 cb f2 ∧ BoxM W A4 2 pc 4 cc f3) ⟨by (repeat' (first | (with_reducible assumption) | (with_reducible exact Below.refl _ _) | (with_reducible refine below_wov ?_ ?_ _) | (with_reducible refine below_drewN ?_ _) | (with_reducible refine Below.drew ?_) | (with_reducible refine Below.alloc ?_ ?_ _) | (with_reducible refine Below.setCell ?_ ?_ _) | (with_reducible exact Nat.le_refl _) | omega | (simp only [World.size_alloc, World.size_setCell, World.size_drew, Wov_size, World.heap_drewN]; omega))), m5_0.below (by (repeat' (first | (with_reducible assumption) | (with_reducible exact Below.refl _ _) | (with_reducible refine below_wov ?_ ?_ _) | (with_reducible refine below_drewN ?_ _) | (with_reducible refine Below.drew ?_) | (with_reducible refine Below.alloc ?_ ?_ _) | (with_reducible refine Below.setCell ?_ ?_ _) | (with_reducible exact Nat.le_refl _) | omega | (simp only [World.size_alloc, World.size_setCell, World.size_drew, Wov_size, World.heap_drewN]; omega)))), m5_1.below (by (repeat' (first | (with_reducible assumption) | (with_reducible exact Below.refl _ _) | (with_reducible refine below_wov ?_ ?_ _) | (with_reducible refine below_drewN ?_ _) | (with_reducible refine Below.drew ?_) | (with_reducible refine Below.alloc ?_ ?_ _) | (with_reducible refine Below.setCell ?_ ?_ _) | (with_reducible exact Nat.le_refl _) | omega | (simp only [World.size_alloc, World.size_setCell, World.size_drew, Wov_size, World.heap_drewN]; omega)))), m5_2.below (by (repeat' (first | (with_reducible assumption) | (with_reducible exact Below.refl _ _) | (with_reducible refine below_wov ?_ ?_ _) | (with_reducible refine below_drewN ?_ _) | (with_reducible refine Below.drew ?_) | (with_reducible refine Below.alloc ?_ ?_ _) | (with_reducible refine Below.setCell ?_ ?_ _) | (with_reducible exact Nat.le_refl _) | omega | (simp only [World.size_alloc, World.size_setCell, World.size_drew, Wov_size, World.heap_drewN]; omega)))), BoxM.new (t6) (by rw [← hA4]; (try simp only [Wov_size]))⟩ ?_
  rintro W6 ⟨hb6, m6_0, m6_1, m6_2, m6_3⟩
  have l6_0 := m6_0.lt
  have c6_0 := m6_0.c0
  have d6_0 := m6_0.c1
  have l6_1 := m6_1.lt
  have c6_1 := m6_1.c0
  have d6_1 := m6_1.c1
  have l6_2 := m6_2.lt
  have c6_2 := m6_2.c0
  have d6_2 := m6_2.c1
  have l6_3 := m6_3.lt
  have c6_3 := m6_3.c0
  have d6_3 := m6_3.c1
  clear hb5 l5_0 c5_0 d5_0 m5_0 l5_1 c5_1 d5_1 m5_1 l5_2 c5_2 d5_2 m5_2
  clear t6
  refine (C4.out _ _ m6_0.sl).mono ?_; rintro e w' ⟨⟨pd, cd, rfl, ho⟩, q6, rfl⟩
  have t7 := ho.slp
  clear ho
  go_wp2_with (fail)
  obtain ⟨A5, hA5⟩ : ∃ A, W6.heap.size + q6.bl.size = A := ⟨_, rfl⟩
  rw [hA5]
  refine wp_world (fun W => Below w.heap.size w W ∧ BoxM W A1 2 (some ⟨B1, 0, none⟩) 4 4 (four 1 noneB noneB 1) ∧ BoxM W A2 2 pa 4 ca f1 ∧ BoxM W A3 2 pb 4 cb f2 ∧ BoxM W A4 2 pc 4 cc f3 ∧ BoxM W A5 2 pd 4 cd f4) ⟨by (repeat' (first | (with_reducible assumption) | (with_reducible exact Below.refl _ _) | (with_reducible refine below_wov ?_ ?_ _) | (with_reducible refine below_drewN ?_ _) | (with_reducible refine Below.drew ?_) | (with_reducible refine Below.alloc ?_ ?_ _) | (with_reducible refine Below.setCell ?_ ?_ _) | (with_reducible exact Nat.le_refl _) | omega | (simp only [World.size_alloc, World.size_setCell, World.size_drew, Wov_size, World.heap_drewN]; omega))), m6_0.below (by (repeat' (first | (with_reducible assumption) | (with_reducible exact Below.refl _ _) | (with_reducible refine below_wov ?_ ?_ _) | (with_reducible refine below_drewN ?_ _) | (with_reducible refine Below.drew ?_) | (with_reducible refine Below.alloc ?_ ?_ _) | (with_reducible refine Below.setCell ?_ ?_ _) | (with_reducible exact Nat.le_refl _) | omega | (simp only [World.size_alloc, World.size_setCell, World.size_drew, Wov_size, World.heap_drewN]; omega)))), m6_1.below (by (repeat' (first | (with_reducible assumption) | (with_reducible exact Below.refl _ _) | (with_reducible refine below_wov ?_ ?_ _) | (with_reducible refine below_drewN ?_ _) | (with_reducible refine Below.drew ?_) | (with_reducible refine Below.alloc ?_ ?_ _) | (with_reducible refine Below.setCell ?_ ?_ _) | (with_reducible exact Nat.le_refl _) | omega | (simp only [World.size_alloc, World.size_setCell, World.size_drew, Wov_size, World.heap_drewN]; omega)))), m6_2.below (by (repeat' (first | (with_reducible assumption) | (with_reducible exact Below.refl _ _) | (with_reducible refine below_wov ?_ ?_ _) | (with_reducible refine below_drewN ?_ _) | (with_reducible refine Below.drew ?_) | (with_reducible refine Below.alloc ?_ ?_ _) | (with_reducible refine Below.setCell ?_ ?_ _) | (with_reducible exact Nat.le_refl _) | omega | (simp only [World.size_alloc, World.size_setCell, World.size_drew, Wov_size, World.heap_drewN]; omega)))), m6_3.below (by (repeat' (first | (with_reducible assumption) | (with_reducible exact Below.refl _ _) | (with_reducible refine below_wov ?_ ?_ _) | (with_reducible refine below_drewN ?_ _) | (with_reducible refine Below.drew ?_) | (with_reducible refine Below.alloc ?_ ?_ _) | (with_reducible refine Below.setCell ?_ ?_ _) | (with_reducible exact Nat.le_refl _) | omega | (simp only [World.size_alloc, World.size_setCell, World.size_drew, Wov_size, World.heap_drewN]; omega)))), BoxM.new (t7) (by rw [← hA5]; (try simp only [Wov_size]))⟩ ?_
  rintro W7 ⟨hb7, m7_0, m7_1, m7_2, m7_3, m7_4⟩
  have l7_0 := m7_0.lt
  have c7_0 := m7_0.c0
  have d7_0 := m7_0.c1
  have l7_1 := m7_1.lt
  have c7_1 := m7_1.c0
  have d7_1 := m7_1.c1
  have l7_2 := m7_2.lt
  have c7_2 := m7_2.c0
  have d7_2 := m7_2.c1
  have l7_3 := m7_3.lt
  have c7_3 := m7_3.c0
  have d7_3 := m7_3.c1
  have l7_4 := m7_4.lt
  have c7_4 := m7_4.c0
  have d7_4 := m7_4.c1
  clear hb6 l6_0 c6_0 d6_0 m6_0 l6_1 c6_1 d6_1 m6_1 l6_2 c6_2 d6_2 m6_2 l6_3 c6_3 d6_3 m6_3
  clear t7
  have IS1 : Hid (∀ W' B, Below W7.heap.size W7 W' → HoldsI W' B 4 (four 1 noneB 9 1) → B < W'.heap.size → Calls Try.prog 104 #[.agg #[.int .i64 2, .slice pa 4 ca], .int .i64 0, .agg #[.int .i64 2, .slice (some ⟨B, 0, none⟩) 4 4]] W' (Gives W' (.bool true))) := fun W' B hb h hB => is5_t 2 4 _ _ _ _ _ _ W' (by omega) (m7_1.sl.below hb) (slp_of h hB) V1.out
  have IS2 : Hid (∀ W' B, Below W7.heap.size W7 W' → HoldsI W' B 4 (four 1 (-3) 9 1) → B < W'.heap.size → Calls Try.prog 104 #[.agg #[.int .i64 2, .slice pb 4 cb], .int .i64 0, .agg #[.int .i64 2, .slice (some ⟨B, 0, none⟩) 4 4]] W' (Gives W' (.bool true))) := fun W' B hb h hB => is5_t 2 4 _ _ _ _ _ _ W' (by omega) (m7_2.sl.below hb) (slp_of h hB) V2.out
  have IS3 : Hid (∀ W' B, Below W7.heap.size W7 W' → HoldsI W' B 4 (four 1 (-3) 8 1) → B < W'.heap.size → Calls Try.prog 104 #[.agg #[.int .i64 2, .slice pc 4 cc], .int .i64 0, .agg #[.int .i64 2, .slice (some ⟨B, 0, none⟩) 4 4]] W' (Gives W' (.bool true))) := fun W' B hb h hB => is5_t 2 4 _ _ _ _ _ _ W' (by omega) (m7_3.sl.below hb) (slp_of h hB) V3.out
  have IS4 : Hid (∀ W', Below W7.heap.size W7 W' → Calls Try.prog 104 #[.agg #[.int .i64 2, .slice pd 4 cd], .int .i64 0, .agg #[.int .i64 2, .slice (some ⟨B1, 0, none⟩) 4 4]] W' (Gives W' (.bool true))) := fun W' hb => is5_t 2 4 _ _ _ _ _ _ W' (by omega) (m7_4.sl.below hb) (m7_0.sl.below hb) V4.out
  have hsz := hb7.size
  clear C1 C2 C3 C4 V1 V2 V3 V4 m7_0 m7_1 m7_2 m7_3 m7_4 hA1 hA2 hA3 hA4 hA5
  go_region_held3 (fun w' => w'.cell? ⟨A1, 0, none⟩ = some (.int .i64 2) ∧ w'.cell? ⟨A1, 1, none⟩ = some (.slice (some ⟨B1, 0, none⟩) 4 4) ∧ w'.cell? ⟨A2, 0, none⟩ = some (.int .i64 2) ∧ w'.cell? ⟨A2, 1, none⟩ = some (.slice pa 4 ca) ∧ w'.cell? ⟨A3, 0, none⟩ = some (.int .i64 2) ∧ w'.cell? ⟨A3, 1, none⟩ = some (.slice pb 4 cb) ∧ w'.cell? ⟨A4, 0, none⟩ = some (.int .i64 2) ∧ w'.cell? ⟨A4, 1, none⟩ = some (.slice pc 4 cc) ∧ w'.cell? ⟨A5, 0, none⟩ = some (.int .i64 2) ∧ w'.cell? ⟨A5, 1, none⟩ = some (.slice pd 4 cd))
    ((simp [go_sem, *]))
    (first
    | (go_at_call 38; ((with_reducible refine (two5_any _ _ _ _ _).mono ?_); rintro e w' ⟨B, rfl, hA, hB, hH, q, rfl⟩; (try simp only [Wov_Wov, Array.append_assoc] at hH hB)))
    | (go_at_call_of 104 (Value.agg #[Value.int IntKind.i64 2, Value.slice pa 4 ca]); refine (IS1.out _ _ (by (repeat' (first | (with_reducible assumption) | (with_reducible exact Below.refl _ _) | (with_reducible refine below_wov ?_ ?_ _) | (with_reducible refine below_drewN ?_ _) | (with_reducible refine Below.drew ?_) | (with_reducible refine Below.alloc ?_ ?_ _) | (with_reducible refine Below.setCell ?_ ?_ _) | (with_reducible exact Nat.le_refl _) | omega | (simp only [World.size_alloc, World.size_setCell, World.size_drew, Wov_size, World.heap_drewN]; omega)))) hH hB).mono ?_; rintro e w' ⟨rfl, q, rfl⟩; clear IS1 hH hB)
    | (go_at_call_of 104 (Value.agg #[Value.int IntKind.i64 2, Value.slice pb 4 cb]); refine (IS2.out _ _ (by (repeat' (first | (with_reducible assumption) | (with_reducible exact Below.refl _ _) | (with_reducible refine below_wov ?_ ?_ _) | (with_reducible refine below_drewN ?_ _) | (with_reducible refine Below.drew ?_) | (with_reducible refine Below.alloc ?_ ?_ _) | (with_reducible refine Below.setCell ?_ ?_ _) | (with_reducible exact Nat.le_refl _) | omega | (simp only [World.size_alloc, World.size_setCell, World.size_drew, Wov_size, World.heap_drewN]; omega)))) hH hB).mono ?_; rintro e w' ⟨rfl, q, rfl⟩; clear IS2 hH hB)
    | (go_at_call_of 104 (Value.agg #[Value.int IntKind.i64 2, Value.slice pc 4 cc]); refine (IS3.out _ _ (by (repeat' (first | (with_reducible assumption) | (with_reducible exact Below.refl _ _) | (with_reducible refine below_wov ?_ ?_ _) | (with_reducible refine below_drewN ?_ _) | (with_reducible refine Below.drew ?_) | (with_reducible refine Below.alloc ?_ ?_ _) | (with_reducible refine Below.setCell ?_ ?_ _) | (with_reducible exact Nat.le_refl _) | omega | (simp only [World.size_alloc, World.size_setCell, World.size_drew, Wov_size, World.heap_drewN]; omega)))) hH hB).mono ?_; rintro e w' ⟨rfl, q, rfl⟩; clear IS3 hH hB)
    | (go_at_call_of 104 (Value.agg #[Value.int IntKind.i64 2, Value.slice pd 4 cd]); refine (IS4.out _ (by (repeat' (first | (with_reducible assumption) | (with_reducible exact Below.refl _ _) | (with_reducible refine below_wov ?_ ?_ _) | (with_reducible refine below_drewN ?_ _) | (with_reducible refine Below.drew ?_) | (with_reducible refine Below.alloc ?_ ?_ _) | (with_reducible refine Below.setCell ?_ ?_ _) | (with_reducible exact Nat.le_refl _) | omega | (simp only [World.size_alloc, World.size_setCell, World.size_drew, Wov_size, World.heap_drewN]; omega))))).mono ?_; rintro e w' ⟨rfl, q, rfl⟩; clear IS4))
  all_goals
    go_wp2
    go_ret
    exact gives_bool (by simp) (by (repeat' (first | (with_reducible assumption) | (with_reducible exact Below.refl _ _) | (with_reducible refine below_wov ?_ ?_ _) | (with_reducible refine below_drewN ?_ _) | (with_reducible refine Below.drew ?_) | (with_reducible refine Below.alloc ?_ ?_ _) | (with_reducible refine Below.setCell ?_ ?_ _) | (with_reducible exact Nat.le_refl _) | omega | (simp only [World.size_alloc, World.size_setCell, World.size_drew, Wov_size, World.heap_drewN]; omega))))
#print axioms alive5
end Go.Proofs.Ytlcbpckinjkfeaa
