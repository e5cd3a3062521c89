/- The law TightNames (walk): the chapter's examples. No condition. -/
import Derived.Test.YtlcbpckinjkfeaaE9
namespace Go.Proofs.Ytlcbpckinjkfeaa.tightNames
open Go.ChangeShapes Go.WideShapes Go.ChangeAt Go.RowKit
set_option linter.unusedVariables false
set_option linter.unusedSimpArgs false
attribute [local go_sem] Nat.add_assoc Nat.add_lt_add_iff_left lit_lt_add

theorem one_slp {W : World} {B : Nat} {b : Int} (h : W.cell? ⟨B, 0, none⟩ = some (.int .i64 b)) (hB : B < W.heap.size) : SlP W (some ⟨B, 0, none⟩) 1 (fun _ => b) := .inr ⟨B, 0, rfl, hB, fun x hx => by
  obtain rfl : x = 0 := by omega
  exact h⟩

set_option maxRecDepth 100000 in
set_option maxHeartbeats 8000000 in
theorem walk (w : World) : Calls Try.prog 5 #[] w (Gives w (.bool true)) := by
  have HA := Lib.hid alive5
  have F1 : Fits 4 (four 1 (-3) 9 1) := four_fits (by decide) (by decide) (by decide) (by decide)
  have v1 : setM 2 4 (four 1 (-3) 9 1) 1 0 3 = errM 6 := by
    have h : (setM 2 4 (four 1 (-3) 9 1) 1 0 3).e = 6 := by decide +kernel
    rcases setM_cases 2 4 (four 1 (-3) 9 1) 1 0 3 with ⟨e, h1, _⟩ | ⟨m, a, c, _, _, h3, h4, _, _, _, _, hx, hf, h1⟩
    · rw [h1] at h ⊢; rw [show e = 6 from h]
    · rcases closeM_cases (okD_more (x := a * m + c) hf hx) with ⟨g, h2, _⟩ | ⟨h2, _⟩
      · rw [h1, h2] at h; cases h
      · rw [h1, h2]
  have v2 : setM 2 4 (four 1 (-3) 9 1) 2 0 3 = errM 2 := by
    unfold setM
    rw [if_pos (by decide +kernel), if_neg (by decide)]
  have v3 : meetM 2 4 (four 1 (-3) 9 1) 1 1 (fun _ => 1) = errM 40 := by
    unfold meetM
    rw [if_pos (by decide +kernel), if_neg (by decide)]
  have v4 : betweenM 2 4 (four 1 (-3) 9 1) 1 2 false 1 false false = errM 8 := by
    unfold betweenM
    rw [if_pos (by decide +kernel), if_pos (by decide), if_neg (by decide)]
  have v5 : betweenM 2 4 (four 1 (-3) 9 1) 1 3 true 3 false false = errM 6 := by
    have h : (betweenM 2 4 (four 1 (-3) 9 1) 1 3 true 3 false false).e = 6 := by decide +kernel
    rcases betweenM_cases 2 4 (four 1 (-3) 9 1) 1 3 true 3 false false with ⟨e, h1, _⟩ | ⟨m, a, hm, _, _, _, _, _, hs, hf, h1⟩
    · rw [h1] at h ⊢; rw [show e = 6 from h]
    · rcases closeM_cases (okD_more (x := a * m + 0) (okD_more (x := 0 * m + a) hf (belowB_may hs)) (aboveB_may hs)) with ⟨g, h2, _⟩ | ⟨h2, _⟩
      · rw [h1, h2] at h; cases h
      · rw [h1, h2]
  have C1 : Hid (∀ B W, SlP W (some ⟨B, 0, none⟩) 4 (four 1 (-3) 9 1) → Calls Try.prog 39 #[.agg #[.int .i64 2, .slice (some ⟨B, 0, none⟩) 4 4], .int .i64 1, .int .i64 0, .int .i64 3] W (matC W 0 0 (fun _ => 0) 6)) := fun B W h => by
    have := set_any 2 (some ⟨B, 0, none⟩) 4 4 _ 1 0 3 W (by decide) h F1 (by omega) (by decide)
    rw [v1] at this; exact this
  have C2 : Hid (∀ B W, SlP W (some ⟨B, 0, none⟩) 4 (four 1 (-3) 9 1) → Calls Try.prog 39 #[.agg #[.int .i64 2, .slice (some ⟨B, 0, none⟩) 4 4], .int .i64 2, .int .i64 0, .int .i64 3] W (matC W 0 0 (fun _ => 0) 2)) := fun B W h => by
    have := set_any 2 (some ⟨B, 0, none⟩) 4 4 _ 2 0 3 W (by decide) h F1 (by omega) (by decide)
    rw [v2] at this; exact this
  have C3 : Hid (∀ B D W, SlP W (some ⟨B, 0, none⟩) 4 (four 1 (-3) 9 1) → W.cell? ⟨D, 0, none⟩ = some (.int .i64 1) → D < W.heap.size → Calls Try.prog 40 #[.agg #[.int .i64 2, .slice (some ⟨B, 0, none⟩) 4 4], .agg #[.int .i64 1, .slice (some ⟨D, 0, none⟩) 1 1]] W (matC W 0 0 (fun _ => 0) 40)) := fun B D W h g hD => by
    have := meet_any 2 (some ⟨B, 0, none⟩) 4 4 _ 1 (some ⟨D, 0, none⟩) 1 1 (fun _ => 1) W (by decide) (by decide) h (one_slp g hD) F1 (fun x hx => (by decide : fits64 1)) (by omega) (by omega)
    rw [v3] at this; exact this
  have C4 : Hid (∀ B W, SlP W (some ⟨B, 0, none⟩) 4 (four 1 (-3) 9 1) → Calls Try.prog 41 #[.agg #[.int .i64 2, .slice (some ⟨B, 0, none⟩) 4 4], .int .i64 1, .agg #[.int .i64 2, .bool false, .int .i64 1, .bool false, .bool false]] W (matC W 0 0 (fun _ => 0) 8)) := fun B W h => by
    have := between_any 2 (some ⟨B, 0, none⟩) 4 4 _ 1 2 false 1 false false W (by decide) h F1 (by omega) (by decide) (by decide)
    rw [v4] at this; exact this
  have C5 : Hid (∀ B W, SlP W (some ⟨B, 0, none⟩) 4 (four 1 (-3) 9 1) → Calls Try.prog 41 #[.agg #[.int .i64 2, .slice (some ⟨B, 0, none⟩) 4 4], .int .i64 1, .agg #[.int .i64 3, .bool true, .int .i64 3, .bool false, .bool false]] W (matC W 0 0 (fun _ => 0) 6)) := fun B W h => by
    have := between_any 2 (some ⟨B, 0, none⟩) 4 4 _ 1 3 true 3 false false W (by decide) h F1 (by omega) (by decide) (by decide)
    rw [v5] at this; exact this
  clear v1 v2 v3 v4 v5 F1
  go_enter Try.func5, Try.ntmps5
  go_wp2_with (fail)
  refine (two5_any _ _ _ _ _).mono ?_; rintro e w' ⟨B1, rfl, hA1, hB1, hH1, p1, rfl⟩
  have t1 : SlP (Wov w p1) (some ⟨B1, 0, none⟩) 4 (four 1 (-3) 9 1) := slp_of hH1 hB1
  clear hA1 hB1 hH1
  go_wp2_with (fail)
  obtain ⟨A1, hA1⟩ : ∃ A, w.heap.size + p1.bl.size = A := ⟨_, rfl⟩
  rw [hA1]
  refine calls_world (fun W => Below w.heap.size w W ∧ BoxM W A1 2 (some ⟨B1, 0, none⟩) 4 4 (four 1 (-3) 9 1)) ⟨by (repeat' (first | (with_reducible assumption) | (with_reducible exact Below.refl _ _) | (with_reducible refine below_wov ?_ ?_ _) | (with_reducible refine below_drewN ?_ _) | (with_reducible refine Below.drew ?_) | (with_reducible refine Below.alloc ?_ ?_ _) | (with_reducible refine Below.setCell ?_ ?_ _) | (with_reducible exact Nat.le_refl _) | omega | (simp only [World.size_alloc, World.size_setCell, World.size_drew, Wov_size, World.heap_drewN]; omega))), BoxM.new (t1) (by rw [← hA1]; (try simp only [Wov_size]))⟩ ?_
  rintro W1 ⟨hb1, m1_0⟩
  have l1_0 := m1_0.lt
  have c1_0 := m1_0.c0
  have d1_0 := m1_0.c1
  clear t1
  refine (C1.out _ _ m1_0.sl).mono ?_; rintro e w' ⟨⟨pa, ca, rfl, ho⟩, q1, rfl⟩
  have tpa := ho.slp
  clear ho
  clear tpa
  go_wp2_with (fail)
  refine calls_world (fun W => Below w.heap.size w W ∧ BoxM W A1 2 (some ⟨B1, 0, none⟩) 4 4 (four 1 (-3) 9 1)) ⟨by (repeat' (first | (with_reducible assumption) | (with_reducible exact Below.refl _ _) | (with_reducible refine below_wov ?_ ?_ _) | (with_reducible refine below_drewN ?_ _) | (with_reducible refine Below.drew ?_) | (with_reducible refine Below.alloc ?_ ?_ _) | (with_reducible refine Below.setCell ?_ ?_ _) | (with_reducible exact Nat.le_refl _) | omega | (simp only [World.size_alloc, World.size_setCell, World.size_drew, Wov_size, World.heap_drewN]; omega))), m1_0.below (by (repeat' (first | (with_reducible assumption) | (with_reducible exact Below.refl _ _) | (with_reducible refine below_wov ?_ ?_ _) | (with_reducible refine below_drewN ?_ _) | (with_reducible refine Below.drew ?_) | (with_reducible refine Below.alloc ?_ ?_ _) | (with_reducible refine Below.setCell ?_ ?_ _) | (with_reducible exact Nat.le_refl _) | omega | (simp only [World.size_alloc, World.size_setCell, World.size_drew, Wov_size, World.heap_drewN]; omega))))⟩ ?_
  rintro W2 ⟨hb2, m2_0⟩
  have l2_0 := m2_0.lt
  have c2_0 := m2_0.c0
  have d2_0 := m2_0.c1
  clear hb1 l1_0 c1_0 d1_0 m1_0
  refine (C2.out _ _ m2_0.sl).mono ?_; rintro e w' ⟨⟨pb, cb, rfl, ho⟩, q2, rfl⟩
  have tpb := ho.slp
  clear ho
  clear tpb
  go_wp2_with (fail)
  refine (C3.out _ _ _ (m2_0.sl.below (by (repeat' (first | (with_reducible assumption) | (with_reducible exact Below.refl _ _) | (with_reducible refine below_wov ?_ ?_ _) | (with_reducible refine below_drewN ?_ _) | (with_reducible refine Below.drew ?_) | (with_reducible refine Below.alloc ?_ ?_ _) | (with_reducible refine Below.setCell ?_ ?_ _) | (with_reducible exact Nat.le_refl _) | omega | (simp only [World.size_alloc, World.size_setCell, World.size_drew, Wov_size, World.heap_drewN]; omega))))) (by simp [go_sem]) (by simp only [World.size_alloc, World.size_setCell, Wov_size, Array.size_append]; omega)).mono ?_; rintro e w' ⟨⟨pc, cc, rfl, ho⟩, q3, rfl⟩
  clear ho
  go_wp2_with (fail)
  refine calls_world (fun W => Below w.heap.size w W ∧ BoxM W A1 2 (some ⟨B1, 0, none⟩) 4 4 (four 1 (-3) 9 1)) ⟨by (repeat' (first | (with_reducible assumption) | (with_reducible exact Below.refl _ _) | (with_reducible refine below_wov ?_ ?_ _) | (with_reducible refine below_drewN ?_ _) | (with_reducible refine Below.drew ?_) | (with_reducible refine Below.alloc ?_ ?_ _) | (with_reducible refine Below.setCell ?_ ?_ _) | (with_reducible exact Nat.le_refl _) | omega | (simp only [World.size_alloc, World.size_setCell, World.size_drew, Wov_size, World.heap_drewN]; omega))), m2_0.below (by (repeat' (first | (with_reducible assumption) | (with_reducible exact Below.refl _ _) | (with_reducible refine below_wov ?_ ?_ _) | (with_reducible refine below_drewN ?_ _) | (with_reducible refine Below.drew ?_) | (with_reducible refine Below.alloc ?_ ?_ _) | (with_reducible refine Below.setCell ?_ ?_ _) | (with_reducible exact Nat.le_refl _) | omega | (simp only [World.size_alloc, World.size_setCell, World.size_drew, Wov_size, World.heap_drewN]; omega))))⟩ ?_
  rintro W3 ⟨hb3, m3_0⟩
  have l3_0 := m3_0.lt
  have c3_0 := m3_0.c0
  have d3_0 := m3_0.c1
  clear hb2 l2_0 c2_0 d2_0 m2_0
  refine (C4.out _ _ m3_0.sl).mono ?_; rintro e w' ⟨⟨pd, cd, rfl, ho⟩, q4, rfl⟩
  have tpd := ho.slp
  clear ho
  clear tpd
  go_wp2_with (fail)
  refine calls_world (fun W => Below w.heap.size w W ∧ BoxM W A1 2 (some ⟨B1, 0, none⟩) 4 4 (four 1 (-3) 9 1)) ⟨by (repeat' (first | (with_reducible assumption) | (with_reducible exact Below.refl _ _) | (with_reducible refine below_wov ?_ ?_ _) | (with_reducible refine below_drewN ?_ _) | (with_reducible refine Below.drew ?_) | (with_reducible refine Below.alloc ?_ ?_ _) | (with_reducible refine Below.setCell ?_ ?_ _) | (with_reducible exact Nat.le_refl _) | omega | (simp only [World.size_alloc, World.size_setCell, World.size_drew, Wov_size, World.heap_drewN]; omega))), m3_0.below (by (repeat' (first | (with_reducible assumption) | (with_reducible exact Below.refl _ _) | (with_reducible refine below_wov ?_ ?_ _) | (with_reducible refine below_drewN ?_ _) | (with_reducible refine Below.drew ?_) | (with_reducible refine Below.alloc ?_ ?_ _) | (with_reducible refine Below.setCell ?_ ?_ _) | (with_reducible exact Nat.le_refl _) | omega | (simp only [World.size_alloc, World.size_setCell, World.size_drew, Wov_size, World.heap_drewN]; omega))))⟩ ?_
  rintro W4 ⟨hb4, m4_0⟩
  have l4_0 := m4_0.lt
  have c4_0 := m4_0.c0
  have d4_0 := m4_0.c1
  clear hb3 l3_0 c3_0 d3_0 m3_0
  refine (C5.out _ _ m4_0.sl).mono ?_; rintro e w' ⟨⟨pe, ce, rfl, ho⟩, q5, rfl⟩
  have tpe := ho.slp
  clear ho
  clear tpe
  go_wp2_with (fail)
  refine calls_world (fun W => Below w.heap.size w W ∧ BoxM W A1 2 (some ⟨B1, 0, none⟩) 4 4 (four 1 (-3) 9 1)) ⟨by (repeat' (first | (with_reducible assumption) | (with_reducible exact Below.refl _ _) | (with_reducible refine below_wov ?_ ?_ _) | (with_reducible refine below_drewN ?_ _) | (with_reducible refine Below.drew ?_) | (with_reducible refine Below.alloc ?_ ?_ _) | (with_reducible refine Below.setCell ?_ ?_ _) | (with_reducible exact Nat.le_refl _) | omega | (simp only [World.size_alloc, World.size_setCell, World.size_drew, Wov_size, World.heap_drewN]; omega))), m4_0.below (by (repeat' (first | (with_reducible assumption) | (with_reducible exact Below.refl _ _) | (with_reducible refine below_wov ?_ ?_ _) | (with_reducible refine below_drewN ?_ _) | (with_reducible refine Below.drew ?_) | (with_reducible refine Below.alloc ?_ ?_ _) | (with_reducible refine Below.setCell ?_ ?_ _) | (with_reducible exact Nat.le_refl _) | omega | (simp only [World.size_alloc, World.size_setCell, World.size_drew, Wov_size, World.heap_drewN]; omega))))⟩ ?_
  rintro W5 ⟨hb5, m5_0⟩
  have l5_0 := m5_0.lt
  have c5_0 := m5_0.c0
  have d5_0 := m5_0.c1
  clear hb4 l4_0 c4_0 d4_0 m4_0
  refine (HA.out _).mono ?_; rintro e w' ⟨rfl, q6, rfl⟩
  go_wp2
  all_goals
    go_ret
    exact gives_bool (by simp) (by (repeat' (first | (with_reducible assumption) | (with_reducible exact Below.refl _ _) | (with_reducible refine below_wov ?_ ?_ _) | (with_reducible refine below_drewN ?_ _) | (with_reducible refine Below.drew ?_) | (with_reducible refine Below.alloc ?_ ?_ _) | (with_reducible refine Below.setCell ?_ ?_ _) | (with_reducible exact Nat.le_refl _) | omega | (simp only [World.size_alloc, World.size_setCell, World.size_drew, Wov_size, World.heap_drewN]; omega))))
end Go.Proofs.Ytlcbpckinjkfeaa.tightNames
