/- The law MinusNames (walk): the chapter's examples. No condition. -/
import Derived.Test.YtnjhjgkekmjmdaaJ7
import Derived.Test.YtnjhjgkekmjmdaaJ10
namespace Go.Proofs.Ytnjhjgkekmjmdaa.minusNames
open Go.ChangeShapes Go.WideShapes Go.ChangeAt Go.RowKit
set_option linter.unusedVariables false
set_option linter.unusedSimpArgs false
attribute [local go_sem] Nat.add_assoc Nat.add_lt_add_iff_left lit_lt_add

set_option maxRecDepth 100000 in
set_option maxHeartbeats 16000000 in
theorem walk (w : World) :
    Calls Try.prog 8 #[] w (Gives w (.bool true)) := by
  have HA := Lib.hid alive11
  obtain ⟨z, hz⟩ : ∃ z, z = row6 8 1 9 0 9 0 := ⟨_, rfl⟩
  have kz : okZ z = true := by rw [hz]; decide +kernel
  have k0 : okZ (row6 0 0 0 0 0 0) = false := by decide +kernel
  have fz := okZ_fits kz
  have f0 : FitsZ (row6 0 0 0 0 0 0) := fun i hi => by
    rcases six hi with rfl | rfl | rfl | rfl | rfl | rfl <;> decide
  have O1 : Hid (∀ w, Calls Try.prog 46 #[.agg #[.int .i64 0, .bool false, .int .i64 4, .bool false, .bool false]] w (Gives w (.agg #[.int .i64 (z 0), .int .i64 (z 1), .int .i64 (z 2), .int .i64 (z 3), .int .i64 (z 4), .int .i64 (z 5)]))) := fun w => by
    rw [hz]; exact of11_any (a := 8) (b := 1) (c := 9) (d := 0) (e := 9) (f := 0) (by decide) (by decide) (by decide +kernel) w
  have MZ : Hid (∀ w, Calls Try.prog 26 #[.agg #[.int .i64 (z 0), .int .i64 (z 1), .int .i64 (z 2), .int .i64 (z 3), .int .i64 (z 4), .int .i64 (z 5)], .agg #[.int .i64 (z 0), .int .i64 (z 1), .int .i64 (z 2), .int .i64 (z 3), .int .i64 (z 4), .int .i64 (z 5)]] w (zlC w ([], 0))) := fun w => by
    have := minus_any z z fz fz w
    rw [minus_self kz] at this; exact this
  have LF : Hid (∀ w, Calls Try.prog 28 #[.agg #[.int .i64 (z 0), .int .i64 (z 1), .int .i64 (z 2), .int .i64 (z 3), .int .i64 (z 4), .int .i64 (z 5)], .slice none 0 0] w (zlC w ([z], 0))) := fun w => by
    have := left_any z none 0 [] w fz (fun z hz => by cases hz) (.inl rfl) (by simp)
    rw [left_none kz] at this; exact this
  have MB : Hid (∀ w, Calls Try.prog 26 #[.agg #[.int .i64 (z 0), .int .i64 (z 1), .int .i64 (z 2), .int .i64 (z 3), .int .i64 (z 4), .int .i64 (z 5)], .agg #[.int .i64 0, .int .i64 0, .int .i64 0, .int .i64 0, .int .i64 0, .int .i64 0]] w (zlC w ([], 8))) := fun w => by
    have := minus_any z (row6 0 0 0 0 0 0) fz f0 w
    rw [minus_bad (by rw [k0, Bool.and_false])] at this; exact this
  unfold zlC at MZ LF MB
  dsimp only at MZ LF MB
  have E : eq6 (z 0) (z 1) (z 2) (z 3) (z 4) (z 5) (z 0) (z 1) (z 2) (z 3) (z 4) (z 5) = true := (eq6_iff z z).2 (fun _ _ => rfl)
  clear hz kz k0 fz f0
  go_enter Try.func8, Try.ntmps8
  go_wp2_with (fail)
  refine (O1.out _).mono ?_; rintro e w' ⟨rfl, q0, rfl⟩
  go_wp2_with (fail)
  obtain ⟨A1, hA1⟩ : ∃ A, w.heap.size + q0.bl.size = A := ⟨_, rfl⟩
  rw [hA1]
  refine calls_world (fun W => Below w.heap.size w W ∧ BoxZ W A1 z) ⟨by (repeat' (first | (with_reducible assumption) | (with_reducible exact Below.refl _ _) | (with_reducible refine below_wov ?_ ?_ _) | (with_reducible refine below_drewN ?_ _) | (with_reducible refine Below.drew ?_) | (with_reducible refine Below.alloc ?_ ?_ _) | (with_reducible refine Below.setCell ?_ ?_ _) | (with_reducible exact Nat.le_refl _) | omega | (simp only [World.size_alloc, World.size_setCell, World.size_drew, Wov_size, World.heap_drewN]; omega))), BoxZ.new (by rw [← hA1]; (try simp only [Wov_size]))⟩ ?_
  rintro W1 ⟨hb1, m1_0⟩
  have hs1 := hb1.size
  have f1_0_lt := m1_0.lt
  have f1_0_c0 := m1_0.c0
  have f1_0_c1 := m1_0.c1
  have f1_0_c2 := m1_0.c2
  have f1_0_c3 := m1_0.c3
  have f1_0_c4 := m1_0.c4
  have f1_0_c5 := m1_0.c5
  clear hA1 O1
  refine (MZ.out _).mono ?_; rintro e w' ⟨⟨p1, c1, rfl, _, hop1⟩, q1, rfl⟩
  clear hop1
  go_wp2_with (fail)
  refine calls_world (fun W => Below w.heap.size w W ∧ BoxZ W A1 z) ⟨by (repeat' (first | (with_reducible assumption) | (with_reducible exact Below.refl _ _) | (with_reducible refine below_wov ?_ ?_ _) | (with_reducible refine below_drewN ?_ _) | (with_reducible refine Below.drew ?_) | (with_reducible refine Below.alloc ?_ ?_ _) | (with_reducible refine Below.setCell ?_ ?_ _) | (with_reducible exact Nat.le_refl _) | omega | (simp only [World.size_alloc, World.size_setCell, World.size_drew, Wov_size, World.heap_drewN]; omega))), m1_0.below (by (repeat' (first | (with_reducible assumption) | (with_reducible exact Below.refl _ _) | (with_reducible refine below_wov ?_ ?_ _) | (with_reducible refine below_drewN ?_ _) | (with_reducible refine Below.drew ?_) | (with_reducible refine Below.alloc ?_ ?_ _) | (with_reducible refine Below.setCell ?_ ?_ _) | (with_reducible exact Nat.le_refl _) | omega | (simp only [World.size_alloc, World.size_setCell, World.size_drew, Wov_size, World.heap_drewN]; omega))))⟩ ?_
  rintro W2 ⟨hb2, m2_0⟩
  clear hb1 f1_0_lt f1_0_c0 f1_0_c1 f1_0_c2 f1_0_c3 f1_0_c4 f1_0_c5 m1_0 hs1
  have hs2 := hb2.size
  have f2_0_lt := m2_0.lt
  have f2_0_c0 := m2_0.c0
  have f2_0_c1 := m2_0.c1
  have f2_0_c2 := m2_0.c2
  have f2_0_c3 := m2_0.c3
  have f2_0_c4 := m2_0.c4
  have f2_0_c5 := m2_0.c5
  refine (LF.out _).mono ?_; rintro e w' ⟨⟨p2, c2, rfl, _, hop2⟩, q2, rfl⟩
  have hs2 := hop2.slz
  clear hop2
  go_wp2_with (fail)
  refine calls_world (fun W => Below w.heap.size w W ∧ BoxZ W A1 z ∧ SlZ W p2 [z]) ⟨by (repeat' (first | (with_reducible assumption) | (with_reducible exact Below.refl _ _) | (with_reducible refine below_wov ?_ ?_ _) | (with_reducible refine below_drewN ?_ _) | (with_reducible refine Below.drew ?_) | (with_reducible refine Below.alloc ?_ ?_ _) | (with_reducible refine Below.setCell ?_ ?_ _) | (with_reducible exact Nat.le_refl _) | omega | (simp only [World.size_alloc, World.size_setCell, World.size_drew, Wov_size, World.heap_drewN]; omega))), m2_0.below (by (repeat' (first | (with_reducible assumption) | (with_reducible exact Below.refl _ _) | (with_reducible refine below_wov ?_ ?_ _) | (with_reducible refine below_drewN ?_ _) | (with_reducible refine Below.drew ?_) | (with_reducible refine Below.alloc ?_ ?_ _) | (with_reducible refine Below.setCell ?_ ?_ _) | (with_reducible exact Nat.le_refl _) | omega | (simp only [World.size_alloc, World.size_setCell, World.size_drew, Wov_size, World.heap_drewN]; omega)))), hs2.below (by (repeat' (first | (with_reducible assumption) | (with_reducible exact Below.refl _ _) | (with_reducible refine below_wov ?_ ?_ _) | (with_reducible refine below_drewN ?_ _) | (with_reducible refine Below.drew ?_) | (with_reducible refine Below.alloc ?_ ?_ _) | (with_reducible refine Below.setCell ?_ ?_ _) | (with_reducible exact Nat.le_refl _) | omega | (simp only [World.size_alloc, World.size_setCell, World.size_drew, Wov_size, World.heap_drewN]; omega))))⟩ ?_
  rintro W3 ⟨hb3, m3_0, m3_1⟩
  clear hb2 f2_0_lt f2_0_c0 f2_0_c1 f2_0_c2 f2_0_c3 f2_0_c4 f2_0_c5 m2_0 hs2
  have hs3 := hb3.size
  have f3_0_lt := m3_0.lt
  have f3_0_c0 := m3_0.c0
  have f3_0_c1 := m3_0.c1
  have f3_0_c2 := m3_0.c2
  have f3_0_c3 := m3_0.c3
  have f3_0_c4 := m3_0.c4
  have f3_0_c5 := m3_0.c5
  clear hs2
  refine (MB.out _).mono ?_; rintro e w' ⟨⟨p3, c3, rfl, _, hop3⟩, q3, rfl⟩
  clear hop3
  go_wp2
  refine wp_world (fun W => Below w.heap.size w W ∧ BoxZ W A1 z ∧ SlZ W p2 [z]) ⟨by (repeat' (first | (with_reducible assumption) | (with_reducible exact Below.refl _ _) | (with_reducible refine below_wov ?_ ?_ _) | (with_reducible refine below_drewN ?_ _) | (with_reducible refine Below.drew ?_) | (with_reducible refine Below.alloc ?_ ?_ _) | (with_reducible refine Below.setCell ?_ ?_ _) | (with_reducible exact Nat.le_refl _) | omega | (simp only [World.size_alloc, World.size_setCell, World.size_drew, Wov_size, World.heap_drewN]; omega))), m3_0.below (by (repeat' (first | (with_reducible assumption) | (with_reducible exact Below.refl _ _) | (with_reducible refine below_wov ?_ ?_ _) | (with_reducible refine below_drewN ?_ _) | (with_reducible refine Below.drew ?_) | (with_reducible refine Below.alloc ?_ ?_ _) | (with_reducible refine Below.setCell ?_ ?_ _) | (with_reducible exact Nat.le_refl _) | omega | (simp only [World.size_alloc, World.size_setCell, World.size_drew, Wov_size, World.heap_drewN]; omega)))), m3_1.below (by (repeat' (first | (with_reducible assumption) | (with_reducible exact Below.refl _ _) | (with_reducible refine below_wov ?_ ?_ _) | (with_reducible refine below_drewN ?_ _) | (with_reducible refine Below.drew ?_) | (with_reducible refine Below.alloc ?_ ?_ _) | (with_reducible refine Below.setCell ?_ ?_ _) | (with_reducible exact Nat.le_refl _) | omega | (simp only [World.size_alloc, World.size_setCell, World.size_drew, Wov_size, World.heap_drewN]; omega))))⟩ ?_
  rintro W4 ⟨hb4, m4_0, m4_1⟩
  clear hb3 f3_0_lt f3_0_c0 f3_0_c1 f3_0_c2 f3_0_c3 f3_0_c4 f3_0_c5 m3_0 m3_1 hs3
  have hs4 := hb4.size
  have f4_0_lt := m4_0.lt
  have f4_0_c0 := m4_0.c0
  have f4_0_c1 := m4_0.c1
  have f4_0_c2 := m4_0.c2
  have f4_0_c3 := m4_0.c3
  have f4_0_c4 := m4_0.c4
  have f4_0_c5 := m4_0.c5
  clear MZ LF MB
  obtain ⟨Bl, ol, rfl, hBl, hvl⟩ := m4_1.resolve_left (by simp)
  have hcc := slz_cells hvl (t := 0) (by simp)
  rw [show nthZ [z] 0 = z from rfl] at hcc
  simp only [Nat.zero_mul, Nat.zero_add, Nat.add_zero] at hcc
  obtain ⟨b0, b1, b2, b3, b4, b5⟩ := hcc
  clear hvl
  go_region_held3 (fun w' => w'.cell? ⟨A1, 0, none⟩ = some (.int .i64 (z 0)) ∧ w'.cell? ⟨A1, 1, none⟩ = some (.int .i64 (z 1)) ∧ w'.cell? ⟨A1, 2, none⟩ = some (.int .i64 (z 2)) ∧ w'.cell? ⟨A1, 3, none⟩ = some (.int .i64 (z 3)) ∧ w'.cell? ⟨A1, 4, none⟩ = some (.int .i64 (z 4)) ∧ w'.cell? ⟨A1, 5, none⟩ = some (.int .i64 (z 5)) ∧ w'.cell? ⟨Bl, ol, none⟩ = some (.int .i64 (z 0)) ∧ w'.cell? ⟨Bl, ol + 1, none⟩ = some (.int .i64 (z 1)) ∧ w'.cell? ⟨Bl, ol + 2, none⟩ = some (.int .i64 (z 2)) ∧ w'.cell? ⟨Bl, ol + 3, none⟩ = some (.int .i64 (z 3)) ∧ w'.cell? ⟨Bl, ol + 4, none⟩ = some (.int .i64 (z 4)) ∧ w'.cell? ⟨Bl, ol + 5, none⟩ = some (.int .i64 (z 5)))
    ((simp [go_sem, *]))
    ((go_at_call 47; (refine (HA.out _).mono ?_; rintro e w' ⟨rfl, qb, rfl⟩)))
  simp only [Exit.then]
  refine ‹∀ (a : Act) (w_1 : World), Code.wp Try.prog _ (bodyPost Try.prog _ _) a w_1 → _› _ _ ?_
  go_wp2
  go_ret
  exact gives_bool rfl (by (repeat' (first | (with_reducible assumption) | (with_reducible exact Below.refl _ _) | (with_reducible refine below_wov ?_ ?_ _) | (with_reducible refine below_drewN ?_ _) | (with_reducible refine Below.drew ?_) | (with_reducible refine Below.alloc ?_ ?_ _) | (with_reducible refine Below.setCell ?_ ?_ _) | (with_reducible exact Nat.le_refl _) | omega | (simp only [World.size_alloc, World.size_setCell, World.size_drew, Wov_size, World.heap_drewN]; omega))))
end Go.Proofs.Ytnjhjgkekmjmdaa.minusNames
