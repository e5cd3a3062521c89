/- law09: its helpers to, ahead, of, is, and its alive. No condition. -/
import Derived.Test.YtbgbhfcnadjhdaaL10
import Derived.Test.YtbgbhfcnadjhdaaL7
import Derived.Test.YtbgbhfcnadjhdaaK3
import Derived.Test.YtbgbhfcnadjhdaaH4
import Derived.Test.YtbgbhfcnadjhdaaH13
import Derived.Test.YtbgbhfcnadjhdaaH11
import Derived.Deep.Cut
namespace Go.Proofs.Ytbgbhfcnadjhdaa
set_option linter.unusedSimpArgs false
set_option linter.unusedVariables false
open Go Go.RowKit Go.Shelf
attribute [local go_sem] Nat.add_assoc Nat.add_lt_add_iff_left lit_lt_add

set_option maxHeartbeats 400000 in
theorem to9_any (a b : Int) : Pure Try.prog 32 #[.int .i64 a, .int .i64 b] (.agg #[.int .i64 a, .bool false, .int .i64 b, .bool false, .bool false]) := by
  intro w
  go_enter Try.func32, Try.ntmps32
  go_wp2
  go_returns
  exact gives_end rfl (by (repeat' (first | (with_reducible assumption) | (with_reducible exact Below.refl _ _) | (with_reducible refine below_wov ?_ ?_ _) | (with_reducible refine below_drewN ?_ _) | (with_reducible refine Below.drew ?_) | (with_reducible refine Below.alloc ?_ ?_ _) | (with_reducible refine Below.setCell ?_ ?_ _) | (with_reducible exact Nat.le_refl _) | omega | (simp only [World.size_alloc, World.size_setCell, World.size_drew, Wov_size, World.heap_drewN]; omega))))
set_option maxHeartbeats 400000 in
theorem ahead9 : Pure Try.prog 74 #[] (.agg #[.int .i64 0, .bool true, .int .i64 0, .bool false, .bool true]) := by
  intro w
  go_enter Try.func74, Try.ntmps74
  go_wp2
  go_returns
  exact gives_end rfl (by (repeat' (first | (with_reducible assumption) | (with_reducible exact Below.refl _ _) | (with_reducible refine below_wov ?_ ?_ _) | (with_reducible refine below_drewN ?_ _) | (with_reducible refine Below.drew ?_) | (with_reducible refine Below.alloc ?_ ?_ _) | (with_reducible refine Below.setCell ?_ ?_ _) | (with_reducible exact Nat.le_refl _) | omega | (simp only [World.size_alloc, World.size_setCell, World.size_drew, Wov_size, World.heap_drewN]; omega))))
set_option maxHeartbeats 1000000 in
theorem is9_any (a0 a1 a2 a3 a4 a5 b0 b1 b2 b3 b4 b5 : Int) (h : eq6 a0 a1 a2 a3 a4 a5 b0 b1 b2 b3 b4 b5 = true) : Pure Try.prog 35 #[.agg #[.int .i64 a0, .int .i64 a1, .int .i64 a2, .int .i64 a3, .int .i64 a4, .int .i64 a5], .int .i64 0, .agg #[.int .i64 b0, .int .i64 b1, .int .i64 b2, .int .i64 b3, .int .i64 b4, .int .i64 b5]] (.bool true) := by
  intro w
  go_enter Try.func35, Try.ntmps35
  go_wp2
  go_ret
  exact gives_bool (by simp [h]) (by (repeat' (first | (with_reducible assumption) | (with_reducible exact Below.refl _ _) | (with_reducible refine below_wov ?_ ?_ _) | (with_reducible refine below_drewN ?_ _) | (with_reducible refine Below.drew ?_) | (with_reducible refine Below.alloc ?_ ?_ _) | (with_reducible refine Below.setCell ?_ ?_ _) | (with_reducible exact Nat.le_refl _) | omega | (simp only [World.size_alloc, World.size_setCell, World.size_drew, Wov_size, World.heap_drewN]; omega))))
set_option maxRecDepth 10000 in
theorem of9_am (w : World) : Calls Try.prog 26 #[.agg #[.int .i64 0, .bool false, .int .i64 1, .bool false, .bool false], .agg #[.int .i64 2, .bool false, .int .i64 2, .bool false, .bool false], .agg #[.int .i64 0, .bool true, .int .i64 0, .bool false, .bool true]] w (Gives w (.tuple #[.agg #[.int .i64 3, .int .i64 1, .int .i64 5, .int .i64 (-3), .int .i64 5, .int .i64 (-1)], .int .i64 0])) := by
  have h : (makeZ (betwS 0 false 1 false false) (betwS 2 false 2 false false) (betwS 0 true 0 false true)).2 = 0 ∧ (makeZ (betwS 0 false 1 false false) (betwS 2 false 2 false false) (betwS 0 true 0 false true)).1 0 = 3 ∧ (makeZ (betwS 0 false 1 false false) (betwS 2 false 2 false false) (betwS 0 true 0 false true)).1 1 = 1 ∧ (makeZ (betwS 0 false 1 false false) (betwS 2 false 2 false false) (betwS 0 true 0 false true)).1 2 = 5 ∧ (makeZ (betwS 0 false 1 false false) (betwS 2 false 2 false false) (betwS 0 true 0 false true)).1 3 = (-3) ∧ (makeZ (betwS 0 false 1 false false) (betwS 2 false 2 false false) (betwS 0 true 0 false true)).1 4 = 5 ∧ (makeZ (betwS 0 false 1 false false) (betwS 2 false 2 false false) (betwS 0 true 0 false true)).1 5 = (-1) := by decide +kernel
  have := zmake_any 0 false 1 false false 2 false 2 false false 0 true 0 false true w (by decide) (by decide) (by decide) (by decide) (by decide) (by decide)
  unfold zoneR zoneV at this
  rw [h.1, h.2.1, h.2.2.1, h.2.2.2.1, h.2.2.2.2.1, h.2.2.2.2.2.1, h.2.2.2.2.2.2] at this
  exact this
set_option maxRecDepth 10000 in
set_option maxHeartbeats 1000000 in
theorem of9_a : Pure Try.prog 31 #[.agg #[.int .i64 0, .bool false, .int .i64 1, .bool false, .bool false], .agg #[.int .i64 2, .bool false, .int .i64 2, .bool false, .bool false]] (.agg #[.int .i64 3, .int .i64 1, .int .i64 5, .int .i64 (-3), .int .i64 5, .int .i64 (-1)]) := by
  intro w
  have AH : Hid (∀ w, Calls Try.prog 74 #[] w (Gives w (.agg #[.int .i64 0, .bool true, .int .i64 0, .bool false, .bool true]))) := fun w => ahead9 w
  have MK := Lib.hid of9_am
  go_enter Try.func31, Try.ntmps31
  go_wp2
  refine wp_world (fun W => Below w.heap.size w W ∧ HoldsA W (w.heap.size + 2) 6 (fun _ => 0) ∧ W.cell? ⟨w.heap.size, 0, none⟩ = some (.int .i64 0) ∧ W.cell? ⟨w.heap.size, 1, none⟩ = some (.bool false) ∧ W.cell? ⟨w.heap.size, 2, none⟩ = some (.int .i64 1) ∧ W.cell? ⟨w.heap.size, 3, none⟩ = some (.bool false) ∧ W.cell? ⟨w.heap.size, 4, none⟩ = some (.bool false) ∧ W.cell? ⟨w.heap.size + 1, 0, none⟩ = some (.int .i64 2) ∧ W.cell? ⟨w.heap.size + 1, 1, none⟩ = some (.bool false) ∧ W.cell? ⟨w.heap.size + 1, 2, none⟩ = some (.int .i64 2) ∧ W.cell? ⟨w.heap.size + 1, 3, none⟩ = some (.bool false) ∧ W.cell? ⟨w.heap.size + 1, 4, none⟩ = some (.bool false)) ⟨by (repeat' (first | (with_reducible assumption) | (with_reducible exact Below.refl _ _) | (with_reducible refine below_wov ?_ ?_ _) | (with_reducible refine below_drewN ?_ _) | (with_reducible refine Below.drew ?_) | (with_reducible refine Below.alloc ?_ ?_ _) | (with_reducible refine Below.setCell ?_ ?_ _) | (with_reducible exact Nat.le_refl _) | omega | (simp only [World.size_alloc, World.size_setCell, World.size_drew, Wov_size, World.heap_drewN]; omega))), zero_six (by simp), by simp [go_sem], by simp [go_sem], by simp [go_sem], by simp [go_sem], by simp [go_sem], by simp [go_sem], by simp [go_sem], by simp [go_sem], by simp [go_sem], by simp [go_sem]⟩ ?_
  rintro W ⟨hb, hz, f0, f1, f2, f3, f4, f5, f6, f7, f8, f9⟩
  have hs := hb.size
  have l2 := hz.lt
  have HZ := Lib.hid hz
  clear hz
  go_cut [5] from 15 (fun s V => ∃ A : Nat, s = .pointer (some ⟨A, 0, none⟩) ∧ Below w.heap.size w V ∧ HoldsA V (w.heap.size + 2) 6 (fun _ => 0) ∧ BoxZ V A (row6 3 1 5 (-3) 5 (-1)))
  case first =>
    go_region_held3 (fun w' => w'.cell? ⟨w.heap.size, 0, none⟩ = some (.int .i64 0) ∧ w'.cell? ⟨w.heap.size, 1, none⟩ = some (.bool false) ∧ w'.cell? ⟨w.heap.size, 2, none⟩ = some (.int .i64 1) ∧ w'.cell? ⟨w.heap.size, 3, none⟩ = some (.bool false) ∧ w'.cell? ⟨w.heap.size, 4, none⟩ = some (.bool false) ∧ w'.cell? ⟨w.heap.size + 1, 0, none⟩ = some (.int .i64 2) ∧ w'.cell? ⟨w.heap.size + 1, 1, none⟩ = some (.bool false) ∧ w'.cell? ⟨w.heap.size + 1, 2, none⟩ = some (.int .i64 2) ∧ w'.cell? ⟨w.heap.size + 1, 3, none⟩ = some (.bool false) ∧ w'.cell? ⟨w.heap.size + 1, 4, none⟩ = some (.bool false))
      ((simp [go_sem, *]))
      (first | (go_at_call 74; ((with_reducible refine (AH.out _).mono ?_); rintro e w' ⟨rfl, q, rfl⟩)) | (go_at_call 26; ((with_reducible refine (MK.out _).mono ?_); rintro e w' ⟨rfl, q, rfl⟩)))
    all_goals
      go_wp2_with (fail)
      go_meet
      case rel => exact ⟨_, rfl, by (repeat' (first | (with_reducible assumption) | (with_reducible exact Below.refl _ _) | (with_reducible refine below_wov ?_ ?_ _) | (with_reducible refine below_drewN ?_ _) | (with_reducible refine Below.drew ?_) | (with_reducible refine Below.alloc ?_ ?_ _) | (with_reducible refine Below.setCell ?_ ?_ _) | (with_reducible exact Nat.le_refl _) | omega | (simp only [World.size_alloc, World.size_setCell, World.size_drew, Wov_size, World.heap_drewN]; omega))), HZ.out.below (by (repeat' (first | (with_reducible assumption) | (with_reducible exact Below.refl _ _) | (with_reducible refine below_wov ?_ ?_ _) | (with_reducible refine below_drewN ?_ _) | (with_reducible refine Below.drew ?_) | (with_reducible refine Below.alloc ?_ ?_ _) | (with_reducible refine Below.setCell ?_ ?_ _) | (with_reducible exact Nat.le_refl _) | omega | (simp only [World.size_alloc, World.size_setCell, World.size_drew, Wov_size, World.heap_drewN]; omega)))), ⟨by (first | omega | ((simp only [World.size_alloc, World.size_setCell, World.size_drew, Wov_size, World.heap_drewN, Array.size_append]) <;> omega)), by simp [go_sem, row6], by simp [go_sem, row6], by simp [go_sem, row6], by simp [go_sem, row6], by simp [go_sem, row6], by simp [go_sem, row6]⟩⟩
  case rest =>
    obtain ⟨A, rfl, hbV, mR, mB⟩ := hcut
    have x0 : wc.cell? ⟨A, 0, none⟩ = some (.int .i64 3) := mB.c0
    have x1 : wc.cell? ⟨A, 1, none⟩ = some (.int .i64 1) := mB.c1
    have x2 : wc.cell? ⟨A, 2, none⟩ = some (.int .i64 5) := mB.c2
    have x3 : wc.cell? ⟨A, 3, none⟩ = some (.int .i64 (-3)) := mB.c3
    have x4 : wc.cell? ⟨A, 4, none⟩ = some (.int .i64 5) := mB.c4
    have x5 : wc.cell? ⟨A, 5, none⟩ = some (.int .i64 (-1)) := mB.c5
    have xl := mB.lt
    have r0 := (mR.holds 0 (by omega)).1
    have r1 := (mR.holds 1 (by omega)).1
    have r2 := (mR.holds 2 (by omega)).1
    have r3 := (mR.holds 3 (by omega)).1
    have r4 := (mR.holds 4 (by omega)).1
    have r5 := (mR.holds 5 (by omega)).1
    have n0 := (mR.holds 0 (by omega)).2
    have n1 := (mR.holds 1 (by omega)).2
    have n2 := (mR.holds 2 (by omega)).2
    have n3 := (mR.holds 3 (by omega)).2
    have n4 := (mR.holds 4 (by omega)).2
    have n5 := (mR.holds 5 (by omega)).2
    have rl := mR.lt
    clear mB mR HZ AH MK
    ((try dsimp only); repeat (first | go_values | go_skip | go_guarded | go_step | go_upon))
    refine bodyPost_ret (by simp [results, Try.results31, go_sem, r0, r1, r2, r3, r4, r5, rl]; try rfl) rfl ?_
    exact gives_end rfl (by (repeat' (first | (with_reducible assumption) | (with_reducible exact Below.refl _ _) | (with_reducible refine below_wov ?_ ?_ _) | (with_reducible refine below_drewN ?_ _) | (with_reducible refine Below.drew ?_) | (with_reducible refine Below.alloc ?_ ?_ _) | (with_reducible refine Below.setCell ?_ ?_ _) | (with_reducible exact Nat.le_refl _) | omega | (simp only [World.size_alloc, World.size_setCell, World.size_drew, Wov_size, World.heap_drewN]; omega))))
set_option maxRecDepth 10000 in
theorem of9_bm (w : World) : Calls Try.prog 26 #[.agg #[.int .i64 2, .bool false, .int .i64 2, .bool false, .bool false], .agg #[.int .i64 3, .bool false, .int .i64 4, .bool false, .bool false], .agg #[.int .i64 0, .bool true, .int .i64 0, .bool false, .bool true]] w (Gives w (.tuple #[.agg #[.int .i64 5, .int .i64 (-3), .int .i64 9, .int .i64 (-5), .int .i64 5, .int .i64 (-1)], .int .i64 0])) := by
  have h : (makeZ (betwS 2 false 2 false false) (betwS 3 false 4 false false) (betwS 0 true 0 false true)).2 = 0 ∧ (makeZ (betwS 2 false 2 false false) (betwS 3 false 4 false false) (betwS 0 true 0 false true)).1 0 = 5 ∧ (makeZ (betwS 2 false 2 false false) (betwS 3 false 4 false false) (betwS 0 true 0 false true)).1 1 = (-3) ∧ (makeZ (betwS 2 false 2 false false) (betwS 3 false 4 false false) (betwS 0 true 0 false true)).1 2 = 9 ∧ (makeZ (betwS 2 false 2 false false) (betwS 3 false 4 false false) (betwS 0 true 0 false true)).1 3 = (-5) ∧ (makeZ (betwS 2 false 2 false false) (betwS 3 false 4 false false) (betwS 0 true 0 false true)).1 4 = 5 ∧ (makeZ (betwS 2 false 2 false false) (betwS 3 false 4 false false) (betwS 0 true 0 false true)).1 5 = (-1) := by decide +kernel
  have := zmake_any 2 false 2 false false 3 false 4 false false 0 true 0 false true w (by decide) (by decide) (by decide) (by decide) (by decide) (by decide)
  unfold zoneR zoneV at this
  rw [h.1, h.2.1, h.2.2.1, h.2.2.2.1, h.2.2.2.2.1, h.2.2.2.2.2.1, h.2.2.2.2.2.2] at this
  exact this
set_option maxRecDepth 10000 in
set_option maxHeartbeats 1000000 in
theorem of9_b : Pure Try.prog 31 #[.agg #[.int .i64 2, .bool false, .int .i64 2, .bool false, .bool false], .agg #[.int .i64 3, .bool false, .int .i64 4, .bool false, .bool false]] (.agg #[.int .i64 5, .int .i64 (-3), .int .i64 9, .int .i64 (-5), .int .i64 5, .int .i64 (-1)]) := by
  intro w
  have AH : Hid (∀ w, Calls Try.prog 74 #[] w (Gives w (.agg #[.int .i64 0, .bool true, .int .i64 0, .bool false, .bool true]))) := fun w => ahead9 w
  have MK := Lib.hid of9_bm
  go_enter Try.func31, Try.ntmps31
  go_wp2
  refine wp_world (fun W => Below w.heap.size w W ∧ HoldsA W (w.heap.size + 2) 6 (fun _ => 0) ∧ W.cell? ⟨w.heap.size, 0, none⟩ = some (.int .i64 2) ∧ W.cell? ⟨w.heap.size, 1, none⟩ = some (.bool false) ∧ W.cell? ⟨w.heap.size, 2, none⟩ = some (.int .i64 2) ∧ W.cell? ⟨w.heap.size, 3, none⟩ = some (.bool false) ∧ W.cell? ⟨w.heap.size, 4, none⟩ = some (.bool false) ∧ W.cell? ⟨w.heap.size + 1, 0, none⟩ = some (.int .i64 3) ∧ W.cell? ⟨w.heap.size + 1, 1, none⟩ = some (.bool false) ∧ W.cell? ⟨w.heap.size + 1, 2, none⟩ = some (.int .i64 4) ∧ W.cell? ⟨w.heap.size + 1, 3, none⟩ = some (.bool false) ∧ W.cell? ⟨w.heap.size + 1, 4, none⟩ = some (.bool false)) ⟨by (repeat' (first | (with_reducible assumption) | (with_reducible exact Below.refl _ _) | (with_reducible refine below_wov ?_ ?_ _) | (with_reducible refine below_drewN ?_ _) | (with_reducible refine Below.drew ?_) | (with_reducible refine Below.alloc ?_ ?_ _) | (with_reducible refine Below.setCell ?_ ?_ _) | (with_reducible exact Nat.le_refl _) | omega | (simp only [World.size_alloc, World.size_setCell, World.size_drew, Wov_size, World.heap_drewN]; omega))), zero_six (by simp), by simp [go_sem], by simp [go_sem], by simp [go_sem], by simp [go_sem], by simp [go_sem], by simp [go_sem], by simp [go_sem], by simp [go_sem], by simp [go_sem], by simp [go_sem]⟩ ?_
  rintro W ⟨hb, hz, f0, f1, f2, f3, f4, f5, f6, f7, f8, f9⟩
  have hs := hb.size
  have l2 := hz.lt
  have HZ := Lib.hid hz
  clear hz
  go_cut [5] from 15 (fun s V => ∃ A : Nat, s = .pointer (some ⟨A, 0, none⟩) ∧ Below w.heap.size w V ∧ HoldsA V (w.heap.size + 2) 6 (fun _ => 0) ∧ BoxZ V A (row6 5 (-3) 9 (-5) 5 (-1)))
  case first =>
    go_region_held3 (fun w' => w'.cell? ⟨w.heap.size, 0, none⟩ = some (.int .i64 2) ∧ w'.cell? ⟨w.heap.size, 1, none⟩ = some (.bool false) ∧ w'.cell? ⟨w.heap.size, 2, none⟩ = some (.int .i64 2) ∧ w'.cell? ⟨w.heap.size, 3, none⟩ = some (.bool false) ∧ w'.cell? ⟨w.heap.size, 4, none⟩ = some (.bool false) ∧ w'.cell? ⟨w.heap.size + 1, 0, none⟩ = some (.int .i64 3) ∧ w'.cell? ⟨w.heap.size + 1, 1, none⟩ = some (.bool false) ∧ w'.cell? ⟨w.heap.size + 1, 2, none⟩ = some (.int .i64 4) ∧ w'.cell? ⟨w.heap.size + 1, 3, none⟩ = some (.bool false) ∧ w'.cell? ⟨w.heap.size + 1, 4, none⟩ = some (.bool false))
      ((simp [go_sem, *]))
      (first | (go_at_call 74; ((with_reducible refine (AH.out _).mono ?_); rintro e w' ⟨rfl, q, rfl⟩)) | (go_at_call 26; ((with_reducible refine (MK.out _).mono ?_); rintro e w' ⟨rfl, q, rfl⟩)))
    all_goals
      go_wp2_with (fail)
      go_meet
      case rel => exact ⟨_, rfl, by (repeat' (first | (with_reducible assumption) | (with_reducible exact Below.refl _ _) | (with_reducible refine below_wov ?_ ?_ _) | (with_reducible refine below_drewN ?_ _) | (with_reducible refine Below.drew ?_) | (with_reducible refine Below.alloc ?_ ?_ _) | (with_reducible refine Below.setCell ?_ ?_ _) | (with_reducible exact Nat.le_refl _) | omega | (simp only [World.size_alloc, World.size_setCell, World.size_drew, Wov_size, World.heap_drewN]; omega))), HZ.out.below (by (repeat' (first | (with_reducible assumption) | (with_reducible exact Below.refl _ _) | (with_reducible refine below_wov ?_ ?_ _) | (with_reducible refine below_drewN ?_ _) | (with_reducible refine Below.drew ?_) | (with_reducible refine Below.alloc ?_ ?_ _) | (with_reducible refine Below.setCell ?_ ?_ _) | (with_reducible exact Nat.le_refl _) | omega | (simp only [World.size_alloc, World.size_setCell, World.size_drew, Wov_size, World.heap_drewN]; omega)))), ⟨by (first | omega | ((simp only [World.size_alloc, World.size_setCell, World.size_drew, Wov_size, World.heap_drewN, Array.size_append]) <;> omega)), by simp [go_sem, row6], by simp [go_sem, row6], by simp [go_sem, row6], by simp [go_sem, row6], by simp [go_sem, row6], by simp [go_sem, row6]⟩⟩
  case rest =>
    obtain ⟨A, rfl, hbV, mR, mB⟩ := hcut
    have x0 : wc.cell? ⟨A, 0, none⟩ = some (.int .i64 5) := mB.c0
    have x1 : wc.cell? ⟨A, 1, none⟩ = some (.int .i64 (-3)) := mB.c1
    have x2 : wc.cell? ⟨A, 2, none⟩ = some (.int .i64 9) := mB.c2
    have x3 : wc.cell? ⟨A, 3, none⟩ = some (.int .i64 (-5)) := mB.c3
    have x4 : wc.cell? ⟨A, 4, none⟩ = some (.int .i64 5) := mB.c4
    have x5 : wc.cell? ⟨A, 5, none⟩ = some (.int .i64 (-1)) := mB.c5
    have xl := mB.lt
    have r0 := (mR.holds 0 (by omega)).1
    have r1 := (mR.holds 1 (by omega)).1
    have r2 := (mR.holds 2 (by omega)).1
    have r3 := (mR.holds 3 (by omega)).1
    have r4 := (mR.holds 4 (by omega)).1
    have r5 := (mR.holds 5 (by omega)).1
    have n0 := (mR.holds 0 (by omega)).2
    have n1 := (mR.holds 1 (by omega)).2
    have n2 := (mR.holds 2 (by omega)).2
    have n3 := (mR.holds 3 (by omega)).2
    have n4 := (mR.holds 4 (by omega)).2
    have n5 := (mR.holds 5 (by omega)).2
    have rl := mR.lt
    clear mB mR HZ AH MK
    ((try dsimp only); repeat (first | go_values | go_skip | go_guarded | go_step | go_upon))
    refine bodyPost_ret (by simp [results, Try.results31, go_sem, r0, r1, r2, r3, r4, r5, rl]; try rfl) rfl ?_
    exact gives_end rfl (by (repeat' (first | (with_reducible assumption) | (with_reducible exact Below.refl _ _) | (with_reducible refine below_wov ?_ ?_ _) | (with_reducible refine below_drewN ?_ _) | (with_reducible refine Below.drew ?_) | (with_reducible refine Below.alloc ?_ ?_ _) | (with_reducible refine Below.setCell ?_ ?_ _) | (with_reducible exact Nat.le_refl _) | omega | (simp only [World.size_alloc, World.size_setCell, World.size_drew, Wov_size, World.heap_drewN]; omega))))
set_option maxRecDepth 10000 in
theorem of9_cm (w : World) : Calls Try.prog 26 #[.agg #[.int .i64 0, .bool false, .int .i64 1, .bool false, .bool false], .agg #[.int .i64 3, .bool false, .int .i64 4, .bool false, .bool false], .agg #[.int .i64 0, .bool true, .int .i64 0, .bool false, .bool true]] w (Gives w (.tuple #[.agg #[.int .i64 3, .int .i64 1, .int .i64 9, .int .i64 (-5), .int .i64 9, .int .i64 (-3)], .int .i64 0])) := by
  have h : (makeZ (betwS 0 false 1 false false) (betwS 3 false 4 false false) (betwS 0 true 0 false true)).2 = 0 ∧ (makeZ (betwS 0 false 1 false false) (betwS 3 false 4 false false) (betwS 0 true 0 false true)).1 0 = 3 ∧ (makeZ (betwS 0 false 1 false false) (betwS 3 false 4 false false) (betwS 0 true 0 false true)).1 1 = 1 ∧ (makeZ (betwS 0 false 1 false false) (betwS 3 false 4 false false) (betwS 0 true 0 false true)).1 2 = 9 ∧ (makeZ (betwS 0 false 1 false false) (betwS 3 false 4 false false) (betwS 0 true 0 false true)).1 3 = (-5) ∧ (makeZ (betwS 0 false 1 false false) (betwS 3 false 4 false false) (betwS 0 true 0 false true)).1 4 = 9 ∧ (makeZ (betwS 0 false 1 false false) (betwS 3 false 4 false false) (betwS 0 true 0 false true)).1 5 = (-3) := by decide +kernel
  have := zmake_any 0 false 1 false false 3 false 4 false false 0 true 0 false true w (by decide) (by decide) (by decide) (by decide) (by decide) (by decide)
  unfold zoneR zoneV at this
  rw [h.1, h.2.1, h.2.2.1, h.2.2.2.1, h.2.2.2.2.1, h.2.2.2.2.2.1, h.2.2.2.2.2.2] at this
  exact this
set_option maxRecDepth 10000 in
set_option maxHeartbeats 1000000 in
theorem of9_c : Pure Try.prog 31 #[.agg #[.int .i64 0, .bool false, .int .i64 1, .bool false, .bool false], .agg #[.int .i64 3, .bool false, .int .i64 4, .bool false, .bool false]] (.agg #[.int .i64 3, .int .i64 1, .int .i64 9, .int .i64 (-5), .int .i64 9, .int .i64 (-3)]) := by
  intro w
  have AH : Hid (∀ w, Calls Try.prog 74 #[] w (Gives w (.agg #[.int .i64 0, .bool true, .int .i64 0, .bool false, .bool true]))) := fun w => ahead9 w
  have MK := Lib.hid of9_cm
  go_enter Try.func31, Try.ntmps31
  go_wp2
  refine wp_world (fun W => Below w.heap.size w W ∧ HoldsA W (w.heap.size + 2) 6 (fun _ => 0) ∧ W.cell? ⟨w.heap.size, 0, none⟩ = some (.int .i64 0) ∧ W.cell? ⟨w.heap.size, 1, none⟩ = some (.bool false) ∧ W.cell? ⟨w.heap.size, 2, none⟩ = some (.int .i64 1) ∧ W.cell? ⟨w.heap.size, 3, none⟩ = some (.bool false) ∧ W.cell? ⟨w.heap.size, 4, none⟩ = some (.bool false) ∧ W.cell? ⟨w.heap.size + 1, 0, none⟩ = some (.int .i64 3) ∧ W.cell? ⟨w.heap.size + 1, 1, none⟩ = some (.bool false) ∧ W.cell? ⟨w.heap.size + 1, 2, none⟩ = some (.int .i64 4) ∧ W.cell? ⟨w.heap.size + 1, 3, none⟩ = some (.bool false) ∧ W.cell? ⟨w.heap.size + 1, 4, none⟩ = some (.bool false)) ⟨by (repeat' (first | (with_reducible assumption) | (with_reducible exact Below.refl _ _) | (with_reducible refine below_wov ?_ ?_ _) | (with_reducible refine below_drewN ?_ _) | (with_reducible refine Below.drew ?_) | (with_reducible refine Below.alloc ?_ ?_ _) | (with_reducible refine Below.setCell ?_ ?_ _) | (with_reducible exact Nat.le_refl _) | omega | (simp only [World.size_alloc, World.size_setCell, World.size_drew, Wov_size, World.heap_drewN]; omega))), zero_six (by simp), by simp [go_sem], by simp [go_sem], by simp [go_sem], by simp [go_sem], by simp [go_sem], by simp [go_sem], by simp [go_sem], by simp [go_sem], by simp [go_sem], by simp [go_sem]⟩ ?_
  rintro W ⟨hb, hz, f0, f1, f2, f3, f4, f5, f6, f7, f8, f9⟩
  have hs := hb.size
  have l2 := hz.lt
  have HZ := Lib.hid hz
  clear hz
  go_cut [5] from 15 (fun s V => ∃ A : Nat, s = .pointer (some ⟨A, 0, none⟩) ∧ Below w.heap.size w V ∧ HoldsA V (w.heap.size + 2) 6 (fun _ => 0) ∧ BoxZ V A (row6 3 1 9 (-5) 9 (-3)))
  case first =>
    go_region_held3 (fun w' => w'.cell? ⟨w.heap.size, 0, none⟩ = some (.int .i64 0) ∧ w'.cell? ⟨w.heap.size, 1, none⟩ = some (.bool false) ∧ w'.cell? ⟨w.heap.size, 2, none⟩ = some (.int .i64 1) ∧ w'.cell? ⟨w.heap.size, 3, none⟩ = some (.bool false) ∧ w'.cell? ⟨w.heap.size, 4, none⟩ = some (.bool false) ∧ w'.cell? ⟨w.heap.size + 1, 0, none⟩ = some (.int .i64 3) ∧ w'.cell? ⟨w.heap.size + 1, 1, none⟩ = some (.bool false) ∧ w'.cell? ⟨w.heap.size + 1, 2, none⟩ = some (.int .i64 4) ∧ w'.cell? ⟨w.heap.size + 1, 3, none⟩ = some (.bool false) ∧ w'.cell? ⟨w.heap.size + 1, 4, none⟩ = some (.bool false))
      ((simp [go_sem, *]))
      (first | (go_at_call 74; ((with_reducible refine (AH.out _).mono ?_); rintro e w' ⟨rfl, q, rfl⟩)) | (go_at_call 26; ((with_reducible refine (MK.out _).mono ?_); rintro e w' ⟨rfl, q, rfl⟩)))
    all_goals
      go_wp2_with (fail)
      go_meet
      case rel => exact ⟨_, rfl, by (repeat' (first | (with_reducible assumption) | (with_reducible exact Below.refl _ _) | (with_reducible refine below_wov ?_ ?_ _) | (with_reducible refine below_drewN ?_ _) | (with_reducible refine Below.drew ?_) | (with_reducible refine Below.alloc ?_ ?_ _) | (with_reducible refine Below.setCell ?_ ?_ _) | (with_reducible exact Nat.le_refl _) | omega | (simp only [World.size_alloc, World.size_setCell, World.size_drew, Wov_size, World.heap_drewN]; omega))), HZ.out.below (by (repeat' (first | (with_reducible assumption) | (with_reducible exact Below.refl _ _) | (with_reducible refine below_wov ?_ ?_ _) | (with_reducible refine below_drewN ?_ _) | (with_reducible refine Below.drew ?_) | (with_reducible refine Below.alloc ?_ ?_ _) | (with_reducible refine Below.setCell ?_ ?_ _) | (with_reducible exact Nat.le_refl _) | omega | (simp only [World.size_alloc, World.size_setCell, World.size_drew, Wov_size, World.heap_drewN]; omega)))), ⟨by (first | omega | ((simp only [World.size_alloc, World.size_setCell, World.size_drew, Wov_size, World.heap_drewN, Array.size_append]) <;> omega)), by simp [go_sem, row6], by simp [go_sem, row6], by simp [go_sem, row6], by simp [go_sem, row6], by simp [go_sem, row6], by simp [go_sem, row6]⟩⟩
  case rest =>
    obtain ⟨A, rfl, hbV, mR, mB⟩ := hcut
    have x0 : wc.cell? ⟨A, 0, none⟩ = some (.int .i64 3) := mB.c0
    have x1 : wc.cell? ⟨A, 1, none⟩ = some (.int .i64 1) := mB.c1
    have x2 : wc.cell? ⟨A, 2, none⟩ = some (.int .i64 9) := mB.c2
    have x3 : wc.cell? ⟨A, 3, none⟩ = some (.int .i64 (-5)) := mB.c3
    have x4 : wc.cell? ⟨A, 4, none⟩ = some (.int .i64 9) := mB.c4
    have x5 : wc.cell? ⟨A, 5, none⟩ = some (.int .i64 (-3)) := mB.c5
    have xl := mB.lt
    have r0 := (mR.holds 0 (by omega)).1
    have r1 := (mR.holds 1 (by omega)).1
    have r2 := (mR.holds 2 (by omega)).1
    have r3 := (mR.holds 3 (by omega)).1
    have r4 := (mR.holds 4 (by omega)).1
    have r5 := (mR.holds 5 (by omega)).1
    have n0 := (mR.holds 0 (by omega)).2
    have n1 := (mR.holds 1 (by omega)).2
    have n2 := (mR.holds 2 (by omega)).2
    have n3 := (mR.holds 3 (by omega)).2
    have n4 := (mR.holds 4 (by omega)).2
    have n5 := (mR.holds 5 (by omega)).2
    have rl := mR.lt
    clear mB mR HZ AH MK
    ((try dsimp only); repeat (first | go_values | go_skip | go_guarded | go_step | go_upon))
    refine bodyPost_ret (by simp [results, Try.results31, go_sem, r0, r1, r2, r3, r4, r5, rl]; try rfl) rfl ?_
    exact gives_end rfl (by (repeat' (first | (with_reducible assumption) | (with_reducible exact Below.refl _ _) | (with_reducible refine below_wov ?_ ?_ _) | (with_reducible refine below_drewN ?_ _) | (with_reducible refine Below.drew ?_) | (with_reducible refine Below.alloc ?_ ?_ _) | (with_reducible refine Below.setCell ?_ ?_ _) | (with_reducible exact Nat.le_refl _) | omega | (simp only [World.size_alloc, World.size_setCell, World.size_drew, Wov_size, World.heap_drewN]; omega))))
set_option maxRecDepth 10000 in
theorem comp9_ab (w : World) : Calls Try.prog 18 #[.agg #[.int .i64 3, .int .i64 1, .int .i64 5, .int .i64 (-3), .int .i64 5, .int .i64 (-1)], .agg #[.int .i64 5, .int .i64 (-3), .int .i64 9, .int .i64 (-5), .int .i64 5, .int .i64 (-1)]] w (Gives w (.tuple #[.agg #[.int .i64 3, .int .i64 1, .int .i64 9, .int .i64 (-5), .int .i64 9, .int .i64 (-3)], .int .i64 0])) := by
  have h : (compZ (row6 3 1 5 (-3) 5 (-1)) (row6 5 (-3) 9 (-5) 5 (-1))).2 = 0 ∧ (compZ (row6 3 1 5 (-3) 5 (-1)) (row6 5 (-3) 9 (-5) 5 (-1))).1 0 = 3 ∧ (compZ (row6 3 1 5 (-3) 5 (-1)) (row6 5 (-3) 9 (-5) 5 (-1))).1 1 = 1 ∧ (compZ (row6 3 1 5 (-3) 5 (-1)) (row6 5 (-3) 9 (-5) 5 (-1))).1 2 = 9 ∧ (compZ (row6 3 1 5 (-3) 5 (-1)) (row6 5 (-3) 9 (-5) 5 (-1))).1 3 = (-5) ∧ (compZ (row6 3 1 5 (-3) 5 (-1)) (row6 5 (-3) 9 (-5) 5 (-1))).1 4 = 9 ∧ (compZ (row6 3 1 5 (-3) 5 (-1)) (row6 5 (-3) 9 (-5) 5 (-1))).1 5 = (-3) := by decide +kernel
  have f : FitsZ (row6 3 1 5 (-3) 5 (-1)) := fun i hi => by
    rcases six hi with rfl | rfl | rfl | rfl | rfl | rfl <;> decide
  have g : FitsZ (row6 5 (-3) 9 (-5) 5 (-1)) := fun i hi => by
    rcases six hi with rfl | rfl | rfl | rfl | rfl | rfl <;> decide
  have := ccomp_any (row6 3 1 5 (-3) 5 (-1)) (row6 5 (-3) 9 (-5) 5 (-1)) w f g
  unfold zoneR zoneV at this
  rw [h.1, h.2.1, h.2.2.1, h.2.2.2.1, h.2.2.2.2.1, h.2.2.2.2.2.1, h.2.2.2.2.2.2] at this
  exact this
set_option maxRecDepth 10000 in
theorem check9_a (w : World) : Calls Try.prog 45 #[.agg #[.int .i64 3, .int .i64 1, .int .i64 5, .int .i64 (-3), .int .i64 5, .int .i64 (-1)]] w (Gives w (.int .i64 0)) := by
  have k : okZ (row6 3 1 5 (-3) 5 (-1)) = true := by decide +kernel
  have := zcheck_any (row6 3 1 5 (-3) 5 (-1)) w (okZ_fits k)
  rw [k] at this
  exact this
set_option maxRecDepth 10000 in
set_option maxHeartbeats 4000000 in
theorem alive9 : Pure Try.prog 34 #[] (.bool true) := by
  intro w
  obtain ⟨a, ha⟩ : ∃ z, z = (row6 3 1 5 (-3) 5 (-1)) := ⟨_, rfl⟩
  obtain ⟨b, hb⟩ : ∃ z, z = (row6 5 (-3) 9 (-5) 5 (-1)) := ⟨_, rfl⟩
  obtain ⟨c, hc⟩ : ∃ z, z = (row6 3 1 9 (-5) 9 (-3)) := ⟨_, rfl⟩
  have OA : Hid (Pure Try.prog 31 #[.agg #[.int .i64 0, .bool false, .int .i64 1, .bool false, .bool false], .agg #[.int .i64 2, .bool false, .int .i64 2, .bool false, .bool false]] (.agg #[.int .i64 (a 0), .int .i64 (a 1), .int .i64 (a 2), .int .i64 (a 3), .int .i64 (a 4), .int .i64 (a 5)])) := by rw [ha]; exact of9_a
  have OB : Hid (∀ w, Calls Try.prog 31 #[.agg #[.int .i64 2, .bool false, .int .i64 2, .bool false, .bool false], .agg #[.int .i64 3, .bool false, .int .i64 4, .bool false, .bool false]] w (Gives w (.agg #[.int .i64 (b 0), .int .i64 (b 1), .int .i64 (b 2), .int .i64 (b 3), .int .i64 (b 4), .int .i64 (b 5)]))) := fun w => by rw [hb]; exact of9_b w
  have OC : Hid (∀ w, Calls Try.prog 31 #[.agg #[.int .i64 0, .bool false, .int .i64 1, .bool false, .bool false], .agg #[.int .i64 3, .bool false, .int .i64 4, .bool false, .bool false]] w (Gives w (.agg #[.int .i64 (c 0), .int .i64 (c 1), .int .i64 (c 2), .int .i64 (c 3), .int .i64 (c 4), .int .i64 (c 5)]))) := fun w => by rw [hc]; exact of9_c w
  have CP : Hid (∀ w, Calls Try.prog 18 #[.agg #[.int .i64 (a 0), .int .i64 (a 1), .int .i64 (a 2), .int .i64 (a 3), .int .i64 (a 4), .int .i64 (a 5)], .agg #[.int .i64 (b 0), .int .i64 (b 1), .int .i64 (b 2), .int .i64 (b 3), .int .i64 (b 4), .int .i64 (b 5)]] w (Gives w (.tuple #[.agg #[.int .i64 (c 0), .int .i64 (c 1), .int .i64 (c 2), .int .i64 (c 3), .int .i64 (c 4), .int .i64 (c 5)], .int .i64 0]))) := fun w => by rw [ha, hb, hc]; exact comp9_ab w
  have CK : Hid (∀ w, Calls Try.prog 45 #[.agg #[.int .i64 (a 0), .int .i64 (a 1), .int .i64 (a 2), .int .i64 (a 3), .int .i64 (a 4), .int .i64 (a 5)]] w (Gives w (.int .i64 0))) := fun w => by rw [ha]; exact check9_a w
  have IS0 := (is9_any (c 0) (c 1) (c 2) (c 3) (c 4) (c 5) (c 0) (c 1) (c 2) (c 3) (c 4) (c 5) ((eq6_iff c c).2 (fun _ _ => rfl)))
  have IS : Hid (∀ w, Calls Try.prog 35 #[.agg #[.int .i64 (c 0), .int .i64 (c 1), .int .i64 (c 2), .int .i64 (c 3), .int .i64 (c 4), .int .i64 (c 5)], .int .i64 0, .agg #[.int .i64 (c 0), .int .i64 (c 1), .int .i64 (c 2), .int .i64 (c 3), .int .i64 (c 4), .int .i64 (c 5)]] w (Gives w (.bool true))) := fun w => IS0 w
  clear IS0
  have T01 := Lib.hid (to9_any 0 1)
  have TO : Hid (∀ a b w, Calls Try.prog 32 #[.int .i64 a, .int .i64 b] w (Gives w (.agg #[.int .i64 a, .bool false, .int .i64 b, .bool false, .bool false]))) := fun a b w => to9_any a b w
  have T22 := Lib.hid (to9_any 2 2)
  have E2 : eq6 (c 0) (c 1) (c 2) (c 3) (c 4) (c 5) 0 0 0 0 0 0 = false := by rw [hc]; decide
  clear ha hb hc
  go_enter Try.func34, Try.ntmps34
  go_wp2_with (fail)
  refine (T01.out _).mono ?_; rintro e w' ⟨rfl, q1, rfl⟩
  go_wp2_with (fail)
  refine (T22.out _).mono ?_; rintro e w' ⟨rfl, q2, rfl⟩
  go_wp2_with (fail)
  refine (OA.out _).mono ?_; rintro e w' ⟨rfl, q3, rfl⟩
  go_wp2
  obtain ⟨A1, hA1⟩ : ∃ A, w.heap.size + (q1.bl.size + (q2.bl.size + q3.bl.size)) = A := ⟨_, rfl⟩
  rw [hA1]
  refine wp_world (fun W => Below w.heap.size w W ∧ BoxZ W A1 a) ⟨by (repeat' (first | (with_reducible assumption) | (with_reducible exact Below.refl _ _) | (with_reducible refine below_wov ?_ ?_ _) | (with_reducible refine below_drewN ?_ _) | (with_reducible refine Below.drew ?_) | (with_reducible refine Below.alloc ?_ ?_ _) | (with_reducible refine Below.setCell ?_ ?_ _) | (with_reducible exact Nat.le_refl _) | omega | (simp only [World.size_alloc, World.size_setCell, World.size_drew, Wov_size, World.heap_drewN]; omega))), BoxZ.new (by rw [← hA1]; (try simp only [Wov_size, Array.size_append, Nat.add_assoc]))⟩ ?_
  rintro W1 ⟨hb1, m1⟩
  have hs1 := hb1.size
  have l1 := m1.lt
  have f0 := m1.c0
  have f1 := m1.c1
  have f2 := m1.c2
  have f3 := m1.c3
  have f4 := m1.c4
  have f5 := m1.c5
  clear hA1 OA T01 T22
  have HM := Lib.hid m1
  clear m1
  go_cut [2, 3] from 33 (fun s2 s3 V => ∃ A : Nat, s2 = .pointer (some ⟨A, 0, none⟩) ∧ s3 = .int .i64 0 ∧ Below w.heap.size w V ∧ BoxZ V A1 a ∧ BoxZ V A c)
  case first =>
    go_region_held3 (fun w' => w'.cell? ⟨A1, 0, none⟩ = some (.int .i64 (a 0)) ∧ w'.cell? ⟨A1, 1, none⟩ = some (.int .i64 (a 1)) ∧ w'.cell? ⟨A1, 2, none⟩ = some (.int .i64 (a 2)) ∧ w'.cell? ⟨A1, 3, none⟩ = some (.int .i64 (a 3)) ∧ w'.cell? ⟨A1, 4, none⟩ = some (.int .i64 (a 4)) ∧ w'.cell? ⟨A1, 5, none⟩ = some (.int .i64 (a 5)))
      ((simp [go_sem, *]))
      (first | (go_at_call 32; ((with_reducible refine (TO.out _ _ _).mono ?_); rintro e w' ⟨rfl, q, rfl⟩)) | (go_at_call 31; ((with_reducible refine (OB.out _).mono ?_); rintro e w' ⟨rfl, q, rfl⟩)) | (go_at_call 18; ((with_reducible refine (CP.out _).mono ?_); rintro e w' ⟨rfl, q, rfl⟩)))
    all_goals
      go_wp2_with (fail)
      go_meet
      case rel => exact ⟨_, rfl, rfl, by (repeat' (first | (with_reducible assumption) | (with_reducible exact Below.refl _ _) | (with_reducible refine below_wov ?_ ?_ _) | (with_reducible refine below_drewN ?_ _) | (with_reducible refine Below.drew ?_) | (with_reducible refine Below.alloc ?_ ?_ _) | (with_reducible refine Below.setCell ?_ ?_ _) | (with_reducible exact Nat.le_refl _) | omega | (simp only [World.size_alloc, World.size_setCell, World.size_drew, Wov_size, World.heap_drewN]; omega))), HM.out.below (by (repeat' (first | (with_reducible assumption) | (with_reducible exact Below.refl _ _) | (with_reducible refine below_wov ?_ ?_ _) | (with_reducible refine below_drewN ?_ _) | (with_reducible refine Below.drew ?_) | (with_reducible refine Below.alloc ?_ ?_ _) | (with_reducible refine Below.setCell ?_ ?_ _) | (with_reducible exact Nat.le_refl _) | omega | (simp only [World.size_alloc, World.size_setCell, World.size_drew, Wov_size, World.heap_drewN]; omega)))), ⟨by (first | omega | ((simp only [World.size_alloc, World.size_setCell, World.size_drew, Wov_size, World.heap_drewN, Array.size_append]) <;> omega)), by simp [go_sem], by simp [go_sem], by simp [go_sem], by simp [go_sem], by simp [go_sem], by simp [go_sem]⟩⟩
  case rest =>
    clear f0 f1 f2 f3 f4 f5 l1 HM CP OB
    obtain ⟨A, rfl, rfl, hbV, mA, mC⟩ := hcut
    obtain ⟨V, rfl⟩ : ∃ V, V = wc := ⟨_, rfl⟩
    have a0 := mA.c0
    have a1 := mA.c1
    have a2 := mA.c2
    have a3 := mA.c3
    have a4 := mA.c4
    have a5 := mA.c5
    have hsV := hbV.size
    go_wp2_with (fail)
    refine (CK.out _).mono ?_; rintro e w' ⟨rfl, q4, rfl⟩
    go_wp2_with (fail)
    clear a0 a1 a2 a3 a4 a5 CK
    refine wp_world (fun W => Below w.heap.size w W ∧ BoxZ W A c) ⟨by (repeat' (first | (with_reducible assumption) | (with_reducible exact Below.refl _ _) | (with_reducible refine below_wov ?_ ?_ _) | (with_reducible refine below_drewN ?_ _) | (with_reducible refine Below.drew ?_) | (with_reducible refine Below.alloc ?_ ?_ _) | (with_reducible refine Below.setCell ?_ ?_ _) | (with_reducible exact Nat.le_refl _) | omega | (simp only [World.size_alloc, World.size_setCell, World.size_drew, Wov_size, World.heap_drewN]; omega))), mC.below (by (repeat' (first | (with_reducible assumption) | (with_reducible exact Below.refl _ _) | (with_reducible refine below_wov ?_ ?_ _) | (with_reducible refine below_drewN ?_ _) | (with_reducible refine Below.drew ?_) | (with_reducible refine Below.alloc ?_ ?_ _) | (with_reducible refine Below.setCell ?_ ?_ _) | (with_reducible exact Nat.le_refl _) | omega | (simp only [World.size_alloc, World.size_setCell, World.size_drew, Wov_size, World.heap_drewN]; omega))))⟩ ?_
    rintro W2 ⟨hb2, m2⟩
    have c0 := m2.c0
    have c1 := m2.c1
    have c2 := m2.c2
    have c3 := m2.c3
    have c4 := m2.c4
    have c5 := m2.c5
    have lc := m2.lt
    have hs2 := hb2.size
    clear mA mC hbV hsV m2
    go_region_held3 (fun w' => w'.cell? ⟨A, 0, none⟩ = some (.int .i64 (c 0)) ∧ w'.cell? ⟨A, 1, none⟩ = some (.int .i64 (c 1)) ∧ w'.cell? ⟨A, 2, none⟩ = some (.int .i64 (c 2)) ∧ w'.cell? ⟨A, 3, none⟩ = some (.int .i64 (c 3)) ∧ w'.cell? ⟨A, 4, none⟩ = some (.int .i64 (c 4)) ∧ w'.cell? ⟨A, 5, none⟩ = some (.int .i64 (c 5)))
      ((simp [go_sem, *]))
      (first | (go_at_call 32; ((with_reducible refine (TO.out _ _ _).mono ?_); rintro e w' ⟨rfl, q, rfl⟩)) | (go_at_call 31; ((with_reducible refine (OC.out _).mono ?_); rintro e w' ⟨rfl, q, rfl⟩)) | (go_at_call 35; ((with_reducible refine (IS.out _).mono ?_); rintro e w' ⟨rfl, q, rfl⟩)))
    all_goals
      simp only [Exit.then]
      refine ‹∀ (a : Act) (w_1 : World), Code.wp Try.prog _ (bodyPost Try.prog _ _) a w_1 → _› _ _ ?_
      go_wp2
      go_ret
      exact gives_bool rfl (by (repeat' (first | (with_reducible assumption) | (with_reducible exact Below.refl _ _) | (with_reducible refine below_wov ?_ ?_ _) | (with_reducible refine below_drewN ?_ _) | (with_reducible refine Below.drew ?_) | (with_reducible refine Below.alloc ?_ ?_ _) | (with_reducible refine Below.setCell ?_ ?_ _) | (with_reducible exact Nat.le_refl _) | omega | (simp only [World.size_alloc, World.size_setCell, World.size_drew, Wov_size, World.heap_drewN]; omega))))
#print axioms alive9
end Go.Proofs.Ytbgbhfcnadjhdaa
