/- Contract of the document's Shift. No condition. -/
import Derived.Test.YtnjhjgkekmjmdaaK9
import Derived.Test.YtnjhjgkekmjmdaaH11
import Derived.Deep.Cut
namespace Go.Proofs.Ytnjhjgkekmjmdaa
set_option linter.unusedSimpArgs false
set_option linter.unusedVariables false
open Go Go.RowKit Go.Shelf
attribute [local go_sem] Nat.add_assoc Nat.add_lt_add_iff_left lit_lt_add

set_option maxRecDepth 10000 in
set_option maxHeartbeats 16000000 in
theorem shift10_any (z : Nat → Int) (n : Int) (w : World) (hz : FitsZ z) : Calls Try.prog 42 #[zoneV z, .int .i64 n] w (Gives w (zoneR (shiftZ z n).1 (shiftZ z n).2)) := by
  have MY : Hid (∀ w, Calls Try.prog 83 #[.agg #[.int .i64 (z 0), .int .i64 (z 1), .int .i64 (z 2), .int .i64 (z 3), .int .i64 (z 4), .int .i64 (z 5)]] w (Gives w (.bool (okZ z)))) := fun w => may8_any z w hz
  have FA := Lib.hid (in10_any n)
  unfold shiftZ
  cases ok : okZ z
  · rw [ok] at MY
    rw [if_neg (by decide)]
    clear ok hz FA
    unfold zoneR zoneV
    go_enter Try.func42, Try.ntmps42
    go_wp2_with (fail)
    refine (MY.out _).mono ?_; rintro e w' ⟨rfl, q1, rfl⟩
    go_wp2
    go_returns
    exact gives_end rfl (by (repeat' (first | (with_reducible assumption) | (with_reducible exact Below.refl _ _) | (with_reducible refine below_wov ?_ ?_ _) | (with_reducible refine below_drewN ?_ _) | (with_reducible refine Below.drew ?_) | (with_reducible refine Below.alloc ?_ ?_ _) | (with_reducible refine Below.setCell ?_ ?_ _) | (with_reducible exact Nat.le_refl _) | omega | (simp only [World.size_alloc, World.size_setCell, World.size_drew, Wov_size, World.heap_drewN]; omega))))
  · rw [ok] at MY
    rw [if_pos rfl]
    cases k1 : fitsW n
    · rw [k1] at FA
      rw [if_neg (by decide)]
      clear ok hz k1
      unfold zoneR zoneV
      go_enter Try.func42, Try.ntmps42
      go_wp2_with (fail)
      refine (MY.out _).mono ?_; rintro e w' ⟨rfl, q1, rfl⟩
      go_wp2_with (fail)
      refine (FA.out _).mono ?_; rintro e w' ⟨rfl, q2, rfl⟩
      go_wp2
      go_returns
      exact gives_end rfl (by (repeat' (first | (with_reducible assumption) | (with_reducible exact Below.refl _ _) | (with_reducible refine below_wov ?_ ?_ _) | (with_reducible refine below_drewN ?_ _) | (with_reducible refine Below.drew ?_) | (with_reducible refine Below.alloc ?_ ?_ _) | (with_reducible refine Below.setCell ?_ ?_ _) | (with_reducible exact Nat.le_refl _) | omega | (simp only [World.size_alloc, World.size_setCell, World.size_drew, Wov_size, World.heap_drewN]; omega))))
    · rw [k1] at FA
      rw [if_pos rfl]
      have d := fitsW_bd k1
      have M0 : Hid (∀ w, Calls Try.prog 102 #[.int .i64 (z 0), .int .i64 n] w (Gives w (.int .i64 (mvB (z 0) n)))) := moved10_any _ _ (okZ_may ok (by omega)) k1
      have M1 : Hid (∀ w, Calls Try.prog 102 #[.int .i64 (z 1), .int .i64 (IntKind.i64.wrap (-n))] w (Gives w (.int .i64 (mvB (z 1) (-n))))) := by
        rw [show IntKind.i64.wrap (-n) = -n by rw [IntKind.wrap_i64]; omega]
        exact moved10_any _ _ (okZ_may ok (by omega)) (fitsW_neg k1)
      have M2 : Hid (∀ w, Calls Try.prog 102 #[.int .i64 (z 2), .int .i64 n] w (Gives w (.int .i64 (mvB (z 2) n)))) := moved10_any _ _ (okZ_may ok (by omega)) k1
      have M3 : Hid (∀ w, Calls Try.prog 102 #[.int .i64 (z 3), .int .i64 (IntKind.i64.wrap (-n))] w (Gives w (.int .i64 (mvB (z 3) (-n))))) := by
        rw [show IntKind.i64.wrap (-n) = -n by rw [IntKind.wrap_i64]; omega]
        exact moved10_any _ _ (okZ_may ok (by omega)) (fitsW_neg k1)
      have MY2 : Hid (∀ w, Calls Try.prog 83 #[.agg #[.int .i64 (mvB (z 0) n), .int .i64 (mvB (z 1) (-n)), .int .i64 (mvB (z 2) n), .int .i64 (mvB (z 3) (-n)), .int .i64 (z 4), .int .i64 (z 5)]] w (Gives w (.bool (okZ (movZ z n))))) := fun w => may8_any (movZ z n) w (movZ_fits ok k1)
      obtain ⟨k, hk⟩ : ∃ k, k = okZ (movZ z n) := ⟨_, rfl⟩
      rw [← hk] at MY2 ⊢
      obtain ⟨R, hR⟩ : ∃ R, R = zoneR (if k = true then (movZ z n, (0 : Int)) else (fun _ => 0, 8)).1 (if k = true then (movZ z n, (0 : Int)) else (fun _ => 0, 8)).2 := ⟨_, rfl⟩
      rw [← hR]
      have HR : Hid (R = if k = true then .tuple #[.agg #[.int .i64 (mvB (z 0) n), .int .i64 (mvB (z 1) (-n)), .int .i64 (mvB (z 2) n), .int .i64 (mvB (z 3) (-n)), .int .i64 (z 4), .int .i64 (z 5)], .int .i64 0] else zoneR (fun _ => 0) 8) := by
        show _ = _
        rw [hR]
        cases k <;> rfl
      obtain ⟨y0, hy0⟩ : ∃ x, x = mvB (z 0) n := ⟨_, rfl⟩
      obtain ⟨y1, hy1⟩ : ∃ x, x = mvB (z 1) (-n) := ⟨_, rfl⟩
      obtain ⟨y2, hy2⟩ : ∃ x, x = mvB (z 2) n := ⟨_, rfl⟩
      obtain ⟨y3, hy3⟩ : ∃ x, x = mvB (z 3) (-n) := ⟨_, rfl⟩
      rw [← hy0] at M0
      rw [← hy1] at M1
      rw [← hy2] at M2
      rw [← hy3] at M3
      rw [← hy0, ← hy1, ← hy2, ← hy3] at MY2 HR
      clear ok hz k1 d hk hR hy0 hy1 hy2 hy3
      unfold zoneV
      go_enter Try.func42, Try.ntmps42
      go_wp2_with (fail)
      refine (MY.out _).mono ?_; rintro e w' ⟨rfl, q1, rfl⟩
      go_wp2_with (fail)
      refine (FA.out _).mono ?_; rintro e w' ⟨rfl, q2, rfl⟩
      clear MY FA
      go_wp2
      refine wp_world (fun W => Below w.heap.size w W ∧ BoxZ W w.heap.size z ∧ HoldsA W (w.heap.size + 1) 6 (fun _ => 0)) ⟨by (repeat' (first | (with_reducible assumption) | (with_reducible exact Below.refl _ _) | (with_reducible refine below_wov ?_ ?_ _) | (with_reducible refine below_drewN ?_ _) | (with_reducible refine Below.drew ?_) | (with_reducible refine Below.alloc ?_ ?_ _) | (with_reducible refine Below.setCell ?_ ?_ _) | (with_reducible exact Nat.le_refl _) | omega | (simp only [World.size_alloc, World.size_setCell, World.size_drew, Wov_size, World.heap_drewN]; omega))), (BoxZ.new (W := w) (t := 26) rfl).below (by (repeat' (first | (with_reducible assumption) | (with_reducible exact Below.refl _ _) | (with_reducible refine below_wov ?_ ?_ _) | (with_reducible refine below_drewN ?_ _) | (with_reducible refine Below.drew ?_) | (with_reducible refine Below.alloc ?_ ?_ _) | (with_reducible refine Below.setCell ?_ ?_ _) | (with_reducible exact Nat.le_refl _) | omega | (simp only [World.size_alloc, World.size_setCell, World.size_drew, Wov_size, World.heap_drewN]; omega)))), (HoldsA.zone (W := w.alloc (.cells #[.int .i64 (z 0), .int .i64 (z 1), .int .i64 (z 2), .int .i64 (z 3), .int .i64 (z 4), .int .i64 (z 5)] 26)) (t := 26) (by simp)).below (by (repeat' (first | (with_reducible assumption) | (with_reducible exact Below.refl _ _) | (with_reducible refine below_wov ?_ ?_ _) | (with_reducible refine below_drewN ?_ _) | (with_reducible refine Below.drew ?_) | (with_reducible refine Below.alloc ?_ ?_ _) | (with_reducible refine Below.setCell ?_ ?_ _) | (with_reducible exact Nat.le_refl _) | omega | (simp only [World.size_alloc, World.size_setCell, World.size_drew, Wov_size, World.heap_drewN]; omega))))⟩ ?_
      rintro W1 ⟨hb1, mZ, mR⟩
      have hs1 := hb1.size
      have z0 := mZ.c0
      have z1 := mZ.c1
      have z2 := mZ.c2
      have z3 := mZ.c3
      have z4 := mZ.c4
      have z5 := mZ.c5
      have zl := mZ.lt
      have HX := Lib.hid mR
      clear mZ mR
      go_cut [6] from 43 (fun s V => ∃ A : Nat, s = .pointer (some ⟨A, 0, none⟩) ∧ Below w.heap.size w V ∧ HoldsA V (w.heap.size + 1) 6 (fun _ => 0) ∧ BoxZ V A (row6 y0 y1 y2 y3 (z 4) (z 5)))
      case first =>
        go_region_held3 (fun w' => w'.cell? ⟨w.heap.size, 0, none⟩ = some (.int .i64 (z 0)) ∧ w'.cell? ⟨w.heap.size, 1, none⟩ = some (.int .i64 (z 1)) ∧ w'.cell? ⟨w.heap.size, 2, none⟩ = some (.int .i64 (z 2)) ∧ w'.cell? ⟨w.heap.size, 3, none⟩ = some (.int .i64 (z 3)) ∧ w'.cell? ⟨w.heap.size, 4, none⟩ = some (.int .i64 (z 4)) ∧ w'.cell? ⟨w.heap.size, 5, none⟩ = some (.int .i64 (z 5)))
          ((simp [go_sem, *]))
          (first
          | (go_at_call_of 102 (Value.int IntKind.i64 (z 0)); ((with_reducible refine (M0.out _).mono ?_); rintro e w' ⟨rfl, qa, rfl⟩))
          | (go_at_call_of 102 (Value.int IntKind.i64 (z 1)); ((with_reducible refine (M1.out _).mono ?_); rintro e w' ⟨rfl, qb, rfl⟩))
          | (go_at_call_of 102 (Value.int IntKind.i64 (z 2)); ((with_reducible refine (M2.out _).mono ?_); rintro e w' ⟨rfl, qc, rfl⟩))
          | (go_at_call_of 102 (Value.int IntKind.i64 (z 3)); ((with_reducible refine (M3.out _).mono ?_); rintro e w' ⟨rfl, qd, rfl⟩)))
        all_goals
          go_wp2_with (fail)
          go_meet
          case rel => exact ⟨_, rfl, by (repeat' (first | (with_reducible assumption) | (with_reducible exact Below.refl _ _) | (with_reducible refine below_wov ?_ ?_ _) | (with_reducible refine below_drewN ?_ _) | (with_reducible refine Below.drew ?_) | (with_reducible refine Below.alloc ?_ ?_ _) | (with_reducible refine Below.setCell ?_ ?_ _) | (with_reducible exact Nat.le_refl _) | omega | (simp only [World.size_alloc, World.size_setCell, World.size_drew, Wov_size, World.heap_drewN]; omega))), HX.out.below (by (repeat' (first | (with_reducible assumption) | (with_reducible exact Below.refl _ _) | (with_reducible refine below_wov ?_ ?_ _) | (with_reducible refine below_drewN ?_ _) | (with_reducible refine Below.drew ?_) | (with_reducible refine Below.alloc ?_ ?_ _) | (with_reducible refine Below.setCell ?_ ?_ _) | (with_reducible exact Nat.le_refl _) | omega | (simp only [World.size_alloc, World.size_setCell, World.size_drew, Wov_size, World.heap_drewN]; omega)))), ⟨by (first | omega | ((simp only [World.size_alloc, World.size_setCell, World.size_drew, Wov_size, World.heap_drewN, Array.size_append]) <;> omega)), by simp [go_sem, row6], by simp [go_sem, row6], by simp [go_sem, row6], by simp [go_sem, row6], by simp [go_sem, row6], by simp [go_sem, row6]⟩⟩
      case rest =>
        obtain ⟨A, rfl, hbV, mR, mB⟩ := hcut
        have x0 : wc.cell? ⟨A, 0, none⟩ = some (.int .i64 y0) := mB.c0
        have x1 : wc.cell? ⟨A, 1, none⟩ = some (.int .i64 y1) := mB.c1
        have x2 : wc.cell? ⟨A, 2, none⟩ = some (.int .i64 y2) := mB.c2
        have x3 : wc.cell? ⟨A, 3, none⟩ = some (.int .i64 y3) := mB.c3
        have x4 : wc.cell? ⟨A, 4, none⟩ = some (.int .i64 (z 4)) := mB.c4
        have x5 : wc.cell? ⟨A, 5, none⟩ = some (.int .i64 (z 5)) := mB.c5
        have xl := mB.lt
        have r0 := (mR.holds 0 (by omega)).1
        have r1 := (mR.holds 1 (by omega)).1
        have r2 := (mR.holds 2 (by omega)).1
        have r3 := (mR.holds 3 (by omega)).1
        have r4 := (mR.holds 4 (by omega)).1
        have r5 := (mR.holds 5 (by omega)).1
        have n0 := (mR.holds 0 (by omega)).2
        have n1 := (mR.holds 1 (by omega)).2
        have n2 := (mR.holds 2 (by omega)).2
        have n3 := (mR.holds 3 (by omega)).2
        have n4 := (mR.holds 4 (by omega)).2
        have n5 := (mR.holds 5 (by omega)).2
        have rl := mR.lt
        have hsV := hbV.size
        clear mB mR z0 z1 z2 z3 z4 z5 zl HX hb1 hs1 M0 M1 M2 M3
        go_wp2_with (fail)
        refine (MY2.out _).mono ?_; rintro e w' ⟨rfl, q9, rfl⟩
        clear MY2
        cases k
        · ((try dsimp only); repeat (first | go_values | go_skip | go_guarded | go_step | go_upon))
          refine bodyPost_ret (by simp [results, Try.results42, go_sem, r0, r1, r2, r3, r4, r5, rl]; try rfl) rfl ?_
          refine gives_end ?_ (by (repeat' (first | (with_reducible assumption) | (with_reducible exact Below.refl _ _) | (with_reducible refine below_wov ?_ ?_ _) | (with_reducible refine below_drewN ?_ _) | (with_reducible refine Below.drew ?_) | (with_reducible refine Below.alloc ?_ ?_ _) | (with_reducible refine Below.setCell ?_ ?_ _) | (with_reducible exact Nat.le_refl _) | omega | (simp only [World.size_alloc, World.size_setCell, World.size_drew, Wov_size, World.heap_drewN]; omega))))
          rw [HR.out]; rfl
        · ((try dsimp only); repeat (first | go_values | go_skip | go_guarded | go_step | go_upon))
          refine bodyPost_ret (by simp [results, Try.results42, go_sem, r0, r1, r2, r3, r4, r5, rl]; try rfl) rfl ?_
          refine gives_end ?_ (by (repeat' (first | (with_reducible assumption) | (with_reducible exact Below.refl _ _) | (with_reducible refine below_wov ?_ ?_ _) | (with_reducible refine below_drewN ?_ _) | (with_reducible refine Below.drew ?_) | (with_reducible refine Below.alloc ?_ ?_ _) | (with_reducible refine Below.setCell ?_ ?_ _) | (with_reducible exact Nat.le_refl _) | omega | (simp only [World.size_alloc, World.size_setCell, World.size_drew, Wov_size, World.heap_drewN]; omega))))
          rw [HR.out]; rfl
end Go.Proofs.Ytnjhjgkekmjmdaa
