/- Zones: contracts of zone.places and zone.matrix; a zone in memory. No condition. -/
import Derived.Test.YtpmpapenjcemjaaGreatDoorMG
namespace Go.Proofs.YtpmpapenjcemjaaGreatDoor
set_option linter.unusedSimpArgs false
set_option linter.unusedVariables false
open Go Go.RowKit Go.Shelf
attribute [local go_sem] Nat.add_assoc Nat.add_lt_add_iff_left lit_lt_add

/-- A zone as a value. -/
def zoneV (z : Nat → Int) : Value := .agg #[.int .i64 (z 0), .int .i64 (z 1), .int .i64 (z 2), .int .i64 (z 3), .int .i64 (z 4), .int .i64 (z 5)]
def placeZ : Nat → Nat
  | 0 => 3 | 1 => 1 | 2 => 6 | 3 => 2 | 4 => 7 | _ => 5
theorem placeZ_lt (t : Nat) (h : t < 6) : placeZ t < 9 := by
  have : t = 0 ∨ t = 1 ∨ t = 2 ∨ t = 3 ∨ t = 4 ∨ t = 5 := by omega
  rcases this with rfl | rfl | rfl | rfl | rfl | rfl <;> decide
/-- The matrix under way, of some bounds. -/
def mF (z : Nat → Int) : Nat → Nat → Int
  | 0 => topF 3
  | t + 1 => upd (mF z t) (placeZ t) (z t)
/-- A zone's matrix. -/
def zF (z : Nat → Int) : Nat → Int := mF z 6
/-- The zone of a matrix. -/
def shortZ (f : Nat → Int) : Nat → Int := fun i => f (placeZ i)
theorem zF_vals (z : Nat → Int) : zF z 0 = 1 ∧ zF z 1 = z 1 ∧ zF z 2 = z 3 ∧ zF z 3 = z 0 ∧ zF z 4 = 1 ∧ zF z 5 = z 5 ∧ zF z 6 = z 2 ∧ zF z 7 = z 4 ∧ zF z 8 = 1 := by
  refine ⟨?_, ?_, ?_, ?_, ?_, ?_, ?_, ?_, ?_⟩ <;> rfl
theorem shortZ_zF (z : Nat → Int) : ∀ i, i < 6 → shortZ (zF z) i = z i := by
  intro i hi
  have : i = 0 ∨ i = 1 ∨ i = 2 ∨ i = 3 ∨ i = 4 ∨ i = 5 := by omega
  rcases this with rfl | rfl | rfl | rfl | rfl | rfl <;> rfl
/-- A zone in memory. -/
structure BoxZ (W : World) (A : Nat) (z : Nat → Int) : Prop where
  lt : A < W.heap.size
  c0 : W.cell? ⟨A, 0, none⟩ = some (.int .i64 (z 0))
  c1 : W.cell? ⟨A, 1, none⟩ = some (.int .i64 (z 1))
  c2 : W.cell? ⟨A, 2, none⟩ = some (.int .i64 (z 2))
  c3 : W.cell? ⟨A, 3, none⟩ = some (.int .i64 (z 3))
  c4 : W.cell? ⟨A, 4, none⟩ = some (.int .i64 (z 4))
  c5 : W.cell? ⟨A, 5, none⟩ = some (.int .i64 (z 5))
theorem BoxZ.below {W V : World} {A : Nat} {z : Nat → Int} (h : BoxZ W A z) (hb : Below W.heap.size W V) : BoxZ V A z :=
  ⟨Nat.lt_of_lt_of_le h.lt hb.size, (hb.cell (p := ⟨A, 0, none⟩) h.lt).trans h.c0, (hb.cell (p := ⟨A, 1, none⟩) h.lt).trans h.c1, (hb.cell (p := ⟨A, 2, none⟩) h.lt).trans h.c2, (hb.cell (p := ⟨A, 3, none⟩) h.lt).trans h.c3, (hb.cell (p := ⟨A, 4, none⟩) h.lt).trans h.c4, (hb.cell (p := ⟨A, 5, none⟩) h.lt).trans h.c5⟩
theorem BoxZ.new {W : World} {A : Nat} {z : Nat → Int} {t : TypeId} (hA : A = W.heap.size) : BoxZ (W.alloc (.cells #[.int .i64 (z 0), .int .i64 (z 1), .int .i64 (z 2), .int .i64 (z 3), .int .i64 (z 4), .int .i64 (z 5)] t)) A z := by
  subst hA
  exact ⟨by simp, by simp [go_sem], by simp [go_sem], by simp [go_sem], by simp [go_sem], by simp [go_sem], by simp [go_sem]⟩
/-- A result's cells of a matrix, not yet written. -/
structure ResM (W : World) (R : Nat) : Prop where
  lt : R < W.heap.size
  c0 : W.cell? ⟨R, 0, none⟩ = some (.int .i64 0)
  c1 : W.cell? ⟨R, 1, none⟩ = some (.slice none 0 0)
  z0 : W.frozen? ⟨R, 0, none⟩ = false
  z1 : W.frozen? ⟨R, 1, none⟩ = false
theorem ResM.below {W V : World} {R : Nat} (h : ResM W R) (hb : Below W.heap.size W V) : ResM V R :=
  ⟨Nat.lt_of_lt_of_le h.lt hb.size, (hb.cell (p := ⟨R, 0, none⟩) h.lt).trans h.c0, (hb.cell (p := ⟨R, 1, none⟩) h.lt).trans h.c1, (hb.frozen (p := ⟨R, 0, none⟩) h.lt).trans h.z0, (hb.frozen (p := ⟨R, 1, none⟩) h.lt).trans h.z1⟩

theorem idxZ0 (w : World) : (Instr.index 164 (.agg #[.int .i64 3, .int .i64 1, .int .i64 6, .int .i64 2, .int .i64 7, .int .i64 5]) (.int .i64 0)).run Tryz.prog w = .ok (.int .i64 3) w := by kernel_rfl
theorem idxZ1 (w : World) : (Instr.index 164 (.agg #[.int .i64 3, .int .i64 1, .int .i64 6, .int .i64 2, .int .i64 7, .int .i64 5]) (.int .i64 1)).run Tryz.prog w = .ok (.int .i64 1) w := by kernel_rfl
theorem idxZ2 (w : World) : (Instr.index 164 (.agg #[.int .i64 3, .int .i64 1, .int .i64 6, .int .i64 2, .int .i64 7, .int .i64 5]) (.int .i64 2)).run Tryz.prog w = .ok (.int .i64 6) w := by kernel_rfl
theorem idxZ3 (w : World) : (Instr.index 164 (.agg #[.int .i64 3, .int .i64 1, .int .i64 6, .int .i64 2, .int .i64 7, .int .i64 5]) (.int .i64 3)).run Tryz.prog w = .ok (.int .i64 2) w := by kernel_rfl
theorem idxZ4 (w : World) : (Instr.index 164 (.agg #[.int .i64 3, .int .i64 1, .int .i64 6, .int .i64 2, .int .i64 7, .int .i64 5]) (.int .i64 4)).run Tryz.prog w = .ok (.int .i64 7) w := by kernel_rfl
theorem idxZ5 (w : World) : (Instr.index 164 (.agg #[.int .i64 3, .int .i64 1, .int .i64 6, .int .i64 2, .int .i64 7, .int .i64 5]) (.int .i64 5)).run Tryz.prog w = .ok (.int .i64 5) w := by kernel_rfl

set_option maxRecDepth 10000 in
set_option maxHeartbeats 1000000 in
theorem places_any : Pure Tryz.prog 90 #[] (.agg #[.int .i64 3, .int .i64 1, .int .i64 6, .int .i64 2, .int .i64 7, .int .i64 5]) := by
  intro w
  go_enter Tryz.func90, Tryz.ntmps90
  go_wp2
  go_returns
  exact gives_end rfl (by (repeat' (first | (with_reducible assumption) | (with_reducible exact Below.refl _ _) | (with_reducible refine below_wov ?_ ?_ _) | (with_reducible refine below_drewN ?_ _) | (with_reducible refine Below.drew ?_) | (with_reducible refine Below.alloc ?_ ?_ _) | (with_reducible refine Below.setCell ?_ ?_ _) | (with_reducible exact Nat.le_refl _) | omega | (simp only [World.size_alloc, World.size_setCell, World.size_drew, Wov_size, World.heap_drewN]; omega))))

set_option maxRecDepth 10000 in
set_option maxHeartbeats 4000000 in
theorem matrix_any (z : Nat → Int) (w : World) : Calls Tryz.prog 43 #[zoneV z] w (rowPost w 3 9 (zF z)) := by
  have TP := Lib.hid (fun w => top_ok 3 w (by omega) (by omega))
  have PL := Lib.hid places_any
  have j0 := idxZ0
  have j1 := idxZ1
  have j2 := idxZ2
  have j3 := idxZ3
  have j4 := idxZ4
  have j5 := idxZ5
  unfold zoneV
  go_enter Tryz.func43, Tryz.ntmps43
  go_wp2_with (fail)
  refine calls_world (fun W => Below w.heap.size w W ∧ BoxZ W w.heap.size z ∧ ResM W (w.heap.size + 1)) ⟨by (repeat' (first | (with_reducible assumption) | (with_reducible exact Below.refl _ _) | (with_reducible refine below_wov ?_ ?_ _) | (with_reducible refine below_drewN ?_ _) | (with_reducible refine Below.drew ?_) | (with_reducible refine Below.alloc ?_ ?_ _) | (with_reducible refine Below.setCell ?_ ?_ _) | (with_reducible exact Nat.le_refl _) | omega | (simp only [World.size_alloc, World.size_setCell, World.size_drew, Wov_size, World.heap_drewN]; omega))), (BoxZ.new (W := w) (t := 49) rfl).below (by (repeat' (first | (with_reducible assumption) | (with_reducible exact Below.refl _ _) | (with_reducible refine below_wov ?_ ?_ _) | (with_reducible refine below_drewN ?_ _) | (with_reducible refine Below.drew ?_) | (with_reducible refine Below.alloc ?_ ?_ _) | (with_reducible refine Below.setCell ?_ ?_ _) | (with_reducible exact Nat.le_refl _) | omega | (simp only [World.size_alloc, World.size_setCell, World.size_drew, Wov_size, World.heap_drewN]; omega)))), ⟨by simp, by simp [go_sem], by simp [go_sem], by simp [go_sem], by simp [go_sem]⟩⟩ ?_
  rintro W1 ⟨hb1, m0, m1⟩
  have hs1 := hb1.size
  refine (TP.out W1).mono ?_; rintro e w' ⟨B, cp, rfl, hA, hB, hH, q1, rfl⟩
  have hHH := Lib.hid hH
  clear hH TP
  have hBB := Lib.hid hB
  have hA' := Lib.hid hA
  clear hA hB
  go_wp2_with (fail)
  obtain ⟨A, hA⟩ : ∃ A, W1.heap.size + q1.bl.size = A := ⟨_, rfl⟩
  rw [hA]
  refine calls_world (fun W => Below w.heap.size w W ∧ BoxZ W w.heap.size z ∧ ResM W (w.heap.size + 1) ∧ BoxM W A 3 (some ⟨B, 0, none⟩) 9 cp (topF 3) ∧ HoldsI W B 9 (topF 3) ∧ B < A ∧ w.heap.size + 1 < B) ⟨by (repeat' (first | (with_reducible assumption) | (with_reducible exact Below.refl _ _) | (with_reducible refine below_wov ?_ ?_ _) | (with_reducible refine below_drewN ?_ _) | (with_reducible refine Below.drew ?_) | (with_reducible refine Below.alloc ?_ ?_ _) | (with_reducible refine Below.setCell ?_ ?_ _) | (with_reducible exact Nat.le_refl _) | omega | (simp only [World.size_alloc, World.size_setCell, World.size_drew, Wov_size, World.heap_drewN]; omega))), m0.below (by (repeat' (first | (with_reducible assumption) | (with_reducible exact Below.refl _ _) | (with_reducible refine below_wov ?_ ?_ _) | (with_reducible refine below_drewN ?_ _) | (with_reducible refine Below.drew ?_) | (with_reducible refine Below.alloc ?_ ?_ _) | (with_reducible refine Below.setCell ?_ ?_ _) | (with_reducible exact Nat.le_refl _) | omega | (simp only [World.size_alloc, World.size_setCell, World.size_drew, Wov_size, World.heap_drewN]; omega)))), m1.below (by (repeat' (first | (with_reducible assumption) | (with_reducible exact Below.refl _ _) | (with_reducible refine below_wov ?_ ?_ _) | (with_reducible refine below_drewN ?_ _) | (with_reducible refine Below.drew ?_) | (with_reducible refine Below.alloc ?_ ?_ _) | (with_reducible refine Below.setCell ?_ ?_ _) | (with_reducible exact Nat.le_refl _) | omega | (simp only [World.size_alloc, World.size_setCell, World.size_drew, Wov_size, World.heap_drewN]; omega)))), BoxM.new (slp_of hHH.out hBB.out) (by rw [← hA]; (try simp only [Wov_size])), hHH.out.below ((Below.refl _ _).alloc (Nat.le_refl _) _) hBB.out, by have := hBB.out; rw [Wov_size] at this; omega, by have := m1.lt; have := hA'.out; omega⟩ ?_
  rintro W ⟨hb, n0, n1, n2, n3, n4, n5⟩
  have hs := hb.size
  clear hb1 m0 m1 hs1 hHH hBB hA' hA
  refine (PL.out W).mono ?_; rintro e w' ⟨rfl, q2, rfl⟩
  clear PL
  go_wp2
  refine wp_world (fun W => Below w.heap.size w W ∧ BoxZ W w.heap.size z ∧ ResM W (w.heap.size + 1) ∧ BoxM W A 3 (some ⟨B, 0, none⟩) 9 cp (topF 3) ∧ HoldsI W B 9 (topF 3)) ⟨by (repeat' (first | (with_reducible assumption) | (with_reducible exact Below.refl _ _) | (with_reducible refine below_wov ?_ ?_ _) | (with_reducible refine below_drewN ?_ _) | (with_reducible refine Below.drew ?_) | (with_reducible refine Below.alloc ?_ ?_ _) | (with_reducible refine Below.setCell ?_ ?_ _) | (with_reducible exact Nat.le_refl _) | omega | (simp only [World.size_alloc, World.size_setCell, World.size_drew, Wov_size, World.heap_drewN]; omega))), n0.below (by (repeat' (first | (with_reducible assumption) | (with_reducible exact Below.refl _ _) | (with_reducible refine below_wov ?_ ?_ _) | (with_reducible refine below_drewN ?_ _) | (with_reducible refine Below.drew ?_) | (with_reducible refine Below.alloc ?_ ?_ _) | (with_reducible refine Below.setCell ?_ ?_ _) | (with_reducible exact Nat.le_refl _) | omega | (simp only [World.size_alloc, World.size_setCell, World.size_drew, Wov_size, World.heap_drewN]; omega)))), n1.below (by (repeat' (first | (with_reducible assumption) | (with_reducible exact Below.refl _ _) | (with_reducible refine below_wov ?_ ?_ _) | (with_reducible refine below_drewN ?_ _) | (with_reducible refine Below.drew ?_) | (with_reducible refine Below.alloc ?_ ?_ _) | (with_reducible refine Below.setCell ?_ ?_ _) | (with_reducible exact Nat.le_refl _) | omega | (simp only [World.size_alloc, World.size_setCell, World.size_drew, Wov_size, World.heap_drewN]; omega)))), n2.below (by (repeat' (first | (with_reducible assumption) | (with_reducible exact Below.refl _ _) | (with_reducible refine below_wov ?_ ?_ _) | (with_reducible refine below_drewN ?_ _) | (with_reducible refine Below.drew ?_) | (with_reducible refine Below.alloc ?_ ?_ _) | (with_reducible refine Below.setCell ?_ ?_ _) | (with_reducible exact Nat.le_refl _) | omega | (simp only [World.size_alloc, World.size_setCell, World.size_drew, Wov_size, World.heap_drewN]; omega)))), n3.below (below_Wov _ _) (by have := n2.lt; omega)⟩ ?_
  rintro X ⟨hbX, x0, x1, x2, x3⟩
  have hsX := hbX.size
  have x3' := Lib.hid x3
  clear hb hs n0 n1 n2 n3 x3
  go_loopw [12] (fun i wr => ∃ t : Nat, t ≤ 6 ∧ i = .int .i64 t ∧ Chg X B wr ∧ Hid (HoldsI wr B 9 (mF z t)))
    (fun i _ => 6 - (intOf i).toNat)
  case atStart => exact ⟨0, by omega, rfl, Chg.refl _ _, x3'.out⟩
  case round =>
    obtain ⟨t, ht, rfl, hc, hH⟩ := hrel
    have z0 := x0.lt
    have z2 := x2.lt
    have b0 := (hc.cell (x := 0) z0 (by omega)).trans x0.c0
    have b1 := (hc.cell (x := 1) z0 (by omega)).trans x0.c1
    have b2 := (hc.cell (x := 2) z0 (by omega)).trans x0.c2
    have b3 := (hc.cell (x := 3) z0 (by omega)).trans x0.c3
    have b4 := (hc.cell (x := 4) z0 (by omega)).trans x0.c4
    have b5 := (hc.cell (x := 5) z0 (by omega)).trans x0.c5
    have d0 := (hc.cell (x := 0) z2 (by omega)).trans x2.c0
    have d1 := (hc.cell (x := 1) z2 (by omega)).trans x2.c1
    have hsz := hc.size
    by_cases hlt : t < 6
    · have hz := hH.out (placeZ t) (placeZ_lt t hlt)
      obtain ⟨hz1, hz2⟩ := hz
      have hN : HoldsI (wr.setCell ⟨B, placeZ t, none⟩ (.int .i64 (z t))) B 9 (mF z (t + 1)) := hH.out.set (placeZ_lt t hlt) (z t)
      have HN := Lib.hid hN
      have hcases : t = 0 ∨ t = 1 ∨ t = 2 ∨ t = 3 ∨ t = 4 ∨ t = 5 := by omega
      clear hN hlt ht hH
      rcases hcases with rfl | rfl | rfl | rfl | rfl | rfl
      all_goals simp only [placeZ] at hz1 hz2 HN
      · go_wp2
        go_region
        go_wp2
        go_roundw
        case rel => exact ⟨1, by omega, rfl, hc.trans (by first | exact Chg.set _ _ _ _ | exact (Chg.drew _ _).trans (Chg.set _ _ _ _)), HN.out⟩
        case measure => simp [intOf]
      · go_wp2
        go_region
        go_wp2
        go_roundw
        case rel => exact ⟨2, by omega, rfl, hc.trans (by first | exact Chg.set _ _ _ _ | exact (Chg.drew _ _).trans (Chg.set _ _ _ _)), HN.out⟩
        case measure => simp [intOf]
      · go_wp2
        go_region
        go_wp2
        go_roundw
        case rel => exact ⟨3, by omega, rfl, hc.trans (by first | exact Chg.set _ _ _ _ | exact (Chg.drew _ _).trans (Chg.set _ _ _ _)), HN.out⟩
        case measure => simp [intOf]
      · go_wp2
        go_region
        go_wp2
        go_roundw
        case rel => exact ⟨4, by omega, rfl, hc.trans (by first | exact Chg.set _ _ _ _ | exact (Chg.drew _ _).trans (Chg.set _ _ _ _)), HN.out⟩
        case measure => simp [intOf]
      · go_wp2
        go_region
        go_wp2
        go_roundw
        case rel => exact ⟨5, by omega, rfl, hc.trans (by first | exact Chg.set _ _ _ _ | exact (Chg.drew _ _).trans (Chg.set _ _ _ _)), HN.out⟩
        case measure => simp [intOf]
      · go_wp2
        go_region
        go_wp2
        go_roundw
        case rel => exact ⟨6, by omega, rfl, hc.trans (by first | exact Chg.set _ _ _ _ | exact (Chg.drew _ _).trans (Chg.set _ _ _ _)), HN.out⟩
        case measure => simp [intOf]
    · obtain rfl : t = 6 := by omega
      have r0 := (hc.cell (x := 0) x1.lt (by omega)).trans x1.c0
      have r1 := (hc.cell (x := 1) x1.lt (by omega)).trans x1.c1
      have rz0 := (hc.frozen (x := 0) x1.lt (by omega)).trans x1.z0
      have rz1 := (hc.frozen (x := 1) x1.lt (by omega)).trans x1.z1
      have hB2 := hH.out.block_lt (by omega)
      have HF : Hid (HoldsI wr B 9 (zF z)) := hH.out
      have hbw : Below w.heap.size w wr := hbX.trans (hc.belowAt (by omega) hsX)
      have HBW := Lib.hid hbw
      clear hH hbX x0 x1 x2
      go_wp2
      refine bodyPost_ret (by simp [results, Tryz.results43, go_sem, r0, r1]; try rfl) rfl ?_
      refine ⟨B, cp, rfl, by omega, by simp [World.setCell]; omega, ?_, Wov_of_below ((HBW.out.setCell (p := ⟨w.heap.size + 1, 0, none⟩) (by simp) _).setCell (p := ⟨w.heap.size + 1, 1, none⟩) (by simp) _)⟩
      exact HF.out.of_block (((Chg.set wr (w.heap.size + 1) 0 _).trans (Chg.set _ (w.heap.size + 1) 1 _)).block B hB2 (by omega))
#print axioms matrix_any
end Go.Proofs.YtpmpapenjcemjaaGreatDoor
