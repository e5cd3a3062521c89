/- Contract of win.Shift. No condition. -/
import Derived.Test.YtbgbhfcnadjhdaaK4
namespace Go.Proofs.Ytbgbhfcnadjhdaa
set_option linter.unusedSimpArgs false
set_option linter.unusedVariables false
open Go Go.RowKit Go.Shelf
attribute [local go_sem] Nat.add_assoc Nat.add_lt_add_iff_left lit_lt_add

/-- A zone that is moved, bound by bound. -/
def sg4 : Nat → Int
  | 0 => 1 | 1 => -1 | 2 => 1 | _ => -1
def shS (z : Nat → Int) (n : Int) : Nat → Nat → Int
  | 0 => z
  | k + 1 => upd (shS z n k) k (mvB (z k) (n * sg4 k))
theorem shS_four (z : Nat → Int) (n : Int) : ∀ i, i < 6 → shS z n 4 i = movZ z n i := by
  have e1 : n * 1 = n := Int.mul_one n
  have e2 : n * -1 = -n := by omega
  intro i hi
  rcases six hi with rfl | rfl | rfl | rfl | rfl | rfl
  · show mvB (z 0) (n * 1) = mvB (z 0) n; rw [e1]
  · show mvB (z 1) (n * -1) = mvB (z 1) (-n); rw [e2]
  · show mvB (z 2) (n * 1) = mvB (z 2) n; rw [e1]
  · show mvB (z 3) (n * -1) = mvB (z 3) (-n); rw [e2]
  · rfl
  · rfl
theorem movZ_fits {z : Nat → Int} {n : Int} (hz : okZ z = true) (hn : fitsW n = true) : FitsZ (movZ z n) := by
  intro i hi
  rcases six hi with rfl | rfl | rfl | rfl | rfl | rfl
  · exact fits_mv (okZ_may hz (by omega)) hn
  · exact fits_mv (okZ_may hz (by omega)) (fitsW_neg hn)
  · exact fits_mv (okZ_may hz (by omega)) hn
  · exact fits_mv (okZ_may hz (by omega)) (fitsW_neg hn)
  · exact mayB_fits (okZ_may hz (t := 4) (by omega))
  · exact mayB_fits (okZ_may hz (t := 5) (by omega))
theorem idxS0 (w : World) : (Instr.index 118 (.agg #[.int .i64 1, .int .i64 (-1), .int .i64 1, .int .i64 (-1)]) (.int .i64 0)).run Try.prog w = .ok (.int .i64 1) w := by kernel_rfl
theorem idxS1 (w : World) : (Instr.index 118 (.agg #[.int .i64 1, .int .i64 (-1), .int .i64 1, .int .i64 (-1)]) (.int .i64 1)).run Try.prog w = .ok (.int .i64 (-1)) w := by kernel_rfl
theorem idxS2 (w : World) : (Instr.index 118 (.agg #[.int .i64 1, .int .i64 (-1), .int .i64 1, .int .i64 (-1)]) (.int .i64 2)).run Try.prog w = .ok (.int .i64 1) w := by kernel_rfl
theorem idxS3 (w : World) : (Instr.index 118 (.agg #[.int .i64 1, .int .i64 (-1), .int .i64 1, .int .i64 (-1)]) (.int .i64 3)).run Try.prog w = .ok (.int .i64 (-1)) w := by kernel_rfl
set_option maxRecDepth 10000 in
set_option maxHeartbeats 4000000 in
theorem wshift_any (z : Nat → Int) (n : Int) (w : World) (hz : FitsZ z) (wn : fits64 n) : Calls Try.prog 28 #[zoneV z, .int .i64 n] w (Gives w (zoneR (shiftZ z n).1 (shiftZ z n).2)) := by
  have CK : Hid (∀ w, Calls Try.prog 45 #[.agg #[.int .i64 (z 0), .int .i64 (z 1), .int .i64 (z 2), .int .i64 (z 3), .int .i64 (z 4), .int .i64 (z 5)]] w (Gives w (.int .i64 (rcode (okZ z))))) := fun w => zcheck_any z w hz
  have FA := Lib.hid (wfits_any n)
  unfold shiftZ
  cases ok : okZ z
  · rw [ok] at CK
    simp only [rcode_f, Bool.false_eq_true, if_false] at CK ⊢
    clear ok hz wn FA
    unfold zoneR zoneV
    go_enter Try.func28, Try.ntmps28
    go_wp2_with (fail)
    refine (CK.out _).mono ?_; rintro e w' ⟨rfl, q1, rfl⟩
    go_wp2
    go_returns
    exact gives_end rfl (by (repeat' (first | (with_reducible assumption) | (with_reducible exact Below.refl _ _) | (with_reducible refine below_wov ?_ ?_ _) | (with_reducible refine below_drewN ?_ _) | (with_reducible refine Below.drew ?_) | (with_reducible refine Below.alloc ?_ ?_ _) | (with_reducible refine Below.setCell ?_ ?_ _) | (with_reducible exact Nat.le_refl _) | omega | (simp only [World.size_alloc, World.size_setCell, World.size_drew, Wov_size, World.heap_drewN]; omega))))
  · rw [ok] at CK
    simp only [rcode_t, if_true] at CK ⊢
    cases k1 : fitsW n
    · rw [k1] at FA
      rw [if_neg (by decide)]
      clear ok hz wn k1
      unfold zoneR zoneV
      go_enter Try.func28, Try.ntmps28
      go_wp2_with (fail)
      refine (CK.out _).mono ?_; rintro e w' ⟨rfl, q1, rfl⟩
      go_wp2_with (fail)
      refine (FA.out _).mono ?_; rintro e w' ⟨rfl, q2, rfl⟩
      go_wp2
      go_returns
      exact gives_end rfl (by (repeat' (first | (with_reducible assumption) | (with_reducible exact Below.refl _ _) | (with_reducible refine below_wov ?_ ?_ _) | (with_reducible refine below_drewN ?_ _) | (with_reducible refine Below.drew ?_) | (with_reducible refine Below.alloc ?_ ?_ _) | (with_reducible refine Below.setCell ?_ ?_ _) | (with_reducible exact Nat.le_refl _) | omega | (simp only [World.size_alloc, World.size_setCell, World.size_drew, Wov_size, World.heap_drewN]; omega))))
    · rw [k1] at FA
      rw [if_pos rfl]
      have MV0 : Hid (∀ t s, t < 4 → (s = 1 ∨ s = -1) → Pure Try.prog 72 #[.int .i64 n, .int .i64 (z t), .int .i64 s] (.tuple #[.int .i64 (mvB (z t) (n * s)), .bool true])) := fun t s ht hs => moved_any (z t) n s (okZ_may ok (by omega)) hs k1
      have CK2 : Hid (∀ (y : Nat → Int) (w : World), (∀ i, i < 6 → y i = movZ z n i) → Calls Try.prog 45 #[.agg #[.int .i64 (y 0), .int .i64 (y 1), .int .i64 (y 2), .int .i64 (y 3), .int .i64 (y 4), .int .i64 (y 5)]] w (Gives w (.int .i64 (rcode (okZ (movZ z n)))))) := fun y w h => by
        have fy : FitsZ y := fun i hi => by rw [h i hi]; exact movZ_fits ok k1 i hi
        have := zcheck_any y w fy
        rw [okZ_eq h] at this; exact this
      have HR : Hid (∀ y : Nat → Int, (∀ i, i < 6 → y i = movZ z n i) → zoneR (if okZ (movZ z n) = true then (movZ z n, (0 : Int)) else (fun _ => 0, 8)).1 (if okZ (movZ z n) = true then (movZ z n, (0 : Int)) else (fun _ => 0, 8)).2 = if okZ (movZ z n) = true then zoneR y 0 else zoneR (fun _ => 0) 8) := fun y h => by
        split
        · unfold zoneR zoneV
          simp only [h 0 (by omega), h 1 (by omega), h 2 (by omega), h 3 (by omega), h 4 (by omega), h 5 (by omega)]
        · rfl
      have j0 := idxS0
      have j1 := idxS1
      have j2 := idxS2
      have j3 := idxS3
      obtain ⟨R, hR⟩ : ∃ R, R = zoneR (if okZ (movZ z n) = true then (movZ z n, (0 : Int)) else (fun _ => 0, 8)).1 (if okZ (movZ z n) = true then (movZ z n, (0 : Int)) else (fun _ => 0, 8)).2 := ⟨_, rfl⟩
      rw [← hR] at HR ⊢
      obtain ⟨k, hk⟩ : ∃ k, k = okZ (movZ z n) := ⟨_, rfl⟩
      rw [← hk] at CK2 HR
      clear ok hz wn k1 hR hk
      unfold zoneV
      go_enter Try.func28, Try.ntmps28
      go_wp2_with (fail)
      refine (CK.out _).mono ?_; rintro e w' ⟨rfl, q1, rfl⟩
      go_wp2_with (fail)
      refine (FA.out _).mono ?_; rintro e w' ⟨rfl, q2, rfl⟩
      go_wp2
      refine wp_world (fun W => Below w.heap.size w W ∧ HoldsA W w.heap.size 6 z ∧ HoldsA W (w.heap.size + 1) 6 (fun _ => 0)) ⟨by (repeat' (first | (with_reducible assumption) | (with_reducible exact Below.refl _ _) | (with_reducible refine below_wov ?_ ?_ _) | (with_reducible refine below_drewN ?_ _) | (with_reducible refine Below.drew ?_) | (with_reducible refine Below.alloc ?_ ?_ _) | (with_reducible refine Below.setCell ?_ ?_ _) | (with_reducible exact Nat.le_refl _) | omega | (simp only [World.size_alloc, World.size_setCell, World.size_drew, Wov_size, World.heap_drewN]; omega))), (six_new (W := w) (t := 24) rfl).below (by (repeat' (first | (with_reducible assumption) | (with_reducible exact Below.refl _ _) | (with_reducible refine below_wov ?_ ?_ _) | (with_reducible refine below_drewN ?_ _) | (with_reducible refine Below.drew ?_) | (with_reducible refine Below.alloc ?_ ?_ _) | (with_reducible refine Below.setCell ?_ ?_ _) | (with_reducible exact Nat.le_refl _) | omega | (simp only [World.size_alloc, World.size_setCell, World.size_drew, Wov_size, World.heap_drewN]; omega)))), (zero_six (W := w.alloc (.cells #[.int .i64 (z 0), .int .i64 (z 1), .int .i64 (z 2), .int .i64 (z 3), .int .i64 (z 4), .int .i64 (z 5)] 24)) (t := 24) (by simp)).below (by (repeat' (first | (with_reducible assumption) | (with_reducible exact Below.refl _ _) | (with_reducible refine below_wov ?_ ?_ _) | (with_reducible refine below_drewN ?_ _) | (with_reducible refine Below.drew ?_) | (with_reducible refine Below.alloc ?_ ?_ _) | (with_reducible refine Below.setCell ?_ ?_ _) | (with_reducible exact Nat.le_refl _) | omega | (simp only [World.size_alloc, World.size_setCell, World.size_drew, Wov_size, World.heap_drewN]; omega))))⟩ ?_
      rintro W ⟨hb1, h0, h1⟩
      have HZ := Lib.hid h0
      have HO := Lib.hid h1
      have hsz := hb1.size
      have HB1 := Lib.hid hb1
      have l1 := h1.lt
      clear h0 h1 hb1 CK FA
      go_loopw [25] (fun i wr => ∃ t : Nat, t ≤ 4 ∧ i = .int .i64 t ∧ Chg W w.heap.size wr ∧ Hid (HoldsI wr w.heap.size 6 (shS z n t)))
        (fun i _ => 4 - (intOf i).toNat)
      case atStart => exact ⟨0, by omega, rfl, Chg.refl _ _, HZ.out.holds⟩
      case round =>
        obtain ⟨t, ht, rfl, hc, hH⟩ := hrel
        have hsr := hc.size
        have hcases : t = 0 ∨ t = 1 ∨ t = 2 ∨ t = 3 ∨ t = 4 := by omega
        clear ht
        rcases hcases with rfl | rfl | rfl | rfl | rfl
        · obtain ⟨c0, d0⟩ := hH.out 0 (by omega)
          have c1 : wr.cell? ⟨w.heap.size, 0, none⟩ = some (.int .i64 (z 0)) := c0
          have MV := Lib.hid (MV0.out 0 1 (by omega) (by omega))
          have HH := Lib.hid hH.out
          obtain ⟨x, hx⟩ : ∃ x, x = mvB (z 0) (n * 1) := ⟨_, rfl⟩
          rw [← hx] at MV
          have HX := Lib.hid hx
          have hsw : w.heap.size < wr.heap.size := by omega
          clear c0 hH MV0 CK2 HR hx
          go_wp2_with (fail)
          refine (MV.out _).mono ?_; rintro e w' ⟨rfl, q2, rfl⟩
          go_wp2
          go_roundw
          case rel =>
            refine ⟨1, by omega, by go_num, hc.trans ((Chg.of_below (below_Wov wr q2)).trans (Chg.set _ _ _ _)), ?_⟩
            have h5 : HoldsI (Wov wr q2) w.heap.size 6 (shS z n 0) := HH.out.below (below_Wov wr q2) hsw
            have h6 := h5.set (a := 0) (by omega) x
            rw [HX.out] at h6 ⊢
            exact h6
          case measure => simp [intOf]
        · obtain ⟨c0, d0⟩ := hH.out 1 (by omega)
          have c1 : wr.cell? ⟨w.heap.size, 1, none⟩ = some (.int .i64 (z 1)) := c0
          have MV := Lib.hid (MV0.out 1 (-1) (by omega) (by omega))
          have HH := Lib.hid hH.out
          obtain ⟨x, hx⟩ : ∃ x, x = mvB (z 1) (n * (-1)) := ⟨_, rfl⟩
          rw [← hx] at MV
          have HX := Lib.hid hx
          have hsw : w.heap.size < wr.heap.size := by omega
          clear c0 hH MV0 CK2 HR hx
          go_wp2_with (fail)
          refine (MV.out _).mono ?_; rintro e w' ⟨rfl, q2, rfl⟩
          go_wp2
          go_roundw
          case rel =>
            refine ⟨2, by omega, by go_num, hc.trans ((Chg.of_below (below_Wov wr q2)).trans (Chg.set _ _ _ _)), ?_⟩
            have h5 : HoldsI (Wov wr q2) w.heap.size 6 (shS z n 1) := HH.out.below (below_Wov wr q2) hsw
            have h6 := h5.set (a := 1) (by omega) x
            rw [HX.out] at h6 ⊢
            exact h6
          case measure => simp [intOf]
        · obtain ⟨c0, d0⟩ := hH.out 2 (by omega)
          have c1 : wr.cell? ⟨w.heap.size, 2, none⟩ = some (.int .i64 (z 2)) := c0
          have MV := Lib.hid (MV0.out 2 1 (by omega) (by omega))
          have HH := Lib.hid hH.out
          obtain ⟨x, hx⟩ : ∃ x, x = mvB (z 2) (n * 1) := ⟨_, rfl⟩
          rw [← hx] at MV
          have HX := Lib.hid hx
          have hsw : w.heap.size < wr.heap.size := by omega
          clear c0 hH MV0 CK2 HR hx
          go_wp2_with (fail)
          refine (MV.out _).mono ?_; rintro e w' ⟨rfl, q2, rfl⟩
          go_wp2
          go_roundw
          case rel =>
            refine ⟨3, by omega, by go_num, hc.trans ((Chg.of_below (below_Wov wr q2)).trans (Chg.set _ _ _ _)), ?_⟩
            have h5 : HoldsI (Wov wr q2) w.heap.size 6 (shS z n 2) := HH.out.below (below_Wov wr q2) hsw
            have h6 := h5.set (a := 2) (by omega) x
            rw [HX.out] at h6 ⊢
            exact h6
          case measure => simp [intOf]
        · obtain ⟨c0, d0⟩ := hH.out 3 (by omega)
          have c1 : wr.cell? ⟨w.heap.size, 3, none⟩ = some (.int .i64 (z 3)) := c0
          have MV := Lib.hid (MV0.out 3 (-1) (by omega) (by omega))
          have HH := Lib.hid hH.out
          obtain ⟨x, hx⟩ : ∃ x, x = mvB (z 3) (n * (-1)) := ⟨_, rfl⟩
          rw [← hx] at MV
          have HX := Lib.hid hx
          have hsw : w.heap.size < wr.heap.size := by omega
          clear c0 hH MV0 CK2 HR hx
          go_wp2_with (fail)
          refine (MV.out _).mono ?_; rintro e w' ⟨rfl, q2, rfl⟩
          go_wp2
          go_roundw
          case rel =>
            refine ⟨4, by omega, by go_num, hc.trans ((Chg.of_below (below_Wov wr q2)).trans (Chg.set _ _ _ _)), ?_⟩
            have h5 : HoldsI (Wov wr q2) w.heap.size 6 (shS z n 3) := HH.out.below (below_Wov wr q2) hsw
            have h6 := h5.set (a := 3) (by omega) x
            rw [HX.out] at h6 ⊢
            exact h6
          case measure => simp [intOf]
        · have hO := holdsA_chg HO.out hc (by omega)
          have HO2 := Lib.hid hO
          have HBW := Lib.hid (HB1.out.trans (hc.belowAt (Nat.le_refl _) hsz))
          obtain ⟨y, hy⟩ : ∃ y, y = shS z n 4 := ⟨_, rfl⟩
          have ey : ∀ i, i < 6 → y i = movZ z n i := by rw [hy]; exact shS_four z n
          have CK3 := Lib.hid (fun w => CK2.out y w ey)
          have HR2 := Lib.hid (HR.out y ey)
          have HY := Lib.hid (show HoldsI wr w.heap.size 6 y by rw [hy]; exact hH.out)
          have x0 := (HY.out 0 (by omega)).1
          have x1 := (HY.out 1 (by omega)).1
          have x2 := (HY.out 2 (by omega)).1
          have x3 := (HY.out 3 (by omega)).1
          have x4 := (HY.out 4 (by omega)).1
          have x5 := (HY.out 5 (by omega)).1
          have hzr : w.heap.size < wr.heap.size := by omega
          clear hy hH CK2 HR HZ HO hc hO ey MV0 j0 j1 j2 j3
          go_wp2_with (fail)
          have hbw := HBW.out
          refine calls_world (fun V => Below w.heap.size w V ∧ HoldsA V w.heap.size 6 y ∧ HoldsA V (w.heap.size + 1) 6 (fun _ => 0)) ⟨by (repeat' (first | (with_reducible assumption) | (with_reducible exact Below.refl _ _) | (with_reducible refine below_wov ?_ ?_ _) | (with_reducible refine below_drewN ?_ _) | (with_reducible refine Below.drew ?_) | (with_reducible refine Below.alloc ?_ ?_ _) | (with_reducible refine Below.setCell ?_ ?_ _) | (with_reducible exact Nat.le_refl _) | omega | (simp only [World.size_alloc, World.size_setCell, World.size_drew, Wov_size, World.heap_drewN]; omega))), (HoldsA.mk hzr HY.out).below (by (repeat' (first | (with_reducible assumption) | (with_reducible exact Below.refl _ _) | (with_reducible refine below_wov ?_ ?_ _) | (with_reducible refine below_drewN ?_ _) | (with_reducible refine Below.drew ?_) | (with_reducible refine Below.alloc ?_ ?_ _) | (with_reducible refine Below.setCell ?_ ?_ _) | (with_reducible exact Nat.le_refl _) | omega | (simp only [World.size_alloc, World.size_setCell, World.size_drew, Wov_size, World.heap_drewN]; omega)))), HO2.out.below (by (repeat' (first | (with_reducible assumption) | (with_reducible exact Below.refl _ _) | (with_reducible refine below_wov ?_ ?_ _) | (with_reducible refine below_drewN ?_ _) | (with_reducible refine Below.drew ?_) | (with_reducible refine Below.alloc ?_ ?_ _) | (with_reducible refine Below.setCell ?_ ?_ _) | (with_reducible exact Nat.le_refl _) | omega | (simp only [World.size_alloc, World.size_setCell, World.size_drew, Wov_size, World.heap_drewN]; omega))))⟩ ?_
          rintro V ⟨hbV, hY3, hO3⟩
          have hsV := hbV.size
          have lV := hO3.lt
          have lY := hY3.lt
          clear x0 x1 x2 x3 x4 x5 hbw HBW HO2 hsr hzr HY
          refine (CK3.out _).mono ?_; rintro e w' ⟨rfl, q2, rfl⟩
          have r0 := (hO3.holds 0 (by omega)).1
          have r1 := (hO3.holds 1 (by omega)).1
          have r2 := (hO3.holds 2 (by omega)).1
          have r3 := (hO3.holds 3 (by omega)).1
          have r4 := (hO3.holds 4 (by omega)).1
          have r5 := (hO3.holds 5 (by omega)).1
          have n0 := (hO3.holds 0 (by omega)).2
          have n1 := (hO3.holds 1 (by omega)).2
          have n2 := (hO3.holds 2 (by omega)).2
          have n3 := (hO3.holds 3 (by omega)).2
          have n4 := (hO3.holds 4 (by omega)).2
          have n5 := (hO3.holds 5 (by omega)).2
          have x0 := (hY3.holds 0 (by omega)).1
          have x1 := (hY3.holds 1 (by omega)).1
          have x2 := (hY3.holds 2 (by omega)).1
          have x3 := (hY3.holds 3 (by omega)).1
          have x4 := (hY3.holds 4 (by omega)).1
          have x5 := (hY3.holds 5 (by omega)).1
          clear hO3 hY3 CK3
          cases k
          · simp only [rcode_f]
            ((try dsimp only); repeat (first | go_values | go_skip | go_guarded | go_step | go_upon))
            refine bodyPost_ret (by simp [results, Try.results28, go_sem, r0, r1, r2, r3, r4, r5, lV]; try rfl) rfl ?_
            refine gives_end ?_ (by (repeat' (first | (with_reducible assumption) | (with_reducible exact Below.refl _ _) | (with_reducible refine below_wov ?_ ?_ _) | (with_reducible refine below_drewN ?_ _) | (with_reducible refine Below.drew ?_) | (with_reducible refine Below.alloc ?_ ?_ _) | (with_reducible refine Below.setCell ?_ ?_ _) | (with_reducible exact Nat.le_refl _) | omega | (simp only [World.size_alloc, World.size_setCell, World.size_drew, Wov_size, World.heap_drewN]; omega))))
            rw [HR2.out]; rfl
          · simp only [rcode_t]
            ((try dsimp only); repeat (first | go_values | go_skip | go_guarded | go_step | go_upon))
            refine bodyPost_ret (by simp [results, Try.results28, go_sem, r0, r1, r2, r3, r4, r5, lV]; try rfl) rfl ?_
            refine gives_end ?_ (by (repeat' (first | (with_reducible assumption) | (with_reducible exact Below.refl _ _) | (with_reducible refine below_wov ?_ ?_ _) | (with_reducible refine below_drewN ?_ _) | (with_reducible refine Below.drew ?_) | (with_reducible refine Below.alloc ?_ ?_ _) | (with_reducible refine Below.setCell ?_ ?_ _) | (with_reducible exact Nat.le_refl _) | omega | (simp only [World.size_alloc, World.size_setCell, World.size_drew, Wov_size, World.heap_drewN]; omega))))
            rw [HR2.out]; rfl
end Go.Proofs.Ytbgbhfcnadjhdaa
