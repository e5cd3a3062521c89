/- Contract of comp.Comp. No condition. -/
import Derived.Test.YtbgbhfcnadjhdaaL9
import Derived.Test.YtbgbhfcnadjhdaaK3
namespace Go.Proofs.Ytbgbhfcnadjhdaa
set_option linter.unusedSimpArgs false
set_option linter.unusedVariables false
open Go Go.RowKit Go.Shelf
attribute [local go_sem] Nat.add_assoc Nat.add_lt_add_iff_left lit_lt_add

theorem min_none {x : Int} (h : mayB x = true) : min noneB x = x := by
  rcases mayB_bd h with h | h
  · rw [h]; rfl
  · unfold bnum at h
    unfold noneB
    omega
theorem putF_j {a b : Nat → Int} (ha : okZ a = true) (hb : okZ b = true) : ∀ x, x < 16 → putF (putF (topF 4) a (sel 0 1 2) 9) b (sel 0 2 3) 9 x = jF a b x := by
  intro x hx
  have ma := fun i (hi : i < 6) => min_none (okZ_may ha hi)
  have mb := fun i (hi : i < 6) => min_none (okZ_may hb hi)
  rcases sixteen hx with rfl | rfl | rfl | rfl | rfl | rfl | rfl | rfl | rfl | rfl | rfl | rfl | rfl | rfl | rfl | rfl
  · rfl
  · exact ma 1 (by omega)
  · show min (min noneB (a 3)) (b 1) = min (a 3) (b 1); rw [ma 3 (by omega)]
  · exact mb 3 (by omega)
  · exact ma 0 (by omega)
  · rfl
  · exact ma 5 (by omega)
  · rfl
  · show min (min noneB (a 2)) (b 0) = min (a 2) (b 0); rw [ma 2 (by omega)]
  · exact ma 4 (by omega)
  · rfl
  · exact mb 5 (by omega)
  · exact mb 2 (by omega)
  · rfl
  · exact mb 4 (by omega)
  · rfl
theorem fromG_drop (c : Nat → Int) : ∀ x, x < 9 → fromG 4 3 (skip 2) c x = dropF c x := by
  intro x hx
  unfold fromG dropF
  have h : ∀ i, i < 3 → skip 2 i = sel 0 1 3 i := fun i hi => by
    have : i = 0 ∨ i = 1 ∨ i = 2 := by omega
    rcases this with rfl | rfl | rfl <;> rfl
  rw [h (x / 3) (by omega), h (x % 3) (by omega)]
theorem dropF_fits {c : Nat → Int} (h : Fits 16 c) : Fits 9 (dropF c) := fun x _ => by
  unfold dropF
  exact h _ (place_lt (sel_lt4 (by omega) (by omega) (by omega) _) (sel_lt4 (by omega) (by omega) (by omega) _))
theorem BoxZ.chg {W V : World} {A B : Nat} {z : Nat → Int} (h : BoxZ W A z) (hc : Chg W B V) (hA : A ≠ B) : BoxZ V A z :=
  ⟨Nat.lt_of_lt_of_le h.lt hc.size, (hc.cell h.lt hA).trans h.c0, (hc.cell h.lt hA).trans h.c1, (hc.cell h.lt hA).trans h.c2, (hc.cell h.lt hA).trans h.c3, (hc.cell h.lt hA).trans h.c4, (hc.cell h.lt hA).trans h.c5⟩
theorem matC.congr {w W : World} {n : Int} {N : Nat} {f g : Nat → Int} {e0 : Int} {e : Ending} (h : matC w n N f e0 e W) (hfg : ∀ x, x < N → f x = g x) : matC w n N g e0 e W := by
  obtain ⟨⟨p, cap, he, ho⟩, hq⟩ := h
  refine ⟨⟨p, cap, he, ?_⟩, hq⟩
  rcases ho with h0 | ⟨B, h1, h2, h3, h4⟩
  · exact .inl h0
  · exact .inr ⟨B, h1, h2, h3, h4.congr hfg⟩
set_option maxRecDepth 10000 in
set_option maxHeartbeats 4000000 in
theorem ccomp_none (a b : Nat → Int) (w : World) (oka : okZ a = true) (okb : okZ b = true) (hc : closeM (4 : Nat) (4 * 4) (jF a b) = errM 6) : Calls Try.prog 18 #[zoneV a, zoneV b] w (Gives w (zoneR (fun _ => 0) 6)) := by
  have CA : Hid (∀ w, Calls Try.prog 45 #[.agg #[.int .i64 (a 0), .int .i64 (a 1), .int .i64 (a 2), .int .i64 (a 3), .int .i64 (a 4), .int .i64 (a 5)]] w (Gives w (.int .i64 0))) := fun w => by
    have := zcheck_any a w (okZ_fits oka)
    rw [oka] at this; exact this
  have CB : Hid (∀ w, Calls Try.prog 45 #[.agg #[.int .i64 (b 0), .int .i64 (b 1), .int .i64 (b 2), .int .i64 (b 3), .int .i64 (b 4), .int .i64 (b 5)]] w (Gives w (.int .i64 0))) := fun w => by
    have := zcheck_any b w (okZ_fits okb)
    rw [okb] at this; exact this
  have TP : Hid (∀ w, Calls Try.prog 50 #[.int .i64 4] w (topPost w 4)) := fun w => top_ok 4 w (by omega) (by omega)
  have PA : Hid (∀ (D B c4 : Nat) (f : Nat → Int) (w : World), D < w.heap.size → B < w.heap.size → D ≠ B → w.cell? ⟨D, 1, none⟩ = some (.slice (some ⟨B, 0, none⟩) 16 c4) → HoldsI w B 16 f → Calls Try.prog 59 #[.agg #[.int .i64 (a 0), .int .i64 (a 1), .int .i64 (a 2), .int .i64 (a 3), .int .i64 (a 4), .int .i64 (a 5)], .agg #[.int .i64 0, .int .i64 1, .int .i64 2], .pointer (some ⟨D, 0, none⟩)] w (fun e W => e = .returned (.tuple #[]) ∧ Chg w B W ∧ HoldsI W B 16 (putF f a (sel 0 1 2) 9))) := fun D B c4 f w h1 h2 h3 h4 h5 => cput_any a 0 1 2 (by omega) (by omega) (by omega) D B c4 f w oka h1 h2 h3 h4 h5
  have PB : Hid (∀ (D B c4 : Nat) (f : Nat → Int) (w : World), D < w.heap.size → B < w.heap.size → D ≠ B → w.cell? ⟨D, 1, none⟩ = some (.slice (some ⟨B, 0, none⟩) 16 c4) → HoldsI w B 16 f → Calls Try.prog 59 #[.agg #[.int .i64 (b 0), .int .i64 (b 1), .int .i64 (b 2), .int .i64 (b 3), .int .i64 (b 4), .int .i64 (b 5)], .agg #[.int .i64 0, .int .i64 2, .int .i64 3], .pointer (some ⟨D, 0, none⟩)] w (fun e W => e = .returned (.tuple #[]) ∧ Chg w B W ∧ HoldsI W B 16 (putF f b (sel 0 2 3) 9))) := fun D B c4 f w h1 h2 h3 h4 h5 => cput_any b 0 2 3 (by omega) (by omega) (by omega) D B c4 f w okb h1 h2 h3 h4 h5
  have HJ : Hid (∀ W B, HoldsI W B 16 (putF (putF (topF 4) a (sel 0 1 2) 9) b (sel 0 2 3) 9) → HoldsI W B 16 (jF a b)) := fun W B h => h.congr (putF_j oka okb)
  have okj := jF_ok oka okb
  have DR0 : ∀ (p : Option Addr) (cap : Nat) (w : World), SlP w p 16 (jF a b) → Calls Try.prog 52 #[.agg #[.int .i64 4, .slice p 16 cap], .int .i64 2] w (matC w (dropM 4 2 (jF a b)).n (dropM 4 2 (jF a b)).N (dropM 4 2 (jF a b)).f (dropM 4 2 (jF a b)).e) := fun p cap w hS => pdrop_any 4 2 16 p cap (jF a b) w rfl (by omega) (by omega) (by omega) okj hS
  have hD : dropM 4 2 (jF a b) = errM 6 := by
    unfold dropM
    rw [show closeM ((4 : Nat) : Int) (4 * 4) (jF a b) = errM 6 from hc]; rfl
  rw [hD] at DR0
  have DR : Hid (∀ (p : Option Addr) (cap : Nat) (w : World), SlP w p 16 (jF a b) → Calls Try.prog 52 #[.agg #[.int .i64 4, .slice p 16 cap], .int .i64 2] w (matC w 0 0 (fun _ => 0) 6)) := DR0
  clear DR0 hD hc okj oka okb
  unfold zoneR zoneV
  go_enter Try.func18, Try.ntmps18
  go_wp2_with (fail)
  refine (CA.out _).mono ?_; rintro e w' ⟨rfl, q1, rfl⟩
  go_wp2_with (fail)
  refine (CB.out _).mono ?_; rintro e w' ⟨rfl, q2, rfl⟩
  go_wp2_with (fail)
  refine calls_world (fun V => Below w.heap.size w V ∧ BoxZ V w.heap.size a ∧ BoxZ V (w.heap.size + 1) b ∧ HoldsA V (w.heap.size + 2) 6 (fun _ => 0)) ⟨by (repeat' (first | (with_reducible assumption) | (with_reducible exact Below.refl _ _) | (with_reducible refine below_wov ?_ ?_ _) | (with_reducible refine below_drewN ?_ _) | (with_reducible refine Below.drew ?_) | (with_reducible refine Below.alloc ?_ ?_ _) | (with_reducible refine Below.setCell ?_ ?_ _) | (with_reducible exact Nat.le_refl _) | omega | (simp only [World.size_alloc, World.size_setCell, World.size_drew, Wov_size, World.heap_drewN]; omega))), (BoxZ.new (W := w) (t := 24) rfl).below (by (repeat' (first | (with_reducible assumption) | (with_reducible exact Below.refl _ _) | (with_reducible refine below_wov ?_ ?_ _) | (with_reducible refine below_drewN ?_ _) | (with_reducible refine Below.drew ?_) | (with_reducible refine Below.alloc ?_ ?_ _) | (with_reducible refine Below.setCell ?_ ?_ _) | (with_reducible exact Nat.le_refl _) | omega | (simp only [World.size_alloc, World.size_setCell, World.size_drew, Wov_size, World.heap_drewN]; omega)))), ?b1, ?b2⟩ ?_
  case b1 => exact (BoxZ.new (W := World.alloc w (.cells #[.int .i64 (a 0), .int .i64 (a 1), .int .i64 (a 2), .int .i64 (a 3), .int .i64 (a 4), .int .i64 (a 5)] 24)) (z := b) (t := 24) (by simp)).below (by (repeat' (first | (with_reducible assumption) | (with_reducible exact Below.refl _ _) | (with_reducible refine below_wov ?_ ?_ _) | (with_reducible refine below_drewN ?_ _) | (with_reducible refine Below.drew ?_) | (with_reducible refine Below.alloc ?_ ?_ _) | (with_reducible refine Below.setCell ?_ ?_ _) | (with_reducible exact Nat.le_refl _) | omega | (simp only [World.size_alloc, World.size_setCell, World.size_drew, Wov_size, World.heap_drewN]; omega))))
  case b2 => exact (zero_six (W := World.alloc (World.alloc w (.cells #[.int .i64 (a 0), .int .i64 (a 1), .int .i64 (a 2), .int .i64 (a 3), .int .i64 (a 4), .int .i64 (a 5)] 24)) (.cells #[.int .i64 (b 0), .int .i64 (b 1), .int .i64 (b 2), .int .i64 (b 3), .int .i64 (b 4), .int .i64 (b 5)] 24)) (t := 24) (by simp)).below (by (repeat' (first | (with_reducible assumption) | (with_reducible exact Below.refl _ _) | (with_reducible refine below_wov ?_ ?_ _) | (with_reducible refine below_drewN ?_ _) | (with_reducible refine Below.drew ?_) | (with_reducible refine Below.alloc ?_ ?_ _) | (with_reducible refine Below.setCell ?_ ?_ _) | (with_reducible exact Nat.le_refl _) | omega | (simp only [World.size_alloc, World.size_setCell, World.size_drew, Wov_size, World.heap_drewN]; omega))))
  rintro V ⟨hbV, za, zb, zr⟩
  have hsV := hbV.size
  have lr := zr.lt
  refine (TP.out V).mono ?_; rintro e w' ⟨B, cp, rfl, hA, hB, hH, q3, rfl⟩
  simp only [Wov_size] at hB
  clear TP CA CB
  have a0 := za.c0
  have a1 := za.c1
  have a2 := za.c2
  have a3 := za.c3
  have a4 := za.c4
  have a5 := za.c5
  go_wp2_with (fail)
  obtain ⟨D, hD⟩ : ∃ D, V.heap.size + q3.bl.size = D := ⟨_, rfl⟩
  rw [hD]
  refine calls_world (fun W => Below w.heap.size w W ∧ BoxZ W (w.heap.size + 1) b ∧ HoldsA W (w.heap.size + 2) 6 (fun _ => 0) ∧ D < W.heap.size ∧ w.heap.size + 2 < B ∧ B < D ∧ W.cell? ⟨D, 0, none⟩ = some (.int .i64 4) ∧ W.cell? ⟨D, 1, none⟩ = some (.slice (some ⟨B, 0, none⟩) 16 cp) ∧ HoldsI W B 16 (topF 4)) ⟨by (repeat' (first | (with_reducible assumption) | (with_reducible exact Below.refl _ _) | (with_reducible refine below_wov ?_ ?_ _) | (with_reducible refine below_drewN ?_ _) | (with_reducible refine Below.drew ?_) | (with_reducible refine Below.alloc ?_ ?_ _) | (with_reducible refine Below.setCell ?_ ?_ _) | (with_reducible exact Nat.le_refl _) | omega | (simp only [World.size_alloc, World.size_setCell, World.size_drew, Wov_size, World.heap_drewN]; omega))), zb.below (by (repeat' (first | (with_reducible assumption) | (with_reducible exact Below.refl _ _) | (with_reducible refine below_wov ?_ ?_ _) | (with_reducible refine below_drewN ?_ _) | (with_reducible refine Below.drew ?_) | (with_reducible refine Below.alloc ?_ ?_ _) | (with_reducible refine Below.setCell ?_ ?_ _) | (with_reducible exact Nat.le_refl _) | omega | (simp only [World.size_alloc, World.size_setCell, World.size_drew, Wov_size, World.heap_drewN]; omega)))), zr.below (by (repeat' (first | (with_reducible assumption) | (with_reducible exact Below.refl _ _) | (with_reducible refine below_wov ?_ ?_ _) | (with_reducible refine below_drewN ?_ _) | (with_reducible refine Below.drew ?_) | (with_reducible refine Below.alloc ?_ ?_ _) | (with_reducible refine Below.setCell ?_ ?_ _) | (with_reducible exact Nat.le_refl _) | omega | (simp only [World.size_alloc, World.size_setCell, World.size_drew, Wov_size, World.heap_drewN]; omega)))), by rw [← hD]; (first | omega | ((simp only [World.size_alloc, World.size_setCell, World.size_drew, Wov_size, World.heap_drewN, Array.size_append]) <;> omega)), by omega, by omega, by rw [← hD]; simp [go_sem], by rw [← hD]; simp [go_sem], ?b3⟩ ?_
  case b3 => exact hH.below ((Below.refl _ _).alloc (Nat.le_refl _) _) (by rw [Wov_size]; omega)
  rintro W ⟨hbW, zb1, zr1, lD, lB, lBD, d0, d1, hH1⟩
  clear a0 a1 a2 a3 a4 a5 za zb zr hbV hsV lr hA hB hH hD
  have hsW := hbW.size
  refine (PA.out D B cp (topF 4) W lD (by omega) (by omega) d1 hH1).mono ?_; rintro e w' ⟨rfl, hc1, hH2⟩
  have hs1 := hc1.size
  have bW1 := hbW.trans (hc1.belowAt (by omega) (by omega))
  have zb2 := zb1.chg hc1 (by omega)
  have zr2 := holdsA_chg zr1 hc1 (by omega)
  have e0 := (hc1.cell (x := 0) lD (by omega)).trans d0
  have e1 := (hc1.cell (x := 1) lD (by omega)).trans d1
  have b0 := zb2.c0
  have b1 := zb2.c1
  have b2 := zb2.c2
  have b3 := zb2.c3
  have b4 := zb2.c4
  have b5 := zb2.c5
  clear zb1 zr1 d0 d1 hH1 hbW PA hc1
  go_wp2_with (fail)
  refine (PB.out D B cp _ w' (by omega) (by omega) (by omega) e1 hH2).mono ?_; rintro e w2 ⟨rfl, hc2, hH3⟩
  have hs2 := hc2.size
  have bW2 := bW1.trans (hc2.belowAt (by omega) (by omega))
  have zr3 := holdsA_chg zr2 hc2 (by omega)
  have g0 := (hc2.cell (x := 0) (b := D) (by omega) (by omega)).trans e0
  have g1 := (hc2.cell (x := 1) (b := D) (by omega) (by omega)).trans e1
  have hJ := HJ.out _ _ hH3
  have tJ := slp_of hJ (by omega)
  clear zb2 zr2 e0 e1 b0 b1 b2 b3 b4 b5 hH2 hH3 bW1 PB HJ hc2 hJ
  go_wp2_with (fail)
  refine (DR.out _ cp w2 tJ).mono ?_; rintro e w3 ⟨⟨p3, c3, rfl, ho⟩, q4, rfl⟩
  clear ho tJ DR g0 g1
  have r0 := (zr3.holds 0 (by omega)).1
  have r1 := (zr3.holds 1 (by omega)).1
  have r2 := (zr3.holds 2 (by omega)).1
  have r3 := (zr3.holds 3 (by omega)).1
  have r4 := (zr3.holds 4 (by omega)).1
  have r5 := (zr3.holds 5 (by omega)).1
  have n0 := (zr3.holds 0 (by omega)).2
  have n1 := (zr3.holds 1 (by omega)).2
  have n2 := (zr3.holds 2 (by omega)).2
  have n3 := (zr3.holds 3 (by omega)).2
  have n4 := (zr3.holds 4 (by omega)).2
  have n5 := (zr3.holds 5 (by omega)).2
  have lr3 := zr3.lt
  clear zr3
  ((try dsimp only); repeat (first | go_values | go_skip | go_guarded | go_step | go_upon))
  refine bodyPost_ret (by simp [results, Try.results18, go_sem, r0, r1, r2, r3, r4, r5, lr3]; try rfl) rfl ?_
  exact gives_end rfl (by (repeat' (first | (with_reducible assumption) | (with_reducible exact Below.refl _ _) | (with_reducible refine below_wov ?_ ?_ _) | (with_reducible refine below_drewN ?_ _) | (with_reducible refine Below.drew ?_) | (with_reducible refine Below.alloc ?_ ?_ _) | (with_reducible refine Below.setCell ?_ ?_ _) | (with_reducible exact Nat.le_refl _) | omega | (simp only [World.size_alloc, World.size_setCell, World.size_drew, Wov_size, World.heap_drewN]; omega))))
set_option maxRecDepth 10000 in
set_option maxHeartbeats 4000000 in
theorem ccomp_any (a b : Nat → Int) (w : World) (fa : FitsZ a) (fb : FitsZ b) : Calls Try.prog 18 #[zoneV a, zoneV b] w (Gives w (zoneR (compZ a b).1 (compZ a b).2)) := by
  have CA : Hid (∀ w, Calls Try.prog 45 #[.agg #[.int .i64 (a 0), .int .i64 (a 1), .int .i64 (a 2), .int .i64 (a 3), .int .i64 (a 4), .int .i64 (a 5)]] w (Gives w (.int .i64 (rcode (okZ a))))) := fun w => zcheck_any a w fa
  have CB : Hid (∀ w, Calls Try.prog 45 #[.agg #[.int .i64 (b 0), .int .i64 (b 1), .int .i64 (b 2), .int .i64 (b 3), .int .i64 (b 4), .int .i64 (b 5)]] w (Gives w (.int .i64 (rcode (okZ b))))) := fun w => zcheck_any b w fb
  cases oka : okZ a
  · rw [comp_bad (by rw [oka]; rfl)]
    rw [oka] at CA
    simp only [rcode_f] at CA
    clear oka fa fb CB
    unfold zoneR zoneV
    go_enter Try.func18, Try.ntmps18
    go_wp2_with (fail)
    refine (CA.out _).mono ?_; rintro e w' ⟨rfl, q1, rfl⟩
    go_wp2
    go_returns
    exact gives_end rfl (by (repeat' (first | (with_reducible assumption) | (with_reducible exact Below.refl _ _) | (with_reducible refine below_wov ?_ ?_ _) | (with_reducible refine below_drewN ?_ _) | (with_reducible refine Below.drew ?_) | (with_reducible refine Below.alloc ?_ ?_ _) | (with_reducible refine Below.setCell ?_ ?_ _) | (with_reducible exact Nat.le_refl _) | omega | (simp only [World.size_alloc, World.size_setCell, World.size_drew, Wov_size, World.heap_drewN]; omega))))
  · cases okb : okZ b
    · rw [comp_bad (by rw [oka, okb]; rfl)]
      rw [oka] at CA
      rw [okb] at CB
      simp only [rcode_f, rcode_t] at CA CB
      clear oka okb fa fb
      unfold zoneR zoneV
      go_enter Try.func18, Try.ntmps18
      go_wp2_with (fail)
      refine (CA.out _).mono ?_; rintro e w' ⟨rfl, q1, rfl⟩
      go_wp2_with (fail)
      refine (CB.out _).mono ?_; rintro e w' ⟨rfl, q2, rfl⟩
      go_wp2
      go_returns
      exact gives_end rfl (by (repeat' (first | (with_reducible assumption) | (with_reducible exact Below.refl _ _) | (with_reducible refine below_wov ?_ ?_ _) | (with_reducible refine below_drewN ?_ _) | (with_reducible refine Below.drew ?_) | (with_reducible refine Below.alloc ?_ ?_ _) | (with_reducible refine Below.setCell ?_ ?_ _) | (with_reducible exact Nat.le_refl _) | omega | (simp only [World.size_alloc, World.size_setCell, World.size_drew, Wov_size, World.heap_drewN]; omega))))
    · rw [oka] at CA
      rw [okb] at CB
      simp only [rcode_t] at CA CB
      have TP : Hid (∀ w, Calls Try.prog 50 #[.int .i64 4] w (topPost w 4)) := fun w => top_ok 4 w (by omega) (by omega)
      have PA : Hid (∀ (D B c4 : Nat) (f : Nat → Int) (w : World), D < w.heap.size → B < w.heap.size → D ≠ B → w.cell? ⟨D, 1, none⟩ = some (.slice (some ⟨B, 0, none⟩) 16 c4) → HoldsI w B 16 f → Calls Try.prog 59 #[.agg #[.int .i64 (a 0), .int .i64 (a 1), .int .i64 (a 2), .int .i64 (a 3), .int .i64 (a 4), .int .i64 (a 5)], .agg #[.int .i64 0, .int .i64 1, .int .i64 2], .pointer (some ⟨D, 0, none⟩)] w (fun e W => e = .returned (.tuple #[]) ∧ Chg w B W ∧ HoldsI W B 16 (putF f a (sel 0 1 2) 9))) := fun D B c4 f w h1 h2 h3 h4 h5 => cput_any a 0 1 2 (by omega) (by omega) (by omega) D B c4 f w oka h1 h2 h3 h4 h5
      have PB : Hid (∀ (D B c4 : Nat) (f : Nat → Int) (w : World), D < w.heap.size → B < w.heap.size → D ≠ B → w.cell? ⟨D, 1, none⟩ = some (.slice (some ⟨B, 0, none⟩) 16 c4) → HoldsI w B 16 f → Calls Try.prog 59 #[.agg #[.int .i64 (b 0), .int .i64 (b 1), .int .i64 (b 2), .int .i64 (b 3), .int .i64 (b 4), .int .i64 (b 5)], .agg #[.int .i64 0, .int .i64 2, .int .i64 3], .pointer (some ⟨D, 0, none⟩)] w (fun e W => e = .returned (.tuple #[]) ∧ Chg w B W ∧ HoldsI W B 16 (putF f b (sel 0 2 3) 9))) := fun D B c4 f w h1 h2 h3 h4 h5 => cput_any b 0 2 3 (by omega) (by omega) (by omega) D B c4 f w okb h1 h2 h3 h4 h5
      have HJ : Hid (∀ W B, HoldsI W B 16 (putF (putF (topF 4) a (sel 0 1 2) 9) b (sel 0 2 3) 9) → HoldsI W B 16 (jF a b)) := fun W B h => h.congr (putF_j oka okb)
      have okj := jF_ok oka okb
      have DR0 : ∀ (p : Option Addr) (cap : Nat) (w : World), SlP w p 16 (jF a b) → Calls Try.prog 52 #[.agg #[.int .i64 4, .slice p 16 cap], .int .i64 2] w (matC w (dropM 4 2 (jF a b)).n (dropM 4 2 (jF a b)).N (dropM 4 2 (jF a b)).f (dropM 4 2 (jF a b)).e) := fun p cap w hS => pdrop_any 4 2 16 p cap (jF a b) w rfl (by omega) (by omega) (by omega) okj hS
      have hcz : compZ a b = if (closeM 4 16 (jF a b)).e = 0 then ofZ 3 9 (dropF (closeM 4 16 (jF a b)).f) else (fun _ => 0, 6) := by unfold compZ; rw [oka, okb]; rfl
      rw [hcz]
      rcases closeM_cases okj with ⟨c, hc, K⟩ | ⟨hc, _⟩
      · have hc' : closeM 4 16 (jF a b) = ⟨4, 16, c, 0⟩ := hc
        have hD : dropM 4 2 (jF a b) = ⟨3, 9, fromG 4 3 (skip 2) c, 0⟩ := by
          unfold dropM
          rw [show closeM ((4 : Nat) : Int) (4 * 4) (jF a b) = ⟨4, 16, c, 0⟩ from hc]; rfl
        rw [hc']
        rw [hD] at DR0
        have DR : Hid (∀ (p : Option Addr) (cap : Nat) (w : World), SlP w p 16 (jF a b) → Calls Try.prog 52 #[.agg #[.int .i64 4, .slice p 16 cap], .int .i64 2] w (matC w 3 9 (dropF c) 0)) := fun p cap w hS => (DR0 p cap w hS).mono fun _ _ h => h.congr (fromG_drop c)
        show Calls _ _ _ _ (Gives w (zoneR (ofZ 3 9 (dropF c)).1 (ofZ 3 9 (dropF c)).2))
        have hF : Fits 9 (dropF c) := dropF_fits (closedI_fits K)
        have OF : Hid (∀ (p : Option Addr) (cap : Nat) (w : World), SlP w p 9 (dropF c) → Calls Try.prog 33 #[.agg #[.int .i64 3, .slice p 9 cap]] w (Gives w (zoneR (ofZ 3 9 (dropF c)).1 (ofZ 3 9 (dropF c)).2))) := fun p cap w hS => zof_any 3 p 9 cap _ w (by decide) hS hF (by omega)
        obtain ⟨⟨r, e⟩, hr⟩ : ∃ r, r = ofZ 3 9 (dropF c) := ⟨_, rfl⟩
        rw [← hr] at OF ⊢
        clear DR0 hD hc hc' hcz K okj oka okb fa fb hr hF
        unfold zoneR zoneV at OF ⊢
        go_enter Try.func18, Try.ntmps18
        go_wp2_with (fail)
        refine (CA.out _).mono ?_; rintro e w' ⟨rfl, q1, rfl⟩
        go_wp2_with (fail)
        refine (CB.out _).mono ?_; rintro e w' ⟨rfl, q2, rfl⟩
        go_wp2_with (fail)
        refine calls_world (fun V => Below w.heap.size w V ∧ BoxZ V w.heap.size a ∧ BoxZ V (w.heap.size + 1) b ∧ HoldsA V (w.heap.size + 2) 6 (fun _ => 0)) ⟨by (repeat' (first | (with_reducible assumption) | (with_reducible exact Below.refl _ _) | (with_reducible refine below_wov ?_ ?_ _) | (with_reducible refine below_drewN ?_ _) | (with_reducible refine Below.drew ?_) | (with_reducible refine Below.alloc ?_ ?_ _) | (with_reducible refine Below.setCell ?_ ?_ _) | (with_reducible exact Nat.le_refl _) | omega | (simp only [World.size_alloc, World.size_setCell, World.size_drew, Wov_size, World.heap_drewN]; omega))), (BoxZ.new (W := w) (t := 24) rfl).below (by (repeat' (first | (with_reducible assumption) | (with_reducible exact Below.refl _ _) | (with_reducible refine below_wov ?_ ?_ _) | (with_reducible refine below_drewN ?_ _) | (with_reducible refine Below.drew ?_) | (with_reducible refine Below.alloc ?_ ?_ _) | (with_reducible refine Below.setCell ?_ ?_ _) | (with_reducible exact Nat.le_refl _) | omega | (simp only [World.size_alloc, World.size_setCell, World.size_drew, Wov_size, World.heap_drewN]; omega)))), ?b1, ?b2⟩ ?_
        case b1 => exact (BoxZ.new (W := World.alloc w (.cells #[.int .i64 (a 0), .int .i64 (a 1), .int .i64 (a 2), .int .i64 (a 3), .int .i64 (a 4), .int .i64 (a 5)] 24)) (z := b) (t := 24) (by simp)).below (by (repeat' (first | (with_reducible assumption) | (with_reducible exact Below.refl _ _) | (with_reducible refine below_wov ?_ ?_ _) | (with_reducible refine below_drewN ?_ _) | (with_reducible refine Below.drew ?_) | (with_reducible refine Below.alloc ?_ ?_ _) | (with_reducible refine Below.setCell ?_ ?_ _) | (with_reducible exact Nat.le_refl _) | omega | (simp only [World.size_alloc, World.size_setCell, World.size_drew, Wov_size, World.heap_drewN]; omega))))
        case b2 => exact (zero_six (W := World.alloc (World.alloc w (.cells #[.int .i64 (a 0), .int .i64 (a 1), .int .i64 (a 2), .int .i64 (a 3), .int .i64 (a 4), .int .i64 (a 5)] 24)) (.cells #[.int .i64 (b 0), .int .i64 (b 1), .int .i64 (b 2), .int .i64 (b 3), .int .i64 (b 4), .int .i64 (b 5)] 24)) (t := 24) (by simp)).below (by (repeat' (first | (with_reducible assumption) | (with_reducible exact Below.refl _ _) | (with_reducible refine below_wov ?_ ?_ _) | (with_reducible refine below_drewN ?_ _) | (with_reducible refine Below.drew ?_) | (with_reducible refine Below.alloc ?_ ?_ _) | (with_reducible refine Below.setCell ?_ ?_ _) | (with_reducible exact Nat.le_refl _) | omega | (simp only [World.size_alloc, World.size_setCell, World.size_drew, Wov_size, World.heap_drewN]; omega))))
        rintro V ⟨hbV, za, zb, zr⟩
        have hsV := hbV.size
        have lr := zr.lt
        refine (TP.out V).mono ?_; rintro e w' ⟨B, cp, rfl, hA, hB, hH, q3, rfl⟩
        simp only [Wov_size] at hB
        clear TP CA CB
        have a0 := za.c0
        have a1 := za.c1
        have a2 := za.c2
        have a3 := za.c3
        have a4 := za.c4
        have a5 := za.c5
        go_wp2_with (fail)
        obtain ⟨D, hD⟩ : ∃ D, V.heap.size + q3.bl.size = D := ⟨_, rfl⟩
        rw [hD]
        refine calls_world (fun W => Below w.heap.size w W ∧ BoxZ W (w.heap.size + 1) b ∧ HoldsA W (w.heap.size + 2) 6 (fun _ => 0) ∧ D < W.heap.size ∧ w.heap.size + 2 < B ∧ B < D ∧ W.cell? ⟨D, 0, none⟩ = some (.int .i64 4) ∧ W.cell? ⟨D, 1, none⟩ = some (.slice (some ⟨B, 0, none⟩) 16 cp) ∧ HoldsI W B 16 (topF 4)) ⟨by (repeat' (first | (with_reducible assumption) | (with_reducible exact Below.refl _ _) | (with_reducible refine below_wov ?_ ?_ _) | (with_reducible refine below_drewN ?_ _) | (with_reducible refine Below.drew ?_) | (with_reducible refine Below.alloc ?_ ?_ _) | (with_reducible refine Below.setCell ?_ ?_ _) | (with_reducible exact Nat.le_refl _) | omega | (simp only [World.size_alloc, World.size_setCell, World.size_drew, Wov_size, World.heap_drewN]; omega))), zb.below (by (repeat' (first | (with_reducible assumption) | (with_reducible exact Below.refl _ _) | (with_reducible refine below_wov ?_ ?_ _) | (with_reducible refine below_drewN ?_ _) | (with_reducible refine Below.drew ?_) | (with_reducible refine Below.alloc ?_ ?_ _) | (with_reducible refine Below.setCell ?_ ?_ _) | (with_reducible exact Nat.le_refl _) | omega | (simp only [World.size_alloc, World.size_setCell, World.size_drew, Wov_size, World.heap_drewN]; omega)))), zr.below (by (repeat' (first | (with_reducible assumption) | (with_reducible exact Below.refl _ _) | (with_reducible refine below_wov ?_ ?_ _) | (with_reducible refine below_drewN ?_ _) | (with_reducible refine Below.drew ?_) | (with_reducible refine Below.alloc ?_ ?_ _) | (with_reducible refine Below.setCell ?_ ?_ _) | (with_reducible exact Nat.le_refl _) | omega | (simp only [World.size_alloc, World.size_setCell, World.size_drew, Wov_size, World.heap_drewN]; omega)))), by rw [← hD]; (first | omega | ((simp only [World.size_alloc, World.size_setCell, World.size_drew, Wov_size, World.heap_drewN, Array.size_append]) <;> omega)), by omega, by omega, by rw [← hD]; simp [go_sem], by rw [← hD]; simp [go_sem], ?b3⟩ ?_
        case b3 => exact hH.below ((Below.refl _ _).alloc (Nat.le_refl _) _) (by rw [Wov_size]; omega)
        rintro W ⟨hbW, zb1, zr1, lD, lB, lBD, d0, d1, hH1⟩
        clear a0 a1 a2 a3 a4 a5 za zb zr hbV hsV lr hA hB hH hD
        have hsW := hbW.size
        refine (PA.out D B cp (topF 4) W lD (by omega) (by omega) d1 hH1).mono ?_; rintro e w' ⟨rfl, hc1, hH2⟩
        have hs1 := hc1.size
        have bW1 := hbW.trans (hc1.belowAt (by omega) (by omega))
        have zb2 := zb1.chg hc1 (by omega)
        have zr2 := holdsA_chg zr1 hc1 (by omega)
        have e0 := (hc1.cell (x := 0) lD (by omega)).trans d0
        have e1 := (hc1.cell (x := 1) lD (by omega)).trans d1
        have b0 := zb2.c0
        have b1 := zb2.c1
        have b2 := zb2.c2
        have b3 := zb2.c3
        have b4 := zb2.c4
        have b5 := zb2.c5
        clear zb1 zr1 d0 d1 hH1 hbW PA hc1
        go_wp2_with (fail)
        refine (PB.out D B cp _ w' (by omega) (by omega) (by omega) e1 hH2).mono ?_; rintro e w2 ⟨rfl, hc2, hH3⟩
        have hs2 := hc2.size
        have bW2 := bW1.trans (hc2.belowAt (by omega) (by omega))
        have zr3 := holdsA_chg zr2 hc2 (by omega)
        have g0 := (hc2.cell (x := 0) (b := D) (by omega) (by omega)).trans e0
        have g1 := (hc2.cell (x := 1) (b := D) (by omega) (by omega)).trans e1
        have hJ := HJ.out _ _ hH3
        have tJ := slp_of hJ (by omega)
        clear zb2 zr2 e0 e1 b0 b1 b2 b3 b4 b5 hH2 hH3 bW1 PB HJ hc2 hJ
        go_wp2_with (fail)
        refine (DR.out _ cp w2 tJ).mono ?_; rintro e w3 ⟨⟨p3, c3, rfl, ho⟩, q4, rfl⟩
        have t3 := ho.slp
        clear ho tJ DR g0 g1
        go_wp2_with (fail)
        refine calls_world (fun V => Below w.heap.size w V ∧ HoldsA V (w.heap.size + 2) 6 (fun _ => 0) ∧ SlP V p3 9 (dropF c)) ⟨by (repeat' (first | (with_reducible assumption) | (with_reducible exact Below.refl _ _) | (with_reducible refine below_wov ?_ ?_ _) | (with_reducible refine below_drewN ?_ _) | (with_reducible refine Below.drew ?_) | (with_reducible refine Below.alloc ?_ ?_ _) | (with_reducible refine Below.setCell ?_ ?_ _) | (with_reducible exact Nat.le_refl _) | omega | (simp only [World.size_alloc, World.size_setCell, World.size_drew, Wov_size, World.heap_drewN]; omega))), zr3.below (by (repeat' (first | (with_reducible assumption) | (with_reducible exact Below.refl _ _) | (with_reducible refine below_wov ?_ ?_ _) | (with_reducible refine below_drewN ?_ _) | (with_reducible refine Below.drew ?_) | (with_reducible refine Below.alloc ?_ ?_ _) | (with_reducible refine Below.setCell ?_ ?_ _) | (with_reducible exact Nat.le_refl _) | omega | (simp only [World.size_alloc, World.size_setCell, World.size_drew, Wov_size, World.heap_drewN]; omega)))), t3.below (by (repeat' (first | (with_reducible assumption) | (with_reducible exact Below.refl _ _) | (with_reducible refine below_wov ?_ ?_ _) | (with_reducible refine below_drewN ?_ _) | (with_reducible refine Below.drew ?_) | (with_reducible refine Below.alloc ?_ ?_ _) | (with_reducible refine Below.setCell ?_ ?_ _) | (with_reducible exact Nat.le_refl _) | omega | (simp only [World.size_alloc, World.size_setCell, World.size_drew, Wov_size, World.heap_drewN]; omega))))⟩ ?_
        rintro V3 ⟨hb3, z3, t4⟩
        have hs3 := hb3.size
        refine (OF.out p3 c3 V3 t4).mono ?_; rintro e w4 ⟨rfl, q5, rfl⟩
        have r0 := (z3.holds 0 (by omega)).1
        have r1 := (z3.holds 1 (by omega)).1
        have r2 := (z3.holds 2 (by omega)).1
        have r3 := (z3.holds 3 (by omega)).1
        have r4 := (z3.holds 4 (by omega)).1
        have r5 := (z3.holds 5 (by omega)).1
        have n0 := (z3.holds 0 (by omega)).2
        have n1 := (z3.holds 1 (by omega)).2
        have n2 := (z3.holds 2 (by omega)).2
        have n3 := (z3.holds 3 (by omega)).2
        have n4 := (z3.holds 4 (by omega)).2
        have n5 := (z3.holds 5 (by omega)).2
        have lr3 := z3.lt
        clear z3 t4 OF t3 zr3
        go_wp2
        refine bodyPost_ret (by simp [results, Try.results18, go_sem, r0, r1, r2, r3, r4, r5, lr3]; try rfl) rfl ?_
        exact gives_end rfl (by (repeat' (first | (with_reducible assumption) | (with_reducible exact Below.refl _ _) | (with_reducible refine below_wov ?_ ?_ _) | (with_reducible refine below_drewN ?_ _) | (with_reducible refine Below.drew ?_) | (with_reducible refine Below.alloc ?_ ?_ _) | (with_reducible refine Below.setCell ?_ ?_ _) | (with_reducible exact Nat.le_refl _) | omega | (simp only [World.size_alloc, World.size_setCell, World.size_drew, Wov_size, World.heap_drewN]; omega))))
      · rw [show closeM 4 16 (jF a b) = errM 6 from hc]
        exact ccomp_none a b w oka okb hc
end Go.Proofs.Ytbgbhfcnadjhdaa
