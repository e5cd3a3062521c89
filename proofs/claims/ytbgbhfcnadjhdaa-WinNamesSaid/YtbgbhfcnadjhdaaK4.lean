/- Contracts of win.fits, win.Within, win.Window and win.Shift. No condition. -/
import Derived.Test.YtbgbhfcnadjhdaaK2
import Derived.Test.YtbgbhfcnadjhdaaK3
import Derived.Test.YtbgbhfcnadjhdaaH9
namespace Go.Proofs.Ytbgbhfcnadjhdaa
set_option linter.unusedSimpArgs false
set_option linter.unusedVariables false
open Go Go.RowKit Go.Shelf
attribute [local go_sem] Nat.add_assoc Nat.add_lt_add_iff_left lit_lt_add
set_option maxHeartbeats 400000 in
theorem wfits_any (n : Int) : Pure Try.prog 67 #[.int .i64 n] (.bool (fitsW n)) := by
  intro w
  by_cases h1 : -288230376151711744 ≤ n
  · by_cases h2 : n ≤ 288230376151711744
    · have e : Hid (fitsW n = true) := by show _ = _; simp [fitsW, h1, h2]
      go_enter Try.func67, Try.ntmps67
      go_wp2
      go_ret
      exact gives_bool (by rw [e.out]) (by (repeat' (first | (with_reducible assumption) | (with_reducible exact Below.refl _ _) | (with_reducible refine below_wov ?_ ?_ _) | (with_reducible refine below_drewN ?_ _) | (with_reducible refine Below.drew ?_) | (with_reducible refine Below.alloc ?_ ?_ _) | (with_reducible refine Below.setCell ?_ ?_ _) | (with_reducible exact Nat.le_refl _) | omega | (simp only [World.size_alloc, World.size_setCell, World.size_drew, Wov_size, World.heap_drewN]; omega))))
    · have e : Hid (fitsW n = false) := by show _ = _; simp [fitsW, h2]
      go_enter Try.func67, Try.ntmps67
      go_wp2
      go_ret
      exact gives_bool (by rw [e.out]) (by (repeat' (first | (with_reducible assumption) | (with_reducible exact Below.refl _ _) | (with_reducible refine below_wov ?_ ?_ _) | (with_reducible refine below_drewN ?_ _) | (with_reducible refine Below.drew ?_) | (with_reducible refine Below.alloc ?_ ?_ _) | (with_reducible refine Below.setCell ?_ ?_ _) | (with_reducible exact Nat.le_refl _) | omega | (simp only [World.size_alloc, World.size_setCell, World.size_drew, Wov_size, World.heap_drewN]; omega))))
  · have e : Hid (fitsW n = false) := by show _ = _; simp [fitsW, h1]
    have h3 : decide (-288230376151711744 ≤ n) = false := decide_eq_false h1
    go_enter Try.func67, Try.ntmps67
    go_wp2
    go_ret
    exact gives_bool (by rw [e.out]) (by (repeat' (first | (with_reducible assumption) | (with_reducible exact Below.refl _ _) | (with_reducible refine below_wov ?_ ?_ _) | (with_reducible refine below_drewN ?_ _) | (with_reducible refine Below.drew ?_) | (with_reducible refine Below.alloc ?_ ?_ _) | (with_reducible refine Below.setCell ?_ ?_ _) | (with_reducible exact Nat.le_refl _) | omega | (simp only [World.size_alloc, World.size_setCell, World.size_drew, Wov_size, World.heap_drewN]; omega))))
theorem fold_W2 (z : Nat → Int) (t s : Nat) (b c : Int) : foldZ z (fun x => if x = 0 then ((t : Int), b) else ((s : Int), c)) 2 = W2 z t b s c := rfl
/-- Two sides in memory: the zone with both. -/
theorem with2_any (z : Nat → Int) (t s : Nat) (b c : Int) (hz : FitsZ z) (ht : t < 6) (hs : s < 6) (hb : fits64 b) (hc : fits64 c) (w : World) (B : Nat) (hB : B < w.heap.size) (k0 : w.cell? ⟨B, 0, none⟩ = some (.int .i64 (t : Int))) (k1 : w.cell? ⟨B, 1, none⟩ = some (.int .i64 b)) (k2 : w.cell? ⟨B, 2, none⟩ = some (.int .i64 (s : Int))) (k3 : w.cell? ⟨B, 3, none⟩ = some (.int .i64 c)) :
    Calls Try.prog 70 #[zoneV z, .slice (some ⟨B, 0, none⟩) 2 2] w (Gives w (zoneR (with2Z z t b s c).1 (with2Z z t b s c).2)) := by
  have h := wwith_any z (some ⟨B, 0, none⟩) 2 2 (fun x => if x = 0 then ((t : Int), b) else ((s : Int), c)) w hz (.inr ⟨B, 0, rfl, hB, fun x hx => ?_⟩) (by omega) (fun k hk => ?_) (fun k hk => ?_)
  · rw [fold_W2] at h; exact h
  · rcases x with _ | _ | x
    · exact ⟨k0, k1⟩
    · exact ⟨k2, k3⟩
    · omega
  · rcases k with _ | k
    · exact ⟨t, rfl, ht⟩
    · exact ⟨s, rfl, hs⟩
  · rcases k with _ | k
    · exact hb
    · exact hc

set_option maxRecDepth 10000 in
set_option maxHeartbeats 4000000 in
theorem wwithin_any (z : Nat → Int) (s : Sp) (w : World) (hz : FitsZ z) (wlo : fits64 s.lo) (whi : fits64 s.hi) : Calls Try.prog 40 #[zoneV z, .agg #[.int .i64 s.lo, .bool s.ls, .int .i64 s.hi, .bool s.hs, .bool s.op]] w (Gives w (zoneR (withinZ z s).1 (withinZ z s).2)) := by
  have CK : Hid (∀ w, Calls Try.prog 45 #[.agg #[.int .i64 (z 0), .int .i64 (z 1), .int .i64 (z 2), .int .i64 (z 3), .int .i64 (z 4), .int .i64 (z 5)]] w (Gives w (.int .i64 (rcode (okZ z))))) := fun w => zcheck_any z w hz
  unfold withinZ
  cases ok : okZ z
  · rw [ok] at CK
    simp only [rcode_f, Bool.false_eq_true, if_false] at CK ⊢
    clear ok hz wlo whi
    unfold zoneR zoneV
    go_enter Try.func40, Try.ntmps40
    go_wp2_with (fail)
    refine (CK.out _).mono ?_; rintro e w' ⟨rfl, q1, rfl⟩
    go_wp2
    go_returns
    exact gives_end rfl (by (repeat' (first | (with_reducible assumption) | (with_reducible exact Below.refl _ _) | (with_reducible refine below_wov ?_ ?_ _) | (with_reducible refine below_drewN ?_ _) | (with_reducible refine Below.drew ?_) | (with_reducible refine Below.alloc ?_ ?_ _) | (with_reducible refine Below.setCell ?_ ?_ _) | (with_reducible exact Nat.le_refl _) | omega | (simp only [World.size_alloc, World.size_setCell, World.size_drew, Wov_size, World.heap_drewN]; omega))))
  · rw [ok] at CK
    simp only [rcode_t, if_true] at CK ⊢
    have TP : Hid (∀ w, Calls Try.prog 50 #[.int .i64 2] w (topPost w 2)) := fun w => top_ok 2 w (by omega) (by omega)
    have F2 : Fits 4 (topF 2) := fun x hx => mayB_fits (topF_may 2 x)
    have BT : Hid (∀ W B c, SlP W (some ⟨B, 0, none⟩) 4 (topF 2) → Calls Try.prog 51 #[.agg #[.int .i64 2, .slice (some ⟨B, 0, none⟩) 4 c], .int .i64 1, .agg #[.int .i64 s.lo, .bool s.ls, .int .i64 s.hi, .bool s.hs, .bool s.op]] W (matC W s.bw.n s.bw.N s.bw.f s.bw.e)) := fun W B c h => between_any 2 _ 4 c _ 1 s.lo s.ls s.hi s.hs s.op W (by decide) h F2 (by omega) wlo whi
    by_cases he : s.bw.e = 0
    · rw [if_pos he]
      have hbw : s.ok = true ∧ s.bw.n = 2 ∧ s.bw.N = 4 ∧ s.bw.f 1 = s.bel ∧ s.bw.f 2 = s.abo := by
        rcases bw_cases s with ⟨_, h⟩ | ⟨_, h⟩ | ⟨h1, _, h2, h3⟩
        · omega
        · omega
        · rcases betwS_cases s.lo s.ls s.hi s.hs s.op with h | ⟨h4, h5, _, _⟩
          · have : s.bw.e = 8 ∨ s.bw.e = 6 := h
            omega
          · exact ⟨h1, h4, h5, h2, h3⟩
      obtain ⟨o1, n1, n2, f1, f2⟩ := hbw
      have mb : mayB s.bel = true := belowB_may o1
      have ma : mayB s.abo = true := aboveB_may o1
      rw [n1, n2, he] at BT
      obtain ⟨g, hg⟩ : ∃ g, g = s.bw.f := ⟨_, rfl⟩
      rw [← hg] at BT f1 f2
      obtain ⟨bl, hbl⟩ : ∃ b, b = s.bel := ⟨_, rfl⟩
      obtain ⟨bo, hbo⟩ : ∃ b, b = s.abo := ⟨_, rfl⟩
      rw [← hbl] at f1 mb ⊢
      rw [← hbo] at f2 ma ⊢
      have WT0 := fun (w : World) B hB k0 k1 k2 k3 => with2_any z 4 5 bo bl hz (by omega) (by omega) (mayB_fits ma) (mayB_fits mb) w B hB k0 k1 k2 k3
      obtain ⟨⟨r, e0⟩, hr⟩ : ∃ r, r = with2Z z 4 bo 5 bl := ⟨_, rfl⟩
      rw [← hr] at WT0 ⊢
      have WT : Hid (∀ (w : World) (B : Nat), B < w.heap.size → w.cell? ⟨B, 0, none⟩ = some (.int .i64 4) → w.cell? ⟨B, 1, none⟩ = some (.int .i64 bo) → w.cell? ⟨B, 2, none⟩ = some (.int .i64 5) → w.cell? ⟨B, 3, none⟩ = some (.int .i64 bl) → Calls Try.prog 70 #[.agg #[.int .i64 (z 0), .int .i64 (z 1), .int .i64 (z 2), .int .i64 (z 3), .int .i64 (z 4), .int .i64 (z 5)], .slice (some ⟨B, 0, none⟩) 2 2] w (Gives w (.tuple #[.agg #[.int .i64 (r 0), .int .i64 (r 1), .int .i64 (r 2), .int .i64 (r 3), .int .i64 (r 4), .int .i64 (r 5)], .int .i64 e0]))) := WT0
      clear WT0 hr ok hz wlo whi he hg o1 n1 n2 mb ma hbl hbo
      unfold zoneR zoneV
      go_enter Try.func40, Try.ntmps40
      go_wp2_with (fail)
      refine (CK.out _).mono ?_; rintro e w' ⟨rfl, q1, rfl⟩
      go_wp2_with (fail)
      refine calls_world (fun W => Below w.heap.size w W ∧ BoxZ W w.heap.size z ∧ BoxS W (w.heap.size + 1) s.lo s.ls s.hi s.hs s.op ∧ HoldsA W (w.heap.size + 2) 6 (fun _ => 0)) ⟨by (repeat' (first | (with_reducible assumption) | (with_reducible exact Below.refl _ _) | (with_reducible refine below_wov ?_ ?_ _) | (with_reducible refine below_drewN ?_ _) | (with_reducible refine Below.drew ?_) | (with_reducible refine Below.alloc ?_ ?_ _) | (with_reducible refine Below.setCell ?_ ?_ _) | (with_reducible exact Nat.le_refl _) | omega | (simp only [World.size_alloc, World.size_setCell, World.size_drew, Wov_size, World.heap_drewN]; omega))), (BoxZ.new (W := w) (t := 24) rfl).below (by (repeat' (first | (with_reducible assumption) | (with_reducible exact Below.refl _ _) | (with_reducible refine below_wov ?_ ?_ _) | (with_reducible refine below_drewN ?_ _) | (with_reducible refine Below.drew ?_) | (with_reducible refine Below.alloc ?_ ?_ _) | (with_reducible refine Below.setCell ?_ ?_ _) | (with_reducible exact Nat.le_refl _) | omega | (simp only [World.size_alloc, World.size_setCell, World.size_drew, Wov_size, World.heap_drewN]; omega)))), (BoxS.new (W := w.alloc (.cells #[.int .i64 (z 0), .int .i64 (z 1), .int .i64 (z 2), .int .i64 (z 3), .int .i64 (z 4), .int .i64 (z 5)] 24)) (t := 42) (by simp)).below (by (repeat' (first | (with_reducible assumption) | (with_reducible exact Below.refl _ _) | (with_reducible refine below_wov ?_ ?_ _) | (with_reducible refine below_drewN ?_ _) | (with_reducible refine Below.drew ?_) | (with_reducible refine Below.alloc ?_ ?_ _) | (with_reducible refine Below.setCell ?_ ?_ _) | (with_reducible exact Nat.le_refl _) | omega | (simp only [World.size_alloc, World.size_setCell, World.size_drew, Wov_size, World.heap_drewN]; omega)))), (HoldsA.zone (W := (w.alloc (.cells #[.int .i64 (z 0), .int .i64 (z 1), .int .i64 (z 2), .int .i64 (z 3), .int .i64 (z 4), .int .i64 (z 5)] 24)).alloc (.cells #[.int .i64 s.lo, .bool s.ls, .int .i64 s.hi, .bool s.hs, .bool s.op] 42)) (t := 24) (by simp)).below (by (repeat' (first | (with_reducible assumption) | (with_reducible exact Below.refl _ _) | (with_reducible refine below_wov ?_ ?_ _) | (with_reducible refine below_drewN ?_ _) | (with_reducible refine Below.drew ?_) | (with_reducible refine Below.alloc ?_ ?_ _) | (with_reducible refine Below.setCell ?_ ?_ _) | (with_reducible exact Nat.le_refl _) | omega | (simp only [World.size_alloc, World.size_setCell, World.size_drew, Wov_size, World.heap_drewN]; omega))))⟩ ?_
      rintro W1 ⟨hb1, mZ, mS, mR⟩
      have hs1 := hb1.size
      have sl := mS.lt
      have s0 := mS.c0
      have s1 := mS.c1
      have s2 := mS.c2
      have s3 := mS.c3
      have s4 := mS.c4
      clear CK
      refine (TP.out _).mono ?_; rintro e w' ⟨B, cp, rfl, hA1, hB1, hH1, q2, rfl⟩
      have t1 := slp_of hH1 hB1
      clear hA1 hB1 hH1 TP
      go_wp2_with (fail)
      refine (BT.out _ _ _ (t1.below (by (repeat' (first | (with_reducible assumption) | (with_reducible exact Below.refl _ _) | (with_reducible refine below_wov ?_ ?_ _) | (with_reducible refine below_drewN ?_ _) | (with_reducible refine Below.drew ?_) | (with_reducible refine Below.alloc ?_ ?_ _) | (with_reducible refine Below.setCell ?_ ?_ _) | (with_reducible exact Nat.le_refl _) | omega | (simp only [World.size_alloc, World.size_setCell, World.size_drew, Wov_size, World.heap_drewN]; omega)))))).mono ?_; rintro e w' ⟨⟨p3, c3, rfl, ho⟩, q3, rfl⟩
      obtain ⟨B3, rfl, hA3, hB3, hH3⟩ := ho.resolve_left (by omega)
      have k1 := (hH3 1 (by omega)).1
      have k2 := (hH3 2 (by omega)).1
      rw [f1] at k1
      rw [f2] at k2
      clear ho t1 BT hH3
      go_wp2
      obtain ⟨A, hA⟩ : ∃ A, W1.heap.size + (q2.bl.size + (1 + q3.bl.size)) = A := ⟨_, rfl⟩
      rw [hA]
      have rl1 := mR.lt
      simp only [Wov_size, World.size_alloc] at hA3
      have d1 : ¬ A = w.heap.size + 2 := by omega
      have d2 : ¬ w.heap.size + 2 = A := by omega
      have d3 : ¬ B3 = w.heap.size + 2 := by omega
      have d4 : ¬ w.heap.size + 2 = B3 := by omega
      refine wp_world (fun W => Below w.heap.size w W ∧ BoxZ W w.heap.size z ∧ HoldsA W (w.heap.size + 2) 6 (fun _ => 0) ∧ A < W.heap.size ∧ W.cell? ⟨A, 1, none⟩ = some (.slice (some ⟨B3, 0, none⟩) 4 c3) ∧ B3 < W.heap.size ∧ W.cell? ⟨B3, 1, none⟩ = some (.int .i64 bl) ∧ W.cell? ⟨B3, 2, none⟩ = some (.int .i64 bo))
        ⟨by (repeat' (first | (with_reducible assumption) | (with_reducible exact Below.refl _ _) | (with_reducible refine below_wov ?_ ?_ _) | (with_reducible refine below_drewN ?_ _) | (with_reducible refine Below.drew ?_) | (with_reducible refine Below.alloc ?_ ?_ _) | (with_reducible refine Below.setCell ?_ ?_ _) | (with_reducible exact Nat.le_refl _) | omega | (simp only [World.size_alloc, World.size_setCell, World.size_drew, Wov_size, World.heap_drewN]; omega))), mZ.below (by (repeat' (first | (with_reducible assumption) | (with_reducible exact Below.refl _ _) | (with_reducible refine below_wov ?_ ?_ _) | (with_reducible refine below_drewN ?_ _) | (with_reducible refine Below.drew ?_) | (with_reducible refine Below.alloc ?_ ?_ _) | (with_reducible refine Below.setCell ?_ ?_ _) | (with_reducible exact Nat.le_refl _) | omega | (simp only [World.size_alloc, World.size_setCell, World.size_drew, Wov_size, World.heap_drewN]; omega)))), mR.below (by (repeat' (first | (with_reducible assumption) | (with_reducible exact Below.refl _ _) | (with_reducible refine below_wov ?_ ?_ _) | (with_reducible refine below_drewN ?_ _) | (with_reducible refine Below.drew ?_) | (with_reducible refine Below.alloc ?_ ?_ _) | (with_reducible refine Below.setCell ?_ ?_ _) | (with_reducible exact Nat.le_refl _) | omega | (simp only [World.size_alloc, World.size_setCell, World.size_drew, Wov_size, World.heap_drewN]; omega)))), by (first | omega | ((simp only [World.size_alloc, World.size_setCell, World.size_drew, Wov_size, World.heap_drewN, Array.size_append]) <;> omega)), by rw [← hA]; simp [go_sem], by rw [World.size_alloc]; omega, (Below.cell (p := ⟨B3, 1, none⟩) ((Below.refl _ _).alloc (Nat.le_refl _) _) hB3).trans k1, (Below.cell (p := ⟨B3, 2, none⟩) ((Below.refl _ _).alloc (Nat.le_refl _) _) hB3).trans k2⟩ ?_
      rintro W2 ⟨hb2, mZ2, mR2, lA, a1, lB, x1, x2⟩
      have hs2 := hb2.size
      have z0 := mZ2.c0
      have z1 := mZ2.c1
      have z2 := mZ2.c2
      have z3 := mZ2.c3
      have z4 := mZ2.c4
      have z5 := mZ2.c5
      have HO := Lib.hid mR2
      clear mZ mR hb1 hs1 sl s0 s1 s2 s3 s4 hA hB3 k1 k2 mZ2 mR2
      have r0 := (HO.out.holds 0 (by omega)).1
      have r1 := (HO.out.holds 1 (by omega)).1
      have r2 := (HO.out.holds 2 (by omega)).1
      have r3 := (HO.out.holds 3 (by omega)).1
      have r4 := (HO.out.holds 4 (by omega)).1
      have r5 := (HO.out.holds 5 (by omega)).1
      have n0 := (HO.out.holds 0 (by omega)).2
      have n1 := (HO.out.holds 1 (by omega)).2
      have n2 := (HO.out.holds 2 (by omega)).2
      have n3 := (HO.out.holds 3 (by omega)).2
      have n4 := (HO.out.holds 4 (by omega)).2
      have n5 := (HO.out.holds 5 (by omega)).2
      have rl := HO.out.lt
      go_region_held3 (fun w' => w'.cell? ⟨w.heap.size, 0, none⟩ = some (.int .i64 (z 0)) ∧ w'.cell? ⟨w.heap.size, 1, none⟩ = some (.int .i64 (z 1)) ∧ w'.cell? ⟨w.heap.size, 2, none⟩ = some (.int .i64 (z 2)) ∧ w'.cell? ⟨w.heap.size, 3, none⟩ = some (.int .i64 (z 3)) ∧ w'.cell? ⟨w.heap.size, 4, none⟩ = some (.int .i64 (z 4)) ∧ w'.cell? ⟨w.heap.size, 5, none⟩ = some (.int .i64 (z 5)) ∧ (w'.cell? ⟨w.heap.size + 2, 0, none⟩).isSome = true ∧ w'.frozen? ⟨w.heap.size + 2, 0, none⟩ = false ∧ (w'.cell? ⟨w.heap.size + 2, 1, none⟩).isSome = true ∧ w'.frozen? ⟨w.heap.size + 2, 1, none⟩ = false ∧ (w'.cell? ⟨w.heap.size + 2, 2, none⟩).isSome = true ∧ w'.frozen? ⟨w.heap.size + 2, 2, none⟩ = false ∧ (w'.cell? ⟨w.heap.size + 2, 3, none⟩).isSome = true ∧ w'.frozen? ⟨w.heap.size + 2, 3, none⟩ = false ∧ (w'.cell? ⟨w.heap.size + 2, 4, none⟩).isSome = true ∧ w'.frozen? ⟨w.heap.size + 2, 4, none⟩ = false ∧ (w'.cell? ⟨w.heap.size + 2, 5, none⟩).isSome = true ∧ w'.frozen? ⟨w.heap.size + 2, 5, none⟩ = false ∧ w'.cell? ⟨A, 1, none⟩ = some (.slice (some ⟨B3, 0, none⟩) 4 c3) ∧ w'.cell? ⟨B3, 1, none⟩ = some (.int .i64 bl) ∧ w'.cell? ⟨B3, 2, none⟩ = some (.int .i64 bo))
        ((simp [go_sem, *]))
        ((go_at_call 70; (refine (WT.out _ _ (by (first | omega | ((simp only [World.size_alloc, World.size_setCell, World.size_drew, Wov_size, World.heap_drewN, Array.size_append]) <;> omega))) (by simp [go_sem]) (by simp [go_sem]) (by simp [go_sem]) (by simp [go_sem])).mono ?_; rintro e w' ⟨rfl, q4, rfl⟩)))
      all_goals
        ((try dsimp only); repeat (first | go_values | go_skip | go_guarded | go_step | go_upon))
        refine bodyPost_ret (by simp [results, Try.results40, go_sem, r0, r1, r2, r3, r4, r5, rl]; try rfl) rfl ?_
        exact gives_end rfl (by (repeat' (first | (with_reducible assumption) | (with_reducible exact Below.refl _ _) | (with_reducible refine below_wov ?_ ?_ _) | (with_reducible refine below_drewN ?_ _) | (with_reducible refine Below.drew ?_) | (with_reducible refine Below.alloc ?_ ?_ _) | (with_reducible refine Below.setCell ?_ ?_ _) | (with_reducible exact Nat.le_refl _) | omega | (simp only [World.size_alloc, World.size_setCell, World.size_drew, Wov_size, World.heap_drewN]; omega))))
    · rw [if_neg he]
      have hne : (s.bw.e != 0) = true := by rw [bne_iff_ne]; exact he
      obtain ⟨⟨n, N, g, e0⟩, hr⟩ : ∃ r, r = s.bw := ⟨_, rfl⟩
      rw [← hr] at BT hne ⊢
      simp only at BT hne
      clear ok hz wlo whi he hr F2
      unfold zoneR zoneV
      go_enter Try.func40, Try.ntmps40
      go_wp2_with (fail)
      refine (CK.out _).mono ?_; rintro e w' ⟨rfl, q1, rfl⟩
      go_wp2_with (fail)
      refine calls_world (fun W => Below w.heap.size w W ∧ BoxS W (w.heap.size + 1) s.lo s.ls s.hi s.hs s.op ∧ HoldsA W (w.heap.size + 2) 6 (fun _ => 0)) ⟨by (repeat' (first | (with_reducible assumption) | (with_reducible exact Below.refl _ _) | (with_reducible refine below_wov ?_ ?_ _) | (with_reducible refine below_drewN ?_ _) | (with_reducible refine Below.drew ?_) | (with_reducible refine Below.alloc ?_ ?_ _) | (with_reducible refine Below.setCell ?_ ?_ _) | (with_reducible exact Nat.le_refl _) | omega | (simp only [World.size_alloc, World.size_setCell, World.size_drew, Wov_size, World.heap_drewN]; omega))), (BoxS.new (W := w.alloc (.cells #[.int .i64 (z 0), .int .i64 (z 1), .int .i64 (z 2), .int .i64 (z 3), .int .i64 (z 4), .int .i64 (z 5)] 24)) (t := 42) (by simp)).below (by (repeat' (first | (with_reducible assumption) | (with_reducible exact Below.refl _ _) | (with_reducible refine below_wov ?_ ?_ _) | (with_reducible refine below_drewN ?_ _) | (with_reducible refine Below.drew ?_) | (with_reducible refine Below.alloc ?_ ?_ _) | (with_reducible refine Below.setCell ?_ ?_ _) | (with_reducible exact Nat.le_refl _) | omega | (simp only [World.size_alloc, World.size_setCell, World.size_drew, Wov_size, World.heap_drewN]; omega)))), (HoldsA.zone (W := (w.alloc (.cells #[.int .i64 (z 0), .int .i64 (z 1), .int .i64 (z 2), .int .i64 (z 3), .int .i64 (z 4), .int .i64 (z 5)] 24)).alloc (.cells #[.int .i64 s.lo, .bool s.ls, .int .i64 s.hi, .bool s.hs, .bool s.op] 42)) (t := 24) (by simp)).below (by (repeat' (first | (with_reducible assumption) | (with_reducible exact Below.refl _ _) | (with_reducible refine below_wov ?_ ?_ _) | (with_reducible refine below_drewN ?_ _) | (with_reducible refine Below.drew ?_) | (with_reducible refine Below.alloc ?_ ?_ _) | (with_reducible refine Below.setCell ?_ ?_ _) | (with_reducible exact Nat.le_refl _) | omega | (simp only [World.size_alloc, World.size_setCell, World.size_drew, Wov_size, World.heap_drewN]; omega))))⟩ ?_
      rintro W1 ⟨hb1, mS, mR⟩
      have hs1 := hb1.size
      have sl := mS.lt
      have s0 := mS.c0
      have s1 := mS.c1
      have s2 := mS.c2
      have s3 := mS.c3
      have s4 := mS.c4
      have HO := Lib.hid mR
      have rl := mR.lt
      refine (TP.out _).mono ?_; rintro e w' ⟨B, cp, rfl, hA1, hB1, hH1, q2, rfl⟩
      have t1 := slp_of hH1 hB1
      clear hA1 hB1 hH1 TP CK mS mR
      go_wp2_with (fail)
      refine (BT.out _ _ _ (t1.below (by (repeat' (first | (with_reducible assumption) | (with_reducible exact Below.refl _ _) | (with_reducible refine below_wov ?_ ?_ _) | (with_reducible refine below_drewN ?_ _) | (with_reducible refine Below.drew ?_) | (with_reducible refine Below.alloc ?_ ?_ _) | (with_reducible refine Below.setCell ?_ ?_ _) | (with_reducible exact Nat.le_refl _) | omega | (simp only [World.size_alloc, World.size_setCell, World.size_drew, Wov_size, World.heap_drewN]; omega)))))).mono ?_; rintro e w' ⟨⟨p3, c3, rfl, ho⟩, q3, rfl⟩
      clear ho t1 BT
      have r0 := (HO.out.holds 0 (by omega)).1
      have r1 := (HO.out.holds 1 (by omega)).1
      have r2 := (HO.out.holds 2 (by omega)).1
      have r3 := (HO.out.holds 3 (by omega)).1
      have r4 := (HO.out.holds 4 (by omega)).1
      have r5 := (HO.out.holds 5 (by omega)).1
      have n0 := (HO.out.holds 0 (by omega)).2
      have n1 := (HO.out.holds 1 (by omega)).2
      have n2 := (HO.out.holds 2 (by omega)).2
      have n3 := (HO.out.holds 3 (by omega)).2
      have n4 := (HO.out.holds 4 (by omega)).2
      have n5 := (HO.out.holds 5 (by omega)).2
      ((try dsimp only); repeat (first | go_values | go_skip | go_guarded | go_step | go_upon))
      refine bodyPost_ret (by simp [results, Try.results40, go_sem, r0, r1, r2, r3, r4, r5, rl]; try rfl) rfl ?_
      exact gives_end rfl (by (repeat' (first | (with_reducible assumption) | (with_reducible exact Below.refl _ _) | (with_reducible refine below_wov ?_ ?_ _) | (with_reducible refine below_drewN ?_ _) | (with_reducible refine Below.drew ?_) | (with_reducible refine Below.alloc ?_ ?_ _) | (with_reducible refine Below.setCell ?_ ?_ _) | (with_reducible exact Nat.le_refl _) | omega | (simp only [World.size_alloc, World.size_setCell, World.size_drew, Wov_size, World.heap_drewN]; omega))))

theorem madeW {c : Int} (s : Bool) (h1 : -288230376151711744 ≤ c) (h2 : c ≤ 288230376151711744) : madeR c s = (mkB c s, 0) := by
  unfold madeR okN
  rw [if_pos]
  simp only [Bool.and_eq_true, decide_eq_true_eq]; omega
set_option maxRecDepth 10000 in
set_option maxHeartbeats 4000000 in
theorem wwindow_any (z : Nat → Int) (a b : Int) (w : World) (hz : FitsZ z) (wa : fits64 a) (wb : fits64 b) : Calls Try.prog 24 #[zoneV z, .int .i64 a, .int .i64 b] w (Gives w (zoneR (windowZ z a b).1 (windowZ z a b).2)) := by
  have CK : Hid (∀ w, Calls Try.prog 45 #[.agg #[.int .i64 (z 0), .int .i64 (z 1), .int .i64 (z 2), .int .i64 (z 3), .int .i64 (z 4), .int .i64 (z 5)]] w (Gives w (.int .i64 (rcode (okZ z))))) := fun w => zcheck_any z w hz
  have FA := Lib.hid (wfits_any a)
  have FB := Lib.hid (wfits_any b)
  unfold windowZ
  cases ok : okZ z
  · rw [ok] at CK
    simp only [rcode_f, Bool.false_eq_true, if_false] at CK ⊢
    clear ok hz wa wb FA FB
    unfold zoneR zoneV
    go_enter Try.func24, Try.ntmps24
    go_wp2_with (fail)
    refine (CK.out _).mono ?_; rintro e w' ⟨rfl, q1, rfl⟩
    go_wp2
    go_returns
    exact gives_end rfl (by (repeat' (first | (with_reducible assumption) | (with_reducible exact Below.refl _ _) | (with_reducible refine below_wov ?_ ?_ _) | (with_reducible refine below_drewN ?_ _) | (with_reducible refine Below.drew ?_) | (with_reducible refine Below.alloc ?_ ?_ _) | (with_reducible refine Below.setCell ?_ ?_ _) | (with_reducible exact Nat.le_refl _) | omega | (simp only [World.size_alloc, World.size_setCell, World.size_drew, Wov_size, World.heap_drewN]; omega))))
  · rw [ok] at CK
    simp only [rcode_t, if_true] at CK ⊢
    cases k1 : fitsW a
    · have e : windowOK a b = false := by unfold windowOK; rw [k1]; rfl
      rw [k1] at FA
      rw [e, if_neg (by decide)]
      clear ok hz wa wb e k1 FB
      unfold zoneR zoneV
      go_enter Try.func24, Try.ntmps24
      go_wp2_with (fail)
      refine (CK.out _).mono ?_; rintro e w' ⟨rfl, q1, rfl⟩
      go_wp2_with (fail)
      refine (FA.out _).mono ?_; rintro e w' ⟨rfl, q2, rfl⟩
      go_wp2
      go_returns
      exact gives_end rfl (by (repeat' (first | (with_reducible assumption) | (with_reducible exact Below.refl _ _) | (with_reducible refine below_wov ?_ ?_ _) | (with_reducible refine below_drewN ?_ _) | (with_reducible refine Below.drew ?_) | (with_reducible refine Below.alloc ?_ ?_ _) | (with_reducible refine Below.setCell ?_ ?_ _) | (with_reducible exact Nat.le_refl _) | omega | (simp only [World.size_alloc, World.size_setCell, World.size_drew, Wov_size, World.heap_drewN]; omega))))
    · rw [k1] at FA
      cases k2 : fitsW b
      · have e : windowOK a b = false := by unfold windowOK; rw [k1, k2]; rfl
        rw [k2] at FB
        rw [e, if_neg (by decide)]
        clear ok hz wa wb e k1 k2
        unfold zoneR zoneV
        go_enter Try.func24, Try.ntmps24
        go_wp2_with (fail)
        refine (CK.out _).mono ?_; rintro e w' ⟨rfl, q1, rfl⟩
        go_wp2_with (fail)
        refine (FA.out _).mono ?_; rintro e w' ⟨rfl, q2, rfl⟩
        go_wp2_with (fail)
        refine (FB.out _).mono ?_; rintro e w' ⟨rfl, q3, rfl⟩
        go_wp2
        go_returns
        exact gives_end rfl (by (repeat' (first | (with_reducible assumption) | (with_reducible exact Below.refl _ _) | (with_reducible refine below_wov ?_ ?_ _) | (with_reducible refine below_drewN ?_ _) | (with_reducible refine Below.drew ?_) | (with_reducible refine Below.alloc ?_ ?_ _) | (with_reducible refine Below.setCell ?_ ?_ _) | (with_reducible exact Nat.le_refl _) | omega | (simp only [World.size_alloc, World.size_setCell, World.size_drew, Wov_size, World.heap_drewN]; omega))))
      · rw [k2] at FB
        by_cases hab : a < b
        · have e : windowOK a b = true := by unfold windowOK; rw [k1, k2, decide_eq_true hab]; rfl
          obtain ⟨m1, m2⟩ := win_may e
          have d := windowOK_bd e
          rw [e, if_pos rfl]
          have WT0 := fun (w : World) B hB k0 k1 k2 k3 => with2_any z 2 3 (mkB b false) (mkB (-a) true) hz (by omega) (by omega) (mayB_fits m1) (mayB_fits m2) w B hB k0 k1 k2 k3
          obtain ⟨⟨r, e0⟩, hr⟩ : ∃ r, r = with2Z z 2 (mkB b false) 3 (mkB (-a) true) := ⟨_, rfl⟩
          rw [← hr] at WT0 ⊢
          have LE : Hid (∀ w, Calls Try.prog 68 #[.int .i64 (-a)] w (Gives w (.tuple #[.int .i64 (mkB (-a) true), .int .i64 0]))) := fun w => by
            have := less_any (-a) (by omega) (by omega) w
            rw [madeW true (by omega) (by omega)] at this; exact this
          have MO : Hid (∀ w, Calls Try.prog 69 #[.int .i64 b] w (Gives w (.tuple #[.int .i64 (mkB b false), .int .i64 0]))) := fun w => by
            have := most_any b (by omega) (by omega) w
            rw [madeW false (by omega) (by omega)] at this; exact this
          have hw : IntKind.i64.wrap (-a) = -a := by rw [IntKind.wrap_i64]; omega
          have hge : decide (b ≤ a) = false := decide_eq_false (by omega)
          obtain ⟨bo, hbo⟩ : ∃ x, x = mkB b false := ⟨_, rfl⟩
          obtain ⟨bl, hbl⟩ : ∃ x, x = mkB (-a) true := ⟨_, rfl⟩
          rw [← hbo] at WT0 MO
          rw [← hbl] at WT0 LE
          obtain ⟨na, hna⟩ : ∃ x, x = -a := ⟨_, rfl⟩
          rw [← hna] at LE hw
          have HNA := Lib.hid hna
          have WT : Hid (∀ (w : World) (B : Nat), B < w.heap.size → w.cell? ⟨B, 0, none⟩ = some (.int .i64 2) → w.cell? ⟨B, 1, none⟩ = some (.int .i64 bo) → w.cell? ⟨B, 2, none⟩ = some (.int .i64 3) → w.cell? ⟨B, 3, none⟩ = some (.int .i64 bl) → Calls Try.prog 70 #[.agg #[.int .i64 (z 0), .int .i64 (z 1), .int .i64 (z 2), .int .i64 (z 3), .int .i64 (z 4), .int .i64 (z 5)], .slice (some ⟨B, 0, none⟩) 2 2] w (Gives w (.tuple #[.agg #[.int .i64 (r 0), .int .i64 (r 1), .int .i64 (r 2), .int .i64 (r 3), .int .i64 (r 4), .int .i64 (r 5)], .int .i64 e0]))) := WT0
          have hw2 : IntKind.i64.wrap (-a) = na := by rw [← hna]; exact hw
          clear WT0 hr ok hz wa wb e k1 k2 m1 m2 d hab hbo hbl hna hw
          unfold zoneR zoneV
          go_enter Try.func24, Try.ntmps24
          go_wp2_with (fail)
          refine (CK.out _).mono ?_; rintro e w' ⟨rfl, q1, rfl⟩
          go_wp2_with (fail)
          refine (FA.out _).mono ?_; rintro e w' ⟨rfl, q2, rfl⟩
          go_wp2_with (fail)
          refine (FB.out _).mono ?_; rintro e w' ⟨rfl, q3, rfl⟩
          go_wp2_with (fail)
          refine (LE.out _).mono ?_; rintro e w' ⟨rfl, q4, rfl⟩
          go_wp2_with (fail)
          refine (MO.out _).mono ?_; rintro e w' ⟨rfl, q5, rfl⟩
          go_wp2_with (fail)
          refine (WT.out _ _ (by (first | omega | ((simp only [World.size_alloc, World.size_setCell, World.size_drew, Wov_size, World.heap_drewN, Array.size_append]) <;> omega))) (by simp [go_sem]) (by simp [go_sem]) (by simp [go_sem]) (by simp [go_sem])).mono ?_; rintro e w' ⟨rfl, q6, rfl⟩
          clear WT LE MO FA FB CK
          go_wp2
          go_returns
          exact gives_end rfl (by (repeat' (first | (with_reducible assumption) | (with_reducible exact Below.refl _ _) | (with_reducible refine below_wov ?_ ?_ _) | (with_reducible refine below_drewN ?_ _) | (with_reducible refine Below.drew ?_) | (with_reducible refine Below.alloc ?_ ?_ _) | (with_reducible refine Below.setCell ?_ ?_ _) | (with_reducible exact Nat.le_refl _) | omega | (simp only [World.size_alloc, World.size_setCell, World.size_drew, Wov_size, World.heap_drewN]; omega))))
        · have e : windowOK a b = false := by unfold windowOK; rw [decide_eq_false hab, Bool.and_false, Bool.and_false]
          have hge : decide (b ≤ a) = true := decide_eq_true (by omega)
          rw [e, if_neg (by decide)]
          clear ok hz wa wb e k1 k2 hab
          unfold zoneR zoneV
          go_enter Try.func24, Try.ntmps24
          go_wp2_with (fail)
          refine (CK.out _).mono ?_; rintro e w' ⟨rfl, q1, rfl⟩
          go_wp2_with (fail)
          refine (FA.out _).mono ?_; rintro e w' ⟨rfl, q2, rfl⟩
          go_wp2_with (fail)
          refine (FB.out _).mono ?_; rintro e w' ⟨rfl, q3, rfl⟩
          go_wp2
          go_returns
          exact gives_end rfl (by (repeat' (first | (with_reducible assumption) | (with_reducible exact Below.refl _ _) | (with_reducible refine below_wov ?_ ?_ _) | (with_reducible refine below_drewN ?_ _) | (with_reducible refine Below.drew ?_) | (with_reducible refine Below.alloc ?_ ?_ _) | (with_reducible refine Below.setCell ?_ ?_ _) | (with_reducible exact Nat.le_refl _) | omega | (simp only [World.size_alloc, World.size_setCell, World.size_drew, Wov_size, World.heap_drewN]; omega))))

theorem fits_mv {b n : Int} (hb : mayB b = true) (hn : fitsW n = true) : fits64 (mvB b n) := by
  have h2 := fitsW_bd hn
  unfold mvB
  split
  · decide
  · rename_i h
    have h1 := (mayB_bd hb).resolve_left h
    unfold bnum at h1
    unfold fits64; omega
set_option maxHeartbeats 800000 in
theorem moved_any (b m s : Int) (hb : mayB b = true) (hs : s = 1 ∨ s = -1) (hm : fitsW m = true) : Pure Try.prog 72 #[.int .i64 m, .int .i64 b, .int .i64 s] (.tuple #[.int .i64 (mvB b (m * s)), .bool true]) := by
  intro w
  have d := fitsW_bd hm
  have hms : -288230376151711744 ≤ m * s ∧ m * s ≤ 288230376151711744 := by rcases hs with rfl | rfl <;> omega
  have MO : Hid (∀ w, Calls Try.prog 69 #[.int .i64 (m * s)] w (Gives w (.tuple #[.int .i64 (mkB (m * s) false), .int .i64 0]))) := fun w => by
    have := most_any (m * s) (by omega) (by omega) w
    rw [madeW false (by omega) (by omega)] at this; exact this
  have fb := mayB_fits hb
  have hadd : addR b (mkB (m * s) false) = (mvB b (m * s), 0) := by
    have o1 : okB b = true := bd_okB (mayB_bd hb) (by omega)
    have o2 : okB (mkB (m * s) false) = true := bd_okB (mayB_bd (mkB_may hms.1 hms.2)) (by omega)
    have n2 : mkB (m * s) false ≠ noneB := mkB_some hms.1 hms.2
    by_cases hn : b = noneB
    · rw [addR_none o1 o2 (.inl hn)]
      unfold mvB; rw [if_pos hn]
    · rw [addR_ok o1 o2 hn n2, mkB_num, mkB_str, Bool.or_false]
      have h1 := (mayB_bd hb).resolve_left hn
      unfold madeR okN
      rw [if_pos (by simp only [Bool.and_eq_true, decide_eq_true_eq]; omega)]
      unfold mvB mkB bnum bstr
      rw [if_neg hn]
      by_cases h : b % 2 = 0
      · simp [h]; omega
      · simp [h]; omega
  have AD : Hid (∀ w, Calls Try.prog 120 #[.int .i64 b, .int .i64 (mkB (m * s) false)] w (Gives w (.tuple #[.int .i64 (mvB b (m * s)), .int .i64 0]))) := fun w => by
    have hk : fits64 (mkB (m * s) false) := mayB_fits (mkB_may hms.1 hms.2)
    have := add_any b (mkB (m * s) false) fb.1 fb.2 hk.1 hk.2 w
    rw [hadd] at this; exact this
  have hw : IntKind.i64.wrap (m * s) = m * s := by rw [IntKind.wrap_i64]; omega
  obtain ⟨t, ht⟩ : ∃ t, t = m * s := ⟨_, rfl⟩
  rw [← ht] at MO AD hw ⊢
  have hw2 : IntKind.i64.wrap (m * s) = t := by rw [← ht]; exact hw
  obtain ⟨v, hv⟩ : ∃ v, v = mkB t false := ⟨_, rfl⟩
  rw [← hv] at MO AD
  obtain ⟨x, hx⟩ : ∃ x, x = mvB b t := ⟨_, rfl⟩
  rw [← hx] at AD ⊢
  clear hadd hms hs hm hb fb hv hx d ht hw
  go_enter Try.func72, Try.ntmps72
  go_wp2_with (fail)
  refine (MO.out _).mono ?_; rintro e w' ⟨rfl, q1, rfl⟩
  go_wp2_with (fail)
  refine (AD.out _).mono ?_; rintro e w' ⟨rfl, q2, rfl⟩
  go_wp2
  go_ret2
  exact gives_end rfl (by (repeat' (first | (with_reducible assumption) | (with_reducible exact Below.refl _ _) | (with_reducible refine below_wov ?_ ?_ _) | (with_reducible refine below_drewN ?_ _) | (with_reducible refine Below.drew ?_) | (with_reducible refine Below.alloc ?_ ?_ _) | (with_reducible refine Below.setCell ?_ ?_ _) | (with_reducible exact Nat.le_refl _) | omega | (simp only [World.size_alloc, World.size_setCell, World.size_drew, Wov_size, World.heap_drewN]; omega))))
end Go.Proofs.Ytbgbhfcnadjhdaa
