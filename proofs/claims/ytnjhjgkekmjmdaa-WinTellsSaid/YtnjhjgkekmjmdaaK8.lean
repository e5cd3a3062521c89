/- Contracts of the document's Windowed, Within, Window and Shift. No condition. -/
import Derived.Test.YtnjhjgkekmjmdaaK7
namespace Go.Proofs.Ytnjhjgkekmjmdaa
set_option linter.unusedSimpArgs false
set_option linter.unusedVariables false
open Go Go.RowKit Go.Shelf
attribute [local go_sem] Nat.add_assoc Nat.add_lt_add_iff_left lit_lt_add

theorem ptr25_8 {P : Program} {c : Code} {Q : Exit → Act → World → Prop} {D : List Deferred} {W : World} {t0 t1 t2 t3 t4 t5 t6 t7 t9 t10 t11 t12 t13 t14 t15 t16 t17 t18 t19 t20 t21 t22 t23 t24 : Value} {E : Nat} (h : ∀ A, A = E → Code.wp P c Q { tmps := #[t0, t1, t2, t3, t4, t5, t6, t7, .pointer (some ⟨A, 0, none⟩), t9, t10, t11, t12, t13, t14, t15, t16, t17, t18, t19, t20, t21, t22, t23, t24], defers := D } W) : Code.wp P c Q { tmps := #[t0, t1, t2, t3, t4, t5, t6, t7, .pointer (some ⟨E, 0, none⟩), t9, t10, t11, t12, t13, t14, t15, t16, t17, t18, t19, t20, t21, t22, t23, t24], defers := D } W := h E rfl
set_option maxRecDepth 10000 in
set_option maxHeartbeats 8000000 in
theorem windowed_any (z : Nat → Int) (a b : Int) (w : World) (hab : windowOK a b = true) (hz : okD (3 : Nat) (3 * 3) (zF z) = true) (hoz : okD (3 : Nat) (3 * 3) (zF (onlyW (mkB b false) (mkB (-a) true))) = true) : Calls Try.prog 100 #[zoneV z, .int .i64 a, .int .i64 b] w (Gives w (zoneR (zoneM (closeM 3 9 (lessF (zF z) (zF (onlyW (mkB b false) (mkB (-a) true)))))).1 (zoneM (closeM 3 9 (lessF (zF z) (zF (onlyW (mkB b false) (mkB (-a) true)))))).2)) := by
  have d := windowOK_bd hab
  have MB : Hid (∀ w, Calls Try.prog 155 #[.int .i64 b, .bool false] w (Gives w (.int .i64 (mkB b false)))) := fun w => (refMade_any b false w (by omega) (by omega)).mono fun e W ⟨he, hW⟩ => ⟨he, ⟨#[], w.drawn⟩, by rw [← hW, Wov_self]⟩
  have MA : Hid (∀ w, Calls Try.prog 155 #[.int .i64 (-a), .bool true] w (Gives w (.int .i64 (mkB (-a) true)))) := fun w => (refMade_any (-a) true w (by omega) (by omega)).mono fun e W ⟨he, hW⟩ => ⟨he, ⟨#[], w.drawn⟩, by rw [← hW, Wov_self]⟩
  have hw : wrap64 (-a) = -a := wrap64_id (by omega) (by omega)
  clear d hab
  have ok := okD_less hz hoz
  obtain ⟨r, hr⟩ : ∃ r, r = closeM 3 9 (lessF (zF z) (zF (onlyW (mkB b false) (mkB (-a) true)))) := ⟨_, rfl⟩
  have h2 : (∃ g, r = ⟨3, 9, g, 0⟩) ∨ r = errM 6 := by
    rcases closeM_cases ok with ⟨c, hc, _⟩ | ⟨hc, _⟩
    · exact .inl ⟨c, hr.trans hc⟩
    · exact .inr (hr.trans hc)
  have TO := Lib.hid (told10_any r h2 (by rw [hr]; exact (closeM_ok 3 9 _).f))
  have FZ : Hid (∀ w, Calls Try.prog 140 #[.agg #[.int .i64 (z 0), .int .i64 (z 1), .int .i64 (z 2), .int .i64 (z 3), .int .i64 (z 4), .int .i64 (z 5)]] w (rowPost w 3 9 (zF z))) := fun w => full8_any z w
  have FO : Hid (∀ w, Calls Try.prog 140 #[.agg #[.int .i64 9223372036854775807, .int .i64 9223372036854775807, .int .i64 (mkB b false), .int .i64 (mkB (-a) true), .int .i64 9223372036854775807, .int .i64 9223372036854775807]] w (rowPost w 3 9 (zF (onlyW (mkB b false) (mkB (-a) true))))) := fun w => full8_any (onlyW (mkB b false) (mkB (-a) true)) w
  have CM : Hid (∀ w B B' c c', SlP w (some ⟨B, 0, none⟩) 9 (zF z) → SlP w (some ⟨B', 0, none⟩) 9 (zF (onlyW (mkB b false) (mkB (-a) true))) → Calls Try.prog 153 #[.agg #[.int .i64 3, .slice (some ⟨B, 0, none⟩) 9 c], .agg #[.int .i64 3, .slice (some ⟨B', 0, none⟩) 9 c']] w (matB w r.n r.N r.f (decide (r.e = 0)))) := fun w B B' c c' h k => common_any 3 9 _ _ c c' _ _ r w rfl ok hr h k
  rw [← hr]
  obtain ⟨f, hf⟩ : ∃ f, f = zF z := ⟨_, rfl⟩
  obtain ⟨fo, hfo⟩ : ∃ f, f = zF (onlyW (mkB b false) (mkB (-a) true)) := ⟨_, rfl⟩
  rw [← hf] at FZ CM
  rw [← hfo] at FO CM
  obtain ⟨zz, hzz⟩ : ∃ z, z = zoneM r := ⟨_, rfl⟩
  rw [← hzz] at TO ⊢
  obtain ⟨⟨n, N, g, e0⟩, hm⟩ : ∃ m, m = r := ⟨_, rfl⟩
  rw [← hm] at TO CM
  obtain ⟨k, hk⟩ : ∃ k, k = decide (e0 = 0) := ⟨_, rfl⟩
  simp only at TO CM
  rw [← hk] at TO CM
  unfold rowPost at FZ FO
  unfold zoneR zoneV at TO ⊢
  clear hr hf hfo hzz hm hk h2 ok hoz hz
  obtain ⟨bo, hbo⟩ : ∃ x, x = mkB b false := ⟨_, rfl⟩
  obtain ⟨bl, hbl⟩ : ∃ x, x = mkB (-a) true := ⟨_, rfl⟩
  rw [← hbo] at MB FO
  rw [← hbl] at MA FO
  obtain ⟨na, hna⟩ : ∃ x, x = -a := ⟨_, rfl⟩
  rw [← hna] at MA
  replace hw : wrap64 (-a) = na := hw.trans hna.symm
  clear hbo hbl hna
  go_enter Try.func100, Try.ntmps100
  go_wp2_with (fail)
  refine calls_world (fun W => Below w.heap.size w W ∧ BoxZ W w.heap.size z ∧ HoldsA W (w.heap.size + 1) 6 (fun _ => 0)) ⟨by (repeat' (first | (with_reducible assumption) | (with_reducible exact Below.refl _ _) | (with_reducible refine below_wov ?_ ?_ _) | (with_reducible refine below_drewN ?_ _) | (with_reducible refine Below.drew ?_) | (with_reducible refine Below.alloc ?_ ?_ _) | (with_reducible refine Below.setCell ?_ ?_ _) | (with_reducible exact Nat.le_refl _) | omega | (simp only [World.size_alloc, World.size_setCell, World.size_drew, Wov_size, World.heap_drewN]; omega))), (BoxZ.new (W := w) (t := 26) rfl).below (by (repeat' (first | (with_reducible assumption) | (with_reducible exact Below.refl _ _) | (with_reducible refine below_wov ?_ ?_ _) | (with_reducible refine below_drewN ?_ _) | (with_reducible refine Below.drew ?_) | (with_reducible refine Below.alloc ?_ ?_ _) | (with_reducible refine Below.setCell ?_ ?_ _) | (with_reducible exact Nat.le_refl _) | omega | (simp only [World.size_alloc, World.size_setCell, World.size_drew, Wov_size, World.heap_drewN]; omega)))), (HoldsA.zone (W := w.alloc (.cells #[.int .i64 (z 0), .int .i64 (z 1), .int .i64 (z 2), .int .i64 (z 3), .int .i64 (z 4), .int .i64 (z 5)] 26)) (t := 26) (by simp)).below (by (repeat' (first | (with_reducible assumption) | (with_reducible exact Below.refl _ _) | (with_reducible refine below_wov ?_ ?_ _) | (with_reducible refine below_drewN ?_ _) | (with_reducible refine Below.drew ?_) | (with_reducible refine Below.alloc ?_ ?_ _) | (with_reducible refine Below.setCell ?_ ?_ _) | (with_reducible exact Nat.le_refl _) | omega | (simp only [World.size_alloc, World.size_setCell, World.size_drew, Wov_size, World.heap_drewN]; omega))))⟩ ?_
  rintro W1 ⟨hb1, mZ1, mR1⟩
  have hs1 := hb1.size
  have HZ := Lib.hid mZ1
  have HX := Lib.hid mR1
  have rl1 := mR1.lt
  clear mZ1 mR1
  refine (MB.out _).mono ?_; rintro e w' ⟨rfl, q1, rfl⟩
  go_wp2_with (fail)
  (try rw [hw])
  refine (MA.out _).mono ?_; rintro e w' ⟨rfl, q2, rfl⟩
  go_wp2_with (fail)
  refine (FO.out _).mono ?_; rintro e w' ⟨BO, cO, rfl, hAO, hBO, hHO, qO, rfl⟩
  have tO0 := slp_of hHO hBO
  clear hAO hBO hHO MA MB FO
  go_wp2_with (fail)
  (try simp only [drew_Wov, Wov_Wov, Array.append_assoc] at tO0)
  refine ptr25_8 ?_
  intro A hA
  refine wp_world (fun W => Below w.heap.size w W ∧ BoxZ W w.heap.size z ∧ HoldsA W (w.heap.size + 1) 6 (fun _ => 0) ∧ BoxM W A 3 (some ⟨BO, 0, none⟩) 9 cO fo) ⟨by (repeat' (first | (with_reducible assumption) | (with_reducible exact Below.refl _ _) | (with_reducible refine below_wov ?_ ?_ _) | (with_reducible refine below_drewN ?_ _) | (with_reducible refine Below.drew ?_) | (with_reducible refine Below.alloc ?_ ?_ _) | (with_reducible refine Below.setCell ?_ ?_ _) | (with_reducible exact Nat.le_refl _) | omega | (simp only [World.size_alloc, World.size_setCell, World.size_drew, Wov_size, World.heap_drewN]; omega))), HZ.out.below (by (repeat' (first | (with_reducible assumption) | (with_reducible exact Below.refl _ _) | (with_reducible refine below_wov ?_ ?_ _) | (with_reducible refine below_drewN ?_ _) | (with_reducible refine Below.drew ?_) | (with_reducible refine Below.alloc ?_ ?_ _) | (with_reducible refine Below.setCell ?_ ?_ _) | (with_reducible exact Nat.le_refl _) | omega | (simp only [World.size_alloc, World.size_setCell, World.size_drew, Wov_size, World.heap_drewN]; omega)))), HX.out.below (by (repeat' (first | (with_reducible assumption) | (with_reducible exact Below.refl _ _) | (with_reducible refine below_wov ?_ ?_ _) | (with_reducible refine below_drewN ?_ _) | (with_reducible refine Below.drew ?_) | (with_reducible refine Below.alloc ?_ ?_ _) | (with_reducible refine Below.setCell ?_ ?_ _) | (with_reducible exact Nat.le_refl _) | omega | (simp only [World.size_alloc, World.size_setCell, World.size_drew, Wov_size, World.heap_drewN]; omega)))), ?_⟩ ?_
  · subst hA
    refine ⟨by (first | omega | ((simp only [World.size_alloc, World.size_setCell, World.size_drew, Wov_size, World.heap_drewN, Array.size_append]) <;> omega)), by simp [go_sem], by simp [go_sem], ?_⟩
    refine SlP.below tO0 ?_
    (repeat' (first | (with_reducible assumption) | (with_reducible exact Below.refl _ _) | (with_reducible exact below_app _ _ _ _) | (with_reducible exact below_app2 _ _ _ _ _ _) | (with_reducible exact below_app0 _ _ _) | (with_reducible refine below_wov ?_ ?_ _) | (with_reducible refine below_drewN ?_ _) | (with_reducible refine Below.drew ?_) | (with_reducible refine Below.alloc ?_ ?_ _) | (with_reducible refine Below.setCell ?_ ?_ _) | (with_reducible exact Nat.le_refl _) | omega | (simp only [World.size_alloc, World.size_setCell, World.size_drew, Wov_size, World.heap_drewN, Array.size_append]; omega)))
  have d1 : ¬ A = w.heap.size + 1 := by rw [hA]; omega
  have d2 : ¬ w.heap.size + 1 = A := by rw [hA]; omega
  clear hA tO0
  rintro W ⟨hbW, mZ, mR, mO⟩
  clear HZ HX hb1 hs1 rl1

  have z0 := mZ.c0
  have z1 := mZ.c1
  have z2 := mZ.c2
  have z3 := mZ.c3
  have z4 := mZ.c4
  have z5 := mZ.c5
  have r0 := (mR.holds 0 (by omega)).1
  have r1 := (mR.holds 1 (by omega)).1
  have r2 := (mR.holds 2 (by omega)).1
  have r3 := (mR.holds 3 (by omega)).1
  have r4 := (mR.holds 4 (by omega)).1
  have r5 := (mR.holds 5 (by omega)).1
  have n0 := (mR.holds 0 (by omega)).2
  have n1 := (mR.holds 1 (by omega)).2
  have n2 := (mR.holds 2 (by omega)).2
  have n3 := (mR.holds 3 (by omega)).2
  have n4 := (mR.holds 4 (by omega)).2
  have n5 := (mR.holds 5 (by omega)).2
  have rl := mR.lt
  have a0 := mO.c0
  have a1 := mO.c1
  have al := mO.lt
  have tO := mO.sl
  have hsW := hbW.size
  clear mZ mR mO
  go_region_held3 (fun w' => w'.cell? ⟨w.heap.size, 0, none⟩ = some (.int .i64 (z 0)) ∧ w'.cell? ⟨w.heap.size, 1, none⟩ = some (.int .i64 (z 1)) ∧ w'.cell? ⟨w.heap.size, 2, none⟩ = some (.int .i64 (z 2)) ∧ w'.cell? ⟨w.heap.size, 3, none⟩ = some (.int .i64 (z 3)) ∧ w'.cell? ⟨w.heap.size, 4, none⟩ = some (.int .i64 (z 4)) ∧ w'.cell? ⟨w.heap.size, 5, none⟩ = some (.int .i64 (z 5)) ∧ (w'.cell? ⟨w.heap.size + 1, 0, none⟩).isSome = true ∧ w'.frozen? ⟨w.heap.size + 1, 0, none⟩ = false ∧ (w'.cell? ⟨w.heap.size + 1, 1, none⟩).isSome = true ∧ w'.frozen? ⟨w.heap.size + 1, 1, none⟩ = false ∧ (w'.cell? ⟨w.heap.size + 1, 2, none⟩).isSome = true ∧ w'.frozen? ⟨w.heap.size + 1, 2, none⟩ = false ∧ (w'.cell? ⟨w.heap.size + 1, 3, none⟩).isSome = true ∧ w'.frozen? ⟨w.heap.size + 1, 3, none⟩ = false ∧ (w'.cell? ⟨w.heap.size + 1, 4, none⟩).isSome = true ∧ w'.frozen? ⟨w.heap.size + 1, 4, none⟩ = false ∧ (w'.cell? ⟨w.heap.size + 1, 5, none⟩).isSome = true ∧ w'.frozen? ⟨w.heap.size + 1, 5, none⟩ = false ∧ w'.cell? ⟨A, 0, none⟩ = some (.int .i64 3) ∧ w'.cell? ⟨A, 1, none⟩ = some (.slice (some ⟨BO, 0, none⟩) 9 cO))
    ((simp [go_sem, *]))
    (first
    | (go_at_call 140; ((with_reducible refine (FZ.out _).mono ?_); rintro e w' ⟨BA, cpa, rfl, hA1, hB1, hH1, qa, rfl⟩; have t1 := slp_of hH1 hB1; clear hA1 hB1 hH1))
    | (go_at_call 153; (try simp only [drew_Wov, Wov_Wov, Array.append_assoc] at t1); refine (CM.out _ _ _ _ _ (t1.below (by (repeat' (first | (with_reducible assumption) | (with_reducible exact Below.refl _ _) | (with_reducible exact below_app _ _ _ _) | (with_reducible exact below_app2 _ _ _ _ _ _) | (with_reducible exact below_app0 _ _ _) | (with_reducible refine below_wov ?_ ?_ _) | (with_reducible refine below_drewN ?_ _) | (with_reducible refine Below.drew ?_) | (with_reducible refine Below.alloc ?_ ?_ _) | (with_reducible refine Below.setCell ?_ ?_ _) | (with_reducible exact Nat.le_refl _) | omega | (simp only [World.size_alloc, World.size_setCell, World.size_drew, Wov_size, World.heap_drewN, Array.size_append]; omega))))) (tO.below (by (repeat' (first | (with_reducible assumption) | (with_reducible exact Below.refl _ _) | (with_reducible exact below_app _ _ _ _) | (with_reducible exact below_app2 _ _ _ _ _ _) | (with_reducible exact below_app0 _ _ _) | (with_reducible refine below_wov ?_ ?_ _) | (with_reducible refine below_drewN ?_ _) | (with_reducible refine Below.drew ?_) | (with_reducible refine Below.alloc ?_ ?_ _) | (with_reducible refine Below.setCell ?_ ?_ _) | (with_reducible exact Nat.le_refl _) | omega | (simp only [World.size_alloc, World.size_setCell, World.size_drew, Wov_size, World.heap_drewN, Array.size_append]; omega)))))).mono ?_; rintro e w' ⟨⟨p3, c3, rfl, ho⟩, qc, rfl⟩; have t3 := ho.slp; clear ho t1)
    | (go_at_call 152; (try simp only [drew_Wov, Wov_Wov, Array.append_assoc] at t3); refine (TO.out _ _ _ (t3.below (by (repeat' (first | (with_reducible assumption) | (with_reducible exact Below.refl _ _) | (with_reducible exact below_app _ _ _ _) | (with_reducible exact below_app2 _ _ _ _ _ _) | (with_reducible exact below_app0 _ _ _) | (with_reducible refine below_wov ?_ ?_ _) | (with_reducible refine below_drewN ?_ _) | (with_reducible refine Below.drew ?_) | (with_reducible refine Below.alloc ?_ ?_ _) | (with_reducible refine Below.setCell ?_ ?_ _) | (with_reducible exact Nat.le_refl _) | omega | (simp only [World.size_alloc, World.size_setCell, World.size_drew, Wov_size, World.heap_drewN, Array.size_append]; omega)))))).mono ?_; rintro e w' ⟨rfl, qd, rfl⟩; clear t3))
  all_goals
    ((try dsimp only); repeat (first | go_values | go_skip | go_guarded | go_step | go_upon))
    refine bodyPost_ret (by simp [results, Try.results100, go_sem, r0, r1, r2, r3, r4, r5, rl]; try rfl) rfl ?_
    exact gives_end rfl (by (repeat' (first | (with_reducible assumption) | (with_reducible exact Below.refl _ _) | (with_reducible exact below_app _ _ _ _) | (with_reducible exact below_app2 _ _ _ _ _ _) | (with_reducible exact below_app0 _ _ _) | (with_reducible refine below_wov ?_ ?_ _) | (with_reducible refine below_drewN ?_ _) | (with_reducible refine Below.drew ?_) | (with_reducible refine Below.alloc ?_ ?_ _) | (with_reducible refine Below.setCell ?_ ?_ _) | (with_reducible exact Nat.le_refl _) | omega | (simp only [World.size_alloc, World.size_setCell, World.size_drew, Wov_size, World.heap_drewN, Array.size_append]; omega))))
end Go.Proofs.Ytnjhjgkekmjmdaa
