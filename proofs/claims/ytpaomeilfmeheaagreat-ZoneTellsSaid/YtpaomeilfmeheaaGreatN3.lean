/- The document's zones: contracts of Common, Meet. No condition. -/
import Derived.Test.YtpaomeilfmeheaaGreatN1
import Derived.Test.YtpaomeilfmeheaaGreatH9
import Derived.Test.YtpaomeilfmeheaaGreatH12
import Derived.Test.YtpaomeilfmeheaaGreatG6
import Derived.Test.YtpaomeilfmeheaaGreatMF
namespace Go.Proofs.YtpaomeilfmeheaaGreat
set_option linter.unusedSimpArgs false
set_option linter.unusedVariables false
open Go Go.RowKit Go.Shelf
attribute [local go_sem] Nat.add_assoc Nat.add_lt_add_iff_left lit_lt_add


set_option maxRecDepth 10000 in
set_option maxHeartbeats 4000000 in
theorem rcommon_any (a b : Nat → Int) (w : World) (ka : okZ a = true) (kb : okZ b = true) : Calls Tryz.prog 38 #[zoneV a, zoneV b] w (Gives w (zoneR (meetZ a b).1 (meetZ a b).2)) := by
  have FA : Hid (∀ w, Calls Tryz.prog 24 #[.agg #[.int .i64 (a 0), .int .i64 (a 1), .int .i64 (a 2), .int .i64 (a 3), .int .i64 (a 4), .int .i64 (a 5)]] w (rowPost w 3 9 (zF a))) := fun w => full8_any a w
  have FB : Hid (∀ w, Calls Tryz.prog 24 #[.agg #[.int .i64 (b 0), .int .i64 (b 1), .int .i64 (b 2), .int .i64 (b 3), .int .i64 (b 4), .int .i64 (b 5)]] w (rowPost w 3 9 (zF b))) := fun w => full8_any b w
  have ok := okD_less ((okZ_facts ka).1) ((okZ_facts kb).1)
  rw [meetZ_ok ka kb]
  obtain ⟨r, hr⟩ : ∃ r, r = closeM (3 : Nat) (3 * 3) (lessF (zF a) (zF b)) := ⟨_, rfl⟩
  have h2 : (∃ g, r = ⟨3, 9, g, 0⟩) ∨ r = errM 6 := by
    rcases closeM_cases ok with ⟨c, hc, _⟩ | ⟨hc, _⟩
    · exact .inl ⟨c, hr.trans hc⟩
    · exact .inr (hr.trans hc)
  have CM : Hid (∀ w B B' c c', SlP w (some ⟨B, 0, none⟩) 9 (zF a) → SlP w (some ⟨B', 0, none⟩) 9 (zF b) → Calls Tryz.prog 70 #[.agg #[.int .i64 3, .slice (some ⟨B, 0, none⟩) 9 c], .agg #[.int .i64 3, .slice (some ⟨B', 0, none⟩) 9 c']] w (matB w r.n r.N r.f (decide (r.e = 0)))) := fun w B B' c c' h g => common_any 3 (3 * 3) (some ⟨B, 0, none⟩) (some ⟨B', 0, none⟩) c c' (zF a) (zF b) r w rfl ok hr h g
  have TO := Lib.hid (told8_any r h2 (by rw [hr]; exact (closeM_ok 3 9 _).f))
  rw [← hr]
  have ez : (if r.e = 0 then toldZ r.f else ((fun _ => 0), r.e)) = zoneM r := by
    unfold zoneM
    rcases h2 with ⟨g, rfl⟩ | rfl <;> rfl
  rw [ez]
  obtain ⟨z, hz⟩ : ∃ z, z = zoneM r := ⟨_, rfl⟩
  rw [← hz] at TO ⊢
  obtain ⟨FF, hFF⟩ : ∃ F, F = zF a := ⟨_, rfl⟩
  obtain ⟨GG, hGG⟩ : ∃ F, F = zF b := ⟨_, rfl⟩
  rw [← hFF] at CM FA
  rw [← hGG] at CM FB
  clear ez h2 hr ok ka kb hz hFF hGG
  obtain ⟨⟨n, N, g, e0⟩, hm⟩ : ∃ m, m = r := ⟨_, rfl⟩
  rw [← hm] at TO CM
  obtain ⟨k, hk⟩ : ∃ k, k = decide (e0 = 0) := ⟨_, rfl⟩
  dsimp only at TO CM
  rw [← hk] at TO CM
  clear hm hk
  unfold rowPost at FA FB
  unfold zoneR zoneV at TO ⊢
  go_enter Tryz.func38, Tryz.ntmps38
  go_wp2
  refine wp_world (fun W => Below w.heap.size w W ∧ BoxZ W w.heap.size a ∧ BoxZ W (w.heap.size + 1) b ∧ HoldsA W (w.heap.size + 2) 6 (fun _ => 0)) ⟨by (repeat' (first | (with_reducible assumption) | (with_reducible exact Below.refl _ _) | (with_reducible refine below_wov ?_ ?_ _) | (with_reducible refine below_drewN ?_ _) | (with_reducible refine Below.drew ?_) | (with_reducible refine Below.alloc ?_ ?_ _) | (with_reducible refine Below.setCell ?_ ?_ _) | (with_reducible exact Nat.le_refl _) | omega | (simp only [World.size_alloc, World.size_setCell, World.size_drew, Wov_size, World.heap_drewN]; omega))), (BoxZ.new (W := w) (t := 24) rfl).below (by (repeat' (first | (with_reducible assumption) | (with_reducible exact Below.refl _ _) | (with_reducible refine below_wov ?_ ?_ _) | (with_reducible refine below_drewN ?_ _) | (with_reducible refine Below.drew ?_) | (with_reducible refine Below.alloc ?_ ?_ _) | (with_reducible refine Below.setCell ?_ ?_ _) | (with_reducible exact Nat.le_refl _) | omega | (simp only [World.size_alloc, World.size_setCell, World.size_drew, Wov_size, World.heap_drewN]; omega)))), (BoxZ.new (W := w.alloc (.cells #[.int .i64 (a 0), .int .i64 (a 1), .int .i64 (a 2), .int .i64 (a 3), .int .i64 (a 4), .int .i64 (a 5)] 24)) (t := 24) (by simp)).below (by (repeat' (first | (with_reducible assumption) | (with_reducible exact Below.refl _ _) | (with_reducible refine below_wov ?_ ?_ _) | (with_reducible refine below_drewN ?_ _) | (with_reducible refine Below.drew ?_) | (with_reducible refine Below.alloc ?_ ?_ _) | (with_reducible refine Below.setCell ?_ ?_ _) | (with_reducible exact Nat.le_refl _) | omega | (simp only [World.size_alloc, World.size_setCell, World.size_drew, Wov_size, World.heap_drewN]; omega)))), (HoldsA.zone (W := (w.alloc (.cells #[.int .i64 (a 0), .int .i64 (a 1), .int .i64 (a 2), .int .i64 (a 3), .int .i64 (a 4), .int .i64 (a 5)] 24)).alloc (.cells #[.int .i64 (b 0), .int .i64 (b 1), .int .i64 (b 2), .int .i64 (b 3), .int .i64 (b 4), .int .i64 (b 5)] 24)) (t := 24) (by simp)).below (by (repeat' (first | (with_reducible assumption) | (with_reducible exact Below.refl _ _) | (with_reducible refine below_wov ?_ ?_ _) | (with_reducible refine below_drewN ?_ _) | (with_reducible refine Below.drew ?_) | (with_reducible refine Below.alloc ?_ ?_ _) | (with_reducible refine Below.setCell ?_ ?_ _) | (with_reducible exact Nat.le_refl _) | omega | (simp only [World.size_alloc, World.size_setCell, World.size_drew, Wov_size, World.heap_drewN]; omega))))⟩ ?_
  rintro W ⟨hbW, ⟨al, a0, a1, a2, a3, a4, a5⟩, ⟨bl, b0, b1, b2, b3, b4, b5⟩, ⟨rl, rH⟩⟩
  have hsW := hbW.size
  have r0 := (rH 0 (by omega)).1
  have y0 := (rH 0 (by omega)).2
  have r1 := (rH 1 (by omega)).1
  have y1 := (rH 1 (by omega)).2
  have r2 := (rH 2 (by omega)).1
  have y2 := (rH 2 (by omega)).2
  have r3 := (rH 3 (by omega)).1
  have y3 := (rH 3 (by omega)).2
  have r4 := (rH 4 (by omega)).1
  have y4 := (rH 4 (by omega)).2
  have r5 := (rH 5 (by omega)).1
  have y5 := (rH 5 (by omega)).2
  clear rH
  go_region_held3 (fun w' => w'.cell? ⟨w.heap.size, 0, none⟩ = some (.int .i64 (a 0)) ∧ w'.cell? ⟨w.heap.size, 1, none⟩ = some (.int .i64 (a 1)) ∧ w'.cell? ⟨w.heap.size, 2, none⟩ = some (.int .i64 (a 2)) ∧ w'.cell? ⟨w.heap.size, 3, none⟩ = some (.int .i64 (a 3)) ∧ w'.cell? ⟨w.heap.size, 4, none⟩ = some (.int .i64 (a 4)) ∧ w'.cell? ⟨w.heap.size, 5, none⟩ = some (.int .i64 (a 5)) ∧ w'.cell? ⟨w.heap.size + 1, 0, none⟩ = some (.int .i64 (b 0)) ∧ w'.cell? ⟨w.heap.size + 1, 1, none⟩ = some (.int .i64 (b 1)) ∧ w'.cell? ⟨w.heap.size + 1, 2, none⟩ = some (.int .i64 (b 2)) ∧ w'.cell? ⟨w.heap.size + 1, 3, none⟩ = some (.int .i64 (b 3)) ∧ w'.cell? ⟨w.heap.size + 1, 4, none⟩ = some (.int .i64 (b 4)) ∧ w'.cell? ⟨w.heap.size + 1, 5, none⟩ = some (.int .i64 (b 5)))
    ((simp [go_sem, *]))
    (first
    | (go_at_call_of 24 (Value.int IntKind.i64 (a 0)); ((with_reducible refine (FA.out _).mono ?_); rintro e w' ⟨BA, cpa, rfl, hA1, hB1, hH1, qa, rfl⟩; have t1 := slp_of hH1 hB1; clear hA1 hB1 hH1))
    | (go_at_call_of 24 (Value.int IntKind.i64 (b 0)); ((with_reducible refine (FB.out _).mono ?_); rintro e w' ⟨BB, cpb, rfl, hA2, hB2, hH2, qb, rfl⟩; have t2 := slp_of hH2 hB2; clear hA2 hB2 hH2))
    | (go_at_call 70; (try simp only [drew_Wov, Wov_Wov, Array.append_assoc] at t1); (try simp only [drew_Wov, Wov_Wov, Array.append_assoc] at t2); refine (CM.out _ _ _ _ _ (t1.below (by (repeat' (first | (with_reducible assumption) | (with_reducible exact Below.refl _ _) | (with_reducible exact below_app _ _ _ _) | (with_reducible exact below_app2 _ _ _ _ _ _) | (with_reducible exact below_app0 _ _ _) | (with_reducible refine below_wov ?_ ?_ _) | (with_reducible refine below_drewN ?_ _) | (with_reducible refine Below.drew ?_) | (with_reducible refine Below.alloc ?_ ?_ _) | (with_reducible refine Below.setCell ?_ ?_ _) | (with_reducible exact Nat.le_refl _) | omega | (simp only [World.size_alloc, World.size_setCell, World.size_drew, Wov_size, World.heap_drewN, Array.size_append]; omega))))) (t2.below (by (repeat' (first | (with_reducible assumption) | (with_reducible exact Below.refl _ _) | (with_reducible exact below_app _ _ _ _) | (with_reducible exact below_app2 _ _ _ _ _ _) | (with_reducible exact below_app0 _ _ _) | (with_reducible refine below_wov ?_ ?_ _) | (with_reducible refine below_drewN ?_ _) | (with_reducible refine Below.drew ?_) | (with_reducible refine Below.alloc ?_ ?_ _) | (with_reducible refine Below.setCell ?_ ?_ _) | (with_reducible exact Nat.le_refl _) | omega | (simp only [World.size_alloc, World.size_setCell, World.size_drew, Wov_size, World.heap_drewN, Array.size_append]; omega)))))).mono ?_; rintro e w' ⟨⟨p3, c3, rfl, ho⟩, qc, rfl⟩; have t3 := ho.slp; clear ho t1 t2)
    | (go_at_call 27; (try simp only [drew_Wov, Wov_Wov, Array.append_assoc] at t3); refine (TO.out _ _ _ t3).mono ?_; rintro e w' ⟨rfl, qd, rfl⟩; clear t3))
  all_goals
    simp only [Exit.then]
    refine ‹∀ (a : Act) (w_1 : World), Code.wp Tryz.prog _ (bodyPost Tryz.prog _ _) a w_1 → _› _ _ ?_
    refine wp_world (fun X => Below w.heap.size w X ∧ BoxZ X (w.heap.size + 2) z.1) ⟨by (repeat' (first | (with_reducible assumption) | (with_reducible exact Below.refl _ _) | (with_reducible exact below_app _ _ _ _) | (with_reducible exact below_app2 _ _ _ _ _ _) | (with_reducible exact below_app0 _ _ _) | (with_reducible refine below_wov ?_ ?_ _) | (with_reducible refine below_drewN ?_ _) | (with_reducible refine Below.drew ?_) | (with_reducible refine Below.alloc ?_ ?_ _) | (with_reducible refine Below.setCell ?_ ?_ _) | (with_reducible exact Nat.le_refl _) | omega | (simp only [World.size_alloc, World.size_setCell, World.size_drew, Wov_size, World.heap_drewN, Array.size_append]; omega))), ?hyp⟩ ?_
    case hyp => exact ⟨by simp only [World.size_alloc, World.size_setCell, World.size_drew, Wov_size, Array.size_append]; omega, by simp [go_sem, *], by simp [go_sem, *], by simp [go_sem, *], by simp [go_sem, *], by simp [go_sem, *], by simp [go_sem, *]⟩
    rintro X ⟨hbX, ⟨xl, x0, x1, x2, x3, x4, x5⟩⟩
    go_wp2
    refine bodyPost_ret (by simp [results, Tryz.results38, go_sem, x0, x1, x2, x3, x4, x5, xl]; try rfl) rfl ?_
    exact gives_end rfl (by (repeat' (first | (with_reducible assumption) | (with_reducible exact Below.refl _ _) | (with_reducible refine below_wov ?_ ?_ _) | (with_reducible refine below_drewN ?_ _) | (with_reducible refine Below.drew ?_) | (with_reducible refine Below.alloc ?_ ?_ _) | (with_reducible refine Below.setCell ?_ ?_ _) | (with_reducible exact Nat.le_refl _) | omega | (simp only [World.size_alloc, World.size_setCell, World.size_drew, Wov_size, World.heap_drewN]; omega))))

set_option maxRecDepth 10000 in
set_option maxHeartbeats 4000000 in
theorem rmeet_any (a b : Nat → Int) (w : World) (ha : FitsZ a) (hb : FitsZ b) : Calls Tryz.prog 13 #[zoneV a, zoneV b] w (Gives w (zoneR (meetZ a b).1 (meetZ a b).2)) := by
  have MA : Hid (∀ w, Calls Tryz.prog 31 #[.agg #[.int .i64 (a 0), .int .i64 (a 1), .int .i64 (a 2), .int .i64 (a 3), .int .i64 (a 4), .int .i64 (a 5)]] w (Gives w (.bool (okZ a)))) := fun w => may8_any a w ha
  have MB : Hid (∀ w, Calls Tryz.prog 31 #[.agg #[.int .i64 (b 0), .int .i64 (b 1), .int .i64 (b 2), .int .i64 (b 3), .int .i64 (b 4), .int .i64 (b 5)]] w (Gives w (.bool (okZ b)))) := fun w => may8_any b w hb
  cases ka : okZ a
  · rw [meetZ_bad (by rw [ka]; rfl)]
    rw [ka] at MA
    clear MB ka ha hb
    unfold zoneR zoneV
    go_enter Tryz.func13, Tryz.ntmps13
    go_wp2_with (fail)
    refine (MA.out _).mono ?_; rintro e w' ⟨rfl, q1, rfl⟩
    go_wp2
    go_returns
    exact gives_end rfl (by (repeat' (first | (with_reducible assumption) | (with_reducible exact Below.refl _ _) | (with_reducible refine below_wov ?_ ?_ _) | (with_reducible refine below_drewN ?_ _) | (with_reducible refine Below.drew ?_) | (with_reducible refine Below.alloc ?_ ?_ _) | (with_reducible refine Below.setCell ?_ ?_ _) | (with_reducible exact Nat.le_refl _) | omega | (simp only [World.size_alloc, World.size_setCell, World.size_drew, Wov_size, World.heap_drewN]; omega))))
  · rw [ka] at MA
    cases kb : okZ b
    · rw [meetZ_bad (by rw [kb, ka]; rfl)]
      rw [kb] at MB
      clear ka kb ha hb
      unfold zoneR zoneV
      go_enter Tryz.func13, Tryz.ntmps13
      go_wp2_with (fail)
      refine (MA.out _).mono ?_; rintro e w' ⟨rfl, q1, rfl⟩
      go_wp2_with (fail)
      refine (MB.out _).mono ?_; rintro e w' ⟨rfl, q2, rfl⟩
      go_wp2
      go_returns
      exact gives_end rfl (by (repeat' (first | (with_reducible assumption) | (with_reducible exact Below.refl _ _) | (with_reducible refine below_wov ?_ ?_ _) | (with_reducible refine below_drewN ?_ _) | (with_reducible refine Below.drew ?_) | (with_reducible refine Below.alloc ?_ ?_ _) | (with_reducible refine Below.setCell ?_ ?_ _) | (with_reducible exact Nat.le_refl _) | omega | (simp only [World.size_alloc, World.size_setCell, World.size_drew, Wov_size, World.heap_drewN]; omega))))
    · rw [kb] at MB
      have CM := Lib.hid (fun w => rcommon_any a b w ka kb)
      obtain ⟨r, hr⟩ : ∃ r, r = meetZ a b := ⟨_, rfl⟩
      rw [← hr] at CM ⊢
      clear ka kb ha hb hr
      unfold zoneR zoneV at CM ⊢
      go_enter Tryz.func13, Tryz.ntmps13
      go_wp2_with (fail)
      refine (MA.out _).mono ?_; rintro e w' ⟨rfl, q1, rfl⟩
      go_wp2_with (fail)
      refine (MB.out _).mono ?_; rintro e w' ⟨rfl, q2, rfl⟩
      go_wp2_with (fail)
      refine (CM.out _).mono ?_; rintro e w' ⟨rfl, q3, rfl⟩
      go_wp2
      go_returns
      exact gives_end rfl (by (repeat' (first | (with_reducible assumption) | (with_reducible exact Below.refl _ _) | (with_reducible refine below_wov ?_ ?_ _) | (with_reducible refine below_drewN ?_ _) | (with_reducible refine Below.drew ?_) | (with_reducible refine Below.alloc ?_ ?_ _) | (with_reducible refine Below.setCell ?_ ?_ _) | (with_reducible exact Nat.le_refl _) | omega | (simp only [World.size_alloc, World.size_setCell, World.size_drew, Wov_size, World.heap_drewN]; omega))))
end Go.Proofs.YtpaomeilfmeheaaGreat
