/- Zones: contract of zone.Meet. No condition. -/
import Derived.Test.YtpaomeilfmeheaaGreatH9
namespace Go.Proofs.YtpaomeilfmeheaaGreat
set_option linter.unusedSimpArgs false
set_option linter.unusedVariables false
open Go Go.RowKit Go.Shelf
attribute [local go_sem] Nat.add_assoc Nat.add_lt_add_iff_left lit_lt_add

theorem meetZ_cases {a b : Nat → Int} (ha : okZ a = true) (hb : okZ b = true) : (∃ g, meetM 3 9 (zF a) 3 9 (zF b) = ⟨3, 9, g, 0⟩ ∧ Fits 9 g) ∨ meetM 3 9 (zF a) 3 9 (zF b) = errM 6 := by
  have e : meetM 3 9 (zF a) 3 9 (zF b) = closeM (3 : Nat) (3 * 3) (lessF (zF a) (zF b)) := meet_e (okZ_facts ha).1 (okZ_facts hb).1
  rw [e]
  rcases closeM_cases (okD_less (okZ_facts ha).1 (okZ_facts hb).1) with ⟨c, hc, K⟩ | ⟨hc, _⟩
  · exact .inl ⟨c, hc, closedI_fits K⟩
  · exact .inr hc

set_option maxRecDepth 10000 in
set_option maxHeartbeats 16000000 in
theorem zmeet_any (a b : Nat → Int) (w : World) (ha : FitsZ a) (hb : FitsZ b) : Calls Tryz.prog 12 #[zoneV a, zoneV b] w (Gives w (zoneR (meetZ a b).1 (meetZ a b).2)) := by
  have CH0 : ∀ w A, TwoZ w A a b → Calls Tryz.prog 34 #[.slice (some ⟨A, 0, none⟩) 2 2] w (Gives w (.int .i64 (rcode (okZ a && okZ b)))) := fun w A h => zchecked_any A a b w h ha hb
  have MA : Hid (∀ w, Calls Tryz.prog 21 #[.agg #[.int .i64 (a 0), .int .i64 (a 1), .int .i64 (a 2), .int .i64 (a 3), .int .i64 (a 4), .int .i64 (a 5)]] w (rowPost w 3 9 (zF a))) := fun w => matrix_any a w
  have MB : Hid (∀ w, Calls Tryz.prog 21 #[.agg #[.int .i64 (b 0), .int .i64 (b 1), .int .i64 (b 2), .int .i64 (b 3), .int .i64 (b 4), .int .i64 (b 5)]] w (rowPost w 3 9 (zF b))) := fun w => matrix_any b w
  have MT0 : ∀ w B B' c c', SlP w (some ⟨B, 0, none⟩) 9 (zF a) → SlP w (some ⟨B', 0, none⟩) 9 (zF b) → Calls Tryz.prog 37 #[.agg #[.int .i64 3, .slice (some ⟨B, 0, none⟩) 9 c], .agg #[.int .i64 3, .slice (some ⟨B', 0, none⟩) 9 c']] w (matC w (meetM 3 9 (zF a) 3 9 (zF b)).n (meetM 3 9 (zF a) 3 9 (zF b)).N (meetM 3 9 (zF a) 3 9 (zF b)).f (meetM 3 9 (zF a) 3 9 (zF b)).e) := fun w B B' c c' h k => meet_any 3 _ 9 c _ 3 _ 9 c' _ w (by decide) (by decide) h k (zF_fits ha) (zF_fits hb) (by omega) (by omega)
  unfold meetZ
  cases ok : (okZ a && okZ b)
  · rw [ok] at CH0
    simp only [rcode_f, Bool.false_eq_true, if_false] at CH0 ⊢
    have CH := Lib.hid CH0
    clear CH0 MT0 MA MB ok
    unfold zoneR
    unfold zoneV
    go_enter Tryz.func12, Tryz.ntmps12
    go_wp2_with (fail)
    refine (CH.out _ _ (by constructor <;> simp [go_sem])).mono ?_; rintro e w' ⟨rfl, q1, rfl⟩
    go_wp2
    go_returns
    exact gives_end rfl (by (repeat' (first | (with_reducible assumption) | (with_reducible exact Below.refl _ _) | (with_reducible refine below_wov ?_ ?_ _) | (with_reducible refine below_drewN ?_ _) | (with_reducible refine Below.drew ?_) | (with_reducible refine Below.alloc ?_ ?_ _) | (with_reducible refine Below.setCell ?_ ?_ _) | (with_reducible exact Nat.le_refl _) | omega | (simp only [World.size_alloc, World.size_setCell, World.size_drew, Wov_size, World.heap_drewN]; omega))))
  · rw [ok] at CH0
    simp only [rcode_t, if_true] at CH0 ⊢
    have CH := Lib.hid CH0
    have ok2 := ok
    simp only [Bool.and_eq_true] at ok2
    have mc := meetZ_cases ok2.1 ok2.2
    obtain ⟨FA, hFA⟩ : ∃ F, F = zF a := ⟨_, rfl⟩
    obtain ⟨FB, hFB⟩ : ∃ F, F = zF b := ⟨_, rfl⟩
    rw [← hFA] at MA MT0 mc ⊢
    rw [← hFB] at MB MT0 mc ⊢
    rcases mc with ⟨g, hg, fg⟩ | hg
    · rw [hg] at MT0 ⊢
      have MT : Hid (∀ w B B' c c', SlP w (some ⟨B, 0, none⟩) 9 FA → SlP w (some ⟨B', 0, none⟩) 9 FB → Calls Tryz.prog 37 #[.agg #[.int .i64 3, .slice (some ⟨B, 0, none⟩) 9 c], .agg #[.int .i64 3, .slice (some ⟨B', 0, none⟩) 9 c']] w (matC w 3 9 g 0)) := MT0
      have TD : Hid (∀ w p c, SlP w p 9 g → Calls Tryz.prog 26 #[.agg #[.int .i64 3, .slice p 9 c]] w (Gives w (.tuple #[.agg #[.int .i64 ((toldZ g).1 0), .int .i64 ((toldZ g).1 1), .int .i64 ((toldZ g).1 2), .int .i64 ((toldZ g).1 3), .int .i64 ((toldZ g).1 4), .int .i64 ((toldZ g).1 5)], .int .i64 (toldZ g).2]))) := fun w p c h => ztold_any p c g w h fg
      show Calls _ _ _ _ (Gives w (zoneR (toldZ g).1 (toldZ g).2))
      generalize (toldZ g).1 = zz at *
      generalize (toldZ g).2 = ee at *
      clear fg
      clear CH0 MT0 ok ok2 hFA hFB hg ha hb
      unfold zoneR
      unfold zoneV
      go_enter Tryz.func12, Tryz.ntmps12
      go_wp2_with (fail)
      refine (CH.out _ _ (by constructor <;> simp [go_sem])).mono ?_; rintro e w' ⟨rfl, q1, rfl⟩
      go_wp2
      refine wp_world (fun W => Below w.heap.size w W ∧ BoxZ W w.heap.size a ∧ BoxZ W (w.heap.size + 1) b ∧ HoldsA W (w.heap.size + 2) 6 (fun _ => 0)) ⟨by (repeat' (first | (with_reducible assumption) | (with_reducible exact Below.refl _ _) | (with_reducible refine below_wov ?_ ?_ _) | (with_reducible refine below_drewN ?_ _) | (with_reducible refine Below.drew ?_) | (with_reducible refine Below.alloc ?_ ?_ _) | (with_reducible refine Below.setCell ?_ ?_ _) | (with_reducible exact Nat.le_refl _) | omega | (simp only [World.size_alloc, World.size_setCell, World.size_drew, Wov_size, World.heap_drewN]; omega))), (BoxZ.new (W := w) (t := 24) rfl).below (by (repeat' (first | (with_reducible assumption) | (with_reducible exact Below.refl _ _) | (with_reducible refine below_wov ?_ ?_ _) | (with_reducible refine below_drewN ?_ _) | (with_reducible refine Below.drew ?_) | (with_reducible refine Below.alloc ?_ ?_ _) | (with_reducible refine Below.setCell ?_ ?_ _) | (with_reducible exact Nat.le_refl _) | omega | (simp only [World.size_alloc, World.size_setCell, World.size_drew, Wov_size, World.heap_drewN]; omega)))), (BoxZ.new (W := w.alloc (.cells #[.int .i64 (a 0), .int .i64 (a 1), .int .i64 (a 2), .int .i64 (a 3), .int .i64 (a 4), .int .i64 (a 5)] 24)) (t := 24) (by simp)).below (by (repeat' (first | (with_reducible assumption) | (with_reducible exact Below.refl _ _) | (with_reducible refine below_wov ?_ ?_ _) | (with_reducible refine below_drewN ?_ _) | (with_reducible refine Below.drew ?_) | (with_reducible refine Below.alloc ?_ ?_ _) | (with_reducible refine Below.setCell ?_ ?_ _) | (with_reducible exact Nat.le_refl _) | omega | (simp only [World.size_alloc, World.size_setCell, World.size_drew, Wov_size, World.heap_drewN]; omega)))), (HoldsA.zone (W := (w.alloc (.cells #[.int .i64 (a 0), .int .i64 (a 1), .int .i64 (a 2), .int .i64 (a 3), .int .i64 (a 4), .int .i64 (a 5)] 24)).alloc (.cells #[.int .i64 (b 0), .int .i64 (b 1), .int .i64 (b 2), .int .i64 (b 3), .int .i64 (b 4), .int .i64 (b 5)] 24)) (t := 24) (by simp)).below (by (repeat' (first | (with_reducible assumption) | (with_reducible exact Below.refl _ _) | (with_reducible refine below_wov ?_ ?_ _) | (with_reducible refine below_drewN ?_ _) | (with_reducible refine Below.drew ?_) | (with_reducible refine Below.alloc ?_ ?_ _) | (with_reducible refine Below.setCell ?_ ?_ _) | (with_reducible exact Nat.le_refl _) | omega | (simp only [World.size_alloc, World.size_setCell, World.size_drew, Wov_size, World.heap_drewN]; omega))))⟩ ?_
      rintro W ⟨hbW, ⟨al, a0, a1, a2, a3, a4, a5⟩, ⟨bl, b0, b1, b2, b3, b4, b5⟩, ⟨rl, rH⟩⟩
      have hsW := hbW.size
      have RH := Lib.hid rH
      clear CH rH
      go_region_held3 (fun w' => w'.cell? ⟨w.heap.size, 0, none⟩ = some (.int .i64 (a 0)) ∧ w'.cell? ⟨w.heap.size, 1, none⟩ = some (.int .i64 (a 1)) ∧ w'.cell? ⟨w.heap.size, 2, none⟩ = some (.int .i64 (a 2)) ∧ w'.cell? ⟨w.heap.size, 3, none⟩ = some (.int .i64 (a 3)) ∧ w'.cell? ⟨w.heap.size, 4, none⟩ = some (.int .i64 (a 4)) ∧ w'.cell? ⟨w.heap.size, 5, none⟩ = some (.int .i64 (a 5)) ∧ w'.cell? ⟨w.heap.size + 1, 0, none⟩ = some (.int .i64 (b 0)) ∧ w'.cell? ⟨w.heap.size + 1, 1, none⟩ = some (.int .i64 (b 1)) ∧ w'.cell? ⟨w.heap.size + 1, 2, none⟩ = some (.int .i64 (b 2)) ∧ w'.cell? ⟨w.heap.size + 1, 3, none⟩ = some (.int .i64 (b 3)) ∧ w'.cell? ⟨w.heap.size + 1, 4, none⟩ = some (.int .i64 (b 4)) ∧ w'.cell? ⟨w.heap.size + 1, 5, none⟩ = some (.int .i64 (b 5)))
          ((simp [go_sem, *]))
          (first
          | (go_at_call_of 21 (Value.int IntKind.i64 (a 0)); ((with_reducible refine (MA.out _).mono ?_); rintro e w' ⟨BA, cpa, rfl, hA1, hB1, hH1, qa, rfl⟩; have t1 := slp_of hH1 hB1; clear hA1 hB1 hH1))
          | (go_at_call_of 21 (Value.int IntKind.i64 (b 0)); ((with_reducible refine (MB.out _).mono ?_); rintro e w' ⟨BB, cpb, rfl, hA2, hB2, hH2, qb, rfl⟩; have t2 := slp_of hH2 hB2; clear hA2 hB2 hH2))
          | (go_at_call 37; (try simp only [drew_Wov, Wov_Wov, Array.append_assoc] at t1); (try simp only [drew_Wov, Wov_Wov, Array.append_assoc] at t2); refine (MT.out _ _ _ _ _ (t1.below (by (repeat' (first | (with_reducible assumption) | (with_reducible exact Below.refl _ _) | (with_reducible exact below_app _ _ _ _) | (with_reducible exact below_app2 _ _ _ _ _ _) | (with_reducible exact below_app0 _ _ _) | (with_reducible refine below_wov ?_ ?_ _) | (with_reducible refine below_drewN ?_ _) | (with_reducible refine Below.drew ?_) | (with_reducible refine Below.alloc ?_ ?_ _) | (with_reducible refine Below.setCell ?_ ?_ _) | (with_reducible exact Nat.le_refl _) | omega | (simp only [World.size_alloc, World.size_setCell, World.size_drew, Wov_size, World.heap_drewN, Array.size_append]; omega))))) (t2.below (by (repeat' (first | (with_reducible assumption) | (with_reducible exact Below.refl _ _) | (with_reducible exact below_app _ _ _ _) | (with_reducible exact below_app2 _ _ _ _ _ _) | (with_reducible exact below_app0 _ _ _) | (with_reducible refine below_wov ?_ ?_ _) | (with_reducible refine below_drewN ?_ _) | (with_reducible refine Below.drew ?_) | (with_reducible refine Below.alloc ?_ ?_ _) | (with_reducible refine Below.setCell ?_ ?_ _) | (with_reducible exact Nat.le_refl _) | omega | (simp only [World.size_alloc, World.size_setCell, World.size_drew, Wov_size, World.heap_drewN, Array.size_append]; omega)))))).mono ?_; rintro e w' ⟨⟨p3, c3, rfl, ho⟩, qc, rfl⟩; obtain ⟨B3, rfl, hA3, hB3, hH3⟩ := ho.resolve_left (by omega); have t3 := slp_of hH3 hB3; clear ho hH3 t1 t2))
      all_goals
        have r0 := (RH.out 0 (by omega)).1
        have y0 := (RH.out 0 (by omega)).2
        have r1 := (RH.out 1 (by omega)).1
        have y1 := (RH.out 1 (by omega)).2
        have r2 := (RH.out 2 (by omega)).1
        have y2 := (RH.out 2 (by omega)).2
        have r3 := (RH.out 3 (by omega)).1
        have y3 := (RH.out 3 (by omega)).2
        have r4 := (RH.out 4 (by omega)).1
        have y4 := (RH.out 4 (by omega)).2
        have r5 := (RH.out 5 (by omega)).1
        have y5 := (RH.out 5 (by omega)).2
        go_wp2_with (fail)
        (try simp only [drew_Wov, Wov_Wov, Array.append_assoc] at t3)
        (try simp only [drew_Wov, Wov_Wov, Array.append_assoc] at hA3)
        (try simp only [drew_Wov, Wov_Wov, Array.append_assoc] at hB3)
        refine (TD.out _ _ _ ?sl).mono ?_
        case sl =>
          first
          | (refine SlP.below t3 ?_; (repeat' (first | (with_reducible assumption) | (with_reducible exact Below.refl _ _) | (with_reducible exact below_app _ _ _ _) | (with_reducible exact below_app2 _ _ _ _ _ _) | (with_reducible exact below_app0 _ _ _) | (with_reducible refine below_wov ?_ ?_ _) | (with_reducible refine below_drewN ?_ _) | (with_reducible refine Below.drew ?_) | (with_reducible refine Below.alloc ?_ ?_ _) | (with_reducible refine Below.setCell ?_ ?_ _) | (with_reducible exact Nat.le_refl _) | omega | (simp only [World.size_alloc, World.size_setCell, World.size_drew, Wov_size, World.heap_drewN, Array.size_append]; omega))); done)
          | (refine slp_other (slp_other (SlP.below t3 ?_) ?_ ?_) ?_ ?_ <;> first | (simp only [World.size_alloc, World.size_setCell, Wov_size, Array.size_append] at hA3 hB3 ⊢; omega) | ((repeat' (first | (with_reducible assumption) | (with_reducible exact Below.refl _ _) | (with_reducible exact below_app _ _ _ _) | (with_reducible exact below_app2 _ _ _ _ _ _) | (with_reducible exact below_app0 _ _ _) | (with_reducible refine below_wov ?_ ?_ _) | (with_reducible refine below_drewN ?_ _) | (with_reducible refine Below.drew ?_) | (with_reducible refine Below.alloc ?_ ?_ _) | (with_reducible refine Below.setCell ?_ ?_ _) | (with_reducible exact Nat.le_refl _) | omega | (simp only [World.size_alloc, World.size_setCell, World.size_drew, Wov_size, World.heap_drewN, Array.size_append]; omega)))))
        rintro e w' ⟨rfl, qd, rfl⟩
        go_wp2
        refine bodyPost_ret (by simp [results, Tryz.results12, go_sem, r0, r1, r2, r3, r4, r5, rl]; try rfl) rfl ?_
        exact gives_end rfl (by (repeat' (first | (with_reducible assumption) | (with_reducible exact Below.refl _ _) | (with_reducible refine below_wov ?_ ?_ _) | (with_reducible refine below_drewN ?_ _) | (with_reducible refine Below.drew ?_) | (with_reducible refine Below.alloc ?_ ?_ _) | (with_reducible refine Below.setCell ?_ ?_ _) | (with_reducible exact Nat.le_refl _) | omega | (simp only [World.size_alloc, World.size_setCell, World.size_drew, Wov_size, World.heap_drewN]; omega))))
    · rw [hg] at MT0 ⊢
      have MT : Hid (∀ w B B' c c', SlP w (some ⟨B, 0, none⟩) 9 FA → SlP w (some ⟨B', 0, none⟩) 9 FB → Calls Tryz.prog 37 #[.agg #[.int .i64 3, .slice (some ⟨B, 0, none⟩) 9 c], .agg #[.int .i64 3, .slice (some ⟨B', 0, none⟩) 9 c']] w (matC w 0 0 (fun _ => 0) 6)) := MT0
      show Calls _ _ _ _ (Gives w (zoneR (fun _ => 0) 6))
      clear CH0 MT0 ok ok2 hFA hFB hg ha hb
      unfold zoneR
      unfold zoneV
      go_enter Tryz.func12, Tryz.ntmps12
      go_wp2_with (fail)
      refine (CH.out _ _ (by constructor <;> simp [go_sem])).mono ?_; rintro e w' ⟨rfl, q1, rfl⟩
      go_wp2
      refine wp_world (fun W => Below w.heap.size w W ∧ BoxZ W w.heap.size a ∧ BoxZ W (w.heap.size + 1) b ∧ HoldsA W (w.heap.size + 2) 6 (fun _ => 0)) ⟨by (repeat' (first | (with_reducible assumption) | (with_reducible exact Below.refl _ _) | (with_reducible refine below_wov ?_ ?_ _) | (with_reducible refine below_drewN ?_ _) | (with_reducible refine Below.drew ?_) | (with_reducible refine Below.alloc ?_ ?_ _) | (with_reducible refine Below.setCell ?_ ?_ _) | (with_reducible exact Nat.le_refl _) | omega | (simp only [World.size_alloc, World.size_setCell, World.size_drew, Wov_size, World.heap_drewN]; omega))), (BoxZ.new (W := w) (t := 24) rfl).below (by (repeat' (first | (with_reducible assumption) | (with_reducible exact Below.refl _ _) | (with_reducible refine below_wov ?_ ?_ _) | (with_reducible refine below_drewN ?_ _) | (with_reducible refine Below.drew ?_) | (with_reducible refine Below.alloc ?_ ?_ _) | (with_reducible refine Below.setCell ?_ ?_ _) | (with_reducible exact Nat.le_refl _) | omega | (simp only [World.size_alloc, World.size_setCell, World.size_drew, Wov_size, World.heap_drewN]; omega)))), (BoxZ.new (W := w.alloc (.cells #[.int .i64 (a 0), .int .i64 (a 1), .int .i64 (a 2), .int .i64 (a 3), .int .i64 (a 4), .int .i64 (a 5)] 24)) (t := 24) (by simp)).below (by (repeat' (first | (with_reducible assumption) | (with_reducible exact Below.refl _ _) | (with_reducible refine below_wov ?_ ?_ _) | (with_reducible refine below_drewN ?_ _) | (with_reducible refine Below.drew ?_) | (with_reducible refine Below.alloc ?_ ?_ _) | (with_reducible refine Below.setCell ?_ ?_ _) | (with_reducible exact Nat.le_refl _) | omega | (simp only [World.size_alloc, World.size_setCell, World.size_drew, Wov_size, World.heap_drewN]; omega)))), (HoldsA.zone (W := (w.alloc (.cells #[.int .i64 (a 0), .int .i64 (a 1), .int .i64 (a 2), .int .i64 (a 3), .int .i64 (a 4), .int .i64 (a 5)] 24)).alloc (.cells #[.int .i64 (b 0), .int .i64 (b 1), .int .i64 (b 2), .int .i64 (b 3), .int .i64 (b 4), .int .i64 (b 5)] 24)) (t := 24) (by simp)).below (by (repeat' (first | (with_reducible assumption) | (with_reducible exact Below.refl _ _) | (with_reducible refine below_wov ?_ ?_ _) | (with_reducible refine below_drewN ?_ _) | (with_reducible refine Below.drew ?_) | (with_reducible refine Below.alloc ?_ ?_ _) | (with_reducible refine Below.setCell ?_ ?_ _) | (with_reducible exact Nat.le_refl _) | omega | (simp only [World.size_alloc, World.size_setCell, World.size_drew, Wov_size, World.heap_drewN]; omega))))⟩ ?_
      rintro W ⟨hbW, ⟨al, a0, a1, a2, a3, a4, a5⟩, ⟨bl, b0, b1, b2, b3, b4, b5⟩, ⟨rl, rH⟩⟩
      have hsW := hbW.size
      have RH := Lib.hid rH
      clear CH rH
      go_region_held3 (fun w' => w'.cell? ⟨w.heap.size, 0, none⟩ = some (.int .i64 (a 0)) ∧ w'.cell? ⟨w.heap.size, 1, none⟩ = some (.int .i64 (a 1)) ∧ w'.cell? ⟨w.heap.size, 2, none⟩ = some (.int .i64 (a 2)) ∧ w'.cell? ⟨w.heap.size, 3, none⟩ = some (.int .i64 (a 3)) ∧ w'.cell? ⟨w.heap.size, 4, none⟩ = some (.int .i64 (a 4)) ∧ w'.cell? ⟨w.heap.size, 5, none⟩ = some (.int .i64 (a 5)) ∧ w'.cell? ⟨w.heap.size + 1, 0, none⟩ = some (.int .i64 (b 0)) ∧ w'.cell? ⟨w.heap.size + 1, 1, none⟩ = some (.int .i64 (b 1)) ∧ w'.cell? ⟨w.heap.size + 1, 2, none⟩ = some (.int .i64 (b 2)) ∧ w'.cell? ⟨w.heap.size + 1, 3, none⟩ = some (.int .i64 (b 3)) ∧ w'.cell? ⟨w.heap.size + 1, 4, none⟩ = some (.int .i64 (b 4)) ∧ w'.cell? ⟨w.heap.size + 1, 5, none⟩ = some (.int .i64 (b 5)))
          ((simp [go_sem, *]))
          (first
          | (go_at_call_of 21 (Value.int IntKind.i64 (a 0)); ((with_reducible refine (MA.out _).mono ?_); rintro e w' ⟨BA, cpa, rfl, hA1, hB1, hH1, qa, rfl⟩; have t1 := slp_of hH1 hB1; clear hA1 hB1 hH1))
          | (go_at_call_of 21 (Value.int IntKind.i64 (b 0)); ((with_reducible refine (MB.out _).mono ?_); rintro e w' ⟨BB, cpb, rfl, hA2, hB2, hH2, qb, rfl⟩; have t2 := slp_of hH2 hB2; clear hA2 hB2 hH2))
          | (go_at_call 37; (try simp only [drew_Wov, Wov_Wov, Array.append_assoc] at t1); (try simp only [drew_Wov, Wov_Wov, Array.append_assoc] at t2); refine (MT.out _ _ _ _ _ (t1.below (by (repeat' (first | (with_reducible assumption) | (with_reducible exact Below.refl _ _) | (with_reducible exact below_app _ _ _ _) | (with_reducible exact below_app2 _ _ _ _ _ _) | (with_reducible exact below_app0 _ _ _) | (with_reducible refine below_wov ?_ ?_ _) | (with_reducible refine below_drewN ?_ _) | (with_reducible refine Below.drew ?_) | (with_reducible refine Below.alloc ?_ ?_ _) | (with_reducible refine Below.setCell ?_ ?_ _) | (with_reducible exact Nat.le_refl _) | omega | (simp only [World.size_alloc, World.size_setCell, World.size_drew, Wov_size, World.heap_drewN, Array.size_append]; omega))))) (t2.below (by (repeat' (first | (with_reducible assumption) | (with_reducible exact Below.refl _ _) | (with_reducible exact below_app _ _ _ _) | (with_reducible exact below_app2 _ _ _ _ _ _) | (with_reducible exact below_app0 _ _ _) | (with_reducible refine below_wov ?_ ?_ _) | (with_reducible refine below_drewN ?_ _) | (with_reducible refine Below.drew ?_) | (with_reducible refine Below.alloc ?_ ?_ _) | (with_reducible refine Below.setCell ?_ ?_ _) | (with_reducible exact Nat.le_refl _) | omega | (simp only [World.size_alloc, World.size_setCell, World.size_drew, Wov_size, World.heap_drewN, Array.size_append]; omega)))))).mono ?_; rintro e w' ⟨⟨p3, c3, rfl, ho⟩, qc, rfl⟩; clear ho t1 t2))
      all_goals
        simp only [Exit.then]
        refine ‹∀ (a : Act) (w_1 : World), Code.wp Tryz.prog _ (bodyPost Tryz.prog _ _) a w_1 → _› _ _ ?_
        refine wp_world (fun X => Below w.heap.size w X ∧ HoldsA X (w.heap.size + 2) 6 (fun _ => 0)) ⟨by (repeat' (first | (with_reducible assumption) | (with_reducible exact Below.refl _ _) | (with_reducible exact below_app _ _ _ _) | (with_reducible exact below_app2 _ _ _ _ _ _) | (with_reducible exact below_app0 _ _ _) | (with_reducible refine below_wov ?_ ?_ _) | (with_reducible refine below_drewN ?_ _) | (with_reducible refine Below.drew ?_) | (with_reducible refine Below.alloc ?_ ?_ _) | (with_reducible refine Below.setCell ?_ ?_ _) | (with_reducible exact Nat.le_refl _) | omega | (simp only [World.size_alloc, World.size_setCell, World.size_drew, Wov_size, World.heap_drewN, Array.size_append]; omega))), HoldsA.below ⟨rl, RH.out⟩ (by (repeat' (first | (with_reducible assumption) | (with_reducible exact Below.refl _ _) | (with_reducible exact below_app _ _ _ _) | (with_reducible exact below_app2 _ _ _ _ _ _) | (with_reducible exact below_app0 _ _ _) | (with_reducible refine below_wov ?_ ?_ _) | (with_reducible refine below_drewN ?_ _) | (with_reducible refine Below.drew ?_) | (with_reducible refine Below.alloc ?_ ?_ _) | (with_reducible refine Below.setCell ?_ ?_ _) | (with_reducible exact Nat.le_refl _) | omega | (simp only [World.size_alloc, World.size_setCell, World.size_drew, Wov_size, World.heap_drewN, Array.size_append]; omega))))⟩ ?_
        rintro X ⟨hbX, ⟨rl', rX⟩⟩
        have hsX := hbX.size
        clear RH rl al bl a0 a1 a2 a3 a4 a5 b0 b1 b2 b3 b4 b5
        have r0 := (rX 0 (by omega)).1
        have y0 := (rX 0 (by omega)).2
        have r1 := (rX 1 (by omega)).1
        have y1 := (rX 1 (by omega)).2
        have r2 := (rX 2 (by omega)).1
        have y2 := (rX 2 (by omega)).2
        have r3 := (rX 3 (by omega)).1
        have y3 := (rX 3 (by omega)).2
        have r4 := (rX 4 (by omega)).1
        have y4 := (rX 4 (by omega)).2
        have r5 := (rX 5 (by omega)).1
        have y5 := (rX 5 (by omega)).2
        go_wp2
        refine bodyPost_ret (by simp [results, Tryz.results12, go_sem, r0, r1, r2, r3, r4, r5, rl']; try rfl) rfl ?_
        exact gives_end rfl (by (repeat' (first | (with_reducible assumption) | (with_reducible exact Below.refl _ _) | (with_reducible refine below_wov ?_ ?_ _) | (with_reducible refine below_drewN ?_ _) | (with_reducible refine Below.drew ?_) | (with_reducible refine Below.alloc ?_ ?_ _) | (with_reducible refine Below.setCell ?_ ?_ _) | (with_reducible exact Nat.le_refl _) | omega | (simp only [World.size_alloc, World.size_setCell, World.size_drew, Wov_size, World.heap_drewN]; omega))))

end Go.Proofs.YtpaomeilfmeheaaGreat
