/- The document's zones: contracts of Matrix, Of, Has, In, Meet. No condition. -/
import Derived.Test.YtpaomeilfmeheaaGreatK5
import Derived.Test.YtpaomeilfmeheaaGreatH9
import Derived.Test.YtpaomeilfmeheaaGreatH12
import Derived.Test.YtpaomeilfmeheaaGreatG6
import Derived.Test.YtpaomeilfmeheaaGreatMF
namespace Go.Proofs.YtpaomeilfmeheaaGreat
set_option linter.unusedSimpArgs false
set_option linter.unusedVariables false
open Go Go.RowKit Go.Shelf
attribute [local go_sem] Nat.add_assoc Nat.add_lt_add_iff_left lit_lt_add


set_option maxRecDepth 10000 in
set_option maxHeartbeats 4000000 in
theorem rmatrix_any (z : Nat → Int) (w : World) (hz : FitsZ z) : Calls Tryz.prog 5 #[zoneV z] w (matC w (matZ z).n (matZ z).N (matZ z).f (matZ z).e) := by
  have hF := zF_fits hz
  have FU : Hid (∀ w, Calls Tryz.prog 24 #[.agg #[.int .i64 (z 0), .int .i64 (z 1), .int .i64 (z 2), .int .i64 (z 3), .int .i64 (z 4), .int .i64 (z 5)]] w (rowPost w 3 9 (zF z))) := fun w => full8_any z w
  have MY : Hid (∀ w B c, SlP w (some ⟨B, 0, none⟩) 9 (zF z) → Calls Tryz.prog 23 #[.agg #[.int .i64 3, .slice (some ⟨B, 0, none⟩) 9 c]] w (Gives w (.bool (okD 3 9 (zF z))))) := fun w B c h => refMay_any 3 _ 9 c _ w (by decide) h hF (by omega)
  unfold matZ
  obtain ⟨F, hFF⟩ : ∃ F, F = zF z := ⟨_, rfl⟩
  rw [← hFF] at FU MY ⊢
  clear hF hFF hz
  unfold rowPost at FU
  unfold zoneV
  cases ok : okD 3 9 F
  · rw [ok] at MY
    show Calls _ _ _ _ (matC w 0 0 (fun _ => 0) 8)
    clear ok
    go_enter Tryz.func5, Tryz.ntmps5
    go_wp2_with (fail)
    refine (FU.out _).mono ?_; rintro e w' ⟨B, cp, rfl, hA, hB, hH, q1, rfl⟩
    have t1 := slp_of hH hB
    clear hA hB hH FU
    go_wp2_with (fail)
    refine (MY.out _ _ _ (t1.below (by (repeat' (first | (with_reducible assumption) | (with_reducible exact Below.refl _ _) | (with_reducible refine below_wov ?_ ?_ _) | (with_reducible refine below_drewN ?_ _) | (with_reducible refine Below.drew ?_) | (with_reducible refine Below.alloc ?_ ?_ _) | (with_reducible refine Below.setCell ?_ ?_ _) | (with_reducible exact Nat.le_refl _) | omega | (simp only [World.size_alloc, World.size_setCell, World.size_drew, Wov_size, World.heap_drewN]; omega)))))).mono ?_; rintro e w' ⟨rfl, q2, rfl⟩
    clear t1 MY
    go_wp2
    go_returns
    exact matC_err rfl (by (repeat' (first | (with_reducible assumption) | (with_reducible exact Below.refl _ _) | (with_reducible refine below_wov ?_ ?_ _) | (with_reducible refine below_drewN ?_ _) | (with_reducible refine Below.drew ?_) | (with_reducible refine Below.alloc ?_ ?_ _) | (with_reducible refine Below.setCell ?_ ?_ _) | (with_reducible exact Nat.le_refl _) | omega | (simp only [World.size_alloc, World.size_setCell, World.size_drew, Wov_size, World.heap_drewN]; omega))))
  · rw [ok] at MY
    show Calls _ _ _ _ (matC w 3 9 F 0)
    clear ok
    go_enter Tryz.func5, Tryz.ntmps5
    go_wp2_with (fail)
    refine (FU.out _).mono ?_; rintro e w' ⟨B, cp, rfl, hA, hB, hH, q1, rfl⟩
    have t1 := slp_of hH hB
    clear hA hB hH
    go_wp2_with (fail)
    refine (MY.out _ _ _ (t1.below (by (repeat' (first | (with_reducible assumption) | (with_reducible exact Below.refl _ _) | (with_reducible refine below_wov ?_ ?_ _) | (with_reducible refine below_drewN ?_ _) | (with_reducible refine Below.drew ?_) | (with_reducible refine Below.alloc ?_ ?_ _) | (with_reducible refine Below.setCell ?_ ?_ _) | (with_reducible exact Nat.le_refl _) | omega | (simp only [World.size_alloc, World.size_setCell, World.size_drew, Wov_size, World.heap_drewN]; omega)))))).mono ?_; rintro e w' ⟨rfl, q2, rfl⟩
    clear t1 MY
    go_wp2_with (fail)
    refine calls_world (fun W => Below w.heap.size w W ∧ ResM W (w.heap.size + 1)) ⟨by (repeat' (first | (with_reducible assumption) | (with_reducible exact Below.refl _ _) | (with_reducible refine below_wov ?_ ?_ _) | (with_reducible refine below_drewN ?_ _) | (with_reducible refine Below.drew ?_) | (with_reducible refine Below.alloc ?_ ?_ _) | (with_reducible refine Below.setCell ?_ ?_ _) | (with_reducible exact Nat.le_refl _) | omega | (simp only [World.size_alloc, World.size_setCell, World.size_drew, Wov_size, World.heap_drewN]; omega))), ⟨by (first | omega | ((simp only [World.size_alloc, World.size_setCell, World.size_drew, Wov_size, World.heap_drewN, Array.size_append]) <;> omega)), by simp [go_sem], by simp [go_sem], by simp [go_sem], by simp [go_sem]⟩⟩ ?_
    rintro W0 ⟨hb0, ⟨rl, r0, r1, y0, y1⟩⟩
    have hs0 := hb0.size
    refine (FU.out _).mono ?_; rintro e w' ⟨B2, cp2, rfl, hA2, hB2, hH2, q3, rfl⟩
    have HA := Lib.hid hA2
    have HB := Lib.hid hB2
    have HH := Lib.hid hH2
    clear hA2 hB2 hH2 FU
    go_wp2
    refine bodyPost_ret (by simp [results, Tryz.results5, go_sem, r0, r1, rl]; try rfl) rfl ?_
    have a1 := HA.out
    have a2 := HB.out
    refine ⟨⟨_, cp2, rfl, .inr ⟨B2, rfl, ?_, ?_, ?_⟩⟩, Wov_of_below (by (repeat' (first | (with_reducible assumption) | (with_reducible exact Below.refl _ _) | (with_reducible refine below_wov ?_ ?_ _) | (with_reducible refine below_drewN ?_ _) | (with_reducible refine Below.drew ?_) | (with_reducible refine Below.alloc ?_ ?_ _) | (with_reducible refine Below.setCell ?_ ?_ _) | (with_reducible exact Nat.le_refl _) | omega | (simp only [World.size_alloc, World.size_setCell, World.size_drew, Wov_size, World.heap_drewN]; omega))))⟩
    · omega
    · simp only [World.size_alloc, World.size_setCell, World.size_drew, Wov_size, Array.size_append] at a2 ⊢; omega
    · refine HoldsI.setOther (HoldsI.setOther (HH.out.below (by (repeat' (first | (with_reducible assumption) | (with_reducible exact Below.refl _ _) | (with_reducible refine below_wov ?_ ?_ _) | (with_reducible refine below_drewN ?_ _) | (with_reducible refine Below.drew ?_) | (with_reducible refine Below.alloc ?_ ?_ _) | (with_reducible refine Below.setCell ?_ ?_ _) | (with_reducible exact Nat.le_refl _) | omega | (simp only [World.size_alloc, World.size_setCell, World.size_drew, Wov_size, World.heap_drewN]; omega)))) a2) ?_ ?_) ?_ ?_ <;> (simp only [World.size_alloc, World.size_setCell, World.size_drew, Wov_size, Array.size_append] at a1 a2 ⊢; omega)

set_option maxRecDepth 10000 in
set_option maxHeartbeats 4000000 in
theorem rof_any (n : Int) (p : Option Addr) (N c : Nat) (f : Nat → Int) (w : World) (hn : fits64 n) (hS : SlP w p N f) (hF : Fits N f) (hN : N ≤ 1000000) : Calls Tryz.prog 7 #[.agg #[.int .i64 n, .slice p N c]] w (Gives w (zoneR (ofZ n N f).1 (ofZ n N f).2)) := by
  have MY : Hid (∀ w', Below w.heap.size w w' → Calls Tryz.prog 23 #[.agg #[.int .i64 n, .slice p N c]] w' (Gives w' (.bool (okD n N f)))) := fun w' hb => refMay_any n p N c f w' hn (hS.below hb) hF hN
  have HS : Hid (∀ w', Below w.heap.size w w' → SlP w' p N f) := fun w' hb => hS.below hb
  cases ok : okD n N f
  · have e : ofZ n N f = (fun _ => 0, 8) := by unfold ofZ; rw [ok]; rfl
    rw [e]
    rw [ok] at MY
    clear ok e hF hS HS hn
    unfold zoneR zoneV
    go_enter Tryz.func7, Tryz.ntmps7
    go_wp2_with (fail)
    refine (MY.out _ (by (repeat' (first | (with_reducible assumption) | (with_reducible exact Below.refl _ _) | (with_reducible refine below_wov ?_ ?_ _) | (with_reducible refine below_drewN ?_ _) | (with_reducible refine Below.drew ?_) | (with_reducible refine Below.alloc ?_ ?_ _) | (with_reducible refine Below.setCell ?_ ?_ _) | (with_reducible exact Nat.le_refl _) | omega | (simp only [World.size_alloc, World.size_setCell, World.size_drew, Wov_size, World.heap_drewN]; omega))))).mono ?_; rintro e w' ⟨rfl, q1, rfl⟩
    go_wp2
    go_returns
    exact gives_end rfl (by (repeat' (first | (with_reducible assumption) | (with_reducible exact Below.refl _ _) | (with_reducible refine below_wov ?_ ?_ _) | (with_reducible refine below_drewN ?_ _) | (with_reducible refine Below.drew ?_) | (with_reducible refine Below.alloc ?_ ?_ _) | (with_reducible refine Below.setCell ?_ ?_ _) | (with_reducible exact Nat.le_refl _) | omega | (simp only [World.size_alloc, World.size_setCell, World.size_drew, Wov_size, World.heap_drewN]; omega))))
  · rw [ok] at MY
    by_cases h3 : n = 3
    · subst h3
      obtain ⟨m, hm3, hmN, hm1, hm4⟩ := okD_form ok
      obtain rfl : m = 3 := by omega
      subst hmN
      clear hm3 hm1 hm4
      have hcl : (∃ g, closeM 3 (3 * 3) f = ⟨3, 9, g, 0⟩) ∨ closeM 3 (3 * 3) f = errM 6 := by
        rcases closeM_cases (n := 3) ok with ⟨c, hc, _⟩ | ⟨hc, _⟩
        · exact .inl ⟨c, hc⟩
        · exact .inr hc
      have e : ofZ 3 (3 * 3) f = zoneM (closeM 3 (3 * 3) f) := by
        unfold ofZ zoneM
        rw [ok]
        rcases hcl with ⟨g, hg⟩ | hg <;> rw [hg] <;> rfl
      rw [e]
      obtain ⟨r, hr⟩ : ∃ r, r = closeM 3 (3 * 3) f := ⟨_, rfl⟩
      have CL : Hid (∀ w', Below w.heap.size w w' → Calls Tryz.prog 28 #[.agg #[.int .i64 3, .slice p 9 c]] w' (matB w' r.n r.N r.f (decide (r.e = 0)))) := fun w' hb => by
        rw [hr]; exact refClosed_any 3 p c _ w' ok (hS.below hb)
      rw [← hr] at hcl ⊢
      have TO := Lib.hid (told8_any r hcl (by rw [hr]; exact (closeM_ok 3 9 f).f))
      obtain ⟨z, hz⟩ : ∃ z, z = zoneM r := ⟨_, rfl⟩
      rw [← hz] at TO ⊢
      obtain ⟨⟨n, N, g, e0⟩, hm⟩ : ∃ m, m = r := ⟨_, rfl⟩
      rw [← hm] at TO CL
      obtain ⟨k, hk⟩ : ∃ k, k = decide (e0 = 0) := ⟨_, rfl⟩
      dsimp only at TO CL
      rw [← hk] at TO CL
      unfold zoneR zoneV at TO ⊢
      clear hr hz hm hk hcl e ok hF hS HS hn
      go_enter Tryz.func7, Tryz.ntmps7
      go_wp2_with (fail)
      refine (MY.out _ (by (repeat' (first | (with_reducible assumption) | (with_reducible exact Below.refl _ _) | (with_reducible refine below_wov ?_ ?_ _) | (with_reducible refine below_drewN ?_ _) | (with_reducible refine Below.drew ?_) | (with_reducible refine Below.alloc ?_ ?_ _) | (with_reducible refine Below.setCell ?_ ?_ _) | (with_reducible exact Nat.le_refl _) | omega | (simp only [World.size_alloc, World.size_setCell, World.size_drew, Wov_size, World.heap_drewN]; omega))))).mono ?_; rintro e w' ⟨rfl, q1, rfl⟩
      go_wp2_with (fail)
      refine (CL.out _ (by (repeat' (first | (with_reducible assumption) | (with_reducible exact Below.refl _ _) | (with_reducible refine below_wov ?_ ?_ _) | (with_reducible refine below_drewN ?_ _) | (with_reducible refine Below.drew ?_) | (with_reducible refine Below.alloc ?_ ?_ _) | (with_reducible refine Below.setCell ?_ ?_ _) | (with_reducible exact Nat.le_refl _) | omega | (simp only [World.size_alloc, World.size_setCell, World.size_drew, Wov_size, World.heap_drewN]; omega))))).mono ?_; rintro e w' ⟨⟨p2, c2, rfl, ho⟩, q2, rfl⟩
      have t2 := ho.slp
      clear ho
      go_wp2_with (fail)
      (try simp only [Wov_Wov, Array.append_assoc] at t2)
      refine (TO.out _ _ _ t2).mono ?_; rintro e w' ⟨rfl, q3, rfl⟩
      clear t2 TO CL MY
      go_wp2
      go_returns
      exact gives_end rfl (by (repeat' (first | (with_reducible assumption) | (with_reducible exact Below.refl _ _) | (with_reducible refine below_wov ?_ ?_ _) | (with_reducible refine below_drewN ?_ _) | (with_reducible refine Below.drew ?_) | (with_reducible refine Below.alloc ?_ ?_ _) | (with_reducible refine Below.setCell ?_ ?_ _) | (with_reducible exact Nat.le_refl _) | omega | (simp only [World.size_alloc, World.size_setCell, World.size_drew, Wov_size, World.heap_drewN]; omega))))
    · have e : ofZ n N f = (fun _ => 0, 40) := by unfold ofZ; rw [ok, if_pos rfl, if_neg h3]
      rw [e]
      have h3' : (n != 3) = true := by rw [bne_iff_ne]; exact h3
      clear ok e hF hS HS hn h3
      unfold zoneR zoneV
      go_enter Tryz.func7, Tryz.ntmps7
      go_wp2_with (fail)
      refine (MY.out _ (by (repeat' (first | (with_reducible assumption) | (with_reducible exact Below.refl _ _) | (with_reducible refine below_wov ?_ ?_ _) | (with_reducible refine below_drewN ?_ _) | (with_reducible refine Below.drew ?_) | (with_reducible refine Below.alloc ?_ ?_ _) | (with_reducible refine Below.setCell ?_ ?_ _) | (with_reducible exact Nat.le_refl _) | omega | (simp only [World.size_alloc, World.size_setCell, World.size_drew, Wov_size, World.heap_drewN]; omega))))).mono ?_; rintro e w' ⟨rfl, q1, rfl⟩
      go_wp2
      go_returns
      exact gives_end rfl (by (repeat' (first | (with_reducible assumption) | (with_reducible exact Below.refl _ _) | (with_reducible refine below_wov ?_ ?_ _) | (with_reducible refine below_drewN ?_ _) | (with_reducible refine Below.drew ?_) | (with_reducible refine Below.alloc ?_ ?_ _) | (with_reducible refine Below.setCell ?_ ?_ _) | (with_reducible exact Nat.le_refl _) | omega | (simp only [World.size_alloc, World.size_setCell, World.size_drew, Wov_size, World.heap_drewN]; omega))))

theorem rmaypoint_any (n1 d1 n2 d2 : Int) (h1 : fits64 n1) (h2 : fits64 d1) (h3 : fits64 n2) (h4 : fits64 d2) (w : World) :
    Calls Tryz.prog 32 #[.agg #[.int .i64 n1, .int .i64 d1, .int .i64 n2, .int .i64 d2]] w (Gives w (.bool (okRat n1 d1 && okRat n2 d2))) := by
  have R1 : Hid (Pure Tryz.prog 61 #[.agg #[.int .i64 n1, .int .i64 d1]] (.bool (okRat n1 d1))) := ref3May_any n1 d1 h1.1 h1.2
  have R2 : Hid (Pure Tryz.prog 61 #[.agg #[.int .i64 n2, .int .i64 d2]] (.bool (okRat n2 d2))) := ref3May_any n2 d2 h3.1 h3.2
  obtain ⟨k1, hk1⟩ : ∃ k, k = okRat n1 d1 := ⟨_, rfl⟩
  obtain ⟨k2, hk2⟩ : ∃ k, k = okRat n2 d2 := ⟨_, rfl⟩
  rw [← hk1] at R1 ⊢
  rw [← hk2] at R2 ⊢
  clear hk1 hk2
  go_enter Tryz.func32, Tryz.ntmps32
  go_wp2_with (fail)
  refine (R1.out _).mono ?_; rintro e w' ⟨rfl, q1, rfl⟩
  cases k1
  · go_wp2
    go_ret
    exact gives_bool rfl (by (repeat' (first | (with_reducible assumption) | (with_reducible exact Below.refl _ _) | (with_reducible refine below_wov ?_ ?_ _) | (with_reducible refine below_drewN ?_ _) | (with_reducible refine Below.drew ?_) | (with_reducible refine Below.alloc ?_ ?_ _) | (with_reducible refine Below.setCell ?_ ?_ _) | (with_reducible exact Nat.le_refl _) | omega | (simp only [World.size_alloc, World.size_setCell, World.size_drew, Wov_size, World.heap_drewN]; omega))))
  · go_wp2_with (fail)
    refine (R2.out _).mono ?_; rintro e w' ⟨rfl, q2, rfl⟩
    cases k2
    all_goals
      go_wp2
      go_ret
      exact gives_bool rfl (by (repeat' (first | (with_reducible assumption) | (with_reducible exact Below.refl _ _) | (with_reducible refine below_wov ?_ ?_ _) | (with_reducible refine below_drewN ?_ _) | (with_reducible refine Below.drew ?_) | (with_reducible refine Below.alloc ?_ ?_ _) | (with_reducible refine Below.setCell ?_ ?_ _) | (with_reducible exact Nat.le_refl _) | omega | (simp only [World.size_alloc, World.size_setCell, World.size_drew, Wov_size, World.heap_drewN]; omega))))

set_option maxRecDepth 10000 in
set_option maxHeartbeats 4000000 in
theorem rinside_any (z : Nat → Int) (n1 d1 n2 d2 : Int) (w : World) (hz : FitsZ z) (h1 : fits64 n1) (h2 : fits64 d1) (h3 : fits64 n2) (h4 : fits64 d2) (har : (okRat n1 d1 && okRat n2 d2) = true) :
    Calls Tryz.prog 33 #[zoneV z, .agg #[.int .i64 n1, .int .i64 d1, .int .i64 n2, .int .i64 d2]] w (Gives w (.bool (keptAll 3 (zF z) (pt n1 d1 n2 d2)))) := by
  have FU : Hid (∀ w, Calls Tryz.prog 24 #[.agg #[.int .i64 (z 0), .int .i64 (z 1), .int .i64 (z 2), .int .i64 (z 3), .int .i64 (z 4), .int .i64 (z 5)]] w (rowPost w 3 9 (zF z))) := fun w => full8_any z w
  have KP : Hid (∀ w B c A, SlP w (some ⟨B, 0, none⟩) 9 (zF z) → SlR w (some ⟨A, 0, none⟩) 2 (pt n1 d1 n2 d2) → Calls Tryz.prog 62 #[.agg #[.int .i64 3, .slice (some ⟨B, 0, none⟩) 9 c], .slice (some ⟨A, 0, none⟩) 2 2] w (Gives w (.bool (keptAll 3 (zF z) (pt n1 d1 n2 d2))))) := fun w B c A h g => refKeptD_any 3 9 _ c _ _ 2 2 _ w rfl rfl (by omega) h (zF_fits hz) g (pt_fits h1 h2 h3 h4) (by rw [rat2]; exact har)
  obtain ⟨k, hk⟩ : ∃ k, k = keptAll 3 (zF z) (pt n1 d1 n2 d2) := ⟨_, rfl⟩
  rw [← hk] at KP ⊢
  obtain ⟨F, hFF⟩ : ∃ F, F = zF z := ⟨_, rfl⟩
  rw [← hFF] at FU KP
  clear hk hFF hz h1 h2 h3 h4 har
  unfold rowPost at FU
  unfold zoneV
  go_enter Tryz.func33, Tryz.ntmps33
  go_wp2
  refine wp_world (fun W => Below w.heap.size w W ∧ BoxZ W w.heap.size z ∧ PtAt W (w.heap.size + 1) n1 d1 n2 d2) ⟨by (repeat' (first | (with_reducible assumption) | (with_reducible exact Below.refl _ _) | (with_reducible refine below_wov ?_ ?_ _) | (with_reducible refine below_drewN ?_ _) | (with_reducible refine Below.drew ?_) | (with_reducible refine Below.alloc ?_ ?_ _) | (with_reducible refine Below.setCell ?_ ?_ _) | (with_reducible exact Nat.le_refl _) | omega | (simp only [World.size_alloc, World.size_setCell, World.size_drew, Wov_size, World.heap_drewN]; omega))), (BoxZ.new (W := w) (t := 24) rfl).below (by (repeat' (first | (with_reducible assumption) | (with_reducible exact Below.refl _ _) | (with_reducible refine below_wov ?_ ?_ _) | (with_reducible refine below_drewN ?_ _) | (with_reducible refine Below.drew ?_) | (with_reducible refine Below.alloc ?_ ?_ _) | (with_reducible refine Below.setCell ?_ ?_ _) | (with_reducible exact Nat.le_refl _) | omega | (simp only [World.size_alloc, World.size_setCell, World.size_drew, Wov_size, World.heap_drewN]; omega)))), ⟨by (first | omega | ((simp only [World.size_alloc, World.size_setCell, World.size_drew, Wov_size, World.heap_drewN, Array.size_append]) <;> omega)), by simp [go_sem], by simp [go_sem], by simp [go_sem], by simp [go_sem]⟩⟩ ?_
  rintro W ⟨hbW, ⟨zl, z0, z1, z2, z3, z4, z5⟩, ⟨pl, p0, p1, p2, p3⟩⟩
  have hsW := hbW.size
  go_region_held3 (fun w' => w'.cell? ⟨w.heap.size, 0, none⟩ = some (.int .i64 (z 0)) ∧ w'.cell? ⟨w.heap.size, 1, none⟩ = some (.int .i64 (z 1)) ∧ w'.cell? ⟨w.heap.size, 2, none⟩ = some (.int .i64 (z 2)) ∧ w'.cell? ⟨w.heap.size, 3, none⟩ = some (.int .i64 (z 3)) ∧ w'.cell? ⟨w.heap.size, 4, none⟩ = some (.int .i64 (z 4)) ∧ w'.cell? ⟨w.heap.size, 5, none⟩ = some (.int .i64 (z 5)) ∧ w'.cell? ⟨w.heap.size + 1, 0, none⟩ = some (.int .i64 n1) ∧ w'.cell? ⟨w.heap.size + 1, 1, none⟩ = some (.int .i64 d1) ∧ w'.cell? ⟨w.heap.size + 1, 2, none⟩ = some (.int .i64 n2) ∧ w'.cell? ⟨w.heap.size + 1, 3, none⟩ = some (.int .i64 d2))
    ((simp [go_sem, *]))
    (first
    | (go_at_call 24; ((with_reducible refine (FU.out _).mono ?_); rintro e w' ⟨B, cp, rfl, hA, hB, hH, qa, rfl⟩; have t1 := slp_of hH hB; clear hA hB hH))
    | (go_at_call 62; (try simp only [drew_Wov, Wov_Wov, Array.append_assoc] at t1); refine (KP.out _ _ _ _ (t1.below (by (repeat' (first | (with_reducible assumption) | (with_reducible exact Below.refl _ _) | (with_reducible refine below_wov ?_ ?_ _) | (with_reducible refine below_drewN ?_ _) | (with_reducible refine Below.drew ?_) | (with_reducible refine Below.alloc ?_ ?_ _) | (with_reducible refine Below.setCell ?_ ?_ _) | (with_reducible exact Nat.le_refl _) | omega | (simp only [World.size_alloc, World.size_setCell, World.size_drew, Wov_size, World.heap_drewN]; omega))))) (slr_two (by (first | omega | ((simp only [World.size_alloc, World.size_setCell, World.size_drew, Wov_size, World.heap_drewN, Array.size_append]) <;> omega))) (by simp [go_sem]) (by simp [go_sem]) (by simp [go_sem]) (by simp [go_sem]))).mono ?_; rintro e w' ⟨rfl, qb, rfl⟩; clear t1))
  all_goals
    go_wp2
    go_ret
    exact gives_bool rfl (by (repeat' (first | (with_reducible assumption) | (with_reducible exact Below.refl _ _) | (with_reducible refine below_wov ?_ ?_ _) | (with_reducible refine below_drewN ?_ _) | (with_reducible refine Below.drew ?_) | (with_reducible refine Below.alloc ?_ ?_ _) | (with_reducible refine Below.setCell ?_ ?_ _) | (with_reducible exact Nat.le_refl _) | omega | (simp only [World.size_alloc, World.size_setCell, World.size_drew, Wov_size, World.heap_drewN]; omega))))

set_option maxRecDepth 10000 in
set_option maxHeartbeats 4000000 in
theorem rhas_any (z : Nat → Int) (n1 d1 n2 d2 : Int) (w : World) (hz : FitsZ z) (h1 : fits64 n1) (h2 : fits64 d1) (h3 : fits64 n2) (h4 : fits64 d2) :
    Calls Tryz.prog 9 #[zoneV z, .agg #[.int .i64 n1, .int .i64 d1, .int .i64 n2, .int .i64 d2]] w (Gives w (bpair (hasZ z (pt n1 d1 n2 d2)))) := by
  have MY : Hid (∀ w, Calls Tryz.prog 31 #[.agg #[.int .i64 (z 0), .int .i64 (z 1), .int .i64 (z 2), .int .i64 (z 3), .int .i64 (z 4), .int .i64 (z 5)]] w (Gives w (.bool (okZ z)))) := fun w => may8_any z w hz
  have MP : Hid (∀ w, Calls Tryz.prog 32 #[.agg #[.int .i64 n1, .int .i64 d1, .int .i64 n2, .int .i64 d2]] w (Gives w (.bool (okRat n1 d1 && okRat n2 d2)))) := rmaypoint_any n1 d1 n2 d2 h1 h2 h3 h4
  unfold hasZ
  show Calls _ _ _ _ (Gives w (bpair (if okZ z && (okRat n1 d1 && okRat n2 d2) then keepsD 3 9 (zF z) 2 (pt n1 d1 n2 d2) else (false, 8))))
  cases kz : okZ z
  · rw [kz] at MY
    show Calls _ _ _ _ (Gives w (.tuple #[.bool false, .int .i64 8]))
    clear MP kz h1 h2 h3 h4 hz
    unfold zoneV
    go_enter Tryz.func9, Tryz.ntmps9
    go_wp2_with (fail)
    refine (MY.out _).mono ?_; rintro e w' ⟨rfl, q1, rfl⟩
    go_wp2
    go_returns
    exact gives_end rfl (by (repeat' (first | (with_reducible assumption) | (with_reducible exact Below.refl _ _) | (with_reducible refine below_wov ?_ ?_ _) | (with_reducible refine below_drewN ?_ _) | (with_reducible refine Below.drew ?_) | (with_reducible refine Below.alloc ?_ ?_ _) | (with_reducible refine Below.setCell ?_ ?_ _) | (with_reducible exact Nat.le_refl _) | omega | (simp only [World.size_alloc, World.size_setCell, World.size_drew, Wov_size, World.heap_drewN]; omega))))
  · rw [kz] at MY
    cases kp : (okRat n1 d1 && okRat n2 d2)
    · rw [kp] at MP
      show Calls _ _ _ _ (Gives w (.tuple #[.bool false, .int .i64 8]))
      clear kz kp h1 h2 h3 h4 hz
      unfold zoneV
      go_enter Tryz.func9, Tryz.ntmps9
      go_wp2_with (fail)
      refine (MY.out _).mono ?_; rintro e w' ⟨rfl, q1, rfl⟩
      go_wp2_with (fail)
      refine (MP.out _).mono ?_; rintro e w' ⟨rfl, q2, rfl⟩
      go_wp2
      go_returns
      exact gives_end rfl (by (repeat' (first | (with_reducible assumption) | (with_reducible exact Below.refl _ _) | (with_reducible refine below_wov ?_ ?_ _) | (with_reducible refine below_drewN ?_ _) | (with_reducible refine Below.drew ?_) | (with_reducible refine Below.alloc ?_ ?_ _) | (with_reducible refine Below.setCell ?_ ?_ _) | (with_reducible exact Nat.le_refl _) | omega | (simp only [World.size_alloc, World.size_setCell, World.size_drew, Wov_size, World.heap_drewN]; omega))))
    · rw [kp] at MP
      have hk : keepsD 3 9 (zF z) 2 (pt n1 d1 n2 d2) = (keptAll 3 (zF z) (pt n1 d1 n2 d2), 0) := by
        have a : allRat 2 (pt n1 d1 n2 d2) = true := by rw [rat2]; exact kp
        unfold keepsD
        rw [show okD 3 9 (zF z) = true from (okZ_facts kz).1, a]
        rfl
      rw [hk]
      have IN : Hid (∀ w, Calls Tryz.prog 33 #[.agg #[.int .i64 (z 0), .int .i64 (z 1), .int .i64 (z 2), .int .i64 (z 3), .int .i64 (z 4), .int .i64 (z 5)], .agg #[.int .i64 n1, .int .i64 d1, .int .i64 n2, .int .i64 d2]] w (Gives w (.bool (keptAll 3 (zF z) (pt n1 d1 n2 d2))))) := fun w => rinside_any z n1 d1 n2 d2 w hz h1 h2 h3 h4 kp
      obtain ⟨k, hkk⟩ : ∃ k, k = keptAll 3 (zF z) (pt n1 d1 n2 d2) := ⟨_, rfl⟩
      rw [← hkk] at IN ⊢
      show Calls _ _ _ _ (Gives w (.tuple #[.bool k, .int .i64 0]))
      clear kz kp h1 h2 h3 h4 hz hk hkk
      unfold zoneV
      go_enter Tryz.func9, Tryz.ntmps9
      go_wp2_with (fail)
      refine (MY.out _).mono ?_; rintro e w' ⟨rfl, q1, rfl⟩
      go_wp2_with (fail)
      refine (MP.out _).mono ?_; rintro e w' ⟨rfl, q2, rfl⟩
      go_wp2_with (fail)
      refine (IN.out _).mono ?_; rintro e w' ⟨rfl, q3, rfl⟩
      go_wp2
      go_returns
      exact gives_end rfl (by (repeat' (first | (with_reducible assumption) | (with_reducible exact Below.refl _ _) | (with_reducible refine below_wov ?_ ?_ _) | (with_reducible refine below_drewN ?_ _) | (with_reducible refine Below.drew ?_) | (with_reducible refine Below.alloc ?_ ?_ _) | (with_reducible refine Below.setCell ?_ ?_ _) | (with_reducible exact Nat.le_refl _) | omega | (simp only [World.size_alloc, World.size_setCell, World.size_drew, Wov_size, World.heap_drewN]; omega))))

set_option maxRecDepth 10000 in
set_option maxHeartbeats 4000000 in
theorem rin_any (a b : Nat → Int) (w : World) (ha : FitsZ a) (hb : FitsZ b) : Calls Tryz.prog 11 #[zoneV a, zoneV b] w (Gives w (pairBE (inZ a b))) := by
  have MA : Hid (∀ w, Calls Tryz.prog 31 #[.agg #[.int .i64 (a 0), .int .i64 (a 1), .int .i64 (a 2), .int .i64 (a 3), .int .i64 (a 4), .int .i64 (a 5)]] w (Gives w (.bool (okZ a)))) := fun w => may8_any a w ha
  have MB : Hid (∀ w, Calls Tryz.prog 31 #[.agg #[.int .i64 (b 0), .int .i64 (b 1), .int .i64 (b 2), .int .i64 (b 3), .int .i64 (b 4), .int .i64 (b 5)]] w (Gives w (.bool (okZ b)))) := fun w => may8_any b w hb
  have FA : Hid (∀ w, Calls Tryz.prog 24 #[.agg #[.int .i64 (a 0), .int .i64 (a 1), .int .i64 (a 2), .int .i64 (a 3), .int .i64 (a 4), .int .i64 (a 5)]] w (rowPost w 3 9 (zF a))) := fun w => full8_any a w
  have FB : Hid (∀ w, Calls Tryz.prog 24 #[.agg #[.int .i64 (b 0), .int .i64 (b 1), .int .i64 (b 2), .int .i64 (b 3), .int .i64 (b 4), .int .i64 (b 5)]] w (rowPost w 3 9 (zF b))) := fun w => full8_any b w
  unfold inZ
  cases ka : okZ a
  · rw [ka] at MA
    show Calls _ _ _ _ (Gives w (.tuple #[.bool false, .int .i64 8]))
    clear MB FA FB ka ha hb
    unfold zoneV
    go_enter Tryz.func11, Tryz.ntmps11
    go_wp2_with (fail)
    refine (MA.out _).mono ?_; rintro e w' ⟨rfl, q1, rfl⟩
    go_wp2
    go_returns
    exact gives_end rfl (by (repeat' (first | (with_reducible assumption) | (with_reducible exact Below.refl _ _) | (with_reducible refine below_wov ?_ ?_ _) | (with_reducible refine below_drewN ?_ _) | (with_reducible refine Below.drew ?_) | (with_reducible refine Below.alloc ?_ ?_ _) | (with_reducible refine Below.setCell ?_ ?_ _) | (with_reducible exact Nat.le_refl _) | omega | (simp only [World.size_alloc, World.size_setCell, World.size_drew, Wov_size, World.heap_drewN]; omega))))
  · rw [ka] at MA
    cases kb : okZ b
    · rw [kb] at MB
      show Calls _ _ _ _ (Gives w (.tuple #[.bool false, .int .i64 8]))
      clear FA FB ka kb ha hb
      unfold zoneV
      go_enter Tryz.func11, Tryz.ntmps11
      go_wp2_with (fail)
      refine (MA.out _).mono ?_; rintro e w' ⟨rfl, q1, rfl⟩
      go_wp2_with (fail)
      refine (MB.out _).mono ?_; rintro e w' ⟨rfl, q2, rfl⟩
      go_wp2
      go_returns
      exact gives_end rfl (by (repeat' (first | (with_reducible assumption) | (with_reducible exact Below.refl _ _) | (with_reducible refine below_wov ?_ ?_ _) | (with_reducible refine below_drewN ?_ _) | (with_reducible refine Below.drew ?_) | (with_reducible refine Below.alloc ?_ ?_ _) | (with_reducible refine Below.setCell ?_ ?_ _) | (with_reducible exact Nat.le_refl _) | omega | (simp only [World.size_alloc, World.size_setCell, World.size_drew, Wov_size, World.heap_drewN]; omega))))
    · rw [kb] at MB
      have e1 : inR 3 9 (zF a) 3 9 (zF b) = (inB 3 (zF a) (zF b), 0) := by
        unfold inR twoE
        rw [show okD 3 9 (zF a) = true from (okZ_facts ka).1, show okD 3 9 (zF b) = true from (okZ_facts kb).1]
        rfl
      rw [if_pos (by rfl), e1]
      have IN : Hid (∀ w B B' c c', SlP w (some ⟨B, 0, none⟩) 9 (zF a) → SlP w (some ⟨B', 0, none⟩) 9 (zF b) → Calls Tryz.prog 36 #[.agg #[.int .i64 3, .slice (some ⟨B, 0, none⟩) 9 c], .agg #[.int .i64 3, .slice (some ⟨B', 0, none⟩) 9 c']] w (Gives w (.bool (inB 3 (zF a) (zF b))))) := fun w B B' c c' h g => inside_any 3 _ _ c c' _ _ w (by omega) (by omega) h g (okZ_facts ka).1 (okZ_facts kb).1
      obtain ⟨k, hk⟩ : ∃ k, k = inB 3 (zF a) (zF b) := ⟨_, rfl⟩
      rw [← hk] at IN ⊢
      obtain ⟨FF, hFF⟩ : ∃ F, F = zF a := ⟨_, rfl⟩
      obtain ⟨GG, hGG⟩ : ∃ F, F = zF b := ⟨_, rfl⟩
      rw [← hFF] at IN FA
      rw [← hGG] at IN FB
      show Calls _ _ _ _ (Gives w (.tuple #[.bool k, .int .i64 0]))
      clear e1 hk hFF hGG ka kb ha hb
      unfold rowPost at FA FB
      unfold zoneV
      go_enter Tryz.func11, Tryz.ntmps11
      go_wp2_with (fail)
      refine (MA.out _).mono ?_; rintro e w' ⟨rfl, q1, rfl⟩
      go_wp2_with (fail)
      refine (MB.out _).mono ?_; rintro e w' ⟨rfl, q2, rfl⟩
      go_wp2
      refine wp_world (fun W => Below w.heap.size w W ∧ BoxZ W w.heap.size a ∧ BoxZ W (w.heap.size + 1) b) ⟨by (repeat' (first | (with_reducible assumption) | (with_reducible exact Below.refl _ _) | (with_reducible refine below_wov ?_ ?_ _) | (with_reducible refine below_drewN ?_ _) | (with_reducible refine Below.drew ?_) | (with_reducible refine Below.alloc ?_ ?_ _) | (with_reducible refine Below.setCell ?_ ?_ _) | (with_reducible exact Nat.le_refl _) | omega | (simp only [World.size_alloc, World.size_setCell, World.size_drew, Wov_size, World.heap_drewN]; omega))), (BoxZ.new (W := w) (t := 24) rfl).below (by (repeat' (first | (with_reducible assumption) | (with_reducible exact Below.refl _ _) | (with_reducible refine below_wov ?_ ?_ _) | (with_reducible refine below_drewN ?_ _) | (with_reducible refine Below.drew ?_) | (with_reducible refine Below.alloc ?_ ?_ _) | (with_reducible refine Below.setCell ?_ ?_ _) | (with_reducible exact Nat.le_refl _) | omega | (simp only [World.size_alloc, World.size_setCell, World.size_drew, Wov_size, World.heap_drewN]; omega)))), (BoxZ.new (W := w.alloc (.cells #[.int .i64 (a 0), .int .i64 (a 1), .int .i64 (a 2), .int .i64 (a 3), .int .i64 (a 4), .int .i64 (a 5)] 24)) (t := 24) (by simp)).below (by (repeat' (first | (with_reducible assumption) | (with_reducible exact Below.refl _ _) | (with_reducible refine below_wov ?_ ?_ _) | (with_reducible refine below_drewN ?_ _) | (with_reducible refine Below.drew ?_) | (with_reducible refine Below.alloc ?_ ?_ _) | (with_reducible refine Below.setCell ?_ ?_ _) | (with_reducible exact Nat.le_refl _) | omega | (simp only [World.size_alloc, World.size_setCell, World.size_drew, Wov_size, World.heap_drewN]; omega))))⟩ ?_
      rintro W ⟨hbW, ⟨al, a0, a1, a2, a3, a4, a5⟩, ⟨bl, b0, b1, b2, b3, b4, b5⟩⟩
      have hsW := hbW.size
      clear MA MB
      go_region_held3 (fun w' => w'.cell? ⟨w.heap.size, 0, none⟩ = some (.int .i64 (a 0)) ∧ w'.cell? ⟨w.heap.size, 1, none⟩ = some (.int .i64 (a 1)) ∧ w'.cell? ⟨w.heap.size, 2, none⟩ = some (.int .i64 (a 2)) ∧ w'.cell? ⟨w.heap.size, 3, none⟩ = some (.int .i64 (a 3)) ∧ w'.cell? ⟨w.heap.size, 4, none⟩ = some (.int .i64 (a 4)) ∧ w'.cell? ⟨w.heap.size, 5, none⟩ = some (.int .i64 (a 5)) ∧ w'.cell? ⟨w.heap.size + 1, 0, none⟩ = some (.int .i64 (b 0)) ∧ w'.cell? ⟨w.heap.size + 1, 1, none⟩ = some (.int .i64 (b 1)) ∧ w'.cell? ⟨w.heap.size + 1, 2, none⟩ = some (.int .i64 (b 2)) ∧ w'.cell? ⟨w.heap.size + 1, 3, none⟩ = some (.int .i64 (b 3)) ∧ w'.cell? ⟨w.heap.size + 1, 4, none⟩ = some (.int .i64 (b 4)) ∧ w'.cell? ⟨w.heap.size + 1, 5, none⟩ = some (.int .i64 (b 5)))
        ((simp [go_sem, *]))
        (first
        | (go_at_call_of 24 (Value.int IntKind.i64 (a 0)); ((with_reducible refine (FA.out _).mono ?_); rintro e w' ⟨BA, cpa, rfl, hA1, hB1, hH1, qa, rfl⟩; have t1 := slp_of hH1 hB1; clear hA1 hB1 hH1))
        | (go_at_call_of 24 (Value.int IntKind.i64 (b 0)); ((with_reducible refine (FB.out _).mono ?_); rintro e w' ⟨BB, cpb, rfl, hA2, hB2, hH2, qb, rfl⟩; have t2 := slp_of hH2 hB2; clear hA2 hB2 hH2))
        | (go_at_call 36; (try simp only [drew_Wov, Wov_Wov, Array.append_assoc] at t1); (try simp only [drew_Wov, Wov_Wov, Array.append_assoc] at t2); refine (IN.out _ _ _ _ _ (t1.below (by (repeat' (first | (with_reducible assumption) | (with_reducible exact Below.refl _ _) | (with_reducible exact below_app _ _ _ _) | (with_reducible exact below_app2 _ _ _ _ _ _) | (with_reducible exact below_app0 _ _ _) | (with_reducible refine below_wov ?_ ?_ _) | (with_reducible refine below_drewN ?_ _) | (with_reducible refine Below.drew ?_) | (with_reducible refine Below.alloc ?_ ?_ _) | (with_reducible refine Below.setCell ?_ ?_ _) | (with_reducible exact Nat.le_refl _) | omega | (simp only [World.size_alloc, World.size_setCell, World.size_drew, Wov_size, World.heap_drewN, Array.size_append]; omega))))) (t2.below (by (repeat' (first | (with_reducible assumption) | (with_reducible exact Below.refl _ _) | (with_reducible exact below_app _ _ _ _) | (with_reducible exact below_app2 _ _ _ _ _ _) | (with_reducible exact below_app0 _ _ _) | (with_reducible refine below_wov ?_ ?_ _) | (with_reducible refine below_drewN ?_ _) | (with_reducible refine Below.drew ?_) | (with_reducible refine Below.alloc ?_ ?_ _) | (with_reducible refine Below.setCell ?_ ?_ _) | (with_reducible exact Nat.le_refl _) | omega | (simp only [World.size_alloc, World.size_setCell, World.size_drew, Wov_size, World.heap_drewN, Array.size_append]; omega)))))).mono ?_; rintro e w' ⟨rfl, qc, rfl⟩; clear t1 t2))
      all_goals
        go_wp2
        go_returns
        exact gives_end rfl (by (repeat' (first | (with_reducible assumption) | (with_reducible exact Below.refl _ _) | (with_reducible refine below_wov ?_ ?_ _) | (with_reducible refine below_drewN ?_ _) | (with_reducible refine Below.drew ?_) | (with_reducible refine Below.alloc ?_ ?_ _) | (with_reducible refine Below.setCell ?_ ?_ _) | (with_reducible exact Nat.le_refl _) | omega | (simp only [World.size_alloc, World.size_setCell, World.size_drew, Wov_size, World.heap_drewN]; omega))))

set_option maxRecDepth 10000 in
set_option maxHeartbeats 4000000 in
theorem rzcheck_any (z : Nat → Int) (w : World) (hz : FitsZ z) : Calls Tryz.prog 18 #[zoneV z] w (Gives w (.int .i64 (rcode (okZ z)))) := by
  have MY : Hid (∀ w, Calls Tryz.prog 31 #[.agg #[.int .i64 (z 0), .int .i64 (z 1), .int .i64 (z 2), .int .i64 (z 3), .int .i64 (z 4), .int .i64 (z 5)]] w (Gives w (.bool (okZ z)))) := fun w => may8_any z w hz
  obtain ⟨k, hk⟩ : ∃ k, k = okZ z := ⟨_, rfl⟩
  rw [← hk] at MY ⊢
  clear hk hz
  unfold zoneV
  cases k
  all_goals
    go_enter Tryz.func18, Tryz.ntmps18
    go_wp2_with (fail)
    refine (MY.out _).mono ?_; rintro e w' ⟨rfl, q1, rfl⟩
    go_wp2
    go_ret
    exact gives_int rfl (by (repeat' (first | (with_reducible assumption) | (with_reducible exact Below.refl _ _) | (with_reducible refine below_wov ?_ ?_ _) | (with_reducible refine below_drewN ?_ _) | (with_reducible refine Below.drew ?_) | (with_reducible refine Below.alloc ?_ ?_ _) | (with_reducible refine Below.setCell ?_ ?_ _) | (with_reducible exact Nat.le_refl _) | omega | (simp only [World.size_alloc, World.size_setCell, World.size_drew, Wov_size, World.heap_drewN]; omega))))
#print axioms rzcheck_any


end Go.Proofs.YtpaomeilfmeheaaGreat
