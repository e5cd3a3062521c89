/- Contract of the document's question whether a zone may be. No condition. -/
import Derived.Test.YtpmpapenjcemjaaGreatDoorH14
import Derived.Test.YtpmpapenjcemjaaGreatDoorMP
namespace Go.Proofs.YtpmpapenjcemjaaGreatDoor
set_option linter.unusedSimpArgs false
set_option linter.unusedVariables false
open Go Go.RowKit Go.Shelf
attribute [local go_sem] Nat.add_assoc Nat.add_lt_add_iff_left lit_lt_add

set_option maxRecDepth 10000 in
set_option maxHeartbeats 4000000 in
theorem may8_any (z : Nat → Int) (w : World) (hz : FitsZ z) : Calls Tryz.prog 73 #[zoneV z] w (Gives w (.bool (okZ z))) := by
  have hF := zF_fits hz
  have FU : Hid (∀ w, Calls Tryz.prog 116 #[.agg #[.int .i64 (z 0), .int .i64 (z 1), .int .i64 (z 2), .int .i64 (z 3), .int .i64 (z 4), .int .i64 (z 5)]] w (rowPost w 3 9 (zF z))) := fun w => full8_any z w
  have MY : Hid (∀ w B c, SlP w (some ⟨B, 0, none⟩) 9 (zF z) → Calls Tryz.prog 117 #[.agg #[.int .i64 3, .slice (some ⟨B, 0, none⟩) 9 c]] w (Gives w (.bool (okD 3 9 (zF z))))) := fun w B c h => refMay_any 3 _ 9 c _ w (by decide) h hF (by omega)
  cases ok : okD 3 9 (zF z)
  · have e : okZ z = false := by
      cases h : okZ z
      · rfl
      · have : okD 3 9 (zF z) = true := (okZ_facts h).1
        rw [ok] at this; cases this
    rw [ok] at MY
    rw [e]
    obtain ⟨F, hFF⟩ : ∃ F, F = zF z := ⟨_, rfl⟩
    rw [← hFF] at FU MY
    clear ok e hF hz hFF
    unfold zoneV
    unfold rowPost at FU
    go_enter Tryz.func73, Tryz.ntmps73
    go_wp2_with (fail)
    refine (FU.out _).mono ?_; rintro e w' ⟨B, cp, rfl, hA, hB, hH, q1, rfl⟩
    have t1 := slp_of hH hB
    clear hA hB hH FU
    go_wp2_with (fail)
    refine (MY.out _ _ _ (t1.below (by (repeat' (first | (with_reducible assumption) | (with_reducible exact Below.refl _ _) | (with_reducible refine below_wov ?_ ?_ _) | (with_reducible refine below_drewN ?_ _) | (with_reducible refine Below.drew ?_) | (with_reducible refine Below.alloc ?_ ?_ _) | (with_reducible refine Below.setCell ?_ ?_ _) | (with_reducible exact Nat.le_refl _) | omega | (simp only [World.size_alloc, World.size_setCell, World.size_drew, Wov_size, World.heap_drewN]; omega)))))).mono ?_; rintro e w' ⟨rfl, q2, rfl⟩
    go_wp2
    go_ret
    exact gives_bool rfl (by (repeat' (first | (with_reducible assumption) | (with_reducible exact Below.refl _ _) | (with_reducible refine below_wov ?_ ?_ _) | (with_reducible refine below_drewN ?_ _) | (with_reducible refine Below.drew ?_) | (with_reducible refine Below.alloc ?_ ?_ _) | (with_reducible refine Below.setCell ?_ ?_ _) | (with_reducible exact Nat.le_refl _) | omega | (simp only [World.size_alloc, World.size_setCell, World.size_drew, Wov_size, World.heap_drewN]; omega))))
  · rw [ok] at MY
    have ok3 : okD (3 : Nat) (3 * 3) (zF z) = true := ok
    have CL0 : ∀ w B c, SlP w (some ⟨B, 0, none⟩) 9 (zF z) → Calls Tryz.prog 118 #[.agg #[.int .i64 3, .slice (some ⟨B, 0, none⟩) 9 c]] w (matB w (closeM (3 : Nat) (3 * 3) (zF z)).n (closeM (3 : Nat) (3 * 3) (zF z)).N (closeM (3 : Nat) (3 * 3) (zF z)).f (decide ((closeM (3 : Nat) (3 * 3) (zF z)).e = 0))) := fun w B c h => refClosed_any 3 _ c _ w ok3 h
    rcases closeM_cases ok3 with ⟨g, hg, K⟩ | ⟨hg, _⟩
    · rw [hg] at CL0
      have CL : Hid (∀ w B c, SlP w (some ⟨B, 0, none⟩) 9 (zF z) → Calls Tryz.prog 118 #[.agg #[.int .i64 3, .slice (some ⟨B, 0, none⟩) 9 c]] w (matB w 3 9 g true)) := CL0
      have e : okZ z = sameB 3 9 g 3 9 (zF z) := by
        unfold okZ
        rw [show closeM 3 9 (zF z) = ⟨3, 9, g, 0⟩ from hg]
        rfl
      rw [e]
      obtain ⟨F, hFF⟩ : ∃ F, F = zF z := ⟨_, rfl⟩
      rw [← hFF] at FU MY CL ⊢
      have SM : Hid (∀ w p c B c', SlP w p 9 g → SlP w (some ⟨B, 0, none⟩) 9 F → Calls Tryz.prog 119 #[.agg #[.int .i64 3, .slice p 9 c], .agg #[.int .i64 3, .slice (some ⟨B, 0, none⟩) 9 c']] w (Gives w (.bool (sameB 3 9 g 3 9 F)))) := fun w p c B c' h k => refSame_any 3 3 p _ 9 9 c c' g F w h k (by omega)
      obtain ⟨s, hs⟩ : ∃ s, s = sameB 3 9 g 3 9 F := ⟨_, rfl⟩
      rw [← hs] at SM ⊢
      clear CL0 ok ok3 hg K e hs hF hz hFF
      unfold zoneV
      unfold rowPost at FU
      go_enter Tryz.func73, Tryz.ntmps73
      go_wp2_with (fail)
      refine (FU.out _).mono ?_; rintro e w' ⟨B, cp, rfl, hA, hB, hH, q1, rfl⟩
      have t1 := slp_of hH hB
      clear hA hB hH FU
      go_wp2_with (fail)
      obtain ⟨A1, hA1⟩ : ∃ A, w.heap.size + (1 + q1.bl.size) = A := ⟨_, rfl⟩
      rw [hA1]
      refine calls_world (fun W => Below w.heap.size w W ∧ BoxM W A1 3 (some ⟨B, 0, none⟩) 9 cp F) ⟨by (repeat' (first | (with_reducible assumption) | (with_reducible exact Below.refl _ _) | (with_reducible refine below_wov ?_ ?_ _) | (with_reducible refine below_drewN ?_ _) | (with_reducible refine Below.drew ?_) | (with_reducible refine Below.alloc ?_ ?_ _) | (with_reducible refine Below.setCell ?_ ?_ _) | (with_reducible exact Nat.le_refl _) | omega | (simp only [World.size_alloc, World.size_setCell, World.size_drew, Wov_size, World.heap_drewN]; omega))), BoxM.new t1 (by rw [← hA1]; simp only [Wov_size, World.size_alloc]; omega)⟩ ?_
      rintro W1 ⟨hb1, m0⟩
      have l0 := m0.lt
      have k0 := m0.c0
      have k1 := m0.c1
      have hs1 := hb1.size
      clear t1 hA1
      refine (MY.out _ _ _ m0.sl).mono ?_; rintro e w' ⟨rfl, q2, rfl⟩
      clear MY
      go_wp2_with (fail)
      refine (CL.out _ _ _ (m0.sl.below (by (repeat' (first | (with_reducible assumption) | (with_reducible exact Below.refl _ _) | (with_reducible refine below_wov ?_ ?_ _) | (with_reducible refine below_drewN ?_ _) | (with_reducible refine Below.drew ?_) | (with_reducible refine Below.alloc ?_ ?_ _) | (with_reducible refine Below.setCell ?_ ?_ _) | (with_reducible exact Nat.le_refl _) | omega | (simp only [World.size_alloc, World.size_setCell, World.size_drew, Wov_size, World.heap_drewN]; omega)))))).mono ?_; rintro e w' ⟨⟨p2, c2, rfl, ho⟩, q3, rfl⟩
      have t2 := ho.slp
      (try simp only [Wov_Wov] at t2)
      clear ho CL
      go_wp2_with (fail)
      refine (SM.out _ _ _ _ _ (t2.below (by (repeat' (first | (with_reducible assumption) | (with_reducible exact Below.refl _ _) | (with_reducible refine below_wov ?_ ?_ _) | (with_reducible refine below_drewN ?_ _) | (with_reducible refine Below.drew ?_) | (with_reducible refine Below.alloc ?_ ?_ _) | (with_reducible refine Below.setCell ?_ ?_ _) | (with_reducible exact Nat.le_refl _) | omega | (simp only [World.size_alloc, World.size_setCell, World.size_drew, Wov_size, World.heap_drewN]; omega))))) (m0.sl.below (by (repeat' (first | (with_reducible assumption) | (with_reducible exact Below.refl _ _) | (with_reducible refine below_wov ?_ ?_ _) | (with_reducible refine below_drewN ?_ _) | (with_reducible refine Below.drew ?_) | (with_reducible refine Below.alloc ?_ ?_ _) | (with_reducible refine Below.setCell ?_ ?_ _) | (with_reducible exact Nat.le_refl _) | omega | (simp only [World.size_alloc, World.size_setCell, World.size_drew, Wov_size, World.heap_drewN]; omega)))))).mono ?_; rintro e w' ⟨rfl, q4, rfl⟩
      clear SM t2
      cases s with
      | true =>
        go_wp2
        go_ret
        exact gives_bool rfl (by (repeat' (first | (with_reducible assumption) | (with_reducible exact Below.refl _ _) | (with_reducible refine below_wov ?_ ?_ _) | (with_reducible refine below_drewN ?_ _) | (with_reducible refine Below.drew ?_) | (with_reducible refine Below.alloc ?_ ?_ _) | (with_reducible refine Below.setCell ?_ ?_ _) | (with_reducible exact Nat.le_refl _) | omega | (simp only [World.size_alloc, World.size_setCell, World.size_drew, Wov_size, World.heap_drewN]; omega))))
      | false =>
        go_wp2
        go_ret
        exact gives_bool rfl (by (repeat' (first | (with_reducible assumption) | (with_reducible exact Below.refl _ _) | (with_reducible refine below_wov ?_ ?_ _) | (with_reducible refine below_drewN ?_ _) | (with_reducible refine Below.drew ?_) | (with_reducible refine Below.alloc ?_ ?_ _) | (with_reducible refine Below.setCell ?_ ?_ _) | (with_reducible exact Nat.le_refl _) | omega | (simp only [World.size_alloc, World.size_setCell, World.size_drew, Wov_size, World.heap_drewN]; omega))))
    · rw [hg] at CL0
      have CL : Hid (∀ w B c, SlP w (some ⟨B, 0, none⟩) 9 (zF z) → Calls Tryz.prog 118 #[.agg #[.int .i64 3, .slice (some ⟨B, 0, none⟩) 9 c]] w (matB w 0 0 (fun _ => 0) false)) := CL0
      have e : okZ z = false := by
        unfold okZ
        rw [show closeM 3 9 (zF z) = errM 6 from hg]
        rfl
      rw [e]
      obtain ⟨F, hFF⟩ : ∃ F, F = zF z := ⟨_, rfl⟩
      rw [← hFF] at FU MY CL
      clear CL0 ok ok3 hg e hF hz hFF
      unfold zoneV
      unfold rowPost at FU
      go_enter Tryz.func73, Tryz.ntmps73
      go_wp2_with (fail)
      refine (FU.out _).mono ?_; rintro e w' ⟨B, cp, rfl, hA, hB, hH, q1, rfl⟩
      have t1 := slp_of hH hB
      clear hA hB hH FU
      go_wp2_with (fail)
      refine (MY.out _ _ _ (t1.below (by (repeat' (first | (with_reducible assumption) | (with_reducible exact Below.refl _ _) | (with_reducible refine below_wov ?_ ?_ _) | (with_reducible refine below_drewN ?_ _) | (with_reducible refine Below.drew ?_) | (with_reducible refine Below.alloc ?_ ?_ _) | (with_reducible refine Below.setCell ?_ ?_ _) | (with_reducible exact Nat.le_refl _) | omega | (simp only [World.size_alloc, World.size_setCell, World.size_drew, Wov_size, World.heap_drewN]; omega)))))).mono ?_; rintro e w' ⟨rfl, q2, rfl⟩
      clear MY
      go_wp2_with (fail)
      refine (CL.out _ _ _ (t1.below (by (repeat' (first | (with_reducible assumption) | (with_reducible exact Below.refl _ _) | (with_reducible refine below_wov ?_ ?_ _) | (with_reducible refine below_drewN ?_ _) | (with_reducible refine Below.drew ?_) | (with_reducible refine Below.alloc ?_ ?_ _) | (with_reducible refine Below.setCell ?_ ?_ _) | (with_reducible exact Nat.le_refl _) | omega | (simp only [World.size_alloc, World.size_setCell, World.size_drew, Wov_size, World.heap_drewN]; omega)))))).mono ?_; rintro e w' ⟨⟨p2, c2, rfl, ho⟩, q3, rfl⟩
      clear ho CL t1
      go_wp2
      go_ret
      exact gives_bool rfl (by (repeat' (first | (with_reducible assumption) | (with_reducible exact Below.refl _ _) | (with_reducible refine below_wov ?_ ?_ _) | (with_reducible refine below_drewN ?_ _) | (with_reducible refine Below.drew ?_) | (with_reducible refine Below.alloc ?_ ?_ _) | (with_reducible refine Below.setCell ?_ ?_ _) | (with_reducible exact Nat.le_refl _) | omega | (simp only [World.size_alloc, World.size_setCell, World.size_drew, Wov_size, World.heap_drewN]; omega))))
#print axioms may8_any
end Go.Proofs.YtpmpapenjcemjaaGreatDoor
