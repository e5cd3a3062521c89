/- Zones: contracts of zone.checked, Matrix, Has, In, Meet and Pick. No condition. -/
import Derived.Test.YtpmpapenjcemjaaGreatDoorH5
import Derived.Test.YtpmpapenjcemjaaGreatDoorH40
namespace Go.Proofs.YtpmpapenjcemjaaGreatDoor
set_option linter.unusedSimpArgs false
set_option linter.unusedVariables false
open Go Go.RowKit Go.Shelf
attribute [local go_sem] Nat.add_assoc Nat.add_lt_add_iff_left lit_lt_add

theorem rcode_t : rcode true = 0 := rfl
theorem rcode_f : rcode false = 8 := rfl
/-- Two zones in a row. -/
structure TwoZ (W : World) (A : Nat) (a b : Nat → Int) : Prop where
  lt : A < W.heap.size
  a0 : W.cell? ⟨A, 0, none⟩ = some (.int .i64 (a 0))
  a1 : W.cell? ⟨A, 1, none⟩ = some (.int .i64 (a 1))
  a2 : W.cell? ⟨A, 2, none⟩ = some (.int .i64 (a 2))
  a3 : W.cell? ⟨A, 3, none⟩ = some (.int .i64 (a 3))
  a4 : W.cell? ⟨A, 4, none⟩ = some (.int .i64 (a 4))
  a5 : W.cell? ⟨A, 5, none⟩ = some (.int .i64 (a 5))
  b0 : W.cell? ⟨A, 6, none⟩ = some (.int .i64 (b 0))
  b1 : W.cell? ⟨A, 7, none⟩ = some (.int .i64 (b 1))
  b2 : W.cell? ⟨A, 8, none⟩ = some (.int .i64 (b 2))
  b3 : W.cell? ⟨A, 9, none⟩ = some (.int .i64 (b 3))
  b4 : W.cell? ⟨A, 10, none⟩ = some (.int .i64 (b 4))
  b5 : W.cell? ⟨A, 11, none⟩ = some (.int .i64 (b 5))
theorem TwoZ.below {W V : World} {A : Nat} {a b : Nat → Int} (h : TwoZ W A a b) (hb : Below W.heap.size W V) : TwoZ V A a b :=
  ⟨Nat.lt_of_lt_of_le h.lt hb.size, (hb.cell (p := ⟨A, 0, none⟩) h.lt).trans h.a0, (hb.cell (p := ⟨A, 1, none⟩) h.lt).trans h.a1, (hb.cell (p := ⟨A, 2, none⟩) h.lt).trans h.a2, (hb.cell (p := ⟨A, 3, none⟩) h.lt).trans h.a3, (hb.cell (p := ⟨A, 4, none⟩) h.lt).trans h.a4, (hb.cell (p := ⟨A, 5, none⟩) h.lt).trans h.a5, (hb.cell (p := ⟨A, 6, none⟩) h.lt).trans h.b0, (hb.cell (p := ⟨A, 7, none⟩) h.lt).trans h.b1, (hb.cell (p := ⟨A, 8, none⟩) h.lt).trans h.b2, (hb.cell (p := ⟨A, 9, none⟩) h.lt).trans h.b3, (hb.cell (p := ⟨A, 10, none⟩) h.lt).trans h.b4, (hb.cell (p := ⟨A, 11, none⟩) h.lt).trans h.b5⟩
theorem TwoZ.new {W : World} {A : Nat} {a b : Nat → Int} {t : TypeId} (hA : A = W.heap.size) : TwoZ (W.alloc (.cells #[.int .i64 (a 0), .int .i64 (a 1), .int .i64 (a 2), .int .i64 (a 3), .int .i64 (a 4), .int .i64 (a 5), .int .i64 (b 0), .int .i64 (b 1), .int .i64 (b 2), .int .i64 (b 3), .int .i64 (b 4), .int .i64 (b 5)] t)) A a b := by
  subst hA
  exact ⟨by simp, by simp [go_sem], by simp [go_sem], by simp [go_sem], by simp [go_sem], by simp [go_sem], by simp [go_sem], by simp [go_sem], by simp [go_sem], by simp [go_sem], by simp [go_sem], by simp [go_sem], by simp [go_sem]⟩

theorem HoldsI.setOther {W : World} {B N C x : Nat} {f : Nat → Int} {v : Value} (h : HoldsI W B N f) (hB : B < W.heap.size) (hn : B ≠ C) : HoldsI (W.setCell ⟨C, x, none⟩ v) B N f := h.of_block ((Chg.set W C x v).block B hB hn)
/-- A zone as a matrix. -/
def matZ (z : Nat → Int) : MR := if okD 3 9 (zF z) then ⟨3, 9, zF z, 0⟩ else errM 8

/-- A point in memory. -/
structure PtAt (W : World) (A : Nat) (a b c d : Int) : Prop where
  lt : A < W.heap.size
  c0 : W.cell? ⟨A, 0, none⟩ = some (.int .i64 a)
  c1 : W.cell? ⟨A, 1, none⟩ = some (.int .i64 b)
  c2 : W.cell? ⟨A, 2, none⟩ = some (.int .i64 c)
  c3 : W.cell? ⟨A, 3, none⟩ = some (.int .i64 d)
theorem PtAt.below {W V : World} {A : Nat} {a b c d : Int} (h : PtAt W A a b c d) (hb : Below W.heap.size W V) : PtAt V A a b c d :=
  ⟨Nat.lt_of_lt_of_le h.lt hb.size, (hb.cell (p := ⟨A, 0, none⟩) h.lt).trans h.c0, (hb.cell (p := ⟨A, 1, none⟩) h.lt).trans h.c1, (hb.cell (p := ⟨A, 2, none⟩) h.lt).trans h.c2, (hb.cell (p := ⟨A, 3, none⟩) h.lt).trans h.c3⟩
theorem PtAt.new {W : World} {A : Nat} {a b c d : Int} {t : TypeId} (hA : A = W.heap.size) : PtAt (W.alloc (.cells #[.int .i64 a, .int .i64 b, .int .i64 c, .int .i64 d] t)) A a b c d := by
  subst hA
  exact ⟨by simp, by simp [go_sem], by simp [go_sem], by simp [go_sem], by simp [go_sem]⟩
theorem slr_two {W : World} {A : Nat} {a b c d : Int} (hl : A < W.heap.size) (h0 : W.cell? ⟨A, 0, none⟩ = some (.int .i64 a)) (h1 : W.cell? ⟨A, 1, none⟩ = some (.int .i64 b)) (h2 : W.cell? ⟨A, 2, none⟩ = some (.int .i64 c)) (h3 : W.cell? ⟨A, 3, none⟩ = some (.int .i64 d)) : SlR W (some ⟨A, 0, none⟩) 2 (pt a b c d) := by
  refine .inr ⟨A, 0, rfl, hl, fun x hx => ?_⟩
  have : x = 0 ∨ x = 1 := by omega
  rcases this with rfl | rfl
  · exact ⟨h0, h1⟩
  · exact ⟨h2, h3⟩
theorem pt_fits {a b c d : Int} (h1 : fits64 a) (h2 : fits64 b) (h3 : fits64 c) (h4 : fits64 d) : FitsR 2 (pt a b c d) := by
  intro x hx
  have : x = 0 ∨ x = 1 := by omega
  rcases this with rfl | rfl
  · exact ⟨h1, h2⟩
  · exact ⟨h3, h4⟩

set_option maxRecDepth 10000 in
set_option maxHeartbeats 4000000 in
theorem zhas_any (z : Nat → Int) (n1 d1 n2 d2 : Int) (w : World) (hz : FitsZ z) (h1 : fits64 n1) (h2 : fits64 d1) (h3 : fits64 n2) (h4 : fits64 d2) :
    Calls Tryz.prog 21 #[zoneV z, .agg #[.int .i64 n1, .int .i64 d1, .int .i64 n2, .int .i64 d2]] w (Gives w (bpair (hasZ z (pt n1 d1 n2 d2)))) := by
  have MX : Hid (∀ w, Calls Tryz.prog 43 #[.agg #[.int .i64 (z 0), .int .i64 (z 1), .int .i64 (z 2), .int .i64 (z 3), .int .i64 (z 4), .int .i64 (z 5)]] w (rowPost w 3 9 (zF z))) := fun w => matrix_any z w
  have CK0 : ∀ w, Calls Tryz.prog 37 #[.agg #[.int .i64 (z 0), .int .i64 (z 1), .int .i64 (z 2), .int .i64 (z 3), .int .i64 (z 4), .int .i64 (z 5)]] w (Gives w (.int .i64 (rcode (okZ z)))) := fun w => zcheck_any z w hz
  have R10 : ∀ w, Calls Tryz.prog 41 #[.agg #[.int .i64 n1, .int .i64 d1]] w (Gives w (.int .i64 (rcode (okRat n1 d1)))) := ratCheck_any n1 d1 h1.1 h1.2
  have R20 : ∀ w, Calls Tryz.prog 41 #[.agg #[.int .i64 n2, .int .i64 d2]] w (Gives w (.int .i64 (rcode (okRat n2 d2)))) := ratCheck_any n2 d2 h3.1 h3.2
  have KP0 : ∀ w B c A, SlP w (some ⟨B, 0, none⟩) 9 (zF z) → SlR w (some ⟨A, 0, none⟩) 2 (pt n1 d1 n2 d2) → Calls Tryz.prog 42 #[.agg #[.int .i64 3, .slice (some ⟨B, 0, none⟩) 9 c], .slice (some ⟨A, 0, none⟩) 2 2] w (Gives w (bpair (keepsD 3 9 (zF z) 2 (pt n1 d1 n2 d2)))) := fun w B c A h g => keepsD_any 3 9 _ c _ _ 2 2 _ w (by decide) h (zF_fits hz) (by omega) g (pt_fits h1 h2 h3 h4) (by omega)
  unfold hasZ
  show Calls _ _ _ _ (Gives w (bpair (if okZ z && (okRat n1 d1 && okRat n2 d2) then keepsD 3 9 (zF z) 2 (pt n1 d1 n2 d2) else (false, 8))))
  cases kz : okZ z
  · rw [kz] at CK0
    simp only [rcode_f] at CK0
    have CK := Lib.hid CK0
    show Calls _ _ _ _ (Gives w (.tuple #[.bool false, .int .i64 8]))
    clear CK0 R10 R20 KP0 MX kz
    unfold zoneV
    go_enter Tryz.func21, Tryz.ntmps21
    go_wp2_with (fail)
    refine (CK.out _).mono ?_; rintro e w' ⟨rfl, q1, rfl⟩
    go_wp2
    go_returns
    exact gives_end rfl (by (repeat' (first | (with_reducible assumption) | (with_reducible exact Below.refl _ _) | (with_reducible refine below_wov ?_ ?_ _) | (with_reducible refine below_drewN ?_ _) | (with_reducible refine Below.drew ?_) | (with_reducible refine Below.alloc ?_ ?_ _) | (with_reducible refine Below.setCell ?_ ?_ _) | (with_reducible exact Nat.le_refl _) | omega | (simp only [World.size_alloc, World.size_setCell, World.size_drew, Wov_size, World.heap_drewN]; omega))))
  · rw [kz] at CK0
    simp only [rcode_t] at CK0
    have CK := Lib.hid CK0
    cases k1 : okRat n1 d1
    · rw [k1] at R10
      simp only [rcode_f] at R10
      have R1 := Lib.hid R10
      show Calls _ _ _ _ (Gives w (.tuple #[.bool false, .int .i64 8]))
      clear CK0 R10 R20 KP0 MX kz k1
      unfold zoneV
      go_enter Tryz.func21, Tryz.ntmps21
      go_wp2_with (fail)
      refine (CK.out _).mono ?_; rintro e w' ⟨rfl, q1, rfl⟩
      go_wp2_with (fail)
      refine (R1.out _).mono ?_; rintro e w' ⟨rfl, q2, rfl⟩
      go_wp2
      go_returns
      exact gives_end rfl (by (repeat' (first | (with_reducible assumption) | (with_reducible exact Below.refl _ _) | (with_reducible refine below_wov ?_ ?_ _) | (with_reducible refine below_drewN ?_ _) | (with_reducible refine Below.drew ?_) | (with_reducible refine Below.alloc ?_ ?_ _) | (with_reducible refine Below.setCell ?_ ?_ _) | (with_reducible exact Nat.le_refl _) | omega | (simp only [World.size_alloc, World.size_setCell, World.size_drew, Wov_size, World.heap_drewN]; omega))))
    · rw [k1] at R10
      simp only [rcode_t] at R10
      have R1 := Lib.hid R10
      cases k2 : okRat n2 d2
      · rw [k2] at R20
        simp only [rcode_f] at R20
        have R2 := Lib.hid R20
        show Calls _ _ _ _ (Gives w (.tuple #[.bool false, .int .i64 8]))
        clear CK0 R10 R20 KP0 MX kz k1 k2
        unfold zoneV
        go_enter Tryz.func21, Tryz.ntmps21
        go_wp2_with (fail)
        refine (CK.out _).mono ?_; rintro e w' ⟨rfl, q1, rfl⟩
        go_wp2_with (fail)
        refine (R1.out _).mono ?_; rintro e w' ⟨rfl, q2, rfl⟩
        go_wp2_with (fail)
        refine (R2.out _).mono ?_; rintro e w' ⟨rfl, q3, rfl⟩
        go_wp2
        go_returns
        exact gives_end rfl (by (repeat' (first | (with_reducible assumption) | (with_reducible exact Below.refl _ _) | (with_reducible refine below_wov ?_ ?_ _) | (with_reducible refine below_drewN ?_ _) | (with_reducible refine Below.drew ?_) | (with_reducible refine Below.alloc ?_ ?_ _) | (with_reducible refine Below.setCell ?_ ?_ _) | (with_reducible exact Nat.le_refl _) | omega | (simp only [World.size_alloc, World.size_setCell, World.size_drew, Wov_size, World.heap_drewN]; omega))))
      · rw [k2] at R20
        simp only [rcode_t] at R20
        have R2 := Lib.hid R20
        simp only [Bool.and_self, if_true]
        obtain ⟨F, hFF⟩ : ∃ F, F = zF z := ⟨_, rfl⟩
        rw [← hFF] at MX KP0 ⊢
        obtain ⟨b, e0, hbe⟩ : ∃ b e0, keepsD 3 9 F 2 (pt n1 d1 n2 d2) = (b, e0) := ⟨_, _, rfl⟩
        rw [hbe] at KP0 ⊢
        have KP : Hid (∀ w B c A, SlP w (some ⟨B, 0, none⟩) 9 F → SlR w (some ⟨A, 0, none⟩) 2 (pt n1 d1 n2 d2) → Calls Tryz.prog 42 #[.agg #[.int .i64 3, .slice (some ⟨B, 0, none⟩) 9 c], .slice (some ⟨A, 0, none⟩) 2 2] w (Gives w (.tuple #[.bool b, .int .i64 e0]))) := KP0
        show Calls _ _ _ _ (Gives w (.tuple #[.bool b, .int .i64 e0]))
        clear CK0 R10 R20 KP0 kz k1 k2 hFF hbe hz h1 h2 h3 h4
        unfold zoneV
        go_enter Tryz.func21, Tryz.ntmps21
        go_wp2_with (fail)
        refine (CK.out _).mono ?_; rintro e w' ⟨rfl, q1, rfl⟩
        go_wp2_with (fail)
        refine (R1.out _).mono ?_; rintro e w' ⟨rfl, q2, rfl⟩
        go_wp2_with (fail)
        refine (R2.out _).mono ?_; rintro e w' ⟨rfl, q3, rfl⟩
        go_wp2_with (fail)
        refine wp_world (fun W => Below w.heap.size w W ∧ BoxZ W w.heap.size z ∧ PtAt W (w.heap.size + 1) n1 d1 n2 d2) ⟨by (repeat' (first | (with_reducible assumption) | (with_reducible exact Below.refl _ _) | (with_reducible refine below_wov ?_ ?_ _) | (with_reducible refine below_drewN ?_ _) | (with_reducible refine Below.drew ?_) | (with_reducible refine Below.alloc ?_ ?_ _) | (with_reducible refine Below.setCell ?_ ?_ _) | (with_reducible exact Nat.le_refl _) | omega | (simp only [World.size_alloc, World.size_setCell, World.size_drew, Wov_size, World.heap_drewN]; omega))), (BoxZ.new (W := w) (t := 49) rfl).below (by (repeat' (first | (with_reducible assumption) | (with_reducible exact Below.refl _ _) | (with_reducible refine below_wov ?_ ?_ _) | (with_reducible refine below_drewN ?_ _) | (with_reducible refine Below.drew ?_) | (with_reducible refine Below.alloc ?_ ?_ _) | (with_reducible refine Below.setCell ?_ ?_ _) | (with_reducible exact Nat.le_refl _) | omega | (simp only [World.size_alloc, World.size_setCell, World.size_drew, Wov_size, World.heap_drewN]; omega)))), ⟨by (first | omega | ((simp only [World.size_alloc, World.size_setCell, World.size_drew, Wov_size, World.heap_drewN, Array.size_append]) <;> omega)), by simp [go_sem], by simp [go_sem], by simp [go_sem], by simp [go_sem]⟩⟩ ?_
        rintro W ⟨hbW, ⟨zl, z0, z1, z2, z3, z4, z5⟩, ⟨pl, p0, p1, p2, p3⟩⟩
        have hsW := hbW.size
        clear CK R1 R2
        go_region_held3 (fun w' => w'.cell? ⟨w.heap.size, 0, none⟩ = some (.int .i64 (z 0)) ∧ w'.cell? ⟨w.heap.size, 1, none⟩ = some (.int .i64 (z 1)) ∧ w'.cell? ⟨w.heap.size, 2, none⟩ = some (.int .i64 (z 2)) ∧ w'.cell? ⟨w.heap.size, 3, none⟩ = some (.int .i64 (z 3)) ∧ w'.cell? ⟨w.heap.size, 4, none⟩ = some (.int .i64 (z 4)) ∧ w'.cell? ⟨w.heap.size, 5, none⟩ = some (.int .i64 (z 5)) ∧ w'.cell? ⟨w.heap.size + 1, 0, none⟩ = some (.int .i64 n1) ∧ w'.cell? ⟨w.heap.size + 1, 1, none⟩ = some (.int .i64 d1) ∧ w'.cell? ⟨w.heap.size + 1, 2, none⟩ = some (.int .i64 n2) ∧ w'.cell? ⟨w.heap.size + 1, 3, none⟩ = some (.int .i64 d2))
          ((simp [go_sem, *]))
          (first
          | (go_at_call 43; ((with_reducible refine (MX.out _).mono ?_); rintro e w' ⟨B, cp, rfl, hA, hB, hH, qa, rfl⟩; have t1 := slp_of hH hB; clear hA hB hH))
          | (go_at_call 42; (try simp only [drew_Wov, Wov_Wov, Array.append_assoc] at t1); refine (KP.out _ _ _ _ (t1.below (by (repeat' (first | (with_reducible assumption) | (with_reducible exact Below.refl _ _) | (with_reducible refine below_wov ?_ ?_ _) | (with_reducible refine below_drewN ?_ _) | (with_reducible refine Below.drew ?_) | (with_reducible refine Below.alloc ?_ ?_ _) | (with_reducible refine Below.setCell ?_ ?_ _) | (with_reducible exact Nat.le_refl _) | omega | (simp only [World.size_alloc, World.size_setCell, World.size_drew, Wov_size, World.heap_drewN]; omega))))) (slr_two (by (first | omega | ((simp only [World.size_alloc, World.size_setCell, World.size_drew, Wov_size, World.heap_drewN, Array.size_append]) <;> omega))) (by simp [go_sem]) (by simp [go_sem]) (by simp [go_sem]) (by simp [go_sem]))).mono ?_; rintro e w' ⟨rfl, qb, rfl⟩; clear t1))
        all_goals
          go_wp2
          go_returns
          exact gives_end rfl (by (repeat' (first | (with_reducible assumption) | (with_reducible exact Below.refl _ _) | (with_reducible refine below_wov ?_ ?_ _) | (with_reducible refine below_drewN ?_ _) | (with_reducible refine Below.drew ?_) | (with_reducible refine Below.alloc ?_ ?_ _) | (with_reducible refine Below.setCell ?_ ?_ _) | (with_reducible exact Nat.le_refl _) | omega | (simp only [World.size_alloc, World.size_setCell, World.size_drew, Wov_size, World.heap_drewN]; omega))))
end Go.Proofs.YtpmpapenjcemjaaGreatDoor
