/- The document's zones: contracts of Cmp, Picked, Pick. No condition. -/
import Derived.Test.YtpaomeilfmeheaaGreatK5
import Derived.Test.YtpaomeilfmeheaaGreatH7
import Derived.Test.YtpaomeilfmeheaaGreatH9
import Derived.Test.YtpaomeilfmeheaaGreatH40
import Derived.Test.YtpaomeilfmeheaaGreatG16
namespace Go.Proofs.YtpaomeilfmeheaaGreat
set_option linter.unusedSimpArgs false
set_option linter.unusedVariables false
open Go Go.RowKit Go.Shelf
attribute [local go_sem] Nat.add_assoc Nat.add_lt_add_iff_left lit_lt_add

set_option maxRecDepth 10000 in
set_option maxHeartbeats 4000000 in
theorem rcmp_any (a b : Nat → Int) (w : World) : Calls Tryz.prog 20 #[zoneV a, zoneV b] w (Gives w (.int .i64 (cmpZ a b))) := by
  show Calls _ _ _ _ (Gives w (.int .i64 (lexK a b 0 6)))
  obtain ⟨r, hr⟩ : ∃ r, r = lexK a b 0 6 := ⟨_, rfl⟩
  rw [← hr]
  have HR := Lib.hid hr
  clear hr
  unfold zoneV
  go_enter Tryz.func20, Tryz.ntmps20
  go_wp2
  refine wp_world (fun W => Below w.heap.size w W ∧ BoxZ W w.heap.size a ∧ BoxZ W (w.heap.size + 1) b) ⟨by (repeat' (first | (with_reducible assumption) | (with_reducible exact Below.refl _ _) | (with_reducible refine below_wov ?_ ?_ _) | (with_reducible refine below_drewN ?_ _) | (with_reducible refine Below.drew ?_) | (with_reducible refine Below.alloc ?_ ?_ _) | (with_reducible refine Below.setCell ?_ ?_ _) | (with_reducible exact Nat.le_refl _) | omega | (simp only [World.size_alloc, World.size_setCell, World.size_drew, Wov_size, World.heap_drewN]; omega))), (BoxZ.new (W := w) (t := 24) rfl).below (by (repeat' (first | (with_reducible assumption) | (with_reducible exact Below.refl _ _) | (with_reducible refine below_wov ?_ ?_ _) | (with_reducible refine below_drewN ?_ _) | (with_reducible refine Below.drew ?_) | (with_reducible refine Below.alloc ?_ ?_ _) | (with_reducible refine Below.setCell ?_ ?_ _) | (with_reducible exact Nat.le_refl _) | omega | (simp only [World.size_alloc, World.size_setCell, World.size_drew, Wov_size, World.heap_drewN]; omega)))), BoxZ.new (W := w.alloc (.cells #[.int .i64 (a 0), .int .i64 (a 1), .int .i64 (a 2), .int .i64 (a 3), .int .i64 (a 4), .int .i64 (a 5)] 24)) (t := 24) (by simp)⟩ ?_
  rintro W0 ⟨hb0, m0, m1⟩
  have hs0 := hb0.size
  have l0 := m0.lt
  have l1 := m1.lt
  obtain ⟨A, hA⟩ : ∃ A, w.heap.size = A := ⟨_, rfl⟩
  rw [hA] at m0 m1 l0 l1 ⊢
  have h1 := m0.slp
  have h2 := m1.slp
  clear m0 m1
  go_loopw [5] (fun i wr => ∃ t : Nat, t ≤ 6 ∧ i = .int .i64 t ∧ Hid (r = lexK a b t (6 - t)) ∧ Below W0.heap.size W0 wr)
    (fun i _ => 6 - (intOf i).toNat)
  case atStart => exact ⟨0, Nat.zero_le _, rfl, HR, Below.refl _ _⟩
  case round =>
    obtain ⟨t, ht, rfl, hr, hB⟩ := hrel
    have hszr := hB.size
    have hBw : Below w.heap.size w wr := Below.trans hb0 (hB.mono (by omega))
    by_cases hlt : t < 6
    · obtain ⟨B1, o1, e1, hB1, hc1⟩ := h1.pos (by omega)
      obtain ⟨B2, o2, e2, hB2, hc2⟩ := h2.pos (by omega)
      simp only [Option.some.injEq, Addr.mk.injEq, and_true] at e1 e2
      obtain ⟨rfl, rfl⟩ := e1
      obtain ⟨rfl, rfl⟩ := e2
      have k1 := (hB.cell (p := ⟨A, 0 + t, none⟩) hB1).trans (hc1 t hlt)
      have k2 := (hB.cell (p := ⟨A + 1, 0 + t, none⟩) hB2).trans (hc2 t hlt)
      simp only [Nat.zero_add] at k1 k2
      have hr' := hr.out
      rw [lexK_step hlt] at hr'
      obtain ⟨u, hu⟩ : ∃ u, u = a t := ⟨_, rfl⟩
      obtain ⟨v, hv⟩ : ∃ v, v = b t := ⟨_, rfl⟩
      rw [← hu] at k1
      rw [← hv] at k2
      rw [← hu, ← hv] at hr'
      have u1 : (0 : Int) ≤ (t : Int) := by omega
      have u2 : (t : Int) < 6 := by omega
      clear hc1 hc2 h1 h2 HR hr hu hv
      rcases sgn3_cases u v with ⟨x, ex⟩ | ⟨x, ex⟩ | ⟨x, ex⟩
      · rw [ex, if_neg (by omega)] at hr'
        have HR := Lib.hid hr'
        have d1 : decide (u < v) = true := decide_eq_true x
        clear hr' ex x
        go_wp2
        go_region
        go_wp2
        go_ret
        exact gives_int HR.out.symm (by (repeat' (first | (with_reducible assumption) | (with_reducible exact Below.refl _ _) | (with_reducible refine below_wov ?_ ?_ _) | (with_reducible refine below_drewN ?_ _) | (with_reducible refine Below.drew ?_) | (with_reducible refine Below.alloc ?_ ?_ _) | (with_reducible refine Below.setCell ?_ ?_ _) | (with_reducible exact Nat.le_refl _) | omega | (simp only [World.size_alloc, World.size_setCell, World.size_drew, Wov_size, World.heap_drewN]; omega))))
      · rw [ex, if_pos rfl] at hr'
        have HR := Lib.hid hr'
        have d1 : decide (u < v) = false := decide_eq_false (by omega)
        have d2 : decide (v < u) = false := decide_eq_false (by omega)
        clear hr' ex x
        go_wp2
        go_region
        go_wp2
        go_region
        go_wp2
        go_roundw
        case rel => exact ⟨t + 1, hlt, by go_num, HR.out, by (repeat' (first | (with_reducible assumption) | (with_reducible exact Below.refl _ _) | (with_reducible refine below_wov ?_ ?_ _) | (with_reducible refine below_drewN ?_ _) | (with_reducible refine Below.drew ?_) | (with_reducible refine Below.alloc ?_ ?_ _) | (with_reducible refine Below.setCell ?_ ?_ _) | (with_reducible exact Nat.le_refl _) | omega | (simp only [World.size_alloc, World.size_setCell, World.size_drew, Wov_size, World.heap_drewN]; omega)))⟩
        case measure => simp [intOf]; omega
      · rw [ex, if_neg (by omega)] at hr'
        have HR := Lib.hid hr'
        have d1 : decide (u < v) = false := decide_eq_false (by omega)
        have d2 : decide (v < u) = true := decide_eq_true x
        clear hr' ex x
        go_wp2
        go_region
        go_wp2
        go_region
        go_wp2
        go_ret
        exact gives_int HR.out.symm (by (repeat' (first | (with_reducible assumption) | (with_reducible exact Below.refl _ _) | (with_reducible refine below_wov ?_ ?_ _) | (with_reducible refine below_drewN ?_ _) | (with_reducible refine Below.drew ?_) | (with_reducible refine Below.alloc ?_ ?_ _) | (with_reducible refine Below.setCell ?_ ?_ _) | (with_reducible exact Nat.le_refl _) | omega | (simp only [World.size_alloc, World.size_setCell, World.size_drew, Wov_size, World.heap_drewN]; omega))))
    · obtain rfl : t = 6 := by omega
      have hr' := hr.out
      rw [Nat.sub_self] at hr'
      have HR : Hid (r = 0) := hr'
      clear h1 h2 hr hr'
      go_wp2
      go_ret
      exact gives_int HR.out.symm (by (repeat' (first | (with_reducible assumption) | (with_reducible exact Below.refl _ _) | (with_reducible refine below_wov ?_ ?_ _) | (with_reducible refine below_drewN ?_ _) | (with_reducible refine Below.drew ?_) | (with_reducible refine Below.alloc ?_ ?_ _) | (with_reducible refine Below.setCell ?_ ?_ _) | (with_reducible exact Nat.le_refl _) | omega | (simp only [World.size_alloc, World.size_setCell, World.size_drew, Wov_size, World.heap_drewN]; omega))))

set_option maxRecDepth 10000 in
set_option maxHeartbeats 4000000 in
theorem rpicked_any (z : Nat → Int) (w : World) (kz : okZ z = true) : Calls Tryz.prog 40 #[zoneV z] w (Gives w (pointV (pickZ z).1)) := by
  have FU : Hid (∀ w, Calls Tryz.prog 24 #[.agg #[.int .i64 (z 0), .int .i64 (z 1), .int .i64 (z 2), .int .i64 (z 3), .int .i64 (z 4), .int .i64 (z 5)]] w (rowPost w 3 9 (zF z))) := fun w => full8_any z w
  obtain ⟨oz, c, hc, K, hcz⟩ := okZ_facts kz
  have hp : pickR 3 9 (zF z) = ⟨2, fun k => q8 (pickT 3 c (k + 1)), 0⟩ := pickR_ok hc
  have PK0 : ∀ w p cc, SlP w p 9 (zF z) → Calls Tryz.prog 72 #[.agg #[.int .i64 3, .slice p 9 cc]] w (rowR w 2 (fun k => q8 (pickT 3 c (k + 1)))) := fun w p cc h => picked_any 3 p cc _ c w (by omega) (by omega) (slp_congr h (fun x hx => (hcz x hx).symm)) oz K
  have ep : (pickZ z).1 = fun k => q8 (pickT 3 c (k + 1)) := by unfold pickZ; rw [kz, hp]; rfl
  rw [ep]
  obtain ⟨F, hFF⟩ : ∃ F, F = zF z := ⟨_, rfl⟩
  rw [← hFF] at FU PK0
  obtain ⟨T, hT⟩ : ∃ T : Nat → Int × Int, T = fun k => q8 (pickT 3 c (k + 1)) := ⟨_, rfl⟩
  rw [← hT] at PK0 ⊢
  have PK := Lib.hid PK0
  clear PK0 kz oz hc K hp hFF hT ep hcz
  unfold rowPost at FU
  unfold pointV zoneV
  go_enter Tryz.func40, Tryz.ntmps40
  go_wp2_with (fail)
  refine (FU.out _).mono ?_; rintro e w' ⟨B, cp, rfl, hA, hB, hH, q2, rfl⟩
  have t1 := slp_of hH hB
  clear hA hB hH
  go_wp2_with (fail)
  (try simp only [drew_Wov, Wov_Wov, Array.append_assoc] at t1)
  refine (PK.out _ _ _ (t1.below (by (repeat' (first | (with_reducible assumption) | (with_reducible exact Below.refl _ _) | (with_reducible exact below_app _ _ _ _) | (with_reducible exact below_app2 _ _ _ _ _ _) | (with_reducible exact below_app0 _ _ _) | (with_reducible refine below_wov ?_ ?_ _) | (with_reducible refine below_drewN ?_ _) | (with_reducible refine Below.drew ?_) | (with_reducible refine Below.alloc ?_ ?_ _) | (with_reducible refine Below.setCell ?_ ?_ _) | (with_reducible exact Nat.le_refl _) | omega | (simp only [World.size_alloc, World.size_setCell, World.size_drew, Wov_size, World.heap_drewN, Array.size_append]; omega)))))).mono ?_; rintro e w' ⟨⟨pp, cc, rfl, hl⟩, q3, rfl⟩
  obtain ⟨BB, off, rfl, hBB, hcc⟩ := hl.resolve_left (by omega)
  obtain ⟨k0, k1⟩ := hcc 0 (by omega)
  obtain ⟨k2, k3⟩ := hcc 1 (by omega)
  simp only [Nat.zero_mul, Nat.add_zero, Nat.zero_add, Nat.one_mul] at k0 k1 k2 k3
  clear hcc hl t1 PK FU
  go_wp2
  refine wp_world (fun W => Below w.heap.size w W ∧ HoldsA W (w.heap.size + 1) 4 (fun _ => 0) ∧ BB < W.heap.size ∧ W.cell? ⟨BB, off, none⟩ = some (.int .i64 (T 0).1) ∧ W.cell? ⟨BB, off + 1, none⟩ = some (.int .i64 (T 0).2) ∧ W.cell? ⟨BB, off + 2, none⟩ = some (.int .i64 (T 1).1) ∧ W.cell? ⟨BB, off + 3, none⟩ = some (.int .i64 (T 1).2)) ?hyp ?_
  case hyp =>
    simp only [drew_Wov, Wov_Wov, Array.append_assoc] at hBB k0 k1 k2 k3
    exact ⟨by (repeat' (first | (with_reducible assumption) | (with_reducible exact Below.refl _ _) | (with_reducible refine below_wov ?_ ?_ _) | (with_reducible refine below_drewN ?_ _) | (with_reducible refine Below.drew ?_) | (with_reducible refine Below.alloc ?_ ?_ _) | (with_reducible refine Below.setCell ?_ ?_ _) | (with_reducible exact Nat.le_refl _) | omega | (simp only [World.size_alloc, World.size_setCell, World.size_drew, Wov_size, World.heap_drewN]; omega))), (HoldsA.point (W := w.alloc (.cells #[.int .i64 (z 0), .int .i64 (z 1), .int .i64 (z 2), .int .i64 (z 3), .int .i64 (z 4), .int .i64 (z 5)] 24)) (t := 31) (by simp)).below (by (repeat' (first | (with_reducible assumption) | (with_reducible exact Below.refl _ _) | (with_reducible refine below_wov ?_ ?_ _) | (with_reducible refine below_drewN ?_ _) | (with_reducible refine Below.drew ?_) | (with_reducible refine Below.alloc ?_ ?_ _) | (with_reducible refine Below.setCell ?_ ?_ _) | (with_reducible exact Nat.le_refl _) | omega | (simp only [World.size_alloc, World.size_setCell, World.size_drew, Wov_size, World.heap_drewN]; omega)))), hBB, k0, k1, k2, k3⟩
  rintro W ⟨hbW, ⟨rl, rH⟩, g0, g1, g2, g3, g4⟩
  have hsW := hbW.size
  have r0 := (rH 0 (by omega)).1
  have y0 := (rH 0 (by omega)).2
  have r1 := (rH 1 (by omega)).1
  have y1 := (rH 1 (by omega)).2
  have r2 := (rH 2 (by omega)).1
  have y2 := (rH 2 (by omega)).2
  have r3 := (rH 3 (by omega)).1
  have y3 := (rH 3 (by omega)).2
  clear rH hBB k0 k1 k2 k3
  go_region
  go_wp2
  refine bodyPost_ret (by simp [results, Tryz.results40, go_sem, r0, r1, r2, r3, rl]; try rfl) rfl ?_
  exact gives_end rfl (by (repeat' (first | (with_reducible assumption) | (with_reducible exact Below.refl _ _) | (with_reducible refine below_wov ?_ ?_ _) | (with_reducible refine below_drewN ?_ _) | (with_reducible refine Below.drew ?_) | (with_reducible refine Below.alloc ?_ ?_ _) | (with_reducible refine Below.setCell ?_ ?_ _) | (with_reducible exact Nat.le_refl _) | omega | (simp only [World.size_alloc, World.size_setCell, World.size_drew, Wov_size, World.heap_drewN]; omega))))

set_option maxRecDepth 10000 in
set_option maxHeartbeats 4000000 in
theorem rpick_any (z : Nat → Int) (w : World) (hz : FitsZ z) : Calls Tryz.prog 15 #[zoneV z] w (Gives w (pointR (pickZ z).1 (pickZ z).2)) := by
  have MY : Hid (∀ w, Calls Tryz.prog 31 #[.agg #[.int .i64 (z 0), .int .i64 (z 1), .int .i64 (z 2), .int .i64 (z 3), .int .i64 (z 4), .int .i64 (z 5)]] w (Gives w (.bool (okZ z)))) := fun w => may8_any z w hz
  cases kz : okZ z
  · rw [kz] at MY
    have ep : pickZ z = (fun _ => (0, 0), 8) := by unfold pickZ; rw [kz]; rfl
    rw [ep]
    clear ep kz hz
    unfold pointR pointV zoneV
    go_enter Tryz.func15, Tryz.ntmps15
    go_wp2_with (fail)
    refine (MY.out _).mono ?_; rintro e w' ⟨rfl, q1, rfl⟩
    go_wp2
    go_returns
    exact gives_end rfl (by (repeat' (first | (with_reducible assumption) | (with_reducible exact Below.refl _ _) | (with_reducible refine below_wov ?_ ?_ _) | (with_reducible refine below_drewN ?_ _) | (with_reducible refine Below.drew ?_) | (with_reducible refine Below.alloc ?_ ?_ _) | (with_reducible refine Below.setCell ?_ ?_ _) | (with_reducible exact Nat.le_refl _) | omega | (simp only [World.size_alloc, World.size_setCell, World.size_drew, Wov_size, World.heap_drewN]; omega))))
  · rw [kz] at MY
    have PK := Lib.hid (fun w => rpicked_any z w kz)
    have ep : (pickZ z).2 = 0 := by unfold pickZ; rw [kz]; rfl
    rw [ep]
    obtain ⟨T, hT⟩ : ∃ T, T = (pickZ z).1 := ⟨_, rfl⟩
    rw [← hT] at PK ⊢
    clear ep kz hz hT
    unfold pointR
    unfold pointV zoneV at PK ⊢
    go_enter Tryz.func15, Tryz.ntmps15
    go_wp2_with (fail)
    refine (MY.out _).mono ?_; rintro e w' ⟨rfl, q1, rfl⟩
    go_wp2_with (fail)
    refine (PK.out _).mono ?_; rintro e w' ⟨rfl, q2, rfl⟩
    go_wp2
    go_returns
    exact gives_end rfl (by (repeat' (first | (with_reducible assumption) | (with_reducible exact Below.refl _ _) | (with_reducible refine below_wov ?_ ?_ _) | (with_reducible refine below_drewN ?_ _) | (with_reducible refine Below.drew ?_) | (with_reducible refine Below.alloc ?_ ?_ _) | (with_reducible refine Below.setCell ?_ ?_ _) | (with_reducible exact Nat.le_refl _) | omega | (simp only [World.size_alloc, World.size_setCell, World.size_drew, Wov_size, World.heap_drewN]; omega))))
#print axioms rpick_any
end Go.Proofs.YtpaomeilfmeheaaGreat
