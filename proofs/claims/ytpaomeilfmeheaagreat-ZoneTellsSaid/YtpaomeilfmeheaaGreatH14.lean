/- The document's zones: contracts of Full, Short, told, Made, Make. No condition. -/
import Derived.Test.YtpaomeilfmeheaaGreatH6
import Derived.Test.YtpaomeilfmeheaaGreatMF
namespace Go.Proofs.YtpaomeilfmeheaaGreat
set_option linter.unusedSimpArgs false
set_option linter.unusedVariables false
open Go Go.RowKit Go.Shelf
attribute [local go_sem] Nat.add_assoc Nat.add_lt_add_iff_left lit_lt_add

set_option maxRecDepth 10000 in
set_option maxHeartbeats 2000000 in
theorem full8_any (z : Nat → Int) (w : World) : Calls Tryz.prog 24 #[zoneV z] w (rowPost w 3 9 (zF z)) := by
  obtain ⟨f, hf⟩ : ∃ f, f = zF z := ⟨_, rfl⟩
  have e0 : f 0 = 1 := by rw [hf]; rfl
  have e1 : f 1 = z 1 := by rw [hf]; rfl
  have e2 : f 2 = z 3 := by rw [hf]; rfl
  have e3 : f 3 = z 0 := by rw [hf]; rfl
  have e4 : f 4 = 1 := by rw [hf]; rfl
  have e5 : f 5 = z 5 := by rw [hf]; rfl
  have e6 : f 6 = z 2 := by rw [hf]; rfl
  have e7 : f 7 = z 4 := by rw [hf]; rfl
  have e8 : f 8 = 1 := by rw [hf]; rfl
  have HE : Hid (f 0 = 1 ∧ f 1 = z 1 ∧ f 2 = z 3 ∧ f 3 = z 0 ∧ f 4 = 1 ∧ f 5 = z 5 ∧ f 6 = z 2 ∧ f 7 = z 4 ∧ f 8 = 1) := ⟨e0, e1, e2, e3, e4, e5, e6, e7, e8⟩
  rw [← hf]
  clear hf e0 e1 e2 e3 e4 e5 e6 e7 e8
  unfold zoneV
  go_enter Tryz.func24, Tryz.ntmps24
  go_wp2
  go_returns
  refine ⟨w.heap.size + 2, 9, rfl, by omega, by simp [World.setCell], ?_, Wov_of_below (by (repeat' (first | (with_reducible assumption) | (with_reducible exact Below.refl _ _) | (with_reducible refine below_wov ?_ ?_ _) | (with_reducible refine below_drewN ?_ _) | (with_reducible refine Below.drew ?_) | (with_reducible refine Below.alloc ?_ ?_ _) | (with_reducible refine Below.setCell ?_ ?_ _) | (with_reducible exact Nat.le_refl _) | omega | (simp only [World.size_alloc, World.size_setCell, World.size_drew, Wov_size, World.heap_drewN]; omega))))⟩
  obtain ⟨e0, e1, e2, e3, e4, e5, e6, e7, e8⟩ := HE.out
  intro x hx
  rcases nine hx with rfl | rfl | rfl | rfl | rfl | rfl | rfl | rfl | rfl
  · rw [e0]; constructor <;> simp [go_sem]
  · rw [e1]; constructor <;> simp [go_sem]
  · rw [e2]; constructor <;> simp [go_sem]
  · rw [e3]; constructor <;> simp [go_sem]
  · rw [e4]; constructor <;> simp [go_sem]
  · rw [e5]; constructor <;> simp [go_sem]
  · rw [e6]; constructor <;> simp [go_sem]
  · rw [e7]; constructor <;> simp [go_sem]
  · rw [e8]; constructor <;> simp [go_sem]

set_option maxRecDepth 10000 in
set_option maxHeartbeats 2000000 in
theorem short8_any (p : Option Addr) (c : Nat) (f : Nat → Int) (w : World) (hS : SlP w p 9 f) : Calls Tryz.prog 52 #[.agg #[.int .i64 3, .slice p 9 c]] w (Gives w (zoneV (shortZ f))) := by
  obtain ⟨B1, o1, rfl, hB1, hc1⟩ := hS.pos (by omega)
  have k1 := hc1 1 (by omega)
  have k2 := hc1 2 (by omega)
  have k3 := hc1 3 (by omega)
  have k5 := hc1 5 (by omega)
  have k6 := hc1 6 (by omega)
  have k7 := hc1 7 (by omega)
  show Calls _ _ _ _ (Gives w (.agg #[.int .i64 (f 3), .int .i64 (f 1), .int .i64 (f 6), .int .i64 (f 2), .int .i64 (f 7), .int .i64 (f 5)]))
  clear hS hc1
  go_enter Tryz.func52, Tryz.ntmps52
  go_wp2
  refine wp_world (fun W => Below w.heap.size w W ∧ w.heap.size + 1 < W.heap.size ∧ HoldsA W (w.heap.size + 1) 6 (fun _ => 0)) ⟨by (repeat' (first | (with_reducible assumption) | (with_reducible exact Below.refl _ _) | (with_reducible refine below_wov ?_ ?_ _) | (with_reducible refine below_drewN ?_ _) | (with_reducible refine Below.drew ?_) | (with_reducible refine Below.alloc ?_ ?_ _) | (with_reducible refine Below.setCell ?_ ?_ _) | (with_reducible exact Nat.le_refl _) | omega | (simp only [World.size_alloc, World.size_setCell, World.size_drew, Wov_size, World.heap_drewN]; omega))), by simp, (HoldsA.zone (W := World.alloc w (.cells #[.int .i64 3, .slice (some ⟨B1, o1, none⟩) 9 c] 27)) (t := 24) (by simp))⟩ ?_
  rintro W ⟨hb, hz, hr⟩
  have hsz := hb.size
  replace k1 := (hb.cell (p := ⟨B1, o1 + 1, none⟩) hB1).trans k1
  replace k2 := (hb.cell (p := ⟨B1, o1 + 2, none⟩) hB1).trans k2
  replace k3 := (hb.cell (p := ⟨B1, o1 + 3, none⟩) hB1).trans k3
  replace k5 := (hb.cell (p := ⟨B1, o1 + 5, none⟩) hB1).trans k5
  replace k6 := (hb.cell (p := ⟨B1, o1 + 6, none⟩) hB1).trans k6
  replace k7 := (hb.cell (p := ⟨B1, o1 + 7, none⟩) hB1).trans k7
  have r0 := (hr.holds 0 (by omega)).1
  have rz0 := (hr.holds 0 (by omega)).2
  have r1 := (hr.holds 1 (by omega)).1
  have rz1 := (hr.holds 1 (by omega)).2
  have r2 := (hr.holds 2 (by omega)).1
  have rz2 := (hr.holds 2 (by omega)).2
  have r3 := (hr.holds 3 (by omega)).1
  have rz3 := (hr.holds 3 (by omega)).2
  have r4 := (hr.holds 4 (by omega)).1
  have rz4 := (hr.holds 4 (by omega)).2
  have r5 := (hr.holds 5 (by omega)).1
  have rz5 := (hr.holds 5 (by omega)).2
  have rl := hr.lt
  have hB2 : B1 < W.heap.size := by omega
  have n1 : ¬ B1 = w.heap.size + 1 := by omega
  have n2 : ¬ w.heap.size + 1 = B1 := by omega
  clear hr
  go_region
  go_wp2
  refine bodyPost_ret (by simp [results, Tryz.results52, go_sem, r0, r1, r2, r3, r4, r5]; try rfl) rfl ?_
  exact gives_end rfl (by (repeat' (first | (with_reducible assumption) | (with_reducible exact Below.refl _ _) | (with_reducible refine below_wov ?_ ?_ _) | (with_reducible refine below_drewN ?_ _) | (with_reducible refine Below.drew ?_) | (with_reducible refine Below.alloc ?_ ?_ _) | (with_reducible refine Below.setCell ?_ ?_ _) | (with_reducible exact Nat.le_refl _) | omega | (simp only [World.size_alloc, World.size_setCell, World.size_drew, Wov_size, World.heap_drewN]; omega))))

set_option maxRecDepth 10000 in
set_option maxHeartbeats 2000000 in
theorem told8_yes (p : Option Addr) (c : Nat) (g : Nat → Int) (w : World) (hS : SlP w p 9 g) (hF : Fits 9 g) : Calls Tryz.prog 27 #[.agg #[.int .i64 3, .slice p 9 c], .bool true] w (Gives w (zoneR (toldZ g).1 (toldZ g).2)) := by
  have MY : Hid (∀ w', Below w.heap.size w w' → Calls Tryz.prog 23 #[.agg #[.int .i64 3, .slice p 9 c]] w' (Gives w' (.bool (okD 3 9 g)))) := fun w' hb => refMay_any 3 p 9 c g w' (by decide) (hS.below hb) hF (by omega)
  have SH : Hid (∀ w', Below w.heap.size w w' → Calls Tryz.prog 52 #[.agg #[.int .i64 3, .slice p 9 c]] w' (Gives w' (zoneV (shortZ g)))) := fun w' hb => short8_any p c g w' (hS.below hb)
  unfold toldZ
  obtain ⟨k, hk⟩ : ∃ k, k = okD 3 9 g := ⟨_, rfl⟩
  rw [← hk] at MY ⊢
  unfold zoneV at SH
  unfold zoneR zoneV
  obtain ⟨s, hs⟩ : ∃ s, s = shortZ g := ⟨_, rfl⟩
  rw [← hs] at SH ⊢
  clear hk hs hS hF
  cases k
  · simp only [Bool.false_eq_true, if_false]
    go_enter Tryz.func27, Tryz.ntmps27
    go_wp2_with (fail)
    refine (MY.out _ (by (repeat' (first | (with_reducible assumption) | (with_reducible exact Below.refl _ _) | (with_reducible refine below_wov ?_ ?_ _) | (with_reducible refine below_drewN ?_ _) | (with_reducible refine Below.drew ?_) | (with_reducible refine Below.alloc ?_ ?_ _) | (with_reducible refine Below.setCell ?_ ?_ _) | (with_reducible exact Nat.le_refl _) | omega | (simp only [World.size_alloc, World.size_setCell, World.size_drew, Wov_size, World.heap_drewN]; omega))))).mono ?_; rintro e w' ⟨rfl, q1, rfl⟩
    go_wp2
    go_returns
    exact gives_end rfl (by (repeat' (first | (with_reducible assumption) | (with_reducible exact Below.refl _ _) | (with_reducible refine below_wov ?_ ?_ _) | (with_reducible refine below_drewN ?_ _) | (with_reducible refine Below.drew ?_) | (with_reducible refine Below.alloc ?_ ?_ _) | (with_reducible refine Below.setCell ?_ ?_ _) | (with_reducible exact Nat.le_refl _) | omega | (simp only [World.size_alloc, World.size_setCell, World.size_drew, Wov_size, World.heap_drewN]; omega))))
  · simp only [if_true]
    go_enter Tryz.func27, Tryz.ntmps27
    go_wp2_with (fail)
    refine (MY.out _ (by (repeat' (first | (with_reducible assumption) | (with_reducible exact Below.refl _ _) | (with_reducible refine below_wov ?_ ?_ _) | (with_reducible refine below_drewN ?_ _) | (with_reducible refine Below.drew ?_) | (with_reducible refine Below.alloc ?_ ?_ _) | (with_reducible refine Below.setCell ?_ ?_ _) | (with_reducible exact Nat.le_refl _) | omega | (simp only [World.size_alloc, World.size_setCell, World.size_drew, Wov_size, World.heap_drewN]; omega))))).mono ?_; rintro e w' ⟨rfl, q1, rfl⟩
    go_wp2_with (fail)
    refine (SH.out _ (by (repeat' (first | (with_reducible assumption) | (with_reducible exact Below.refl _ _) | (with_reducible refine below_wov ?_ ?_ _) | (with_reducible refine below_drewN ?_ _) | (with_reducible refine Below.drew ?_) | (with_reducible refine Below.alloc ?_ ?_ _) | (with_reducible refine Below.setCell ?_ ?_ _) | (with_reducible exact Nat.le_refl _) | omega | (simp only [World.size_alloc, World.size_setCell, World.size_drew, Wov_size, World.heap_drewN]; omega))))).mono ?_; rintro e w' ⟨rfl, q2, rfl⟩
    go_wp2
    go_returns
    exact gives_end rfl (by (repeat' (first | (with_reducible assumption) | (with_reducible exact Below.refl _ _) | (with_reducible refine below_wov ?_ ?_ _) | (with_reducible refine below_drewN ?_ _) | (with_reducible refine Below.drew ?_) | (with_reducible refine Below.alloc ?_ ?_ _) | (with_reducible refine Below.setCell ?_ ?_ _) | (with_reducible exact Nat.le_refl _) | omega | (simp only [World.size_alloc, World.size_setCell, World.size_drew, Wov_size, World.heap_drewN]; omega))))
set_option maxRecDepth 10000 in
set_option maxHeartbeats 2000000 in
theorem told8_no (n : Int) (p : Option Addr) (N c : Nat) : Pure Tryz.prog 27 #[.agg #[.int .i64 n, .slice p N c], .bool false] (zoneR (fun _ => 0) 6) := by
  intro w
  unfold zoneR zoneV
  go_enter Tryz.func27, Tryz.ntmps27
  go_wp2
  go_returns
  exact gives_end rfl (by (repeat' (first | (with_reducible assumption) | (with_reducible exact Below.refl _ _) | (with_reducible refine below_wov ?_ ?_ _) | (with_reducible refine below_drewN ?_ _) | (with_reducible refine Below.drew ?_) | (with_reducible refine Below.alloc ?_ ?_ _) | (with_reducible refine Below.setCell ?_ ?_ _) | (with_reducible exact Nat.le_refl _) | omega | (simp only [World.size_alloc, World.size_setCell, World.size_drew, Wov_size, World.heap_drewN]; omega))))
theorem ptr30_8 {P : Program} {c : Code} {Q : Exit → Act → World → Prop} {D : List Deferred} {W : World} {t0 t1 t2 t3 t4 t5 t6 t7 t9 t10 t11 t12 t13 t14 t15 t16 t17 t18 t19 t20 t21 t22 t23 t24 t25 t26 t27 t28 t29 : Value} {E : Nat} (h : ∀ A, A = E → Code.wp P c Q { tmps := #[t0, t1, t2, t3, t4, t5, t6, t7, .pointer (some ⟨A, 0, none⟩), t9, t10, t11, t12, t13, t14, t15, t16, t17, t18, t19, t20, t21, t22, t23, t24, t25, t26, t27, t28, t29], defers := D } W) : Code.wp P c Q { tmps := #[t0, t1, t2, t3, t4, t5, t6, t7, .pointer (some ⟨E, 0, none⟩), t9, t10, t11, t12, t13, t14, t15, t16, t17, t18, t19, t20, t21, t22, t23, t24, t25, t26, t27, t28, t29], defers := D } W := h E rfl
/-- The zone of what has been closed. -/
def zoneM (r : MR) : (Nat → Int) × Int := if r.e = 0 then toldZ r.f else (fun _ => 0, 6)
theorem told8_any (r : MR) (hr : (∃ g, r = ⟨3, 9, g, 0⟩) ∨ r = errM 6) (hf : Fits r.N r.f) (p : Option Addr) (c : Nat) (w : World) (hS : SlP w p r.N r.f) : Calls Tryz.prog 27 #[.agg #[.int .i64 r.n, .slice p r.N c], .bool (decide (r.e = 0))] w (Gives w (zoneR (zoneM r).1 (zoneM r).2)) := by
  rcases hr with ⟨g, rfl⟩ | rfl
  · exact told8_yes p c g w hS hf
  · exact told8_no 0 p 0 c w

end Go.Proofs.YtpaomeilfmeheaaGreat
