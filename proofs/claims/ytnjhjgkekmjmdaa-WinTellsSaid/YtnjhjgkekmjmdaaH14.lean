/- The document's zones: contracts of Full, Short, told, Made, Make. No condition. -/
import Derived.Test.YtnjhjgkekmjmdaaH6
import Derived.Test.YtnjhjgkekmjmdaaMF
namespace Go.Proofs.Ytnjhjgkekmjmdaa
set_option linter.unusedSimpArgs false
set_option linter.unusedVariables false
open Go Go.RowKit Go.Shelf
attribute [local go_sem] Nat.add_assoc Nat.add_lt_add_iff_left lit_lt_add

set_option maxRecDepth 10000 in
set_option maxHeartbeats 2000000 in
theorem full8_any (z : Nat → Int) (w : World) : Calls Try.prog 140 #[zoneV z] w (rowPost w 3 9 (zF z)) := by
  obtain ⟨f, hf⟩ : ∃ f, f = zF z := ⟨_, rfl⟩
  have e0 : f 0 = 1 := by rw [hf]; rfl
  have e1 : f 1 = z 1 := by rw [hf]; rfl
  have e2 : f 2 = z 3 := by rw [hf]; rfl
  have e3 : f 3 = z 0 := by rw [hf]; rfl
  have e4 : f 4 = 1 := by rw [hf]; rfl
  have e5 : f 5 = z 5 := by rw [hf]; rfl
  have e6 : f 6 = z 2 := by rw [hf]; rfl
  have e7 : f 7 = z 4 := by rw [hf]; rfl
  have e8 : f 8 = 1 := by rw [hf]; rfl
  have HE : Hid (f 0 = 1 ∧ f 1 = z 1 ∧ f 2 = z 3 ∧ f 3 = z 0 ∧ f 4 = 1 ∧ f 5 = z 5 ∧ f 6 = z 2 ∧ f 7 = z 4 ∧ f 8 = 1) := ⟨e0, e1, e2, e3, e4, e5, e6, e7, e8⟩
  rw [← hf]
  clear hf e0 e1 e2 e3 e4 e5 e6 e7 e8
  unfold zoneV
  go_enter Try.func140, Try.ntmps140
  go_wp2
  go_returns
  refine ⟨w.heap.size + 2, 9, rfl, by omega, by simp [World.setCell], ?_, Wov_of_below (by (repeat' (first | (with_reducible assumption) | (with_reducible exact Below.refl _ _) | (with_reducible refine below_wov ?_ ?_ _) | (with_reducible refine below_drewN ?_ _) | (with_reducible refine Below.drew ?_) | (with_reducible refine Below.alloc ?_ ?_ _) | (with_reducible refine Below.setCell ?_ ?_ _) | (with_reducible exact Nat.le_refl _) | omega | (simp only [World.size_alloc, World.size_setCell, World.size_drew, Wov_size, World.heap_drewN]; omega))))⟩
  obtain ⟨e0, e1, e2, e3, e4, e5, e6, e7, e8⟩ := HE.out
  intro x hx
  rcases nine hx with rfl | rfl | rfl | rfl | rfl | rfl | rfl | rfl | rfl
  · rw [e0]; constructor <;> simp [go_sem]
  · rw [e1]; constructor <;> simp [go_sem]
  · rw [e2]; constructor <;> simp [go_sem]
  · rw [e3]; constructor <;> simp [go_sem]
  · rw [e4]; constructor <;> simp [go_sem]
  · rw [e5]; constructor <;> simp [go_sem]
  · rw [e6]; constructor <;> simp [go_sem]
  · rw [e7]; constructor <;> simp [go_sem]
  · rw [e8]; constructor <;> simp [go_sem]

set_option maxRecDepth 10000 in
set_option maxHeartbeats 2000000 in
theorem short8_any (p : Option Addr) (c : Nat) (f : Nat → Int) (w : World) (hS : SlP w p 9 f) : Calls Try.prog 90 #[.agg #[.int .i64 3, .slice p 9 c]] w (Gives w (zoneV (shortZ f))) := by
  obtain ⟨B1, o1, rfl, hB1, hc1⟩ := hS.pos (by omega)
  have k1 := hc1 1 (by omega)
  have k2 := hc1 2 (by omega)
  have k3 := hc1 3 (by omega)
  have k5 := hc1 5 (by omega)
  have k6 := hc1 6 (by omega)
  have k7 := hc1 7 (by omega)
  show Calls _ _ _ _ (Gives w (.agg #[.int .i64 (f 3), .int .i64 (f 1), .int .i64 (f 6), .int .i64 (f 2), .int .i64 (f 7), .int .i64 (f 5)]))
  clear hS hc1
  go_enter Try.func90, Try.ntmps90
  go_wp2
  refine wp_world (fun W => Below w.heap.size w W ∧ w.heap.size + 1 < W.heap.size ∧ HoldsA W (w.heap.size + 1) 6 (fun _ => 0)) ⟨by (repeat' (first | (with_reducible assumption) | (with_reducible exact Below.refl _ _) | (with_reducible refine below_wov ?_ ?_ _) | (with_reducible refine below_drewN ?_ _) | (with_reducible refine Below.drew ?_) | (with_reducible refine Below.alloc ?_ ?_ _) | (with_reducible refine Below.setCell ?_ ?_ _) | (with_reducible exact Nat.le_refl _) | omega | (simp only [World.size_alloc, World.size_setCell, World.size_drew, Wov_size, World.heap_drewN]; omega))), by simp, (HoldsA.zone (W := World.alloc w (.cells #[.int .i64 3, .slice (some ⟨B1, o1, none⟩) 9 c] 67)) (t := 26) (by simp))⟩ ?_
  rintro W ⟨hb, hz, hr⟩
  have hsz := hb.size
  replace k1 := (hb.cell (p := ⟨B1, o1 + 1, none⟩) hB1).trans k1
  replace k2 := (hb.cell (p := ⟨B1, o1 + 2, none⟩) hB1).trans k2
  replace k3 := (hb.cell (p := ⟨B1, o1 + 3, none⟩) hB1).trans k3
  replace k5 := (hb.cell (p := ⟨B1, o1 + 5, none⟩) hB1).trans k5
  replace k6 := (hb.cell (p := ⟨B1, o1 + 6, none⟩) hB1).trans k6
  replace k7 := (hb.cell (p := ⟨B1, o1 + 7, none⟩) hB1).trans k7
  have r0 := (hr.holds 0 (by omega)).1
  have rz0 := (hr.holds 0 (by omega)).2
  have r1 := (hr.holds 1 (by omega)).1
  have rz1 := (hr.holds 1 (by omega)).2
  have r2 := (hr.holds 2 (by omega)).1
  have rz2 := (hr.holds 2 (by omega)).2
  have r3 := (hr.holds 3 (by omega)).1
  have rz3 := (hr.holds 3 (by omega)).2
  have r4 := (hr.holds 4 (by omega)).1
  have rz4 := (hr.holds 4 (by omega)).2
  have r5 := (hr.holds 5 (by omega)).1
  have rz5 := (hr.holds 5 (by omega)).2
  have rl := hr.lt
  have hB2 : B1 < W.heap.size := by omega
  have n1 : ¬ B1 = w.heap.size + 1 := by omega
  have n2 : ¬ w.heap.size + 1 = B1 := by omega
  clear hr
  go_region
  go_wp2
  refine bodyPost_ret (by simp [results, Try.results90, go_sem, r0, r1, r2, r3, r4, r5]; try rfl) rfl ?_
  exact gives_end rfl (by (repeat' (first | (with_reducible assumption) | (with_reducible exact Below.refl _ _) | (with_reducible refine below_wov ?_ ?_ _) | (with_reducible refine below_drewN ?_ _) | (with_reducible refine Below.drew ?_) | (with_reducible refine Below.alloc ?_ ?_ _) | (with_reducible refine Below.setCell ?_ ?_ _) | (with_reducible exact Nat.le_refl _) | omega | (simp only [World.size_alloc, World.size_setCell, World.size_drew, Wov_size, World.heap_drewN]; omega))))

set_option maxRecDepth 10000 in
set_option maxHeartbeats 2000000 in
theorem told8_yes (p : Option Addr) (c : Nat) (g : Nat → Int) (w : World) (hS : SlP w p 9 g) (hF : Fits 9 g) : Calls Try.prog 139 #[.agg #[.int .i64 3, .slice p 9 c], .bool true] w (Gives w (zoneR (toldZ g).1 (toldZ g).2)) := by
  have MY : Hid (∀ w', Below w.heap.size w w' → Calls Try.prog 89 #[.agg #[.int .i64 3, .slice p 9 c]] w' (Gives w' (.bool (okD 3 9 g)))) := fun w' hb => refMay_any 3 p 9 c g w' (by decide) (hS.below hb) hF (by omega)
  have SH : Hid (∀ w', Below w.heap.size w w' → Calls Try.prog 90 #[.agg #[.int .i64 3, .slice p 9 c]] w' (Gives w' (zoneV (shortZ g)))) := fun w' hb => short8_any p c g w' (hS.below hb)
  unfold toldZ
  obtain ⟨k, hk⟩ : ∃ k, k = okD 3 9 g := ⟨_, rfl⟩
  rw [← hk] at MY ⊢
  unfold zoneV at SH
  unfold zoneR zoneV
  obtain ⟨s, hs⟩ : ∃ s, s = shortZ g := ⟨_, rfl⟩
  rw [← hs] at SH ⊢
  clear hk hs hS hF
  cases k
  · simp only [Bool.false_eq_true, if_false]
    go_enter Try.func139, Try.ntmps139
    go_wp2_with (fail)
    refine (MY.out _ (by (repeat' (first | (with_reducible assumption) | (with_reducible exact Below.refl _ _) | (with_reducible refine below_wov ?_ ?_ _) | (with_reducible refine below_drewN ?_ _) | (with_reducible refine Below.drew ?_) | (with_reducible refine Below.alloc ?_ ?_ _) | (with_reducible refine Below.setCell ?_ ?_ _) | (with_reducible exact Nat.le_refl _) | omega | (simp only [World.size_alloc, World.size_setCell, World.size_drew, Wov_size, World.heap_drewN]; omega))))).mono ?_; rintro e w' ⟨rfl, q1, rfl⟩
    go_wp2
    go_returns
    exact gives_end rfl (by (repeat' (first | (with_reducible assumption) | (with_reducible exact Below.refl _ _) | (with_reducible refine below_wov ?_ ?_ _) | (with_reducible refine below_drewN ?_ _) | (with_reducible refine Below.drew ?_) | (with_reducible refine Below.alloc ?_ ?_ _) | (with_reducible refine Below.setCell ?_ ?_ _) | (with_reducible exact Nat.le_refl _) | omega | (simp only [World.size_alloc, World.size_setCell, World.size_drew, Wov_size, World.heap_drewN]; omega))))
  · simp only [if_true]
    go_enter Try.func139, Try.ntmps139
    go_wp2_with (fail)
    refine (MY.out _ (by (repeat' (first | (with_reducible assumption) | (with_reducible exact Below.refl _ _) | (with_reducible refine below_wov ?_ ?_ _) | (with_reducible refine below_drewN ?_ _) | (with_reducible refine Below.drew ?_) | (with_reducible refine Below.alloc ?_ ?_ _) | (with_reducible refine Below.setCell ?_ ?_ _) | (with_reducible exact Nat.le_refl _) | omega | (simp only [World.size_alloc, World.size_setCell, World.size_drew, Wov_size, World.heap_drewN]; omega))))).mono ?_; rintro e w' ⟨rfl, q1, rfl⟩
    go_wp2_with (fail)
    refine (SH.out _ (by (repeat' (first | (with_reducible assumption) | (with_reducible exact Below.refl _ _) | (with_reducible refine below_wov ?_ ?_ _) | (with_reducible refine below_drewN ?_ _) | (with_reducible refine Below.drew ?_) | (with_reducible refine Below.alloc ?_ ?_ _) | (with_reducible refine Below.setCell ?_ ?_ _) | (with_reducible exact Nat.le_refl _) | omega | (simp only [World.size_alloc, World.size_setCell, World.size_drew, Wov_size, World.heap_drewN]; omega))))).mono ?_; rintro e w' ⟨rfl, q2, rfl⟩
    go_wp2
    go_returns
    exact gives_end rfl (by (repeat' (first | (with_reducible assumption) | (with_reducible exact Below.refl _ _) | (with_reducible refine below_wov ?_ ?_ _) | (with_reducible refine below_drewN ?_ _) | (with_reducible refine Below.drew ?_) | (with_reducible refine Below.alloc ?_ ?_ _) | (with_reducible refine Below.setCell ?_ ?_ _) | (with_reducible exact Nat.le_refl _) | omega | (simp only [World.size_alloc, World.size_setCell, World.size_drew, Wov_size, World.heap_drewN]; omega))))
set_option maxRecDepth 10000 in
set_option maxHeartbeats 2000000 in
theorem told8_no (n : Int) (p : Option Addr) (N c : Nat) : Pure Try.prog 139 #[.agg #[.int .i64 n, .slice p N c], .bool false] (zoneR (fun _ => 0) 6) := by
  intro w
  unfold zoneR zoneV
  go_enter Try.func139, Try.ntmps139
  go_wp2
  go_returns
  exact gives_end rfl (by (repeat' (first | (with_reducible assumption) | (with_reducible exact Below.refl _ _) | (with_reducible refine below_wov ?_ ?_ _) | (with_reducible refine below_drewN ?_ _) | (with_reducible refine Below.drew ?_) | (with_reducible refine Below.alloc ?_ ?_ _) | (with_reducible refine Below.setCell ?_ ?_ _) | (with_reducible exact Nat.le_refl _) | omega | (simp only [World.size_alloc, World.size_setCell, World.size_drew, Wov_size, World.heap_drewN]; omega))))
theorem ptr30_8 {P : Program} {c : Code} {Q : Exit → Act → World → Prop} {D : List Deferred} {W : World} {t0 t1 t2 t3 t4 t5 t6 t7 t9 t10 t11 t12 t13 t14 t15 t16 t17 t18 t19 t20 t21 t22 t23 t24 t25 t26 t27 t28 t29 : Value} {E : Nat} (h : ∀ A, A = E → Code.wp P c Q { tmps := #[t0, t1, t2, t3, t4, t5, t6, t7, .pointer (some ⟨A, 0, none⟩), t9, t10, t11, t12, t13, t14, t15, t16, t17, t18, t19, t20, t21, t22, t23, t24, t25, t26, t27, t28, t29], defers := D } W) : Code.wp P c Q { tmps := #[t0, t1, t2, t3, t4, t5, t6, t7, .pointer (some ⟨E, 0, none⟩), t9, t10, t11, t12, t13, t14, t15, t16, t17, t18, t19, t20, t21, t22, t23, t24, t25, t26, t27, t28, t29], defers := D } W := h E rfl
/-- The zone of what has been closed. -/
def zoneM (r : MR) : (Nat → Int) × Int := if r.e = 0 then toldZ r.f else (fun _ => 0, 6)
theorem told8_any (r : MR) (hr : (∃ g, r = ⟨3, 9, g, 0⟩) ∨ r = errM 6) (hf : Fits r.N r.f) (p : Option Addr) (c : Nat) (w : World) (hS : SlP w p r.N r.f) : Calls Try.prog 139 #[.agg #[.int .i64 r.n, .slice p r.N c], .bool (decide (r.e = 0))] w (Gives w (zoneR (zoneM r).1 (zoneM r).2)) := by
  rcases hr with ⟨g, rfl⟩ | rfl
  · exact told8_yes p c g w hS hf
  · exact told8_no 0 p 0 c w

set_option maxRecDepth 10000 in
set_option maxHeartbeats 4000000 in
theorem made8_any (t u d : Sp) (ht : t.ok = true) (hu : u.ok = true) (hd : d.ok = true) (w : World) : Calls Try.prog 81 #[.agg #[.int .i64 t.lo, .bool t.ls, .int .i64 t.hi, .bool t.hs, .bool t.op], .agg #[.int .i64 u.lo, .bool u.ls, .int .i64 u.hi, .bool u.hs, .bool u.op], .agg #[.int .i64 d.lo, .bool d.ls, .int .i64 d.hi, .bool d.hs, .bool d.op]] w (Gives w (zoneR (zoneM (closeM 3 9 (zF (zS t u d)))).1 (zoneM (closeM 3 9 (zF (zS t u d)))).2)) := by
  have ok := zS_ok ht hu hd
  obtain ⟨b1t, b2t, b3t, b4t, b5t⟩ := spanB_bd ht
  have ABt : Hid (Pure Try.prog 137 #[.agg #[.int .i64 t.lo, .bool t.ls, .int .i64 t.hi, .bool t.hs, .bool t.op]] (.int .i64 t.abo)) := refAbove_any t.lo t.ls t.hi t.hs t.op (fun h => ⟨by have := b5t h; omega, b3t⟩)
  have BEt : Hid (Pure Try.prog 138 #[.agg #[.int .i64 t.lo, .bool t.ls, .int .i64 t.hi, .bool t.hs, .bool t.op]] (.int .i64 t.bel)) := refBelow_any t.lo t.ls t.hi t.hs t.op b1t b2t
  clear b1t b2t b3t b4t b5t
  obtain ⟨b1u, b2u, b3u, b4u, b5u⟩ := spanB_bd hu
  have ABu : Hid (Pure Try.prog 137 #[.agg #[.int .i64 u.lo, .bool u.ls, .int .i64 u.hi, .bool u.hs, .bool u.op]] (.int .i64 u.abo)) := refAbove_any u.lo u.ls u.hi u.hs u.op (fun h => ⟨by have := b5u h; omega, b3u⟩)
  have BEu : Hid (Pure Try.prog 138 #[.agg #[.int .i64 u.lo, .bool u.ls, .int .i64 u.hi, .bool u.hs, .bool u.op]] (.int .i64 u.bel)) := refBelow_any u.lo u.ls u.hi u.hs u.op b1u b2u
  clear b1u b2u b3u b4u b5u
  obtain ⟨b1d, b2d, b3d, b4d, b5d⟩ := spanB_bd hd
  have ABd : Hid (Pure Try.prog 137 #[.agg #[.int .i64 d.lo, .bool d.ls, .int .i64 d.hi, .bool d.hs, .bool d.op]] (.int .i64 d.abo)) := refAbove_any d.lo d.ls d.hi d.hs d.op (fun h => ⟨by have := b5d h; omega, b3d⟩)
  have BEd : Hid (Pure Try.prog 138 #[.agg #[.int .i64 d.lo, .bool d.ls, .int .i64 d.hi, .bool d.hs, .bool d.op]] (.int .i64 d.bel)) := refBelow_any d.lo d.ls d.hi d.hs d.op b1d b2d
  clear b1d b2d b3d b4d b5d
  have FU : Hid (∀ w, Calls Try.prog 140 #[.agg #[.int .i64 t.abo, .int .i64 t.bel, .int .i64 u.abo, .int .i64 u.bel, .int .i64 d.abo, .int .i64 d.bel]] w (rowPost w 3 9 (zF (zS t u d)))) := fun w => full8_any (zS t u d) w
  obtain ⟨r, hr⟩ : ∃ r, r = closeM 3 9 (zF (zS t u d)) := ⟨_, rfl⟩
  have CL : Hid (∀ w p c, SlP w p 9 (zF (zS t u d)) → Calls Try.prog 87 #[.agg #[.int .i64 3, .slice p 9 c]] w (matB w r.n r.N r.f (decide (r.e = 0)))) := fun w p c h => by
    rw [hr]; exact refClosed_any 3 p c _ w ok h
  have h2 : (∃ g, r = ⟨3, 9, g, 0⟩) ∨ r = errM 6 := by
    rcases closeM_cases ok with ⟨c, hc, _⟩ | ⟨hc, _⟩
    · exact .inl ⟨c, hr.trans hc⟩
    · exact .inr (hr.trans hc)
  have TO := Lib.hid (told8_any r h2 (by rw [hr]; exact (closeM_ok 3 9 (zF (zS t u d))).f))
  rw [← hr]
  obtain ⟨f, hf⟩ : ∃ f, f = zF (zS t u d) := ⟨_, rfl⟩
  rw [← hf] at FU CL
  obtain ⟨z, hz⟩ : ∃ z, z = zoneM r := ⟨_, rfl⟩
  rw [← hz] at TO ⊢
  obtain ⟨⟨n, N, g, e0⟩, hm⟩ : ∃ m, m = r := ⟨_, rfl⟩
  rw [← hm] at TO CL
  obtain ⟨k, hk⟩ : ∃ k, k = decide (e0 = 0) := ⟨_, rfl⟩
  simp only at TO CL
  rw [← hk] at TO CL
  unfold rowPost at FU
  unfold zoneR zoneV at TO ⊢
  clear hr hf hz hm hk h2 ok ht hu hd
  go_enter Try.func81, Try.ntmps81
  go_wp2_with (fail)
  refine wp_world (fun W => Below w.heap.size w W ∧ BoxS W w.heap.size t.lo t.ls t.hi t.hs t.op ∧ BoxS W (w.heap.size + 1) u.lo u.ls u.hi u.hs u.op ∧ BoxS W (w.heap.size + 2) d.lo d.ls d.hi d.hs d.op ∧ HoldsA W (w.heap.size + 3) 6 (fun _ => 0)) ⟨by (repeat' (first | (with_reducible assumption) | (with_reducible exact Below.refl _ _) | (with_reducible refine below_wov ?_ ?_ _) | (with_reducible refine below_drewN ?_ _) | (with_reducible refine Below.drew ?_) | (with_reducible refine Below.alloc ?_ ?_ _) | (with_reducible refine Below.setCell ?_ ?_ _) | (with_reducible exact Nat.le_refl _) | omega | (simp only [World.size_alloc, World.size_setCell, World.size_drew, Wov_size, World.heap_drewN]; omega))), (BoxS.new (W := w) (t := 23) (by simp)).below (by (repeat' (first | (with_reducible assumption) | (with_reducible exact Below.refl _ _) | (with_reducible refine below_wov ?_ ?_ _) | (with_reducible refine below_drewN ?_ _) | (with_reducible refine Below.drew ?_) | (with_reducible refine Below.alloc ?_ ?_ _) | (with_reducible refine Below.setCell ?_ ?_ _) | (with_reducible exact Nat.le_refl _) | omega | (simp only [World.size_alloc, World.size_setCell, World.size_drew, Wov_size, World.heap_drewN]; omega)))), (BoxS.new (W := (World.alloc w (.cells #[.int .i64 t.lo, .bool t.ls, .int .i64 t.hi, .bool t.hs, .bool t.op] 23))) (t := 23) (by simp)).below (by (repeat' (first | (with_reducible assumption) | (with_reducible exact Below.refl _ _) | (with_reducible refine below_wov ?_ ?_ _) | (with_reducible refine below_drewN ?_ _) | (with_reducible refine Below.drew ?_) | (with_reducible refine Below.alloc ?_ ?_ _) | (with_reducible refine Below.setCell ?_ ?_ _) | (with_reducible exact Nat.le_refl _) | omega | (simp only [World.size_alloc, World.size_setCell, World.size_drew, Wov_size, World.heap_drewN]; omega)))), (BoxS.new (W := (World.alloc (World.alloc w (.cells #[.int .i64 t.lo, .bool t.ls, .int .i64 t.hi, .bool t.hs, .bool t.op] 23)) (.cells #[.int .i64 u.lo, .bool u.ls, .int .i64 u.hi, .bool u.hs, .bool u.op] 23))) (t := 23) (by simp)).below (by (repeat' (first | (with_reducible assumption) | (with_reducible exact Below.refl _ _) | (with_reducible refine below_wov ?_ ?_ _) | (with_reducible refine below_drewN ?_ _) | (with_reducible refine Below.drew ?_) | (with_reducible refine Below.alloc ?_ ?_ _) | (with_reducible refine Below.setCell ?_ ?_ _) | (with_reducible exact Nat.le_refl _) | omega | (simp only [World.size_alloc, World.size_setCell, World.size_drew, Wov_size, World.heap_drewN]; omega)))), (HoldsA.zone (W := (World.alloc (World.alloc (World.alloc w (.cells #[.int .i64 t.lo, .bool t.ls, .int .i64 t.hi, .bool t.hs, .bool t.op] 23)) (.cells #[.int .i64 u.lo, .bool u.ls, .int .i64 u.hi, .bool u.hs, .bool u.op] 23)) (.cells #[.int .i64 d.lo, .bool d.ls, .int .i64 d.hi, .bool d.hs, .bool d.op] 23))) (t := 26) (by simp))⟩ ?_
  rintro W1 ⟨hb1, m1_0, m1_1, m1_2, m1_3⟩
  have hs1 := hb1.size
  have f1_0_lt := m1_0.lt
  have f1_0_c0 := m1_0.c0
  have f1_0_c1 := m1_0.c1
  have f1_0_c2 := m1_0.c2
  have f1_0_c3 := m1_0.c3
  have f1_0_c4 := m1_0.c4
  have f1_1_lt := m1_1.lt
  have f1_1_c0 := m1_1.c0
  have f1_1_c1 := m1_1.c1
  have f1_1_c2 := m1_1.c2
  have f1_1_c3 := m1_1.c3
  have f1_1_c4 := m1_1.c4
  have f1_2_lt := m1_2.lt
  have f1_2_c0 := m1_2.c0
  have f1_2_c1 := m1_2.c1
  have f1_2_c2 := m1_2.c2
  have f1_2_c3 := m1_2.c3
  have f1_2_c4 := m1_2.c4
  have HX := Lib.hid m1_3
  clear m1_3
  go_region_held3 (fun w' => w'.cell? ⟨w.heap.size, 0, none⟩ = some (.int .i64 t.lo) ∧ w'.cell? ⟨w.heap.size, 1, none⟩ = some (.bool t.ls) ∧ w'.cell? ⟨w.heap.size, 2, none⟩ = some (.int .i64 t.hi) ∧ w'.cell? ⟨w.heap.size, 3, none⟩ = some (.bool t.hs) ∧ w'.cell? ⟨w.heap.size, 4, none⟩ = some (.bool t.op) ∧ w'.cell? ⟨w.heap.size + 1, 0, none⟩ = some (.int .i64 u.lo) ∧ w'.cell? ⟨w.heap.size + 1, 1, none⟩ = some (.bool u.ls) ∧ w'.cell? ⟨w.heap.size + 1, 2, none⟩ = some (.int .i64 u.hi) ∧ w'.cell? ⟨w.heap.size + 1, 3, none⟩ = some (.bool u.hs) ∧ w'.cell? ⟨w.heap.size + 1, 4, none⟩ = some (.bool u.op) ∧ w'.cell? ⟨w.heap.size + 2, 0, none⟩ = some (.int .i64 d.lo) ∧ w'.cell? ⟨w.heap.size + 2, 1, none⟩ = some (.bool d.ls) ∧ w'.cell? ⟨w.heap.size + 2, 2, none⟩ = some (.int .i64 d.hi) ∧ w'.cell? ⟨w.heap.size + 2, 3, none⟩ = some (.bool d.hs) ∧ w'.cell? ⟨w.heap.size + 2, 4, none⟩ = some (.bool d.op))
    ((simp [go_sem, *]))
    (first
    | (go_at_call_of 137 (Value.int IntKind.i64 t.lo); (refine (ABt.out _).mono ?_; rintro e w' ⟨rfl, qABt, rfl⟩))
    | (go_at_call_of 138 (Value.int IntKind.i64 t.lo); (refine (BEt.out _).mono ?_; rintro e w' ⟨rfl, qBEt, rfl⟩))
    | (go_at_call_of 137 (Value.int IntKind.i64 u.lo); (refine (ABu.out _).mono ?_; rintro e w' ⟨rfl, qABu, rfl⟩))
    | (go_at_call_of 138 (Value.int IntKind.i64 u.lo); (refine (BEu.out _).mono ?_; rintro e w' ⟨rfl, qBEu, rfl⟩))
    | (go_at_call_of 137 (Value.int IntKind.i64 d.lo); (refine (ABd.out _).mono ?_; rintro e w' ⟨rfl, qABd, rfl⟩))
    | (go_at_call_of 138 (Value.int IntKind.i64 d.lo); (refine (BEd.out _).mono ?_; rintro e w' ⟨rfl, qBEd, rfl⟩)))
  all_goals
    simp only [Exit.then]
    refine ‹∀ (a : Act) (w_1 : World), Code.wp Try.prog _ (bodyPost Try.prog _ _) a w_1 → _› _ _ ?_
    refine ptr30_8 ?_
    intro A hA
    clear ABt BEt ABu BEu ABd BEd
    refine wp_world (fun W => Below W1.heap.size W1 W ∧ BoxZ W A (zS t u d)) ⟨by (repeat' (first | (with_reducible assumption) | (with_reducible exact Below.refl _ _) | (with_reducible refine below_wov ?_ ?_ _) | (with_reducible refine below_drewN ?_ _) | (with_reducible refine Below.drew ?_) | (with_reducible refine Below.alloc ?_ ?_ _) | (with_reducible refine Below.setCell ?_ ?_ _) | (with_reducible exact Nat.le_refl _) | omega | (simp only [World.size_alloc, World.size_setCell, World.size_drew, Wov_size, World.heap_drewN]; omega))), ?_⟩ ?_
    · subst hA
      exact ⟨by simp only [World.size_alloc, World.size_drew, World.size_setCell, Wov_size, Array.size_append]; omega, by simp [go_sem, zS], by simp [go_sem, zS], by simp [go_sem, zS], by simp [go_sem, zS], by simp [go_sem, zS], by simp [go_sem, zS]⟩
    rintro W ⟨hbW, hbz⟩
    replace HX := Lib.hid (HX.out.below hbW)
    have hb9 := Below.trans hb1 (hbW.mono (by omega))
    have hs9 := hb9.size
    clear hA hbW hb1 f1_0_lt f1_0_c0 f1_0_c1 f1_0_c2 f1_0_c3 f1_0_c4 f1_1_lt f1_1_c0 f1_1_c1 f1_1_c2 f1_1_c3 f1_1_c4 f1_2_lt f1_2_c0 f1_2_c1 f1_2_c2 f1_2_c3 f1_2_c4 m1_0 m1_1 m1_2 hs1
    have c0 := hbz.c0
    have c1 := hbz.c1
    have c2 := hbz.c2
    have c3 := hbz.c3
    have c4 := hbz.c4
    have c5 := hbz.c5
    have cl := hbz.lt
    clear hbz
    go_wp2_with (fail)
    refine (FU.out _).mono ?_; rintro e w' ⟨B1, cp1, rfl, hA1, hB1, hH1, qf, rfl⟩
    have t1 := slp_of hH1 hB1
    clear hA1 hB1 hH1
    go_wp2_with (fail)
    refine (CL.out _ _ _ t1).mono ?_; rintro e w' ⟨⟨pR, cR, rfl, ho⟩, qg, rfl⟩
    have t5 := ho.slp
    clear ho t1
    go_wp2_with (fail)
    (try simp only [drew_Wov, Wov_Wov, Array.append_assoc] at t5)
    refine (TO.out _ _ _ t5).mono ?_; rintro e w' ⟨rfl, qh, rfl⟩
    clear t5
    have r0 := (HX.out.holds 0 (by omega)).1
    have rz0 := (HX.out.holds 0 (by omega)).2
    have r1 := (HX.out.holds 1 (by omega)).1
    have rz1 := (HX.out.holds 1 (by omega)).2
    have r2 := (HX.out.holds 2 (by omega)).1
    have rz2 := (HX.out.holds 2 (by omega)).2
    have r3 := (HX.out.holds 3 (by omega)).1
    have rz3 := (HX.out.holds 3 (by omega)).2
    have r4 := (HX.out.holds 4 (by omega)).1
    have rz4 := (HX.out.holds 4 (by omega)).2
    have r5 := (HX.out.holds 5 (by omega)).1
    have rz5 := (HX.out.holds 5 (by omega)).2
    have rl := HX.out.lt
    clear c0 c1 c2 c3 c4 c5 cl HX FU CL TO
    go_wp2
    refine bodyPost_ret (by simp [results, Try.results81, go_sem, r0, r1, r2, r3, r4, r5, rl]; try rfl) rfl ?_
    exact gives_end rfl (by (repeat' (first | (with_reducible assumption) | (with_reducible exact Below.refl _ _) | (with_reducible refine below_wov ?_ ?_ _) | (with_reducible refine below_drewN ?_ _) | (with_reducible refine Below.drew ?_) | (with_reducible refine Below.alloc ?_ ?_ _) | (with_reducible refine Below.setCell ?_ ?_ _) | (with_reducible exact Nat.le_refl _) | omega | (simp only [World.size_alloc, World.size_setCell, World.size_drew, Wov_size, World.heap_drewN]; omega))))

set_option maxRecDepth 10000 in
set_option maxHeartbeats 4000000 in
theorem make8_any (t u d : Sp) (wt1 : fits64 t.lo) (wt2 : fits64 t.hi) (wu1 : fits64 u.lo) (wu2 : fits64 u.hi) (wd1 : fits64 d.lo) (wd2 : fits64 d.hi) (w : World) : Calls Try.prog 25 #[.agg #[.int .i64 t.lo, .bool t.ls, .int .i64 t.hi, .bool t.hs, .bool t.op], .agg #[.int .i64 u.lo, .bool u.ls, .int .i64 u.hi, .bool u.hs, .bool u.op], .agg #[.int .i64 d.lo, .bool d.ls, .int .i64 d.hi, .bool d.hs, .bool d.op]] w (Gives w (zoneR (madeZ t u d).1 (madeZ t u d).2)) := by
  have M1 : Hid (∀ w, Calls Try.prog 80 #[.agg #[.int .i64 t.lo, .bool t.ls, .int .i64 t.hi, .bool t.hs, .bool t.op]] w (Gives w (.bool t.ok))) := fun w => maySpan_any t.lo t.ls t.hi t.hs t.op w wt1 wt2
  have M2 : Hid (∀ w, Calls Try.prog 80 #[.agg #[.int .i64 u.lo, .bool u.ls, .int .i64 u.hi, .bool u.hs, .bool u.op]] w (Gives w (.bool u.ok))) := fun w => maySpan_any u.lo u.ls u.hi u.hs u.op w wu1 wu2
  have M3 : Hid (∀ w, Calls Try.prog 80 #[.agg #[.int .i64 d.lo, .bool d.ls, .int .i64 d.hi, .bool d.hs, .bool d.op]] w (Gives w (.bool d.ok))) := fun w => maySpan_any d.lo d.ls d.hi d.hs d.op w wd1 wd2
  have MD : Hid (t.ok = true → u.ok = true → d.ok = true → ∀ w, Calls Try.prog 81 #[.agg #[.int .i64 t.lo, .bool t.ls, .int .i64 t.hi, .bool t.hs, .bool t.op], .agg #[.int .i64 u.lo, .bool u.ls, .int .i64 u.hi, .bool u.hs, .bool u.op], .agg #[.int .i64 d.lo, .bool d.ls, .int .i64 d.hi, .bool d.hs, .bool d.op]] w (Gives w (zoneR (madeZ t u d).1 (madeZ t u d).2))) := fun ht hu hd w => by
    have := made8_any t u d ht hu hd w
    unfold madeZ
    rw [ht, hu, hd]
    exact this
  have HZ : Hid ((t.ok && (u.ok && d.ok)) = false → (madeZ t u d).2 = 8 ∧ ∀ i, (madeZ t u d).1 i = 0) := fun h => by
    unfold madeZ
    rw [h]
    exact ⟨rfl, fun _ => rfl⟩
  obtain ⟨k1, hk1⟩ : ∃ k, k = t.ok := ⟨_, rfl⟩
  obtain ⟨k2, hk2⟩ : ∃ k, k = u.ok := ⟨_, rfl⟩
  obtain ⟨k3, hk3⟩ : ∃ k, k = d.ok := ⟨_, rfl⟩
  rw [← hk1] at M1 MD HZ
  rw [← hk2] at M2 MD HZ
  rw [← hk3] at M3 MD HZ
  obtain ⟨⟨z, e0⟩, hz⟩ : ∃ z, z = madeZ t u d := ⟨_, rfl⟩
  rw [← hz] at MD HZ ⊢
  unfold zoneR zoneV at MD ⊢
  simp only at MD HZ ⊢
  clear hk1 hk2 hk3 hz
  cases k1
  · skip
    have HZ0 := Lib.hid (HZ.out (by simp))
    clear HZ MD
    go_enter Try.func25, Try.ntmps25
    go_wp2_with (fail)
    refine calls_world (fun W => Below w.heap.size w W ∧ BoxS W w.heap.size t.lo t.ls t.hi t.hs t.op ∧ BoxS W (w.heap.size + 1) u.lo u.ls u.hi u.hs u.op ∧ BoxS W (w.heap.size + 2) d.lo d.ls d.hi d.hs d.op ∧ HoldsA W (w.heap.size + 3) 6 (fun _ => 0)) ⟨by (repeat' (first | (with_reducible assumption) | (with_reducible exact Below.refl _ _) | (with_reducible refine below_wov ?_ ?_ _) | (with_reducible refine below_drewN ?_ _) | (with_reducible refine Below.drew ?_) | (with_reducible refine Below.alloc ?_ ?_ _) | (with_reducible refine Below.setCell ?_ ?_ _) | (with_reducible exact Nat.le_refl _) | omega | (simp only [World.size_alloc, World.size_setCell, World.size_drew, Wov_size, World.heap_drewN]; omega))), (BoxS.new (W := w) (t := 23) (by simp)).below (by (repeat' (first | (with_reducible assumption) | (with_reducible exact Below.refl _ _) | (with_reducible refine below_wov ?_ ?_ _) | (with_reducible refine below_drewN ?_ _) | (with_reducible refine Below.drew ?_) | (with_reducible refine Below.alloc ?_ ?_ _) | (with_reducible refine Below.setCell ?_ ?_ _) | (with_reducible exact Nat.le_refl _) | omega | (simp only [World.size_alloc, World.size_setCell, World.size_drew, Wov_size, World.heap_drewN]; omega)))), (BoxS.new (W := (World.alloc w (.cells #[.int .i64 t.lo, .bool t.ls, .int .i64 t.hi, .bool t.hs, .bool t.op] 23))) (t := 23) (by simp)).below (by (repeat' (first | (with_reducible assumption) | (with_reducible exact Below.refl _ _) | (with_reducible refine below_wov ?_ ?_ _) | (with_reducible refine below_drewN ?_ _) | (with_reducible refine Below.drew ?_) | (with_reducible refine Below.alloc ?_ ?_ _) | (with_reducible refine Below.setCell ?_ ?_ _) | (with_reducible exact Nat.le_refl _) | omega | (simp only [World.size_alloc, World.size_setCell, World.size_drew, Wov_size, World.heap_drewN]; omega)))), (BoxS.new (W := (World.alloc (World.alloc w (.cells #[.int .i64 t.lo, .bool t.ls, .int .i64 t.hi, .bool t.hs, .bool t.op] 23)) (.cells #[.int .i64 u.lo, .bool u.ls, .int .i64 u.hi, .bool u.hs, .bool u.op] 23))) (t := 23) (by simp)).below (by (repeat' (first | (with_reducible assumption) | (with_reducible exact Below.refl _ _) | (with_reducible refine below_wov ?_ ?_ _) | (with_reducible refine below_drewN ?_ _) | (with_reducible refine Below.drew ?_) | (with_reducible refine Below.alloc ?_ ?_ _) | (with_reducible refine Below.setCell ?_ ?_ _) | (with_reducible exact Nat.le_refl _) | omega | (simp only [World.size_alloc, World.size_setCell, World.size_drew, Wov_size, World.heap_drewN]; omega)))), (HoldsA.zone (W := (World.alloc (World.alloc (World.alloc w (.cells #[.int .i64 t.lo, .bool t.ls, .int .i64 t.hi, .bool t.hs, .bool t.op] 23)) (.cells #[.int .i64 u.lo, .bool u.ls, .int .i64 u.hi, .bool u.hs, .bool u.op] 23)) (.cells #[.int .i64 d.lo, .bool d.ls, .int .i64 d.hi, .bool d.hs, .bool d.op] 23))) (t := 26) (by simp))⟩ ?_
    rintro W1 ⟨hb1, m1_0, m1_1, m1_2, m1_3⟩
    have hs1 := hb1.size
    have f1_0_lt := m1_0.lt
    have f1_0_c0 := m1_0.c0
    have f1_0_c1 := m1_0.c1
    have f1_0_c2 := m1_0.c2
    have f1_0_c3 := m1_0.c3
    have f1_0_c4 := m1_0.c4
    have f1_1_lt := m1_1.lt
    have f1_1_c0 := m1_1.c0
    have f1_1_c1 := m1_1.c1
    have f1_1_c2 := m1_1.c2
    have f1_1_c3 := m1_1.c3
    have f1_1_c4 := m1_1.c4
    have f1_2_lt := m1_2.lt
    have f1_2_c0 := m1_2.c0
    have f1_2_c1 := m1_2.c1
    have f1_2_c2 := m1_2.c2
    have f1_2_c3 := m1_2.c3
    have f1_2_c4 := m1_2.c4
    refine (M1.out _).mono ?_; rintro e w' ⟨rfl, q0, rfl⟩
    clear M1 M2 M3
    have r0 := (m1_3.holds 0 (by omega)).1
    have rz0 := (m1_3.holds 0 (by omega)).2
    have r1 := (m1_3.holds 1 (by omega)).1
    have rz1 := (m1_3.holds 1 (by omega)).2
    have r2 := (m1_3.holds 2 (by omega)).1
    have rz2 := (m1_3.holds 2 (by omega)).2
    have r3 := (m1_3.holds 3 (by omega)).1
    have rz3 := (m1_3.holds 3 (by omega)).2
    have r4 := (m1_3.holds 4 (by omega)).1
    have rz4 := (m1_3.holds 4 (by omega)).2
    have r5 := (m1_3.holds 5 (by omega)).1
    have rz5 := (m1_3.holds 5 (by omega)).2
    have rl := m1_3.lt
    go_wp2
    refine bodyPost_ret (by simp [results, Try.results25, go_sem, r0, r1, r2, r3, r4, r5, rl]; try rfl) rfl ?_
    exact gives_end (by rw [HZ0.out.1, HZ0.out.2 0, HZ0.out.2 1, HZ0.out.2 2, HZ0.out.2 3, HZ0.out.2 4, HZ0.out.2 5]) (by (repeat' (first | (with_reducible assumption) | (with_reducible exact Below.refl _ _) | (with_reducible refine below_wov ?_ ?_ _) | (with_reducible refine below_drewN ?_ _) | (with_reducible refine Below.drew ?_) | (with_reducible refine Below.alloc ?_ ?_ _) | (with_reducible refine Below.setCell ?_ ?_ _) | (with_reducible exact Nat.le_refl _) | omega | (simp only [World.size_alloc, World.size_setCell, World.size_drew, Wov_size, World.heap_drewN]; omega))))
  · skip
    cases k2
    · skip
      have HZ0 := Lib.hid (HZ.out (by simp))
      clear HZ MD
      go_enter Try.func25, Try.ntmps25
      go_wp2_with (fail)
      refine calls_world (fun W => Below w.heap.size w W ∧ BoxS W w.heap.size t.lo t.ls t.hi t.hs t.op ∧ BoxS W (w.heap.size + 1) u.lo u.ls u.hi u.hs u.op ∧ BoxS W (w.heap.size + 2) d.lo d.ls d.hi d.hs d.op ∧ HoldsA W (w.heap.size + 3) 6 (fun _ => 0)) ⟨by (repeat' (first | (with_reducible assumption) | (with_reducible exact Below.refl _ _) | (with_reducible refine below_wov ?_ ?_ _) | (with_reducible refine below_drewN ?_ _) | (with_reducible refine Below.drew ?_) | (with_reducible refine Below.alloc ?_ ?_ _) | (with_reducible refine Below.setCell ?_ ?_ _) | (with_reducible exact Nat.le_refl _) | omega | (simp only [World.size_alloc, World.size_setCell, World.size_drew, Wov_size, World.heap_drewN]; omega))), (BoxS.new (W := w) (t := 23) (by simp)).below (by (repeat' (first | (with_reducible assumption) | (with_reducible exact Below.refl _ _) | (with_reducible refine below_wov ?_ ?_ _) | (with_reducible refine below_drewN ?_ _) | (with_reducible refine Below.drew ?_) | (with_reducible refine Below.alloc ?_ ?_ _) | (with_reducible refine Below.setCell ?_ ?_ _) | (with_reducible exact Nat.le_refl _) | omega | (simp only [World.size_alloc, World.size_setCell, World.size_drew, Wov_size, World.heap_drewN]; omega)))), (BoxS.new (W := (World.alloc w (.cells #[.int .i64 t.lo, .bool t.ls, .int .i64 t.hi, .bool t.hs, .bool t.op] 23))) (t := 23) (by simp)).below (by (repeat' (first | (with_reducible assumption) | (with_reducible exact Below.refl _ _) | (with_reducible refine below_wov ?_ ?_ _) | (with_reducible refine below_drewN ?_ _) | (with_reducible refine Below.drew ?_) | (with_reducible refine Below.alloc ?_ ?_ _) | (with_reducible refine Below.setCell ?_ ?_ _) | (with_reducible exact Nat.le_refl _) | omega | (simp only [World.size_alloc, World.size_setCell, World.size_drew, Wov_size, World.heap_drewN]; omega)))), (BoxS.new (W := (World.alloc (World.alloc w (.cells #[.int .i64 t.lo, .bool t.ls, .int .i64 t.hi, .bool t.hs, .bool t.op] 23)) (.cells #[.int .i64 u.lo, .bool u.ls, .int .i64 u.hi, .bool u.hs, .bool u.op] 23))) (t := 23) (by simp)).below (by (repeat' (first | (with_reducible assumption) | (with_reducible exact Below.refl _ _) | (with_reducible refine below_wov ?_ ?_ _) | (with_reducible refine below_drewN ?_ _) | (with_reducible refine Below.drew ?_) | (with_reducible refine Below.alloc ?_ ?_ _) | (with_reducible refine Below.setCell ?_ ?_ _) | (with_reducible exact Nat.le_refl _) | omega | (simp only [World.size_alloc, World.size_setCell, World.size_drew, Wov_size, World.heap_drewN]; omega)))), (HoldsA.zone (W := (World.alloc (World.alloc (World.alloc w (.cells #[.int .i64 t.lo, .bool t.ls, .int .i64 t.hi, .bool t.hs, .bool t.op] 23)) (.cells #[.int .i64 u.lo, .bool u.ls, .int .i64 u.hi, .bool u.hs, .bool u.op] 23)) (.cells #[.int .i64 d.lo, .bool d.ls, .int .i64 d.hi, .bool d.hs, .bool d.op] 23))) (t := 26) (by simp))⟩ ?_
      rintro W1 ⟨hb1, m1_0, m1_1, m1_2, m1_3⟩
      have hs1 := hb1.size
      have f1_0_lt := m1_0.lt
      have f1_0_c0 := m1_0.c0
      have f1_0_c1 := m1_0.c1
      have f1_0_c2 := m1_0.c2
      have f1_0_c3 := m1_0.c3
      have f1_0_c4 := m1_0.c4
      have f1_1_lt := m1_1.lt
      have f1_1_c0 := m1_1.c0
      have f1_1_c1 := m1_1.c1
      have f1_1_c2 := m1_1.c2
      have f1_1_c3 := m1_1.c3
      have f1_1_c4 := m1_1.c4
      have f1_2_lt := m1_2.lt
      have f1_2_c0 := m1_2.c0
      have f1_2_c1 := m1_2.c1
      have f1_2_c2 := m1_2.c2
      have f1_2_c3 := m1_2.c3
      have f1_2_c4 := m1_2.c4
      refine (M1.out _).mono ?_; rintro e w' ⟨rfl, q0, rfl⟩
      go_wp2_with (fail)
      refine calls_world (fun W => Below w.heap.size w W ∧ BoxS W w.heap.size t.lo t.ls t.hi t.hs t.op ∧ BoxS W (w.heap.size + 1) u.lo u.ls u.hi u.hs u.op ∧ BoxS W (w.heap.size + 2) d.lo d.ls d.hi d.hs d.op ∧ HoldsA W (w.heap.size + 3) 6 (fun _ => 0)) ⟨by (repeat' (first | (with_reducible assumption) | (with_reducible exact Below.refl _ _) | (with_reducible refine below_wov ?_ ?_ _) | (with_reducible refine below_drewN ?_ _) | (with_reducible refine Below.drew ?_) | (with_reducible refine Below.alloc ?_ ?_ _) | (with_reducible refine Below.setCell ?_ ?_ _) | (with_reducible exact Nat.le_refl _) | omega | (simp only [World.size_alloc, World.size_setCell, World.size_drew, Wov_size, World.heap_drewN]; omega))), m1_0.below (by (repeat' (first | (with_reducible assumption) | (with_reducible exact Below.refl _ _) | (with_reducible refine below_wov ?_ ?_ _) | (with_reducible refine below_drewN ?_ _) | (with_reducible refine Below.drew ?_) | (with_reducible refine Below.alloc ?_ ?_ _) | (with_reducible refine Below.setCell ?_ ?_ _) | (with_reducible exact Nat.le_refl _) | omega | (simp only [World.size_alloc, World.size_setCell, World.size_drew, Wov_size, World.heap_drewN]; omega)))), m1_1.below (by (repeat' (first | (with_reducible assumption) | (with_reducible exact Below.refl _ _) | (with_reducible refine below_wov ?_ ?_ _) | (with_reducible refine below_drewN ?_ _) | (with_reducible refine Below.drew ?_) | (with_reducible refine Below.alloc ?_ ?_ _) | (with_reducible refine Below.setCell ?_ ?_ _) | (with_reducible exact Nat.le_refl _) | omega | (simp only [World.size_alloc, World.size_setCell, World.size_drew, Wov_size, World.heap_drewN]; omega)))), m1_2.below (by (repeat' (first | (with_reducible assumption) | (with_reducible exact Below.refl _ _) | (with_reducible refine below_wov ?_ ?_ _) | (with_reducible refine below_drewN ?_ _) | (with_reducible refine Below.drew ?_) | (with_reducible refine Below.alloc ?_ ?_ _) | (with_reducible refine Below.setCell ?_ ?_ _) | (with_reducible exact Nat.le_refl _) | omega | (simp only [World.size_alloc, World.size_setCell, World.size_drew, Wov_size, World.heap_drewN]; omega)))), m1_3.below (by (repeat' (first | (with_reducible assumption) | (with_reducible exact Below.refl _ _) | (with_reducible refine below_wov ?_ ?_ _) | (with_reducible refine below_drewN ?_ _) | (with_reducible refine Below.drew ?_) | (with_reducible refine Below.alloc ?_ ?_ _) | (with_reducible refine Below.setCell ?_ ?_ _) | (with_reducible exact Nat.le_refl _) | omega | (simp only [World.size_alloc, World.size_setCell, World.size_drew, Wov_size, World.heap_drewN]; omega))))⟩ ?_
      rintro W2 ⟨hb2, m2_0, m2_1, m2_2, m2_3⟩
      clear hb1 f1_0_lt f1_0_c0 f1_0_c1 f1_0_c2 f1_0_c3 f1_0_c4 f1_1_lt f1_1_c0 f1_1_c1 f1_1_c2 f1_1_c3 f1_1_c4 f1_2_lt f1_2_c0 f1_2_c1 f1_2_c2 f1_2_c3 f1_2_c4 m1_0 m1_1 m1_2 m1_3 hs1
      have hs2 := hb2.size
      have f2_0_lt := m2_0.lt
      have f2_0_c0 := m2_0.c0
      have f2_0_c1 := m2_0.c1
      have f2_0_c2 := m2_0.c2
      have f2_0_c3 := m2_0.c3
      have f2_0_c4 := m2_0.c4
      have f2_1_lt := m2_1.lt
      have f2_1_c0 := m2_1.c0
      have f2_1_c1 := m2_1.c1
      have f2_1_c2 := m2_1.c2
      have f2_1_c3 := m2_1.c3
      have f2_1_c4 := m2_1.c4
      have f2_2_lt := m2_2.lt
      have f2_2_c0 := m2_2.c0
      have f2_2_c1 := m2_2.c1
      have f2_2_c2 := m2_2.c2
      have f2_2_c3 := m2_2.c3
      have f2_2_c4 := m2_2.c4
      refine (M2.out _).mono ?_; rintro e w' ⟨rfl, q1, rfl⟩
      clear M1 M2 M3
      have r0 := (m2_3.holds 0 (by omega)).1
      have rz0 := (m2_3.holds 0 (by omega)).2
      have r1 := (m2_3.holds 1 (by omega)).1
      have rz1 := (m2_3.holds 1 (by omega)).2
      have r2 := (m2_3.holds 2 (by omega)).1
      have rz2 := (m2_3.holds 2 (by omega)).2
      have r3 := (m2_3.holds 3 (by omega)).1
      have rz3 := (m2_3.holds 3 (by omega)).2
      have r4 := (m2_3.holds 4 (by omega)).1
      have rz4 := (m2_3.holds 4 (by omega)).2
      have r5 := (m2_3.holds 5 (by omega)).1
      have rz5 := (m2_3.holds 5 (by omega)).2
      have rl := m2_3.lt
      go_wp2
      refine bodyPost_ret (by simp [results, Try.results25, go_sem, r0, r1, r2, r3, r4, r5, rl]; try rfl) rfl ?_
      exact gives_end (by rw [HZ0.out.1, HZ0.out.2 0, HZ0.out.2 1, HZ0.out.2 2, HZ0.out.2 3, HZ0.out.2 4, HZ0.out.2 5]) (by (repeat' (first | (with_reducible assumption) | (with_reducible exact Below.refl _ _) | (with_reducible refine below_wov ?_ ?_ _) | (with_reducible refine below_drewN ?_ _) | (with_reducible refine Below.drew ?_) | (with_reducible refine Below.alloc ?_ ?_ _) | (with_reducible refine Below.setCell ?_ ?_ _) | (with_reducible exact Nat.le_refl _) | omega | (simp only [World.size_alloc, World.size_setCell, World.size_drew, Wov_size, World.heap_drewN]; omega))))
    · skip
      cases k3
      · skip
        have HZ0 := Lib.hid (HZ.out (by simp))
        clear HZ MD
        go_enter Try.func25, Try.ntmps25
        go_wp2_with (fail)
        refine calls_world (fun W => Below w.heap.size w W ∧ BoxS W w.heap.size t.lo t.ls t.hi t.hs t.op ∧ BoxS W (w.heap.size + 1) u.lo u.ls u.hi u.hs u.op ∧ BoxS W (w.heap.size + 2) d.lo d.ls d.hi d.hs d.op ∧ HoldsA W (w.heap.size + 3) 6 (fun _ => 0)) ⟨by (repeat' (first | (with_reducible assumption) | (with_reducible exact Below.refl _ _) | (with_reducible refine below_wov ?_ ?_ _) | (with_reducible refine below_drewN ?_ _) | (with_reducible refine Below.drew ?_) | (with_reducible refine Below.alloc ?_ ?_ _) | (with_reducible refine Below.setCell ?_ ?_ _) | (with_reducible exact Nat.le_refl _) | omega | (simp only [World.size_alloc, World.size_setCell, World.size_drew, Wov_size, World.heap_drewN]; omega))), (BoxS.new (W := w) (t := 23) (by simp)).below (by (repeat' (first | (with_reducible assumption) | (with_reducible exact Below.refl _ _) | (with_reducible refine below_wov ?_ ?_ _) | (with_reducible refine below_drewN ?_ _) | (with_reducible refine Below.drew ?_) | (with_reducible refine Below.alloc ?_ ?_ _) | (with_reducible refine Below.setCell ?_ ?_ _) | (with_reducible exact Nat.le_refl _) | omega | (simp only [World.size_alloc, World.size_setCell, World.size_drew, Wov_size, World.heap_drewN]; omega)))), (BoxS.new (W := (World.alloc w (.cells #[.int .i64 t.lo, .bool t.ls, .int .i64 t.hi, .bool t.hs, .bool t.op] 23))) (t := 23) (by simp)).below (by (repeat' (first | (with_reducible assumption) | (with_reducible exact Below.refl _ _) | (with_reducible refine below_wov ?_ ?_ _) | (with_reducible refine below_drewN ?_ _) | (with_reducible refine Below.drew ?_) | (with_reducible refine Below.alloc ?_ ?_ _) | (with_reducible refine Below.setCell ?_ ?_ _) | (with_reducible exact Nat.le_refl _) | omega | (simp only [World.size_alloc, World.size_setCell, World.size_drew, Wov_size, World.heap_drewN]; omega)))), (BoxS.new (W := (World.alloc (World.alloc w (.cells #[.int .i64 t.lo, .bool t.ls, .int .i64 t.hi, .bool t.hs, .bool t.op] 23)) (.cells #[.int .i64 u.lo, .bool u.ls, .int .i64 u.hi, .bool u.hs, .bool u.op] 23))) (t := 23) (by simp)).below (by (repeat' (first | (with_reducible assumption) | (with_reducible exact Below.refl _ _) | (with_reducible refine below_wov ?_ ?_ _) | (with_reducible refine below_drewN ?_ _) | (with_reducible refine Below.drew ?_) | (with_reducible refine Below.alloc ?_ ?_ _) | (with_reducible refine Below.setCell ?_ ?_ _) | (with_reducible exact Nat.le_refl _) | omega | (simp only [World.size_alloc, World.size_setCell, World.size_drew, Wov_size, World.heap_drewN]; omega)))), (HoldsA.zone (W := (World.alloc (World.alloc (World.alloc w (.cells #[.int .i64 t.lo, .bool t.ls, .int .i64 t.hi, .bool t.hs, .bool t.op] 23)) (.cells #[.int .i64 u.lo, .bool u.ls, .int .i64 u.hi, .bool u.hs, .bool u.op] 23)) (.cells #[.int .i64 d.lo, .bool d.ls, .int .i64 d.hi, .bool d.hs, .bool d.op] 23))) (t := 26) (by simp))⟩ ?_
        rintro W1 ⟨hb1, m1_0, m1_1, m1_2, m1_3⟩
        have hs1 := hb1.size
        have f1_0_lt := m1_0.lt
        have f1_0_c0 := m1_0.c0
        have f1_0_c1 := m1_0.c1
        have f1_0_c2 := m1_0.c2
        have f1_0_c3 := m1_0.c3
        have f1_0_c4 := m1_0.c4
        have f1_1_lt := m1_1.lt
        have f1_1_c0 := m1_1.c0
        have f1_1_c1 := m1_1.c1
        have f1_1_c2 := m1_1.c2
        have f1_1_c3 := m1_1.c3
        have f1_1_c4 := m1_1.c4
        have f1_2_lt := m1_2.lt
        have f1_2_c0 := m1_2.c0
        have f1_2_c1 := m1_2.c1
        have f1_2_c2 := m1_2.c2
        have f1_2_c3 := m1_2.c3
        have f1_2_c4 := m1_2.c4
        refine (M1.out _).mono ?_; rintro e w' ⟨rfl, q0, rfl⟩
        go_wp2_with (fail)
        refine calls_world (fun W => Below w.heap.size w W ∧ BoxS W w.heap.size t.lo t.ls t.hi t.hs t.op ∧ BoxS W (w.heap.size + 1) u.lo u.ls u.hi u.hs u.op ∧ BoxS W (w.heap.size + 2) d.lo d.ls d.hi d.hs d.op ∧ HoldsA W (w.heap.size + 3) 6 (fun _ => 0)) ⟨by (repeat' (first | (with_reducible assumption) | (with_reducible exact Below.refl _ _) | (with_reducible refine below_wov ?_ ?_ _) | (with_reducible refine below_drewN ?_ _) | (with_reducible refine Below.drew ?_) | (with_reducible refine Below.alloc ?_ ?_ _) | (with_reducible refine Below.setCell ?_ ?_ _) | (with_reducible exact Nat.le_refl _) | omega | (simp only [World.size_alloc, World.size_setCell, World.size_drew, Wov_size, World.heap_drewN]; omega))), m1_0.below (by (repeat' (first | (with_reducible assumption) | (with_reducible exact Below.refl _ _) | (with_reducible refine below_wov ?_ ?_ _) | (with_reducible refine below_drewN ?_ _) | (with_reducible refine Below.drew ?_) | (with_reducible refine Below.alloc ?_ ?_ _) | (with_reducible refine Below.setCell ?_ ?_ _) | (with_reducible exact Nat.le_refl _) | omega | (simp only [World.size_alloc, World.size_setCell, World.size_drew, Wov_size, World.heap_drewN]; omega)))), m1_1.below (by (repeat' (first | (with_reducible assumption) | (with_reducible exact Below.refl _ _) | (with_reducible refine below_wov ?_ ?_ _) | (with_reducible refine below_drewN ?_ _) | (with_reducible refine Below.drew ?_) | (with_reducible refine Below.alloc ?_ ?_ _) | (with_reducible refine Below.setCell ?_ ?_ _) | (with_reducible exact Nat.le_refl _) | omega | (simp only [World.size_alloc, World.size_setCell, World.size_drew, Wov_size, World.heap_drewN]; omega)))), m1_2.below (by (repeat' (first | (with_reducible assumption) | (with_reducible exact Below.refl _ _) | (with_reducible refine below_wov ?_ ?_ _) | (with_reducible refine below_drewN ?_ _) | (with_reducible refine Below.drew ?_) | (with_reducible refine Below.alloc ?_ ?_ _) | (with_reducible refine Below.setCell ?_ ?_ _) | (with_reducible exact Nat.le_refl _) | omega | (simp only [World.size_alloc, World.size_setCell, World.size_drew, Wov_size, World.heap_drewN]; omega)))), m1_3.below (by (repeat' (first | (with_reducible assumption) | (with_reducible exact Below.refl _ _) | (with_reducible refine below_wov ?_ ?_ _) | (with_reducible refine below_drewN ?_ _) | (with_reducible refine Below.drew ?_) | (with_reducible refine Below.alloc ?_ ?_ _) | (with_reducible refine Below.setCell ?_ ?_ _) | (with_reducible exact Nat.le_refl _) | omega | (simp only [World.size_alloc, World.size_setCell, World.size_drew, Wov_size, World.heap_drewN]; omega))))⟩ ?_
        rintro W2 ⟨hb2, m2_0, m2_1, m2_2, m2_3⟩
        clear hb1 f1_0_lt f1_0_c0 f1_0_c1 f1_0_c2 f1_0_c3 f1_0_c4 f1_1_lt f1_1_c0 f1_1_c1 f1_1_c2 f1_1_c3 f1_1_c4 f1_2_lt f1_2_c0 f1_2_c1 f1_2_c2 f1_2_c3 f1_2_c4 m1_0 m1_1 m1_2 m1_3 hs1
        have hs2 := hb2.size
        have f2_0_lt := m2_0.lt
        have f2_0_c0 := m2_0.c0
        have f2_0_c1 := m2_0.c1
        have f2_0_c2 := m2_0.c2
        have f2_0_c3 := m2_0.c3
        have f2_0_c4 := m2_0.c4
        have f2_1_lt := m2_1.lt
        have f2_1_c0 := m2_1.c0
        have f2_1_c1 := m2_1.c1
        have f2_1_c2 := m2_1.c2
        have f2_1_c3 := m2_1.c3
        have f2_1_c4 := m2_1.c4
        have f2_2_lt := m2_2.lt
        have f2_2_c0 := m2_2.c0
        have f2_2_c1 := m2_2.c1
        have f2_2_c2 := m2_2.c2
        have f2_2_c3 := m2_2.c3
        have f2_2_c4 := m2_2.c4
        refine (M2.out _).mono ?_; rintro e w' ⟨rfl, q1, rfl⟩
        go_wp2_with (fail)
        refine calls_world (fun W => Below w.heap.size w W ∧ BoxS W w.heap.size t.lo t.ls t.hi t.hs t.op ∧ BoxS W (w.heap.size + 1) u.lo u.ls u.hi u.hs u.op ∧ BoxS W (w.heap.size + 2) d.lo d.ls d.hi d.hs d.op ∧ HoldsA W (w.heap.size + 3) 6 (fun _ => 0)) ⟨by (repeat' (first | (with_reducible assumption) | (with_reducible exact Below.refl _ _) | (with_reducible refine below_wov ?_ ?_ _) | (with_reducible refine below_drewN ?_ _) | (with_reducible refine Below.drew ?_) | (with_reducible refine Below.alloc ?_ ?_ _) | (with_reducible refine Below.setCell ?_ ?_ _) | (with_reducible exact Nat.le_refl _) | omega | (simp only [World.size_alloc, World.size_setCell, World.size_drew, Wov_size, World.heap_drewN]; omega))), m2_0.below (by (repeat' (first | (with_reducible assumption) | (with_reducible exact Below.refl _ _) | (with_reducible refine below_wov ?_ ?_ _) | (with_reducible refine below_drewN ?_ _) | (with_reducible refine Below.drew ?_) | (with_reducible refine Below.alloc ?_ ?_ _) | (with_reducible refine Below.setCell ?_ ?_ _) | (with_reducible exact Nat.le_refl _) | omega | (simp only [World.size_alloc, World.size_setCell, World.size_drew, Wov_size, World.heap_drewN]; omega)))), m2_1.below (by (repeat' (first | (with_reducible assumption) | (with_reducible exact Below.refl _ _) | (with_reducible refine below_wov ?_ ?_ _) | (with_reducible refine below_drewN ?_ _) | (with_reducible refine Below.drew ?_) | (with_reducible refine Below.alloc ?_ ?_ _) | (with_reducible refine Below.setCell ?_ ?_ _) | (with_reducible exact Nat.le_refl _) | omega | (simp only [World.size_alloc, World.size_setCell, World.size_drew, Wov_size, World.heap_drewN]; omega)))), m2_2.below (by (repeat' (first | (with_reducible assumption) | (with_reducible exact Below.refl _ _) | (with_reducible refine below_wov ?_ ?_ _) | (with_reducible refine below_drewN ?_ _) | (with_reducible refine Below.drew ?_) | (with_reducible refine Below.alloc ?_ ?_ _) | (with_reducible refine Below.setCell ?_ ?_ _) | (with_reducible exact Nat.le_refl _) | omega | (simp only [World.size_alloc, World.size_setCell, World.size_drew, Wov_size, World.heap_drewN]; omega)))), m2_3.below (by (repeat' (first | (with_reducible assumption) | (with_reducible exact Below.refl _ _) | (with_reducible refine below_wov ?_ ?_ _) | (with_reducible refine below_drewN ?_ _) | (with_reducible refine Below.drew ?_) | (with_reducible refine Below.alloc ?_ ?_ _) | (with_reducible refine Below.setCell ?_ ?_ _) | (with_reducible exact Nat.le_refl _) | omega | (simp only [World.size_alloc, World.size_setCell, World.size_drew, Wov_size, World.heap_drewN]; omega))))⟩ ?_
        rintro W3 ⟨hb3, m3_0, m3_1, m3_2, m3_3⟩
        clear hb2 f2_0_lt f2_0_c0 f2_0_c1 f2_0_c2 f2_0_c3 f2_0_c4 f2_1_lt f2_1_c0 f2_1_c1 f2_1_c2 f2_1_c3 f2_1_c4 f2_2_lt f2_2_c0 f2_2_c1 f2_2_c2 f2_2_c3 f2_2_c4 m2_0 m2_1 m2_2 m2_3 hs2
        have hs3 := hb3.size
        have f3_0_lt := m3_0.lt
        have f3_0_c0 := m3_0.c0
        have f3_0_c1 := m3_0.c1
        have f3_0_c2 := m3_0.c2
        have f3_0_c3 := m3_0.c3
        have f3_0_c4 := m3_0.c4
        have f3_1_lt := m3_1.lt
        have f3_1_c0 := m3_1.c0
        have f3_1_c1 := m3_1.c1
        have f3_1_c2 := m3_1.c2
        have f3_1_c3 := m3_1.c3
        have f3_1_c4 := m3_1.c4
        have f3_2_lt := m3_2.lt
        have f3_2_c0 := m3_2.c0
        have f3_2_c1 := m3_2.c1
        have f3_2_c2 := m3_2.c2
        have f3_2_c3 := m3_2.c3
        have f3_2_c4 := m3_2.c4
        refine (M3.out _).mono ?_; rintro e w' ⟨rfl, q2, rfl⟩
        clear M1 M2 M3
        have r0 := (m3_3.holds 0 (by omega)).1
        have rz0 := (m3_3.holds 0 (by omega)).2
        have r1 := (m3_3.holds 1 (by omega)).1
        have rz1 := (m3_3.holds 1 (by omega)).2
        have r2 := (m3_3.holds 2 (by omega)).1
        have rz2 := (m3_3.holds 2 (by omega)).2
        have r3 := (m3_3.holds 3 (by omega)).1
        have rz3 := (m3_3.holds 3 (by omega)).2
        have r4 := (m3_3.holds 4 (by omega)).1
        have rz4 := (m3_3.holds 4 (by omega)).2
        have r5 := (m3_3.holds 5 (by omega)).1
        have rz5 := (m3_3.holds 5 (by omega)).2
        have rl := m3_3.lt
        go_wp2
        refine bodyPost_ret (by simp [results, Try.results25, go_sem, r0, r1, r2, r3, r4, r5, rl]; try rfl) rfl ?_
        exact gives_end (by rw [HZ0.out.1, HZ0.out.2 0, HZ0.out.2 1, HZ0.out.2 2, HZ0.out.2 3, HZ0.out.2 4, HZ0.out.2 5]) (by (repeat' (first | (with_reducible assumption) | (with_reducible exact Below.refl _ _) | (with_reducible refine below_wov ?_ ?_ _) | (with_reducible refine below_drewN ?_ _) | (with_reducible refine Below.drew ?_) | (with_reducible refine Below.alloc ?_ ?_ _) | (with_reducible refine Below.setCell ?_ ?_ _) | (with_reducible exact Nat.le_refl _) | omega | (simp only [World.size_alloc, World.size_setCell, World.size_drew, Wov_size, World.heap_drewN]; omega))))
      · skip
        replace MD := Lib.hid (MD.out rfl rfl rfl)
        clear HZ
        go_enter Try.func25, Try.ntmps25
        go_wp2_with (fail)
        refine calls_world (fun W => Below w.heap.size w W ∧ BoxS W w.heap.size t.lo t.ls t.hi t.hs t.op ∧ BoxS W (w.heap.size + 1) u.lo u.ls u.hi u.hs u.op ∧ BoxS W (w.heap.size + 2) d.lo d.ls d.hi d.hs d.op ∧ HoldsA W (w.heap.size + 3) 6 (fun _ => 0)) ⟨by (repeat' (first | (with_reducible assumption) | (with_reducible exact Below.refl _ _) | (with_reducible refine below_wov ?_ ?_ _) | (with_reducible refine below_drewN ?_ _) | (with_reducible refine Below.drew ?_) | (with_reducible refine Below.alloc ?_ ?_ _) | (with_reducible refine Below.setCell ?_ ?_ _) | (with_reducible exact Nat.le_refl _) | omega | (simp only [World.size_alloc, World.size_setCell, World.size_drew, Wov_size, World.heap_drewN]; omega))), (BoxS.new (W := w) (t := 23) (by simp)).below (by (repeat' (first | (with_reducible assumption) | (with_reducible exact Below.refl _ _) | (with_reducible refine below_wov ?_ ?_ _) | (with_reducible refine below_drewN ?_ _) | (with_reducible refine Below.drew ?_) | (with_reducible refine Below.alloc ?_ ?_ _) | (with_reducible refine Below.setCell ?_ ?_ _) | (with_reducible exact Nat.le_refl _) | omega | (simp only [World.size_alloc, World.size_setCell, World.size_drew, Wov_size, World.heap_drewN]; omega)))), (BoxS.new (W := (World.alloc w (.cells #[.int .i64 t.lo, .bool t.ls, .int .i64 t.hi, .bool t.hs, .bool t.op] 23))) (t := 23) (by simp)).below (by (repeat' (first | (with_reducible assumption) | (with_reducible exact Below.refl _ _) | (with_reducible refine below_wov ?_ ?_ _) | (with_reducible refine below_drewN ?_ _) | (with_reducible refine Below.drew ?_) | (with_reducible refine Below.alloc ?_ ?_ _) | (with_reducible refine Below.setCell ?_ ?_ _) | (with_reducible exact Nat.le_refl _) | omega | (simp only [World.size_alloc, World.size_setCell, World.size_drew, Wov_size, World.heap_drewN]; omega)))), (BoxS.new (W := (World.alloc (World.alloc w (.cells #[.int .i64 t.lo, .bool t.ls, .int .i64 t.hi, .bool t.hs, .bool t.op] 23)) (.cells #[.int .i64 u.lo, .bool u.ls, .int .i64 u.hi, .bool u.hs, .bool u.op] 23))) (t := 23) (by simp)).below (by (repeat' (first | (with_reducible assumption) | (with_reducible exact Below.refl _ _) | (with_reducible refine below_wov ?_ ?_ _) | (with_reducible refine below_drewN ?_ _) | (with_reducible refine Below.drew ?_) | (with_reducible refine Below.alloc ?_ ?_ _) | (with_reducible refine Below.setCell ?_ ?_ _) | (with_reducible exact Nat.le_refl _) | omega | (simp only [World.size_alloc, World.size_setCell, World.size_drew, Wov_size, World.heap_drewN]; omega)))), (HoldsA.zone (W := (World.alloc (World.alloc (World.alloc w (.cells #[.int .i64 t.lo, .bool t.ls, .int .i64 t.hi, .bool t.hs, .bool t.op] 23)) (.cells #[.int .i64 u.lo, .bool u.ls, .int .i64 u.hi, .bool u.hs, .bool u.op] 23)) (.cells #[.int .i64 d.lo, .bool d.ls, .int .i64 d.hi, .bool d.hs, .bool d.op] 23))) (t := 26) (by simp))⟩ ?_
        rintro W1 ⟨hb1, m1_0, m1_1, m1_2, m1_3⟩
        have hs1 := hb1.size
        have f1_0_lt := m1_0.lt
        have f1_0_c0 := m1_0.c0
        have f1_0_c1 := m1_0.c1
        have f1_0_c2 := m1_0.c2
        have f1_0_c3 := m1_0.c3
        have f1_0_c4 := m1_0.c4
        have f1_1_lt := m1_1.lt
        have f1_1_c0 := m1_1.c0
        have f1_1_c1 := m1_1.c1
        have f1_1_c2 := m1_1.c2
        have f1_1_c3 := m1_1.c3
        have f1_1_c4 := m1_1.c4
        have f1_2_lt := m1_2.lt
        have f1_2_c0 := m1_2.c0
        have f1_2_c1 := m1_2.c1
        have f1_2_c2 := m1_2.c2
        have f1_2_c3 := m1_2.c3
        have f1_2_c4 := m1_2.c4
        refine (M1.out _).mono ?_; rintro e w' ⟨rfl, q0, rfl⟩
        go_wp2_with (fail)
        refine calls_world (fun W => Below w.heap.size w W ∧ BoxS W w.heap.size t.lo t.ls t.hi t.hs t.op ∧ BoxS W (w.heap.size + 1) u.lo u.ls u.hi u.hs u.op ∧ BoxS W (w.heap.size + 2) d.lo d.ls d.hi d.hs d.op ∧ HoldsA W (w.heap.size + 3) 6 (fun _ => 0)) ⟨by (repeat' (first | (with_reducible assumption) | (with_reducible exact Below.refl _ _) | (with_reducible refine below_wov ?_ ?_ _) | (with_reducible refine below_drewN ?_ _) | (with_reducible refine Below.drew ?_) | (with_reducible refine Below.alloc ?_ ?_ _) | (with_reducible refine Below.setCell ?_ ?_ _) | (with_reducible exact Nat.le_refl _) | omega | (simp only [World.size_alloc, World.size_setCell, World.size_drew, Wov_size, World.heap_drewN]; omega))), m1_0.below (by (repeat' (first | (with_reducible assumption) | (with_reducible exact Below.refl _ _) | (with_reducible refine below_wov ?_ ?_ _) | (with_reducible refine below_drewN ?_ _) | (with_reducible refine Below.drew ?_) | (with_reducible refine Below.alloc ?_ ?_ _) | (with_reducible refine Below.setCell ?_ ?_ _) | (with_reducible exact Nat.le_refl _) | omega | (simp only [World.size_alloc, World.size_setCell, World.size_drew, Wov_size, World.heap_drewN]; omega)))), m1_1.below (by (repeat' (first | (with_reducible assumption) | (with_reducible exact Below.refl _ _) | (with_reducible refine below_wov ?_ ?_ _) | (with_reducible refine below_drewN ?_ _) | (with_reducible refine Below.drew ?_) | (with_reducible refine Below.alloc ?_ ?_ _) | (with_reducible refine Below.setCell ?_ ?_ _) | (with_reducible exact Nat.le_refl _) | omega | (simp only [World.size_alloc, World.size_setCell, World.size_drew, Wov_size, World.heap_drewN]; omega)))), m1_2.below (by (repeat' (first | (with_reducible assumption) | (with_reducible exact Below.refl _ _) | (with_reducible refine below_wov ?_ ?_ _) | (with_reducible refine below_drewN ?_ _) | (with_reducible refine Below.drew ?_) | (with_reducible refine Below.alloc ?_ ?_ _) | (with_reducible refine Below.setCell ?_ ?_ _) | (with_reducible exact Nat.le_refl _) | omega | (simp only [World.size_alloc, World.size_setCell, World.size_drew, Wov_size, World.heap_drewN]; omega)))), m1_3.below (by (repeat' (first | (with_reducible assumption) | (with_reducible exact Below.refl _ _) | (with_reducible refine below_wov ?_ ?_ _) | (with_reducible refine below_drewN ?_ _) | (with_reducible refine Below.drew ?_) | (with_reducible refine Below.alloc ?_ ?_ _) | (with_reducible refine Below.setCell ?_ ?_ _) | (with_reducible exact Nat.le_refl _) | omega | (simp only [World.size_alloc, World.size_setCell, World.size_drew, Wov_size, World.heap_drewN]; omega))))⟩ ?_
        rintro W2 ⟨hb2, m2_0, m2_1, m2_2, m2_3⟩
        clear hb1 f1_0_lt f1_0_c0 f1_0_c1 f1_0_c2 f1_0_c3 f1_0_c4 f1_1_lt f1_1_c0 f1_1_c1 f1_1_c2 f1_1_c3 f1_1_c4 f1_2_lt f1_2_c0 f1_2_c1 f1_2_c2 f1_2_c3 f1_2_c4 m1_0 m1_1 m1_2 m1_3 hs1
        have hs2 := hb2.size
        have f2_0_lt := m2_0.lt
        have f2_0_c0 := m2_0.c0
        have f2_0_c1 := m2_0.c1
        have f2_0_c2 := m2_0.c2
        have f2_0_c3 := m2_0.c3
        have f2_0_c4 := m2_0.c4
        have f2_1_lt := m2_1.lt
        have f2_1_c0 := m2_1.c0
        have f2_1_c1 := m2_1.c1
        have f2_1_c2 := m2_1.c2
        have f2_1_c3 := m2_1.c3
        have f2_1_c4 := m2_1.c4
        have f2_2_lt := m2_2.lt
        have f2_2_c0 := m2_2.c0
        have f2_2_c1 := m2_2.c1
        have f2_2_c2 := m2_2.c2
        have f2_2_c3 := m2_2.c3
        have f2_2_c4 := m2_2.c4
        refine (M2.out _).mono ?_; rintro e w' ⟨rfl, q1, rfl⟩
        go_wp2_with (fail)
        refine calls_world (fun W => Below w.heap.size w W ∧ BoxS W w.heap.size t.lo t.ls t.hi t.hs t.op ∧ BoxS W (w.heap.size + 1) u.lo u.ls u.hi u.hs u.op ∧ BoxS W (w.heap.size + 2) d.lo d.ls d.hi d.hs d.op ∧ HoldsA W (w.heap.size + 3) 6 (fun _ => 0)) ⟨by (repeat' (first | (with_reducible assumption) | (with_reducible exact Below.refl _ _) | (with_reducible refine below_wov ?_ ?_ _) | (with_reducible refine below_drewN ?_ _) | (with_reducible refine Below.drew ?_) | (with_reducible refine Below.alloc ?_ ?_ _) | (with_reducible refine Below.setCell ?_ ?_ _) | (with_reducible exact Nat.le_refl _) | omega | (simp only [World.size_alloc, World.size_setCell, World.size_drew, Wov_size, World.heap_drewN]; omega))), m2_0.below (by (repeat' (first | (with_reducible assumption) | (with_reducible exact Below.refl _ _) | (with_reducible refine below_wov ?_ ?_ _) | (with_reducible refine below_drewN ?_ _) | (with_reducible refine Below.drew ?_) | (with_reducible refine Below.alloc ?_ ?_ _) | (with_reducible refine Below.setCell ?_ ?_ _) | (with_reducible exact Nat.le_refl _) | omega | (simp only [World.size_alloc, World.size_setCell, World.size_drew, Wov_size, World.heap_drewN]; omega)))), m2_1.below (by (repeat' (first | (with_reducible assumption) | (with_reducible exact Below.refl _ _) | (with_reducible refine below_wov ?_ ?_ _) | (with_reducible refine below_drewN ?_ _) | (with_reducible refine Below.drew ?_) | (with_reducible refine Below.alloc ?_ ?_ _) | (with_reducible refine Below.setCell ?_ ?_ _) | (with_reducible exact Nat.le_refl _) | omega | (simp only [World.size_alloc, World.size_setCell, World.size_drew, Wov_size, World.heap_drewN]; omega)))), m2_2.below (by (repeat' (first | (with_reducible assumption) | (with_reducible exact Below.refl _ _) | (with_reducible refine below_wov ?_ ?_ _) | (with_reducible refine below_drewN ?_ _) | (with_reducible refine Below.drew ?_) | (with_reducible refine Below.alloc ?_ ?_ _) | (with_reducible refine Below.setCell ?_ ?_ _) | (with_reducible exact Nat.le_refl _) | omega | (simp only [World.size_alloc, World.size_setCell, World.size_drew, Wov_size, World.heap_drewN]; omega)))), m2_3.below (by (repeat' (first | (with_reducible assumption) | (with_reducible exact Below.refl _ _) | (with_reducible refine below_wov ?_ ?_ _) | (with_reducible refine below_drewN ?_ _) | (with_reducible refine Below.drew ?_) | (with_reducible refine Below.alloc ?_ ?_ _) | (with_reducible refine Below.setCell ?_ ?_ _) | (with_reducible exact Nat.le_refl _) | omega | (simp only [World.size_alloc, World.size_setCell, World.size_drew, Wov_size, World.heap_drewN]; omega))))⟩ ?_
        rintro W3 ⟨hb3, m3_0, m3_1, m3_2, m3_3⟩
        clear hb2 f2_0_lt f2_0_c0 f2_0_c1 f2_0_c2 f2_0_c3 f2_0_c4 f2_1_lt f2_1_c0 f2_1_c1 f2_1_c2 f2_1_c3 f2_1_c4 f2_2_lt f2_2_c0 f2_2_c1 f2_2_c2 f2_2_c3 f2_2_c4 m2_0 m2_1 m2_2 m2_3 hs2
        have hs3 := hb3.size
        have f3_0_lt := m3_0.lt
        have f3_0_c0 := m3_0.c0
        have f3_0_c1 := m3_0.c1
        have f3_0_c2 := m3_0.c2
        have f3_0_c3 := m3_0.c3
        have f3_0_c4 := m3_0.c4
        have f3_1_lt := m3_1.lt
        have f3_1_c0 := m3_1.c0
        have f3_1_c1 := m3_1.c1
        have f3_1_c2 := m3_1.c2
        have f3_1_c3 := m3_1.c3
        have f3_1_c4 := m3_1.c4
        have f3_2_lt := m3_2.lt
        have f3_2_c0 := m3_2.c0
        have f3_2_c1 := m3_2.c1
        have f3_2_c2 := m3_2.c2
        have f3_2_c3 := m3_2.c3
        have f3_2_c4 := m3_2.c4
        refine (M3.out _).mono ?_; rintro e w' ⟨rfl, q2, rfl⟩
        go_wp2_with (fail)
        refine (MD.out _).mono ?_; rintro e w' ⟨rfl, qm, rfl⟩
        clear M1 M2 M3 MD
        have r0 := (m3_3.holds 0 (by omega)).1
        have rz0 := (m3_3.holds 0 (by omega)).2
        have r1 := (m3_3.holds 1 (by omega)).1
        have rz1 := (m3_3.holds 1 (by omega)).2
        have r2 := (m3_3.holds 2 (by omega)).1
        have rz2 := (m3_3.holds 2 (by omega)).2
        have r3 := (m3_3.holds 3 (by omega)).1
        have rz3 := (m3_3.holds 3 (by omega)).2
        have r4 := (m3_3.holds 4 (by omega)).1
        have rz4 := (m3_3.holds 4 (by omega)).2
        have r5 := (m3_3.holds 5 (by omega)).1
        have rz5 := (m3_3.holds 5 (by omega)).2
        have rl := m3_3.lt
        go_wp2
        refine bodyPost_ret (by simp [results, Try.results25, go_sem, r0, r1, r2, r3, r4, r5, rl]; try rfl) rfl ?_
        exact gives_end rfl (by (repeat' (first | (with_reducible assumption) | (with_reducible exact Below.refl _ _) | (with_reducible refine below_wov ?_ ?_ _) | (with_reducible refine below_drewN ?_ _) | (with_reducible refine Below.drew ?_) | (with_reducible refine Below.alloc ?_ ?_ _) | (with_reducible refine Below.setCell ?_ ?_ _) | (with_reducible exact Nat.le_refl _) | omega | (simp only [World.size_alloc, World.size_setCell, World.size_drew, Wov_size, World.heap_drewN]; omega))))
end Go.Proofs.Ytnjhjgkekmjmdaa
