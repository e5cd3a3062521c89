/- Contracts of the document's zones within spans, in windows, and later. No condition. -/
import Derived.Test.YtnjhjgkekmjmdaaK5
import Derived.Test.YtnjhjgkekmjmdaaK6
namespace Go.Proofs.Ytnjhjgkekmjmdaa
set_option linter.unusedSimpArgs false
set_option linter.unusedVariables false
open Go Go.RowKit Go.Shelf
attribute [local go_sem] Nat.add_assoc Nat.add_lt_add_iff_left lit_lt_add

set_option maxHeartbeats 400000 in
theorem in10_any (n : Int) : Pure Try.prog 99 #[.int .i64 n] (.bool (fitsW n)) := by
  intro w
  by_cases h1 : -288230376151711744 ≤ n
  · by_cases h2 : n ≤ 288230376151711744
    · have e : Hid (fitsW n = true) := by show _ = _; simp [fitsW, h1, h2]
      go_enter Try.func99, Try.ntmps99
      go_wp2
      go_ret
      exact gives_bool (by rw [e.out]) (by (repeat' (first | (with_reducible assumption) | (with_reducible exact Below.refl _ _) | (with_reducible refine below_wov ?_ ?_ _) | (with_reducible refine below_drewN ?_ _) | (with_reducible refine Below.drew ?_) | (with_reducible refine Below.alloc ?_ ?_ _) | (with_reducible refine Below.setCell ?_ ?_ _) | (with_reducible exact Nat.le_refl _) | omega | (simp only [World.size_alloc, World.size_setCell, World.size_drew, Wov_size, World.heap_drewN]; omega))))
    · have e : Hid (fitsW n = false) := by show _ = _; simp [fitsW, h2]
      go_enter Try.func99, Try.ntmps99
      go_wp2
      go_ret
      exact gives_bool (by rw [e.out]) (by (repeat' (first | (with_reducible assumption) | (with_reducible exact Below.refl _ _) | (with_reducible refine below_wov ?_ ?_ _) | (with_reducible refine below_drewN ?_ _) | (with_reducible refine Below.drew ?_) | (with_reducible refine Below.alloc ?_ ?_ _) | (with_reducible refine Below.setCell ?_ ?_ _) | (with_reducible exact Nat.le_refl _) | omega | (simp only [World.size_alloc, World.size_setCell, World.size_drew, Wov_size, World.heap_drewN]; omega))))
  · have e : Hid (fitsW n = false) := by show _ = _; simp [fitsW, h1]
    have h3 : decide (-288230376151711744 ≤ n) = false := decide_eq_false h1
    go_enter Try.func99, Try.ntmps99
    go_wp2
    go_ret
    exact gives_bool (by rw [e.out]) (by (repeat' (first | (with_reducible assumption) | (with_reducible exact Below.refl _ _) | (with_reducible refine below_wov ?_ ?_ _) | (with_reducible refine below_drewN ?_ _) | (with_reducible refine Below.drew ?_) | (with_reducible refine Below.alloc ?_ ?_ _) | (with_reducible refine Below.setCell ?_ ?_ _) | (with_reducible exact Nat.le_refl _) | omega | (simp only [World.size_alloc, World.size_setCell, World.size_drew, Wov_size, World.heap_drewN]; omega))))

set_option maxRecDepth 10000 in
set_option maxHeartbeats 2000000 in
theorem told10_yes (p : Option Addr) (c : Nat) (g : Nat → Int) (w : World) (hS : SlP w p 9 g) (hF : Fits 9 g) : Calls Try.prog 152 #[.agg #[.int .i64 3, .slice p 9 c], .bool true] w (Gives w (zoneR (toldZ g).1 (toldZ g).2)) := by
  have MY : Hid (∀ w', Below w.heap.size w w' → Calls Try.prog 89 #[.agg #[.int .i64 3, .slice p 9 c]] w' (Gives w' (.bool (okD 3 9 g)))) := fun w' hb => refMay_any 3 p 9 c g w' (by decide) (hS.below hb) hF (by omega)
  have SH : Hid (∀ w', Below w.heap.size w w' → Calls Try.prog 90 #[.agg #[.int .i64 3, .slice p 9 c]] w' (Gives w' (zoneV (shortZ g)))) := fun w' hb => short8_any p c g w' (hS.below hb)
  unfold toldZ
  obtain ⟨k, hk⟩ : ∃ k, k = okD 3 9 g := ⟨_, rfl⟩
  rw [← hk] at MY ⊢
  unfold zoneV at SH
  unfold zoneR zoneV
  obtain ⟨s, hs⟩ : ∃ s, s = shortZ g := ⟨_, rfl⟩
  rw [← hs] at SH ⊢
  clear hk hs hS hF
  cases k
  · simp only [Bool.false_eq_true, if_false]
    go_enter Try.func152, Try.ntmps152
    go_wp2_with (fail)
    refine (MY.out _ (by (repeat' (first | (with_reducible assumption) | (with_reducible exact Below.refl _ _) | (with_reducible refine below_wov ?_ ?_ _) | (with_reducible refine below_drewN ?_ _) | (with_reducible refine Below.drew ?_) | (with_reducible refine Below.alloc ?_ ?_ _) | (with_reducible refine Below.setCell ?_ ?_ _) | (with_reducible exact Nat.le_refl _) | omega | (simp only [World.size_alloc, World.size_setCell, World.size_drew, Wov_size, World.heap_drewN]; omega))))).mono ?_; rintro e w' ⟨rfl, q1, rfl⟩
    go_wp2
    go_returns
    exact gives_end rfl (by (repeat' (first | (with_reducible assumption) | (with_reducible exact Below.refl _ _) | (with_reducible refine below_wov ?_ ?_ _) | (with_reducible refine below_drewN ?_ _) | (with_reducible refine Below.drew ?_) | (with_reducible refine Below.alloc ?_ ?_ _) | (with_reducible refine Below.setCell ?_ ?_ _) | (with_reducible exact Nat.le_refl _) | omega | (simp only [World.size_alloc, World.size_setCell, World.size_drew, Wov_size, World.heap_drewN]; omega))))
  · simp only [if_true]
    go_enter Try.func152, Try.ntmps152
    go_wp2_with (fail)
    refine (MY.out _ (by (repeat' (first | (with_reducible assumption) | (with_reducible exact Below.refl _ _) | (with_reducible refine below_wov ?_ ?_ _) | (with_reducible refine below_drewN ?_ _) | (with_reducible refine Below.drew ?_) | (with_reducible refine Below.alloc ?_ ?_ _) | (with_reducible refine Below.setCell ?_ ?_ _) | (with_reducible exact Nat.le_refl _) | omega | (simp only [World.size_alloc, World.size_setCell, World.size_drew, Wov_size, World.heap_drewN]; omega))))).mono ?_; rintro e w' ⟨rfl, q1, rfl⟩
    go_wp2_with (fail)
    refine (SH.out _ (by (repeat' (first | (with_reducible assumption) | (with_reducible exact Below.refl _ _) | (with_reducible refine below_wov ?_ ?_ _) | (with_reducible refine below_drewN ?_ _) | (with_reducible refine Below.drew ?_) | (with_reducible refine Below.alloc ?_ ?_ _) | (with_reducible refine Below.setCell ?_ ?_ _) | (with_reducible exact Nat.le_refl _) | omega | (simp only [World.size_alloc, World.size_setCell, World.size_drew, Wov_size, World.heap_drewN]; omega))))).mono ?_; rintro e w' ⟨rfl, q2, rfl⟩
    go_wp2
    go_returns
    exact gives_end rfl (by (repeat' (first | (with_reducible assumption) | (with_reducible exact Below.refl _ _) | (with_reducible refine below_wov ?_ ?_ _) | (with_reducible refine below_drewN ?_ _) | (with_reducible refine Below.drew ?_) | (with_reducible refine Below.alloc ?_ ?_ _) | (with_reducible refine Below.setCell ?_ ?_ _) | (with_reducible exact Nat.le_refl _) | omega | (simp only [World.size_alloc, World.size_setCell, World.size_drew, Wov_size, World.heap_drewN]; omega))))
set_option maxRecDepth 10000 in
set_option maxHeartbeats 2000000 in
theorem told10_no (n : Int) (p : Option Addr) (N c : Nat) : Pure Try.prog 152 #[.agg #[.int .i64 n, .slice p N c], .bool false] (zoneR (fun _ => 0) 6) := by
  intro w
  unfold zoneR zoneV
  go_enter Try.func152, Try.ntmps152
  go_wp2
  go_returns
  exact gives_end rfl (by (repeat' (first | (with_reducible assumption) | (with_reducible exact Below.refl _ _) | (with_reducible refine below_wov ?_ ?_ _) | (with_reducible refine below_drewN ?_ _) | (with_reducible refine Below.drew ?_) | (with_reducible refine Below.alloc ?_ ?_ _) | (with_reducible refine Below.setCell ?_ ?_ _) | (with_reducible exact Nat.le_refl _) | omega | (simp only [World.size_alloc, World.size_setCell, World.size_drew, Wov_size, World.heap_drewN]; omega))))
theorem told10_any (r : MR) (hr : (∃ g, r = ⟨3, 9, g, 0⟩) ∨ r = errM 6) (hf : Fits r.N r.f) (p : Option Addr) (c : Nat) (w : World) (hS : SlP w p r.N r.f) : Calls Try.prog 152 #[.agg #[.int .i64 r.n, .slice p r.N c], .bool (decide (r.e = 0))] w (Gives w (zoneR (zoneM r).1 (zoneM r).2)) := by
  rcases hr with ⟨g, rfl⟩ | rfl
  · exact told10_yes p c g w hS hf
  · exact told10_no 0 p 0 c w


/-- A zone with two bounds alone. -/
def onlyD (x y : Int) : Nat → Int
  | 0 => noneB | 1 => noneB | 2 => noneB | 3 => noneB | 4 => x | _ => y
def onlyW (x y : Int) : Nat → Int
  | 0 => noneB | 1 => noneB | 2 => x | 3 => y | _ => noneB
theorem ptr22_6 {P : Program} {c : Code} {Q : Exit → Act → World → Prop} {D : List Deferred} {W : World} {t0 t1 t2 t3 t4 t5 t7 t8 t9 t10 t11 t12 t13 t14 t15 t16 t17 t18 t19 t20 t21 : Value} {E : Nat} (h : ∀ A, A = E → Code.wp P c Q { tmps := #[t0, t1, t2, t3, t4, t5, .pointer (some ⟨A, 0, none⟩), t7, t8, t9, t10, t11, t12, t13, t14, t15, t16, t17, t18, t19, t20, t21], defers := D } W) : Code.wp P c Q { tmps := #[t0, t1, t2, t3, t4, t5, .pointer (some ⟨E, 0, none⟩), t7, t8, t9, t10, t11, t12, t13, t14, t15, t16, t17, t18, t19, t20, t21], defers := D } W := h E rfl

set_option maxRecDepth 10000 in
set_option maxHeartbeats 8000000 in
theorem spanned_any (z : Nat → Int) (s : Sp) (w : World) (hs : s.ok = true) (hz : okD (3 : Nat) (3 * 3) (zF z) = true) (hoz : okD (3 : Nat) (3 * 3) (zF (onlyD s.abo s.bel)) = true) : Calls Try.prog 95 #[zoneV z, .agg #[.int .i64 s.lo, .bool s.ls, .int .i64 s.hi, .bool s.hs, .bool s.op]] w (Gives w (zoneR (zoneM (closeM 3 9 (lessF (zF z) (zF (onlyD s.abo s.bel))))).1 (zoneM (closeM 3 9 (lessF (zF z) (zF (onlyD s.abo s.bel))))).2)) := by
  obtain ⟨b1, b2, b3, b4, b5⟩ := spanB_bd hs
  have AB : Hid (Pure Try.prog 137 #[.agg #[.int .i64 s.lo, .bool s.ls, .int .i64 s.hi, .bool s.hs, .bool s.op]] (.int .i64 s.abo)) := refAbove_any s.lo s.ls s.hi s.hs s.op (fun h => ⟨by have := b5 h; omega, b3⟩)
  have BE : Hid (Pure Try.prog 138 #[.agg #[.int .i64 s.lo, .bool s.ls, .int .i64 s.hi, .bool s.hs, .bool s.op]] (.int .i64 s.bel)) := refBelow_any s.lo s.ls s.hi s.hs s.op b1 b2
  clear b1 b2 b3 b4 b5 hs
  have ok := okD_less hz hoz
  obtain ⟨r, hr⟩ : ∃ r, r = closeM 3 9 (lessF (zF z) (zF (onlyD s.abo s.bel))) := ⟨_, rfl⟩
  have h2 : (∃ g, r = ⟨3, 9, g, 0⟩) ∨ r = errM 6 := by
    rcases closeM_cases ok with ⟨c, hc, _⟩ | ⟨hc, _⟩
    · exact .inl ⟨c, hr.trans hc⟩
    · exact .inr (hr.trans hc)
  have TO := Lib.hid (told10_any r h2 (by rw [hr]; exact (closeM_ok 3 9 _).f))
  have FZ : Hid (∀ w, Calls Try.prog 140 #[.agg #[.int .i64 (z 0), .int .i64 (z 1), .int .i64 (z 2), .int .i64 (z 3), .int .i64 (z 4), .int .i64 (z 5)]] w (rowPost w 3 9 (zF z))) := fun w => full8_any z w
  have FO : Hid (∀ w, Calls Try.prog 140 #[.agg #[.int .i64 9223372036854775807, .int .i64 9223372036854775807, .int .i64 9223372036854775807, .int .i64 9223372036854775807, .int .i64 s.abo, .int .i64 s.bel]] w (rowPost w 3 9 (zF (onlyD s.abo s.bel)))) := fun w => full8_any (onlyD s.abo s.bel) w
  have CM : Hid (∀ w B B' c c', SlP w (some ⟨B, 0, none⟩) 9 (zF z) → SlP w (some ⟨B', 0, none⟩) 9 (zF (onlyD s.abo s.bel)) → Calls Try.prog 153 #[.agg #[.int .i64 3, .slice (some ⟨B, 0, none⟩) 9 c], .agg #[.int .i64 3, .slice (some ⟨B', 0, none⟩) 9 c']] w (matB w r.n r.N r.f (decide (r.e = 0)))) := fun w B B' c c' h k => common_any 3 9 _ _ c c' _ _ r w rfl ok hr h k
  rw [← hr]
  obtain ⟨f, hf⟩ : ∃ f, f = zF z := ⟨_, rfl⟩
  obtain ⟨fo, hfo⟩ : ∃ f, f = zF (onlyD s.abo s.bel) := ⟨_, rfl⟩
  rw [← hf] at FZ CM
  rw [← hfo] at FO CM
  obtain ⟨zz, hzz⟩ : ∃ z, z = zoneM r := ⟨_, rfl⟩
  rw [← hzz] at TO ⊢
  obtain ⟨⟨n, N, g, e0⟩, hm⟩ : ∃ m, m = r := ⟨_, rfl⟩
  rw [← hm] at TO CM
  obtain ⟨k, hk⟩ : ∃ k, k = decide (e0 = 0) := ⟨_, rfl⟩
  simp only at TO CM
  rw [← hk] at TO CM
  unfold rowPost at FZ FO
  unfold zoneR zoneV at TO ⊢
  clear hr hf hfo hzz hm hk h2 ok hoz hz
  obtain ⟨bo, hbo⟩ : ∃ b, b = s.abo := ⟨_, rfl⟩
  obtain ⟨bl, hbl⟩ : ∃ b, b = s.bel := ⟨_, rfl⟩
  rw [← hbo] at AB FO
  rw [← hbl] at BE FO
  clear hbo hbl
  go_enter Try.func95, Try.ntmps95
  go_wp2_with (fail)
  refine wp_world (fun W => Below w.heap.size w W ∧ BoxZ W w.heap.size z ∧ BoxS W (w.heap.size + 1) s.lo s.ls s.hi s.hs s.op ∧ HoldsA W (w.heap.size + 2) 6 (fun _ => 0)) ⟨by (repeat' (first | (with_reducible assumption) | (with_reducible exact Below.refl _ _) | (with_reducible refine below_wov ?_ ?_ _) | (with_reducible refine below_drewN ?_ _) | (with_reducible refine Below.drew ?_) | (with_reducible refine Below.alloc ?_ ?_ _) | (with_reducible refine Below.setCell ?_ ?_ _) | (with_reducible exact Nat.le_refl _) | omega | (simp only [World.size_alloc, World.size_setCell, World.size_drew, Wov_size, World.heap_drewN]; omega))), (BoxZ.new (W := w) (t := 26) rfl).below (by (repeat' (first | (with_reducible assumption) | (with_reducible exact Below.refl _ _) | (with_reducible refine below_wov ?_ ?_ _) | (with_reducible refine below_drewN ?_ _) | (with_reducible refine Below.drew ?_) | (with_reducible refine Below.alloc ?_ ?_ _) | (with_reducible refine Below.setCell ?_ ?_ _) | (with_reducible exact Nat.le_refl _) | omega | (simp only [World.size_alloc, World.size_setCell, World.size_drew, Wov_size, World.heap_drewN]; omega)))), (BoxS.new (W := w.alloc (.cells #[.int .i64 (z 0), .int .i64 (z 1), .int .i64 (z 2), .int .i64 (z 3), .int .i64 (z 4), .int .i64 (z 5)] 26)) (t := 23) (by simp)).below (by (repeat' (first | (with_reducible assumption) | (with_reducible exact Below.refl _ _) | (with_reducible refine below_wov ?_ ?_ _) | (with_reducible refine below_drewN ?_ _) | (with_reducible refine Below.drew ?_) | (with_reducible refine Below.alloc ?_ ?_ _) | (with_reducible refine Below.setCell ?_ ?_ _) | (with_reducible exact Nat.le_refl _) | omega | (simp only [World.size_alloc, World.size_setCell, World.size_drew, Wov_size, World.heap_drewN]; omega)))), (HoldsA.zone (W := (w.alloc (.cells #[.int .i64 (z 0), .int .i64 (z 1), .int .i64 (z 2), .int .i64 (z 3), .int .i64 (z 4), .int .i64 (z 5)] 26)).alloc (.cells #[.int .i64 s.lo, .bool s.ls, .int .i64 s.hi, .bool s.hs, .bool s.op] 23)) (t := 26) (by simp)).below (by (repeat' (first | (with_reducible assumption) | (with_reducible exact Below.refl _ _) | (with_reducible refine below_wov ?_ ?_ _) | (with_reducible refine below_drewN ?_ _) | (with_reducible refine Below.drew ?_) | (with_reducible refine Below.alloc ?_ ?_ _) | (with_reducible refine Below.setCell ?_ ?_ _) | (with_reducible exact Nat.le_refl _) | omega | (simp only [World.size_alloc, World.size_setCell, World.size_drew, Wov_size, World.heap_drewN]; omega))))⟩ ?_
  rintro W1 ⟨hb1, mZ1, mS, mR1⟩
  have hs1 := hb1.size
  have sl := mS.lt
  have s0 := mS.c0
  have s1 := mS.c1
  have s2 := mS.c2
  have s3 := mS.c3
  have s4 := mS.c4
  have HZ := Lib.hid mZ1
  have HX := Lib.hid mR1
  clear mS mZ1 mR1
  go_region_held3 (fun w' => w'.cell? ⟨w.heap.size + 1, 0, none⟩ = some (.int .i64 s.lo) ∧ w'.cell? ⟨w.heap.size + 1, 1, none⟩ = some (.bool s.ls) ∧ w'.cell? ⟨w.heap.size + 1, 2, none⟩ = some (.int .i64 s.hi) ∧ w'.cell? ⟨w.heap.size + 1, 3, none⟩ = some (.bool s.hs) ∧ w'.cell? ⟨w.heap.size + 1, 4, none⟩ = some (.bool s.op))
    ((simp [go_sem, *]))
    (first
    | (go_at_call 137; (refine (AB.out _).mono ?_; rintro e w' ⟨rfl, qAB, rfl⟩))
    | (go_at_call 138; (refine (BE.out _).mono ?_; rintro e w' ⟨rfl, qBE, rfl⟩))
    | (go_at_call 140; ((with_reducible refine (FO.out _).mono ?_); rintro e w' ⟨BO, cO, rfl, hAO, hBO, hHO, qO, rfl⟩; have tO0 := slp_of hHO hBO; clear hHO)))
  all_goals
    simp only [Exit.then]
    refine ‹∀ (a : Act) (w_1 : World), Code.wp Try.prog _ (bodyPost Try.prog _ _) a w_1 → _› _ _ ?_
    refine ptr22_6 ?_
    intro A hA
    clear AB BE s0 s1 s2 s3 s4 sl
    refine wp_world (fun W => Below w.heap.size w W ∧ BoxZ W w.heap.size z ∧ HoldsA W (w.heap.size + 2) 6 (fun _ => 0) ∧ BoxM W A 3 (some ⟨BO, 0, none⟩) 9 cO fo) ⟨by (repeat' (first | (with_reducible assumption) | (with_reducible exact Below.refl _ _) | (with_reducible refine below_wov ?_ ?_ _) | (with_reducible refine below_drewN ?_ _) | (with_reducible refine Below.drew ?_) | (with_reducible refine Below.alloc ?_ ?_ _) | (with_reducible refine Below.setCell ?_ ?_ _) | (with_reducible exact Nat.le_refl _) | omega | (simp only [World.size_alloc, World.size_setCell, World.size_drew, Wov_size, World.heap_drewN]; omega))), HZ.out.below (by (repeat' (first | (with_reducible assumption) | (with_reducible exact Below.refl _ _) | (with_reducible refine below_wov ?_ ?_ _) | (with_reducible refine below_drewN ?_ _) | (with_reducible refine Below.drew ?_) | (with_reducible refine Below.alloc ?_ ?_ _) | (with_reducible refine Below.setCell ?_ ?_ _) | (with_reducible exact Nat.le_refl _) | omega | (simp only [World.size_alloc, World.size_setCell, World.size_drew, Wov_size, World.heap_drewN]; omega)))), HX.out.below (by (repeat' (first | (with_reducible assumption) | (with_reducible exact Below.refl _ _) | (with_reducible refine below_wov ?_ ?_ _) | (with_reducible refine below_drewN ?_ _) | (with_reducible refine Below.drew ?_) | (with_reducible refine Below.alloc ?_ ?_ _) | (with_reducible refine Below.setCell ?_ ?_ _) | (with_reducible exact Nat.le_refl _) | omega | (simp only [World.size_alloc, World.size_setCell, World.size_drew, Wov_size, World.heap_drewN]; omega)))), ?_⟩ ?_
    · (try simp only [drew_Wov, Wov_Wov, Array.append_assoc] at tO0)
      (try simp only [drew_Wov, Wov_Wov, Array.append_assoc] at hAO)
      (try simp only [drew_Wov, Wov_Wov, Array.append_assoc] at hBO)
      subst hA
      refine ⟨by (first | omega | ((simp only [World.size_alloc, World.size_setCell, World.size_drew, Wov_size, World.heap_drewN, Array.size_append]) <;> omega)), by simp [go_sem], by simp [go_sem], ?_⟩
      first
      | (refine SlP.below tO0 ?_; (repeat' (first | (with_reducible assumption) | (with_reducible exact Below.refl _ _) | (with_reducible exact below_app _ _ _ _) | (with_reducible exact below_app2 _ _ _ _ _ _) | (with_reducible exact below_app0 _ _ _) | (with_reducible refine below_wov ?_ ?_ _) | (with_reducible refine below_drewN ?_ _) | (with_reducible refine Below.drew ?_) | (with_reducible refine Below.alloc ?_ ?_ _) | (with_reducible refine Below.setCell ?_ ?_ _) | (with_reducible exact Nat.le_refl _) | omega | (simp only [World.size_alloc, World.size_setCell, World.size_drew, Wov_size, World.heap_drewN, Array.size_append]; omega))); done)
      | (refine slp_other (slp_other (SlP.below tO0 ?_) ?_ ?_) ?_ ?_ <;> first | (simp only [World.size_alloc, World.size_setCell, Wov_size, Array.size_append] at hAO hBO ⊢; omega) | ((repeat' (first | (with_reducible assumption) | (with_reducible exact Below.refl _ _) | (with_reducible exact below_app _ _ _ _) | (with_reducible exact below_app2 _ _ _ _ _ _) | (with_reducible exact below_app0 _ _ _) | (with_reducible refine below_wov ?_ ?_ _) | (with_reducible refine below_drewN ?_ _) | (with_reducible refine Below.drew ?_) | (with_reducible refine Below.alloc ?_ ?_ _) | (with_reducible refine Below.setCell ?_ ?_ _) | (with_reducible exact Nat.le_refl _) | omega | (simp only [World.size_alloc, World.size_setCell, World.size_drew, Wov_size, World.heap_drewN, Array.size_append]; omega)))))
    have rl1 := HX.out.lt
    have d1 : ¬ A = w.heap.size + 2 := by rw [hA]; omega
    have d2 : ¬ w.heap.size + 2 = A := by rw [hA]; omega
    clear hA tO0 hAO hBO
    rintro W ⟨hbW, mZ, mR, mO⟩
    clear HZ HX hb1 hs1 rl1
    go_wp2_with (fail)
    have z0 := mZ.c0
    have z1 := mZ.c1
    have z2 := mZ.c2
    have z3 := mZ.c3
    have z4 := mZ.c4
    have z5 := mZ.c5
    have r0 := (mR.holds 0 (by omega)).1
    have r1 := (mR.holds 1 (by omega)).1
    have r2 := (mR.holds 2 (by omega)).1
    have r3 := (mR.holds 3 (by omega)).1
    have r4 := (mR.holds 4 (by omega)).1
    have r5 := (mR.holds 5 (by omega)).1
    have n0 := (mR.holds 0 (by omega)).2
    have n1 := (mR.holds 1 (by omega)).2
    have n2 := (mR.holds 2 (by omega)).2
    have n3 := (mR.holds 3 (by omega)).2
    have n4 := (mR.holds 4 (by omega)).2
    have n5 := (mR.holds 5 (by omega)).2
    have rl := mR.lt
    have a0 := mO.c0
    have a1 := mO.c1
    have al := mO.lt
    have tO := mO.sl
    have hsW := hbW.size
    clear mZ mR mO
    go_region_held3 (fun w' => w'.cell? ⟨w.heap.size, 0, none⟩ = some (.int .i64 (z 0)) ∧ w'.cell? ⟨w.heap.size, 1, none⟩ = some (.int .i64 (z 1)) ∧ w'.cell? ⟨w.heap.size, 2, none⟩ = some (.int .i64 (z 2)) ∧ w'.cell? ⟨w.heap.size, 3, none⟩ = some (.int .i64 (z 3)) ∧ w'.cell? ⟨w.heap.size, 4, none⟩ = some (.int .i64 (z 4)) ∧ w'.cell? ⟨w.heap.size, 5, none⟩ = some (.int .i64 (z 5)) ∧ (w'.cell? ⟨w.heap.size + 2, 0, none⟩).isSome = true ∧ w'.frozen? ⟨w.heap.size + 2, 0, none⟩ = false ∧ (w'.cell? ⟨w.heap.size + 2, 1, none⟩).isSome = true ∧ w'.frozen? ⟨w.heap.size + 2, 1, none⟩ = false ∧ (w'.cell? ⟨w.heap.size + 2, 2, none⟩).isSome = true ∧ w'.frozen? ⟨w.heap.size + 2, 2, none⟩ = false ∧ (w'.cell? ⟨w.heap.size + 2, 3, none⟩).isSome = true ∧ w'.frozen? ⟨w.heap.size + 2, 3, none⟩ = false ∧ (w'.cell? ⟨w.heap.size + 2, 4, none⟩).isSome = true ∧ w'.frozen? ⟨w.heap.size + 2, 4, none⟩ = false ∧ (w'.cell? ⟨w.heap.size + 2, 5, none⟩).isSome = true ∧ w'.frozen? ⟨w.heap.size + 2, 5, none⟩ = false ∧ w'.cell? ⟨A, 0, none⟩ = some (.int .i64 3) ∧ w'.cell? ⟨A, 1, none⟩ = some (.slice (some ⟨BO, 0, none⟩) 9 cO))
      ((simp [go_sem, *]))
      (first
      | (go_at_call 140; ((with_reducible refine (FZ.out _).mono ?_); rintro e w' ⟨BA, cpa, rfl, hA1, hB1, hH1, qa, rfl⟩; have t1 := slp_of hH1 hB1; clear hA1 hB1 hH1))
      | (go_at_call 153; (try simp only [drew_Wov, Wov_Wov, Array.append_assoc] at t1); refine (CM.out _ _ _ _ _ (t1.below (by (repeat' (first | (with_reducible assumption) | (with_reducible exact Below.refl _ _) | (with_reducible exact below_app _ _ _ _) | (with_reducible exact below_app2 _ _ _ _ _ _) | (with_reducible exact below_app0 _ _ _) | (with_reducible refine below_wov ?_ ?_ _) | (with_reducible refine below_drewN ?_ _) | (with_reducible refine Below.drew ?_) | (with_reducible refine Below.alloc ?_ ?_ _) | (with_reducible refine Below.setCell ?_ ?_ _) | (with_reducible exact Nat.le_refl _) | omega | (simp only [World.size_alloc, World.size_setCell, World.size_drew, Wov_size, World.heap_drewN, Array.size_append]; omega))))) (tO.below (by (repeat' (first | (with_reducible assumption) | (with_reducible exact Below.refl _ _) | (with_reducible exact below_app _ _ _ _) | (with_reducible exact below_app2 _ _ _ _ _ _) | (with_reducible exact below_app0 _ _ _) | (with_reducible refine below_wov ?_ ?_ _) | (with_reducible refine below_drewN ?_ _) | (with_reducible refine Below.drew ?_) | (with_reducible refine Below.alloc ?_ ?_ _) | (with_reducible refine Below.setCell ?_ ?_ _) | (with_reducible exact Nat.le_refl _) | omega | (simp only [World.size_alloc, World.size_setCell, World.size_drew, Wov_size, World.heap_drewN, Array.size_append]; omega)))))).mono ?_; rintro e w' ⟨⟨p3, c3, rfl, ho⟩, qc, rfl⟩; have t3 := ho.slp; clear ho t1)
      | (go_at_call 152; (try simp only [drew_Wov, Wov_Wov, Array.append_assoc] at t3); refine (TO.out _ _ _ (t3.below (by (repeat' (first | (with_reducible assumption) | (with_reducible exact Below.refl _ _) | (with_reducible exact below_app _ _ _ _) | (with_reducible exact below_app2 _ _ _ _ _ _) | (with_reducible exact below_app0 _ _ _) | (with_reducible refine below_wov ?_ ?_ _) | (with_reducible refine below_drewN ?_ _) | (with_reducible refine Below.drew ?_) | (with_reducible refine Below.alloc ?_ ?_ _) | (with_reducible refine Below.setCell ?_ ?_ _) | (with_reducible exact Nat.le_refl _) | omega | (simp only [World.size_alloc, World.size_setCell, World.size_drew, Wov_size, World.heap_drewN, Array.size_append]; omega)))))).mono ?_; rintro e w' ⟨rfl, qd, rfl⟩; clear t3))
    all_goals
      ((try dsimp only); repeat (first | go_values | go_skip | go_guarded | go_step | go_upon))
      refine bodyPost_ret (by simp [results, Try.results95, go_sem, r0, r1, r2, r3, r4, r5, rl]; try rfl) rfl ?_
      exact gives_end rfl (by (repeat' (first | (with_reducible assumption) | (with_reducible exact Below.refl _ _) | (with_reducible exact below_app _ _ _ _) | (with_reducible exact below_app2 _ _ _ _ _ _) | (with_reducible exact below_app0 _ _ _) | (with_reducible refine below_wov ?_ ?_ _) | (with_reducible refine below_drewN ?_ _) | (with_reducible refine Below.drew ?_) | (with_reducible refine Below.alloc ?_ ?_ _) | (with_reducible refine Below.setCell ?_ ?_ _) | (with_reducible exact Nat.le_refl _) | omega | (simp only [World.size_alloc, World.size_setCell, World.size_drew, Wov_size, World.heap_drewN, Array.size_append]; omega))))
end Go.Proofs.Ytnjhjgkekmjmdaa
