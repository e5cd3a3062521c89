/- Contracts of the document's With, Other and None of layer 11; With is the code's. No condition. -/
import Derived.Test.YtbgbhfcnadjhdaaK5
import Derived.Test.YtbgbhfcnadjhdaaK1
import Derived.Test.YtbgbhfcnadjhdaaH14
import Derived.Test.YtbgbhfcnadjhdaaH9
import Derived.Test.YtbgbhfcnadjhdaaJ9
import Derived.Test.YtbgbhfcnadjhdaaG6
import Derived.Deep.Cut
namespace Go.Proofs.Ytbgbhfcnadjhdaa
set_option linter.unusedSimpArgs false
set_option linter.unusedVariables false
open Go Go.RowKit Go.Shelf
attribute [local go_sem] Nat.add_assoc Nat.add_lt_add_iff_left lit_lt_add

theorem zoneM_ofJ {f : Nat → Int} (ok : okD (3 : Nat) (3 * 3) f = true) : zoneM (closeM 3 9 f) = ofZ 3 9 f := by
  unfold zoneM ofZ
  rw [if_pos (show okD 3 9 f = true from ok), if_pos rfl]
  rcases closeM_cases ok with ⟨c, hc, _⟩ | ⟨hc, _⟩
  · rw [show closeM 3 9 f = ⟨3, 9, c, 0⟩ from hc]; rfl
  · rw [show closeM 3 9 f = errM 6 from hc]; rfl
theorem less_onlyJ {z oz : Nat → Int} (hz : okZ z = true) (ho : okD (3 : Nat) (3 * 3) (zF oz) = true) {q : Nat → Nat → EB} : Under 3 q (mE 3 (lessF (zF z) (zF oz))) ↔ ZU z q ∧ ZU oz q := under_less (okZ_le hz) (okD_le ho)
theorem hb_noneJ (q : Nat → Nat → EB) : ∀ i j, ele (q i j) (eb noneB) := fun i j => by rw [eb_none]; exact ele_none _
/-- A zone with one bound alone. -/
def onlyA (t : Nat) (b : Int) : Nat → Int := upd (fun _ => noneB) t b
theorem onlyA_ok {t : Nat} {b : Int} (ht : t < 6) (hb : mayB b = true) : okD (3 : Nat) (3 * 3) (zF (onlyA t b)) = true := by
  obtain ⟨a0, a1, a2, a3, a4, a5, a6, a7, a8⟩ := zF_vals (onlyA t b)
  refine okD_of (f := topF 3) (by decide) fun i hi => ?_
  rcases nine (by omega : i < 9) with rfl | rfl | rfl | rfl | rfl | rfl | rfl | rfl | rfl
  · rw [a0]; rfl
  · rw [a1]; rcases six ht with rfl | rfl | rfl | rfl | rfl | rfl <;> first | exact hb | rfl
  · rw [a2]; rcases six ht with rfl | rfl | rfl | rfl | rfl | rfl <;> first | exact hb | rfl
  · rw [a3]; rcases six ht with rfl | rfl | rfl | rfl | rfl | rfl <;> first | exact hb | rfl
  · rw [a4]; rfl
  · rw [a5]; rcases six ht with rfl | rfl | rfl | rfl | rfl | rfl <;> first | exact hb | rfl
  · rw [a6]; rcases six ht with rfl | rfl | rfl | rfl | rfl | rfl <;> first | exact hb | rfl
  · rw [a7]; rcases six ht with rfl | rfl | rfl | rfl | rfl | rfl <;> first | exact hb | rfl
  · rw [a8]; rfl
theorem only_iff {t : Nat} {b : Int} (ht : t < 6) {q : Nat → Nat → EB} (hq : Closed 3 q) : ZU (onlyA t b) q ↔ HB q t b := by
  rw [← satQ_zone hq (b := onlyA t b)]
  simp only [satQ, and_true]
  have hn := hb_noneJ q
  rcases six ht with rfl | rfl | rfl | rfl | rfl | rfl
  · exact ⟨fun h => h.1, fun h => ⟨h, hn _ _, hn _ _, hn _ _, hn _ _, hn _ _⟩⟩
  · exact ⟨fun h => h.2.1, fun h => ⟨hn _ _, h, hn _ _, hn _ _, hn _ _, hn _ _⟩⟩
  · exact ⟨fun h => h.2.2.1, fun h => ⟨hn _ _, hn _ _, h, hn _ _, hn _ _, hn _ _⟩⟩
  · exact ⟨fun h => h.2.2.2.1, fun h => ⟨hn _ _, hn _ _, hn _ _, h, hn _ _, hn _ _⟩⟩
  · exact ⟨fun h => h.2.2.2.2.1, fun h => ⟨hn _ _, hn _ _, hn _ _, hn _ _, h, hn _ _⟩⟩
  · exact ⟨fun h => h.2.2.2.2.2, fun h => ⟨hn _ _, hn _ _, hn _ _, hn _ _, hn _ _, h⟩⟩
theorem with_doc {z : Nat → Int} {t : Nat} {b : Int} (ht : t < 6) (hz : okZ z = true) (hb : mayB b = true) : zoneM (closeM 3 9 (lessF (zF z) (zF (onlyA t b)))) = withZ z t b := by
  have ho := onlyA_ok ht hb
  have ok := okD_less (okZ_okD hz) ho
  rw [zoneM_ofJ ok]
  unfold withZ
  refine ofZ_eq ok (okD_with hz ht hb) fun q hq => ?_
  rw [less_onlyJ hz ho, under_with hz ht hb, only_iff ht hq]
theorem six_newJ {W : World} {A : Nat} {t : TypeId} {z : Nat → Int} (hA : A = W.heap.size) : HoldsA (W.alloc (.cells #[.int .i64 (z 0), .int .i64 (z 1), .int .i64 (z 2), .int .i64 (z 3), .int .i64 (z 4), .int .i64 (z 5)] t)) A 6 z := by
  subst hA
  refine ⟨by simp, fun x hx => ?_⟩
  rcases six hx with rfl | rfl | rfl | rfl | rfl | rfl <;> (constructor <;> simp [go_sem])
theorem boxZ_of {W : World} {A : Nat} {z : Nat → Int} (h : HoldsA W A 6 z) : BoxZ W A z :=
  ⟨h.lt, (h.holds 0 (by omega)).1, (h.holds 1 (by omega)).1, (h.holds 2 (by omega)).1, (h.holds 3 (by omega)).1, (h.holds 4 (by omega)).1, (h.holds 5 (by omega)).1⟩
theorem boxZ_at {W : World} {A : Nat} {z : Nat → Int} (h : BoxZ W A z) {t : Nat} (ht : t < 6) : W.cell? ⟨A, t, none⟩ = some (.int .i64 (z t)) := by
  rcases six ht with rfl | rfl | rfl | rfl | rfl | rfl
  · exact h.c0
  · exact h.c1
  · exact h.c2
  · exact h.c3
  · exact h.c4
  · exact h.c5
theorem ptr32_8 {P : Program} {c : Code} {Q : Exit → Act → World → Prop} {D : List Deferred} {W : World} {t0 t1 t2 t3 t4 t5 t6 t7 t9 t10 t11 t12 t13 t14 t15 t16 t17 t18 t19 t20 t21 t22 t23 t24 t25 t26 t27 t28 t29 t30 t31 : Value} {E : Nat} (h : ∀ A, A = E → Code.wp P c Q { tmps := #[t0, t1, t2, t3, t4, t5, t6, t7, .pointer (some ⟨A, 0, none⟩), t9, t10, t11, t12, t13, t14, t15, t16, t17, t18, t19, t20, t21, t22, t23, t24, t25, t26, t27, t28, t29, t30, t31], defers := D } W) : Code.wp P c Q { tmps := #[t0, t1, t2, t3, t4, t5, t6, t7, .pointer (some ⟨E, 0, none⟩), t9, t10, t11, t12, t13, t14, t15, t16, t17, t18, t19, t20, t21, t22, t23, t24, t25, t26, t27, t28, t29, t30, t31], defers := D } W := h E rfl
theorem OwnP.set {w W : World} {p : Option Addr} {N : Nat} {f : Nat → Int} (h : OwnP w W p N f) {C : Nat} (hC : C < w.heap.size) (x : Nat) (v : Value) : OwnP w (W.setCell ⟨C, x, none⟩ v) p N f := by
  rcases h with h | ⟨B, e, h1, h2, h3⟩
  · exact .inl h
  · exact .inr ⟨B, e, h1, by simpa using h2, h3.setOther h2 (by omega)⟩
set_option maxRecDepth 10000 in
theorem none11_any : Pure Try.prog 141 #[] (.agg #[.int .i64 9223372036854775807, .int .i64 9223372036854775807, .int .i64 9223372036854775807, .int .i64 9223372036854775807, .int .i64 9223372036854775807, .int .i64 9223372036854775807]) := by
  intro w
  go_enter Try.func141, Try.ntmps141
  go_wp2
  go_returns
  exact gives_end rfl (by (repeat' (first | (with_reducible assumption) | (with_reducible exact Below.refl _ _) | (with_reducible refine below_wov ?_ ?_ _) | (with_reducible refine below_drewN ?_ _) | (with_reducible refine Below.drew ?_) | (with_reducible refine Below.alloc ?_ ?_ _) | (with_reducible refine Below.setCell ?_ ?_ _) | (with_reducible exact Nat.le_refl _) | omega | (simp only [World.size_alloc, World.size_setCell, World.size_drew, Wov_size, World.heap_drewN]; omega))))
theorem other11_any {t : Nat} (ht : t < 6) : Pure Try.prog 113 #[.int .i64 t] (.int .i64 (othZ t)) := by
  intro w
  rcases six ht with rfl | rfl | rfl | rfl | rfl | rfl
  all_goals
    go_enter Try.func113, Try.ntmps113
    go_wp2
    go_ret
    exact gives_int (by rfl) (by (repeat' (first | (with_reducible assumption) | (with_reducible exact Below.refl _ _) | (with_reducible refine below_wov ?_ ?_ _) | (with_reducible refine below_drewN ?_ _) | (with_reducible refine Below.drew ?_) | (with_reducible refine Below.alloc ?_ ?_ _) | (with_reducible refine Below.setCell ?_ ?_ _) | (with_reducible exact Nat.le_refl _) | omega | (simp only [World.size_alloc, World.size_setCell, World.size_drew, Wov_size, World.heap_drewN]; omega))))
set_option maxRecDepth 10000 in
set_option maxHeartbeats 8000000 in
theorem withD_any (z : Nat → Int) (t : Nat) (b : Int) (w : World) (ht : t < 6) (hz : okZ z = true) (hb : mayB b = true) : Calls Try.prog 112 #[zoneV z, .int .i64 t, .int .i64 b] w (Gives w (zoneR (withZ z t b).1 (withZ z t b).2)) := by
  rw [← with_doc ht hz hb]
  have ho := onlyA_ok ht hb
  have ok := okD_less (okZ_okD hz) ho
  have NO := Lib.hid none11_any
  obtain ⟨r, hr⟩ : ∃ r, r = closeM 3 9 (lessF (zF z) (zF (onlyA t b))) := ⟨_, rfl⟩
  have h2 : (∃ g, r = ⟨3, 9, g, 0⟩) ∨ r = errM 6 := by
    rcases closeM_cases ok with ⟨c, hc, _⟩ | ⟨hc, _⟩
    · exact .inl ⟨c, hr.trans hc⟩
    · exact .inr (hr.trans hc)
  have hfit : Fits r.N r.f := by rw [hr]; exact (closeM_ok 3 9 _).f
  have FZ : Hid (∀ w, Calls Try.prog 110 #[.agg #[.int .i64 (z 0), .int .i64 (z 1), .int .i64 (z 2), .int .i64 (z 3), .int .i64 (z 4), .int .i64 (z 5)]] w (rowPost w 3 9 (zF z))) := fun w => full8_any z w
  obtain ⟨oz, hoz⟩ : ∃ o, o = onlyA t b := ⟨_, rfl⟩
  have FO : Hid (∀ w, Calls Try.prog 110 #[.agg #[.int .i64 (oz 0), .int .i64 (oz 1), .int .i64 (oz 2), .int .i64 (oz 3), .int .i64 (oz 4), .int .i64 (oz 5)]] w (rowPost w 3 9 (zF oz))) := fun w => full8_any oz w
  have CM : Hid (∀ w B B' c c', SlP w (some ⟨B, 0, none⟩) 9 (zF z) → SlP w (some ⟨B', 0, none⟩) 9 (zF oz) → Calls Try.prog 142 #[.agg #[.int .i64 3, .slice (some ⟨B, 0, none⟩) 9 c], .agg #[.int .i64 3, .slice (some ⟨B', 0, none⟩) 9 c']] w (matB w r.n r.N r.f (decide (r.e = 0)))) := fun w B B' c c' h k => common_any 3 9 _ _ c c' _ _ r w rfl (by rw [hoz]; exact ok) (by rw [hoz]; exact hr) h k
  have MY : Hid (∀ (p : Option Addr) (cap : Nat) (w : World), SlP w p r.N r.f → r.N = 9 → Calls Try.prog 62 #[.agg #[.int .i64 3, .slice p 9 cap]] w (Gives w (.bool (okD 3 9 r.f)))) := fun p cap w hS e => by
    rw [e] at hS hfit
    exact refMay_any 3 p 9 cap _ w (by decide) hS hfit (by omega)
  have SH : Hid (∀ (p : Option Addr) (cap : Nat) (w : World), SlP w p r.N r.f → r.N = 9 → Calls Try.prog 63 #[.agg #[.int .i64 3, .slice p 9 cap]] w (Gives w (zoneV (shortZ r.f)))) := fun p cap w hS e => by
    rw [e] at hS
    exact short8_any p cap _ w hS
  rw [← hr]
  have hzz : zoneM r = if r.e = 0 then (if okD 3 9 r.f = true then (shortZ r.f, 0) else (fun _ => 0, 8)) else (fun _ => 0, 6) := rfl
  rw [hzz]
  obtain ⟨ko, hko⟩ : ∃ k, k = okD 3 9 r.f := ⟨_, rfl⟩
  rw [← hko] at MY ⊢
  obtain ⟨s, hs⟩ : ∃ s, s = shortZ r.f := ⟨_, rfl⟩
  rw [← hs] at SH ⊢
  obtain ⟨f, hf⟩ : ∃ f, f = zF z := ⟨_, rfl⟩
  obtain ⟨fo, hfo⟩ : ∃ f, f = zF oz := ⟨_, rfl⟩
  rw [← hf] at FZ CM
  rw [← hfo] at FO CM
  have hN : r.e = 0 → r.N = 9 ∧ r.n = 3 := fun e => by
    rcases h2 with ⟨g, rfl⟩ | rfl
    · exact ⟨rfl, rfl⟩
    · simp [errM] at e
  clear hzz hko hs h2 hr hf hfo
  obtain ⟨n, N, g, e0⟩ := r
  dsimp only at CM MY SH hN ⊢
  obtain ⟨k, hk⟩ : ∃ k, k = decide (e0 = 0) := ⟨_, rfl⟩
  rw [← hk] at CM
  have hkt : k = true → e0 = 0 := fun h => by rw [h] at hk; exact of_decide_eq_true hk.symm
  have hkf : k = false → e0 ≠ 0 := fun h => by rw [h] at hk; exact of_decide_eq_false hk.symm
  unfold rowPost at FZ FO
  unfold zoneV at SH
  have hgo : ∀ W A, A = W.heap.size → BoxZ (World.alloc W (.cells ([Value.int .i64 9223372036854775807, .int .i64 9223372036854775807, .int .i64 9223372036854775807, .int .i64 9223372036854775807, .int .i64 9223372036854775807, .int .i64 9223372036854775807].set t (.int .i64 b)).toArray 24)) A oz := fun W A h => by
    subst h
    rw [hoz]
    rcases six ht with rfl | rfl | rfl | rfl | rfl | rfl
    all_goals exact ⟨by simp, by simp [go_sem, onlyA, upd, noneB], by simp [go_sem, onlyA, upd, noneB], by simp [go_sem, onlyA, upd, noneB], by simp [go_sem, onlyA, upd, noneB], by simp [go_sem, onlyA, upd, noneB], by simp [go_sem, onlyA, upd, noneB]⟩
  clear hoz ho ok hz hb hk hfit
  have HGO := Lib.hid hgo
  have HN := Lib.hid hN
  have HKT := Lib.hid hkt
  have HKF := Lib.hid hkf
  clear hgo hN hkt hkf
  obtain ⟨X, hX⟩ : ∃ X, Hid (X = if e0 = 0 then (if ko = true then (s, (0 : Int)) else (fun _ => 0, 8)) else (fun _ => 0, 6)) := ⟨_, rfl⟩
  rw [← hX.out]
  unfold zoneR zoneV
  have t0 : (0 : Int) ≤ (t : Int) := by omega
  have t6 : (t : Int) < 6 := by omega
  go_enter Try.func112, Try.ntmps112
  go_wp2_with (fail)
  refine calls_world (fun W => Below w.heap.size w W ∧ BoxZ W w.heap.size z ∧ HoldsA W (w.heap.size + 1) 6 (fun _ => 0)) ⟨by (repeat' (first | (with_reducible assumption) | (with_reducible exact Below.refl _ _) | (with_reducible refine below_wov ?_ ?_ _) | (with_reducible refine below_drewN ?_ _) | (with_reducible refine Below.drew ?_) | (with_reducible refine Below.alloc ?_ ?_ _) | (with_reducible refine Below.setCell ?_ ?_ _) | (with_reducible exact Nat.le_refl _) | omega | (simp only [World.size_alloc, World.size_setCell, World.size_drew, Wov_size, World.heap_drewN]; omega))), (BoxZ.new (W := w) (t := 24) rfl).below (by (repeat' (first | (with_reducible assumption) | (with_reducible exact Below.refl _ _) | (with_reducible refine below_wov ?_ ?_ _) | (with_reducible refine below_drewN ?_ _) | (with_reducible refine Below.drew ?_) | (with_reducible refine Below.alloc ?_ ?_ _) | (with_reducible refine Below.setCell ?_ ?_ _) | (with_reducible exact Nat.le_refl _) | omega | (simp only [World.size_alloc, World.size_setCell, World.size_drew, Wov_size, World.heap_drewN]; omega)))), (HoldsA.zone (W := w.alloc (.cells #[.int .i64 (z 0), .int .i64 (z 1), .int .i64 (z 2), .int .i64 (z 3), .int .i64 (z 4), .int .i64 (z 5)] 24)) (t := 24) (by simp)).below (by (repeat' (first | (with_reducible assumption) | (with_reducible exact Below.refl _ _) | (with_reducible refine below_wov ?_ ?_ _) | (with_reducible refine below_drewN ?_ _) | (with_reducible refine Below.drew ?_) | (with_reducible refine Below.alloc ?_ ?_ _) | (with_reducible refine Below.setCell ?_ ?_ _) | (with_reducible exact Nat.le_refl _) | omega | (simp only [World.size_alloc, World.size_setCell, World.size_drew, Wov_size, World.heap_drewN]; omega))))⟩ ?_
  rintro W1 ⟨hb1, mZ1, mR1⟩
  have hs1 := hb1.size
  have HZ := Lib.hid mZ1
  have HX := Lib.hid mR1
  have rl1 := mR1.lt
  clear mZ1 mR1
  refine (NO.out _).mono ?_; rintro e w' ⟨rfl, q1, rfl⟩
  go_wp2
  refine ptr32_8 ?_
  intro A hA
  refine wp_world (fun W => Below w.heap.size w W ∧ BoxZ W w.heap.size z ∧ HoldsA W (w.heap.size + 1) 6 (fun _ => 0) ∧ BoxZ W A oz) ⟨by (repeat' (first | (with_reducible assumption) | (with_reducible exact Below.refl _ _) | (with_reducible refine below_wov ?_ ?_ _) | (with_reducible refine below_drewN ?_ _) | (with_reducible refine Below.drew ?_) | (with_reducible refine Below.alloc ?_ ?_ _) | (with_reducible refine Below.setCell ?_ ?_ _) | (with_reducible exact Nat.le_refl _) | omega | (simp only [World.size_alloc, World.size_setCell, World.size_drew, Wov_size, World.heap_drewN]; omega))), HZ.out.below (by (repeat' (first | (with_reducible assumption) | (with_reducible exact Below.refl _ _) | (with_reducible refine below_wov ?_ ?_ _) | (with_reducible refine below_drewN ?_ _) | (with_reducible refine Below.drew ?_) | (with_reducible refine Below.alloc ?_ ?_ _) | (with_reducible refine Below.setCell ?_ ?_ _) | (with_reducible exact Nat.le_refl _) | omega | (simp only [World.size_alloc, World.size_setCell, World.size_drew, Wov_size, World.heap_drewN]; omega)))), HX.out.below (by (repeat' (first | (with_reducible assumption) | (with_reducible exact Below.refl _ _) | (with_reducible refine below_wov ?_ ?_ _) | (with_reducible refine below_drewN ?_ _) | (with_reducible refine Below.drew ?_) | (with_reducible refine Below.alloc ?_ ?_ _) | (with_reducible refine Below.setCell ?_ ?_ _) | (with_reducible exact Nat.le_refl _) | omega | (simp only [World.size_alloc, World.size_setCell, World.size_drew, Wov_size, World.heap_drewN]; omega)))), HGO.out _ _ (hA.trans (Wov_size _ _).symm)⟩ ?_
  have dA : w.heap.size + 1 < A := by omega
  clear hA HGO NO
  rintro W ⟨hbW, mZ, mR, mO⟩
  clear HZ HX hb1 hs1 rl1
  have z0 := mZ.c0
  have z1 := mZ.c1
  have z2 := mZ.c2
  have z3 := mZ.c3
  have z4 := mZ.c4
  have z5 := mZ.c5
  have o0 := mO.c0
  have o1 := mO.c1
  have o2 := mO.c2
  have o3 := mO.c3
  have o4 := mO.c4
  have o5 := mO.c5
  have lO := mO.lt
  have lZ := mZ.lt
  have hsW := hbW.size
  have HR := Lib.hid mR
  clear mZ mO mR
  go_cut [9, 10] from 32 (fun x y V => ∃ (A : Nat) (p : Option Addr) (c : Nat), x = .pointer (some ⟨A, 0, none⟩) ∧ y = .bool k ∧ Below w.heap.size w V ∧ HoldsA V (w.heap.size + 1) 6 (fun _ => 0) ∧ BoxM V A n p N c g)
  case first =>
    go_region_held3 (fun w' => w'.cell? ⟨w.heap.size, 0, none⟩ = some (.int .i64 (z 0)) ∧ w'.cell? ⟨w.heap.size, 1, none⟩ = some (.int .i64 (z 1)) ∧ w'.cell? ⟨w.heap.size, 2, none⟩ = some (.int .i64 (z 2)) ∧ w'.cell? ⟨w.heap.size, 3, none⟩ = some (.int .i64 (z 3)) ∧ w'.cell? ⟨w.heap.size, 4, none⟩ = some (.int .i64 (z 4)) ∧ w'.cell? ⟨w.heap.size, 5, none⟩ = some (.int .i64 (z 5)) ∧ w'.cell? ⟨A, 0, none⟩ = some (.int .i64 (oz 0)) ∧ w'.cell? ⟨A, 1, none⟩ = some (.int .i64 (oz 1)) ∧ w'.cell? ⟨A, 2, none⟩ = some (.int .i64 (oz 2)) ∧ w'.cell? ⟨A, 3, none⟩ = some (.int .i64 (oz 3)) ∧ w'.cell? ⟨A, 4, none⟩ = some (.int .i64 (oz 4)) ∧ w'.cell? ⟨A, 5, none⟩ = some (.int .i64 (oz 5)))
      ((simp [go_sem, *]))
      (first
      | (go_at_call 110; ((with_reducible refine (FZ.out _).mono ?_); rintro e w' ⟨BA, cpa, rfl, hA1, hB1, hH1, qa, rfl⟩; have s1 := slp_of hH1 hB1; clear hA1 hB1 hH1))
      | (go_at_call 110; ((with_reducible refine (FO.out _).mono ?_); rintro e w' ⟨BB, cpb, rfl, hA1, hB1, hH1, qb, rfl⟩; have s2 := slp_of hH1 hB1; clear hA1 hB1 hH1))
      | (go_at_call 142; (try simp only [drew_Wov, Wov_Wov, Array.append_assoc] at s1 s2); refine (CM.out _ _ _ _ _ (s1.below (by (repeat' (first | (with_reducible assumption) | (with_reducible exact Below.refl _ _) | (with_reducible exact below_app _ _ _ _) | (with_reducible exact below_app2 _ _ _ _ _ _) | (with_reducible exact below_app0 _ _ _) | (with_reducible refine below_wov ?_ ?_ _) | (with_reducible refine below_drewN ?_ _) | (with_reducible refine Below.drew ?_) | (with_reducible refine Below.alloc ?_ ?_ _) | (with_reducible refine Below.setCell ?_ ?_ _) | (with_reducible exact Nat.le_refl _) | omega | (simp only [World.size_alloc, World.size_setCell, World.size_drew, Wov_size, World.heap_drewN, Array.size_append]; omega))))) (s2.below (by (repeat' (first | (with_reducible assumption) | (with_reducible exact Below.refl _ _) | (with_reducible exact below_app _ _ _ _) | (with_reducible exact below_app2 _ _ _ _ _ _) | (with_reducible exact below_app0 _ _ _) | (with_reducible refine below_wov ?_ ?_ _) | (with_reducible refine below_drewN ?_ _) | (with_reducible refine Below.drew ?_) | (with_reducible refine Below.alloc ?_ ?_ _) | (with_reducible refine Below.setCell ?_ ?_ _) | (with_reducible exact Nat.le_refl _) | omega | (simp only [World.size_alloc, World.size_setCell, World.size_drew, Wov_size, World.heap_drewN, Array.size_append]; omega)))))).mono ?_; rintro e w' ⟨⟨p3, c3, rfl, ho⟩, qc, rfl⟩; have HO := Lib.hid ho; clear ho s1 s2))
    all_goals
      go_wp2_with (fail)
      go_meet
      case rel =>
        refine ⟨_, p3, c3, rfl, rfl, by (repeat' (first | (with_reducible assumption) | (with_reducible exact Below.refl _ _) | (with_reducible exact below_app _ _ _ _) | (with_reducible exact below_app2 _ _ _ _ _ _) | (with_reducible exact below_app0 _ _ _) | (with_reducible refine below_wov ?_ ?_ _) | (with_reducible refine below_drewN ?_ _) | (with_reducible refine Below.drew ?_) | (with_reducible refine Below.alloc ?_ ?_ _) | (with_reducible refine Below.setCell ?_ ?_ _) | (with_reducible exact Nat.le_refl _) | omega | (simp only [World.size_alloc, World.size_setCell, World.size_drew, Wov_size, World.heap_drewN, Array.size_append]; omega))), HR.out.below (by (repeat' (first | (with_reducible assumption) | (with_reducible exact Below.refl _ _) | (with_reducible exact below_app _ _ _ _) | (with_reducible exact below_app2 _ _ _ _ _ _) | (with_reducible exact below_app0 _ _ _) | (with_reducible refine below_wov ?_ ?_ _) | (with_reducible refine below_drewN ?_ _) | (with_reducible refine Below.drew ?_) | (with_reducible refine Below.alloc ?_ ?_ _) | (with_reducible refine Below.setCell ?_ ?_ _) | (with_reducible exact Nat.le_refl _) | omega | (simp only [World.size_alloc, World.size_setCell, World.size_drew, Wov_size, World.heap_drewN, Array.size_append]; omega)))), ⟨by (first | omega | ((simp only [World.size_alloc, World.size_setCell, World.size_drew, Wov_size, World.heap_drewN, Array.size_append]) <;> omega)), by simp [go_sem], by simp [go_sem], ?_⟩⟩
        have ho := HO.out
        (try simp only [drew_Wov, Wov_Wov, Array.append_assoc] at ho)
        clear HO
        first
        | (refine ho.slp.below ?_; (repeat' (first | (with_reducible assumption) | (with_reducible exact Below.refl _ _) | (with_reducible exact below_app _ _ _ _) | (with_reducible exact below_app2 _ _ _ _ _ _) | (with_reducible exact below_app0 _ _ _) | (with_reducible refine below_wov ?_ ?_ _) | (with_reducible refine below_drewN ?_ _) | (with_reducible refine Below.drew ?_) | (with_reducible refine Below.alloc ?_ ?_ _) | (with_reducible refine Below.setCell ?_ ?_ _) | (with_reducible exact Nat.le_refl _) | omega | (simp only [World.size_alloc, World.size_setCell, World.size_drew, Wov_size, World.heap_drewN, Array.size_append]; omega))); done)
        | ((with_reducible refine OwnP.slp (OwnP.set (OwnP.set ho ?_ _ _) ?_ _ _)) <;> (first | omega | ((simp only [World.size_alloc, World.size_setCell, World.size_drew, Wov_size, World.heap_drewN, Array.size_append]) <;> omega)))
  case rest =>
    obtain ⟨A2, p, c, rfl, rfl, hbV, mR, mB⟩ := hcut
    clear z0 z1 z2 z3 z4 z5 o0 o1 o2 o3 o4 o5 HR hbW hsW lO lZ FZ FO CM dA
    have hsV := hbV.size
    have m0 := mB.c0
    have m1 := mB.c1
    have ml := mB.lt
    have lR := mR.lt
    have d1 : ¬ A2 = w.heap.size + 1 ∨ A2 = w.heap.size + 1 := by omega
    cases k
    · have hX2 : X = (fun _ => 0, 6) := by rw [hX.out, if_neg (HKF.out rfl)]
      have r0 := (mR.holds 0 (by omega)).1
      have r1 := (mR.holds 1 (by omega)).1
      have r2 := (mR.holds 2 (by omega)).1
      have r3 := (mR.holds 3 (by omega)).1
      have r4 := (mR.holds 4 (by omega)).1
      have r5 := (mR.holds 5 (by omega)).1
      have n0 := (mR.holds 0 (by omega)).2
      have n1 := (mR.holds 1 (by omega)).2
      have n2 := (mR.holds 2 (by omega)).2
      have n3 := (mR.holds 3 (by omega)).2
      have n4 := (mR.holds 4 (by omega)).2
      have n5 := (mR.holds 5 (by omega)).2
      have lR := mR.lt
      clear mR mB MY SH
      ((try dsimp only); repeat (first | go_values | go_skip | go_guarded | go_step | go_upon))
      refine bodyPost_ret (by simp [results, Try.results112, go_sem, r0, r1, r2, r3, r4, r5, lR]; try rfl) rfl ?_
      exact gives_end (by rw [hX2]) (by (repeat' (first | (with_reducible assumption) | (with_reducible exact Below.refl _ _) | (with_reducible refine below_wov ?_ ?_ _) | (with_reducible refine below_drewN ?_ _) | (with_reducible refine Below.drew ?_) | (with_reducible refine Below.alloc ?_ ?_ _) | (with_reducible refine Below.setCell ?_ ?_ _) | (with_reducible exact Nat.le_refl _) | omega | (simp only [World.size_alloc, World.size_setCell, World.size_drew, Wov_size, World.heap_drewN]; omega))))
    · have he0 := HKT.out rfl
      obtain ⟨hN9, hn3⟩ := HN.out he0
      subst hN9 hn3
      go_wp2_with (fail)
      refine (MY.out _ _ _ mB.sl (by simp)).mono ?_; rintro e w' ⟨rfl, q5, rfl⟩
      cases ko
      · have hX2 : X = (fun _ => 0, 8) := by rw [hX.out, if_pos he0]; (try rfl)
        have r0 := (mR.holds 0 (by omega)).1
        have r1 := (mR.holds 1 (by omega)).1
        have r2 := (mR.holds 2 (by omega)).1
        have r3 := (mR.holds 3 (by omega)).1
        have r4 := (mR.holds 4 (by omega)).1
        have r5 := (mR.holds 5 (by omega)).1
        have n0 := (mR.holds 0 (by omega)).2
        have n1 := (mR.holds 1 (by omega)).2
        have n2 := (mR.holds 2 (by omega)).2
        have n3 := (mR.holds 3 (by omega)).2
        have n4 := (mR.holds 4 (by omega)).2
        have n5 := (mR.holds 5 (by omega)).2
        have lR := mR.lt
        clear mR mB MY SH
        ((try dsimp only); repeat (first | go_values | go_skip | go_guarded | go_step | go_upon))
        refine bodyPost_ret (by simp [results, Try.results112, go_sem, r0, r1, r2, r3, r4, r5, lR]; try rfl) rfl ?_
        exact gives_end (by rw [hX2]) (by (repeat' (first | (with_reducible assumption) | (with_reducible exact Below.refl _ _) | (with_reducible refine below_wov ?_ ?_ _) | (with_reducible refine below_drewN ?_ _) | (with_reducible refine Below.drew ?_) | (with_reducible refine Below.alloc ?_ ?_ _) | (with_reducible refine Below.setCell ?_ ?_ _) | (with_reducible exact Nat.le_refl _) | omega | (simp only [World.size_alloc, World.size_setCell, World.size_drew, Wov_size, World.heap_drewN]; omega))))
      · have hX2 : X = (s, 0) := by rw [hX.out, if_pos he0]; (try rfl)
        go_wp2_with (fail)
        refine (SH.out _ _ _ (mB.sl.below (by (repeat' (first | (with_reducible assumption) | (with_reducible exact Below.refl _ _) | (with_reducible refine below_wov ?_ ?_ _) | (with_reducible refine below_drewN ?_ _) | (with_reducible refine Below.drew ?_) | (with_reducible refine Below.alloc ?_ ?_ _) | (with_reducible refine Below.setCell ?_ ?_ _) | (with_reducible exact Nat.le_refl _) | omega | (simp only [World.size_alloc, World.size_setCell, World.size_drew, Wov_size, World.heap_drewN]; omega))))) (by simp)).mono ?_; rintro e w' ⟨rfl, q6, rfl⟩
        have r0 := (mR.holds 0 (by omega)).1
        have r1 := (mR.holds 1 (by omega)).1
        have r2 := (mR.holds 2 (by omega)).1
        have r3 := (mR.holds 3 (by omega)).1
        have r4 := (mR.holds 4 (by omega)).1
        have r5 := (mR.holds 5 (by omega)).1
        have n0 := (mR.holds 0 (by omega)).2
        have n1 := (mR.holds 1 (by omega)).2
        have n2 := (mR.holds 2 (by omega)).2
        have n3 := (mR.holds 3 (by omega)).2
        have n4 := (mR.holds 4 (by omega)).2
        have n5 := (mR.holds 5 (by omega)).2
        have lR := mR.lt
        clear mR mB MY SH
        ((try dsimp only); repeat (first | go_values | go_skip | go_guarded | go_step | go_upon))
        refine bodyPost_ret (by simp [results, Try.results112, go_sem, r0, r1, r2, r3, r4, r5, lR]; try rfl) rfl ?_
        exact gives_end (by rw [hX2]) (by (repeat' (first | (with_reducible assumption) | (with_reducible exact Below.refl _ _) | (with_reducible refine below_wov ?_ ?_ _) | (with_reducible refine below_drewN ?_ _) | (with_reducible refine Below.drew ?_) | (with_reducible refine Below.alloc ?_ ?_ _) | (with_reducible refine Below.setCell ?_ ?_ _) | (with_reducible exact Nat.le_refl _) | omega | (simp only [World.size_alloc, World.size_setCell, World.size_drew, Wov_size, World.heap_drewN]; omega))))
#print axioms withD_any
end Go.Proofs.Ytbgbhfcnadjhdaa
