/- Zones: contract of zone.Make. No condition. -/
import Derived.Test.YtpmpapenjcemjaaGreatDoorH41
namespace Go.Proofs.YtpmpapenjcemjaaGreatDoor
set_option linter.unusedSimpArgs false
set_option linter.unusedVariables false
open Go Go.RowKit Go.Shelf
attribute [local go_sem] Nat.add_assoc Nat.add_lt_add_iff_left lit_lt_add

set_option maxRecDepth 10000 in
set_option maxHeartbeats 40000000 in
theorem zmake_any (tlo : Int) (tls : Bool) (thi : Int) (ths top : Bool) (ulo : Int) (uls : Bool) (uhi : Int) (uhs uop : Bool) (dlo : Int) (dls : Bool) (dhi : Int) (dhs dop : Bool) (w : World)
    (wt1 : fits64 tlo) (wt2 : fits64 thi) (wu1 : fits64 ulo) (wu2 : fits64 uhi) (wd1 : fits64 dlo) (wd2 : fits64 dhi) :
    Calls Tryz.prog 79 #[spanV tlo tls thi ths top, spanV ulo uls uhi uhs uop, spanV dlo dls dhi dhs dop] w (Gives w (zoneR (makeZ (betwS tlo tls thi ths top) (betwS ulo uls uhi uhs uop) (betwS dlo dls dhi dhs dop)).1 (makeZ (betwS tlo tls thi ths top) (betwS ulo uls uhi uhs uop) (betwS dlo dls dhi dhs dop)).2)) := by
  have TP3 : Hid (∀ w, Calls Tryz.prog 89 #[.int .i64 3] w (topPost w 3)) := fun w => top_ok 3 w (by omega) (by omega)
  have TP2 : Hid (∀ w, Calls Tryz.prog 89 #[.int .i64 2] w (topPost w 2)) := fun w => top_ok 2 w (by omega) (by omega)
  have F2 : Fits 4 (topF 2) := fun x hx => mayB_fits (topF_may 2 x)
  have Bt0 : Hid (∀ W B c, SlP W (some ⟨B, 0, none⟩) 4 (topF 2) → Calls Tryz.prog 123 #[.agg #[.int .i64 2, .slice (some ⟨B, 0, none⟩) 4 c], .int .i64 1, .agg #[.int .i64 tlo, .bool tls, .int .i64 thi, .bool ths, .bool top]] W (matC W (betwS tlo tls thi ths top).n (betwS tlo tls thi ths top).N (betwS tlo tls thi ths top).f (betwS tlo tls thi ths top).e)) := fun W B c h => between_any 2 _ 4 c _ 1 tlo tls thi ths top W (by decide) h F2 (by omega) wt1 wt2
  have hct := betwS_cases tlo tls thi ths top
  obtain ⟨⟨xt, Zt, gt, et⟩, ht⟩ : ∃ r, r = betwS tlo tls thi ths top := ⟨_, rfl⟩
  rw [← ht] at Bt0 hct ⊢
  have Bt : Hid (∀ W B c, SlP W (some ⟨B, 0, none⟩) 4 (topF 2) → Calls Tryz.prog 123 #[.agg #[.int .i64 2, .slice (some ⟨B, 0, none⟩) 4 c], .int .i64 1, .agg #[.int .i64 tlo, .bool tls, .int .i64 thi, .bool ths, .bool top]] W (matC W xt Zt gt et)) := Bt0
  have HCt := Lib.hid hct
  clear Bt0 ht hct
  have Bu0 : Hid (∀ W B c, SlP W (some ⟨B, 0, none⟩) 4 (topF 2) → Calls Tryz.prog 123 #[.agg #[.int .i64 2, .slice (some ⟨B, 0, none⟩) 4 c], .int .i64 1, .agg #[.int .i64 ulo, .bool uls, .int .i64 uhi, .bool uhs, .bool uop]] W (matC W (betwS ulo uls uhi uhs uop).n (betwS ulo uls uhi uhs uop).N (betwS ulo uls uhi uhs uop).f (betwS ulo uls uhi uhs uop).e)) := fun W B c h => between_any 2 _ 4 c _ 1 ulo uls uhi uhs uop W (by decide) h F2 (by omega) wu1 wu2
  have hcu := betwS_cases ulo uls uhi uhs uop
  obtain ⟨⟨xu, Zu, gu, eu⟩, hu⟩ : ∃ r, r = betwS ulo uls uhi uhs uop := ⟨_, rfl⟩
  rw [← hu] at Bu0 hcu ⊢
  have Bu : Hid (∀ W B c, SlP W (some ⟨B, 0, none⟩) 4 (topF 2) → Calls Tryz.prog 123 #[.agg #[.int .i64 2, .slice (some ⟨B, 0, none⟩) 4 c], .int .i64 1, .agg #[.int .i64 ulo, .bool uls, .int .i64 uhi, .bool uhs, .bool uop]] W (matC W xu Zu gu eu)) := Bu0
  have HCu := Lib.hid hcu
  clear Bu0 hu hcu
  have Bd0 : Hid (∀ W B c, SlP W (some ⟨B, 0, none⟩) 4 (topF 2) → Calls Tryz.prog 123 #[.agg #[.int .i64 2, .slice (some ⟨B, 0, none⟩) 4 c], .int .i64 1, .agg #[.int .i64 dlo, .bool dls, .int .i64 dhi, .bool dhs, .bool dop]] W (matC W (betwS dlo dls dhi dhs dop).n (betwS dlo dls dhi dhs dop).N (betwS dlo dls dhi dhs dop).f (betwS dlo dls dhi dhs dop).e)) := fun W B c h => between_any 2 _ 4 c _ 1 dlo dls dhi dhs dop W (by decide) h F2 (by omega) wd1 wd2
  have hcd := betwS_cases dlo dls dhi dhs dop
  obtain ⟨⟨xd, Zd, gd, ed⟩, hd⟩ : ∃ r, r = betwS dlo dls dhi dhs dop := ⟨_, rfl⟩
  rw [← hd] at Bd0 hcd ⊢
  have Bd : Hid (∀ W B c, SlP W (some ⟨B, 0, none⟩) 4 (topF 2) → Calls Tryz.prog 123 #[.agg #[.int .i64 2, .slice (some ⟨B, 0, none⟩) 4 c], .int .i64 1, .agg #[.int .i64 dlo, .bool dls, .int .i64 dhi, .bool dhs, .bool dop]] W (matC W xd Zd gd ed)) := Bd0
  have HCd := Lib.hid hcd
  clear Bd0 hd hcd
  have CE : Hid (∀ W B v, SlP W (some ⟨B, 0, none⟩) 3 (eee ed eu et) → Calls Tryz.prog 124 #[.slice (some ⟨B, 0, none⟩) 3 3, .int .i64 v] W (Gives W (.bool (hasE 3 (eee ed eu et) v)))) := fun W B v h => containsE_any _ 3 3 _ v W h (by omega)
  have OF : Hid (∀ W B c, SlP W (some ⟨B, 0, none⟩) 9 (zF (spansZ gt gu gd)) → Fits 9 (zF (spansZ gt gu gd)) → Calls Tryz.prog 125 #[.agg #[.int .i64 3, .slice (some ⟨B, 0, none⟩) 9 c]] W (Gives W (zoneR (ofZ 3 9 (zF (spansZ gt gu gd))).1 (ofZ 3 9 (zF (spansZ gt gu gd))).2))) := fun W B c h hf => zof_any 3 _ 9 c _ W (by decide) h hf (by omega)
  obtain ⟨RZ, hRZ⟩ : ∃ r, Hid (r = makeZ ⟨xt, Zt, gt, et⟩ ⟨xu, Zu, gu, eu⟩ ⟨xd, Zd, gd, ed⟩) := ⟨_, rfl⟩
  rw [← hRZ.out]
  unfold zoneR zoneV
  clear F2 wt1 wt2 wu1 wu2 wd1 wd2
  unfold spanV
  go_enter Tryz.func79, Tryz.ntmps79
  go_wp2_with (fail)
  refine calls_world (fun W => Below w.heap.size w W ∧ BoxS W w.heap.size tlo tls thi ths top ∧ BoxS W (w.heap.size + 1) ulo uls uhi uhs uop ∧ BoxS W (w.heap.size + 2) dlo dls dhi dhs dop ∧ HoldsA W (w.heap.size + 3) 6 (fun _ => 0)) ⟨by (repeat' (first | (with_reducible assumption) | (with_reducible exact Below.refl _ _) | (with_reducible refine below_wov ?_ ?_ _) | (with_reducible refine below_drewN ?_ _) | (with_reducible refine Below.drew ?_) | (with_reducible refine Below.alloc ?_ ?_ _) | (with_reducible refine Below.setCell ?_ ?_ _) | (with_reducible exact Nat.le_refl _) | omega | (simp only [World.size_alloc, World.size_setCell, World.size_drew, Wov_size, World.heap_drewN]; omega))), (BoxS.new (W := w) (t := 147) (by simp)).below (by (repeat' (first | (with_reducible assumption) | (with_reducible exact Below.refl _ _) | (with_reducible refine below_wov ?_ ?_ _) | (with_reducible refine below_drewN ?_ _) | (with_reducible refine Below.drew ?_) | (with_reducible refine Below.alloc ?_ ?_ _) | (with_reducible refine Below.setCell ?_ ?_ _) | (with_reducible exact Nat.le_refl _) | omega | (simp only [World.size_alloc, World.size_setCell, World.size_drew, Wov_size, World.heap_drewN]; omega)))), (BoxS.new (W := (World.alloc w (.cells #[.int .i64 tlo, .bool tls, .int .i64 thi, .bool ths, .bool top] 147))) (t := 147) (by simp)).below (by (repeat' (first | (with_reducible assumption) | (with_reducible exact Below.refl _ _) | (with_reducible refine below_wov ?_ ?_ _) | (with_reducible refine below_drewN ?_ _) | (with_reducible refine Below.drew ?_) | (with_reducible refine Below.alloc ?_ ?_ _) | (with_reducible refine Below.setCell ?_ ?_ _) | (with_reducible exact Nat.le_refl _) | omega | (simp only [World.size_alloc, World.size_setCell, World.size_drew, Wov_size, World.heap_drewN]; omega)))), (BoxS.new (W := (World.alloc (World.alloc w (.cells #[.int .i64 tlo, .bool tls, .int .i64 thi, .bool ths, .bool top] 147)) (.cells #[.int .i64 ulo, .bool uls, .int .i64 uhi, .bool uhs, .bool uop] 147))) (t := 147) (by simp)).below (by (repeat' (first | (with_reducible assumption) | (with_reducible exact Below.refl _ _) | (with_reducible refine below_wov ?_ ?_ _) | (with_reducible refine below_drewN ?_ _) | (with_reducible refine Below.drew ?_) | (with_reducible refine Below.alloc ?_ ?_ _) | (with_reducible refine Below.setCell ?_ ?_ _) | (with_reducible exact Nat.le_refl _) | omega | (simp only [World.size_alloc, World.size_setCell, World.size_drew, Wov_size, World.heap_drewN]; omega)))), (HoldsA.zone (W := (World.alloc (World.alloc (World.alloc w (.cells #[.int .i64 tlo, .bool tls, .int .i64 thi, .bool ths, .bool top] 147)) (.cells #[.int .i64 ulo, .bool uls, .int .i64 uhi, .bool uhs, .bool uop] 147)) (.cells #[.int .i64 dlo, .bool dls, .int .i64 dhi, .bool dhs, .bool dop] 147))) (t := 49) (by simp))⟩ ?_
  rintro W1 ⟨hb1, m1_0, m1_1, m1_2, m1_3⟩
  have hs1 := hb1.size
  have f1_0_lt := m1_0.lt
  have f1_0_c0 := m1_0.c0
  have f1_0_c1 := m1_0.c1
  have f1_0_c2 := m1_0.c2
  have f1_0_c3 := m1_0.c3
  have f1_0_c4 := m1_0.c4
  have f1_1_lt := m1_1.lt
  have f1_1_c0 := m1_1.c0
  have f1_1_c1 := m1_1.c1
  have f1_1_c2 := m1_1.c2
  have f1_1_c3 := m1_1.c3
  have f1_1_c4 := m1_1.c4
  have f1_2_lt := m1_2.lt
  have f1_2_c0 := m1_2.c0
  have f1_2_c1 := m1_2.c1
  have f1_2_c2 := m1_2.c2
  have f1_2_c3 := m1_2.c3
  have f1_2_c4 := m1_2.c4
  refine (TP3.out _).mono ?_; rintro e w' ⟨B, cp, rfl, hA1, hB1, hH1, q1, rfl⟩
  have hwB : w.heap.size + 3 < B := by have := m1_3.lt; omega
  have hH1' := Lib.hid hH1
  have t1 : SlP (Wov W1 q1) (some ⟨B, 0, none⟩) 9 (topF 3) := slp_of hH1 hB1
  clear hH1
  go_wp2_with (fail)
  obtain ⟨A1, hA1⟩ : ∃ A, W1.heap.size + q1.bl.size = A := ⟨_, rfl⟩
  rw [hA1]
  refine calls_world (fun W => Below w.heap.size w W ∧ BoxS W w.heap.size tlo tls thi ths top ∧ BoxS W (w.heap.size + 1) ulo uls uhi uhs uop ∧ BoxS W (w.heap.size + 2) dlo dls dhi dhs dop ∧ HoldsA W (w.heap.size + 3) 6 (fun _ => 0) ∧ BoxM W A1 3 (some ⟨B, 0, none⟩) 9 cp (topF 3) ∧ HoldsA W B 9 (topF 3)) ⟨by (repeat' (first | (with_reducible assumption) | (with_reducible exact Below.refl _ _) | (with_reducible refine below_wov ?_ ?_ _) | (with_reducible refine below_drewN ?_ _) | (with_reducible refine Below.drew ?_) | (with_reducible refine Below.alloc ?_ ?_ _) | (with_reducible refine Below.setCell ?_ ?_ _) | (with_reducible exact Nat.le_refl _) | omega | (simp only [World.size_alloc, World.size_setCell, World.size_drew, Wov_size, World.heap_drewN]; omega))), m1_0.below (by (repeat' (first | (with_reducible assumption) | (with_reducible exact Below.refl _ _) | (with_reducible refine below_wov ?_ ?_ _) | (with_reducible refine below_drewN ?_ _) | (with_reducible refine Below.drew ?_) | (with_reducible refine Below.alloc ?_ ?_ _) | (with_reducible refine Below.setCell ?_ ?_ _) | (with_reducible exact Nat.le_refl _) | omega | (simp only [World.size_alloc, World.size_setCell, World.size_drew, Wov_size, World.heap_drewN]; omega)))), m1_1.below (by (repeat' (first | (with_reducible assumption) | (with_reducible exact Below.refl _ _) | (with_reducible refine below_wov ?_ ?_ _) | (with_reducible refine below_drewN ?_ _) | (with_reducible refine Below.drew ?_) | (with_reducible refine Below.alloc ?_ ?_ _) | (with_reducible refine Below.setCell ?_ ?_ _) | (with_reducible exact Nat.le_refl _) | omega | (simp only [World.size_alloc, World.size_setCell, World.size_drew, Wov_size, World.heap_drewN]; omega)))), m1_2.below (by (repeat' (first | (with_reducible assumption) | (with_reducible exact Below.refl _ _) | (with_reducible refine below_wov ?_ ?_ _) | (with_reducible refine below_drewN ?_ _) | (with_reducible refine Below.drew ?_) | (with_reducible refine Below.alloc ?_ ?_ _) | (with_reducible refine Below.setCell ?_ ?_ _) | (with_reducible exact Nat.le_refl _) | omega | (simp only [World.size_alloc, World.size_setCell, World.size_drew, Wov_size, World.heap_drewN]; omega)))), m1_3.below (by (repeat' (first | (with_reducible assumption) | (with_reducible exact Below.refl _ _) | (with_reducible refine below_wov ?_ ?_ _) | (with_reducible refine below_drewN ?_ _) | (with_reducible refine Below.drew ?_) | (with_reducible refine Below.alloc ?_ ?_ _) | (with_reducible refine Below.setCell ?_ ?_ _) | (with_reducible exact Nat.le_refl _) | omega | (simp only [World.size_alloc, World.size_setCell, World.size_drew, Wov_size, World.heap_drewN]; omega)))), BoxM.new (t1) (by rw [← hA1]; (try simp only [Wov_size])), (HoldsA.mk hB1 hH1'.out).below (by (repeat' (first | (with_reducible assumption) | (with_reducible exact Below.refl _ _) | (with_reducible refine below_wov ?_ ?_ _) | (with_reducible refine below_drewN ?_ _) | (with_reducible refine Below.drew ?_) | (with_reducible refine Below.alloc ?_ ?_ _) | (with_reducible refine Below.setCell ?_ ?_ _) | (with_reducible exact Nat.le_refl _) | omega | (simp only [World.size_alloc, World.size_setCell, World.size_drew, Wov_size, World.heap_drewN]; omega))))⟩ ?_
  rintro W2 ⟨hb2, m2_0, m2_1, m2_2, m2_3, m2_4, m2_5⟩
  clear hb1 f1_0_lt f1_0_c0 f1_0_c1 f1_0_c2 f1_0_c3 f1_0_c4 f1_1_lt f1_1_c0 f1_1_c1 f1_1_c2 f1_1_c3 f1_1_c4 f1_2_lt f1_2_c0 f1_2_c1 f1_2_c2 f1_2_c3 f1_2_c4 m1_0 m1_1 m1_2 m1_3 hs1
  have hs2 := hb2.size
  have f2_0_lt := m2_0.lt
  have f2_0_c0 := m2_0.c0
  have f2_0_c1 := m2_0.c1
  have f2_0_c2 := m2_0.c2
  have f2_0_c3 := m2_0.c3
  have f2_0_c4 := m2_0.c4
  have f2_1_lt := m2_1.lt
  have f2_1_c0 := m2_1.c0
  have f2_1_c1 := m2_1.c1
  have f2_1_c2 := m2_1.c2
  have f2_1_c3 := m2_1.c3
  have f2_1_c4 := m2_1.c4
  have f2_2_lt := m2_2.lt
  have f2_2_c0 := m2_2.c0
  have f2_2_c1 := m2_2.c1
  have f2_2_c2 := m2_2.c2
  have f2_2_c3 := m2_2.c3
  have f2_2_c4 := m2_2.c4
  have f2_4_lt := m2_4.lt
  have f2_4_c0 := m2_4.c0
  have f2_4_c1 := m2_4.c1
  have hBA1 : B < A1 := by rw [Wov_size] at hB1; omega
  clear t1 hA1 hB1 hH1'
  refine (TP2.out _).mono ?_; rintro e w' ⟨BS, cs, rfl, hA2, hB2, hH2, q2, rfl⟩
  have N6 : BS ≠ B := by have := m2_5.lt; omega
  have t2 : SlP (Wov W2 q2) (some ⟨BS, 0, none⟩) 4 (topF 2) := slp_of hH2 hB2
  clear hH2 hA2 hB2 TP3 TP2
  go_wp2_with (fail)
  obtain ⟨A2, hA2⟩ : ∃ A, W2.heap.size + q2.bl.size = A := ⟨_, rfl⟩
  rw [hA2]
  have hBA2 : B < A2 := by have := m2_5.lt; omega
  refine calls_world (fun W => Below w.heap.size w W ∧ BoxS W w.heap.size tlo tls thi ths top ∧ BoxS W (w.heap.size + 1) ulo uls uhi uhs uop ∧ BoxS W (w.heap.size + 2) dlo dls dhi dhs dop ∧ HoldsA W (w.heap.size + 3) 6 (fun _ => 0) ∧ BoxM W A1 3 (some ⟨B, 0, none⟩) 9 cp (topF 3) ∧ HoldsA W B 9 (topF 3) ∧ BoxM W A2 2 (some ⟨BS, 0, none⟩) 4 cs (topF 2)) ⟨by (repeat' (first | (with_reducible assumption) | (with_reducible exact Below.refl _ _) | (with_reducible refine below_wov ?_ ?_ _) | (with_reducible refine below_drewN ?_ _) | (with_reducible refine Below.drew ?_) | (with_reducible refine Below.alloc ?_ ?_ _) | (with_reducible refine Below.setCell ?_ ?_ _) | (with_reducible exact Nat.le_refl _) | omega | (simp only [World.size_alloc, World.size_setCell, World.size_drew, Wov_size, World.heap_drewN]; omega))), m2_0.below (by (repeat' (first | (with_reducible assumption) | (with_reducible exact Below.refl _ _) | (with_reducible refine below_wov ?_ ?_ _) | (with_reducible refine below_drewN ?_ _) | (with_reducible refine Below.drew ?_) | (with_reducible refine Below.alloc ?_ ?_ _) | (with_reducible refine Below.setCell ?_ ?_ _) | (with_reducible exact Nat.le_refl _) | omega | (simp only [World.size_alloc, World.size_setCell, World.size_drew, Wov_size, World.heap_drewN]; omega)))), m2_1.below (by (repeat' (first | (with_reducible assumption) | (with_reducible exact Below.refl _ _) | (with_reducible refine below_wov ?_ ?_ _) | (with_reducible refine below_drewN ?_ _) | (with_reducible refine Below.drew ?_) | (with_reducible refine Below.alloc ?_ ?_ _) | (with_reducible refine Below.setCell ?_ ?_ _) | (with_reducible exact Nat.le_refl _) | omega | (simp only [World.size_alloc, World.size_setCell, World.size_drew, Wov_size, World.heap_drewN]; omega)))), m2_2.below (by (repeat' (first | (with_reducible assumption) | (with_reducible exact Below.refl _ _) | (with_reducible refine below_wov ?_ ?_ _) | (with_reducible refine below_drewN ?_ _) | (with_reducible refine Below.drew ?_) | (with_reducible refine Below.alloc ?_ ?_ _) | (with_reducible refine Below.setCell ?_ ?_ _) | (with_reducible exact Nat.le_refl _) | omega | (simp only [World.size_alloc, World.size_setCell, World.size_drew, Wov_size, World.heap_drewN]; omega)))), m2_3.below (by (repeat' (first | (with_reducible assumption) | (with_reducible exact Below.refl _ _) | (with_reducible refine below_wov ?_ ?_ _) | (with_reducible refine below_drewN ?_ _) | (with_reducible refine Below.drew ?_) | (with_reducible refine Below.alloc ?_ ?_ _) | (with_reducible refine Below.setCell ?_ ?_ _) | (with_reducible exact Nat.le_refl _) | omega | (simp only [World.size_alloc, World.size_setCell, World.size_drew, Wov_size, World.heap_drewN]; omega)))), m2_4.below (by (repeat' (first | (with_reducible assumption) | (with_reducible exact Below.refl _ _) | (with_reducible refine below_wov ?_ ?_ _) | (with_reducible refine below_drewN ?_ _) | (with_reducible refine Below.drew ?_) | (with_reducible refine Below.alloc ?_ ?_ _) | (with_reducible refine Below.setCell ?_ ?_ _) | (with_reducible exact Nat.le_refl _) | omega | (simp only [World.size_alloc, World.size_setCell, World.size_drew, Wov_size, World.heap_drewN]; omega)))), m2_5.below (by (repeat' (first | (with_reducible assumption) | (with_reducible exact Below.refl _ _) | (with_reducible refine below_wov ?_ ?_ _) | (with_reducible refine below_drewN ?_ _) | (with_reducible refine Below.drew ?_) | (with_reducible refine Below.alloc ?_ ?_ _) | (with_reducible refine Below.setCell ?_ ?_ _) | (with_reducible exact Nat.le_refl _) | omega | (simp only [World.size_alloc, World.size_setCell, World.size_drew, Wov_size, World.heap_drewN]; omega)))), BoxM.new (t2) (by rw [← hA2]; (try simp only [Wov_size]))⟩ ?_
  rintro W3 ⟨hb3, m3_0, m3_1, m3_2, m3_3, m3_4, m3_5, m3_6⟩
  clear hb2 f2_0_lt f2_0_c0 f2_0_c1 f2_0_c2 f2_0_c3 f2_0_c4 f2_1_lt f2_1_c0 f2_1_c1 f2_1_c2 f2_1_c3 f2_1_c4 f2_2_lt f2_2_c0 f2_2_c1 f2_2_c2 f2_2_c3 f2_2_c4 f2_4_lt f2_4_c0 f2_4_c1 m2_0 m2_1 m2_2 m2_3 m2_4 m2_5 hs2
  have hs3 := hb3.size
  have f3_0_lt := m3_0.lt
  have f3_0_c0 := m3_0.c0
  have f3_0_c1 := m3_0.c1
  have f3_0_c2 := m3_0.c2
  have f3_0_c3 := m3_0.c3
  have f3_0_c4 := m3_0.c4
  have f3_1_lt := m3_1.lt
  have f3_1_c0 := m3_1.c0
  have f3_1_c1 := m3_1.c1
  have f3_1_c2 := m3_1.c2
  have f3_1_c3 := m3_1.c3
  have f3_1_c4 := m3_1.c4
  have f3_2_lt := m3_2.lt
  have f3_2_c0 := m3_2.c0
  have f3_2_c1 := m3_2.c1
  have f3_2_c2 := m3_2.c2
  have f3_2_c3 := m3_2.c3
  have f3_2_c4 := m3_2.c4
  have f3_4_lt := m3_4.lt
  have f3_4_c0 := m3_4.c0
  have f3_4_c1 := m3_4.c1
  have f3_6_lt := m3_6.lt
  have f3_6_c0 := m3_6.c0
  have f3_6_c1 := m3_6.c1
  clear t2 hA2
  refine (Bd.out _ _ _ m3_6.sl).mono ?_; rintro e w' ⟨⟨pd, cd, rfl, ho⟩, rd, rfl⟩
  clear ho
  go_wp2_with (fail)
  refine calls_world (fun W => Below w.heap.size w W ∧ BoxS W w.heap.size tlo tls thi ths top ∧ BoxS W (w.heap.size + 1) ulo uls uhi uhs uop ∧ BoxS W (w.heap.size + 2) dlo dls dhi dhs dop ∧ HoldsA W (w.heap.size + 3) 6 (fun _ => 0) ∧ BoxM W A1 3 (some ⟨B, 0, none⟩) 9 cp (topF 3) ∧ HoldsA W B 9 (topF 3) ∧ BoxM W A2 2 (some ⟨BS, 0, none⟩) 4 cs (topF 2)) ⟨by (repeat' (first | (with_reducible assumption) | (with_reducible exact Below.refl _ _) | (with_reducible refine below_wov ?_ ?_ _) | (with_reducible refine below_drewN ?_ _) | (with_reducible refine Below.drew ?_) | (with_reducible refine Below.alloc ?_ ?_ _) | (with_reducible refine Below.setCell ?_ ?_ _) | (with_reducible exact Nat.le_refl _) | omega | (simp only [World.size_alloc, World.size_setCell, World.size_drew, Wov_size, World.heap_drewN]; omega))), m3_0.below (by (repeat' (first | (with_reducible assumption) | (with_reducible exact Below.refl _ _) | (with_reducible refine below_wov ?_ ?_ _) | (with_reducible refine below_drewN ?_ _) | (with_reducible refine Below.drew ?_) | (with_reducible refine Below.alloc ?_ ?_ _) | (with_reducible refine Below.setCell ?_ ?_ _) | (with_reducible exact Nat.le_refl _) | omega | (simp only [World.size_alloc, World.size_setCell, World.size_drew, Wov_size, World.heap_drewN]; omega)))), m3_1.below (by (repeat' (first | (with_reducible assumption) | (with_reducible exact Below.refl _ _) | (with_reducible refine below_wov ?_ ?_ _) | (with_reducible refine below_drewN ?_ _) | (with_reducible refine Below.drew ?_) | (with_reducible refine Below.alloc ?_ ?_ _) | (with_reducible refine Below.setCell ?_ ?_ _) | (with_reducible exact Nat.le_refl _) | omega | (simp only [World.size_alloc, World.size_setCell, World.size_drew, Wov_size, World.heap_drewN]; omega)))), m3_2.below (by (repeat' (first | (with_reducible assumption) | (with_reducible exact Below.refl _ _) | (with_reducible refine below_wov ?_ ?_ _) | (with_reducible refine below_drewN ?_ _) | (with_reducible refine Below.drew ?_) | (with_reducible refine Below.alloc ?_ ?_ _) | (with_reducible refine Below.setCell ?_ ?_ _) | (with_reducible exact Nat.le_refl _) | omega | (simp only [World.size_alloc, World.size_setCell, World.size_drew, Wov_size, World.heap_drewN]; omega)))), m3_3.below (by (repeat' (first | (with_reducible assumption) | (with_reducible exact Below.refl _ _) | (with_reducible refine below_wov ?_ ?_ _) | (with_reducible refine below_drewN ?_ _) | (with_reducible refine Below.drew ?_) | (with_reducible refine Below.alloc ?_ ?_ _) | (with_reducible refine Below.setCell ?_ ?_ _) | (with_reducible exact Nat.le_refl _) | omega | (simp only [World.size_alloc, World.size_setCell, World.size_drew, Wov_size, World.heap_drewN]; omega)))), m3_4.below (by (repeat' (first | (with_reducible assumption) | (with_reducible exact Below.refl _ _) | (with_reducible refine below_wov ?_ ?_ _) | (with_reducible refine below_drewN ?_ _) | (with_reducible refine Below.drew ?_) | (with_reducible refine Below.alloc ?_ ?_ _) | (with_reducible refine Below.setCell ?_ ?_ _) | (with_reducible exact Nat.le_refl _) | omega | (simp only [World.size_alloc, World.size_setCell, World.size_drew, Wov_size, World.heap_drewN]; omega)))), m3_5.below (by (repeat' (first | (with_reducible assumption) | (with_reducible exact Below.refl _ _) | (with_reducible refine below_wov ?_ ?_ _) | (with_reducible refine below_drewN ?_ _) | (with_reducible refine Below.drew ?_) | (with_reducible refine Below.alloc ?_ ?_ _) | (with_reducible refine Below.setCell ?_ ?_ _) | (with_reducible exact Nat.le_refl _) | omega | (simp only [World.size_alloc, World.size_setCell, World.size_drew, Wov_size, World.heap_drewN]; omega)))), m3_6.below (by (repeat' (first | (with_reducible assumption) | (with_reducible exact Below.refl _ _) | (with_reducible refine below_wov ?_ ?_ _) | (with_reducible refine below_drewN ?_ _) | (with_reducible refine Below.drew ?_) | (with_reducible refine Below.alloc ?_ ?_ _) | (with_reducible refine Below.setCell ?_ ?_ _) | (with_reducible exact Nat.le_refl _) | omega | (simp only [World.size_alloc, World.size_setCell, World.size_drew, Wov_size, World.heap_drewN]; omega))))⟩ ?_
  rintro W4 ⟨hb4, m4_0, m4_1, m4_2, m4_3, m4_4, m4_5, m4_6⟩
  clear hb3 f3_0_lt f3_0_c0 f3_0_c1 f3_0_c2 f3_0_c3 f3_0_c4 f3_1_lt f3_1_c0 f3_1_c1 f3_1_c2 f3_1_c3 f3_1_c4 f3_2_lt f3_2_c0 f3_2_c1 f3_2_c2 f3_2_c3 f3_2_c4 f3_4_lt f3_4_c0 f3_4_c1 f3_6_lt f3_6_c0 f3_6_c1 m3_0 m3_1 m3_2 m3_3 m3_4 m3_5 m3_6 hs3
  have hs4 := hb4.size
  have f4_0_lt := m4_0.lt
  have f4_0_c0 := m4_0.c0
  have f4_0_c1 := m4_0.c1
  have f4_0_c2 := m4_0.c2
  have f4_0_c3 := m4_0.c3
  have f4_0_c4 := m4_0.c4
  have f4_1_lt := m4_1.lt
  have f4_1_c0 := m4_1.c0
  have f4_1_c1 := m4_1.c1
  have f4_1_c2 := m4_1.c2
  have f4_1_c3 := m4_1.c3
  have f4_1_c4 := m4_1.c4
  have f4_2_lt := m4_2.lt
  have f4_2_c0 := m4_2.c0
  have f4_2_c1 := m4_2.c1
  have f4_2_c2 := m4_2.c2
  have f4_2_c3 := m4_2.c3
  have f4_2_c4 := m4_2.c4
  have f4_4_lt := m4_4.lt
  have f4_4_c0 := m4_4.c0
  have f4_4_c1 := m4_4.c1
  have f4_6_lt := m4_6.lt
  have f4_6_c0 := m4_6.c0
  have f4_6_c1 := m4_6.c1
  refine (Bu.out _ _ _ m4_6.sl).mono ?_; rintro e w' ⟨⟨pu, cu, rfl, ho⟩, ru, rfl⟩
  clear ho
  go_wp2_with (fail)
  refine calls_world (fun W => Below w.heap.size w W ∧ BoxS W w.heap.size tlo tls thi ths top ∧ BoxS W (w.heap.size + 1) ulo uls uhi uhs uop ∧ BoxS W (w.heap.size + 2) dlo dls dhi dhs dop ∧ HoldsA W (w.heap.size + 3) 6 (fun _ => 0) ∧ BoxM W A1 3 (some ⟨B, 0, none⟩) 9 cp (topF 3) ∧ HoldsA W B 9 (topF 3) ∧ BoxM W A2 2 (some ⟨BS, 0, none⟩) 4 cs (topF 2)) ⟨by (repeat' (first | (with_reducible assumption) | (with_reducible exact Below.refl _ _) | (with_reducible refine below_wov ?_ ?_ _) | (with_reducible refine below_drewN ?_ _) | (with_reducible refine Below.drew ?_) | (with_reducible refine Below.alloc ?_ ?_ _) | (with_reducible refine Below.setCell ?_ ?_ _) | (with_reducible exact Nat.le_refl _) | omega | (simp only [World.size_alloc, World.size_setCell, World.size_drew, Wov_size, World.heap_drewN]; omega))), m4_0.below (by (repeat' (first | (with_reducible assumption) | (with_reducible exact Below.refl _ _) | (with_reducible refine below_wov ?_ ?_ _) | (with_reducible refine below_drewN ?_ _) | (with_reducible refine Below.drew ?_) | (with_reducible refine Below.alloc ?_ ?_ _) | (with_reducible refine Below.setCell ?_ ?_ _) | (with_reducible exact Nat.le_refl _) | omega | (simp only [World.size_alloc, World.size_setCell, World.size_drew, Wov_size, World.heap_drewN]; omega)))), m4_1.below (by (repeat' (first | (with_reducible assumption) | (with_reducible exact Below.refl _ _) | (with_reducible refine below_wov ?_ ?_ _) | (with_reducible refine below_drewN ?_ _) | (with_reducible refine Below.drew ?_) | (with_reducible refine Below.alloc ?_ ?_ _) | (with_reducible refine Below.setCell ?_ ?_ _) | (with_reducible exact Nat.le_refl _) | omega | (simp only [World.size_alloc, World.size_setCell, World.size_drew, Wov_size, World.heap_drewN]; omega)))), m4_2.below (by (repeat' (first | (with_reducible assumption) | (with_reducible exact Below.refl _ _) | (with_reducible refine below_wov ?_ ?_ _) | (with_reducible refine below_drewN ?_ _) | (with_reducible refine Below.drew ?_) | (with_reducible refine Below.alloc ?_ ?_ _) | (with_reducible refine Below.setCell ?_ ?_ _) | (with_reducible exact Nat.le_refl _) | omega | (simp only [World.size_alloc, World.size_setCell, World.size_drew, Wov_size, World.heap_drewN]; omega)))), m4_3.below (by (repeat' (first | (with_reducible assumption) | (with_reducible exact Below.refl _ _) | (with_reducible refine below_wov ?_ ?_ _) | (with_reducible refine below_drewN ?_ _) | (with_reducible refine Below.drew ?_) | (with_reducible refine Below.alloc ?_ ?_ _) | (with_reducible refine Below.setCell ?_ ?_ _) | (with_reducible exact Nat.le_refl _) | omega | (simp only [World.size_alloc, World.size_setCell, World.size_drew, Wov_size, World.heap_drewN]; omega)))), m4_4.below (by (repeat' (first | (with_reducible assumption) | (with_reducible exact Below.refl _ _) | (with_reducible refine below_wov ?_ ?_ _) | (with_reducible refine below_drewN ?_ _) | (with_reducible refine Below.drew ?_) | (with_reducible refine Below.alloc ?_ ?_ _) | (with_reducible refine Below.setCell ?_ ?_ _) | (with_reducible exact Nat.le_refl _) | omega | (simp only [World.size_alloc, World.size_setCell, World.size_drew, Wov_size, World.heap_drewN]; omega)))), m4_5.below (by (repeat' (first | (with_reducible assumption) | (with_reducible exact Below.refl _ _) | (with_reducible refine below_wov ?_ ?_ _) | (with_reducible refine below_drewN ?_ _) | (with_reducible refine Below.drew ?_) | (with_reducible refine Below.alloc ?_ ?_ _) | (with_reducible refine Below.setCell ?_ ?_ _) | (with_reducible exact Nat.le_refl _) | omega | (simp only [World.size_alloc, World.size_setCell, World.size_drew, Wov_size, World.heap_drewN]; omega)))), m4_6.below (by (repeat' (first | (with_reducible assumption) | (with_reducible exact Below.refl _ _) | (with_reducible refine below_wov ?_ ?_ _) | (with_reducible refine below_drewN ?_ _) | (with_reducible refine Below.drew ?_) | (with_reducible refine Below.alloc ?_ ?_ _) | (with_reducible refine Below.setCell ?_ ?_ _) | (with_reducible exact Nat.le_refl _) | omega | (simp only [World.size_alloc, World.size_setCell, World.size_drew, Wov_size, World.heap_drewN]; omega))))⟩ ?_
  rintro W5 ⟨hb5, m5_0, m5_1, m5_2, m5_3, m5_4, m5_5, m5_6⟩
  clear hb4 f4_0_lt f4_0_c0 f4_0_c1 f4_0_c2 f4_0_c3 f4_0_c4 f4_1_lt f4_1_c0 f4_1_c1 f4_1_c2 f4_1_c3 f4_1_c4 f4_2_lt f4_2_c0 f4_2_c1 f4_2_c2 f4_2_c3 f4_2_c4 f4_4_lt f4_4_c0 f4_4_c1 f4_6_lt f4_6_c0 f4_6_c1 m4_0 m4_1 m4_2 m4_3 m4_4 m4_5 m4_6 hs4
  have hs5 := hb5.size
  have f5_0_lt := m5_0.lt
  have f5_0_c0 := m5_0.c0
  have f5_0_c1 := m5_0.c1
  have f5_0_c2 := m5_0.c2
  have f5_0_c3 := m5_0.c3
  have f5_0_c4 := m5_0.c4
  have f5_1_lt := m5_1.lt
  have f5_1_c0 := m5_1.c0
  have f5_1_c1 := m5_1.c1
  have f5_1_c2 := m5_1.c2
  have f5_1_c3 := m5_1.c3
  have f5_1_c4 := m5_1.c4
  have f5_2_lt := m5_2.lt
  have f5_2_c0 := m5_2.c0
  have f5_2_c1 := m5_2.c1
  have f5_2_c2 := m5_2.c2
  have f5_2_c3 := m5_2.c3
  have f5_2_c4 := m5_2.c4
  have f5_4_lt := m5_4.lt
  have f5_4_c0 := m5_4.c0
  have f5_4_c1 := m5_4.c1
  have f5_6_lt := m5_6.lt
  have f5_6_c0 := m5_6.c0
  have f5_6_c1 := m5_6.c1
  refine (Bt.out _ _ _ m5_6.sl).mono ?_; rintro e w' ⟨⟨pt, ct, rfl, ho⟩, rt, rfl⟩
  clear ho
  go_wp2_with (fail)
  obtain ⟨A3, hA3⟩ : ∃ A, W5.heap.size + (rt.bl.size + 1) = A := ⟨_, rfl⟩
  rw [hA3]
  refine calls_world (fun W => Below w.heap.size w W ∧ BoxS W w.heap.size tlo tls thi ths top ∧ BoxS W (w.heap.size + 1) ulo uls uhi uhs uop ∧ BoxS W (w.heap.size + 2) dlo dls dhi dhs dop ∧ HoldsA W (w.heap.size + 3) 6 (fun _ => 0) ∧ BoxM W A1 3 (some ⟨B, 0, none⟩) 9 cp (topF 3) ∧ HoldsA W B 9 (topF 3) ∧ BoxM W A2 2 (some ⟨BS, 0, none⟩) 4 cs (topF 2) ∧ SlP W (some ⟨A3, 0, none⟩) 3 (eee ed eu et)) ⟨by (repeat' (first | (with_reducible assumption) | (with_reducible exact Below.refl _ _) | (with_reducible refine below_wov ?_ ?_ _) | (with_reducible refine below_drewN ?_ _) | (with_reducible refine Below.drew ?_) | (with_reducible refine Below.alloc ?_ ?_ _) | (with_reducible refine Below.setCell ?_ ?_ _) | (with_reducible exact Nat.le_refl _) | omega | (simp only [World.size_alloc, World.size_setCell, World.size_drew, Wov_size, World.heap_drewN]; omega))), m5_0.below (by (repeat' (first | (with_reducible assumption) | (with_reducible exact Below.refl _ _) | (with_reducible refine below_wov ?_ ?_ _) | (with_reducible refine below_drewN ?_ _) | (with_reducible refine Below.drew ?_) | (with_reducible refine Below.alloc ?_ ?_ _) | (with_reducible refine Below.setCell ?_ ?_ _) | (with_reducible exact Nat.le_refl _) | omega | (simp only [World.size_alloc, World.size_setCell, World.size_drew, Wov_size, World.heap_drewN]; omega)))), m5_1.below (by (repeat' (first | (with_reducible assumption) | (with_reducible exact Below.refl _ _) | (with_reducible refine below_wov ?_ ?_ _) | (with_reducible refine below_drewN ?_ _) | (with_reducible refine Below.drew ?_) | (with_reducible refine Below.alloc ?_ ?_ _) | (with_reducible refine Below.setCell ?_ ?_ _) | (with_reducible exact Nat.le_refl _) | omega | (simp only [World.size_alloc, World.size_setCell, World.size_drew, Wov_size, World.heap_drewN]; omega)))), m5_2.below (by (repeat' (first | (with_reducible assumption) | (with_reducible exact Below.refl _ _) | (with_reducible refine below_wov ?_ ?_ _) | (with_reducible refine below_drewN ?_ _) | (with_reducible refine Below.drew ?_) | (with_reducible refine Below.alloc ?_ ?_ _) | (with_reducible refine Below.setCell ?_ ?_ _) | (with_reducible exact Nat.le_refl _) | omega | (simp only [World.size_alloc, World.size_setCell, World.size_drew, Wov_size, World.heap_drewN]; omega)))), m5_3.below (by (repeat' (first | (with_reducible assumption) | (with_reducible exact Below.refl _ _) | (with_reducible refine below_wov ?_ ?_ _) | (with_reducible refine below_drewN ?_ _) | (with_reducible refine Below.drew ?_) | (with_reducible refine Below.alloc ?_ ?_ _) | (with_reducible refine Below.setCell ?_ ?_ _) | (with_reducible exact Nat.le_refl _) | omega | (simp only [World.size_alloc, World.size_setCell, World.size_drew, Wov_size, World.heap_drewN]; omega)))), m5_4.below (by (repeat' (first | (with_reducible assumption) | (with_reducible exact Below.refl _ _) | (with_reducible refine below_wov ?_ ?_ _) | (with_reducible refine below_drewN ?_ _) | (with_reducible refine Below.drew ?_) | (with_reducible refine Below.alloc ?_ ?_ _) | (with_reducible refine Below.setCell ?_ ?_ _) | (with_reducible exact Nat.le_refl _) | omega | (simp only [World.size_alloc, World.size_setCell, World.size_drew, Wov_size, World.heap_drewN]; omega)))), m5_5.below (by (repeat' (first | (with_reducible assumption) | (with_reducible exact Below.refl _ _) | (with_reducible refine below_wov ?_ ?_ _) | (with_reducible refine below_drewN ?_ _) | (with_reducible refine Below.drew ?_) | (with_reducible refine Below.alloc ?_ ?_ _) | (with_reducible refine Below.setCell ?_ ?_ _) | (with_reducible exact Nat.le_refl _) | omega | (simp only [World.size_alloc, World.size_setCell, World.size_drew, Wov_size, World.heap_drewN]; omega)))), m5_6.below (by (repeat' (first | (with_reducible assumption) | (with_reducible exact Below.refl _ _) | (with_reducible refine below_wov ?_ ?_ _) | (with_reducible refine below_drewN ?_ _) | (with_reducible refine Below.drew ?_) | (with_reducible refine Below.alloc ?_ ?_ _) | (with_reducible refine Below.setCell ?_ ?_ _) | (with_reducible exact Nat.le_refl _) | omega | (simp only [World.size_alloc, World.size_setCell, World.size_drew, Wov_size, World.heap_drewN]; omega)))), (by have := slp_three ((Wov W5 rt).alloc (.cells #[.int .i64 xt, .slice pt Zt ct] 96)) 25 ed eu et; rw [World.size_alloc, Wov_size, Nat.add_assoc, hA3] at this; exact this)⟩ ?_
  rintro W6 ⟨hb6, m6_0, m6_1, m6_2, m6_3, m6_4, m6_5, m6_6, m6_7⟩
  clear hb5 f5_0_lt f5_0_c0 f5_0_c1 f5_0_c2 f5_0_c3 f5_0_c4 f5_1_lt f5_1_c0 f5_1_c1 f5_1_c2 f5_1_c3 f5_1_c4 f5_2_lt f5_2_c0 f5_2_c1 f5_2_c2 f5_2_c3 f5_2_c4 f5_4_lt f5_4_c0 f5_4_c1 f5_6_lt f5_6_c0 f5_6_c1 m5_0 m5_1 m5_2 m5_3 m5_4 m5_5 m5_6 hs5
  have hs6 := hb6.size
  have f6_0_lt := m6_0.lt
  have f6_0_c0 := m6_0.c0
  have f6_0_c1 := m6_0.c1
  have f6_0_c2 := m6_0.c2
  have f6_0_c3 := m6_0.c3
  have f6_0_c4 := m6_0.c4
  have f6_1_lt := m6_1.lt
  have f6_1_c0 := m6_1.c0
  have f6_1_c1 := m6_1.c1
  have f6_1_c2 := m6_1.c2
  have f6_1_c3 := m6_1.c3
  have f6_1_c4 := m6_1.c4
  have f6_2_lt := m6_2.lt
  have f6_2_c0 := m6_2.c0
  have f6_2_c1 := m6_2.c1
  have f6_2_c2 := m6_2.c2
  have f6_2_c3 := m6_2.c3
  have f6_2_c4 := m6_2.c4
  have f6_4_lt := m6_4.lt
  have f6_4_c0 := m6_4.c0
  have f6_4_c1 := m6_4.c1
  have f6_6_lt := m6_6.lt
  have f6_6_c0 := m6_6.c0
  have f6_6_c1 := m6_6.c1
  clear hA3
  refine (CE.out _ _ 8 m6_7).mono ?_; rintro e w' ⟨rfl, q8, rfl⟩
  cases h8 : hasE 3 (eee ed eu et) 8
  · skip
    have H8 := Lib.hid h8
    clear h8
    go_wp2_with (fail)
    obtain ⟨A4, hA4⟩ : ∃ A, W6.heap.size + q8.bl.size = A := ⟨_, rfl⟩
    rw [hA4]
    refine calls_world (fun W => Below w.heap.size w W ∧ BoxS W w.heap.size tlo tls thi ths top ∧ BoxS W (w.heap.size + 1) ulo uls uhi uhs uop ∧ BoxS W (w.heap.size + 2) dlo dls dhi dhs dop ∧ HoldsA W (w.heap.size + 3) 6 (fun _ => 0) ∧ BoxM W A1 3 (some ⟨B, 0, none⟩) 9 cp (topF 3) ∧ HoldsA W B 9 (topF 3) ∧ BoxM W A2 2 (some ⟨BS, 0, none⟩) 4 cs (topF 2) ∧ SlP W (some ⟨A4, 0, none⟩) 3 (eee ed eu et)) ⟨by (repeat' (first | (with_reducible assumption) | (with_reducible exact Below.refl _ _) | (with_reducible refine below_wov ?_ ?_ _) | (with_reducible refine below_drewN ?_ _) | (with_reducible refine Below.drew ?_) | (with_reducible refine Below.alloc ?_ ?_ _) | (with_reducible refine Below.setCell ?_ ?_ _) | (with_reducible exact Nat.le_refl _) | omega | (simp only [World.size_alloc, World.size_setCell, World.size_drew, Wov_size, World.heap_drewN]; omega))), m6_0.below (by (repeat' (first | (with_reducible assumption) | (with_reducible exact Below.refl _ _) | (with_reducible refine below_wov ?_ ?_ _) | (with_reducible refine below_drewN ?_ _) | (with_reducible refine Below.drew ?_) | (with_reducible refine Below.alloc ?_ ?_ _) | (with_reducible refine Below.setCell ?_ ?_ _) | (with_reducible exact Nat.le_refl _) | omega | (simp only [World.size_alloc, World.size_setCell, World.size_drew, Wov_size, World.heap_drewN]; omega)))), m6_1.below (by (repeat' (first | (with_reducible assumption) | (with_reducible exact Below.refl _ _) | (with_reducible refine below_wov ?_ ?_ _) | (with_reducible refine below_drewN ?_ _) | (with_reducible refine Below.drew ?_) | (with_reducible refine Below.alloc ?_ ?_ _) | (with_reducible refine Below.setCell ?_ ?_ _) | (with_reducible exact Nat.le_refl _) | omega | (simp only [World.size_alloc, World.size_setCell, World.size_drew, Wov_size, World.heap_drewN]; omega)))), m6_2.below (by (repeat' (first | (with_reducible assumption) | (with_reducible exact Below.refl _ _) | (with_reducible refine below_wov ?_ ?_ _) | (with_reducible refine below_drewN ?_ _) | (with_reducible refine Below.drew ?_) | (with_reducible refine Below.alloc ?_ ?_ _) | (with_reducible refine Below.setCell ?_ ?_ _) | (with_reducible exact Nat.le_refl _) | omega | (simp only [World.size_alloc, World.size_setCell, World.size_drew, Wov_size, World.heap_drewN]; omega)))), m6_3.below (by (repeat' (first | (with_reducible assumption) | (with_reducible exact Below.refl _ _) | (with_reducible refine below_wov ?_ ?_ _) | (with_reducible refine below_drewN ?_ _) | (with_reducible refine Below.drew ?_) | (with_reducible refine Below.alloc ?_ ?_ _) | (with_reducible refine Below.setCell ?_ ?_ _) | (with_reducible exact Nat.le_refl _) | omega | (simp only [World.size_alloc, World.size_setCell, World.size_drew, Wov_size, World.heap_drewN]; omega)))), m6_4.below (by (repeat' (first | (with_reducible assumption) | (with_reducible exact Below.refl _ _) | (with_reducible refine below_wov ?_ ?_ _) | (with_reducible refine below_drewN ?_ _) | (with_reducible refine Below.drew ?_) | (with_reducible refine Below.alloc ?_ ?_ _) | (with_reducible refine Below.setCell ?_ ?_ _) | (with_reducible exact Nat.le_refl _) | omega | (simp only [World.size_alloc, World.size_setCell, World.size_drew, Wov_size, World.heap_drewN]; omega)))), m6_5.below (by (repeat' (first | (with_reducible assumption) | (with_reducible exact Below.refl _ _) | (with_reducible refine below_wov ?_ ?_ _) | (with_reducible refine below_drewN ?_ _) | (with_reducible refine Below.drew ?_) | (with_reducible refine Below.alloc ?_ ?_ _) | (with_reducible refine Below.setCell ?_ ?_ _) | (with_reducible exact Nat.le_refl _) | omega | (simp only [World.size_alloc, World.size_setCell, World.size_drew, Wov_size, World.heap_drewN]; omega)))), m6_6.below (by (repeat' (first | (with_reducible assumption) | (with_reducible exact Below.refl _ _) | (with_reducible refine below_wov ?_ ?_ _) | (with_reducible refine below_drewN ?_ _) | (with_reducible refine Below.drew ?_) | (with_reducible refine Below.alloc ?_ ?_ _) | (with_reducible refine Below.setCell ?_ ?_ _) | (with_reducible exact Nat.le_refl _) | omega | (simp only [World.size_alloc, World.size_setCell, World.size_drew, Wov_size, World.heap_drewN]; omega)))), (by have := slp_three (Wov W6 q8) 25 ed eu et; rw [Wov_size, hA4] at this; exact this)⟩ ?_
    rintro W7 ⟨hb7, m7_0, m7_1, m7_2, m7_3, m7_4, m7_5, m7_6, m7_7⟩
    clear hb6 f6_0_lt f6_0_c0 f6_0_c1 f6_0_c2 f6_0_c3 f6_0_c4 f6_1_lt f6_1_c0 f6_1_c1 f6_1_c2 f6_1_c3 f6_1_c4 f6_2_lt f6_2_c0 f6_2_c1 f6_2_c2 f6_2_c3 f6_2_c4 f6_4_lt f6_4_c0 f6_4_c1 f6_6_lt f6_6_c0 f6_6_c1 m6_0 m6_1 m6_2 m6_3 m6_4 m6_5 m6_6 m6_7 hs6
    have hs7 := hb7.size
    have f7_0_lt := m7_0.lt
    have f7_0_c0 := m7_0.c0
    have f7_0_c1 := m7_0.c1
    have f7_0_c2 := m7_0.c2
    have f7_0_c3 := m7_0.c3
    have f7_0_c4 := m7_0.c4
    have f7_1_lt := m7_1.lt
    have f7_1_c0 := m7_1.c0
    have f7_1_c1 := m7_1.c1
    have f7_1_c2 := m7_1.c2
    have f7_1_c3 := m7_1.c3
    have f7_1_c4 := m7_1.c4
    have f7_2_lt := m7_2.lt
    have f7_2_c0 := m7_2.c0
    have f7_2_c1 := m7_2.c1
    have f7_2_c2 := m7_2.c2
    have f7_2_c3 := m7_2.c3
    have f7_2_c4 := m7_2.c4
    have f7_4_lt := m7_4.lt
    have f7_4_c0 := m7_4.c0
    have f7_4_c1 := m7_4.c1
    have f7_6_lt := m7_6.lt
    have f7_6_c0 := m7_6.c0
    have f7_6_c1 := m7_6.c1
    clear hA4
    refine (CE.out _ _ 6 m7_7).mono ?_; rintro e w' ⟨rfl, q9, rfl⟩
    clear CE
    cases h6 : hasE 3 (eee ed eu et) 6
    · skip
      have H6 := Lib.hid h6
      obtain ⟨n1, n2, n3⟩ := hasE_none H8.out
      obtain ⟨n4, n5, n6⟩ := hasE_none h6
      obtain ⟨rfl, rfl, rfl, ft⟩ := HCt.out.resolve_left (by omega)
      obtain ⟨rfl, rfl, rfl, fu⟩ := HCu.out.resolve_left (by omega)
      obtain ⟨rfl, rfl, rfl, fd⟩ := HCd.out.resolve_left (by omega)
      have OF2 : Hid (∀ W B c, SlP W (some ⟨B, 0, none⟩) 9 (zF (spansZ gt gu gd)) → Calls Tryz.prog 125 #[.agg #[.int .i64 3, .slice (some ⟨B, 0, none⟩) 9 c]] W (Gives W (zoneR (ofZ 3 9 (zF (spansZ gt gu gd))).1 (ofZ 3 9 (zF (spansZ gt gu gd))).2))) := fun W B c h => OF.out W B c h (zF_fits (spansZ_fits ft fu fd))
      clear h6 n1 n2 n3 n4 n5 n6 HCt HCu HCd OF ft fu fd
      go_wp2_with (fail)
      refine calls_world (fun W => Below w.heap.size w W ∧ BoxS W w.heap.size tlo tls thi ths top ∧ BoxS W (w.heap.size + 1) ulo uls uhi uhs uop ∧ BoxS W (w.heap.size + 2) dlo dls dhi dhs dop ∧ HoldsA W (w.heap.size + 3) 6 (fun _ => 0) ∧ BoxM W A1 3 (some ⟨B, 0, none⟩) 9 cp (topF 3) ∧ HoldsA W B 9 (topF 3) ∧ BoxM W A2 2 (some ⟨BS, 0, none⟩) 4 cs (topF 2)) ⟨by (repeat' (first | (with_reducible assumption) | (with_reducible exact Below.refl _ _) | (with_reducible refine below_wov ?_ ?_ _) | (with_reducible refine below_drewN ?_ _) | (with_reducible refine Below.drew ?_) | (with_reducible refine Below.alloc ?_ ?_ _) | (with_reducible refine Below.setCell ?_ ?_ _) | (with_reducible exact Nat.le_refl _) | omega | (simp only [World.size_alloc, World.size_setCell, World.size_drew, Wov_size, World.heap_drewN]; omega))), m7_0.below (by (repeat' (first | (with_reducible assumption) | (with_reducible exact Below.refl _ _) | (with_reducible refine below_wov ?_ ?_ _) | (with_reducible refine below_drewN ?_ _) | (with_reducible refine Below.drew ?_) | (with_reducible refine Below.alloc ?_ ?_ _) | (with_reducible refine Below.setCell ?_ ?_ _) | (with_reducible exact Nat.le_refl _) | omega | (simp only [World.size_alloc, World.size_setCell, World.size_drew, Wov_size, World.heap_drewN]; omega)))), m7_1.below (by (repeat' (first | (with_reducible assumption) | (with_reducible exact Below.refl _ _) | (with_reducible refine below_wov ?_ ?_ _) | (with_reducible refine below_drewN ?_ _) | (with_reducible refine Below.drew ?_) | (with_reducible refine Below.alloc ?_ ?_ _) | (with_reducible refine Below.setCell ?_ ?_ _) | (with_reducible exact Nat.le_refl _) | omega | (simp only [World.size_alloc, World.size_setCell, World.size_drew, Wov_size, World.heap_drewN]; omega)))), m7_2.below (by (repeat' (first | (with_reducible assumption) | (with_reducible exact Below.refl _ _) | (with_reducible refine below_wov ?_ ?_ _) | (with_reducible refine below_drewN ?_ _) | (with_reducible refine Below.drew ?_) | (with_reducible refine Below.alloc ?_ ?_ _) | (with_reducible refine Below.setCell ?_ ?_ _) | (with_reducible exact Nat.le_refl _) | omega | (simp only [World.size_alloc, World.size_setCell, World.size_drew, Wov_size, World.heap_drewN]; omega)))), m7_3.below (by (repeat' (first | (with_reducible assumption) | (with_reducible exact Below.refl _ _) | (with_reducible refine below_wov ?_ ?_ _) | (with_reducible refine below_drewN ?_ _) | (with_reducible refine Below.drew ?_) | (with_reducible refine Below.alloc ?_ ?_ _) | (with_reducible refine Below.setCell ?_ ?_ _) | (with_reducible exact Nat.le_refl _) | omega | (simp only [World.size_alloc, World.size_setCell, World.size_drew, Wov_size, World.heap_drewN]; omega)))), m7_4.below (by (repeat' (first | (with_reducible assumption) | (with_reducible exact Below.refl _ _) | (with_reducible refine below_wov ?_ ?_ _) | (with_reducible refine below_drewN ?_ _) | (with_reducible refine Below.drew ?_) | (with_reducible refine Below.alloc ?_ ?_ _) | (with_reducible refine Below.setCell ?_ ?_ _) | (with_reducible exact Nat.le_refl _) | omega | (simp only [World.size_alloc, World.size_setCell, World.size_drew, Wov_size, World.heap_drewN]; omega)))), m7_5.below (by (repeat' (first | (with_reducible assumption) | (with_reducible exact Below.refl _ _) | (with_reducible refine below_wov ?_ ?_ _) | (with_reducible refine below_drewN ?_ _) | (with_reducible refine Below.drew ?_) | (with_reducible refine Below.alloc ?_ ?_ _) | (with_reducible refine Below.setCell ?_ ?_ _) | (with_reducible exact Nat.le_refl _) | omega | (simp only [World.size_alloc, World.size_setCell, World.size_drew, Wov_size, World.heap_drewN]; omega)))), m7_6.below (by (repeat' (first | (with_reducible assumption) | (with_reducible exact Below.refl _ _) | (with_reducible refine below_wov ?_ ?_ _) | (with_reducible refine below_drewN ?_ _) | (with_reducible refine Below.drew ?_) | (with_reducible refine Below.alloc ?_ ?_ _) | (with_reducible refine Below.setCell ?_ ?_ _) | (with_reducible exact Nat.le_refl _) | omega | (simp only [World.size_alloc, World.size_setCell, World.size_drew, Wov_size, World.heap_drewN]; omega))))⟩ ?_
      rintro W8 ⟨hb8, m8_0, m8_1, m8_2, m8_3, m8_4, m8_5, m8_6⟩
      clear hb7 f7_0_lt f7_0_c0 f7_0_c1 f7_0_c2 f7_0_c3 f7_0_c4 f7_1_lt f7_1_c0 f7_1_c1 f7_1_c2 f7_1_c3 f7_1_c4 f7_2_lt f7_2_c0 f7_2_c1 f7_2_c2 f7_2_c3 f7_2_c4 f7_4_lt f7_4_c0 f7_4_c1 f7_6_lt f7_6_c0 f7_6_c1 m7_0 m7_1 m7_2 m7_3 m7_4 m7_5 m7_6 m7_7 hs7
      have hs8 := hb8.size
      have f8_0_lt := m8_0.lt
      have f8_0_c0 := m8_0.c0
      have f8_0_c1 := m8_0.c1
      have f8_0_c2 := m8_0.c2
      have f8_0_c3 := m8_0.c3
      have f8_0_c4 := m8_0.c4
      have f8_1_lt := m8_1.lt
      have f8_1_c0 := m8_1.c0
      have f8_1_c1 := m8_1.c1
      have f8_1_c2 := m8_1.c2
      have f8_1_c3 := m8_1.c3
      have f8_1_c4 := m8_1.c4
      have f8_2_lt := m8_2.lt
      have f8_2_c0 := m8_2.c0
      have f8_2_c1 := m8_2.c1
      have f8_2_c2 := m8_2.c2
      have f8_2_c3 := m8_2.c3
      have f8_2_c4 := m8_2.c4
      have f8_4_lt := m8_4.lt
      have f8_4_c0 := m8_4.c0
      have f8_4_c1 := m8_4.c1
      have f8_6_lt := m8_6.lt
      have f8_6_c0 := m8_6.c0
      have f8_6_c1 := m8_6.c1
      refine (Bd.out _ _ _ m8_6.sl).mono ?_; rintro e w' ⟨⟨pD, cD, rfl, ho⟩, q10, rfl⟩
      obtain ⟨BD, rfl, hAD, hBD, hHD⟩ := ho.resolve_left (by omega)
      have tD := slp_of hHD hBD
      have HD := Lib.hid hHD
      clear ho hHD
      go_wp2
      have N7 : BD ≠ B := by have := m8_5.lt; omega
      obtain ⟨A6, hA6⟩ : ∃ A, W8.heap.size + (q10.bl.size + 1) = A := ⟨_, rfl⟩
      rw [hA6]
      obtain ⟨A5, hA5⟩ : ∃ A, W8.heap.size + q10.bl.size = A := ⟨_, rfl⟩
      rw [hA5]
      have N3 : A5 ≠ B := by have := m8_5.lt; omega
      have N4 : A6 ≠ B := by have := m8_5.lt; omega
      refine wp_world (fun W => Below w.heap.size w W ∧ BoxS W w.heap.size tlo tls thi ths top ∧ BoxS W (w.heap.size + 1) ulo uls uhi uhs uop ∧ BoxS W (w.heap.size + 2) dlo dls dhi dhs dop ∧ HoldsA W (w.heap.size + 3) 6 (fun _ => 0) ∧ BoxM W A1 3 (some ⟨B, 0, none⟩) 9 cp (topF 3) ∧ HoldsA W B 9 (topF 3) ∧ BoxM W A2 2 (some ⟨BS, 0, none⟩) 4 cs (topF 2) ∧ BoxM W A5 2 (some ⟨BD, 0, none⟩) 4 cD gd ∧ TwoS W A6 tlo tls thi ths top ulo uls uhi uhs uop ∧ HoldsA W BD 4 gd) ⟨by (repeat' (first | (with_reducible assumption) | (with_reducible exact Below.refl _ _) | (with_reducible refine below_wov ?_ ?_ _) | (with_reducible refine below_drewN ?_ _) | (with_reducible refine Below.drew ?_) | (with_reducible refine Below.alloc ?_ ?_ _) | (with_reducible refine Below.setCell ?_ ?_ _) | (with_reducible exact Nat.le_refl _) | omega | (simp only [World.size_alloc, World.size_setCell, World.size_drew, Wov_size, World.heap_drewN]; omega))), m8_0.below (by (repeat' (first | (with_reducible assumption) | (with_reducible exact Below.refl _ _) | (with_reducible refine below_wov ?_ ?_ _) | (with_reducible refine below_drewN ?_ _) | (with_reducible refine Below.drew ?_) | (with_reducible refine Below.alloc ?_ ?_ _) | (with_reducible refine Below.setCell ?_ ?_ _) | (with_reducible exact Nat.le_refl _) | omega | (simp only [World.size_alloc, World.size_setCell, World.size_drew, Wov_size, World.heap_drewN]; omega)))), m8_1.below (by (repeat' (first | (with_reducible assumption) | (with_reducible exact Below.refl _ _) | (with_reducible refine below_wov ?_ ?_ _) | (with_reducible refine below_drewN ?_ _) | (with_reducible refine Below.drew ?_) | (with_reducible refine Below.alloc ?_ ?_ _) | (with_reducible refine Below.setCell ?_ ?_ _) | (with_reducible exact Nat.le_refl _) | omega | (simp only [World.size_alloc, World.size_setCell, World.size_drew, Wov_size, World.heap_drewN]; omega)))), m8_2.below (by (repeat' (first | (with_reducible assumption) | (with_reducible exact Below.refl _ _) | (with_reducible refine below_wov ?_ ?_ _) | (with_reducible refine below_drewN ?_ _) | (with_reducible refine Below.drew ?_) | (with_reducible refine Below.alloc ?_ ?_ _) | (with_reducible refine Below.setCell ?_ ?_ _) | (with_reducible exact Nat.le_refl _) | omega | (simp only [World.size_alloc, World.size_setCell, World.size_drew, Wov_size, World.heap_drewN]; omega)))), m8_3.below (by (repeat' (first | (with_reducible assumption) | (with_reducible exact Below.refl _ _) | (with_reducible refine below_wov ?_ ?_ _) | (with_reducible refine below_drewN ?_ _) | (with_reducible refine Below.drew ?_) | (with_reducible refine Below.alloc ?_ ?_ _) | (with_reducible refine Below.setCell ?_ ?_ _) | (with_reducible exact Nat.le_refl _) | omega | (simp only [World.size_alloc, World.size_setCell, World.size_drew, Wov_size, World.heap_drewN]; omega)))), m8_4.below (by (repeat' (first | (with_reducible assumption) | (with_reducible exact Below.refl _ _) | (with_reducible refine below_wov ?_ ?_ _) | (with_reducible refine below_drewN ?_ _) | (with_reducible refine Below.drew ?_) | (with_reducible refine Below.alloc ?_ ?_ _) | (with_reducible refine Below.setCell ?_ ?_ _) | (with_reducible exact Nat.le_refl _) | omega | (simp only [World.size_alloc, World.size_setCell, World.size_drew, Wov_size, World.heap_drewN]; omega)))), m8_5.below (by (repeat' (first | (with_reducible assumption) | (with_reducible exact Below.refl _ _) | (with_reducible refine below_wov ?_ ?_ _) | (with_reducible refine below_drewN ?_ _) | (with_reducible refine Below.drew ?_) | (with_reducible refine Below.alloc ?_ ?_ _) | (with_reducible refine Below.setCell ?_ ?_ _) | (with_reducible exact Nat.le_refl _) | omega | (simp only [World.size_alloc, World.size_setCell, World.size_drew, Wov_size, World.heap_drewN]; omega)))), m8_6.below (by (repeat' (first | (with_reducible assumption) | (with_reducible exact Below.refl _ _) | (with_reducible refine below_wov ?_ ?_ _) | (with_reducible refine below_drewN ?_ _) | (with_reducible refine Below.drew ?_) | (with_reducible refine Below.alloc ?_ ?_ _) | (with_reducible refine Below.setCell ?_ ?_ _) | (with_reducible exact Nat.le_refl _) | omega | (simp only [World.size_alloc, World.size_setCell, World.size_drew, Wov_size, World.heap_drewN]; omega)))), (BoxM.new (W := Wov W8 q10) (t := 96) tD (by rw [← hA5]; (try simp only [Wov_size]))).below (by (repeat' (first | (with_reducible assumption) | (with_reducible exact Below.refl _ _) | (with_reducible refine below_wov ?_ ?_ _) | (with_reducible refine below_drewN ?_ _) | (with_reducible refine Below.drew ?_) | (with_reducible refine Below.alloc ?_ ?_ _) | (with_reducible refine Below.setCell ?_ ?_ _) | (with_reducible exact Nat.le_refl _) | omega | (simp only [World.size_alloc, World.size_setCell, World.size_drew, Wov_size, World.heap_drewN]; omega)))), TwoS.new (W := (Wov W8 q10).alloc (.cells #[.int .i64 2, .slice (some ⟨BD, 0, none⟩) 4 cD] 96)) (t := 147) (by rw [← hA6]; simp only [World.size_alloc, Wov_size]; omega), (HoldsA.mk hBD HD.out).below (by (repeat' (first | (with_reducible assumption) | (with_reducible exact Below.refl _ _) | (with_reducible refine below_wov ?_ ?_ _) | (with_reducible refine below_drewN ?_ _) | (with_reducible refine Below.drew ?_) | (with_reducible refine Below.alloc ?_ ?_ _) | (with_reducible refine Below.setCell ?_ ?_ _) | (with_reducible exact Nat.le_refl _) | omega | (simp only [World.size_alloc, World.size_setCell, World.size_drew, Wov_size, World.heap_drewN]; omega))))⟩ ?_
      rintro W9 ⟨hb9, m9_0, m9_1, m9_2, m9_3, m9_4, m9_5, m9_6, m9_7, m9_8, m9_9⟩
      clear hb8 f8_0_lt f8_0_c0 f8_0_c1 f8_0_c2 f8_0_c3 f8_0_c4 f8_1_lt f8_1_c0 f8_1_c1 f8_1_c2 f8_1_c3 f8_1_c4 f8_2_lt f8_2_c0 f8_2_c1 f8_2_c2 f8_2_c3 f8_2_c4 f8_4_lt f8_4_c0 f8_4_c1 f8_6_lt f8_6_c0 f8_6_c1 m8_0 m8_1 m8_2 m8_3 m8_4 m8_5 m8_6 hs8
      have hs9 := hb9.size
      have f9_0_lt := m9_0.lt
      have f9_0_c0 := m9_0.c0
      have f9_0_c1 := m9_0.c1
      have f9_0_c2 := m9_0.c2
      have f9_0_c3 := m9_0.c3
      have f9_0_c4 := m9_0.c4
      have f9_1_lt := m9_1.lt
      have f9_1_c0 := m9_1.c0
      have f9_1_c1 := m9_1.c1
      have f9_1_c2 := m9_1.c2
      have f9_1_c3 := m9_1.c3
      have f9_1_c4 := m9_1.c4
      have f9_2_lt := m9_2.lt
      have f9_2_c0 := m9_2.c0
      have f9_2_c1 := m9_2.c1
      have f9_2_c2 := m9_2.c2
      have f9_2_c3 := m9_2.c3
      have f9_2_c4 := m9_2.c4
      have f9_4_lt := m9_4.lt
      have f9_4_c0 := m9_4.c0
      have f9_4_c1 := m9_4.c1
      have f9_6_lt := m9_6.lt
      have f9_6_c0 := m9_6.c0
      have f9_6_c1 := m9_6.c1
      have f9_7_lt := m9_7.lt
      have f9_7_c0 := m9_7.c0
      have f9_7_c1 := m9_7.c1
      have f9_8_lt := m9_8.lt
      have f9_8_c0 := m9_8.c0
      have f9_8_c1 := m9_8.c1
      have f9_8_c2 := m9_8.c2
      have f9_8_c3 := m9_8.c3
      have f9_8_c4 := m9_8.c4
      have f9_8_c5 := m9_8.c5
      have f9_8_c6 := m9_8.c6
      have f9_8_c7 := m9_8.c7
      have f9_8_c8 := m9_8.c8
      have f9_8_c9 := m9_8.c9
      clear tD hA5 hA6 hAD hBD HD
      have hX5 := Lib.hid m9_5.holds
      have hBlt := m9_5.lt
      have N1 : A1 ≠ B := by omega
      have N2 : A2 ≠ B := by omega
      have N5 : w.heap.size + 3 ≠ B := by omega
      have hb0 := Lib.hid hb9
      have XR := Lib.hid m9_3
      have X1 := Lib.hid m9_4
      have X6 := Lib.hid m9_6
      have X7 := Lib.hid m9_7
      have X8 := Lib.hid m9_8
      have X9 := Lib.hid m9_9
      clear hb9 f9_0_lt f9_0_c0 f9_0_c1 f9_0_c2 f9_0_c3 f9_0_c4 f9_1_lt f9_1_c0 f9_1_c1 f9_1_c2 f9_1_c3 f9_1_c4 f9_2_lt f9_2_c0 f9_2_c1 f9_2_c2 f9_2_c3 f9_2_c4 f9_4_lt f9_4_c0 f9_4_c1 f9_6_lt f9_6_c0 f9_6_c1 f9_7_lt f9_7_c0 f9_7_c1 f9_8_lt f9_8_c0 f9_8_c1 f9_8_c2 f9_8_c3 f9_8_c4 f9_8_c5 f9_8_c6 f9_8_c7 f9_8_c8 f9_8_c9 m9_0 m9_1 m9_2 m9_3 m9_4 m9_5 m9_6 m9_7 m9_8 m9_9 hs9
      go_loopw [72] (fun i wr => ∃ t : Nat, t ≤ 2 ∧ i = .int .i64 t ∧ Chg W9 B wr ∧ Hid (HoldsI wr B 9 (outS gt gu t)))
        (fun i _ => 2 - (intOf i).toNat)
      case atStart => exact ⟨0, by omega, rfl, Chg.refl _ _, hX5.out⟩
      case round =>
        obtain ⟨t, ht, rfl, hc, hH⟩ := hrel
        have hszc := hc.size
        have lo := X1.out.lt
        have oc0 := (hc.cell (x := 0) lo N1).trans X1.out.c0
        have oc1 := (hc.cell (x := 1) lo N1).trans X1.out.c1
        have ls := X6.out.lt
        have sc0 := (hc.cell (x := 0) ls N2).trans X6.out.c0
        have sc1 := (hc.cell (x := 1) ls N2).trans X6.out.c1
        have ld := X8.out.lt
        have dc0 := (hc.cell (x := 0) ld N4).trans X8.out.c0
        have dc1 := (hc.cell (x := 1) ld N4).trans X8.out.c1
        have dc2 := (hc.cell (x := 2) ld N4).trans X8.out.c2
        have dc3 := (hc.cell (x := 3) ld N4).trans X8.out.c3
        have dc4 := (hc.cell (x := 4) ld N4).trans X8.out.c4
        have dc5 := (hc.cell (x := 5) ld N4).trans X8.out.c5
        have dc6 := (hc.cell (x := 6) ld N4).trans X8.out.c6
        have dc7 := (hc.cell (x := 7) ld N4).trans X8.out.c7
        have dc8 := (hc.cell (x := 8) ld N4).trans X8.out.c8
        have dc9 := (hc.cell (x := 9) ld N4).trans X8.out.c9
        have ssl : SlP wr (some ⟨BS, 0, none⟩) 4 (topF 2) := slp_chg X6.out.sl hc N6
        replace lo : A1 < wr.heap.size := by omega
        replace ls : A2 < wr.heap.size := by omega
        replace ld : A6 < wr.heap.size := by omega
        have hcases : t = 0 ∨ t = 1 ∨ t = 2 := by omega
        clear ht
        rcases hcases with rfl | rfl | rfl
        · as_aux_lemma =>
          have HH := Lib.hid hH.out
          obtain ⟨za, ya⟩ := hH.out 1 (by omega)
          obtain ⟨zb, yb⟩ := hH.out 3 (by omega)
          have hlB : B < wr.heap.size := by omega
          clear hH OF2
          go_wp2_with (fail)
          refine (Bt.out _ _ _ (ssl.below (by (repeat' (first | (with_reducible assumption) | (with_reducible exact Below.refl _ _) | (with_reducible refine below_wov ?_ ?_ _) | (with_reducible refine below_drewN ?_ _) | (with_reducible refine Below.drew ?_) | (with_reducible refine Below.alloc ?_ ?_ _) | (with_reducible refine Below.setCell ?_ ?_ _) | (with_reducible exact Nat.le_refl _) | omega | (simp only [World.size_alloc, World.size_setCell, World.size_drew, Wov_size, World.heap_drewN]; omega)))))).mono ?_; rintro e w' ⟨⟨pw, cw, rfl, ho⟩, qw, rfl⟩
          obtain ⟨Bw, rfl, hAw, hBw, hHw⟩ := ho.resolve_left (by omega)
          have tw := slp_of hHw hBw
          have HW := Lib.hid hHw
          clear ho hHw ssl Bt Bu Bd sc0 sc1 ls ld dc0 dc1 dc2 dc3 dc4 dc5 dc6 dc7 dc8 dc9
          go_wp2
          obtain ⟨A7, hA7⟩ : ∃ A, wr.heap.size + (1 + qw.bl.size) = A := ⟨_, rfl⟩
          rw [hA7]
          refine wp_world (fun V => Below wr.heap.size wr V ∧ BoxM V A7 2 (some ⟨Bw, 0, none⟩) 4 cw gt ∧ HoldsA V Bw 4 gt) ⟨by (repeat' (first | (with_reducible assumption) | (with_reducible exact Below.refl _ _) | (with_reducible refine below_wov ?_ ?_ _) | (with_reducible refine below_drewN ?_ _) | (with_reducible refine Below.drew ?_) | (with_reducible refine Below.alloc ?_ ?_ _) | (with_reducible refine Below.setCell ?_ ?_ _) | (with_reducible exact Nat.le_refl _) | omega | (simp only [World.size_alloc, World.size_setCell, World.size_drew, Wov_size, World.heap_drewN]; omega))), BoxM.new tw (by rw [← hA7]; simp only [World.size_alloc, Wov_size]; omega), (HoldsA.mk hBw HW.out).below (by (repeat' (first | (with_reducible assumption) | (with_reducible exact Below.refl _ _) | (with_reducible refine below_wov ?_ ?_ _) | (with_reducible refine below_drewN ?_ _) | (with_reducible refine Below.drew ?_) | (with_reducible refine Below.alloc ?_ ?_ _) | (with_reducible refine Below.setCell ?_ ?_ _) | (with_reducible exact Nat.le_refl _) | omega | (simp only [World.size_alloc, World.size_setCell, World.size_drew, Wov_size, World.heap_drewN]; omega))))⟩ ?_
          rintro V ⟨hbV, n1, n2⟩
          have hsV := hbV.size
          have p0 := (hbV.cell (p := ⟨A1, 0, none⟩) lo).trans oc0
          have p1 := (hbV.cell (p := ⟨A1, 1, none⟩) lo).trans oc1
          have za2 := (hbV.cell (p := ⟨B, 1, none⟩) hlB).trans za
          have ya2 := (hbV.frozen (p := ⟨B, 1, none⟩) hlB).trans ya
          have zb2 := (hbV.cell (p := ⟨B, 3, none⟩) hlB).trans zb
          have yb2 := (hbV.frozen (p := ⟨B, 3, none⟩) hlB).trans yb
          have lV : A1 < V.heap.size := by omega
          have lBV : B < V.heap.size := by omega
          have n1l := n1.lt
          have n1c := n1.c0
          have n1d := n1.c1
          have n2l := n2.lt
          have k1 := (n2.holds 1 (by omega)).1
          have k2 := (n2.holds 2 (by omega)).1
          have HV := Lib.hid (HH.out.below hbV hlB)
          have M1 : ¬ A1 = B := N1
          have M2 : ¬ B = A1 := fun e => N1 e.symm
          have M3 : ¬ A7 = B := by omega
          have M4 : ¬ B = A7 := by omega
          have M5 : ¬ Bw = B := by simp only [World.size_alloc] at hAw; omega
          have M6 : ¬ B = Bw := fun e => M5 e.symm
          have v1 : IntKind.i64.wrap 1 = 1 := by decide
          have v2 : IntKind.i64.wrap 2 = 2 := by decide
          have v3 : IntKind.i64.wrap 3 = 3 := by decide
          have v6 : IntKind.i64.wrap 6 = 6 := by decide
          have hcV := Lib.hid (hc.trans (Chg.of_below (B := B) hbV))
          clear tw HW hAw hBw hA7 n1 n2 oc0 oc1 za ya zb yb lo hlB HH hc hszc hbV N1 N2 N3 N4 N5 N6 N7 hwB hBA1 hBA2 hBlt hA1
          go_region
          go_wp2
          go_roundw
          case rel =>
            refine ⟨1, by omega, rfl, ?_, ?_⟩
            · have hcV2 := hcV.out
              (repeat' (first | (with_reducible exact Chg.refl _ _) | (with_reducible assumption) | (with_reducible refine Chg.trans ?_ (Chg.set _ _ _ _)) | (with_reducible refine Chg.trans ?_ (Chg.alloc _ _ _)) | (with_reducible refine Chg.trans ?_ (Chg.wov _ _ _)) | (with_reducible refine Chg.trans ?_ (Chg.drew _ _)) | (with_reducible refine Chg.trans ?_ (Chg.drewN _ _ _))))
            · exact (HV.out.set (by omega) _).set (by omega) _
          case measure => simp [intOf]
        · as_aux_lemma =>
          have HH := Lib.hid hH.out
          obtain ⟨za, ya⟩ := hH.out 2 (by omega)
          obtain ⟨zb, yb⟩ := hH.out 6 (by omega)
          have hlB : B < wr.heap.size := by omega
          clear hH OF2
          go_wp2_with (fail)
          refine (Bu.out _ _ _ (ssl.below (by (repeat' (first | (with_reducible assumption) | (with_reducible exact Below.refl _ _) | (with_reducible refine below_wov ?_ ?_ _) | (with_reducible refine below_drewN ?_ _) | (with_reducible refine Below.drew ?_) | (with_reducible refine Below.alloc ?_ ?_ _) | (with_reducible refine Below.setCell ?_ ?_ _) | (with_reducible exact Nat.le_refl _) | omega | (simp only [World.size_alloc, World.size_setCell, World.size_drew, Wov_size, World.heap_drewN]; omega)))))).mono ?_; rintro e w' ⟨⟨pw, cw, rfl, ho⟩, qw, rfl⟩
          obtain ⟨Bw, rfl, hAw, hBw, hHw⟩ := ho.resolve_left (by omega)
          have tw := slp_of hHw hBw
          have HW := Lib.hid hHw
          clear ho hHw ssl Bt Bu Bd sc0 sc1 ls ld dc0 dc1 dc2 dc3 dc4 dc5 dc6 dc7 dc8 dc9
          go_wp2
          obtain ⟨A7, hA7⟩ : ∃ A, wr.heap.size + (1 + qw.bl.size) = A := ⟨_, rfl⟩
          rw [hA7]
          refine wp_world (fun V => Below wr.heap.size wr V ∧ BoxM V A7 2 (some ⟨Bw, 0, none⟩) 4 cw gu ∧ HoldsA V Bw 4 gu) ⟨by (repeat' (first | (with_reducible assumption) | (with_reducible exact Below.refl _ _) | (with_reducible refine below_wov ?_ ?_ _) | (with_reducible refine below_drewN ?_ _) | (with_reducible refine Below.drew ?_) | (with_reducible refine Below.alloc ?_ ?_ _) | (with_reducible refine Below.setCell ?_ ?_ _) | (with_reducible exact Nat.le_refl _) | omega | (simp only [World.size_alloc, World.size_setCell, World.size_drew, Wov_size, World.heap_drewN]; omega))), BoxM.new tw (by rw [← hA7]; simp only [World.size_alloc, Wov_size]; omega), (HoldsA.mk hBw HW.out).below (by (repeat' (first | (with_reducible assumption) | (with_reducible exact Below.refl _ _) | (with_reducible refine below_wov ?_ ?_ _) | (with_reducible refine below_drewN ?_ _) | (with_reducible refine Below.drew ?_) | (with_reducible refine Below.alloc ?_ ?_ _) | (with_reducible refine Below.setCell ?_ ?_ _) | (with_reducible exact Nat.le_refl _) | omega | (simp only [World.size_alloc, World.size_setCell, World.size_drew, Wov_size, World.heap_drewN]; omega))))⟩ ?_
          rintro V ⟨hbV, n1, n2⟩
          have hsV := hbV.size
          have p0 := (hbV.cell (p := ⟨A1, 0, none⟩) lo).trans oc0
          have p1 := (hbV.cell (p := ⟨A1, 1, none⟩) lo).trans oc1
          have za2 := (hbV.cell (p := ⟨B, 2, none⟩) hlB).trans za
          have ya2 := (hbV.frozen (p := ⟨B, 2, none⟩) hlB).trans ya
          have zb2 := (hbV.cell (p := ⟨B, 6, none⟩) hlB).trans zb
          have yb2 := (hbV.frozen (p := ⟨B, 6, none⟩) hlB).trans yb
          have lV : A1 < V.heap.size := by omega
          have lBV : B < V.heap.size := by omega
          have n1l := n1.lt
          have n1c := n1.c0
          have n1d := n1.c1
          have n2l := n2.lt
          have k1 := (n2.holds 1 (by omega)).1
          have k2 := (n2.holds 2 (by omega)).1
          have HV := Lib.hid (HH.out.below hbV hlB)
          have M1 : ¬ A1 = B := N1
          have M2 : ¬ B = A1 := fun e => N1 e.symm
          have M3 : ¬ A7 = B := by omega
          have M4 : ¬ B = A7 := by omega
          have M5 : ¬ Bw = B := by simp only [World.size_alloc] at hAw; omega
          have M6 : ¬ B = Bw := fun e => M5 e.symm
          have v1 : IntKind.i64.wrap 1 = 1 := by decide
          have v2 : IntKind.i64.wrap 2 = 2 := by decide
          have v3 : IntKind.i64.wrap 3 = 3 := by decide
          have v6 : IntKind.i64.wrap 6 = 6 := by decide
          have hcV := Lib.hid (hc.trans (Chg.of_below (B := B) hbV))
          clear tw HW hAw hBw hA7 n1 n2 oc0 oc1 za ya zb yb lo hlB HH hc hszc hbV N1 N2 N3 N4 N5 N6 N7 hwB hBA1 hBA2 hBlt hA1
          go_region
          go_wp2
          go_roundw
          case rel =>
            refine ⟨2, by omega, rfl, ?_, ?_⟩
            · have hcV2 := hcV.out
              (repeat' (first | (with_reducible exact Chg.refl _ _) | (with_reducible assumption) | (with_reducible refine Chg.trans ?_ (Chg.set _ _ _ _)) | (with_reducible refine Chg.trans ?_ (Chg.alloc _ _ _)) | (with_reducible refine Chg.trans ?_ (Chg.wov _ _ _)) | (with_reducible refine Chg.trans ?_ (Chg.drew _ _)) | (with_reducible refine Chg.trans ?_ (Chg.drewN _ _ _))))
            · exact (HV.out.set (by omega) _).set (by omega) _
          case measure => simp [intOf]
        · as_aux_lemma =>
          have HH := Lib.hid hH.out
          obtain ⟨za, ya⟩ := hH.out 5 (by omega)
          obtain ⟨zb, yb⟩ := hH.out 7 (by omega)
          have hlB : B < wr.heap.size := by omega
          clear hH ssl
          have l7 := X7.out.lt
          have e0 := (hc.cell (x := 0) l7 N3).trans X7.out.c0
          have e1 := (hc.cell (x := 1) l7 N3).trans X7.out.c1
          have l9 := X9.out.lt
          have k1 := (hc.cell (x := 1) l9 N7).trans (X9.out.holds 1 (by omega)).1
          have k2 := (hc.cell (x := 2) l9 N7).trans (X9.out.holds 2 (by omega)).1
          obtain ⟨zz, hzz⟩ : ∃ r, r = ofZ 3 9 (zF (spansZ gt gu gd)) := ⟨_, rfl⟩
          rw [← hzz] at OF2
          have OF3 : Hid (∀ W B c, SlP W (some ⟨B, 0, none⟩) 9 (zF (spansZ gt gu gd)) → Calls Tryz.prog 125 #[.agg #[.int .i64 3, .slice (some ⟨B, 0, none⟩) 9 c]] W (Gives W (.tuple #[.agg #[.int .i64 (zz.1 0), .int .i64 (zz.1 1), .int .i64 (zz.1 2), .int .i64 (zz.1 3), .int .i64 (zz.1 4), .int .i64 (zz.1 5)], .int .i64 zz.2]))) := OF2
          have HZ := Lib.hid hzz
          have lR := XR.out.lt
          have M1 : ¬ A1 = B := N1
          have M2 : ¬ B = A1 := fun e => N1 e.symm
          have M3 : ¬ A5 = B := N3
          have M4 : ¬ B = A5 := fun e => N3 e.symm
          have M5 : ¬ BD = B := N7
          have M6 : ¬ B = BD := fun e => N7 e.symm
          have M7 : ¬ w.heap.size + 3 = B := N5
          have M8 : ¬ B = w.heap.size + 3 := fun e => N5 e.symm
          replace l7 : A5 < wr.heap.size := by omega
          replace l9 : BD < wr.heap.size := by omega
          have lR2 : w.heap.size + 3 < wr.heap.size := by omega
          clear sc0 sc1 ls ld dc0 dc1 dc2 dc3 dc4 dc5 dc6 dc7 dc8 dc9
          have BW : Hid (Below w.heap.size w wr) := hb0.out.trans (hc.belowAt (by omega) hb0.out.size)
          clear hzz OF2 Bt Bu Bd
          go_wp2
          go_region
          go_wp2_with (fail)
          have hcz : Chg wr B (World.drew ((wr.setCell ⟨B, 5, none⟩ (.int .i64 (gd 1))).setCell ⟨B, 7, none⟩ (.int .i64 (gd 2)))) := ((Chg.set wr B 5 (.int .i64 (gd 1))).trans (Chg.set _ B 7 (.int .i64 (gd 2)))).trans (Chg.of_below (Below.drew (Below.refl _ _)))
          have hcw := hc.trans hcz
          have hbB : w.heap.size ≤ B := by omega
          refine calls_world (fun X => Below w.heap.size w X ∧ HoldsA X (w.heap.size + 3) 6 (fun _ => 0) ∧ SlP X (some ⟨B, 0, none⟩) 9 (zF (spansZ gt gu gd))) ⟨?ba, ?bb, ?sl⟩ ?_
          case ba => exact hb0.out.trans (hcw.belowAt hbB hb0.out.size)
          case bb => exact holdsA_chg XR.out hcw N5
          case sl =>
            have h1 := (HH.out.set (a := 5) (by omega) (gd 1)).set (a := 7) (by omega) (gd 2)
            exact slp_congr (slp_of (h1.of_block (W' := World.drew _) rfl) (by (first | omega | ((simp only [World.size_alloc, World.size_setCell, World.size_drew, Wov_size, World.heap_drewN, Array.size_append]) <;> omega)))) (outS_zF gt gu gd)
          rintro X ⟨hbX, hrX, hslX⟩
          clear hcz hcw hbB
          (try clear za)
          (try clear ya)
          (try clear zb)
          (try clear yb)
          (try clear k1)
          (try clear k2)
          (try clear e0)
          (try clear e1)
          (try clear l7)
          (try clear l9)
          (try clear lR)
          (try clear M1)
          (try clear M2)
          (try clear M3)
          (try clear M4)
          (try clear M5)
          (try clear M6)
          (try clear M7)
          (try clear M8)
          (try clear HH)
          (try clear lR2)
          (try clear BW)
          (try clear hc)
          (try clear hb0)
          (try clear hszc)
          (try clear lo)
          (try clear ls)
          (try clear ld)
          (try clear X1)
          (try clear X6)
          (try clear X7)
          (try clear X8)
          (try clear X9)
          (try clear XR)
          (try clear N1)
          (try clear N2)
          (try clear N3)
          (try clear N4)
          (try clear N5)
          (try clear N6)
          (try clear N7)
          (try clear hwB)
          (try clear hBA1)
          (try clear hBA2)
          (try clear hBlt)
          (try clear hlB)
          (try clear hX5)
          (try clear oc0)
          (try clear oc1)
          (try clear hA1)
          
          refine (OF3.out _ _ _ hslX).mono ?_; rintro e w' ⟨rfl, qf, rfl⟩
          clear OF3 hslX
          have e1 : RZ = zz := Eq.trans hRZ.out (Eq.trans (makeZ_00 gt gu gd) (Eq.symm HZ.out))
          clear hRZ H8 H6 HZ
          subst e1
          rename_i K3 Q2 K2 h2 K1 h1 K0 h0
          clear h2 K2 Q2 K3
          refine h0 _ _ ?_
          refine wpList_world (fun Y => Below w.heap.size w Y ∧ HoldsA Y (w.heap.size + 3) 6 (fun _ => 0)) ⟨hbX.trans ((below_Wov X qf).mono hbX.size), hrX.below (below_Wov X qf)⟩ ?_
          rintro Y ⟨hbY, hrY⟩
          clear hrX hbX
          have r0 := (hrY.holds 0 (by omega)).1
          have r1 := (hrY.holds 1 (by omega)).1
          have r2 := (hrY.holds 2 (by omega)).1
          have r3 := (hrY.holds 3 (by omega)).1
          have r4 := (hrY.holds 4 (by omega)).1
          have r5 := (hrY.holds 5 (by omega)).1
          have y0 := (hrY.holds 0 (by omega)).2
          have y1 := (hrY.holds 1 (by omega)).2
          have y2 := (hrY.holds 2 (by omega)).2
          have y3 := (hrY.holds 3 (by omega)).2
          have y4 := (hrY.holds 4 (by omega)).2
          have y5 := (hrY.holds 5 (by omega)).2
          have rl := hrY.lt
          have HRY := Lib.hid hrY
          clear hrY
          (try dsimp only)
          refine slots121 ?_
          intro t0 t1 t2 t3 t4 t5 t8 t9 t10 t11 t12 t13 t14 t15 t16 t17 t18 t19 t20 t21 t22 t23 t24 t25 t26 t27 t28 t29 t30 t31 t32 t33 t34 t35 t36 t37 t38 t39 t40 t41 t42 t43 t44 t45 t46 t47 t48 t49 t50 t51 t52 t53 t54 t55 t56 t57 t58 t59 t60 t61 t62 t63 t64 t65 t66 t67 t68 t69 t70 t71 t72 t73 t74 t75 t76 t77 t78 t79 t80 t81 t82 t83 t84 t85 t86 t87 t88 t89 t90 t91 t92 t93 t94 t95 t96 t97 t98 t99 t100 t101 t102 t103 t104 t105 t106 t107 t108 t109 t110 t111 t112 t113 t114 t115 t116 t117 t119 t120
          ((try dsimp only); repeat (first | go_values | go_skip | go_guarded | go_step | go_upon))
          refine zmake_end (A := w.heap.size + 3) (z := RZ.1) (e := RZ.2) rfl rfl HRY.out ?_
          exact gives_end rfl (by (repeat' (first | (with_reducible assumption) | (with_reducible exact Below.refl _ _) | (with_reducible refine below_wov ?_ ?_ _) | (with_reducible refine below_drewN ?_ _) | (with_reducible refine Below.drew ?_) | (with_reducible refine Below.alloc ?_ ?_ _) | (with_reducible refine Below.setCell ?_ ?_ _) | (with_reducible exact Nat.le_refl _) | omega | (simp only [World.size_alloc, World.size_setCell, World.size_drew, Wov_size, World.heap_drewN]; omega))))
    · skip
      have H6 := Lib.hid h6
      clear h6 Bt Bu Bd OF HCt HCu HCd
      have r0 := (m7_3.holds 0 (by omega)).1
      have rz0 := (m7_3.holds 0 (by omega)).2
      have r1 := (m7_3.holds 1 (by omega)).1
      have rz1 := (m7_3.holds 1 (by omega)).2
      have r2 := (m7_3.holds 2 (by omega)).1
      have rz2 := (m7_3.holds 2 (by omega)).2
      have r3 := (m7_3.holds 3 (by omega)).1
      have rz3 := (m7_3.holds 3 (by omega)).2
      have r4 := (m7_3.holds 4 (by omega)).1
      have rz4 := (m7_3.holds 4 (by omega)).2
      have r5 := (m7_3.holds 5 (by omega)).1
      have rz5 := (m7_3.holds 5 (by omega)).2
      have rl := m7_3.lt
      go_wp2
      refine bodyPost_ret (by simp [results, Tryz.results79, go_sem, r0, r1, r2, r3, r4, r5, rl]; try rfl) rfl ?_
      have e1 : RZ = (fun _ => 0, 6) := hRZ.out.trans (makeZ_6 H8.out H6.out)
      clear hRZ H8 H6
      subst e1
      exact gives_end rfl (by (repeat' (first | (with_reducible assumption) | (with_reducible exact Below.refl _ _) | (with_reducible refine below_wov ?_ ?_ _) | (with_reducible refine below_drewN ?_ _) | (with_reducible refine Below.drew ?_) | (with_reducible refine Below.alloc ?_ ?_ _) | (with_reducible refine Below.setCell ?_ ?_ _) | (with_reducible exact Nat.le_refl _) | omega | (simp only [World.size_alloc, World.size_setCell, World.size_drew, Wov_size, World.heap_drewN]; omega))))
  · skip
    have H8 := Lib.hid h8
    clear h8 Bt Bu Bd OF HCt HCu HCd CE
    have r0 := (m6_3.holds 0 (by omega)).1
    have rz0 := (m6_3.holds 0 (by omega)).2
    have r1 := (m6_3.holds 1 (by omega)).1
    have rz1 := (m6_3.holds 1 (by omega)).2
    have r2 := (m6_3.holds 2 (by omega)).1
    have rz2 := (m6_3.holds 2 (by omega)).2
    have r3 := (m6_3.holds 3 (by omega)).1
    have rz3 := (m6_3.holds 3 (by omega)).2
    have r4 := (m6_3.holds 4 (by omega)).1
    have rz4 := (m6_3.holds 4 (by omega)).2
    have r5 := (m6_3.holds 5 (by omega)).1
    have rz5 := (m6_3.holds 5 (by omega)).2
    have rl := m6_3.lt
    go_wp2
    refine bodyPost_ret (by simp [results, Tryz.results79, go_sem, r0, r1, r2, r3, r4, r5, rl]; try rfl) rfl ?_
    have e1 : RZ = (fun _ => 0, 8) := hRZ.out.trans (makeZ_8 H8.out)
    clear hRZ H8
    subst e1
    exact gives_end rfl (by (repeat' (first | (with_reducible assumption) | (with_reducible exact Below.refl _ _) | (with_reducible refine below_wov ?_ ?_ _) | (with_reducible refine below_drewN ?_ _) | (with_reducible refine Below.drew ?_) | (with_reducible refine Below.alloc ?_ ?_ _) | (with_reducible refine Below.setCell ?_ ?_ _) | (with_reducible exact Nat.le_refl _) | omega | (simp only [World.size_alloc, World.size_setCell, World.size_drew, Wov_size, World.heap_drewN]; omega))))

end Go.Proofs.YtpmpapenjcemjaaGreatDoor
