/- The law TightOrder (walk): what two have in common is the same either way round; which of two bounds more comes first turns nothing. No condition. -/
import Derived.Test.YtlcbpckinjkfeaaE9
import Derived.Test.YtlcbpckinjkfeaaD15
namespace Go.Proofs.Ytlcbpckinjkfeaa.tightOrder
open Go.ChangeShapes Go.WideShapes Go.ChangeAt Go.RowKit
set_option linter.unusedVariables false
set_option linter.unusedSimpArgs false
attribute [local go_sem] Nat.add_assoc Nat.add_lt_add_iff_left lit_lt_add

set_option maxRecDepth 100000 in
set_option maxHeartbeats 8000000 in
theorem walk (na : Int) (pa : Option Addr) (Na ca : Nat) (fa : Nat → Int) (wna : fits64 na) (nb : Int) (pb : Option Addr) (Nb cb : Nat) (fb : Nat → Int) (wnb : fits64 nb) (i : Int) (wi : (Lit.int .i64 i).wf = true) (j : Int) (wj : (Lit.int .i64 j).wf = true) (x : Int) (wx : (Lit.int .i64 x).wf = true) (k : Int) (wk : (Lit.int .i64 k).wf = true) (y : Int) (wy : (Lit.int .i64 y).wf = true) (w : World) (hSa : SlP w pa Na fa) (hFa : Fits Na fa) (hNa : Na ≤ maxLen) (hSb : SlP w pb Nb fb) (hFb : Fits Nb fb) (hNb : Nb ≤ maxLen) :
    Calls Try.prog 7 #[.agg #[.int .i64 na, .slice pa Na ca], .agg #[.int .i64 nb, .slice pb Nb cb], .int .i64 i, .int .i64 j, .int .i64 x, .int .i64 k, .int .i64 y] w (Gives w (.bool true)) := by
  have wx := fits_of_wf wx
  have wy := fits_of_wf wy
  have HA := Lib.hid alive5
  unfold maxLen at hNa hNb
  by_cases hbig : 1000 < Na ∨ 1000 < Nb
  · clear hSa hSb hFa hFb
    rcases hbig with hb | hb
    · go_enter Try.func7, Try.ntmps7
      go_wp2_with (fail)
      refine (HA.out _).mono ?_; rintro e w' ⟨rfl, p1, rfl⟩
      go_wp2
      all_goals
        go_ret
        exact gives_bool rfl (by (repeat' (first | (with_reducible assumption) | (with_reducible exact Below.refl _ _) | (with_reducible refine below_wov ?_ ?_ _) | (with_reducible refine below_drewN ?_ _) | (with_reducible refine Below.drew ?_) | (with_reducible refine Below.alloc ?_ ?_ _) | (with_reducible refine Below.setCell ?_ ?_ _) | (with_reducible exact Nat.le_refl _) | omega | (simp only [World.size_alloc, World.size_setCell, World.size_drew, Wov_size, World.heap_drewN]; omega))))
    · by_cases hb2 : 1000 < Na
      all_goals
        go_enter Try.func7, Try.ntmps7
        go_wp2_with (fail)
        refine (HA.out _).mono ?_; rintro e w' ⟨rfl, p1, rfl⟩
        go_wp2
        all_goals
          go_ret
          exact gives_bool rfl (by (repeat' (first | (with_reducible assumption) | (with_reducible exact Below.refl _ _) | (with_reducible refine below_wov ?_ ?_ _) | (with_reducible refine below_drewN ?_ _) | (with_reducible refine Below.drew ?_) | (with_reducible refine Below.alloc ?_ ?_ _) | (with_reducible refine Below.setCell ?_ ?_ _) | (with_reducible exact Nat.le_refl _) | omega | (simp only [World.size_alloc, World.size_setCell, World.size_drew, Wov_size, World.heap_drewN]; omega))))
  · have hNa3 : Na ≤ 1000 := by omega
    have hNb3 : Nb ≤ 1000 := by omega
    obtain ⟨⟨x1, X1, g1, e1⟩, h_1⟩ : ∃ r, r = meetM na Na fa nb Nb fb := ⟨_, rfl⟩
    obtain ⟨⟨x3, X3, g3, e3⟩, h_3⟩ : ∃ r, r = closeM na Na fa := ⟨_, rfl⟩
    obtain ⟨⟨y1, Y1, h1, l⟩, h_5⟩ : ∃ r, r = setM na Na fa i j x := ⟨_, rfl⟩
    obtain ⟨⟨y2, Y2, h2, mm⟩, h_6⟩ : ∃ r, r = setM na Na fa j k y := ⟨_, rfl⟩
    obtain ⟨⟨z1, Z1, k1, e7⟩, h_7⟩ : ∃ r, r = setM y1 Y1 h1 j k y := ⟨_, rfl⟩
    obtain ⟨⟨z2, Z2, k2, e8⟩, h_8⟩ : ∃ r, r = setM y2 Y2 h2 i j x := ⟨_, rfl⟩
    obtain ⟨s1, hs1⟩ : ∃ s, s = okD y1 Y1 h1 := ⟨_, rfl⟩
    obtain ⟨s2, hs2⟩ : ∃ s, s = okD y2 Y2 h2 := ⟨_, rfl⟩
    have o1 : MRok ⟨x1, X1, g1, e1⟩ := by rw [h_1]; exact meetM_ok _ _ _ _ _ _
    have o3 : MRok ⟨x3, X3, g3, e3⟩ := by rw [h_3]; exact closeM_ok _ _ _
    have o5 : MRok ⟨y1, Y1, h1, l⟩ := by rw [h_5]; exact setM_ok _ _ _ _ _ _
    have o6 : MRok ⟨y2, Y2, h2, mm⟩ := by rw [h_6]; exact setM_ok _ _ _ _ _ _
    have o7 : MRok ⟨z1, Z1, k1, e7⟩ := by rw [h_7]; exact setM_ok _ _ _ _ _ _
    have oZ1 : Hid (Z1 ≤ 1000000) := by have := o7.N; show Z1 ≤ 1000000; simp only at this; omega
    have MT1 : Hid (∀ W c d, SlP W pa Na fa → SlP W pb Nb fb → Calls Try.prog 40 #[.agg #[.int .i64 na, .slice pa Na c], .agg #[.int .i64 nb, .slice pb Nb d]] W (matC W x1 X1 g1 e1)) := fun W c d h g => by
      have := meet_any na pa Na c fa nb pb Nb d fb W wna wnb h g hFa hFb (by omega) (by omega)
      rwa [← h_1] at this
    have MT2 : Hid (∀ W c d, SlP W pb Nb fb → SlP W pa Na fa → Calls Try.prog 40 #[.agg #[.int .i64 nb, .slice pb Nb c], .agg #[.int .i64 na, .slice pa Na d]] W (matC W x1 X1 g1 e1)) := fun W c d h g => by
      have := meet_any nb pb Nb c fb na pa Na d fa W wnb wna h g hFb hFa (by omega) (by omega)
      rwa [meetM_comm, ← h_1] at this
    have MT3 : Hid (∀ W c d, SlP W pa Na fa → SlP W pa Na fa → Calls Try.prog 40 #[.agg #[.int .i64 na, .slice pa Na c], .agg #[.int .i64 na, .slice pa Na d]] W (matC W x3 X3 g3 e3)) := fun W c d h g => by
      have := meet_any na pa Na c fa na pa Na d fa W wna wna h g hFa hFa (by omega) (by omega)
      rwa [meetM_self, ← h_3] at this
    have CL : Hid (∀ W c, SlP W pa Na fa → Calls Try.prog 29 #[.agg #[.int .i64 na, .slice pa Na c]] W (matC W x3 X3 g3 e3)) := fun W c h => by
      have := closeM_any na pa Na c fa W wna h hFa (by omega)
      rwa [← h_3] at this
    have SM : Hid (∀ (a1 : Int) (M1 : Nat) (r1 : Nat → Int) (a2 : Int) (M2 : Nat) (r2 : Nat → Int), sameB a1 M1 r1 a2 M2 r2 = true → M1 ≤ 1000000 → ∀ W p q c d, SlP W p M1 r1 → SlP W q M2 r2 → Calls Try.prog 34 #[.agg #[.int .i64 a1, .slice p M1 c], .agg #[.int .i64 a2, .slice q M2 d]] W (Gives W (.bool true))) := fun a1 M1 r1 a2 M2 r2 hs hM W p q c d h g => by
      have := refSame_any a1 a2 p q M1 M2 c d r1 r2 W h g hM
      rwa [hs] at this
    have SM1 := Lib.hid (SM.out x1 X1 g1 x1 X1 g1 (sameB_refl _ _ _) (by have := o1.N; simp only at this; omega))
    have SM2 := Lib.hid (SM.out x3 X3 g3 x3 X3 g3 (sameB_refl _ _ _) (by have := o3.N; simp only at this; omega))
    have ST1 : Hid (∀ W, SlP W pa Na fa → Calls Try.prog 39 #[.agg #[.int .i64 na, .slice pa Na ca], .int .i64 i, .int .i64 j, .int .i64 x] W (matC W y1 Y1 h1 l)) := fun W h => by
      have := set_any na pa Na ca fa i j x W wna h hFa (by omega) wx
      rwa [← h_5] at this
    have ST2 : Hid (∀ W, SlP W pa Na fa → Calls Try.prog 39 #[.agg #[.int .i64 na, .slice pa Na ca], .int .i64 j, .int .i64 k, .int .i64 y] W (matC W y2 Y2 h2 mm)) := fun W h => by
      have := set_any na pa Na ca fa j k y W wna h hFa (by omega) wy
      rwa [← h_6] at this
    have ST3 : Hid (∀ W p c, SlP W p Y1 h1 → Calls Try.prog 39 #[.agg #[.int .i64 y1, .slice p Y1 c], .int .i64 j, .int .i64 k, .int .i64 y] W (matC W z1 Z1 k1 e7)) := fun W p c h => by
      have := set_any y1 p Y1 c h1 j k y W o5.n h o5.f (by have := o5.N; simp only at this; omega) wy
      rwa [← h_7] at this
    have ST4 : Hid (∀ W p c, SlP W p Y2 h2 → Calls Try.prog 39 #[.agg #[.int .i64 y2, .slice p Y2 c], .int .i64 i, .int .i64 j, .int .i64 x] W (matC W z2 Z2 k2 e8)) := fun W p c h => by
      have := set_any y2 p Y2 c h2 i j x W o6.n h o6.f (by have := o6.N; simp only at this; omega) wx
      rwa [← h_8] at this
    have CP : Hid (∀ W p c, SlP W p Y1 h1 → Calls Try.prog 35 #[.agg #[.int .i64 y1, .slice p Y1 c]] W (Gives W (.int .i64 (rcode s1)))) := fun W p c h => by
      have := dbmCheck_any y1 p Y1 c h1 W o5.n h o5.f (by have := o5.N; simp only at this; omega)
      rwa [← hs1] at this
    have CQ : Hid (∀ W p c, SlP W p Y2 h2 → Calls Try.prog 35 #[.agg #[.int .i64 y2, .slice p Y2 c]] W (Gives W (.int .i64 (rcode s2)))) := fun W p c h => by
      have := dbmCheck_any y2 p Y2 c h2 W o6.n h o6.f (by have := o6.N; simp only at this; omega)
      rwa [← hs2] at this
    have ORD : Hid (l = 0 → mm = 0 → s1 = true → s2 = true → e7 = e8 ∧ sameB z1 Z1 k1 z2 Z2 k2 = true) := fun a b c d => by
      have := set_order h_5 h_6 a b (by rw [← c]; exact hs1.symm) (by rw [← d]; exact hs2.symm)
      show (MR.mk z1 Z1 k1 e7).e = (MR.mk z2 Z2 k2 e8).e ∧ sameM ⟨z1, Z1, k1, e7⟩ ⟨z2, Z2, k2, e8⟩ = true
      rw [h_7, h_8]; exact this
    have SA := Lib.hid hSa
    have SB := Lib.hid hSb
    clear h_1 h_3 h_5 h_6 h_7 h_8 hs1 hs2 o1 o3 o5 o6 o7 hSa hSb hFa hFb hbig wna wnb wi wj wk wx wy
    go_enter Try.func7, Try.ntmps7
    go_wp2_with (fail)
    refine calls_world (fun W => Below w.heap.size w W ∧ BoxM W w.heap.size na pa Na ca fa ∧ BoxM W (w.heap.size + 1) nb pb Nb cb fb) ⟨by (repeat' (first | (with_reducible assumption) | (with_reducible exact Below.refl _ _) | (with_reducible refine below_wov ?_ ?_ _) | (with_reducible refine below_drewN ?_ _) | (with_reducible refine Below.drew ?_) | (with_reducible refine Below.alloc ?_ ?_ _) | (with_reducible refine Below.setCell ?_ ?_ _) | (with_reducible exact Nat.le_refl _) | omega | (simp only [World.size_alloc, World.size_setCell, World.size_drew, Wov_size, World.heap_drewN]; omega))), (BoxM.new (W := w) (t := 39) (SA.out) (by simp)).below (by (repeat' (first | (with_reducible assumption) | (with_reducible exact Below.refl _ _) | (with_reducible refine below_wov ?_ ?_ _) | (with_reducible refine below_drewN ?_ _) | (with_reducible refine Below.drew ?_) | (with_reducible refine Below.alloc ?_ ?_ _) | (with_reducible refine Below.setCell ?_ ?_ _) | (with_reducible exact Nat.le_refl _) | omega | (simp only [World.size_alloc, World.size_setCell, World.size_drew, Wov_size, World.heap_drewN]; omega)))), (BoxM.new (W := (World.alloc w (.cells #[.int .i64 na, .slice pa Na ca] 39))) (t := 39) (SlP.below SB.out (by (repeat' (first | (with_reducible assumption) | (with_reducible exact Below.refl _ _) | (with_reducible refine below_wov ?_ ?_ _) | (with_reducible refine below_drewN ?_ _) | (with_reducible refine Below.drew ?_) | (with_reducible refine Below.alloc ?_ ?_ _) | (with_reducible refine Below.setCell ?_ ?_ _) | (with_reducible exact Nat.le_refl _) | omega | (simp only [World.size_alloc, World.size_setCell, World.size_drew, Wov_size, World.heap_drewN]; omega))))) (by simp)).below (by (repeat' (first | (with_reducible assumption) | (with_reducible exact Below.refl _ _) | (with_reducible refine below_wov ?_ ?_ _) | (with_reducible refine below_drewN ?_ _) | (with_reducible refine Below.drew ?_) | (with_reducible refine Below.alloc ?_ ?_ _) | (with_reducible refine Below.setCell ?_ ?_ _) | (with_reducible exact Nat.le_refl _) | omega | (simp only [World.size_alloc, World.size_setCell, World.size_drew, Wov_size, World.heap_drewN]; omega))))⟩ ?_
    rintro W1 ⟨hb1, m1_0, m1_1⟩
    have l1_0 := m1_0.lt
    have c1_0 := m1_0.c0
    have d1_0 := m1_0.c1
    have l1_1 := m1_1.lt
    have c1_1 := m1_1.c0
    have d1_1 := m1_1.c1
    refine (HA.out _).mono ?_; rintro e w' ⟨rfl, q0, rfl⟩
    go_wp2_with (fail)
    refine calls_world (fun W => Below w.heap.size w W ∧ BoxM W w.heap.size na pa Na ca fa ∧ BoxM W (w.heap.size + 1) nb pb Nb cb fb) ⟨by (repeat' (first | (with_reducible assumption) | (with_reducible exact Below.refl _ _) | (with_reducible refine below_wov ?_ ?_ _) | (with_reducible refine below_drewN ?_ _) | (with_reducible refine Below.drew ?_) | (with_reducible refine Below.alloc ?_ ?_ _) | (with_reducible refine Below.setCell ?_ ?_ _) | (with_reducible exact Nat.le_refl _) | omega | (simp only [World.size_alloc, World.size_setCell, World.size_drew, Wov_size, World.heap_drewN]; omega))), m1_0.below (by (repeat' (first | (with_reducible assumption) | (with_reducible exact Below.refl _ _) | (with_reducible refine below_wov ?_ ?_ _) | (with_reducible refine below_drewN ?_ _) | (with_reducible refine Below.drew ?_) | (with_reducible refine Below.alloc ?_ ?_ _) | (with_reducible refine Below.setCell ?_ ?_ _) | (with_reducible exact Nat.le_refl _) | omega | (simp only [World.size_alloc, World.size_setCell, World.size_drew, Wov_size, World.heap_drewN]; omega)))), m1_1.below (by (repeat' (first | (with_reducible assumption) | (with_reducible exact Below.refl _ _) | (with_reducible refine below_wov ?_ ?_ _) | (with_reducible refine below_drewN ?_ _) | (with_reducible refine Below.drew ?_) | (with_reducible refine Below.alloc ?_ ?_ _) | (with_reducible refine Below.setCell ?_ ?_ _) | (with_reducible exact Nat.le_refl _) | omega | (simp only [World.size_alloc, World.size_setCell, World.size_drew, Wov_size, World.heap_drewN]; omega))))⟩ ?_
    rintro W2 ⟨hb2, m2_0, m2_1⟩
    have l2_0 := m2_0.lt
    have c2_0 := m2_0.c0
    have d2_0 := m2_0.c1
    have l2_1 := m2_1.lt
    have c2_1 := m2_1.c0
    have d2_1 := m2_1.c1
    clear hb1 l1_0 c1_0 d1_0 m1_0 l1_1 c1_1 d1_1 m1_1
    refine (MT1.out _ _ _ m2_0.sl m2_1.sl).mono ?_; rintro e w' ⟨⟨p1, c1, rfl, ho⟩, q1, rfl⟩
    have tp1 := ho.slp
    clear ho
    go_wp2_with (fail)
    obtain ⟨A1, hA1⟩ : ∃ A, W2.heap.size + q1.bl.size = A := ⟨_, rfl⟩
    rw [hA1]
    refine calls_world (fun W => Below w.heap.size w W ∧ BoxM W w.heap.size na pa Na ca fa ∧ BoxM W (w.heap.size + 1) nb pb Nb cb fb ∧ BoxM W A1 x1 p1 X1 c1 g1) ⟨by (repeat' (first | (with_reducible assumption) | (with_reducible exact Below.refl _ _) | (with_reducible refine below_wov ?_ ?_ _) | (with_reducible refine below_drewN ?_ _) | (with_reducible refine Below.drew ?_) | (with_reducible refine Below.alloc ?_ ?_ _) | (with_reducible refine Below.setCell ?_ ?_ _) | (with_reducible exact Nat.le_refl _) | omega | (simp only [World.size_alloc, World.size_setCell, World.size_drew, Wov_size, World.heap_drewN]; omega))), m2_0.below (by (repeat' (first | (with_reducible assumption) | (with_reducible exact Below.refl _ _) | (with_reducible refine below_wov ?_ ?_ _) | (with_reducible refine below_drewN ?_ _) | (with_reducible refine Below.drew ?_) | (with_reducible refine Below.alloc ?_ ?_ _) | (with_reducible refine Below.setCell ?_ ?_ _) | (with_reducible exact Nat.le_refl _) | omega | (simp only [World.size_alloc, World.size_setCell, World.size_drew, Wov_size, World.heap_drewN]; omega)))), m2_1.below (by (repeat' (first | (with_reducible assumption) | (with_reducible exact Below.refl _ _) | (with_reducible refine below_wov ?_ ?_ _) | (with_reducible refine below_drewN ?_ _) | (with_reducible refine Below.drew ?_) | (with_reducible refine Below.alloc ?_ ?_ _) | (with_reducible refine Below.setCell ?_ ?_ _) | (with_reducible exact Nat.le_refl _) | omega | (simp only [World.size_alloc, World.size_setCell, World.size_drew, Wov_size, World.heap_drewN]; omega)))), BoxM.new (tp1) (by rw [← hA1]; (try simp only [Wov_size]))⟩ ?_
    rintro W3 ⟨hb3, m3_0, m3_1, m3_2⟩
    have l3_0 := m3_0.lt
    have c3_0 := m3_0.c0
    have d3_0 := m3_0.c1
    have l3_1 := m3_1.lt
    have c3_1 := m3_1.c0
    have d3_1 := m3_1.c1
    have l3_2 := m3_2.lt
    have c3_2 := m3_2.c0
    have d3_2 := m3_2.c1
    clear hb2 l2_0 c2_0 d2_0 m2_0 l2_1 c2_1 d2_1 m2_1
    clear tp1
    refine (MT2.out _ _ _ m3_1.sl m3_0.sl).mono ?_; rintro e w' ⟨⟨p2, c2, rfl, ho⟩, q2, rfl⟩
    have tp2 := ho.slp
    clear ho
    go_wp2_with (fail)
    obtain ⟨A2, hA2⟩ : ∃ A, W3.heap.size + q2.bl.size = A := ⟨_, rfl⟩
    rw [hA2]
    refine calls_world (fun W => Below w.heap.size w W ∧ BoxM W w.heap.size na pa Na ca fa ∧ BoxM W (w.heap.size + 1) nb pb Nb cb fb ∧ BoxM W A1 x1 p1 X1 c1 g1 ∧ BoxM W A2 x1 p2 X1 c2 g1) ⟨by (repeat' (first | (with_reducible assumption) | (with_reducible exact Below.refl _ _) | (with_reducible refine below_wov ?_ ?_ _) | (with_reducible refine below_drewN ?_ _) | (with_reducible refine Below.drew ?_) | (with_reducible refine Below.alloc ?_ ?_ _) | (with_reducible refine Below.setCell ?_ ?_ _) | (with_reducible exact Nat.le_refl _) | omega | (simp only [World.size_alloc, World.size_setCell, World.size_drew, Wov_size, World.heap_drewN]; omega))), m3_0.below (by (repeat' (first | (with_reducible assumption) | (with_reducible exact Below.refl _ _) | (with_reducible refine below_wov ?_ ?_ _) | (with_reducible refine below_drewN ?_ _) | (with_reducible refine Below.drew ?_) | (with_reducible refine Below.alloc ?_ ?_ _) | (with_reducible refine Below.setCell ?_ ?_ _) | (with_reducible exact Nat.le_refl _) | omega | (simp only [World.size_alloc, World.size_setCell, World.size_drew, Wov_size, World.heap_drewN]; omega)))), m3_1.below (by (repeat' (first | (with_reducible assumption) | (with_reducible exact Below.refl _ _) | (with_reducible refine below_wov ?_ ?_ _) | (with_reducible refine below_drewN ?_ _) | (with_reducible refine Below.drew ?_) | (with_reducible refine Below.alloc ?_ ?_ _) | (with_reducible refine Below.setCell ?_ ?_ _) | (with_reducible exact Nat.le_refl _) | omega | (simp only [World.size_alloc, World.size_setCell, World.size_drew, Wov_size, World.heap_drewN]; omega)))), m3_2.below (by (repeat' (first | (with_reducible assumption) | (with_reducible exact Below.refl _ _) | (with_reducible refine below_wov ?_ ?_ _) | (with_reducible refine below_drewN ?_ _) | (with_reducible refine Below.drew ?_) | (with_reducible refine Below.alloc ?_ ?_ _) | (with_reducible refine Below.setCell ?_ ?_ _) | (with_reducible exact Nat.le_refl _) | omega | (simp only [World.size_alloc, World.size_setCell, World.size_drew, Wov_size, World.heap_drewN]; omega)))), BoxM.new (tp2) (by rw [← hA2]; (try simp only [Wov_size]))⟩ ?_
    rintro W4 ⟨hb4, m4_0, m4_1, m4_2, m4_3⟩
    have l4_0 := m4_0.lt
    have c4_0 := m4_0.c0
    have d4_0 := m4_0.c1
    have l4_1 := m4_1.lt
    have c4_1 := m4_1.c0
    have d4_1 := m4_1.c1
    have l4_2 := m4_2.lt
    have c4_2 := m4_2.c0
    have d4_2 := m4_2.c1
    have l4_3 := m4_3.lt
    have c4_3 := m4_3.c0
    have d4_3 := m4_3.c1
    clear hb3 l3_0 c3_0 d3_0 m3_0 l3_1 c3_1 d3_1 m3_1 l3_2 c3_2 d3_2 m3_2
    clear tp2
    refine (MT3.out _ _ _ m4_0.sl m4_0.sl).mono ?_; rintro e w' ⟨⟨p3, c3, rfl, ho⟩, q3, rfl⟩
    have tp3 := ho.slp
    clear ho
    go_wp2_with (fail)
    obtain ⟨A3, hA3⟩ : ∃ A, W4.heap.size + q3.bl.size = A := ⟨_, rfl⟩
    rw [hA3]
    refine calls_world (fun W => Below w.heap.size w W ∧ BoxM W w.heap.size na pa Na ca fa ∧ BoxM W (w.heap.size + 1) nb pb Nb cb fb ∧ BoxM W A1 x1 p1 X1 c1 g1 ∧ BoxM W A2 x1 p2 X1 c2 g1 ∧ BoxM W A3 x3 p3 X3 c3 g3) ⟨by (repeat' (first | (with_reducible assumption) | (with_reducible exact Below.refl _ _) | (with_reducible refine below_wov ?_ ?_ _) | (with_reducible refine below_drewN ?_ _) | (with_reducible refine Below.drew ?_) | (with_reducible refine Below.alloc ?_ ?_ _) | (with_reducible refine Below.setCell ?_ ?_ _) | (with_reducible exact Nat.le_refl _) | omega | (simp only [World.size_alloc, World.size_setCell, World.size_drew, Wov_size, World.heap_drewN]; omega))), m4_0.below (by (repeat' (first | (with_reducible assumption) | (with_reducible exact Below.refl _ _) | (with_reducible refine below_wov ?_ ?_ _) | (with_reducible refine below_drewN ?_ _) | (with_reducible refine Below.drew ?_) | (with_reducible refine Below.alloc ?_ ?_ _) | (with_reducible refine Below.setCell ?_ ?_ _) | (with_reducible exact Nat.le_refl _) | omega | (simp only [World.size_alloc, World.size_setCell, World.size_drew, Wov_size, World.heap_drewN]; omega)))), m4_1.below (by (repeat' (first | (with_reducible assumption) | (with_reducible exact Below.refl _ _) | (with_reducible refine below_wov ?_ ?_ _) | (with_reducible refine below_drewN ?_ _) | (with_reducible refine Below.drew ?_) | (with_reducible refine Below.alloc ?_ ?_ _) | (with_reducible refine Below.setCell ?_ ?_ _) | (with_reducible exact Nat.le_refl _) | omega | (simp only [World.size_alloc, World.size_setCell, World.size_drew, Wov_size, World.heap_drewN]; omega)))), m4_2.below (by (repeat' (first | (with_reducible assumption) | (with_reducible exact Below.refl _ _) | (with_reducible refine below_wov ?_ ?_ _) | (with_reducible refine below_drewN ?_ _) | (with_reducible refine Below.drew ?_) | (with_reducible refine Below.alloc ?_ ?_ _) | (with_reducible refine Below.setCell ?_ ?_ _) | (with_reducible exact Nat.le_refl _) | omega | (simp only [World.size_alloc, World.size_setCell, World.size_drew, Wov_size, World.heap_drewN]; omega)))), m4_3.below (by (repeat' (first | (with_reducible assumption) | (with_reducible exact Below.refl _ _) | (with_reducible refine below_wov ?_ ?_ _) | (with_reducible refine below_drewN ?_ _) | (with_reducible refine Below.drew ?_) | (with_reducible refine Below.alloc ?_ ?_ _) | (with_reducible refine Below.setCell ?_ ?_ _) | (with_reducible exact Nat.le_refl _) | omega | (simp only [World.size_alloc, World.size_setCell, World.size_drew, Wov_size, World.heap_drewN]; omega)))), BoxM.new (tp3) (by rw [← hA3]; (try simp only [Wov_size]))⟩ ?_
    rintro W5 ⟨hb5, m5_0, m5_1, m5_2, m5_3, m5_4⟩
    have l5_0 := m5_0.lt
    have c5_0 := m5_0.c0
    have d5_0 := m5_0.c1
    have l5_1 := m5_1.lt
    have c5_1 := m5_1.c0
    have d5_1 := m5_1.c1
    have l5_2 := m5_2.lt
    have c5_2 := m5_2.c0
    have d5_2 := m5_2.c1
    have l5_3 := m5_3.lt
    have c5_3 := m5_3.c0
    have d5_3 := m5_3.c1
    have l5_4 := m5_4.lt
    have c5_4 := m5_4.c0
    have d5_4 := m5_4.c1
    clear hb4 l4_0 c4_0 d4_0 m4_0 l4_1 c4_1 d4_1 m4_1 l4_2 c4_2 d4_2 m4_2 l4_3 c4_3 d4_3 m4_3
    clear tp3
    refine (CL.out _ _ m5_0.sl).mono ?_; rintro e w' ⟨⟨p4, c4, rfl, ho⟩, q4, rfl⟩
    have tp4 := ho.slp
    clear ho
    go_wp2_with (fail)
    obtain ⟨A4, hA4⟩ : ∃ A, W5.heap.size + q4.bl.size = A := ⟨_, rfl⟩
    rw [hA4]
    refine calls_world (fun W => Below w.heap.size w W ∧ BoxM W w.heap.size na pa Na ca fa ∧ BoxM W (w.heap.size + 1) nb pb Nb cb fb ∧ BoxM W A1 x1 p1 X1 c1 g1 ∧ BoxM W A2 x1 p2 X1 c2 g1 ∧ BoxM W A3 x3 p3 X3 c3 g3 ∧ BoxM W A4 x3 p4 X3 c4 g3) ⟨by (repeat' (first | (with_reducible assumption) | (with_reducible exact Below.refl _ _) | (with_reducible refine below_wov ?_ ?_ _) | (with_reducible refine below_drewN ?_ _) | (with_reducible refine Below.drew ?_) | (with_reducible refine Below.alloc ?_ ?_ _) | (with_reducible refine Below.setCell ?_ ?_ _) | (with_reducible exact Nat.le_refl _) | omega | (simp only [World.size_alloc, World.size_setCell, World.size_drew, Wov_size, World.heap_drewN]; omega))), m5_0.below (by (repeat' (first | (with_reducible assumption) | (with_reducible exact Below.refl _ _) | (with_reducible refine below_wov ?_ ?_ _) | (with_reducible refine below_drewN ?_ _) | (with_reducible refine Below.drew ?_) | (with_reducible refine Below.alloc ?_ ?_ _) | (with_reducible refine Below.setCell ?_ ?_ _) | (with_reducible exact Nat.le_refl _) | omega | (simp only [World.size_alloc, World.size_setCell, World.size_drew, Wov_size, World.heap_drewN]; omega)))), m5_1.below (by (repeat' (first | (with_reducible assumption) | (with_reducible exact Below.refl _ _) | (with_reducible refine below_wov ?_ ?_ _) | (with_reducible refine below_drewN ?_ _) | (with_reducible refine Below.drew ?_) | (with_reducible refine Below.alloc ?_ ?_ _) | (with_reducible refine Below.setCell ?_ ?_ _) | (with_reducible exact Nat.le_refl _) | omega | (simp only [World.size_alloc, World.size_setCell, World.size_drew, Wov_size, World.heap_drewN]; omega)))), m5_2.below (by (repeat' (first | (with_reducible assumption) | (with_reducible exact Below.refl _ _) | (with_reducible refine below_wov ?_ ?_ _) | (with_reducible refine below_drewN ?_ _) | (with_reducible refine Below.drew ?_) | (with_reducible refine Below.alloc ?_ ?_ _) | (with_reducible refine Below.setCell ?_ ?_ _) | (with_reducible exact Nat.le_refl _) | omega | (simp only [World.size_alloc, World.size_setCell, World.size_drew, Wov_size, World.heap_drewN]; omega)))), m5_3.below (by (repeat' (first | (with_reducible assumption) | (with_reducible exact Below.refl _ _) | (with_reducible refine below_wov ?_ ?_ _) | (with_reducible refine below_drewN ?_ _) | (with_reducible refine Below.drew ?_) | (with_reducible refine Below.alloc ?_ ?_ _) | (with_reducible refine Below.setCell ?_ ?_ _) | (with_reducible exact Nat.le_refl _) | omega | (simp only [World.size_alloc, World.size_setCell, World.size_drew, Wov_size, World.heap_drewN]; omega)))), m5_4.below (by (repeat' (first | (with_reducible assumption) | (with_reducible exact Below.refl _ _) | (with_reducible refine below_wov ?_ ?_ _) | (with_reducible refine below_drewN ?_ _) | (with_reducible refine Below.drew ?_) | (with_reducible refine Below.alloc ?_ ?_ _) | (with_reducible refine Below.setCell ?_ ?_ _) | (with_reducible exact Nat.le_refl _) | omega | (simp only [World.size_alloc, World.size_setCell, World.size_drew, Wov_size, World.heap_drewN]; omega)))), BoxM.new (tp4) (by rw [← hA4]; (try simp only [Wov_size]))⟩ ?_
    rintro W6 ⟨hb6, m6_0, m6_1, m6_2, m6_3, m6_4, m6_5⟩
    have l6_0 := m6_0.lt
    have c6_0 := m6_0.c0
    have d6_0 := m6_0.c1
    have l6_1 := m6_1.lt
    have c6_1 := m6_1.c0
    have d6_1 := m6_1.c1
    have l6_2 := m6_2.lt
    have c6_2 := m6_2.c0
    have d6_2 := m6_2.c1
    have l6_3 := m6_3.lt
    have c6_3 := m6_3.c0
    have d6_3 := m6_3.c1
    have l6_4 := m6_4.lt
    have c6_4 := m6_4.c0
    have d6_4 := m6_4.c1
    have l6_5 := m6_5.lt
    have c6_5 := m6_5.c0
    have d6_5 := m6_5.c1
    clear hb5 l5_0 c5_0 d5_0 m5_0 l5_1 c5_1 d5_1 m5_1 l5_2 c5_2 d5_2 m5_2 l5_3 c5_3 d5_3 m5_3 l5_4 c5_4 d5_4 m5_4
    clear tp4
    refine (SM1.out _ _ _ _ _ m6_2.sl m6_3.sl).mono ?_; rintro e w' ⟨rfl, q5, rfl⟩
    go_wp2_with (fail)
    refine calls_world (fun W => Below w.heap.size w W ∧ BoxM W w.heap.size na pa Na ca fa ∧ BoxM W (w.heap.size + 1) nb pb Nb cb fb ∧ BoxM W A1 x1 p1 X1 c1 g1 ∧ BoxM W A2 x1 p2 X1 c2 g1 ∧ BoxM W A3 x3 p3 X3 c3 g3 ∧ BoxM W A4 x3 p4 X3 c4 g3) ⟨by (repeat' (first | (with_reducible assumption) | (with_reducible exact Below.refl _ _) | (with_reducible refine below_wov ?_ ?_ _) | (with_reducible refine below_drewN ?_ _) | (with_reducible refine Below.drew ?_) | (with_reducible refine Below.alloc ?_ ?_ _) | (with_reducible refine Below.setCell ?_ ?_ _) | (with_reducible exact Nat.le_refl _) | omega | (simp only [World.size_alloc, World.size_setCell, World.size_drew, Wov_size, World.heap_drewN]; omega))), m6_0.below (by (repeat' (first | (with_reducible assumption) | (with_reducible exact Below.refl _ _) | (with_reducible refine below_wov ?_ ?_ _) | (with_reducible refine below_drewN ?_ _) | (with_reducible refine Below.drew ?_) | (with_reducible refine Below.alloc ?_ ?_ _) | (with_reducible refine Below.setCell ?_ ?_ _) | (with_reducible exact Nat.le_refl _) | omega | (simp only [World.size_alloc, World.size_setCell, World.size_drew, Wov_size, World.heap_drewN]; omega)))), m6_1.below (by (repeat' (first | (with_reducible assumption) | (with_reducible exact Below.refl _ _) | (with_reducible refine below_wov ?_ ?_ _) | (with_reducible refine below_drewN ?_ _) | (with_reducible refine Below.drew ?_) | (with_reducible refine Below.alloc ?_ ?_ _) | (with_reducible refine Below.setCell ?_ ?_ _) | (with_reducible exact Nat.le_refl _) | omega | (simp only [World.size_alloc, World.size_setCell, World.size_drew, Wov_size, World.heap_drewN]; omega)))), m6_2.below (by (repeat' (first | (with_reducible assumption) | (with_reducible exact Below.refl _ _) | (with_reducible refine below_wov ?_ ?_ _) | (with_reducible refine below_drewN ?_ _) | (with_reducible refine Below.drew ?_) | (with_reducible refine Below.alloc ?_ ?_ _) | (with_reducible refine Below.setCell ?_ ?_ _) | (with_reducible exact Nat.le_refl _) | omega | (simp only [World.size_alloc, World.size_setCell, World.size_drew, Wov_size, World.heap_drewN]; omega)))), m6_3.below (by (repeat' (first | (with_reducible assumption) | (with_reducible exact Below.refl _ _) | (with_reducible refine below_wov ?_ ?_ _) | (with_reducible refine below_drewN ?_ _) | (with_reducible refine Below.drew ?_) | (with_reducible refine Below.alloc ?_ ?_ _) | (with_reducible refine Below.setCell ?_ ?_ _) | (with_reducible exact Nat.le_refl _) | omega | (simp only [World.size_alloc, World.size_setCell, World.size_drew, Wov_size, World.heap_drewN]; omega)))), m6_4.below (by (repeat' (first | (with_reducible assumption) | (with_reducible exact Below.refl _ _) | (with_reducible refine below_wov ?_ ?_ _) | (with_reducible refine below_drewN ?_ _) | (with_reducible refine Below.drew ?_) | (with_reducible refine Below.alloc ?_ ?_ _) | (with_reducible refine Below.setCell ?_ ?_ _) | (with_reducible exact Nat.le_refl _) | omega | (simp only [World.size_alloc, World.size_setCell, World.size_drew, Wov_size, World.heap_drewN]; omega)))), m6_5.below (by (repeat' (first | (with_reducible assumption) | (with_reducible exact Below.refl _ _) | (with_reducible refine below_wov ?_ ?_ _) | (with_reducible refine below_drewN ?_ _) | (with_reducible refine Below.drew ?_) | (with_reducible refine Below.alloc ?_ ?_ _) | (with_reducible refine Below.setCell ?_ ?_ _) | (with_reducible exact Nat.le_refl _) | omega | (simp only [World.size_alloc, World.size_setCell, World.size_drew, Wov_size, World.heap_drewN]; omega))))⟩ ?_
    rintro W7 ⟨hb7, m7_0, m7_1, m7_2, m7_3, m7_4, m7_5⟩
    have l7_0 := m7_0.lt
    have c7_0 := m7_0.c0
    have d7_0 := m7_0.c1
    have l7_1 := m7_1.lt
    have c7_1 := m7_1.c0
    have d7_1 := m7_1.c1
    have l7_2 := m7_2.lt
    have c7_2 := m7_2.c0
    have d7_2 := m7_2.c1
    have l7_3 := m7_3.lt
    have c7_3 := m7_3.c0
    have d7_3 := m7_3.c1
    have l7_4 := m7_4.lt
    have c7_4 := m7_4.c0
    have d7_4 := m7_4.c1
    have l7_5 := m7_5.lt
    have c7_5 := m7_5.c0
    have d7_5 := m7_5.c1
    clear hb6 l6_0 c6_0 d6_0 m6_0 l6_1 c6_1 d6_1 m6_1 l6_2 c6_2 d6_2 m6_2 l6_3 c6_3 d6_3 m6_3 l6_4 c6_4 d6_4 m6_4 l6_5 c6_5 d6_5 m6_5
    refine (SM2.out _ _ _ _ _ m7_4.sl m7_5.sl).mono ?_; rintro e w' ⟨rfl, q6, rfl⟩
    go_wp2_with (fail)
    refine calls_world (fun W => Below w.heap.size w W ∧ BoxM W w.heap.size na pa Na ca fa ∧ BoxM W (w.heap.size + 1) nb pb Nb cb fb) ⟨by (repeat' (first | (with_reducible assumption) | (with_reducible exact Below.refl _ _) | (with_reducible refine below_wov ?_ ?_ _) | (with_reducible refine below_drewN ?_ _) | (with_reducible refine Below.drew ?_) | (with_reducible refine Below.alloc ?_ ?_ _) | (with_reducible refine Below.setCell ?_ ?_ _) | (with_reducible exact Nat.le_refl _) | omega | (simp only [World.size_alloc, World.size_setCell, World.size_drew, Wov_size, World.heap_drewN]; omega))), m7_0.below (by (repeat' (first | (with_reducible assumption) | (with_reducible exact Below.refl _ _) | (with_reducible refine below_wov ?_ ?_ _) | (with_reducible refine below_drewN ?_ _) | (with_reducible refine Below.drew ?_) | (with_reducible refine Below.alloc ?_ ?_ _) | (with_reducible refine Below.setCell ?_ ?_ _) | (with_reducible exact Nat.le_refl _) | omega | (simp only [World.size_alloc, World.size_setCell, World.size_drew, Wov_size, World.heap_drewN]; omega)))), m7_1.below (by (repeat' (first | (with_reducible assumption) | (with_reducible exact Below.refl _ _) | (with_reducible refine below_wov ?_ ?_ _) | (with_reducible refine below_drewN ?_ _) | (with_reducible refine Below.drew ?_) | (with_reducible refine Below.alloc ?_ ?_ _) | (with_reducible refine Below.setCell ?_ ?_ _) | (with_reducible exact Nat.le_refl _) | omega | (simp only [World.size_alloc, World.size_setCell, World.size_drew, Wov_size, World.heap_drewN]; omega))))⟩ ?_
    rintro W8 ⟨hb8, m8_0, m8_1⟩
    have l8_0 := m8_0.lt
    have c8_0 := m8_0.c0
    have d8_0 := m8_0.c1
    have l8_1 := m8_1.lt
    have c8_1 := m8_1.c0
    have d8_1 := m8_1.c1
    clear hb7 l7_0 c7_0 d7_0 m7_0 l7_1 c7_1 d7_1 m7_1 l7_2 c7_2 d7_2 m7_2 l7_3 c7_3 d7_3 m7_3 l7_4 c7_4 d7_4 m7_4 l7_5 c7_5 d7_5 m7_5
    refine (ST1.out _ m8_0.sl).mono ?_; rintro e w' ⟨⟨p5, c5, rfl, ho⟩, q7, rfl⟩
    have tp5 := ho.slp
    clear ho
    go_wp2_with (fail)
    obtain ⟨A5, hA5⟩ : ∃ A, W8.heap.size + q7.bl.size = A := ⟨_, rfl⟩
    rw [hA5]
    refine calls_world (fun W => Below w.heap.size w W ∧ BoxM W w.heap.size na pa Na ca fa ∧ BoxM W (w.heap.size + 1) nb pb Nb cb fb ∧ BoxM W A5 y1 p5 Y1 c5 h1) ⟨by (repeat' (first | (with_reducible assumption) | (with_reducible exact Below.refl _ _) | (with_reducible refine below_wov ?_ ?_ _) | (with_reducible refine below_drewN ?_ _) | (with_reducible refine Below.drew ?_) | (with_reducible refine Below.alloc ?_ ?_ _) | (with_reducible refine Below.setCell ?_ ?_ _) | (with_reducible exact Nat.le_refl _) | omega | (simp only [World.size_alloc, World.size_setCell, World.size_drew, Wov_size, World.heap_drewN]; omega))), m8_0.below (by (repeat' (first | (with_reducible assumption) | (with_reducible exact Below.refl _ _) | (with_reducible refine below_wov ?_ ?_ _) | (with_reducible refine below_drewN ?_ _) | (with_reducible refine Below.drew ?_) | (with_reducible refine Below.alloc ?_ ?_ _) | (with_reducible refine Below.setCell ?_ ?_ _) | (with_reducible exact Nat.le_refl _) | omega | (simp only [World.size_alloc, World.size_setCell, World.size_drew, Wov_size, World.heap_drewN]; omega)))), m8_1.below (by (repeat' (first | (with_reducible assumption) | (with_reducible exact Below.refl _ _) | (with_reducible refine below_wov ?_ ?_ _) | (with_reducible refine below_drewN ?_ _) | (with_reducible refine Below.drew ?_) | (with_reducible refine Below.alloc ?_ ?_ _) | (with_reducible refine Below.setCell ?_ ?_ _) | (with_reducible exact Nat.le_refl _) | omega | (simp only [World.size_alloc, World.size_setCell, World.size_drew, Wov_size, World.heap_drewN]; omega)))), BoxM.new (tp5) (by rw [← hA5]; (try simp only [Wov_size]))⟩ ?_
    rintro W9 ⟨hb9, m9_0, m9_1, m9_2⟩
    have l9_0 := m9_0.lt
    have c9_0 := m9_0.c0
    have d9_0 := m9_0.c1
    have l9_1 := m9_1.lt
    have c9_1 := m9_1.c0
    have d9_1 := m9_1.c1
    have l9_2 := m9_2.lt
    have c9_2 := m9_2.c0
    have d9_2 := m9_2.c1
    clear hb8 l8_0 c8_0 d8_0 m8_0 l8_1 c8_1 d8_1 m8_1
    clear tp5
    refine (ST2.out _ m9_0.sl).mono ?_; rintro e w' ⟨⟨p6, c6, rfl, ho⟩, q8, rfl⟩
    have tp6 := ho.slp
    clear ho
    by_cases hl : l = 0
    · by_cases hm : mm = 0
      · subst hl; subst hm
        go_wp2_with (fail)
        obtain ⟨A6, hA6⟩ : ∃ A, W9.heap.size + q8.bl.size = A := ⟨_, rfl⟩
        rw [hA6]
        refine calls_world (fun W => Below w.heap.size w W ∧ BoxM W w.heap.size na pa Na ca fa ∧ BoxM W (w.heap.size + 1) nb pb Nb cb fb ∧ BoxM W A5 y1 p5 Y1 c5 h1 ∧ BoxM W A6 y2 p6 Y2 c6 h2) ⟨by (repeat' (first | (with_reducible assumption) | (with_reducible exact Below.refl _ _) | (with_reducible refine below_wov ?_ ?_ _) | (with_reducible refine below_drewN ?_ _) | (with_reducible refine Below.drew ?_) | (with_reducible refine Below.alloc ?_ ?_ _) | (with_reducible refine Below.setCell ?_ ?_ _) | (with_reducible exact Nat.le_refl _) | omega | (simp only [World.size_alloc, World.size_setCell, World.size_drew, Wov_size, World.heap_drewN]; omega))), m9_0.below (by (repeat' (first | (with_reducible assumption) | (with_reducible exact Below.refl _ _) | (with_reducible refine below_wov ?_ ?_ _) | (with_reducible refine below_drewN ?_ _) | (with_reducible refine Below.drew ?_) | (with_reducible refine Below.alloc ?_ ?_ _) | (with_reducible refine Below.setCell ?_ ?_ _) | (with_reducible exact Nat.le_refl _) | omega | (simp only [World.size_alloc, World.size_setCell, World.size_drew, Wov_size, World.heap_drewN]; omega)))), m9_1.below (by (repeat' (first | (with_reducible assumption) | (with_reducible exact Below.refl _ _) | (with_reducible refine below_wov ?_ ?_ _) | (with_reducible refine below_drewN ?_ _) | (with_reducible refine Below.drew ?_) | (with_reducible refine Below.alloc ?_ ?_ _) | (with_reducible refine Below.setCell ?_ ?_ _) | (with_reducible exact Nat.le_refl _) | omega | (simp only [World.size_alloc, World.size_setCell, World.size_drew, Wov_size, World.heap_drewN]; omega)))), m9_2.below (by (repeat' (first | (with_reducible assumption) | (with_reducible exact Below.refl _ _) | (with_reducible refine below_wov ?_ ?_ _) | (with_reducible refine below_drewN ?_ _) | (with_reducible refine Below.drew ?_) | (with_reducible refine Below.alloc ?_ ?_ _) | (with_reducible refine Below.setCell ?_ ?_ _) | (with_reducible exact Nat.le_refl _) | omega | (simp only [World.size_alloc, World.size_setCell, World.size_drew, Wov_size, World.heap_drewN]; omega)))), BoxM.new (tp6) (by rw [← hA6]; (try simp only [Wov_size]))⟩ ?_
        rintro W10 ⟨hb10, m10_0, m10_1, m10_2, m10_3⟩
        have l10_0 := m10_0.lt
        have c10_0 := m10_0.c0
        have d10_0 := m10_0.c1
        have l10_1 := m10_1.lt
        have c10_1 := m10_1.c0
        have d10_1 := m10_1.c1
        have l10_2 := m10_2.lt
        have c10_2 := m10_2.c0
        have d10_2 := m10_2.c1
        have l10_3 := m10_3.lt
        have c10_3 := m10_3.c0
        have d10_3 := m10_3.c1
        clear hb9 l9_0 c9_0 d9_0 m9_0 l9_1 c9_1 d9_1 m9_1 l9_2 c9_2 d9_2 m9_2
        clear tp6
        refine (CP.out _ _ _ m10_2.sl).mono ?_; rintro e w' ⟨rfl, q9, rfl⟩
        cases s1
        · go_wp2
          all_goals
            go_ret
            exact gives_bool rfl (by (repeat' (first | (with_reducible assumption) | (with_reducible exact Below.refl _ _) | (with_reducible refine below_wov ?_ ?_ _) | (with_reducible refine below_drewN ?_ _) | (with_reducible refine Below.drew ?_) | (with_reducible refine Below.alloc ?_ ?_ _) | (with_reducible refine Below.setCell ?_ ?_ _) | (with_reducible exact Nat.le_refl _) | omega | (simp only [World.size_alloc, World.size_setCell, World.size_drew, Wov_size, World.heap_drewN]; omega))))
        simp only [rcode, if_true]
        go_wp2_with (fail)
        refine calls_world (fun W => Below w.heap.size w W ∧ BoxM W w.heap.size na pa Na ca fa ∧ BoxM W (w.heap.size + 1) nb pb Nb cb fb ∧ BoxM W A5 y1 p5 Y1 c5 h1 ∧ BoxM W A6 y2 p6 Y2 c6 h2) ⟨by (repeat' (first | (with_reducible assumption) | (with_reducible exact Below.refl _ _) | (with_reducible refine below_wov ?_ ?_ _) | (with_reducible refine below_drewN ?_ _) | (with_reducible refine Below.drew ?_) | (with_reducible refine Below.alloc ?_ ?_ _) | (with_reducible refine Below.setCell ?_ ?_ _) | (with_reducible exact Nat.le_refl _) | omega | (simp only [World.size_alloc, World.size_setCell, World.size_drew, Wov_size, World.heap_drewN]; omega))), m10_0.below (by (repeat' (first | (with_reducible assumption) | (with_reducible exact Below.refl _ _) | (with_reducible refine below_wov ?_ ?_ _) | (with_reducible refine below_drewN ?_ _) | (with_reducible refine Below.drew ?_) | (with_reducible refine Below.alloc ?_ ?_ _) | (with_reducible refine Below.setCell ?_ ?_ _) | (with_reducible exact Nat.le_refl _) | omega | (simp only [World.size_alloc, World.size_setCell, World.size_drew, Wov_size, World.heap_drewN]; omega)))), m10_1.below (by (repeat' (first | (with_reducible assumption) | (with_reducible exact Below.refl _ _) | (with_reducible refine below_wov ?_ ?_ _) | (with_reducible refine below_drewN ?_ _) | (with_reducible refine Below.drew ?_) | (with_reducible refine Below.alloc ?_ ?_ _) | (with_reducible refine Below.setCell ?_ ?_ _) | (with_reducible exact Nat.le_refl _) | omega | (simp only [World.size_alloc, World.size_setCell, World.size_drew, Wov_size, World.heap_drewN]; omega)))), m10_2.below (by (repeat' (first | (with_reducible assumption) | (with_reducible exact Below.refl _ _) | (with_reducible refine below_wov ?_ ?_ _) | (with_reducible refine below_drewN ?_ _) | (with_reducible refine Below.drew ?_) | (with_reducible refine Below.alloc ?_ ?_ _) | (with_reducible refine Below.setCell ?_ ?_ _) | (with_reducible exact Nat.le_refl _) | omega | (simp only [World.size_alloc, World.size_setCell, World.size_drew, Wov_size, World.heap_drewN]; omega)))), m10_3.below (by (repeat' (first | (with_reducible assumption) | (with_reducible exact Below.refl _ _) | (with_reducible refine below_wov ?_ ?_ _) | (with_reducible refine below_drewN ?_ _) | (with_reducible refine Below.drew ?_) | (with_reducible refine Below.alloc ?_ ?_ _) | (with_reducible refine Below.setCell ?_ ?_ _) | (with_reducible exact Nat.le_refl _) | omega | (simp only [World.size_alloc, World.size_setCell, World.size_drew, Wov_size, World.heap_drewN]; omega))))⟩ ?_
        rintro W11 ⟨hb11, m11_0, m11_1, m11_2, m11_3⟩
        have l11_0 := m11_0.lt
        have c11_0 := m11_0.c0
        have d11_0 := m11_0.c1
        have l11_1 := m11_1.lt
        have c11_1 := m11_1.c0
        have d11_1 := m11_1.c1
        have l11_2 := m11_2.lt
        have c11_2 := m11_2.c0
        have d11_2 := m11_2.c1
        have l11_3 := m11_3.lt
        have c11_3 := m11_3.c0
        have d11_3 := m11_3.c1
        clear hb10 l10_0 c10_0 d10_0 m10_0 l10_1 c10_1 d10_1 m10_1 l10_2 c10_2 d10_2 m10_2 l10_3 c10_3 d10_3 m10_3
        refine (CQ.out _ _ _ m11_3.sl).mono ?_; rintro e w' ⟨rfl, q10, rfl⟩
        cases s2
        · go_wp2
          all_goals
            go_ret
            exact gives_bool rfl (by (repeat' (first | (with_reducible assumption) | (with_reducible exact Below.refl _ _) | (with_reducible refine below_wov ?_ ?_ _) | (with_reducible refine below_drewN ?_ _) | (with_reducible refine Below.drew ?_) | (with_reducible refine Below.alloc ?_ ?_ _) | (with_reducible refine Below.setCell ?_ ?_ _) | (with_reducible exact Nat.le_refl _) | omega | (simp only [World.size_alloc, World.size_setCell, World.size_drew, Wov_size, World.heap_drewN]; omega))))
        simp only [rcode, if_true]
        obtain ⟨rfl, hsame⟩ := ORD.out (by simp) (by simp) (by simp) (by simp)
        have SM5 := Lib.hid (SM.out z1 Z1 k1 z2 Z2 k2 hsame oZ1.out)
        clear hsame
        go_wp2_with (fail)
        refine calls_world (fun W => Below w.heap.size w W ∧ BoxM W w.heap.size na pa Na ca fa ∧ BoxM W (w.heap.size + 1) nb pb Nb cb fb ∧ BoxM W A5 y1 p5 Y1 c5 h1 ∧ BoxM W A6 y2 p6 Y2 c6 h2) ⟨by (repeat' (first | (with_reducible assumption) | (with_reducible exact Below.refl _ _) | (with_reducible refine below_wov ?_ ?_ _) | (with_reducible refine below_drewN ?_ _) | (with_reducible refine Below.drew ?_) | (with_reducible refine Below.alloc ?_ ?_ _) | (with_reducible refine Below.setCell ?_ ?_ _) | (with_reducible exact Nat.le_refl _) | omega | (simp only [World.size_alloc, World.size_setCell, World.size_drew, Wov_size, World.heap_drewN]; omega))), m11_0.below (by (repeat' (first | (with_reducible assumption) | (with_reducible exact Below.refl _ _) | (with_reducible refine below_wov ?_ ?_ _) | (with_reducible refine below_drewN ?_ _) | (with_reducible refine Below.drew ?_) | (with_reducible refine Below.alloc ?_ ?_ _) | (with_reducible refine Below.setCell ?_ ?_ _) | (with_reducible exact Nat.le_refl _) | omega | (simp only [World.size_alloc, World.size_setCell, World.size_drew, Wov_size, World.heap_drewN]; omega)))), m11_1.below (by (repeat' (first | (with_reducible assumption) | (with_reducible exact Below.refl _ _) | (with_reducible refine below_wov ?_ ?_ _) | (with_reducible refine below_drewN ?_ _) | (with_reducible refine Below.drew ?_) | (with_reducible refine Below.alloc ?_ ?_ _) | (with_reducible refine Below.setCell ?_ ?_ _) | (with_reducible exact Nat.le_refl _) | omega | (simp only [World.size_alloc, World.size_setCell, World.size_drew, Wov_size, World.heap_drewN]; omega)))), m11_2.below (by (repeat' (first | (with_reducible assumption) | (with_reducible exact Below.refl _ _) | (with_reducible refine below_wov ?_ ?_ _) | (with_reducible refine below_drewN ?_ _) | (with_reducible refine Below.drew ?_) | (with_reducible refine Below.alloc ?_ ?_ _) | (with_reducible refine Below.setCell ?_ ?_ _) | (with_reducible exact Nat.le_refl _) | omega | (simp only [World.size_alloc, World.size_setCell, World.size_drew, Wov_size, World.heap_drewN]; omega)))), m11_3.below (by (repeat' (first | (with_reducible assumption) | (with_reducible exact Below.refl _ _) | (with_reducible refine below_wov ?_ ?_ _) | (with_reducible refine below_drewN ?_ _) | (with_reducible refine Below.drew ?_) | (with_reducible refine Below.alloc ?_ ?_ _) | (with_reducible refine Below.setCell ?_ ?_ _) | (with_reducible exact Nat.le_refl _) | omega | (simp only [World.size_alloc, World.size_setCell, World.size_drew, Wov_size, World.heap_drewN]; omega))))⟩ ?_
        rintro W12 ⟨hb12, m12_0, m12_1, m12_2, m12_3⟩
        have l12_0 := m12_0.lt
        have c12_0 := m12_0.c0
        have d12_0 := m12_0.c1
        have l12_1 := m12_1.lt
        have c12_1 := m12_1.c0
        have d12_1 := m12_1.c1
        have l12_2 := m12_2.lt
        have c12_2 := m12_2.c0
        have d12_2 := m12_2.c1
        have l12_3 := m12_3.lt
        have c12_3 := m12_3.c0
        have d12_3 := m12_3.c1
        clear hb11 l11_0 c11_0 d11_0 m11_0 l11_1 c11_1 d11_1 m11_1 l11_2 c11_2 d11_2 m11_2 l11_3 c11_3 d11_3 m11_3
        refine (ST3.out _ _ _ m12_2.sl).mono ?_; rintro e w' ⟨⟨p7, c7, rfl, ho⟩, q11, rfl⟩
        have tp7 := ho.slp
        clear ho
        go_wp2_with (fail)
        obtain ⟨A7, hA7⟩ : ∃ A, W12.heap.size + q11.bl.size = A := ⟨_, rfl⟩
        rw [hA7]
        refine calls_world (fun W => Below w.heap.size w W ∧ BoxM W w.heap.size na pa Na ca fa ∧ BoxM W (w.heap.size + 1) nb pb Nb cb fb ∧ BoxM W A5 y1 p5 Y1 c5 h1 ∧ BoxM W A6 y2 p6 Y2 c6 h2 ∧ BoxM W A7 z1 p7 Z1 c7 k1) ⟨by (repeat' (first | (with_reducible assumption) | (with_reducible exact Below.refl _ _) | (with_reducible refine below_wov ?_ ?_ _) | (with_reducible refine below_drewN ?_ _) | (with_reducible refine Below.drew ?_) | (with_reducible refine Below.alloc ?_ ?_ _) | (with_reducible refine Below.setCell ?_ ?_ _) | (with_reducible exact Nat.le_refl _) | omega | (simp only [World.size_alloc, World.size_setCell, World.size_drew, Wov_size, World.heap_drewN]; omega))), m12_0.below (by (repeat' (first | (with_reducible assumption) | (with_reducible exact Below.refl _ _) | (with_reducible refine below_wov ?_ ?_ _) | (with_reducible refine below_drewN ?_ _) | (with_reducible refine Below.drew ?_) | (with_reducible refine Below.alloc ?_ ?_ _) | (with_reducible refine Below.setCell ?_ ?_ _) | (with_reducible exact Nat.le_refl _) | omega | (simp only [World.size_alloc, World.size_setCell, World.size_drew, Wov_size, World.heap_drewN]; omega)))), m12_1.below (by (repeat' (first | (with_reducible assumption) | (with_reducible exact Below.refl _ _) | (with_reducible refine below_wov ?_ ?_ _) | (with_reducible refine below_drewN ?_ _) | (with_reducible refine Below.drew ?_) | (with_reducible refine Below.alloc ?_ ?_ _) | (with_reducible refine Below.setCell ?_ ?_ _) | (with_reducible exact Nat.le_refl _) | omega | (simp only [World.size_alloc, World.size_setCell, World.size_drew, Wov_size, World.heap_drewN]; omega)))), m12_2.below (by (repeat' (first | (with_reducible assumption) | (with_reducible exact Below.refl _ _) | (with_reducible refine below_wov ?_ ?_ _) | (with_reducible refine below_drewN ?_ _) | (with_reducible refine Below.drew ?_) | (with_reducible refine Below.alloc ?_ ?_ _) | (with_reducible refine Below.setCell ?_ ?_ _) | (with_reducible exact Nat.le_refl _) | omega | (simp only [World.size_alloc, World.size_setCell, World.size_drew, Wov_size, World.heap_drewN]; omega)))), m12_3.below (by (repeat' (first | (with_reducible assumption) | (with_reducible exact Below.refl _ _) | (with_reducible refine below_wov ?_ ?_ _) | (with_reducible refine below_drewN ?_ _) | (with_reducible refine Below.drew ?_) | (with_reducible refine Below.alloc ?_ ?_ _) | (with_reducible refine Below.setCell ?_ ?_ _) | (with_reducible exact Nat.le_refl _) | omega | (simp only [World.size_alloc, World.size_setCell, World.size_drew, Wov_size, World.heap_drewN]; omega)))), BoxM.new (tp7) (by rw [← hA7]; (try simp only [Wov_size]))⟩ ?_
        rintro W13 ⟨hb13, m13_0, m13_1, m13_2, m13_3, m13_4⟩
        have l13_0 := m13_0.lt
        have c13_0 := m13_0.c0
        have d13_0 := m13_0.c1
        have l13_1 := m13_1.lt
        have c13_1 := m13_1.c0
        have d13_1 := m13_1.c1
        have l13_2 := m13_2.lt
        have c13_2 := m13_2.c0
        have d13_2 := m13_2.c1
        have l13_3 := m13_3.lt
        have c13_3 := m13_3.c0
        have d13_3 := m13_3.c1
        have l13_4 := m13_4.lt
        have c13_4 := m13_4.c0
        have d13_4 := m13_4.c1
        clear hb12 l12_0 c12_0 d12_0 m12_0 l12_1 c12_1 d12_1 m12_1 l12_2 c12_2 d12_2 m12_2 l12_3 c12_3 d12_3 m12_3
        clear tp7
        refine (ST4.out _ _ _ m13_3.sl).mono ?_; rintro e w' ⟨⟨p8, c8, rfl, ho⟩, q12, rfl⟩
        have tp8 := ho.slp
        clear ho
        go_wp2_with (fail)
        obtain ⟨A8, hA8⟩ : ∃ A, W13.heap.size + q12.bl.size = A := ⟨_, rfl⟩
        rw [hA8]
        refine calls_world (fun W => Below w.heap.size w W ∧ BoxM W w.heap.size na pa Na ca fa ∧ BoxM W (w.heap.size + 1) nb pb Nb cb fb ∧ BoxM W A5 y1 p5 Y1 c5 h1 ∧ BoxM W A6 y2 p6 Y2 c6 h2 ∧ BoxM W A7 z1 p7 Z1 c7 k1 ∧ BoxM W A8 z2 p8 Z2 c8 k2) ⟨by (repeat' (first | (with_reducible assumption) | (with_reducible exact Below.refl _ _) | (with_reducible refine below_wov ?_ ?_ _) | (with_reducible refine below_drewN ?_ _) | (with_reducible refine Below.drew ?_) | (with_reducible refine Below.alloc ?_ ?_ _) | (with_reducible refine Below.setCell ?_ ?_ _) | (with_reducible exact Nat.le_refl _) | omega | (simp only [World.size_alloc, World.size_setCell, World.size_drew, Wov_size, World.heap_drewN]; omega))), m13_0.below (by (repeat' (first | (with_reducible assumption) | (with_reducible exact Below.refl _ _) | (with_reducible refine below_wov ?_ ?_ _) | (with_reducible refine below_drewN ?_ _) | (with_reducible refine Below.drew ?_) | (with_reducible refine Below.alloc ?_ ?_ _) | (with_reducible refine Below.setCell ?_ ?_ _) | (with_reducible exact Nat.le_refl _) | omega | (simp only [World.size_alloc, World.size_setCell, World.size_drew, Wov_size, World.heap_drewN]; omega)))), m13_1.below (by (repeat' (first | (with_reducible assumption) | (with_reducible exact Below.refl _ _) | (with_reducible refine below_wov ?_ ?_ _) | (with_reducible refine below_drewN ?_ _) | (with_reducible refine Below.drew ?_) | (with_reducible refine Below.alloc ?_ ?_ _) | (with_reducible refine Below.setCell ?_ ?_ _) | (with_reducible exact Nat.le_refl _) | omega | (simp only [World.size_alloc, World.size_setCell, World.size_drew, Wov_size, World.heap_drewN]; omega)))), m13_2.below (by (repeat' (first | (with_reducible assumption) | (with_reducible exact Below.refl _ _) | (with_reducible refine below_wov ?_ ?_ _) | (with_reducible refine below_drewN ?_ _) | (with_reducible refine Below.drew ?_) | (with_reducible refine Below.alloc ?_ ?_ _) | (with_reducible refine Below.setCell ?_ ?_ _) | (with_reducible exact Nat.le_refl _) | omega | (simp only [World.size_alloc, World.size_setCell, World.size_drew, Wov_size, World.heap_drewN]; omega)))), m13_3.below (by (repeat' (first | (with_reducible assumption) | (with_reducible exact Below.refl _ _) | (with_reducible refine below_wov ?_ ?_ _) | (with_reducible refine below_drewN ?_ _) | (with_reducible refine Below.drew ?_) | (with_reducible refine Below.alloc ?_ ?_ _) | (with_reducible refine Below.setCell ?_ ?_ _) | (with_reducible exact Nat.le_refl _) | omega | (simp only [World.size_alloc, World.size_setCell, World.size_drew, Wov_size, World.heap_drewN]; omega)))), m13_4.below (by (repeat' (first | (with_reducible assumption) | (with_reducible exact Below.refl _ _) | (with_reducible refine below_wov ?_ ?_ _) | (with_reducible refine below_drewN ?_ _) | (with_reducible refine Below.drew ?_) | (with_reducible refine Below.alloc ?_ ?_ _) | (with_reducible refine Below.setCell ?_ ?_ _) | (with_reducible exact Nat.le_refl _) | omega | (simp only [World.size_alloc, World.size_setCell, World.size_drew, Wov_size, World.heap_drewN]; omega)))), BoxM.new (tp8) (by rw [← hA8]; (try simp only [Wov_size]))⟩ ?_
        rintro W14 ⟨hb14, m14_0, m14_1, m14_2, m14_3, m14_4, m14_5⟩
        have l14_0 := m14_0.lt
        have c14_0 := m14_0.c0
        have d14_0 := m14_0.c1
        have l14_1 := m14_1.lt
        have c14_1 := m14_1.c0
        have d14_1 := m14_1.c1
        have l14_2 := m14_2.lt
        have c14_2 := m14_2.c0
        have d14_2 := m14_2.c1
        have l14_3 := m14_3.lt
        have c14_3 := m14_3.c0
        have d14_3 := m14_3.c1
        have l14_4 := m14_4.lt
        have c14_4 := m14_4.c0
        have d14_4 := m14_4.c1
        have l14_5 := m14_5.lt
        have c14_5 := m14_5.c0
        have d14_5 := m14_5.c1
        clear hb13 l13_0 c13_0 d13_0 m13_0 l13_1 c13_1 d13_1 m13_1 l13_2 c13_2 d13_2 m13_2 l13_3 c13_3 d13_3 m13_3 l13_4 c13_4 d13_4 m13_4
        clear tp8
        refine (SM5.out _ _ _ _ _ m14_4.sl m14_5.sl).mono ?_; rintro e w' ⟨rfl, q13, rfl⟩
        go_wp2
        all_goals
          go_ret
          exact gives_bool (by simp) (by (repeat' (first | (with_reducible assumption) | (with_reducible exact Below.refl _ _) | (with_reducible refine below_wov ?_ ?_ _) | (with_reducible refine below_drewN ?_ _) | (with_reducible refine Below.drew ?_) | (with_reducible refine Below.alloc ?_ ?_ _) | (with_reducible refine Below.setCell ?_ ?_ _) | (with_reducible exact Nat.le_refl _) | omega | (simp only [World.size_alloc, World.size_setCell, World.size_drew, Wov_size, World.heap_drewN]; omega))))
      · have bm : (mm != 0) = true := by rw [bne_iff_ne]; exact hm
        subst hl
        go_wp2
        all_goals
          go_ret
          exact gives_bool rfl (by (repeat' (first | (with_reducible assumption) | (with_reducible exact Below.refl _ _) | (with_reducible refine below_wov ?_ ?_ _) | (with_reducible refine below_drewN ?_ _) | (with_reducible refine Below.drew ?_) | (with_reducible refine Below.alloc ?_ ?_ _) | (with_reducible refine Below.setCell ?_ ?_ _) | (with_reducible exact Nat.le_refl _) | omega | (simp only [World.size_alloc, World.size_setCell, World.size_drew, Wov_size, World.heap_drewN]; omega))))
    · have bl : (l != 0) = true := by rw [bne_iff_ne]; exact hl
      go_wp2
      all_goals
        go_ret
        exact gives_bool rfl (by (repeat' (first | (with_reducible assumption) | (with_reducible exact Below.refl _ _) | (with_reducible refine below_wov ?_ ?_ _) | (with_reducible refine below_drewN ?_ _) | (with_reducible refine Below.drew ?_) | (with_reducible refine Below.alloc ?_ ?_ _) | (with_reducible refine Below.setCell ?_ ?_ _) | (with_reducible exact Nat.le_refl _) | omega | (simp only [World.size_alloc, World.size_setCell, World.size_drew, Wov_size, World.heap_drewN]; omega))))
end Go.Proofs.Ytlcbpckinjkfeaa.tightOrder
