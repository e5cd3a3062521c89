/- The law TightTells (walk): matrices with more bounds are the document's. No condition. -/
import Derived.Test.YtggjkibhffglbaaMF
import Derived.Test.YtggjkibhffglbaaME
namespace Go.Proofs.Ytggjkibhffglbaa.tightTells
open Go.ChangeShapes Go.WideShapes Go.ChangeAt Go.RowKit
set_option linter.unusedVariables false
set_option linter.unusedSimpArgs false
attribute [local go_sem] Nat.add_assoc Nat.add_lt_add_iff_left lit_lt_add

set_option maxRecDepth 100000 in
set_option maxHeartbeats 8000000 in
theorem walk (na : Int) (pa : Option Addr) (Na ca : Nat) (fa : Nat → Int) (wna : fits64 na) (nb : Int) (pb : Option Addr) (Nb cb : Nat) (fb : Nat → Int) (wnb : fits64 nb) (i : Int) (wi : (Lit.int .i64 i).wf = true) (j : Int) (wj : (Lit.int .i64 j).wf = true) (x : Int) (wx : (Lit.int .i64 x).wf = true) (lo : Int) (ls : Bool) (hi : Int) (hs op : Bool) (wlo : fits64 lo) (whi : fits64 hi) (w : World) (hSa : SlP w pa Na fa) (hFa : Fits Na fa) (hNa : Na ≤ maxLen) (hSb : SlP w pb Nb fb) (hFb : Fits Nb fb) (hNb : Nb ≤ maxLen) :
    Calls Try.prog 3 #[.agg #[.int .i64 na, .slice pa Na ca], .agg #[.int .i64 nb, .slice pb Nb cb], .int .i64 i, .int .i64 j, .int .i64 x, .agg #[.int .i64 lo, .bool ls, .int .i64 hi, .bool hs, .bool op]] w (Gives w (.bool true)) := by
  have wx := fits_of_wf wx
  unfold maxLen at hNa hNb
  by_cases hbig : 1000 < Na ∨ 1000 < Nb
  · clear hSa hFa hSb hFb
    by_cases hb1 : 1000 < Na
    · go_enter Try.func3, Try.ntmps3
      go_wp2
      all_goals
        go_ret
        exact gives_bool rfl (by (repeat' (first | (with_reducible assumption) | (with_reducible exact Below.refl _ _) | (with_reducible refine below_wov ?_ ?_ _) | (with_reducible refine below_drewN ?_ _) | (with_reducible refine Below.drew ?_) | (with_reducible refine Below.alloc ?_ ?_ _) | (with_reducible refine Below.setCell ?_ ?_ _) | (with_reducible exact Nat.le_refl _) | omega | (simp only [World.size_alloc, World.size_setCell, World.size_drew, Wov_size, World.heap_drewN]; omega))))
    · have hb3 : 1000 < Nb := by omega
      go_enter Try.func3, Try.ntmps3
      go_wp2
      all_goals
        go_ret
        exact gives_bool rfl (by (repeat' (first | (with_reducible assumption) | (with_reducible exact Below.refl _ _) | (with_reducible refine below_wov ?_ ?_ _) | (with_reducible refine below_drewN ?_ _) | (with_reducible refine Below.drew ?_) | (with_reducible refine Below.alloc ?_ ?_ _) | (with_reducible refine Below.setCell ?_ ?_ _) | (with_reducible exact Nat.le_refl _) | omega | (simp only [World.size_alloc, World.size_setCell, World.size_drew, Wov_size, World.heap_drewN]; omega))))
  · have hN3 : Na ≤ 1000 := by omega
    have hM3 : Nb ≤ 1000 := by omega
    obtain ⟨⟨x1, Z1, g1, e1⟩, h_1⟩ : ∃ r, r = setM na Na fa i j x := ⟨_, rfl⟩
    obtain ⟨⟨x2, Z2, g2, e2⟩, h_2⟩ : ∃ r, r = refSetM na Na fa i j x := ⟨_, rfl⟩
    obtain ⟨⟨x3, Z3, g3, e3⟩, h_3⟩ : ∃ r, r = meetM na Na fa nb Nb fb := ⟨_, rfl⟩
    obtain ⟨⟨x4, Z4, g4, e4⟩, h_4⟩ : ∃ r, r = betweenM na Na fa i lo ls hi hs op := ⟨_, rfl⟩
    obtain ⟨⟨x5, Z5, g5, e5⟩, h_5⟩ : ∃ r, r = refBetM na Na fa i lo ls hi hs op := ⟨_, rfl⟩
    have o1 : MRok ⟨x1, Z1, g1, e1⟩ := by rw [h_1]; exact setM_ok _ _ _ _ _ _
    have hZ1 : Z1 ≤ 1000000 := by have := o1.N; simp only at this; omega
    have o3 : MRok ⟨x3, Z3, g3, e3⟩ := by rw [h_3]; exact meetM_ok _ _ _ _ _ _
    have hZ3 : Z3 ≤ 1000000 := by have := o3.N; simp only at this; omega
    have o4 : MRok ⟨x4, Z4, g4, e4⟩ := by rw [h_4]; exact betweenM_ok _ _ _ _ _ _ _ _ _
    have hZ4 : Z4 ≤ 1000000 := by have := o4.N; simp only at this; omega
    obtain ⟨rfl, hS12⟩ : e1 = e2 ∧ sameB x1 Z1 g1 x2 Z2 g2 = true := by
      have := set_ref na Na fa i j x
      rw [← h_1, ← h_2] at this; exact this
    obtain ⟨rfl, hS45⟩ : e4 = e5 ∧ sameB x4 Z4 g4 x5 Z5 g5 = true := by
      have := between_ref na Na fa i lo ls hi hs op
      rw [← h_4, ← h_5] at this; exact this
    have TW : Hid (∀ W, SlP W pa Na fa → Calls Try.prog 16 #[.agg #[.int .i64 na, .slice pa Na ca]] W (copyPost W na Na fa)) := fun W h => refTwin_any na pa Na ca fa W (by omega) h
    have TS : Hid (∀ W p c, SlP W p Na fa → Calls Try.prog 17 #[.agg #[.int .i64 na, .slice p Na c], .int .i64 i, .int .i64 j, .int .i64 x] W (matC W x1 Z1 g1 e1)) := fun W p c h => by
      have := set_any na p Na c fa i j x W wna h hFa (by omega) wx
      rwa [← h_1] at this
    have RS : Hid (∀ W, SlP W pa Na fa → Calls Try.prog 18 #[.agg #[.int .i64 na, .slice pa Na ca], .int .i64 i, .int .i64 j, .int .i64 x] W (matC W x2 Z2 g2 e1)) := fun W h => by
      have := refSet_any na pa Na ca fa i j x W wna h hFa (by omega) wx
      rwa [← h_2] at this
    have TM : Hid (∀ W p c, SlP W p Na fa → SlP W pb Nb fb → Calls Try.prog 19 #[.agg #[.int .i64 na, .slice p Na c], .agg #[.int .i64 nb, .slice pb Nb cb]] W (matC W x3 Z3 g3 e3)) := fun W p c h h' => by
      have := meet_any na p Na c fa nb pb Nb cb fb W wna wnb h h' hFa hFb (by omega) (by omega)
      rwa [← h_3] at this
    have RM : Hid (∀ W, SlP W pa Na fa → SlP W pb Nb fb → Calls Try.prog 20 #[.agg #[.int .i64 na, .slice pa Na ca], .agg #[.int .i64 nb, .slice pb Nb cb]] W (matC W x3 Z3 g3 e3)) := fun W h h' => by
      have := refMeet_any na pa Na ca fa nb pb Nb cb fb W wna wnb h h' hFa hFb (by omega) (by omega)
      rwa [← h_3] at this
    have TB : Hid (∀ W p c, SlP W p Na fa → Calls Try.prog 21 #[.agg #[.int .i64 na, .slice p Na c], .int .i64 i, .agg #[.int .i64 lo, .bool ls, .int .i64 hi, .bool hs, .bool op]] W (matC W x4 Z4 g4 e4)) := fun W p c h => by
      have := between_any na p Na c fa i lo ls hi hs op W wna h hFa (by omega) wlo whi
      rwa [← h_4] at this
    have RB : Hid (∀ W, SlP W pa Na fa → Calls Try.prog 22 #[.agg #[.int .i64 na, .slice pa Na ca], .int .i64 i, .agg #[.int .i64 lo, .bool ls, .int .i64 hi, .bool hs, .bool op]] W (matC W x5 Z5 g5 e4)) := fun W h => by
      have := refBet_any na pa Na ca fa i lo ls hi hs op W wna h hFa (by omega) wlo whi
      rwa [← h_5] at this
    have SM1 : Hid (∀ W p p' c d, SlP W p Z1 g1 → SlP W p' Z2 g2 → Calls Try.prog 23 #[.agg #[.int .i64 x1, .slice p Z1 c], .agg #[.int .i64 x2, .slice p' Z2 d]] W (Gives W (.bool true))) := fun W p p' c d h g => by
      have := refSame_any x1 x2 p p' Z1 Z2 c d g1 g2 W h g hZ1
      rwa [hS12] at this
    have SM2 : Hid (∀ W p p' c d, SlP W p Z3 g3 → SlP W p' Z3 g3 → Calls Try.prog 23 #[.agg #[.int .i64 x3, .slice p Z3 c], .agg #[.int .i64 x3, .slice p' Z3 d]] W (Gives W (.bool true))) := fun W p p' c d h g => by
      have := refSame_any x3 x3 p p' Z3 Z3 c d g3 g3 W h g hZ3
      rwa [sameB_refl] at this
    have SM3 : Hid (∀ W p p' c d, SlP W p Z4 g4 → SlP W p' Z5 g5 → Calls Try.prog 23 #[.agg #[.int .i64 x4, .slice p Z4 c], .agg #[.int .i64 x5, .slice p' Z5 d]] W (Gives W (.bool true))) := fun W p p' c d h g => by
      have := refSame_any x4 x5 p p' Z4 Z5 c d g4 g5 W h g hZ4
      rwa [hS45] at this
    have SMN : Hid (∀ W p p' c d, SlP W p Na fa → SlP W p' Na fa → Calls Try.prog 23 #[.agg #[.int .i64 na, .slice p Na c], .agg #[.int .i64 na, .slice p' Na d]] W (Gives W (.bool true))) := fun W p p' c d h g => by
      have := refSame_any na na p p' Na Na c d fa fa W h g (by omega)
      rwa [sameB_refl] at this
    have SA := Lib.hid hSa
    have SB := Lib.hid hSb
    clear h_1 h_2 h_3 h_4 h_5 o1 o3 o4 hS12 hS45 hSa hSb hFa hFb hbig wna wnb wi wj wx wlo whi
    go_enter Try.func3, Try.ntmps3
    go_wp2_with (fail)
    refine calls_world (fun W => Below w.heap.size w W ∧ BoxM W w.heap.size na pa Na ca fa ∧ BoxM W (w.heap.size + 1) nb pb Nb cb fb ∧ BoxS W (w.heap.size + 2) lo ls hi hs op) ⟨by (repeat' (first | (with_reducible assumption) | (with_reducible exact Below.refl _ _) | (with_reducible refine below_wov ?_ ?_ _) | (with_reducible refine below_drewN ?_ _) | (with_reducible refine Below.drew ?_) | (with_reducible refine Below.alloc ?_ ?_ _) | (with_reducible refine Below.setCell ?_ ?_ _) | (with_reducible exact Nat.le_refl _) | omega | (simp only [World.size_alloc, World.size_setCell, World.size_drew, Wov_size, World.heap_drewN]; omega))), (BoxM.new (W := w) (t := 24) (SA.out) (by simp)).below (by (repeat' (first | (with_reducible assumption) | (with_reducible exact Below.refl _ _) | (with_reducible refine below_wov ?_ ?_ _) | (with_reducible refine below_drewN ?_ _) | (with_reducible refine Below.drew ?_) | (with_reducible refine Below.alloc ?_ ?_ _) | (with_reducible refine Below.setCell ?_ ?_ _) | (with_reducible exact Nat.le_refl _) | omega | (simp only [World.size_alloc, World.size_setCell, World.size_drew, Wov_size, World.heap_drewN]; omega)))), (BoxM.new (W := (World.alloc w (.cells #[.int .i64 na, .slice pa Na ca] 24))) (t := 24) (SB.out.below (by (repeat' (first | (with_reducible assumption) | (with_reducible exact Below.refl _ _) | (with_reducible refine below_wov ?_ ?_ _) | (with_reducible refine below_drewN ?_ _) | (with_reducible refine Below.drew ?_) | (with_reducible refine Below.alloc ?_ ?_ _) | (with_reducible refine Below.setCell ?_ ?_ _) | (with_reducible exact Nat.le_refl _) | omega | (simp only [World.size_alloc, World.size_setCell, World.size_drew, Wov_size, World.heap_drewN]; omega))))) (by simp)).below (by (repeat' (first | (with_reducible assumption) | (with_reducible exact Below.refl _ _) | (with_reducible refine below_wov ?_ ?_ _) | (with_reducible refine below_drewN ?_ _) | (with_reducible refine Below.drew ?_) | (with_reducible refine Below.alloc ?_ ?_ _) | (with_reducible refine Below.setCell ?_ ?_ _) | (with_reducible exact Nat.le_refl _) | omega | (simp only [World.size_alloc, World.size_setCell, World.size_drew, Wov_size, World.heap_drewN]; omega)))), BoxS.new (W := (World.alloc (World.alloc w (.cells #[.int .i64 na, .slice pa Na ca] 24)) (.cells #[.int .i64 nb, .slice pb Nb cb] 24))) (t := 27) (by simp)⟩ ?_
    rintro W1 ⟨hb1, m1_0, m1_1, m1_2⟩
    have f1_0_lt := m1_0.lt
    have f1_0_c0 := m1_0.c0
    have f1_0_c1 := m1_0.c1
    have f1_1_lt := m1_1.lt
    have f1_1_c0 := m1_1.c0
    have f1_1_c1 := m1_1.c1
    have f1_2_lt := m1_2.lt
    have f1_2_c0 := m1_2.c0
    have f1_2_c1 := m1_2.c1
    have f1_2_c2 := m1_2.c2
    have f1_2_c3 := m1_2.c3
    have f1_2_c4 := m1_2.c4
    refine (TW.out _ m1_0.sl).mono ?_; rintro e w' ⟨p1, c1, rfl, ti, ho1, q1, rfl⟩
    have t1 := ho1.slp
    clear ho1 ti
    go_wp2_with (fail)
    obtain ⟨A1, hA1⟩ : ∃ A, W1.heap.size + q1.bl.size = A := ⟨_, rfl⟩
    rw [hA1]
    refine calls_world (fun W => Below w.heap.size w W ∧ BoxM W w.heap.size na pa Na ca fa ∧ BoxM W (w.heap.size + 1) nb pb Nb cb fb ∧ BoxS W (w.heap.size + 2) lo ls hi hs op ∧ BoxM W A1 na p1 Na c1 fa) ⟨by (repeat' (first | (with_reducible assumption) | (with_reducible exact Below.refl _ _) | (with_reducible refine below_wov ?_ ?_ _) | (with_reducible refine below_drewN ?_ _) | (with_reducible refine Below.drew ?_) | (with_reducible refine Below.alloc ?_ ?_ _) | (with_reducible refine Below.setCell ?_ ?_ _) | (with_reducible exact Nat.le_refl _) | omega | (simp only [World.size_alloc, World.size_setCell, World.size_drew, Wov_size, World.heap_drewN]; omega))), m1_0.below (by (repeat' (first | (with_reducible assumption) | (with_reducible exact Below.refl _ _) | (with_reducible refine below_wov ?_ ?_ _) | (with_reducible refine below_drewN ?_ _) | (with_reducible refine Below.drew ?_) | (with_reducible refine Below.alloc ?_ ?_ _) | (with_reducible refine Below.setCell ?_ ?_ _) | (with_reducible exact Nat.le_refl _) | omega | (simp only [World.size_alloc, World.size_setCell, World.size_drew, Wov_size, World.heap_drewN]; omega)))), m1_1.below (by (repeat' (first | (with_reducible assumption) | (with_reducible exact Below.refl _ _) | (with_reducible refine below_wov ?_ ?_ _) | (with_reducible refine below_drewN ?_ _) | (with_reducible refine Below.drew ?_) | (with_reducible refine Below.alloc ?_ ?_ _) | (with_reducible refine Below.setCell ?_ ?_ _) | (with_reducible exact Nat.le_refl _) | omega | (simp only [World.size_alloc, World.size_setCell, World.size_drew, Wov_size, World.heap_drewN]; omega)))), m1_2.below (by (repeat' (first | (with_reducible assumption) | (with_reducible exact Below.refl _ _) | (with_reducible refine below_wov ?_ ?_ _) | (with_reducible refine below_drewN ?_ _) | (with_reducible refine Below.drew ?_) | (with_reducible refine Below.alloc ?_ ?_ _) | (with_reducible refine Below.setCell ?_ ?_ _) | (with_reducible exact Nat.le_refl _) | omega | (simp only [World.size_alloc, World.size_setCell, World.size_drew, Wov_size, World.heap_drewN]; omega)))), BoxM.new (t1) (by rw [← hA1]; (try simp only [Wov_size]))⟩ ?_
    rintro W2 ⟨hb2, m2_0, m2_1, m2_2, m2_3⟩
    clear hb1 f1_0_lt f1_0_c0 f1_0_c1 f1_1_lt f1_1_c0 f1_1_c1 f1_2_lt f1_2_c0 f1_2_c1 f1_2_c2 f1_2_c3 f1_2_c4 m1_0 m1_1 m1_2
    have f2_0_lt := m2_0.lt
    have f2_0_c0 := m2_0.c0
    have f2_0_c1 := m2_0.c1
    have f2_1_lt := m2_1.lt
    have f2_1_c0 := m2_1.c0
    have f2_1_c1 := m2_1.c1
    have f2_2_lt := m2_2.lt
    have f2_2_c0 := m2_2.c0
    have f2_2_c1 := m2_2.c1
    have f2_2_c2 := m2_2.c2
    have f2_2_c3 := m2_2.c3
    have f2_2_c4 := m2_2.c4
    have f2_3_lt := m2_3.lt
    have f2_3_c0 := m2_3.c0
    have f2_3_c1 := m2_3.c1
    clear t1 hA1
    refine (TS.out _ _ _ m2_3.sl).mono ?_; rintro e w' ⟨⟨p2, c2, rfl, ho⟩, q2, rfl⟩
    have tp2 := ho.slp
    clear ho
    go_wp2_with (fail)
    obtain ⟨A2, hA2⟩ : ∃ A, W2.heap.size + q2.bl.size = A := ⟨_, rfl⟩
    rw [hA2]
    refine calls_world (fun W => Below w.heap.size w W ∧ BoxM W w.heap.size na pa Na ca fa ∧ BoxM W (w.heap.size + 1) nb pb Nb cb fb ∧ BoxS W (w.heap.size + 2) lo ls hi hs op ∧ BoxM W A1 na p1 Na c1 fa ∧ BoxM W A2 x1 p2 Z1 c2 g1) ⟨by (repeat' (first | (with_reducible assumption) | (with_reducible exact Below.refl _ _) | (with_reducible refine below_wov ?_ ?_ _) | (with_reducible refine below_drewN ?_ _) | (with_reducible refine Below.drew ?_) | (with_reducible refine Below.alloc ?_ ?_ _) | (with_reducible refine Below.setCell ?_ ?_ _) | (with_reducible exact Nat.le_refl _) | omega | (simp only [World.size_alloc, World.size_setCell, World.size_drew, Wov_size, World.heap_drewN]; omega))), m2_0.below (by (repeat' (first | (with_reducible assumption) | (with_reducible exact Below.refl _ _) | (with_reducible refine below_wov ?_ ?_ _) | (with_reducible refine below_drewN ?_ _) | (with_reducible refine Below.drew ?_) | (with_reducible refine Below.alloc ?_ ?_ _) | (with_reducible refine Below.setCell ?_ ?_ _) | (with_reducible exact Nat.le_refl _) | omega | (simp only [World.size_alloc, World.size_setCell, World.size_drew, Wov_size, World.heap_drewN]; omega)))), m2_1.below (by (repeat' (first | (with_reducible assumption) | (with_reducible exact Below.refl _ _) | (with_reducible refine below_wov ?_ ?_ _) | (with_reducible refine below_drewN ?_ _) | (with_reducible refine Below.drew ?_) | (with_reducible refine Below.alloc ?_ ?_ _) | (with_reducible refine Below.setCell ?_ ?_ _) | (with_reducible exact Nat.le_refl _) | omega | (simp only [World.size_alloc, World.size_setCell, World.size_drew, Wov_size, World.heap_drewN]; omega)))), m2_2.below (by (repeat' (first | (with_reducible assumption) | (with_reducible exact Below.refl _ _) | (with_reducible refine below_wov ?_ ?_ _) | (with_reducible refine below_drewN ?_ _) | (with_reducible refine Below.drew ?_) | (with_reducible refine Below.alloc ?_ ?_ _) | (with_reducible refine Below.setCell ?_ ?_ _) | (with_reducible exact Nat.le_refl _) | omega | (simp only [World.size_alloc, World.size_setCell, World.size_drew, Wov_size, World.heap_drewN]; omega)))), m2_3.below (by (repeat' (first | (with_reducible assumption) | (with_reducible exact Below.refl _ _) | (with_reducible refine below_wov ?_ ?_ _) | (with_reducible refine below_drewN ?_ _) | (with_reducible refine Below.drew ?_) | (with_reducible refine Below.alloc ?_ ?_ _) | (with_reducible refine Below.setCell ?_ ?_ _) | (with_reducible exact Nat.le_refl _) | omega | (simp only [World.size_alloc, World.size_setCell, World.size_drew, Wov_size, World.heap_drewN]; omega)))), BoxM.new (tp2) (by rw [← hA2]; (try simp only [Wov_size]))⟩ ?_
    rintro W3 ⟨hb3, m3_0, m3_1, m3_2, m3_3, m3_4⟩
    clear hb2 f2_0_lt f2_0_c0 f2_0_c1 f2_1_lt f2_1_c0 f2_1_c1 f2_2_lt f2_2_c0 f2_2_c1 f2_2_c2 f2_2_c3 f2_2_c4 f2_3_lt f2_3_c0 f2_3_c1 m2_0 m2_1 m2_2 m2_3
    have f3_0_lt := m3_0.lt
    have f3_0_c0 := m3_0.c0
    have f3_0_c1 := m3_0.c1
    have f3_1_lt := m3_1.lt
    have f3_1_c0 := m3_1.c0
    have f3_1_c1 := m3_1.c1
    have f3_2_lt := m3_2.lt
    have f3_2_c0 := m3_2.c0
    have f3_2_c1 := m3_2.c1
    have f3_2_c2 := m3_2.c2
    have f3_2_c3 := m3_2.c3
    have f3_2_c4 := m3_2.c4
    have f3_3_lt := m3_3.lt
    have f3_3_c0 := m3_3.c0
    have f3_3_c1 := m3_3.c1
    have f3_4_lt := m3_4.lt
    have f3_4_c0 := m3_4.c0
    have f3_4_c1 := m3_4.c1
    clear tp2 hA2
    refine (RS.out _ m3_0.sl).mono ?_; rintro e w' ⟨⟨p3, c3, rfl, ho⟩, q3, rfl⟩
    have tp3 := ho.slp
    clear ho
    go_wp2_with (fail)
    obtain ⟨A3, hA3⟩ : ∃ A, W3.heap.size + q3.bl.size = A := ⟨_, rfl⟩
    rw [hA3]
    refine calls_world (fun W => Below w.heap.size w W ∧ BoxM W w.heap.size na pa Na ca fa ∧ BoxM W (w.heap.size + 1) nb pb Nb cb fb ∧ BoxS W (w.heap.size + 2) lo ls hi hs op ∧ BoxM W A1 na p1 Na c1 fa ∧ BoxM W A2 x1 p2 Z1 c2 g1 ∧ BoxM W A3 x2 p3 Z2 c3 g2) ⟨by (repeat' (first | (with_reducible assumption) | (with_reducible exact Below.refl _ _) | (with_reducible refine below_wov ?_ ?_ _) | (with_reducible refine below_drewN ?_ _) | (with_reducible refine Below.drew ?_) | (with_reducible refine Below.alloc ?_ ?_ _) | (with_reducible refine Below.setCell ?_ ?_ _) | (with_reducible exact Nat.le_refl _) | omega | (simp only [World.size_alloc, World.size_setCell, World.size_drew, Wov_size, World.heap_drewN]; omega))), m3_0.below (by (repeat' (first | (with_reducible assumption) | (with_reducible exact Below.refl _ _) | (with_reducible refine below_wov ?_ ?_ _) | (with_reducible refine below_drewN ?_ _) | (with_reducible refine Below.drew ?_) | (with_reducible refine Below.alloc ?_ ?_ _) | (with_reducible refine Below.setCell ?_ ?_ _) | (with_reducible exact Nat.le_refl _) | omega | (simp only [World.size_alloc, World.size_setCell, World.size_drew, Wov_size, World.heap_drewN]; omega)))), m3_1.below (by (repeat' (first | (with_reducible assumption) | (with_reducible exact Below.refl _ _) | (with_reducible refine below_wov ?_ ?_ _) | (with_reducible refine below_drewN ?_ _) | (with_reducible refine Below.drew ?_) | (with_reducible refine Below.alloc ?_ ?_ _) | (with_reducible refine Below.setCell ?_ ?_ _) | (with_reducible exact Nat.le_refl _) | omega | (simp only [World.size_alloc, World.size_setCell, World.size_drew, Wov_size, World.heap_drewN]; omega)))), m3_2.below (by (repeat' (first | (with_reducible assumption) | (with_reducible exact Below.refl _ _) | (with_reducible refine below_wov ?_ ?_ _) | (with_reducible refine below_drewN ?_ _) | (with_reducible refine Below.drew ?_) | (with_reducible refine Below.alloc ?_ ?_ _) | (with_reducible refine Below.setCell ?_ ?_ _) | (with_reducible exact Nat.le_refl _) | omega | (simp only [World.size_alloc, World.size_setCell, World.size_drew, Wov_size, World.heap_drewN]; omega)))), m3_3.below (by (repeat' (first | (with_reducible assumption) | (with_reducible exact Below.refl _ _) | (with_reducible refine below_wov ?_ ?_ _) | (with_reducible refine below_drewN ?_ _) | (with_reducible refine Below.drew ?_) | (with_reducible refine Below.alloc ?_ ?_ _) | (with_reducible refine Below.setCell ?_ ?_ _) | (with_reducible exact Nat.le_refl _) | omega | (simp only [World.size_alloc, World.size_setCell, World.size_drew, Wov_size, World.heap_drewN]; omega)))), m3_4.below (by (repeat' (first | (with_reducible assumption) | (with_reducible exact Below.refl _ _) | (with_reducible refine below_wov ?_ ?_ _) | (with_reducible refine below_drewN ?_ _) | (with_reducible refine Below.drew ?_) | (with_reducible refine Below.alloc ?_ ?_ _) | (with_reducible refine Below.setCell ?_ ?_ _) | (with_reducible exact Nat.le_refl _) | omega | (simp only [World.size_alloc, World.size_setCell, World.size_drew, Wov_size, World.heap_drewN]; omega)))), BoxM.new (tp3) (by rw [← hA3]; (try simp only [Wov_size]))⟩ ?_
    rintro W4 ⟨hb4, m4_0, m4_1, m4_2, m4_3, m4_4, m4_5⟩
    clear hb3 f3_0_lt f3_0_c0 f3_0_c1 f3_1_lt f3_1_c0 f3_1_c1 f3_2_lt f3_2_c0 f3_2_c1 f3_2_c2 f3_2_c3 f3_2_c4 f3_3_lt f3_3_c0 f3_3_c1 f3_4_lt f3_4_c0 f3_4_c1 m3_0 m3_1 m3_2 m3_3 m3_4
    have f4_0_lt := m4_0.lt
    have f4_0_c0 := m4_0.c0
    have f4_0_c1 := m4_0.c1
    have f4_1_lt := m4_1.lt
    have f4_1_c0 := m4_1.c0
    have f4_1_c1 := m4_1.c1
    have f4_2_lt := m4_2.lt
    have f4_2_c0 := m4_2.c0
    have f4_2_c1 := m4_2.c1
    have f4_2_c2 := m4_2.c2
    have f4_2_c3 := m4_2.c3
    have f4_2_c4 := m4_2.c4
    have f4_3_lt := m4_3.lt
    have f4_3_c0 := m4_3.c0
    have f4_3_c1 := m4_3.c1
    have f4_4_lt := m4_4.lt
    have f4_4_c0 := m4_4.c0
    have f4_4_c1 := m4_4.c1
    have f4_5_lt := m4_5.lt
    have f4_5_c0 := m4_5.c0
    have f4_5_c1 := m4_5.c1
    clear tp3 hA3
    have D4 := Lib.hid m4_0
    have O4 := Lib.hid m4_3
    have HB4 := Lib.hid hb4
    have K4 : Hid (From W4 W4) := Below.refl _ _
    refine (TM.out _ _ _ m4_3.sl m4_1.sl).mono ?_; rintro e w' ⟨⟨p4, c4, rfl, ho⟩, q4, rfl⟩
    have tp4 := ho.slp
    obtain ⟨Bg, hBg, og⟩ := ho.blk
    have hAg : 0 < Z3 → Bg < W4.heap.size + q4.bl.size := fun h => by have := (og.at_ h).2; rw [Wov_size] at this; exact this
    clear ho
    go_wp2_with (fail)
    obtain ⟨A4, hA4⟩ : ∃ A, W4.heap.size + q4.bl.size = A := ⟨_, rfl⟩
    rw [hA4]
    rw [hA4] at hAg
    refine calls_world (fun W => Below w.heap.size w W ∧ BoxM W w.heap.size na pa Na ca fa ∧ BoxM W (w.heap.size + 1) nb pb Nb cb fb ∧ BoxS W (w.heap.size + 2) lo ls hi hs op ∧ BoxM W A1 na p1 Na c1 fa ∧ BoxM W A2 x1 p2 Z1 c2 g1 ∧ BoxM W A3 x2 p3 Z2 c3 g2 ∧ BoxM W A4 x3 p4 Z3 c4 g3 ∧ From W W4 ∧ OwnAt W Bg p4 Z3 g3) ⟨by (repeat' (first | (with_reducible assumption) | (with_reducible exact Below.refl _ _) | (with_reducible refine below_wov ?_ ?_ _) | (with_reducible refine below_drewN ?_ _) | (with_reducible refine Below.drew ?_) | (with_reducible refine Below.alloc ?_ ?_ _) | (with_reducible refine Below.setCell ?_ ?_ _) | (with_reducible exact Nat.le_refl _) | omega | (simp only [World.size_alloc, World.size_setCell, World.size_drew, Wov_size, World.heap_drewN]; omega))), m4_0.below (by (repeat' (first | (with_reducible assumption) | (with_reducible exact Below.refl _ _) | (with_reducible refine below_wov ?_ ?_ _) | (with_reducible refine below_drewN ?_ _) | (with_reducible refine Below.drew ?_) | (with_reducible refine Below.alloc ?_ ?_ _) | (with_reducible refine Below.setCell ?_ ?_ _) | (with_reducible exact Nat.le_refl _) | omega | (simp only [World.size_alloc, World.size_setCell, World.size_drew, Wov_size, World.heap_drewN]; omega)))), m4_1.below (by (repeat' (first | (with_reducible assumption) | (with_reducible exact Below.refl _ _) | (with_reducible refine below_wov ?_ ?_ _) | (with_reducible refine below_drewN ?_ _) | (with_reducible refine Below.drew ?_) | (with_reducible refine Below.alloc ?_ ?_ _) | (with_reducible refine Below.setCell ?_ ?_ _) | (with_reducible exact Nat.le_refl _) | omega | (simp only [World.size_alloc, World.size_setCell, World.size_drew, Wov_size, World.heap_drewN]; omega)))), m4_2.below (by (repeat' (first | (with_reducible assumption) | (with_reducible exact Below.refl _ _) | (with_reducible refine below_wov ?_ ?_ _) | (with_reducible refine below_drewN ?_ _) | (with_reducible refine Below.drew ?_) | (with_reducible refine Below.alloc ?_ ?_ _) | (with_reducible refine Below.setCell ?_ ?_ _) | (with_reducible exact Nat.le_refl _) | omega | (simp only [World.size_alloc, World.size_setCell, World.size_drew, Wov_size, World.heap_drewN]; omega)))), m4_3.below (by (repeat' (first | (with_reducible assumption) | (with_reducible exact Below.refl _ _) | (with_reducible refine below_wov ?_ ?_ _) | (with_reducible refine below_drewN ?_ _) | (with_reducible refine Below.drew ?_) | (with_reducible refine Below.alloc ?_ ?_ _) | (with_reducible refine Below.setCell ?_ ?_ _) | (with_reducible exact Nat.le_refl _) | omega | (simp only [World.size_alloc, World.size_setCell, World.size_drew, Wov_size, World.heap_drewN]; omega)))), m4_4.below (by (repeat' (first | (with_reducible assumption) | (with_reducible exact Below.refl _ _) | (with_reducible refine below_wov ?_ ?_ _) | (with_reducible refine below_drewN ?_ _) | (with_reducible refine Below.drew ?_) | (with_reducible refine Below.alloc ?_ ?_ _) | (with_reducible refine Below.setCell ?_ ?_ _) | (with_reducible exact Nat.le_refl _) | omega | (simp only [World.size_alloc, World.size_setCell, World.size_drew, Wov_size, World.heap_drewN]; omega)))), m4_5.below (by (repeat' (first | (with_reducible assumption) | (with_reducible exact Below.refl _ _) | (with_reducible refine below_wov ?_ ?_ _) | (with_reducible refine below_drewN ?_ _) | (with_reducible refine Below.drew ?_) | (with_reducible refine Below.alloc ?_ ?_ _) | (with_reducible refine Below.setCell ?_ ?_ _) | (with_reducible exact Nat.le_refl _) | omega | (simp only [World.size_alloc, World.size_setCell, World.size_drew, Wov_size, World.heap_drewN]; omega)))), BoxM.new (tp4) (by rw [← hA4]; (try simp only [Wov_size])), K4.out.below (by (repeat' (first | (with_reducible assumption) | (with_reducible exact Below.refl _ _) | (with_reducible refine below_wov ?_ ?_ _) | (with_reducible refine below_drewN ?_ _) | (with_reducible refine Below.drew ?_) | (with_reducible refine Below.alloc ?_ ?_ _) | (with_reducible refine Below.setCell ?_ ?_ _) | (with_reducible exact Nat.le_refl _) | omega | (simp only [World.size_alloc, World.size_setCell, World.size_drew, Wov_size, World.heap_drewN]; omega)))), og.below (by (repeat' (first | (with_reducible assumption) | (with_reducible exact Below.refl _ _) | (with_reducible refine below_wov ?_ ?_ _) | (with_reducible refine below_drewN ?_ _) | (with_reducible refine Below.drew ?_) | (with_reducible refine Below.alloc ?_ ?_ _) | (with_reducible refine Below.setCell ?_ ?_ _) | (with_reducible exact Nat.le_refl _) | omega | (simp only [World.size_alloc, World.size_setCell, World.size_drew, Wov_size, World.heap_drewN]; omega))))⟩ ?_
    rintro W5 ⟨hb5, m5_0, m5_1, m5_2, m5_3, m5_4, m5_5, m5_6, m5_7, m5_8⟩
    clear hb4 f4_0_lt f4_0_c0 f4_0_c1 f4_1_lt f4_1_c0 f4_1_c1 f4_2_lt f4_2_c0 f4_2_c1 f4_2_c2 f4_2_c3 f4_2_c4 f4_3_lt f4_3_c0 f4_3_c1 f4_4_lt f4_4_c0 f4_4_c1 f4_5_lt f4_5_c0 f4_5_c1 m4_0 m4_1 m4_2 m4_3 m4_4 m4_5
    have f5_0_lt := m5_0.lt
    have f5_0_c0 := m5_0.c0
    have f5_0_c1 := m5_0.c1
    have f5_1_lt := m5_1.lt
    have f5_1_c0 := m5_1.c0
    have f5_1_c1 := m5_1.c1
    have f5_2_lt := m5_2.lt
    have f5_2_c0 := m5_2.c0
    have f5_2_c1 := m5_2.c1
    have f5_2_c2 := m5_2.c2
    have f5_2_c3 := m5_2.c3
    have f5_2_c4 := m5_2.c4
    have f5_3_lt := m5_3.lt
    have f5_3_c0 := m5_3.c0
    have f5_3_c1 := m5_3.c1
    have f5_4_lt := m5_4.lt
    have f5_4_c0 := m5_4.c0
    have f5_4_c1 := m5_4.c1
    have f5_5_lt := m5_5.lt
    have f5_5_c0 := m5_5.c0
    have f5_5_c1 := m5_5.c1
    have f5_6_lt := m5_6.lt
    have f5_6_c0 := m5_6.c0
    have f5_6_c1 := m5_6.c1
    clear tp4 og hA4 K4
    have HAG := Lib.hid hAg
    clear hAg
    refine (RM.out _ m5_0.sl m5_1.sl).mono ?_; rintro e w' ⟨⟨p5, c5, rfl, ho⟩, q5, rfl⟩
    have tp5 := ho.slp
    clear ho
    go_wp2_with (fail)
    obtain ⟨A5, hA5⟩ : ∃ A, W5.heap.size + q5.bl.size = A := ⟨_, rfl⟩
    rw [hA5]
    refine calls_world (fun W => Below w.heap.size w W ∧ BoxM W w.heap.size na pa Na ca fa ∧ BoxM W (w.heap.size + 1) nb pb Nb cb fb ∧ BoxS W (w.heap.size + 2) lo ls hi hs op ∧ BoxM W A1 na p1 Na c1 fa ∧ BoxM W A2 x1 p2 Z1 c2 g1 ∧ BoxM W A3 x2 p3 Z2 c3 g2 ∧ BoxM W A4 x3 p4 Z3 c4 g3 ∧ From W W4 ∧ OwnAt W Bg p4 Z3 g3 ∧ BoxM W A5 x3 p5 Z3 c5 g3) ⟨by (repeat' (first | (with_reducible assumption) | (with_reducible exact Below.refl _ _) | (with_reducible refine below_wov ?_ ?_ _) | (with_reducible refine below_drewN ?_ _) | (with_reducible refine Below.drew ?_) | (with_reducible refine Below.alloc ?_ ?_ _) | (with_reducible refine Below.setCell ?_ ?_ _) | (with_reducible exact Nat.le_refl _) | omega | (simp only [World.size_alloc, World.size_setCell, World.size_drew, Wov_size, World.heap_drewN]; omega))), m5_0.below (by (repeat' (first | (with_reducible assumption) | (with_reducible exact Below.refl _ _) | (with_reducible refine below_wov ?_ ?_ _) | (with_reducible refine below_drewN ?_ _) | (with_reducible refine Below.drew ?_) | (with_reducible refine Below.alloc ?_ ?_ _) | (with_reducible refine Below.setCell ?_ ?_ _) | (with_reducible exact Nat.le_refl _) | omega | (simp only [World.size_alloc, World.size_setCell, World.size_drew, Wov_size, World.heap_drewN]; omega)))), m5_1.below (by (repeat' (first | (with_reducible assumption) | (with_reducible exact Below.refl _ _) | (with_reducible refine below_wov ?_ ?_ _) | (with_reducible refine below_drewN ?_ _) | (with_reducible refine Below.drew ?_) | (with_reducible refine Below.alloc ?_ ?_ _) | (with_reducible refine Below.setCell ?_ ?_ _) | (with_reducible exact Nat.le_refl _) | omega | (simp only [World.size_alloc, World.size_setCell, World.size_drew, Wov_size, World.heap_drewN]; omega)))), m5_2.below (by (repeat' (first | (with_reducible assumption) | (with_reducible exact Below.refl _ _) | (with_reducible refine below_wov ?_ ?_ _) | (with_reducible refine below_drewN ?_ _) | (with_reducible refine Below.drew ?_) | (with_reducible refine Below.alloc ?_ ?_ _) | (with_reducible refine Below.setCell ?_ ?_ _) | (with_reducible exact Nat.le_refl _) | omega | (simp only [World.size_alloc, World.size_setCell, World.size_drew, Wov_size, World.heap_drewN]; omega)))), m5_3.below (by (repeat' (first | (with_reducible assumption) | (with_reducible exact Below.refl _ _) | (with_reducible refine below_wov ?_ ?_ _) | (with_reducible refine below_drewN ?_ _) | (with_reducible refine Below.drew ?_) | (with_reducible refine Below.alloc ?_ ?_ _) | (with_reducible refine Below.setCell ?_ ?_ _) | (with_reducible exact Nat.le_refl _) | omega | (simp only [World.size_alloc, World.size_setCell, World.size_drew, Wov_size, World.heap_drewN]; omega)))), m5_4.below (by (repeat' (first | (with_reducible assumption) | (with_reducible exact Below.refl _ _) | (with_reducible refine below_wov ?_ ?_ _) | (with_reducible refine below_drewN ?_ _) | (with_reducible refine Below.drew ?_) | (with_reducible refine Below.alloc ?_ ?_ _) | (with_reducible refine Below.setCell ?_ ?_ _) | (with_reducible exact Nat.le_refl _) | omega | (simp only [World.size_alloc, World.size_setCell, World.size_drew, Wov_size, World.heap_drewN]; omega)))), m5_5.below (by (repeat' (first | (with_reducible assumption) | (with_reducible exact Below.refl _ _) | (with_reducible refine below_wov ?_ ?_ _) | (with_reducible refine below_drewN ?_ _) | (with_reducible refine Below.drew ?_) | (with_reducible refine Below.alloc ?_ ?_ _) | (with_reducible refine Below.setCell ?_ ?_ _) | (with_reducible exact Nat.le_refl _) | omega | (simp only [World.size_alloc, World.size_setCell, World.size_drew, Wov_size, World.heap_drewN]; omega)))), m5_6.below (by (repeat' (first | (with_reducible assumption) | (with_reducible exact Below.refl _ _) | (with_reducible refine below_wov ?_ ?_ _) | (with_reducible refine below_drewN ?_ _) | (with_reducible refine Below.drew ?_) | (with_reducible refine Below.alloc ?_ ?_ _) | (with_reducible refine Below.setCell ?_ ?_ _) | (with_reducible exact Nat.le_refl _) | omega | (simp only [World.size_alloc, World.size_setCell, World.size_drew, Wov_size, World.heap_drewN]; omega)))), m5_7.below (by (repeat' (first | (with_reducible assumption) | (with_reducible exact Below.refl _ _) | (with_reducible refine below_wov ?_ ?_ _) | (with_reducible refine below_drewN ?_ _) | (with_reducible refine Below.drew ?_) | (with_reducible refine Below.alloc ?_ ?_ _) | (with_reducible refine Below.setCell ?_ ?_ _) | (with_reducible exact Nat.le_refl _) | omega | (simp only [World.size_alloc, World.size_setCell, World.size_drew, Wov_size, World.heap_drewN]; omega)))), m5_8.below (by (repeat' (first | (with_reducible assumption) | (with_reducible exact Below.refl _ _) | (with_reducible refine below_wov ?_ ?_ _) | (with_reducible refine below_drewN ?_ _) | (with_reducible refine Below.drew ?_) | (with_reducible refine Below.alloc ?_ ?_ _) | (with_reducible refine Below.setCell ?_ ?_ _) | (with_reducible exact Nat.le_refl _) | omega | (simp only [World.size_alloc, World.size_setCell, World.size_drew, Wov_size, World.heap_drewN]; omega)))), BoxM.new (tp5) (by rw [← hA5]; (try simp only [Wov_size]))⟩ ?_
    rintro W6 ⟨hb6, m6_0, m6_1, m6_2, m6_3, m6_4, m6_5, m6_6, m6_7, m6_8, m6_9⟩
    clear hb5 f5_0_lt f5_0_c0 f5_0_c1 f5_1_lt f5_1_c0 f5_1_c1 f5_2_lt f5_2_c0 f5_2_c1 f5_2_c2 f5_2_c3 f5_2_c4 f5_3_lt f5_3_c0 f5_3_c1 f5_4_lt f5_4_c0 f5_4_c1 f5_5_lt f5_5_c0 f5_5_c1 f5_6_lt f5_6_c0 f5_6_c1 m5_0 m5_1 m5_2 m5_3 m5_4 m5_5 m5_6 m5_7 m5_8
    have f6_0_lt := m6_0.lt
    have f6_0_c0 := m6_0.c0
    have f6_0_c1 := m6_0.c1
    have f6_1_lt := m6_1.lt
    have f6_1_c0 := m6_1.c0
    have f6_1_c1 := m6_1.c1
    have f6_2_lt := m6_2.lt
    have f6_2_c0 := m6_2.c0
    have f6_2_c1 := m6_2.c1
    have f6_2_c2 := m6_2.c2
    have f6_2_c3 := m6_2.c3
    have f6_2_c4 := m6_2.c4
    have f6_3_lt := m6_3.lt
    have f6_3_c0 := m6_3.c0
    have f6_3_c1 := m6_3.c1
    have f6_4_lt := m6_4.lt
    have f6_4_c0 := m6_4.c0
    have f6_4_c1 := m6_4.c1
    have f6_5_lt := m6_5.lt
    have f6_5_c0 := m6_5.c0
    have f6_5_c1 := m6_5.c1
    have f6_6_lt := m6_6.lt
    have f6_6_c0 := m6_6.c0
    have f6_6_c1 := m6_6.c1
    have f6_9_lt := m6_9.lt
    have f6_9_c0 := m6_9.c0
    have f6_9_c1 := m6_9.c1
    clear tp5 hA5
    refine (TB.out _ _ _ m6_3.sl).mono ?_; rintro e w' ⟨⟨p6, c6, rfl, ho⟩, q6, rfl⟩
    have tp6 := ho.slp
    clear ho
    go_wp2_with (fail)
    obtain ⟨A6, hA6⟩ : ∃ A, W6.heap.size + q6.bl.size = A := ⟨_, rfl⟩
    rw [hA6]
    refine calls_world (fun W => Below w.heap.size w W ∧ BoxM W w.heap.size na pa Na ca fa ∧ BoxM W (w.heap.size + 1) nb pb Nb cb fb ∧ BoxS W (w.heap.size + 2) lo ls hi hs op ∧ BoxM W A1 na p1 Na c1 fa ∧ BoxM W A2 x1 p2 Z1 c2 g1 ∧ BoxM W A3 x2 p3 Z2 c3 g2 ∧ BoxM W A4 x3 p4 Z3 c4 g3 ∧ From W W4 ∧ OwnAt W Bg p4 Z3 g3 ∧ BoxM W A5 x3 p5 Z3 c5 g3 ∧ BoxM W A6 x4 p6 Z4 c6 g4) ⟨by (repeat' (first | (with_reducible assumption) | (with_reducible exact Below.refl _ _) | (with_reducible refine below_wov ?_ ?_ _) | (with_reducible refine below_drewN ?_ _) | (with_reducible refine Below.drew ?_) | (with_reducible refine Below.alloc ?_ ?_ _) | (with_reducible refine Below.setCell ?_ ?_ _) | (with_reducible exact Nat.le_refl _) | omega | (simp only [World.size_alloc, World.size_setCell, World.size_drew, Wov_size, World.heap_drewN]; omega))), m6_0.below (by (repeat' (first | (with_reducible assumption) | (with_reducible exact Below.refl _ _) | (with_reducible refine below_wov ?_ ?_ _) | (with_reducible refine below_drewN ?_ _) | (with_reducible refine Below.drew ?_) | (with_reducible refine Below.alloc ?_ ?_ _) | (with_reducible refine Below.setCell ?_ ?_ _) | (with_reducible exact Nat.le_refl _) | omega | (simp only [World.size_alloc, World.size_setCell, World.size_drew, Wov_size, World.heap_drewN]; omega)))), m6_1.below (by (repeat' (first | (with_reducible assumption) | (with_reducible exact Below.refl _ _) | (with_reducible refine below_wov ?_ ?_ _) | (with_reducible refine below_drewN ?_ _) | (with_reducible refine Below.drew ?_) | (with_reducible refine Below.alloc ?_ ?_ _) | (with_reducible refine Below.setCell ?_ ?_ _) | (with_reducible exact Nat.le_refl _) | omega | (simp only [World.size_alloc, World.size_setCell, World.size_drew, Wov_size, World.heap_drewN]; omega)))), m6_2.below (by (repeat' (first | (with_reducible assumption) | (with_reducible exact Below.refl _ _) | (with_reducible refine below_wov ?_ ?_ _) | (with_reducible refine below_drewN ?_ _) | (with_reducible refine Below.drew ?_) | (with_reducible refine Below.alloc ?_ ?_ _) | (with_reducible refine Below.setCell ?_ ?_ _) | (with_reducible exact Nat.le_refl _) | omega | (simp only [World.size_alloc, World.size_setCell, World.size_drew, Wov_size, World.heap_drewN]; omega)))), m6_3.below (by (repeat' (first | (with_reducible assumption) | (with_reducible exact Below.refl _ _) | (with_reducible refine below_wov ?_ ?_ _) | (with_reducible refine below_drewN ?_ _) | (with_reducible refine Below.drew ?_) | (with_reducible refine Below.alloc ?_ ?_ _) | (with_reducible refine Below.setCell ?_ ?_ _) | (with_reducible exact Nat.le_refl _) | omega | (simp only [World.size_alloc, World.size_setCell, World.size_drew, Wov_size, World.heap_drewN]; omega)))), m6_4.below (by (repeat' (first | (with_reducible assumption) | (with_reducible exact Below.refl _ _) | (with_reducible refine below_wov ?_ ?_ _) | (with_reducible refine below_drewN ?_ _) | (with_reducible refine Below.drew ?_) | (with_reducible refine Below.alloc ?_ ?_ _) | (with_reducible refine Below.setCell ?_ ?_ _) | (with_reducible exact Nat.le_refl _) | omega | (simp only [World.size_alloc, World.size_setCell, World.size_drew, Wov_size, World.heap_drewN]; omega)))), m6_5.below (by (repeat' (first | (with_reducible assumption) | (with_reducible exact Below.refl _ _) | (with_reducible refine below_wov ?_ ?_ _) | (with_reducible refine below_drewN ?_ _) | (with_reducible refine Below.drew ?_) | (with_reducible refine Below.alloc ?_ ?_ _) | (with_reducible refine Below.setCell ?_ ?_ _) | (with_reducible exact Nat.le_refl _) | omega | (simp only [World.size_alloc, World.size_setCell, World.size_drew, Wov_size, World.heap_drewN]; omega)))), m6_6.below (by (repeat' (first | (with_reducible assumption) | (with_reducible exact Below.refl _ _) | (with_reducible refine below_wov ?_ ?_ _) | (with_reducible refine below_drewN ?_ _) | (with_reducible refine Below.drew ?_) | (with_reducible refine Below.alloc ?_ ?_ _) | (with_reducible refine Below.setCell ?_ ?_ _) | (with_reducible exact Nat.le_refl _) | omega | (simp only [World.size_alloc, World.size_setCell, World.size_drew, Wov_size, World.heap_drewN]; omega)))), m6_7.below (by (repeat' (first | (with_reducible assumption) | (with_reducible exact Below.refl _ _) | (with_reducible refine below_wov ?_ ?_ _) | (with_reducible refine below_drewN ?_ _) | (with_reducible refine Below.drew ?_) | (with_reducible refine Below.alloc ?_ ?_ _) | (with_reducible refine Below.setCell ?_ ?_ _) | (with_reducible exact Nat.le_refl _) | omega | (simp only [World.size_alloc, World.size_setCell, World.size_drew, Wov_size, World.heap_drewN]; omega)))), m6_8.below (by (repeat' (first | (with_reducible assumption) | (with_reducible exact Below.refl _ _) | (with_reducible refine below_wov ?_ ?_ _) | (with_reducible refine below_drewN ?_ _) | (with_reducible refine Below.drew ?_) | (with_reducible refine Below.alloc ?_ ?_ _) | (with_reducible refine Below.setCell ?_ ?_ _) | (with_reducible exact Nat.le_refl _) | omega | (simp only [World.size_alloc, World.size_setCell, World.size_drew, Wov_size, World.heap_drewN]; omega)))), m6_9.below (by (repeat' (first | (with_reducible assumption) | (with_reducible exact Below.refl _ _) | (with_reducible refine below_wov ?_ ?_ _) | (with_reducible refine below_drewN ?_ _) | (with_reducible refine Below.drew ?_) | (with_reducible refine Below.alloc ?_ ?_ _) | (with_reducible refine Below.setCell ?_ ?_ _) | (with_reducible exact Nat.le_refl _) | omega | (simp only [World.size_alloc, World.size_setCell, World.size_drew, Wov_size, World.heap_drewN]; omega)))), BoxM.new (tp6) (by rw [← hA6]; (try simp only [Wov_size]))⟩ ?_
    rintro W7 ⟨hb7, m7_0, m7_1, m7_2, m7_3, m7_4, m7_5, m7_6, m7_7, m7_8, m7_9, m7_10⟩
    clear hb6 f6_0_lt f6_0_c0 f6_0_c1 f6_1_lt f6_1_c0 f6_1_c1 f6_2_lt f6_2_c0 f6_2_c1 f6_2_c2 f6_2_c3 f6_2_c4 f6_3_lt f6_3_c0 f6_3_c1 f6_4_lt f6_4_c0 f6_4_c1 f6_5_lt f6_5_c0 f6_5_c1 f6_6_lt f6_6_c0 f6_6_c1 f6_9_lt f6_9_c0 f6_9_c1 m6_0 m6_1 m6_2 m6_3 m6_4 m6_5 m6_6 m6_7 m6_8 m6_9
    have f7_0_lt := m7_0.lt
    have f7_0_c0 := m7_0.c0
    have f7_0_c1 := m7_0.c1
    have f7_1_lt := m7_1.lt
    have f7_1_c0 := m7_1.c0
    have f7_1_c1 := m7_1.c1
    have f7_2_lt := m7_2.lt
    have f7_2_c0 := m7_2.c0
    have f7_2_c1 := m7_2.c1
    have f7_2_c2 := m7_2.c2
    have f7_2_c3 := m7_2.c3
    have f7_2_c4 := m7_2.c4
    have f7_3_lt := m7_3.lt
    have f7_3_c0 := m7_3.c0
    have f7_3_c1 := m7_3.c1
    have f7_4_lt := m7_4.lt
    have f7_4_c0 := m7_4.c0
    have f7_4_c1 := m7_4.c1
    have f7_5_lt := m7_5.lt
    have f7_5_c0 := m7_5.c0
    have f7_5_c1 := m7_5.c1
    have f7_6_lt := m7_6.lt
    have f7_6_c0 := m7_6.c0
    have f7_6_c1 := m7_6.c1
    have f7_9_lt := m7_9.lt
    have f7_9_c0 := m7_9.c0
    have f7_9_c1 := m7_9.c1
    have f7_10_lt := m7_10.lt
    have f7_10_c0 := m7_10.c0
    have f7_10_c1 := m7_10.c1
    clear tp6 hA6
    refine (RB.out _ m7_0.sl).mono ?_; rintro e w' ⟨⟨p7, c7, rfl, ho⟩, q7, rfl⟩
    have tp7 := ho.slp
    clear ho
    go_wp2_with (fail)
    obtain ⟨A7, hA7⟩ : ∃ A, W7.heap.size + q7.bl.size = A := ⟨_, rfl⟩
    rw [hA7]
    refine calls_world (fun W => Below w.heap.size w W ∧ BoxM W w.heap.size na pa Na ca fa ∧ BoxM W (w.heap.size + 1) nb pb Nb cb fb ∧ BoxS W (w.heap.size + 2) lo ls hi hs op ∧ BoxM W A1 na p1 Na c1 fa ∧ BoxM W A2 x1 p2 Z1 c2 g1 ∧ BoxM W A3 x2 p3 Z2 c3 g2 ∧ BoxM W A4 x3 p4 Z3 c4 g3 ∧ From W W4 ∧ OwnAt W Bg p4 Z3 g3 ∧ BoxM W A5 x3 p5 Z3 c5 g3 ∧ BoxM W A6 x4 p6 Z4 c6 g4 ∧ BoxM W A7 x5 p7 Z5 c7 g5) ⟨by (repeat' (first | (with_reducible assumption) | (with_reducible exact Below.refl _ _) | (with_reducible refine below_wov ?_ ?_ _) | (with_reducible refine below_drewN ?_ _) | (with_reducible refine Below.drew ?_) | (with_reducible refine Below.alloc ?_ ?_ _) | (with_reducible refine Below.setCell ?_ ?_ _) | (with_reducible exact Nat.le_refl _) | omega | (simp only [World.size_alloc, World.size_setCell, World.size_drew, Wov_size, World.heap_drewN]; omega))), m7_0.below (by (repeat' (first | (with_reducible assumption) | (with_reducible exact Below.refl _ _) | (with_reducible refine below_wov ?_ ?_ _) | (with_reducible refine below_drewN ?_ _) | (with_reducible refine Below.drew ?_) | (with_reducible refine Below.alloc ?_ ?_ _) | (with_reducible refine Below.setCell ?_ ?_ _) | (with_reducible exact Nat.le_refl _) | omega | (simp only [World.size_alloc, World.size_setCell, World.size_drew, Wov_size, World.heap_drewN]; omega)))), m7_1.below (by (repeat' (first | (with_reducible assumption) | (with_reducible exact Below.refl _ _) | (with_reducible refine below_wov ?_ ?_ _) | (with_reducible refine below_drewN ?_ _) | (with_reducible refine Below.drew ?_) | (with_reducible refine Below.alloc ?_ ?_ _) | (with_reducible refine Below.setCell ?_ ?_ _) | (with_reducible exact Nat.le_refl _) | omega | (simp only [World.size_alloc, World.size_setCell, World.size_drew, Wov_size, World.heap_drewN]; omega)))), m7_2.below (by (repeat' (first | (with_reducible assumption) | (with_reducible exact Below.refl _ _) | (with_reducible refine below_wov ?_ ?_ _) | (with_reducible refine below_drewN ?_ _) | (with_reducible refine Below.drew ?_) | (with_reducible refine Below.alloc ?_ ?_ _) | (with_reducible refine Below.setCell ?_ ?_ _) | (with_reducible exact Nat.le_refl _) | omega | (simp only [World.size_alloc, World.size_setCell, World.size_drew, Wov_size, World.heap_drewN]; omega)))), m7_3.below (by (repeat' (first | (with_reducible assumption) | (with_reducible exact Below.refl _ _) | (with_reducible refine below_wov ?_ ?_ _) | (with_reducible refine below_drewN ?_ _) | (with_reducible refine Below.drew ?_) | (with_reducible refine Below.alloc ?_ ?_ _) | (with_reducible refine Below.setCell ?_ ?_ _) | (with_reducible exact Nat.le_refl _) | omega | (simp only [World.size_alloc, World.size_setCell, World.size_drew, Wov_size, World.heap_drewN]; omega)))), m7_4.below (by (repeat' (first | (with_reducible assumption) | (with_reducible exact Below.refl _ _) | (with_reducible refine below_wov ?_ ?_ _) | (with_reducible refine below_drewN ?_ _) | (with_reducible refine Below.drew ?_) | (with_reducible refine Below.alloc ?_ ?_ _) | (with_reducible refine Below.setCell ?_ ?_ _) | (with_reducible exact Nat.le_refl _) | omega | (simp only [World.size_alloc, World.size_setCell, World.size_drew, Wov_size, World.heap_drewN]; omega)))), m7_5.below (by (repeat' (first | (with_reducible assumption) | (with_reducible exact Below.refl _ _) | (with_reducible refine below_wov ?_ ?_ _) | (with_reducible refine below_drewN ?_ _) | (with_reducible refine Below.drew ?_) | (with_reducible refine Below.alloc ?_ ?_ _) | (with_reducible refine Below.setCell ?_ ?_ _) | (with_reducible exact Nat.le_refl _) | omega | (simp only [World.size_alloc, World.size_setCell, World.size_drew, Wov_size, World.heap_drewN]; omega)))), m7_6.below (by (repeat' (first | (with_reducible assumption) | (with_reducible exact Below.refl _ _) | (with_reducible refine below_wov ?_ ?_ _) | (with_reducible refine below_drewN ?_ _) | (with_reducible refine Below.drew ?_) | (with_reducible refine Below.alloc ?_ ?_ _) | (with_reducible refine Below.setCell ?_ ?_ _) | (with_reducible exact Nat.le_refl _) | omega | (simp only [World.size_alloc, World.size_setCell, World.size_drew, Wov_size, World.heap_drewN]; omega)))), m7_7.below (by (repeat' (first | (with_reducible assumption) | (with_reducible exact Below.refl _ _) | (with_reducible refine below_wov ?_ ?_ _) | (with_reducible refine below_drewN ?_ _) | (with_reducible refine Below.drew ?_) | (with_reducible refine Below.alloc ?_ ?_ _) | (with_reducible refine Below.setCell ?_ ?_ _) | (with_reducible exact Nat.le_refl _) | omega | (simp only [World.size_alloc, World.size_setCell, World.size_drew, Wov_size, World.heap_drewN]; omega)))), m7_8.below (by (repeat' (first | (with_reducible assumption) | (with_reducible exact Below.refl _ _) | (with_reducible refine below_wov ?_ ?_ _) | (with_reducible refine below_drewN ?_ _) | (with_reducible refine Below.drew ?_) | (with_reducible refine Below.alloc ?_ ?_ _) | (with_reducible refine Below.setCell ?_ ?_ _) | (with_reducible exact Nat.le_refl _) | omega | (simp only [World.size_alloc, World.size_setCell, World.size_drew, Wov_size, World.heap_drewN]; omega)))), m7_9.below (by (repeat' (first | (with_reducible assumption) | (with_reducible exact Below.refl _ _) | (with_reducible refine below_wov ?_ ?_ _) | (with_reducible refine below_drewN ?_ _) | (with_reducible refine Below.drew ?_) | (with_reducible refine Below.alloc ?_ ?_ _) | (with_reducible refine Below.setCell ?_ ?_ _) | (with_reducible exact Nat.le_refl _) | omega | (simp only [World.size_alloc, World.size_setCell, World.size_drew, Wov_size, World.heap_drewN]; omega)))), m7_10.below (by (repeat' (first | (with_reducible assumption) | (with_reducible exact Below.refl _ _) | (with_reducible refine below_wov ?_ ?_ _) | (with_reducible refine below_drewN ?_ _) | (with_reducible refine Below.drew ?_) | (with_reducible refine Below.alloc ?_ ?_ _) | (with_reducible refine Below.setCell ?_ ?_ _) | (with_reducible exact Nat.le_refl _) | omega | (simp only [World.size_alloc, World.size_setCell, World.size_drew, Wov_size, World.heap_drewN]; omega)))), BoxM.new (tp7) (by rw [← hA7]; (try simp only [Wov_size]))⟩ ?_
    rintro W8 ⟨hb8, m8_0, m8_1, m8_2, m8_3, m8_4, m8_5, m8_6, m8_7, m8_8, m8_9, m8_10, m8_11⟩
    clear hb7 f7_0_lt f7_0_c0 f7_0_c1 f7_1_lt f7_1_c0 f7_1_c1 f7_2_lt f7_2_c0 f7_2_c1 f7_2_c2 f7_2_c3 f7_2_c4 f7_3_lt f7_3_c0 f7_3_c1 f7_4_lt f7_4_c0 f7_4_c1 f7_5_lt f7_5_c0 f7_5_c1 f7_6_lt f7_6_c0 f7_6_c1 f7_9_lt f7_9_c0 f7_9_c1 f7_10_lt f7_10_c0 f7_10_c1 m7_0 m7_1 m7_2 m7_3 m7_4 m7_5 m7_6 m7_7 m7_8 m7_9 m7_10
    have f8_0_lt := m8_0.lt
    have f8_0_c0 := m8_0.c0
    have f8_0_c1 := m8_0.c1
    have f8_1_lt := m8_1.lt
    have f8_1_c0 := m8_1.c0
    have f8_1_c1 := m8_1.c1
    have f8_2_lt := m8_2.lt
    have f8_2_c0 := m8_2.c0
    have f8_2_c1 := m8_2.c1
    have f8_2_c2 := m8_2.c2
    have f8_2_c3 := m8_2.c3
    have f8_2_c4 := m8_2.c4
    have f8_3_lt := m8_3.lt
    have f8_3_c0 := m8_3.c0
    have f8_3_c1 := m8_3.c1
    have f8_4_lt := m8_4.lt
    have f8_4_c0 := m8_4.c0
    have f8_4_c1 := m8_4.c1
    have f8_5_lt := m8_5.lt
    have f8_5_c0 := m8_5.c0
    have f8_5_c1 := m8_5.c1
    have f8_6_lt := m8_6.lt
    have f8_6_c0 := m8_6.c0
    have f8_6_c1 := m8_6.c1
    have f8_9_lt := m8_9.lt
    have f8_9_c0 := m8_9.c0
    have f8_9_c1 := m8_9.c1
    have f8_10_lt := m8_10.lt
    have f8_10_c0 := m8_10.c0
    have f8_10_c1 := m8_10.c1
    have f8_11_lt := m8_11.lt
    have f8_11_c0 := m8_11.c0
    have f8_11_c1 := m8_11.c1
    clear tp7 hA7
    refine (SM1.out _ _ _ _ _ m8_4.sl m8_5.sl).mono ?_; rintro e w' ⟨rfl, q8, rfl⟩
    go_wp2_with (fail)
    refine calls_world (fun W => Below w.heap.size w W ∧ BoxM W w.heap.size na pa Na ca fa ∧ BoxM W (w.heap.size + 1) nb pb Nb cb fb ∧ BoxS W (w.heap.size + 2) lo ls hi hs op ∧ BoxM W A1 na p1 Na c1 fa ∧ BoxM W A2 x1 p2 Z1 c2 g1 ∧ BoxM W A3 x2 p3 Z2 c3 g2 ∧ BoxM W A4 x3 p4 Z3 c4 g3 ∧ From W W4 ∧ OwnAt W Bg p4 Z3 g3 ∧ BoxM W A5 x3 p5 Z3 c5 g3 ∧ BoxM W A6 x4 p6 Z4 c6 g4 ∧ BoxM W A7 x5 p7 Z5 c7 g5) ⟨by (repeat' (first | (with_reducible assumption) | (with_reducible exact Below.refl _ _) | (with_reducible refine below_wov ?_ ?_ _) | (with_reducible refine below_drewN ?_ _) | (with_reducible refine Below.drew ?_) | (with_reducible refine Below.alloc ?_ ?_ _) | (with_reducible refine Below.setCell ?_ ?_ _) | (with_reducible exact Nat.le_refl _) | omega | (simp only [World.size_alloc, World.size_setCell, World.size_drew, Wov_size, World.heap_drewN]; omega))), m8_0.below (by (repeat' (first | (with_reducible assumption) | (with_reducible exact Below.refl _ _) | (with_reducible refine below_wov ?_ ?_ _) | (with_reducible refine below_drewN ?_ _) | (with_reducible refine Below.drew ?_) | (with_reducible refine Below.alloc ?_ ?_ _) | (with_reducible refine Below.setCell ?_ ?_ _) | (with_reducible exact Nat.le_refl _) | omega | (simp only [World.size_alloc, World.size_setCell, World.size_drew, Wov_size, World.heap_drewN]; omega)))), m8_1.below (by (repeat' (first | (with_reducible assumption) | (with_reducible exact Below.refl _ _) | (with_reducible refine below_wov ?_ ?_ _) | (with_reducible refine below_drewN ?_ _) | (with_reducible refine Below.drew ?_) | (with_reducible refine Below.alloc ?_ ?_ _) | (with_reducible refine Below.setCell ?_ ?_ _) | (with_reducible exact Nat.le_refl _) | omega | (simp only [World.size_alloc, World.size_setCell, World.size_drew, Wov_size, World.heap_drewN]; omega)))), m8_2.below (by (repeat' (first | (with_reducible assumption) | (with_reducible exact Below.refl _ _) | (with_reducible refine below_wov ?_ ?_ _) | (with_reducible refine below_drewN ?_ _) | (with_reducible refine Below.drew ?_) | (with_reducible refine Below.alloc ?_ ?_ _) | (with_reducible refine Below.setCell ?_ ?_ _) | (with_reducible exact Nat.le_refl _) | omega | (simp only [World.size_alloc, World.size_setCell, World.size_drew, Wov_size, World.heap_drewN]; omega)))), m8_3.below (by (repeat' (first | (with_reducible assumption) | (with_reducible exact Below.refl _ _) | (with_reducible refine below_wov ?_ ?_ _) | (with_reducible refine below_drewN ?_ _) | (with_reducible refine Below.drew ?_) | (with_reducible refine Below.alloc ?_ ?_ _) | (with_reducible refine Below.setCell ?_ ?_ _) | (with_reducible exact Nat.le_refl _) | omega | (simp only [World.size_alloc, World.size_setCell, World.size_drew, Wov_size, World.heap_drewN]; omega)))), m8_4.below (by (repeat' (first | (with_reducible assumption) | (with_reducible exact Below.refl _ _) | (with_reducible refine below_wov ?_ ?_ _) | (with_reducible refine below_drewN ?_ _) | (with_reducible refine Below.drew ?_) | (with_reducible refine Below.alloc ?_ ?_ _) | (with_reducible refine Below.setCell ?_ ?_ _) | (with_reducible exact Nat.le_refl _) | omega | (simp only [World.size_alloc, World.size_setCell, World.size_drew, Wov_size, World.heap_drewN]; omega)))), m8_5.below (by (repeat' (first | (with_reducible assumption) | (with_reducible exact Below.refl _ _) | (with_reducible refine below_wov ?_ ?_ _) | (with_reducible refine below_drewN ?_ _) | (with_reducible refine Below.drew ?_) | (with_reducible refine Below.alloc ?_ ?_ _) | (with_reducible refine Below.setCell ?_ ?_ _) | (with_reducible exact Nat.le_refl _) | omega | (simp only [World.size_alloc, World.size_setCell, World.size_drew, Wov_size, World.heap_drewN]; omega)))), m8_6.below (by (repeat' (first | (with_reducible assumption) | (with_reducible exact Below.refl _ _) | (with_reducible refine below_wov ?_ ?_ _) | (with_reducible refine below_drewN ?_ _) | (with_reducible refine Below.drew ?_) | (with_reducible refine Below.alloc ?_ ?_ _) | (with_reducible refine Below.setCell ?_ ?_ _) | (with_reducible exact Nat.le_refl _) | omega | (simp only [World.size_alloc, World.size_setCell, World.size_drew, Wov_size, World.heap_drewN]; omega)))), m8_7.below (by (repeat' (first | (with_reducible assumption) | (with_reducible exact Below.refl _ _) | (with_reducible refine below_wov ?_ ?_ _) | (with_reducible refine below_drewN ?_ _) | (with_reducible refine Below.drew ?_) | (with_reducible refine Below.alloc ?_ ?_ _) | (with_reducible refine Below.setCell ?_ ?_ _) | (with_reducible exact Nat.le_refl _) | omega | (simp only [World.size_alloc, World.size_setCell, World.size_drew, Wov_size, World.heap_drewN]; omega)))), m8_8.below (by (repeat' (first | (with_reducible assumption) | (with_reducible exact Below.refl _ _) | (with_reducible refine below_wov ?_ ?_ _) | (with_reducible refine below_drewN ?_ _) | (with_reducible refine Below.drew ?_) | (with_reducible refine Below.alloc ?_ ?_ _) | (with_reducible refine Below.setCell ?_ ?_ _) | (with_reducible exact Nat.le_refl _) | omega | (simp only [World.size_alloc, World.size_setCell, World.size_drew, Wov_size, World.heap_drewN]; omega)))), m8_9.below (by (repeat' (first | (with_reducible assumption) | (with_reducible exact Below.refl _ _) | (with_reducible refine below_wov ?_ ?_ _) | (with_reducible refine below_drewN ?_ _) | (with_reducible refine Below.drew ?_) | (with_reducible refine Below.alloc ?_ ?_ _) | (with_reducible refine Below.setCell ?_ ?_ _) | (with_reducible exact Nat.le_refl _) | omega | (simp only [World.size_alloc, World.size_setCell, World.size_drew, Wov_size, World.heap_drewN]; omega)))), m8_10.below (by (repeat' (first | (with_reducible assumption) | (with_reducible exact Below.refl _ _) | (with_reducible refine below_wov ?_ ?_ _) | (with_reducible refine below_drewN ?_ _) | (with_reducible refine Below.drew ?_) | (with_reducible refine Below.alloc ?_ ?_ _) | (with_reducible refine Below.setCell ?_ ?_ _) | (with_reducible exact Nat.le_refl _) | omega | (simp only [World.size_alloc, World.size_setCell, World.size_drew, Wov_size, World.heap_drewN]; omega)))), m8_11.below (by (repeat' (first | (with_reducible assumption) | (with_reducible exact Below.refl _ _) | (with_reducible refine below_wov ?_ ?_ _) | (with_reducible refine below_drewN ?_ _) | (with_reducible refine Below.drew ?_) | (with_reducible refine Below.alloc ?_ ?_ _) | (with_reducible refine Below.setCell ?_ ?_ _) | (with_reducible exact Nat.le_refl _) | omega | (simp only [World.size_alloc, World.size_setCell, World.size_drew, Wov_size, World.heap_drewN]; omega))))⟩ ?_
    rintro W9 ⟨hb9, m9_0, m9_1, m9_2, m9_3, m9_4, m9_5, m9_6, m9_7, m9_8, m9_9, m9_10, m9_11⟩
    clear hb8 f8_0_lt f8_0_c0 f8_0_c1 f8_1_lt f8_1_c0 f8_1_c1 f8_2_lt f8_2_c0 f8_2_c1 f8_2_c2 f8_2_c3 f8_2_c4 f8_3_lt f8_3_c0 f8_3_c1 f8_4_lt f8_4_c0 f8_4_c1 f8_5_lt f8_5_c0 f8_5_c1 f8_6_lt f8_6_c0 f8_6_c1 f8_9_lt f8_9_c0 f8_9_c1 f8_10_lt f8_10_c0 f8_10_c1 f8_11_lt f8_11_c0 f8_11_c1 m8_0 m8_1 m8_2 m8_3 m8_4 m8_5 m8_6 m8_7 m8_8 m8_9 m8_10 m8_11
    have f9_0_lt := m9_0.lt
    have f9_0_c0 := m9_0.c0
    have f9_0_c1 := m9_0.c1
    have f9_1_lt := m9_1.lt
    have f9_1_c0 := m9_1.c0
    have f9_1_c1 := m9_1.c1
    have f9_2_lt := m9_2.lt
    have f9_2_c0 := m9_2.c0
    have f9_2_c1 := m9_2.c1
    have f9_2_c2 := m9_2.c2
    have f9_2_c3 := m9_2.c3
    have f9_2_c4 := m9_2.c4
    have f9_3_lt := m9_3.lt
    have f9_3_c0 := m9_3.c0
    have f9_3_c1 := m9_3.c1
    have f9_4_lt := m9_4.lt
    have f9_4_c0 := m9_4.c0
    have f9_4_c1 := m9_4.c1
    have f9_5_lt := m9_5.lt
    have f9_5_c0 := m9_5.c0
    have f9_5_c1 := m9_5.c1
    have f9_6_lt := m9_6.lt
    have f9_6_c0 := m9_6.c0
    have f9_6_c1 := m9_6.c1
    have f9_9_lt := m9_9.lt
    have f9_9_c0 := m9_9.c0
    have f9_9_c1 := m9_9.c1
    have f9_10_lt := m9_10.lt
    have f9_10_c0 := m9_10.c0
    have f9_10_c1 := m9_10.c1
    have f9_11_lt := m9_11.lt
    have f9_11_c0 := m9_11.c0
    have f9_11_c1 := m9_11.c1
    refine (SM2.out _ _ _ _ _ m9_6.sl m9_9.sl).mono ?_; rintro e w' ⟨rfl, q9, rfl⟩
    go_wp2_with (fail)
    refine calls_world (fun W => Below w.heap.size w W ∧ BoxM W w.heap.size na pa Na ca fa ∧ BoxM W (w.heap.size + 1) nb pb Nb cb fb ∧ BoxS W (w.heap.size + 2) lo ls hi hs op ∧ BoxM W A1 na p1 Na c1 fa ∧ BoxM W A2 x1 p2 Z1 c2 g1 ∧ BoxM W A3 x2 p3 Z2 c3 g2 ∧ BoxM W A4 x3 p4 Z3 c4 g3 ∧ From W W4 ∧ OwnAt W Bg p4 Z3 g3 ∧ BoxM W A5 x3 p5 Z3 c5 g3 ∧ BoxM W A6 x4 p6 Z4 c6 g4 ∧ BoxM W A7 x5 p7 Z5 c7 g5) ⟨by (repeat' (first | (with_reducible assumption) | (with_reducible exact Below.refl _ _) | (with_reducible refine below_wov ?_ ?_ _) | (with_reducible refine below_drewN ?_ _) | (with_reducible refine Below.drew ?_) | (with_reducible refine Below.alloc ?_ ?_ _) | (with_reducible refine Below.setCell ?_ ?_ _) | (with_reducible exact Nat.le_refl _) | omega | (simp only [World.size_alloc, World.size_setCell, World.size_drew, Wov_size, World.heap_drewN]; omega))), m9_0.below (by (repeat' (first | (with_reducible assumption) | (with_reducible exact Below.refl _ _) | (with_reducible refine below_wov ?_ ?_ _) | (with_reducible refine below_drewN ?_ _) | (with_reducible refine Below.drew ?_) | (with_reducible refine Below.alloc ?_ ?_ _) | (with_reducible refine Below.setCell ?_ ?_ _) | (with_reducible exact Nat.le_refl _) | omega | (simp only [World.size_alloc, World.size_setCell, World.size_drew, Wov_size, World.heap_drewN]; omega)))), m9_1.below (by (repeat' (first | (with_reducible assumption) | (with_reducible exact Below.refl _ _) | (with_reducible refine below_wov ?_ ?_ _) | (with_reducible refine below_drewN ?_ _) | (with_reducible refine Below.drew ?_) | (with_reducible refine Below.alloc ?_ ?_ _) | (with_reducible refine Below.setCell ?_ ?_ _) | (with_reducible exact Nat.le_refl _) | omega | (simp only [World.size_alloc, World.size_setCell, World.size_drew, Wov_size, World.heap_drewN]; omega)))), m9_2.below (by (repeat' (first | (with_reducible assumption) | (with_reducible exact Below.refl _ _) | (with_reducible refine below_wov ?_ ?_ _) | (with_reducible refine below_drewN ?_ _) | (with_reducible refine Below.drew ?_) | (with_reducible refine Below.alloc ?_ ?_ _) | (with_reducible refine Below.setCell ?_ ?_ _) | (with_reducible exact Nat.le_refl _) | omega | (simp only [World.size_alloc, World.size_setCell, World.size_drew, Wov_size, World.heap_drewN]; omega)))), m9_3.below (by (repeat' (first | (with_reducible assumption) | (with_reducible exact Below.refl _ _) | (with_reducible refine below_wov ?_ ?_ _) | (with_reducible refine below_drewN ?_ _) | (with_reducible refine Below.drew ?_) | (with_reducible refine Below.alloc ?_ ?_ _) | (with_reducible refine Below.setCell ?_ ?_ _) | (with_reducible exact Nat.le_refl _) | omega | (simp only [World.size_alloc, World.size_setCell, World.size_drew, Wov_size, World.heap_drewN]; omega)))), m9_4.below (by (repeat' (first | (with_reducible assumption) | (with_reducible exact Below.refl _ _) | (with_reducible refine below_wov ?_ ?_ _) | (with_reducible refine below_drewN ?_ _) | (with_reducible refine Below.drew ?_) | (with_reducible refine Below.alloc ?_ ?_ _) | (with_reducible refine Below.setCell ?_ ?_ _) | (with_reducible exact Nat.le_refl _) | omega | (simp only [World.size_alloc, World.size_setCell, World.size_drew, Wov_size, World.heap_drewN]; omega)))), m9_5.below (by (repeat' (first | (with_reducible assumption) | (with_reducible exact Below.refl _ _) | (with_reducible refine below_wov ?_ ?_ _) | (with_reducible refine below_drewN ?_ _) | (with_reducible refine Below.drew ?_) | (with_reducible refine Below.alloc ?_ ?_ _) | (with_reducible refine Below.setCell ?_ ?_ _) | (with_reducible exact Nat.le_refl _) | omega | (simp only [World.size_alloc, World.size_setCell, World.size_drew, Wov_size, World.heap_drewN]; omega)))), m9_6.below (by (repeat' (first | (with_reducible assumption) | (with_reducible exact Below.refl _ _) | (with_reducible refine below_wov ?_ ?_ _) | (with_reducible refine below_drewN ?_ _) | (with_reducible refine Below.drew ?_) | (with_reducible refine Below.alloc ?_ ?_ _) | (with_reducible refine Below.setCell ?_ ?_ _) | (with_reducible exact Nat.le_refl _) | omega | (simp only [World.size_alloc, World.size_setCell, World.size_drew, Wov_size, World.heap_drewN]; omega)))), m9_7.below (by (repeat' (first | (with_reducible assumption) | (with_reducible exact Below.refl _ _) | (with_reducible refine below_wov ?_ ?_ _) | (with_reducible refine below_drewN ?_ _) | (with_reducible refine Below.drew ?_) | (with_reducible refine Below.alloc ?_ ?_ _) | (with_reducible refine Below.setCell ?_ ?_ _) | (with_reducible exact Nat.le_refl _) | omega | (simp only [World.size_alloc, World.size_setCell, World.size_drew, Wov_size, World.heap_drewN]; omega)))), m9_8.below (by (repeat' (first | (with_reducible assumption) | (with_reducible exact Below.refl _ _) | (with_reducible refine below_wov ?_ ?_ _) | (with_reducible refine below_drewN ?_ _) | (with_reducible refine Below.drew ?_) | (with_reducible refine Below.alloc ?_ ?_ _) | (with_reducible refine Below.setCell ?_ ?_ _) | (with_reducible exact Nat.le_refl _) | omega | (simp only [World.size_alloc, World.size_setCell, World.size_drew, Wov_size, World.heap_drewN]; omega)))), m9_9.below (by (repeat' (first | (with_reducible assumption) | (with_reducible exact Below.refl _ _) | (with_reducible refine below_wov ?_ ?_ _) | (with_reducible refine below_drewN ?_ _) | (with_reducible refine Below.drew ?_) | (with_reducible refine Below.alloc ?_ ?_ _) | (with_reducible refine Below.setCell ?_ ?_ _) | (with_reducible exact Nat.le_refl _) | omega | (simp only [World.size_alloc, World.size_setCell, World.size_drew, Wov_size, World.heap_drewN]; omega)))), m9_10.below (by (repeat' (first | (with_reducible assumption) | (with_reducible exact Below.refl _ _) | (with_reducible refine below_wov ?_ ?_ _) | (with_reducible refine below_drewN ?_ _) | (with_reducible refine Below.drew ?_) | (with_reducible refine Below.alloc ?_ ?_ _) | (with_reducible refine Below.setCell ?_ ?_ _) | (with_reducible exact Nat.le_refl _) | omega | (simp only [World.size_alloc, World.size_setCell, World.size_drew, Wov_size, World.heap_drewN]; omega)))), m9_11.below (by (repeat' (first | (with_reducible assumption) | (with_reducible exact Below.refl _ _) | (with_reducible refine below_wov ?_ ?_ _) | (with_reducible refine below_drewN ?_ _) | (with_reducible refine Below.drew ?_) | (with_reducible refine Below.alloc ?_ ?_ _) | (with_reducible refine Below.setCell ?_ ?_ _) | (with_reducible exact Nat.le_refl _) | omega | (simp only [World.size_alloc, World.size_setCell, World.size_drew, Wov_size, World.heap_drewN]; omega))))⟩ ?_
    rintro W10 ⟨hb10, m10_0, m10_1, m10_2, m10_3, m10_4, m10_5, m10_6, m10_7, m10_8, m10_9, m10_10, m10_11⟩
    clear hb9 f9_0_lt f9_0_c0 f9_0_c1 f9_1_lt f9_1_c0 f9_1_c1 f9_2_lt f9_2_c0 f9_2_c1 f9_2_c2 f9_2_c3 f9_2_c4 f9_3_lt f9_3_c0 f9_3_c1 f9_4_lt f9_4_c0 f9_4_c1 f9_5_lt f9_5_c0 f9_5_c1 f9_6_lt f9_6_c0 f9_6_c1 f9_9_lt f9_9_c0 f9_9_c1 f9_10_lt f9_10_c0 f9_10_c1 f9_11_lt f9_11_c0 f9_11_c1 m9_0 m9_1 m9_2 m9_3 m9_4 m9_5 m9_6 m9_7 m9_8 m9_9 m9_10 m9_11
    have f10_0_lt := m10_0.lt
    have f10_0_c0 := m10_0.c0
    have f10_0_c1 := m10_0.c1
    have f10_1_lt := m10_1.lt
    have f10_1_c0 := m10_1.c0
    have f10_1_c1 := m10_1.c1
    have f10_2_lt := m10_2.lt
    have f10_2_c0 := m10_2.c0
    have f10_2_c1 := m10_2.c1
    have f10_2_c2 := m10_2.c2
    have f10_2_c3 := m10_2.c3
    have f10_2_c4 := m10_2.c4
    have f10_3_lt := m10_3.lt
    have f10_3_c0 := m10_3.c0
    have f10_3_c1 := m10_3.c1
    have f10_4_lt := m10_4.lt
    have f10_4_c0 := m10_4.c0
    have f10_4_c1 := m10_4.c1
    have f10_5_lt := m10_5.lt
    have f10_5_c0 := m10_5.c0
    have f10_5_c1 := m10_5.c1
    have f10_6_lt := m10_6.lt
    have f10_6_c0 := m10_6.c0
    have f10_6_c1 := m10_6.c1
    have f10_9_lt := m10_9.lt
    have f10_9_c0 := m10_9.c0
    have f10_9_c1 := m10_9.c1
    have f10_10_lt := m10_10.lt
    have f10_10_c0 := m10_10.c0
    have f10_10_c1 := m10_10.c1
    have f10_11_lt := m10_11.lt
    have f10_11_c0 := m10_11.c0
    have f10_11_c1 := m10_11.c1
    refine (SM3.out _ _ _ _ _ m10_10.sl m10_11.sl).mono ?_; rintro e w' ⟨rfl, q10, rfl⟩
    go_wp2
    refine wp_world (fun W => Below w.heap.size w W ∧ BoxM W w.heap.size na pa Na ca fa ∧ BoxM W (w.heap.size + 1) nb pb Nb cb fb ∧ BoxS W (w.heap.size + 2) lo ls hi hs op ∧ BoxM W A1 na p1 Na c1 fa ∧ BoxM W A2 x1 p2 Z1 c2 g1 ∧ BoxM W A3 x2 p3 Z2 c3 g2 ∧ BoxM W A4 x3 p4 Z3 c4 g3 ∧ From W W4 ∧ OwnAt W Bg p4 Z3 g3 ∧ BoxM W A5 x3 p5 Z3 c5 g3 ∧ BoxM W A6 x4 p6 Z4 c6 g4 ∧ BoxM W A7 x5 p7 Z5 c7 g5) ⟨by (repeat' (first | (with_reducible assumption) | (with_reducible exact Below.refl _ _) | (with_reducible refine below_wov ?_ ?_ _) | (with_reducible refine below_drewN ?_ _) | (with_reducible refine Below.drew ?_) | (with_reducible refine Below.alloc ?_ ?_ _) | (with_reducible refine Below.setCell ?_ ?_ _) | (with_reducible exact Nat.le_refl _) | omega | (simp only [World.size_alloc, World.size_setCell, World.size_drew, Wov_size, World.heap_drewN]; omega))), m10_0.below (by (repeat' (first | (with_reducible assumption) | (with_reducible exact Below.refl _ _) | (with_reducible refine below_wov ?_ ?_ _) | (with_reducible refine below_drewN ?_ _) | (with_reducible refine Below.drew ?_) | (with_reducible refine Below.alloc ?_ ?_ _) | (with_reducible refine Below.setCell ?_ ?_ _) | (with_reducible exact Nat.le_refl _) | omega | (simp only [World.size_alloc, World.size_setCell, World.size_drew, Wov_size, World.heap_drewN]; omega)))), m10_1.below (by (repeat' (first | (with_reducible assumption) | (with_reducible exact Below.refl _ _) | (with_reducible refine below_wov ?_ ?_ _) | (with_reducible refine below_drewN ?_ _) | (with_reducible refine Below.drew ?_) | (with_reducible refine Below.alloc ?_ ?_ _) | (with_reducible refine Below.setCell ?_ ?_ _) | (with_reducible exact Nat.le_refl _) | omega | (simp only [World.size_alloc, World.size_setCell, World.size_drew, Wov_size, World.heap_drewN]; omega)))), m10_2.below (by (repeat' (first | (with_reducible assumption) | (with_reducible exact Below.refl _ _) | (with_reducible refine below_wov ?_ ?_ _) | (with_reducible refine below_drewN ?_ _) | (with_reducible refine Below.drew ?_) | (with_reducible refine Below.alloc ?_ ?_ _) | (with_reducible refine Below.setCell ?_ ?_ _) | (with_reducible exact Nat.le_refl _) | omega | (simp only [World.size_alloc, World.size_setCell, World.size_drew, Wov_size, World.heap_drewN]; omega)))), m10_3.below (by (repeat' (first | (with_reducible assumption) | (with_reducible exact Below.refl _ _) | (with_reducible refine below_wov ?_ ?_ _) | (with_reducible refine below_drewN ?_ _) | (with_reducible refine Below.drew ?_) | (with_reducible refine Below.alloc ?_ ?_ _) | (with_reducible refine Below.setCell ?_ ?_ _) | (with_reducible exact Nat.le_refl _) | omega | (simp only [World.size_alloc, World.size_setCell, World.size_drew, Wov_size, World.heap_drewN]; omega)))), m10_4.below (by (repeat' (first | (with_reducible assumption) | (with_reducible exact Below.refl _ _) | (with_reducible refine below_wov ?_ ?_ _) | (with_reducible refine below_drewN ?_ _) | (with_reducible refine Below.drew ?_) | (with_reducible refine Below.alloc ?_ ?_ _) | (with_reducible refine Below.setCell ?_ ?_ _) | (with_reducible exact Nat.le_refl _) | omega | (simp only [World.size_alloc, World.size_setCell, World.size_drew, Wov_size, World.heap_drewN]; omega)))), m10_5.below (by (repeat' (first | (with_reducible assumption) | (with_reducible exact Below.refl _ _) | (with_reducible refine below_wov ?_ ?_ _) | (with_reducible refine below_drewN ?_ _) | (with_reducible refine Below.drew ?_) | (with_reducible refine Below.alloc ?_ ?_ _) | (with_reducible refine Below.setCell ?_ ?_ _) | (with_reducible exact Nat.le_refl _) | omega | (simp only [World.size_alloc, World.size_setCell, World.size_drew, Wov_size, World.heap_drewN]; omega)))), m10_6.below (by (repeat' (first | (with_reducible assumption) | (with_reducible exact Below.refl _ _) | (with_reducible refine below_wov ?_ ?_ _) | (with_reducible refine below_drewN ?_ _) | (with_reducible refine Below.drew ?_) | (with_reducible refine Below.alloc ?_ ?_ _) | (with_reducible refine Below.setCell ?_ ?_ _) | (with_reducible exact Nat.le_refl _) | omega | (simp only [World.size_alloc, World.size_setCell, World.size_drew, Wov_size, World.heap_drewN]; omega)))), m10_7.below (by (repeat' (first | (with_reducible assumption) | (with_reducible exact Below.refl _ _) | (with_reducible refine below_wov ?_ ?_ _) | (with_reducible refine below_drewN ?_ _) | (with_reducible refine Below.drew ?_) | (with_reducible refine Below.alloc ?_ ?_ _) | (with_reducible refine Below.setCell ?_ ?_ _) | (with_reducible exact Nat.le_refl _) | omega | (simp only [World.size_alloc, World.size_setCell, World.size_drew, Wov_size, World.heap_drewN]; omega)))), m10_8.below (by (repeat' (first | (with_reducible assumption) | (with_reducible exact Below.refl _ _) | (with_reducible refine below_wov ?_ ?_ _) | (with_reducible refine below_drewN ?_ _) | (with_reducible refine Below.drew ?_) | (with_reducible refine Below.alloc ?_ ?_ _) | (with_reducible refine Below.setCell ?_ ?_ _) | (with_reducible exact Nat.le_refl _) | omega | (simp only [World.size_alloc, World.size_setCell, World.size_drew, Wov_size, World.heap_drewN]; omega)))), m10_9.below (by (repeat' (first | (with_reducible assumption) | (with_reducible exact Below.refl _ _) | (with_reducible refine below_wov ?_ ?_ _) | (with_reducible refine below_drewN ?_ _) | (with_reducible refine Below.drew ?_) | (with_reducible refine Below.alloc ?_ ?_ _) | (with_reducible refine Below.setCell ?_ ?_ _) | (with_reducible exact Nat.le_refl _) | omega | (simp only [World.size_alloc, World.size_setCell, World.size_drew, Wov_size, World.heap_drewN]; omega)))), m10_10.below (by (repeat' (first | (with_reducible assumption) | (with_reducible exact Below.refl _ _) | (with_reducible refine below_wov ?_ ?_ _) | (with_reducible refine below_drewN ?_ _) | (with_reducible refine Below.drew ?_) | (with_reducible refine Below.alloc ?_ ?_ _) | (with_reducible refine Below.setCell ?_ ?_ _) | (with_reducible exact Nat.le_refl _) | omega | (simp only [World.size_alloc, World.size_setCell, World.size_drew, Wov_size, World.heap_drewN]; omega)))), m10_11.below (by (repeat' (first | (with_reducible assumption) | (with_reducible exact Below.refl _ _) | (with_reducible refine below_wov ?_ ?_ _) | (with_reducible refine below_drewN ?_ _) | (with_reducible refine Below.drew ?_) | (with_reducible refine Below.alloc ?_ ?_ _) | (with_reducible refine Below.setCell ?_ ?_ _) | (with_reducible exact Nat.le_refl _) | omega | (simp only [World.size_alloc, World.size_setCell, World.size_drew, Wov_size, World.heap_drewN]; omega))))⟩ ?_
    rintro W11 ⟨hb11, m11_0, m11_1, m11_2, m11_3, m11_4, m11_5, m11_6, m11_7, m11_8, m11_9, m11_10, m11_11⟩
    clear hb10 f10_0_lt f10_0_c0 f10_0_c1 f10_1_lt f10_1_c0 f10_1_c1 f10_2_lt f10_2_c0 f10_2_c1 f10_2_c2 f10_2_c3 f10_2_c4 f10_3_lt f10_3_c0 f10_3_c1 f10_4_lt f10_4_c0 f10_4_c1 f10_5_lt f10_5_c0 f10_5_c1 f10_6_lt f10_6_c0 f10_6_c1 f10_9_lt f10_9_c0 f10_9_c1 f10_10_lt f10_10_c0 f10_10_c1 f10_11_lt f10_11_c0 f10_11_c1 m10_0 m10_1 m10_2 m10_3 m10_4 m10_5 m10_6 m10_7 m10_8 m10_9 m10_10 m10_11
    have f11_0_lt := m11_0.lt
    have f11_0_c0 := m11_0.c0
    have f11_0_c1 := m11_0.c1
    have f11_1_lt := m11_1.lt
    have f11_1_c0 := m11_1.c0
    have f11_1_c1 := m11_1.c1
    have f11_2_lt := m11_2.lt
    have f11_2_c0 := m11_2.c0
    have f11_2_c1 := m11_2.c1
    have f11_2_c2 := m11_2.c2
    have f11_2_c3 := m11_2.c3
    have f11_2_c4 := m11_2.c4
    have f11_3_lt := m11_3.lt
    have f11_3_c0 := m11_3.c0
    have f11_3_c1 := m11_3.c1
    have f11_4_lt := m11_4.lt
    have f11_4_c0 := m11_4.c0
    have f11_4_c1 := m11_4.c1
    have f11_5_lt := m11_5.lt
    have f11_5_c0 := m11_5.c0
    have f11_5_c1 := m11_5.c1
    have f11_6_lt := m11_6.lt
    have f11_6_c0 := m11_6.c0
    have f11_6_c1 := m11_6.c1
    have f11_9_lt := m11_9.lt
    have f11_9_c0 := m11_9.c0
    have f11_9_c1 := m11_9.c1
    have f11_10_lt := m11_10.lt
    have f11_10_c0 := m11_10.c0
    have f11_10_c1 := m11_10.c1
    have f11_11_lt := m11_11.lt
    have f11_11_c0 := m11_11.c0
    have f11_11_c1 := m11_11.c1
    have hA4B : 0 < Z3 → A4 ≠ Bg := fun h e => by have := HAG.out h; omega
    have hsz4 := (show Below W4.heap.size W4 W11 from m11_7).size
    have F94 := Lib.hid m11_7
    have OG9 := Lib.hid m11_8
    have b9_0 := f11_6_c0
    have b9_1 := f11_6_c1
    have b9_l := f11_6_lt
    clear hb11 f11_0_lt f11_0_c0 f11_0_c1 f11_1_lt f11_1_c0 f11_1_c1 f11_2_lt f11_2_c0 f11_2_c1 f11_2_c2 f11_2_c3 f11_2_c4 f11_3_lt f11_3_c0 f11_3_c1 f11_4_lt f11_4_c0 f11_4_c1 f11_5_lt f11_5_c0 f11_5_c1 f11_6_lt f11_6_c0 f11_6_c1 f11_9_lt f11_9_c0 f11_9_c1 f11_10_lt f11_10_c0 f11_10_c1 f11_11_lt f11_11_c0 f11_11_c1 m11_0 m11_1 m11_2 m11_3 m11_4 m11_5 m11_6 m11_7 m11_8 m11_9 m11_10 m11_11
    go_loopw [27] (fun i wr => ∃ t : Nat, t ≤ Z3 ∧ i = .int .i64 t ∧ Chg W11 Bg wr ∧ (Z3 = 0 → wr = W11) ∧ Hid (∀ x, t ≤ x → x < Z3 → wr.cell? ⟨Bg, x, none⟩ = some (.int .i64 (g3 x)) ∧ wr.frozen? ⟨Bg, x, none⟩ = false))
      (fun i _ => Z3 - (intOf i).toNat)
    case atStart => exact ⟨0, Nat.zero_le _, rfl, Chg.refl _ _, fun _ => rfl, fun x _ hx => OG9.out.holds x hx⟩
    case round =>
      obtain ⟨t, ht, rfl, hc, h0, hh⟩ := hrel
      have e0 := (chg_cell0 (x := 0) hA4B h0 hc b9_l).trans b9_0
      have e1 := (chg_cell0 (x := 1) hA4B h0 hc b9_l).trans b9_1
      have hszr := hc.size
      by_cases hlt : t < Z3
      · obtain ⟨ept, hBg9⟩ := OG9.out.at_ (by omega)
        obtain ⟨k0, k1⟩ := hh.out t (Nat.le_refl _) hlt
        obtain ⟨v, hv⟩ : ∃ v, v = g3 t := ⟨_, rfl⟩
        rw [← hv] at k0
        rw [ept] at e1
        have u1 : (0 : Int) ≤ (t : Int) := by omega
        have u2 : (t : Int) < (Z3 : Int) := by omega
        have zB : Bg < wr.heap.size := by omega
        have zA : A4 < wr.heap.size := by omega
        have H0 := Lib.hid h0
        have HE := Lib.hid ept
        clear b9_0 b9_1 hv h0 ept
        go_wp2
        go_roundw
        case rel =>
          refine ⟨t + 1, hlt, by go_num, hc.trans (Chg.set _ _ _ _), fun h => by omega, fun x hx hxN => ⟨?_, ?_⟩⟩
          · rw [World.cell?_setCell_other _ _ _ _ (fun e => by have := congrArg Addr.off e; simp at this; omega)]; exact (hh.out x (by omega) hxN).1
          · rw [World.frozen?_setCell]; exact (hh.out x (by omega) hxN).2
        case measure => simp [intOf]; omega
      · have e : t = Z3 := by omega
        subst e
        have b2 : Below W4.heap.size W4 wr := Below.trans F94.out (hc.belowAt hBg hsz4)
        have bw : Below w.heap.size w wr := HB4.out.trans (b2.mono HB4.out.size)
        have DD := D4.out.below b2
        have OO := O4.out.below b2
        have j0 := DD.c0
        have j1 := DD.c1
        have j2 := DD.lt
        have j3 := OO.c0
        have j4 := OO.c1
        have j5 := OO.lt
        have SMo := Lib.hid (SMN.out wr p1 pa c1 ca OO.sl DD.sl)
        clear hc h0 hh b9_0 b9_1 b9_l DD OO D4 O4
        go_wp2_with (fail)
        refine SMo.out.mono ?_; rintro e w' ⟨rfl, qz, rfl⟩
        go_wp2
        all_goals
          go_ret
          exact gives_bool (by simp) (below_wov bw (by have := bw.size; omega) _)
end Go.Proofs.Ytggjkibhffglbaa.tightTells
