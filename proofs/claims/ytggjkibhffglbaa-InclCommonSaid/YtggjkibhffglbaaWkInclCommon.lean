/- The law InclCommon (walk): what two have in common lies in both, and is nothing just if they are apart. No condition. -/
import Derived.Test.YtggjkibhffglbaaG11
import Derived.Test.YtggjkibhffglbaaG13
import Derived.Test.YtggjkibhffglbaaMK
namespace Go.Proofs.Ytggjkibhffglbaa.inclCommon
open Go.ChangeShapes Go.WideShapes Go.ChangeAt Go.RowKit
set_option linter.unusedVariables false
set_option linter.unusedSimpArgs false
attribute [local go_sem] Nat.add_assoc Nat.add_lt_add_iff_left lit_lt_add

set_option maxRecDepth 100000 in
set_option maxHeartbeats 16000000 in
theorem walk (na : Int) (pa : Option Addr) (Na ca : Nat) (fa : Nat → Int) (wna : fits64 na) (nb : Int) (pb : Option Addr) (Nb cb : Nat) (fb : Nat → Int) (wnb : fits64 nb) (nd : Int) (pd : Option Addr) (Nd cd : Nat) (fd : Nat → Int) (wnd : fits64 nd) (w : World) (hSa : SlP w pa Na fa) (hFa : Fits Na fa) (hNa : Na ≤ maxLen) (hSb : SlP w pb Nb fb) (hFb : Fits Nb fb) (hNb : Nb ≤ maxLen) (hSd : SlP w pd Nd fd) (hFd : Fits Nd fd) (hNd : Nd ≤ maxLen) :
    Calls Try.prog 9 #[.agg #[.int .i64 na, .slice pa Na ca], .agg #[.int .i64 nb, .slice pb Nb cb], .agg #[.int .i64 nd, .slice pd Nd cd]] w (Gives w (.bool true)) := by
  have HA := Lib.hid alive6
  unfold maxLen at hNa hNb hNd
  by_cases hbig : 1000 < Na ∨ 1000 < Nb ∨ 1000 < Nd
  · clear hSa hFa hSb hFb hSd hFd
    by_cases hb0 : 1000 < Na
    · clear hbig
      go_enter Try.func9, Try.ntmps9
      go_wp2_with (fail)
      refine (HA.out _).mono ?_; rintro e w' ⟨rfl, p1, rfl⟩
      go_wp2
      all_goals
        go_ret
        exact gives_bool rfl (by (repeat' (first | (with_reducible assumption) | (with_reducible exact Below.refl _ _) | (with_reducible refine below_wov ?_ ?_ _) | (with_reducible refine below_drewN ?_ _) | (with_reducible refine Below.drew ?_) | (with_reducible refine Below.alloc ?_ ?_ _) | (with_reducible refine Below.setCell ?_ ?_ _) | (with_reducible exact Nat.le_refl _) | omega | (simp only [World.size_alloc, World.size_setCell, World.size_drew, Wov_size, World.heap_drewN]; omega))))
    · skip
      by_cases hb1 : 1000 < Nb
      · clear hbig
        go_enter Try.func9, Try.ntmps9
        go_wp2_with (fail)
        refine (HA.out _).mono ?_; rintro e w' ⟨rfl, p1, rfl⟩
        go_wp2
        all_goals
          go_ret
          exact gives_bool rfl (by (repeat' (first | (with_reducible assumption) | (with_reducible exact Below.refl _ _) | (with_reducible refine below_wov ?_ ?_ _) | (with_reducible refine below_drewN ?_ _) | (with_reducible refine Below.drew ?_) | (with_reducible refine Below.alloc ?_ ?_ _) | (with_reducible refine Below.setCell ?_ ?_ _) | (with_reducible exact Nat.le_refl _) | omega | (simp only [World.size_alloc, World.size_setCell, World.size_drew, Wov_size, World.heap_drewN]; omega))))
      · skip
        have hb2 : 1000 < Nd := by omega
        clear hbig
        go_enter Try.func9, Try.ntmps9
        go_wp2_with (fail)
        refine (HA.out _).mono ?_; rintro e w' ⟨rfl, p1, rfl⟩
        go_wp2
        all_goals
          go_ret
          exact gives_bool rfl (by (repeat' (first | (with_reducible assumption) | (with_reducible exact Below.refl _ _) | (with_reducible refine below_wov ?_ ?_ _) | (with_reducible refine below_drewN ?_ _) | (with_reducible refine Below.drew ?_) | (with_reducible refine Below.alloc ?_ ?_ _) | (with_reducible refine Below.setCell ?_ ?_ _) | (with_reducible exact Nat.le_refl _) | omega | (simp only [World.size_alloc, World.size_setCell, World.size_drew, Wov_size, World.heap_drewN]; omega))))
  · skip
    have hNa3 : Na ≤ 1000 := by omega
    have hNb3 : Nb ≤ 1000 := by omega
    have hNd3 : Nd ≤ 1000 := by omega
    obtain ⟨⟨n1, Z1, g1, e⟩, h_1⟩ : ∃ r, r = meetM na Na fa nb Nb fb := ⟨_, rfl⟩
    obtain ⟨⟨apart, f⟩, h_2⟩ : ∃ r, r = apR na Na fa nb Nb fb := ⟨_, rfl⟩
    obtain ⟨⟨inn, h⟩, h_3⟩ : ∃ r, r = inR na Na fa nb Nb fb := ⟨_, rfl⟩
    obtain ⟨rfl, l1, l2, l3⟩ := common_law (nd := nd) (Nd := Nd) (fd := fd) h_1 h_2 h_3
    obtain ⟨⟨x, Z, g, f2⟩, h_4⟩ : ∃ r, r = closeM na Na fa := ⟨_, rfl⟩
    obtain ⟨⟨p, j⟩, h_5⟩ : ∃ r, r = inR nd Nd fd na Na fa := ⟨_, rfl⟩
    obtain ⟨⟨q, k⟩, h_6⟩ : ∃ r, r = inR nd Nd fd nb Nb fb := ⟨_, rfl⟩
    obtain ⟨⟨r, l⟩, h_7⟩ : ∃ r, r = inR nd Nd fd n1 Z1 g1 := ⟨_, rfl⟩
    have o1 : MRok ⟨n1, Z1, g1, e⟩ := by rw [h_1]; exact meetM_ok _ _ _ _ _ _
    have z1 := o1.n
    have z2 := o1.f
    have z3 := o1.N
    simp only at z1 z2 z3
    have MT : Hid (∀ W, SlP W pa Na fa → SlP W pb Nb fb → Calls Try.prog 19 #[.agg #[.int .i64 na, .slice pa Na ca], .agg #[.int .i64 nb, .slice pb Nb cb]] W (matC W n1 Z1 g1 e)) := fun W h g => by
      have := meet_any na pa Na ca fa nb pb Nb cb fb W wna wnb h g hFa hFb (by omega) (by omega)
      rw [← h_1] at this; exact this
    have C2 : Hid (∀ W, SlP W pa Na fa → SlP W pb Nb fb → Calls Try.prog 30 #[.agg #[.int .i64 na, .slice pa Na ca], .agg #[.int .i64 nb, .slice pb Nb cb]] W (Gives W (.tuple #[.bool apart, .int .i64 f]))) := fun W h g => by
      have := apart_any na pa Na ca fa nb pb Nb cb fb W wna wnb h g hFa hFb (by omega) (by omega)
      rw [← h_2] at this; exact this
    have C3 : Hid (∀ W, SlP W pa Na fa → SlP W pb Nb fb → Calls Try.prog 28 #[.agg #[.int .i64 na, .slice pa Na ca], .agg #[.int .i64 nb, .slice pb Nb cb]] W (Gives W (.tuple #[.bool inn, .int .i64 f]))) := fun W h g => by
      have := in_any na pa Na ca fa nb pb Nb cb fb W wna wnb h g hFa hFb (by omega) (by omega)
      rw [← h_3] at this; exact this
    have C5 : Hid (∀ W, SlP W pd Nd fd → SlP W pa Na fa → Calls Try.prog 28 #[.agg #[.int .i64 nd, .slice pd Nd cd], .agg #[.int .i64 na, .slice pa Na ca]] W (Gives W (.tuple #[.bool p, .int .i64 j]))) := fun W h g => by
      have := in_any nd pd Nd cd fd na pa Na ca fa W wnd wna h g hFd hFa (by omega) (by omega)
      rw [← h_5] at this; exact this
    have C6 : Hid (∀ W, SlP W pd Nd fd → SlP W pb Nb fb → Calls Try.prog 28 #[.agg #[.int .i64 nd, .slice pd Nd cd], .agg #[.int .i64 nb, .slice pb Nb cb]] W (Gives W (.tuple #[.bool q, .int .i64 k]))) := fun W h g => by
      have := in_any nd pd Nd cd fd nb pb Nb cb fb W wnd wnb h g hFd hFb (by omega) (by omega)
      rw [← h_6] at this; exact this
    have C7 : Hid (∀ W p' c', SlP W pd Nd fd → SlP W p' Z1 g1 → Calls Try.prog 28 #[.agg #[.int .i64 nd, .slice pd Nd cd], .agg #[.int .i64 n1, .slice p' Z1 c']] W (Gives W (.tuple #[.bool r, .int .i64 l]))) := fun W p' c' h g => by
      have := in_any nd pd Nd cd fd n1 p' Z1 c' g1 W wnd z1 h g hFd z2 (by omega) (by omega)
      rw [← h_7] at this; exact this
    have CK : Hid (∀ W p' c', SlP W p' Z1 g1 → Calls Try.prog 38 #[.agg #[.int .i64 n1, .slice p' Z1 c']] W (Gives W (.int .i64 (rcode (okD n1 Z1 g1))))) := fun W p' c' h =>
      dbmCheck_any n1 p' Z1 c' g1 W z1 h z2 (by omega)
    have CA : Hid (inR n1 Z1 g1 na Na fa = (true, 0) → ∀ W p' c', SlP W p' Z1 g1 → SlP W pa Na fa → Calls Try.prog 28 #[.agg #[.int .i64 n1, .slice p' Z1 c'], .agg #[.int .i64 na, .slice pa Na ca]] W (Gives W (.tuple #[.bool true, .int .i64 0]))) := fun hh W p' c' h g => by
      have := in_any n1 p' Z1 c' g1 na pa Na ca fa W z1 wna h g z2 hFa (by omega) (by omega)
      rw [hh] at this; exact this
    have CB : Hid (inR n1 Z1 g1 nb Nb fb = (true, 0) → ∀ W p' c', SlP W p' Z1 g1 → SlP W pb Nb fb → Calls Try.prog 28 #[.agg #[.int .i64 n1, .slice p' Z1 c'], .agg #[.int .i64 nb, .slice pb Nb cb]] W (Gives W (.tuple #[.bool true, .int .i64 0]))) := fun hh W p' c' h g => by
      have := in_any n1 p' Z1 c' g1 nb pb Nb cb fb W z1 wnb h g z2 hFb (by omega) (by omega)
      rw [hh] at this; exact this
    have CL : Hid (∀ W, SlP W pa Na fa → Calls Try.prog 36 #[.agg #[.int .i64 na, .slice pa Na ca]] W (matC W x Z g f2)) := fun W h => by
      have := closeM_any na pa Na ca fa W wna h hFa (by omega)
      rw [← h_4] at this; exact this
    have SM : Hid (∀ W p' c' p2 c2, SlP W p' Z1 g1 → SlP W p2 Z g → Calls Try.prog 39 #[.agg #[.int .i64 n1, .slice p' Z1 c'], .agg #[.int .i64 x, .slice p2 Z c2]] W (Gives W (.bool (sameB n1 Z1 g1 x Z g)))) := fun W p' c' p2 c2 h k => same_any n1 x p' p2 Z1 Z c' c2 g1 g W h k (by omega)
    have L1 := Lib.hid l1
    have L2 := Lib.hid l2
    have L3 : Hid (f = 0 → e = 0 → okD n1 Z1 g1 = true → inR n1 Z1 g1 na Na fa = (true, 0) ∧ inR n1 Z1 g1 nb Nb fb = (true, 0) ∧ f2 = 0 ∧ sameB n1 Z1 g1 x Z g = inn ∧ (j = 0 → k = 0 → l = 0 → r = (p && q))) := fun a b c => by
      obtain ⟨y1, y2, y3, y4, y5⟩ := l3 a b c
      rw [← h_4] at y3 y4
      exact ⟨y1, y2, y3, y4.symm, y5 p q r j k l h_5 h_6 h_7⟩
    have Sa := Lib.hid hSa
    have Sb := Lib.hid hSb
    have Sd := Lib.hid hSd
    clear hbig l1 l2 l3 o1 z1 z2 z3 h_1 h_2 h_3 h_4 h_5 h_6 h_7 hSa hFa wna hSb hFb wnb hSd hFd wnd
    go_enter Try.func9, Try.ntmps9
    go_wp2_with (fail)
    refine calls_world (fun W => Below w.heap.size w W ∧ BoxM W w.heap.size na pa Na ca fa ∧ BoxM W (w.heap.size + 1) nb pb Nb cb fb ∧ BoxM W (w.heap.size + 2) nd pd Nd cd fd) ⟨by (repeat' (first | (with_reducible assumption) | (with_reducible exact Below.refl _ _) | (with_reducible refine below_wov ?_ ?_ _) | (with_reducible refine below_drewN ?_ _) | (with_reducible refine Below.drew ?_) | (with_reducible refine Below.alloc ?_ ?_ _) | (with_reducible refine Below.setCell ?_ ?_ _) | (with_reducible exact Nat.le_refl _) | omega | (simp only [World.size_alloc, World.size_setCell, World.size_drew, Wov_size, World.heap_drewN]; omega))), (BoxM.new (W := w) (t := 24) (Sa.out) (by simp)).below (by (repeat' (first | (with_reducible assumption) | (with_reducible exact Below.refl _ _) | (with_reducible refine below_wov ?_ ?_ _) | (with_reducible refine below_drewN ?_ _) | (with_reducible refine Below.drew ?_) | (with_reducible refine Below.alloc ?_ ?_ _) | (with_reducible refine Below.setCell ?_ ?_ _) | (with_reducible exact Nat.le_refl _) | omega | (simp only [World.size_alloc, World.size_setCell, World.size_drew, Wov_size, World.heap_drewN]; omega)))), (BoxM.new (W := (World.alloc w (.cells #[.int .i64 na, .slice pa Na ca] 24))) (t := 24) ((Sb.out.below (by (repeat' (first | (with_reducible assumption) | (with_reducible exact Below.refl _ _) | (with_reducible refine below_wov ?_ ?_ _) | (with_reducible refine below_drewN ?_ _) | (with_reducible refine Below.drew ?_) | (with_reducible refine Below.alloc ?_ ?_ _) | (with_reducible refine Below.setCell ?_ ?_ _) | (with_reducible exact Nat.le_refl _) | omega | (simp only [World.size_alloc, World.size_setCell, World.size_drew, Wov_size, World.heap_drewN]; omega)))))) (by simp)).below (by (repeat' (first | (with_reducible assumption) | (with_reducible exact Below.refl _ _) | (with_reducible refine below_wov ?_ ?_ _) | (with_reducible refine below_drewN ?_ _) | (with_reducible refine Below.drew ?_) | (with_reducible refine Below.alloc ?_ ?_ _) | (with_reducible refine Below.setCell ?_ ?_ _) | (with_reducible exact Nat.le_refl _) | omega | (simp only [World.size_alloc, World.size_setCell, World.size_drew, Wov_size, World.heap_drewN]; omega)))), (BoxM.new (W := (World.alloc (World.alloc w (.cells #[.int .i64 na, .slice pa Na ca] 24)) (.cells #[.int .i64 nb, .slice pb Nb cb] 24))) (t := 24) ((Sd.out.below (by (repeat' (first | (with_reducible assumption) | (with_reducible exact Below.refl _ _) | (with_reducible refine below_wov ?_ ?_ _) | (with_reducible refine below_drewN ?_ _) | (with_reducible refine Below.drew ?_) | (with_reducible refine Below.alloc ?_ ?_ _) | (with_reducible refine Below.setCell ?_ ?_ _) | (with_reducible exact Nat.le_refl _) | omega | (simp only [World.size_alloc, World.size_setCell, World.size_drew, Wov_size, World.heap_drewN]; omega)))))) (by simp)).below (by (repeat' (first | (with_reducible assumption) | (with_reducible exact Below.refl _ _) | (with_reducible refine below_wov ?_ ?_ _) | (with_reducible refine below_drewN ?_ _) | (with_reducible refine Below.drew ?_) | (with_reducible refine Below.alloc ?_ ?_ _) | (with_reducible refine Below.setCell ?_ ?_ _) | (with_reducible exact Nat.le_refl _) | omega | (simp only [World.size_alloc, World.size_setCell, World.size_drew, Wov_size, World.heap_drewN]; omega))))⟩ ?_
    rintro W1 ⟨hb1, m1_0, m1_1, m1_2⟩
    have f1_0_lt := m1_0.lt
    have f1_0_c0 := m1_0.c0
    have f1_0_c1 := m1_0.c1
    have f1_1_lt := m1_1.lt
    have f1_1_c0 := m1_1.c0
    have f1_1_c1 := m1_1.c1
    have f1_2_lt := m1_2.lt
    have f1_2_c0 := m1_2.c0
    have f1_2_c1 := m1_2.c1
    refine (HA.out _).mono ?_; rintro e w' ⟨rfl, q0, rfl⟩
    go_wp2_with (fail)
    refine calls_world (fun W => Below w.heap.size w W ∧ BoxM W w.heap.size na pa Na ca fa ∧ BoxM W (w.heap.size + 1) nb pb Nb cb fb ∧ BoxM W (w.heap.size + 2) nd pd Nd cd fd) ⟨by (repeat' (first | (with_reducible assumption) | (with_reducible exact Below.refl _ _) | (with_reducible refine below_wov ?_ ?_ _) | (with_reducible refine below_drewN ?_ _) | (with_reducible refine Below.drew ?_) | (with_reducible refine Below.alloc ?_ ?_ _) | (with_reducible refine Below.setCell ?_ ?_ _) | (with_reducible exact Nat.le_refl _) | omega | (simp only [World.size_alloc, World.size_setCell, World.size_drew, Wov_size, World.heap_drewN]; omega))), m1_0.below (by (repeat' (first | (with_reducible assumption) | (with_reducible exact Below.refl _ _) | (with_reducible refine below_wov ?_ ?_ _) | (with_reducible refine below_drewN ?_ _) | (with_reducible refine Below.drew ?_) | (with_reducible refine Below.alloc ?_ ?_ _) | (with_reducible refine Below.setCell ?_ ?_ _) | (with_reducible exact Nat.le_refl _) | omega | (simp only [World.size_alloc, World.size_setCell, World.size_drew, Wov_size, World.heap_drewN]; omega)))), m1_1.below (by (repeat' (first | (with_reducible assumption) | (with_reducible exact Below.refl _ _) | (with_reducible refine below_wov ?_ ?_ _) | (with_reducible refine below_drewN ?_ _) | (with_reducible refine Below.drew ?_) | (with_reducible refine Below.alloc ?_ ?_ _) | (with_reducible refine Below.setCell ?_ ?_ _) | (with_reducible exact Nat.le_refl _) | omega | (simp only [World.size_alloc, World.size_setCell, World.size_drew, Wov_size, World.heap_drewN]; omega)))), m1_2.below (by (repeat' (first | (with_reducible assumption) | (with_reducible exact Below.refl _ _) | (with_reducible refine below_wov ?_ ?_ _) | (with_reducible refine below_drewN ?_ _) | (with_reducible refine Below.drew ?_) | (with_reducible refine Below.alloc ?_ ?_ _) | (with_reducible refine Below.setCell ?_ ?_ _) | (with_reducible exact Nat.le_refl _) | omega | (simp only [World.size_alloc, World.size_setCell, World.size_drew, Wov_size, World.heap_drewN]; omega))))⟩ ?_
    rintro W2 ⟨hb2, m2_0, m2_1, m2_2⟩
    clear hb1 f1_0_lt f1_0_c0 f1_0_c1 f1_1_lt f1_1_c0 f1_1_c1 f1_2_lt f1_2_c0 f1_2_c1 m1_0 m1_1 m1_2
    have f2_0_lt := m2_0.lt
    have f2_0_c0 := m2_0.c0
    have f2_0_c1 := m2_0.c1
    have f2_1_lt := m2_1.lt
    have f2_1_c0 := m2_1.c0
    have f2_1_c1 := m2_1.c1
    have f2_2_lt := m2_2.lt
    have f2_2_c0 := m2_2.c0
    have f2_2_c1 := m2_2.c1
    refine (MT.out _ m2_0.sl m2_1.sl).mono ?_; rintro e w' ⟨⟨p1, c1, rfl, ho⟩, q1, rfl⟩
    have tp1 := ho.slp
    clear ho
    go_wp2_with (fail)
    obtain ⟨A1, hA1⟩ : ∃ A, W2.heap.size + q1.bl.size = A := ⟨_, rfl⟩
    rw [hA1]
    refine calls_world (fun W => Below w.heap.size w W ∧ BoxM W w.heap.size na pa Na ca fa ∧ BoxM W (w.heap.size + 1) nb pb Nb cb fb ∧ BoxM W (w.heap.size + 2) nd pd Nd cd fd ∧ BoxM W A1 n1 p1 Z1 c1 g1) ⟨by (repeat' (first | (with_reducible assumption) | (with_reducible exact Below.refl _ _) | (with_reducible refine below_wov ?_ ?_ _) | (with_reducible refine below_drewN ?_ _) | (with_reducible refine Below.drew ?_) | (with_reducible refine Below.alloc ?_ ?_ _) | (with_reducible refine Below.setCell ?_ ?_ _) | (with_reducible exact Nat.le_refl _) | omega | (simp only [World.size_alloc, World.size_setCell, World.size_drew, Wov_size, World.heap_drewN]; omega))), m2_0.below (by (repeat' (first | (with_reducible assumption) | (with_reducible exact Below.refl _ _) | (with_reducible refine below_wov ?_ ?_ _) | (with_reducible refine below_drewN ?_ _) | (with_reducible refine Below.drew ?_) | (with_reducible refine Below.alloc ?_ ?_ _) | (with_reducible refine Below.setCell ?_ ?_ _) | (with_reducible exact Nat.le_refl _) | omega | (simp only [World.size_alloc, World.size_setCell, World.size_drew, Wov_size, World.heap_drewN]; omega)))), m2_1.below (by (repeat' (first | (with_reducible assumption) | (with_reducible exact Below.refl _ _) | (with_reducible refine below_wov ?_ ?_ _) | (with_reducible refine below_drewN ?_ _) | (with_reducible refine Below.drew ?_) | (with_reducible refine Below.alloc ?_ ?_ _) | (with_reducible refine Below.setCell ?_ ?_ _) | (with_reducible exact Nat.le_refl _) | omega | (simp only [World.size_alloc, World.size_setCell, World.size_drew, Wov_size, World.heap_drewN]; omega)))), m2_2.below (by (repeat' (first | (with_reducible assumption) | (with_reducible exact Below.refl _ _) | (with_reducible refine below_wov ?_ ?_ _) | (with_reducible refine below_drewN ?_ _) | (with_reducible refine Below.drew ?_) | (with_reducible refine Below.alloc ?_ ?_ _) | (with_reducible refine Below.setCell ?_ ?_ _) | (with_reducible exact Nat.le_refl _) | omega | (simp only [World.size_alloc, World.size_setCell, World.size_drew, Wov_size, World.heap_drewN]; omega)))), BoxM.new (tp1) (by rw [← hA1]; (try simp only [Wov_size]))⟩ ?_
    rintro W3 ⟨hb3, m3_0, m3_1, m3_2, m3_3⟩
    clear hb2 f2_0_lt f2_0_c0 f2_0_c1 f2_1_lt f2_1_c0 f2_1_c1 f2_2_lt f2_2_c0 f2_2_c1 m2_0 m2_1 m2_2
    have f3_0_lt := m3_0.lt
    have f3_0_c0 := m3_0.c0
    have f3_0_c1 := m3_0.c1
    have f3_1_lt := m3_1.lt
    have f3_1_c0 := m3_1.c0
    have f3_1_c1 := m3_1.c1
    have f3_2_lt := m3_2.lt
    have f3_2_c0 := m3_2.c0
    have f3_2_c1 := m3_2.c1
    have f3_3_lt := m3_3.lt
    have f3_3_c0 := m3_3.c0
    have f3_3_c1 := m3_3.c1
    clear tp1 hA1
    refine (C2.out _ m3_0.sl m3_1.sl).mono ?_; rintro e w' ⟨rfl, q2, rfl⟩
    go_wp2_with (fail)
    refine calls_world (fun W => Below w.heap.size w W ∧ BoxM W w.heap.size na pa Na ca fa ∧ BoxM W (w.heap.size + 1) nb pb Nb cb fb ∧ BoxM W (w.heap.size + 2) nd pd Nd cd fd ∧ BoxM W A1 n1 p1 Z1 c1 g1) ⟨by (repeat' (first | (with_reducible assumption) | (with_reducible exact Below.refl _ _) | (with_reducible refine below_wov ?_ ?_ _) | (with_reducible refine below_drewN ?_ _) | (with_reducible refine Below.drew ?_) | (with_reducible refine Below.alloc ?_ ?_ _) | (with_reducible refine Below.setCell ?_ ?_ _) | (with_reducible exact Nat.le_refl _) | omega | (simp only [World.size_alloc, World.size_setCell, World.size_drew, Wov_size, World.heap_drewN]; omega))), m3_0.below (by (repeat' (first | (with_reducible assumption) | (with_reducible exact Below.refl _ _) | (with_reducible refine below_wov ?_ ?_ _) | (with_reducible refine below_drewN ?_ _) | (with_reducible refine Below.drew ?_) | (with_reducible refine Below.alloc ?_ ?_ _) | (with_reducible refine Below.setCell ?_ ?_ _) | (with_reducible exact Nat.le_refl _) | omega | (simp only [World.size_alloc, World.size_setCell, World.size_drew, Wov_size, World.heap_drewN]; omega)))), m3_1.below (by (repeat' (first | (with_reducible assumption) | (with_reducible exact Below.refl _ _) | (with_reducible refine below_wov ?_ ?_ _) | (with_reducible refine below_drewN ?_ _) | (with_reducible refine Below.drew ?_) | (with_reducible refine Below.alloc ?_ ?_ _) | (with_reducible refine Below.setCell ?_ ?_ _) | (with_reducible exact Nat.le_refl _) | omega | (simp only [World.size_alloc, World.size_setCell, World.size_drew, Wov_size, World.heap_drewN]; omega)))), m3_2.below (by (repeat' (first | (with_reducible assumption) | (with_reducible exact Below.refl _ _) | (with_reducible refine below_wov ?_ ?_ _) | (with_reducible refine below_drewN ?_ _) | (with_reducible refine Below.drew ?_) | (with_reducible refine Below.alloc ?_ ?_ _) | (with_reducible refine Below.setCell ?_ ?_ _) | (with_reducible exact Nat.le_refl _) | omega | (simp only [World.size_alloc, World.size_setCell, World.size_drew, Wov_size, World.heap_drewN]; omega)))), m3_3.below (by (repeat' (first | (with_reducible assumption) | (with_reducible exact Below.refl _ _) | (with_reducible refine below_wov ?_ ?_ _) | (with_reducible refine below_drewN ?_ _) | (with_reducible refine Below.drew ?_) | (with_reducible refine Below.alloc ?_ ?_ _) | (with_reducible refine Below.setCell ?_ ?_ _) | (with_reducible exact Nat.le_refl _) | omega | (simp only [World.size_alloc, World.size_setCell, World.size_drew, Wov_size, World.heap_drewN]; omega))))⟩ ?_
    rintro W4 ⟨hb4, m4_0, m4_1, m4_2, m4_3⟩
    clear hb3 f3_0_lt f3_0_c0 f3_0_c1 f3_1_lt f3_1_c0 f3_1_c1 f3_2_lt f3_2_c0 f3_2_c1 f3_3_lt f3_3_c0 f3_3_c1 m3_0 m3_1 m3_2 m3_3
    have f4_0_lt := m4_0.lt
    have f4_0_c0 := m4_0.c0
    have f4_0_c1 := m4_0.c1
    have f4_1_lt := m4_1.lt
    have f4_1_c0 := m4_1.c0
    have f4_1_c1 := m4_1.c1
    have f4_2_lt := m4_2.lt
    have f4_2_c0 := m4_2.c0
    have f4_2_c1 := m4_2.c1
    have f4_3_lt := m4_3.lt
    have f4_3_c0 := m4_3.c0
    have f4_3_c1 := m4_3.c1
    refine (C3.out _ m4_0.sl m4_1.sl).mono ?_; rintro e w' ⟨rfl, q3, rfl⟩
    clear C2 C3 MT HA
    by_cases hf : f = 0
    · skip
      subst hf
      have ha := L2.out rfl
      subst ha
      by_cases h6 : e = 6
      · skip
        subst h6
        clear L1 L2 L3 C5 C6 C7 CK CA CB CL SM
        simp only [decide_true]
        go_wp2
        all_goals
          go_ret
          exact gives_bool (by simp) (by (repeat' (first | (with_reducible assumption) | (with_reducible exact Below.refl _ _) | (with_reducible refine below_wov ?_ ?_ _) | (with_reducible refine below_drewN ?_ _) | (with_reducible refine Below.drew ?_) | (with_reducible refine Below.alloc ?_ ?_ _) | (with_reducible refine Below.setCell ?_ ?_ _) | (with_reducible exact Nat.le_refl _) | omega | (simp only [World.size_alloc, World.size_setCell, World.size_drew, Wov_size, World.heap_drewN]; omega))))
      · skip
        have b6 : (e == 6) = false := by rw [beq_eq_false_iff_ne]; exact h6
        rw [decide_eq_false h6]
        by_cases he : e = 0
        · skip
          subst he
          clear h6 b6
          go_wp2_with (fail)
          refine calls_world (fun W => Below w.heap.size w W ∧ BoxM W w.heap.size na pa Na ca fa ∧ BoxM W (w.heap.size + 1) nb pb Nb cb fb ∧ BoxM W (w.heap.size + 2) nd pd Nd cd fd ∧ BoxM W A1 n1 p1 Z1 c1 g1) ⟨by (repeat' (first | (with_reducible assumption) | (with_reducible exact Below.refl _ _) | (with_reducible refine below_wov ?_ ?_ _) | (with_reducible refine below_drewN ?_ _) | (with_reducible refine Below.drew ?_) | (with_reducible refine Below.alloc ?_ ?_ _) | (with_reducible refine Below.setCell ?_ ?_ _) | (with_reducible exact Nat.le_refl _) | omega | (simp only [World.size_alloc, World.size_setCell, World.size_drew, Wov_size, World.heap_drewN]; omega))), m4_0.below (by (repeat' (first | (with_reducible assumption) | (with_reducible exact Below.refl _ _) | (with_reducible refine below_wov ?_ ?_ _) | (with_reducible refine below_drewN ?_ _) | (with_reducible refine Below.drew ?_) | (with_reducible refine Below.alloc ?_ ?_ _) | (with_reducible refine Below.setCell ?_ ?_ _) | (with_reducible exact Nat.le_refl _) | omega | (simp only [World.size_alloc, World.size_setCell, World.size_drew, Wov_size, World.heap_drewN]; omega)))), m4_1.below (by (repeat' (first | (with_reducible assumption) | (with_reducible exact Below.refl _ _) | (with_reducible refine below_wov ?_ ?_ _) | (with_reducible refine below_drewN ?_ _) | (with_reducible refine Below.drew ?_) | (with_reducible refine Below.alloc ?_ ?_ _) | (with_reducible refine Below.setCell ?_ ?_ _) | (with_reducible exact Nat.le_refl _) | omega | (simp only [World.size_alloc, World.size_setCell, World.size_drew, Wov_size, World.heap_drewN]; omega)))), m4_2.below (by (repeat' (first | (with_reducible assumption) | (with_reducible exact Below.refl _ _) | (with_reducible refine below_wov ?_ ?_ _) | (with_reducible refine below_drewN ?_ _) | (with_reducible refine Below.drew ?_) | (with_reducible refine Below.alloc ?_ ?_ _) | (with_reducible refine Below.setCell ?_ ?_ _) | (with_reducible exact Nat.le_refl _) | omega | (simp only [World.size_alloc, World.size_setCell, World.size_drew, Wov_size, World.heap_drewN]; omega)))), m4_3.below (by (repeat' (first | (with_reducible assumption) | (with_reducible exact Below.refl _ _) | (with_reducible refine below_wov ?_ ?_ _) | (with_reducible refine below_drewN ?_ _) | (with_reducible refine Below.drew ?_) | (with_reducible refine Below.alloc ?_ ?_ _) | (with_reducible refine Below.setCell ?_ ?_ _) | (with_reducible exact Nat.le_refl _) | omega | (simp only [World.size_alloc, World.size_setCell, World.size_drew, Wov_size, World.heap_drewN]; omega))))⟩ ?_
          rintro W5 ⟨hb5, m5_0, m5_1, m5_2, m5_3⟩
          clear hb4 f4_0_lt f4_0_c0 f4_0_c1 f4_1_lt f4_1_c0 f4_1_c1 f4_2_lt f4_2_c0 f4_2_c1 f4_3_lt f4_3_c0 f4_3_c1 m4_0 m4_1 m4_2 m4_3
          have f5_0_lt := m5_0.lt
          have f5_0_c0 := m5_0.c0
          have f5_0_c1 := m5_0.c1
          have f5_1_lt := m5_1.lt
          have f5_1_c0 := m5_1.c0
          have f5_1_c1 := m5_1.c1
          have f5_2_lt := m5_2.lt
          have f5_2_c0 := m5_2.c0
          have f5_2_c1 := m5_2.c1
          have f5_3_lt := m5_3.lt
          have f5_3_c0 := m5_3.c0
          have f5_3_c1 := m5_3.c1
          refine (CK.out _ _ _ m5_3.sl).mono ?_; rintro e w' ⟨rfl, q4, rfl⟩
          cases ok : okD n1 Z1 g1
          · skip
            clear L1 L2 L3 C5 C6 C7 CK CA CB CL SM ok
            simp only [rcode, Bool.false_eq_true, if_false]
            go_wp2
            all_goals
              go_ret
              exact gives_bool (by simp) (by (repeat' (first | (with_reducible assumption) | (with_reducible exact Below.refl _ _) | (with_reducible refine below_wov ?_ ?_ _) | (with_reducible refine below_drewN ?_ _) | (with_reducible refine Below.drew ?_) | (with_reducible refine Below.alloc ?_ ?_ _) | (with_reducible refine Below.setCell ?_ ?_ _) | (with_reducible exact Nat.le_refl _) | omega | (simp only [World.size_alloc, World.size_setCell, World.size_drew, Wov_size, World.heap_drewN]; omega))))
          · skip
            simp only [rcode, if_true]
            obtain ⟨y1, y2, rfl, y4, y5⟩ := L3.out (by simp) (by simp) ok
            have CA2 := Lib.hid (CA.out y1)
            have CB2 := Lib.hid (CB.out y2)
            rw [y4] at SM
            have L5 := Lib.hid y5
            clear L1 L2 L3 CA CB CK ok y1 y2 y4 y5
            go_wp2_with (fail)
            refine calls_world (fun W => Below w.heap.size w W ∧ BoxM W w.heap.size na pa Na ca fa ∧ BoxM W (w.heap.size + 1) nb pb Nb cb fb ∧ BoxM W (w.heap.size + 2) nd pd Nd cd fd ∧ BoxM W A1 n1 p1 Z1 c1 g1) ⟨by (repeat' (first | (with_reducible assumption) | (with_reducible exact Below.refl _ _) | (with_reducible refine below_wov ?_ ?_ _) | (with_reducible refine below_drewN ?_ _) | (with_reducible refine Below.drew ?_) | (with_reducible refine Below.alloc ?_ ?_ _) | (with_reducible refine Below.setCell ?_ ?_ _) | (with_reducible exact Nat.le_refl _) | omega | (simp only [World.size_alloc, World.size_setCell, World.size_drew, Wov_size, World.heap_drewN]; omega))), m5_0.below (by (repeat' (first | (with_reducible assumption) | (with_reducible exact Below.refl _ _) | (with_reducible refine below_wov ?_ ?_ _) | (with_reducible refine below_drewN ?_ _) | (with_reducible refine Below.drew ?_) | (with_reducible refine Below.alloc ?_ ?_ _) | (with_reducible refine Below.setCell ?_ ?_ _) | (with_reducible exact Nat.le_refl _) | omega | (simp only [World.size_alloc, World.size_setCell, World.size_drew, Wov_size, World.heap_drewN]; omega)))), m5_1.below (by (repeat' (first | (with_reducible assumption) | (with_reducible exact Below.refl _ _) | (with_reducible refine below_wov ?_ ?_ _) | (with_reducible refine below_drewN ?_ _) | (with_reducible refine Below.drew ?_) | (with_reducible refine Below.alloc ?_ ?_ _) | (with_reducible refine Below.setCell ?_ ?_ _) | (with_reducible exact Nat.le_refl _) | omega | (simp only [World.size_alloc, World.size_setCell, World.size_drew, Wov_size, World.heap_drewN]; omega)))), m5_2.below (by (repeat' (first | (with_reducible assumption) | (with_reducible exact Below.refl _ _) | (with_reducible refine below_wov ?_ ?_ _) | (with_reducible refine below_drewN ?_ _) | (with_reducible refine Below.drew ?_) | (with_reducible refine Below.alloc ?_ ?_ _) | (with_reducible refine Below.setCell ?_ ?_ _) | (with_reducible exact Nat.le_refl _) | omega | (simp only [World.size_alloc, World.size_setCell, World.size_drew, Wov_size, World.heap_drewN]; omega)))), m5_3.below (by (repeat' (first | (with_reducible assumption) | (with_reducible exact Below.refl _ _) | (with_reducible refine below_wov ?_ ?_ _) | (with_reducible refine below_drewN ?_ _) | (with_reducible refine Below.drew ?_) | (with_reducible refine Below.alloc ?_ ?_ _) | (with_reducible refine Below.setCell ?_ ?_ _) | (with_reducible exact Nat.le_refl _) | omega | (simp only [World.size_alloc, World.size_setCell, World.size_drew, Wov_size, World.heap_drewN]; omega))))⟩ ?_
            rintro W6 ⟨hb6, m6_0, m6_1, m6_2, m6_3⟩
            clear hb5 f5_0_lt f5_0_c0 f5_0_c1 f5_1_lt f5_1_c0 f5_1_c1 f5_2_lt f5_2_c0 f5_2_c1 f5_3_lt f5_3_c0 f5_3_c1 m5_0 m5_1 m5_2 m5_3
            have f6_0_lt := m6_0.lt
            have f6_0_c0 := m6_0.c0
            have f6_0_c1 := m6_0.c1
            have f6_1_lt := m6_1.lt
            have f6_1_c0 := m6_1.c0
            have f6_1_c1 := m6_1.c1
            have f6_2_lt := m6_2.lt
            have f6_2_c0 := m6_2.c0
            have f6_2_c1 := m6_2.c1
            have f6_3_lt := m6_3.lt
            have f6_3_c0 := m6_3.c0
            have f6_3_c1 := m6_3.c1
            refine (CA2.out _ _ _ m6_3.sl m6_0.sl).mono ?_; rintro e w' ⟨rfl, q5, rfl⟩
            go_wp2_with (fail)
            refine calls_world (fun W => Below w.heap.size w W ∧ BoxM W w.heap.size na pa Na ca fa ∧ BoxM W (w.heap.size + 1) nb pb Nb cb fb ∧ BoxM W (w.heap.size + 2) nd pd Nd cd fd ∧ BoxM W A1 n1 p1 Z1 c1 g1) ⟨by (repeat' (first | (with_reducible assumption) | (with_reducible exact Below.refl _ _) | (with_reducible refine below_wov ?_ ?_ _) | (with_reducible refine below_drewN ?_ _) | (with_reducible refine Below.drew ?_) | (with_reducible refine Below.alloc ?_ ?_ _) | (with_reducible refine Below.setCell ?_ ?_ _) | (with_reducible exact Nat.le_refl _) | omega | (simp only [World.size_alloc, World.size_setCell, World.size_drew, Wov_size, World.heap_drewN]; omega))), m6_0.below (by (repeat' (first | (with_reducible assumption) | (with_reducible exact Below.refl _ _) | (with_reducible refine below_wov ?_ ?_ _) | (with_reducible refine below_drewN ?_ _) | (with_reducible refine Below.drew ?_) | (with_reducible refine Below.alloc ?_ ?_ _) | (with_reducible refine Below.setCell ?_ ?_ _) | (with_reducible exact Nat.le_refl _) | omega | (simp only [World.size_alloc, World.size_setCell, World.size_drew, Wov_size, World.heap_drewN]; omega)))), m6_1.below (by (repeat' (first | (with_reducible assumption) | (with_reducible exact Below.refl _ _) | (with_reducible refine below_wov ?_ ?_ _) | (with_reducible refine below_drewN ?_ _) | (with_reducible refine Below.drew ?_) | (with_reducible refine Below.alloc ?_ ?_ _) | (with_reducible refine Below.setCell ?_ ?_ _) | (with_reducible exact Nat.le_refl _) | omega | (simp only [World.size_alloc, World.size_setCell, World.size_drew, Wov_size, World.heap_drewN]; omega)))), m6_2.below (by (repeat' (first | (with_reducible assumption) | (with_reducible exact Below.refl _ _) | (with_reducible refine below_wov ?_ ?_ _) | (with_reducible refine below_drewN ?_ _) | (with_reducible refine Below.drew ?_) | (with_reducible refine Below.alloc ?_ ?_ _) | (with_reducible refine Below.setCell ?_ ?_ _) | (with_reducible exact Nat.le_refl _) | omega | (simp only [World.size_alloc, World.size_setCell, World.size_drew, Wov_size, World.heap_drewN]; omega)))), m6_3.below (by (repeat' (first | (with_reducible assumption) | (with_reducible exact Below.refl _ _) | (with_reducible refine below_wov ?_ ?_ _) | (with_reducible refine below_drewN ?_ _) | (with_reducible refine Below.drew ?_) | (with_reducible refine Below.alloc ?_ ?_ _) | (with_reducible refine Below.setCell ?_ ?_ _) | (with_reducible exact Nat.le_refl _) | omega | (simp only [World.size_alloc, World.size_setCell, World.size_drew, Wov_size, World.heap_drewN]; omega))))⟩ ?_
            rintro W7 ⟨hb7, m7_0, m7_1, m7_2, m7_3⟩
            clear hb6 f6_0_lt f6_0_c0 f6_0_c1 f6_1_lt f6_1_c0 f6_1_c1 f6_2_lt f6_2_c0 f6_2_c1 f6_3_lt f6_3_c0 f6_3_c1 m6_0 m6_1 m6_2 m6_3
            have f7_0_lt := m7_0.lt
            have f7_0_c0 := m7_0.c0
            have f7_0_c1 := m7_0.c1
            have f7_1_lt := m7_1.lt
            have f7_1_c0 := m7_1.c0
            have f7_1_c1 := m7_1.c1
            have f7_2_lt := m7_2.lt
            have f7_2_c0 := m7_2.c0
            have f7_2_c1 := m7_2.c1
            have f7_3_lt := m7_3.lt
            have f7_3_c0 := m7_3.c0
            have f7_3_c1 := m7_3.c1
            refine (CB2.out _ _ _ m7_3.sl m7_1.sl).mono ?_; rintro e w' ⟨rfl, q6, rfl⟩
            go_wp2_with (fail)
            refine calls_world (fun W => Below w.heap.size w W ∧ BoxM W w.heap.size na pa Na ca fa ∧ BoxM W (w.heap.size + 1) nb pb Nb cb fb ∧ BoxM W (w.heap.size + 2) nd pd Nd cd fd ∧ BoxM W A1 n1 p1 Z1 c1 g1) ⟨by (repeat' (first | (with_reducible assumption) | (with_reducible exact Below.refl _ _) | (with_reducible refine below_wov ?_ ?_ _) | (with_reducible refine below_drewN ?_ _) | (with_reducible refine Below.drew ?_) | (with_reducible refine Below.alloc ?_ ?_ _) | (with_reducible refine Below.setCell ?_ ?_ _) | (with_reducible exact Nat.le_refl _) | omega | (simp only [World.size_alloc, World.size_setCell, World.size_drew, Wov_size, World.heap_drewN]; omega))), m7_0.below (by (repeat' (first | (with_reducible assumption) | (with_reducible exact Below.refl _ _) | (with_reducible refine below_wov ?_ ?_ _) | (with_reducible refine below_drewN ?_ _) | (with_reducible refine Below.drew ?_) | (with_reducible refine Below.alloc ?_ ?_ _) | (with_reducible refine Below.setCell ?_ ?_ _) | (with_reducible exact Nat.le_refl _) | omega | (simp only [World.size_alloc, World.size_setCell, World.size_drew, Wov_size, World.heap_drewN]; omega)))), m7_1.below (by (repeat' (first | (with_reducible assumption) | (with_reducible exact Below.refl _ _) | (with_reducible refine below_wov ?_ ?_ _) | (with_reducible refine below_drewN ?_ _) | (with_reducible refine Below.drew ?_) | (with_reducible refine Below.alloc ?_ ?_ _) | (with_reducible refine Below.setCell ?_ ?_ _) | (with_reducible exact Nat.le_refl _) | omega | (simp only [World.size_alloc, World.size_setCell, World.size_drew, Wov_size, World.heap_drewN]; omega)))), m7_2.below (by (repeat' (first | (with_reducible assumption) | (with_reducible exact Below.refl _ _) | (with_reducible refine below_wov ?_ ?_ _) | (with_reducible refine below_drewN ?_ _) | (with_reducible refine Below.drew ?_) | (with_reducible refine Below.alloc ?_ ?_ _) | (with_reducible refine Below.setCell ?_ ?_ _) | (with_reducible exact Nat.le_refl _) | omega | (simp only [World.size_alloc, World.size_setCell, World.size_drew, Wov_size, World.heap_drewN]; omega)))), m7_3.below (by (repeat' (first | (with_reducible assumption) | (with_reducible exact Below.refl _ _) | (with_reducible refine below_wov ?_ ?_ _) | (with_reducible refine below_drewN ?_ _) | (with_reducible refine Below.drew ?_) | (with_reducible refine Below.alloc ?_ ?_ _) | (with_reducible refine Below.setCell ?_ ?_ _) | (with_reducible exact Nat.le_refl _) | omega | (simp only [World.size_alloc, World.size_setCell, World.size_drew, Wov_size, World.heap_drewN]; omega))))⟩ ?_
            rintro W8 ⟨hb8, m8_0, m8_1, m8_2, m8_3⟩
            clear hb7 f7_0_lt f7_0_c0 f7_0_c1 f7_1_lt f7_1_c0 f7_1_c1 f7_2_lt f7_2_c0 f7_2_c1 f7_3_lt f7_3_c0 f7_3_c1 m7_0 m7_1 m7_2 m7_3
            have f8_0_lt := m8_0.lt
            have f8_0_c0 := m8_0.c0
            have f8_0_c1 := m8_0.c1
            have f8_1_lt := m8_1.lt
            have f8_1_c0 := m8_1.c0
            have f8_1_c1 := m8_1.c1
            have f8_2_lt := m8_2.lt
            have f8_2_c0 := m8_2.c0
            have f8_2_c1 := m8_2.c1
            have f8_3_lt := m8_3.lt
            have f8_3_c0 := m8_3.c0
            have f8_3_c1 := m8_3.c1
            refine (CL.out _ m8_0.sl).mono ?_; rintro e w' ⟨⟨p2, c2, rfl, ho⟩, q7, rfl⟩
            have tp2 := ho.slp
            clear ho
            go_wp2_with (fail)
            obtain ⟨A2, hA2⟩ : ∃ A, W8.heap.size + q7.bl.size = A := ⟨_, rfl⟩
            rw [hA2]
            refine calls_world (fun W => Below w.heap.size w W ∧ BoxM W w.heap.size na pa Na ca fa ∧ BoxM W (w.heap.size + 1) nb pb Nb cb fb ∧ BoxM W (w.heap.size + 2) nd pd Nd cd fd ∧ BoxM W A1 n1 p1 Z1 c1 g1 ∧ BoxM W A2 x p2 Z c2 g) ⟨by (repeat' (first | (with_reducible assumption) | (with_reducible exact Below.refl _ _) | (with_reducible refine below_wov ?_ ?_ _) | (with_reducible refine below_drewN ?_ _) | (with_reducible refine Below.drew ?_) | (with_reducible refine Below.alloc ?_ ?_ _) | (with_reducible refine Below.setCell ?_ ?_ _) | (with_reducible exact Nat.le_refl _) | omega | (simp only [World.size_alloc, World.size_setCell, World.size_drew, Wov_size, World.heap_drewN]; omega))), m8_0.below (by (repeat' (first | (with_reducible assumption) | (with_reducible exact Below.refl _ _) | (with_reducible refine below_wov ?_ ?_ _) | (with_reducible refine below_drewN ?_ _) | (with_reducible refine Below.drew ?_) | (with_reducible refine Below.alloc ?_ ?_ _) | (with_reducible refine Below.setCell ?_ ?_ _) | (with_reducible exact Nat.le_refl _) | omega | (simp only [World.size_alloc, World.size_setCell, World.size_drew, Wov_size, World.heap_drewN]; omega)))), m8_1.below (by (repeat' (first | (with_reducible assumption) | (with_reducible exact Below.refl _ _) | (with_reducible refine below_wov ?_ ?_ _) | (with_reducible refine below_drewN ?_ _) | (with_reducible refine Below.drew ?_) | (with_reducible refine Below.alloc ?_ ?_ _) | (with_reducible refine Below.setCell ?_ ?_ _) | (with_reducible exact Nat.le_refl _) | omega | (simp only [World.size_alloc, World.size_setCell, World.size_drew, Wov_size, World.heap_drewN]; omega)))), m8_2.below (by (repeat' (first | (with_reducible assumption) | (with_reducible exact Below.refl _ _) | (with_reducible refine below_wov ?_ ?_ _) | (with_reducible refine below_drewN ?_ _) | (with_reducible refine Below.drew ?_) | (with_reducible refine Below.alloc ?_ ?_ _) | (with_reducible refine Below.setCell ?_ ?_ _) | (with_reducible exact Nat.le_refl _) | omega | (simp only [World.size_alloc, World.size_setCell, World.size_drew, Wov_size, World.heap_drewN]; omega)))), m8_3.below (by (repeat' (first | (with_reducible assumption) | (with_reducible exact Below.refl _ _) | (with_reducible refine below_wov ?_ ?_ _) | (with_reducible refine below_drewN ?_ _) | (with_reducible refine Below.drew ?_) | (with_reducible refine Below.alloc ?_ ?_ _) | (with_reducible refine Below.setCell ?_ ?_ _) | (with_reducible exact Nat.le_refl _) | omega | (simp only [World.size_alloc, World.size_setCell, World.size_drew, Wov_size, World.heap_drewN]; omega)))), BoxM.new (tp2) (by rw [← hA2]; (try simp only [Wov_size]))⟩ ?_
            rintro W9 ⟨hb9, m9_0, m9_1, m9_2, m9_3, m9_4⟩
            clear hb8 f8_0_lt f8_0_c0 f8_0_c1 f8_1_lt f8_1_c0 f8_1_c1 f8_2_lt f8_2_c0 f8_2_c1 f8_3_lt f8_3_c0 f8_3_c1 m8_0 m8_1 m8_2 m8_3
            have f9_0_lt := m9_0.lt
            have f9_0_c0 := m9_0.c0
            have f9_0_c1 := m9_0.c1
            have f9_1_lt := m9_1.lt
            have f9_1_c0 := m9_1.c0
            have f9_1_c1 := m9_1.c1
            have f9_2_lt := m9_2.lt
            have f9_2_c0 := m9_2.c0
            have f9_2_c1 := m9_2.c1
            have f9_3_lt := m9_3.lt
            have f9_3_c0 := m9_3.c0
            have f9_3_c1 := m9_3.c1
            have f9_4_lt := m9_4.lt
            have f9_4_c0 := m9_4.c0
            have f9_4_c1 := m9_4.c1
            clear tp2 hA2
            refine (SM.out _ _ _ _ _ m9_3.sl m9_4.sl).mono ?_; rintro e w' ⟨rfl, q8, rfl⟩
            clear CA2 CB2 CL SM
            have bI : (inn != inn) = false := by cases inn <;> rfl
            go_wp2_with (fail)
            refine calls_world (fun W => Below w.heap.size w W ∧ BoxM W w.heap.size na pa Na ca fa ∧ BoxM W (w.heap.size + 1) nb pb Nb cb fb ∧ BoxM W (w.heap.size + 2) nd pd Nd cd fd ∧ BoxM W A1 n1 p1 Z1 c1 g1) ⟨by (repeat' (first | (with_reducible assumption) | (with_reducible exact Below.refl _ _) | (with_reducible refine below_wov ?_ ?_ _) | (with_reducible refine below_drewN ?_ _) | (with_reducible refine Below.drew ?_) | (with_reducible refine Below.alloc ?_ ?_ _) | (with_reducible refine Below.setCell ?_ ?_ _) | (with_reducible exact Nat.le_refl _) | omega | (simp only [World.size_alloc, World.size_setCell, World.size_drew, Wov_size, World.heap_drewN]; omega))), m9_0.below (by (repeat' (first | (with_reducible assumption) | (with_reducible exact Below.refl _ _) | (with_reducible refine below_wov ?_ ?_ _) | (with_reducible refine below_drewN ?_ _) | (with_reducible refine Below.drew ?_) | (with_reducible refine Below.alloc ?_ ?_ _) | (with_reducible refine Below.setCell ?_ ?_ _) | (with_reducible exact Nat.le_refl _) | omega | (simp only [World.size_alloc, World.size_setCell, World.size_drew, Wov_size, World.heap_drewN]; omega)))), m9_1.below (by (repeat' (first | (with_reducible assumption) | (with_reducible exact Below.refl _ _) | (with_reducible refine below_wov ?_ ?_ _) | (with_reducible refine below_drewN ?_ _) | (with_reducible refine Below.drew ?_) | (with_reducible refine Below.alloc ?_ ?_ _) | (with_reducible refine Below.setCell ?_ ?_ _) | (with_reducible exact Nat.le_refl _) | omega | (simp only [World.size_alloc, World.size_setCell, World.size_drew, Wov_size, World.heap_drewN]; omega)))), m9_2.below (by (repeat' (first | (with_reducible assumption) | (with_reducible exact Below.refl _ _) | (with_reducible refine below_wov ?_ ?_ _) | (with_reducible refine below_drewN ?_ _) | (with_reducible refine Below.drew ?_) | (with_reducible refine Below.alloc ?_ ?_ _) | (with_reducible refine Below.setCell ?_ ?_ _) | (with_reducible exact Nat.le_refl _) | omega | (simp only [World.size_alloc, World.size_setCell, World.size_drew, Wov_size, World.heap_drewN]; omega)))), m9_3.below (by (repeat' (first | (with_reducible assumption) | (with_reducible exact Below.refl _ _) | (with_reducible refine below_wov ?_ ?_ _) | (with_reducible refine below_drewN ?_ _) | (with_reducible refine Below.drew ?_) | (with_reducible refine Below.alloc ?_ ?_ _) | (with_reducible refine Below.setCell ?_ ?_ _) | (with_reducible exact Nat.le_refl _) | omega | (simp only [World.size_alloc, World.size_setCell, World.size_drew, Wov_size, World.heap_drewN]; omega))))⟩ ?_
            rintro W10 ⟨hb10, m10_0, m10_1, m10_2, m10_3⟩
            clear hb9 f9_0_lt f9_0_c0 f9_0_c1 f9_1_lt f9_1_c0 f9_1_c1 f9_2_lt f9_2_c0 f9_2_c1 f9_3_lt f9_3_c0 f9_3_c1 f9_4_lt f9_4_c0 f9_4_c1 m9_0 m9_1 m9_2 m9_3 m9_4
            have f10_0_lt := m10_0.lt
            have f10_0_c0 := m10_0.c0
            have f10_0_c1 := m10_0.c1
            have f10_1_lt := m10_1.lt
            have f10_1_c0 := m10_1.c0
            have f10_1_c1 := m10_1.c1
            have f10_2_lt := m10_2.lt
            have f10_2_c0 := m10_2.c0
            have f10_2_c1 := m10_2.c1
            have f10_3_lt := m10_3.lt
            have f10_3_c0 := m10_3.c0
            have f10_3_c1 := m10_3.c1
            refine (C5.out _ m10_2.sl m10_0.sl).mono ?_; rintro e w' ⟨rfl, q9, rfl⟩
            go_wp2_with (fail)
            refine calls_world (fun W => Below w.heap.size w W ∧ BoxM W w.heap.size na pa Na ca fa ∧ BoxM W (w.heap.size + 1) nb pb Nb cb fb ∧ BoxM W (w.heap.size + 2) nd pd Nd cd fd ∧ BoxM W A1 n1 p1 Z1 c1 g1) ⟨by (repeat' (first | (with_reducible assumption) | (with_reducible exact Below.refl _ _) | (with_reducible refine below_wov ?_ ?_ _) | (with_reducible refine below_drewN ?_ _) | (with_reducible refine Below.drew ?_) | (with_reducible refine Below.alloc ?_ ?_ _) | (with_reducible refine Below.setCell ?_ ?_ _) | (with_reducible exact Nat.le_refl _) | omega | (simp only [World.size_alloc, World.size_setCell, World.size_drew, Wov_size, World.heap_drewN]; omega))), m10_0.below (by (repeat' (first | (with_reducible assumption) | (with_reducible exact Below.refl _ _) | (with_reducible refine below_wov ?_ ?_ _) | (with_reducible refine below_drewN ?_ _) | (with_reducible refine Below.drew ?_) | (with_reducible refine Below.alloc ?_ ?_ _) | (with_reducible refine Below.setCell ?_ ?_ _) | (with_reducible exact Nat.le_refl _) | omega | (simp only [World.size_alloc, World.size_setCell, World.size_drew, Wov_size, World.heap_drewN]; omega)))), m10_1.below (by (repeat' (first | (with_reducible assumption) | (with_reducible exact Below.refl _ _) | (with_reducible refine below_wov ?_ ?_ _) | (with_reducible refine below_drewN ?_ _) | (with_reducible refine Below.drew ?_) | (with_reducible refine Below.alloc ?_ ?_ _) | (with_reducible refine Below.setCell ?_ ?_ _) | (with_reducible exact Nat.le_refl _) | omega | (simp only [World.size_alloc, World.size_setCell, World.size_drew, Wov_size, World.heap_drewN]; omega)))), m10_2.below (by (repeat' (first | (with_reducible assumption) | (with_reducible exact Below.refl _ _) | (with_reducible refine below_wov ?_ ?_ _) | (with_reducible refine below_drewN ?_ _) | (with_reducible refine Below.drew ?_) | (with_reducible refine Below.alloc ?_ ?_ _) | (with_reducible refine Below.setCell ?_ ?_ _) | (with_reducible exact Nat.le_refl _) | omega | (simp only [World.size_alloc, World.size_setCell, World.size_drew, Wov_size, World.heap_drewN]; omega)))), m10_3.below (by (repeat' (first | (with_reducible assumption) | (with_reducible exact Below.refl _ _) | (with_reducible refine below_wov ?_ ?_ _) | (with_reducible refine below_drewN ?_ _) | (with_reducible refine Below.drew ?_) | (with_reducible refine Below.alloc ?_ ?_ _) | (with_reducible refine Below.setCell ?_ ?_ _) | (with_reducible exact Nat.le_refl _) | omega | (simp only [World.size_alloc, World.size_setCell, World.size_drew, Wov_size, World.heap_drewN]; omega))))⟩ ?_
            rintro W11 ⟨hb11, m11_0, m11_1, m11_2, m11_3⟩
            clear hb10 f10_0_lt f10_0_c0 f10_0_c1 f10_1_lt f10_1_c0 f10_1_c1 f10_2_lt f10_2_c0 f10_2_c1 f10_3_lt f10_3_c0 f10_3_c1 m10_0 m10_1 m10_2 m10_3
            have f11_0_lt := m11_0.lt
            have f11_0_c0 := m11_0.c0
            have f11_0_c1 := m11_0.c1
            have f11_1_lt := m11_1.lt
            have f11_1_c0 := m11_1.c0
            have f11_1_c1 := m11_1.c1
            have f11_2_lt := m11_2.lt
            have f11_2_c0 := m11_2.c0
            have f11_2_c1 := m11_2.c1
            have f11_3_lt := m11_3.lt
            have f11_3_c0 := m11_3.c0
            have f11_3_c1 := m11_3.c1
            refine (C6.out _ m11_2.sl m11_1.sl).mono ?_; rintro e w' ⟨rfl, q10, rfl⟩
            go_wp2_with (fail)
            refine calls_world (fun W => Below w.heap.size w W ∧ BoxM W w.heap.size na pa Na ca fa ∧ BoxM W (w.heap.size + 1) nb pb Nb cb fb ∧ BoxM W (w.heap.size + 2) nd pd Nd cd fd ∧ BoxM W A1 n1 p1 Z1 c1 g1) ⟨by (repeat' (first | (with_reducible assumption) | (with_reducible exact Below.refl _ _) | (with_reducible refine below_wov ?_ ?_ _) | (with_reducible refine below_drewN ?_ _) | (with_reducible refine Below.drew ?_) | (with_reducible refine Below.alloc ?_ ?_ _) | (with_reducible refine Below.setCell ?_ ?_ _) | (with_reducible exact Nat.le_refl _) | omega | (simp only [World.size_alloc, World.size_setCell, World.size_drew, Wov_size, World.heap_drewN]; omega))), m11_0.below (by (repeat' (first | (with_reducible assumption) | (with_reducible exact Below.refl _ _) | (with_reducible refine below_wov ?_ ?_ _) | (with_reducible refine below_drewN ?_ _) | (with_reducible refine Below.drew ?_) | (with_reducible refine Below.alloc ?_ ?_ _) | (with_reducible refine Below.setCell ?_ ?_ _) | (with_reducible exact Nat.le_refl _) | omega | (simp only [World.size_alloc, World.size_setCell, World.size_drew, Wov_size, World.heap_drewN]; omega)))), m11_1.below (by (repeat' (first | (with_reducible assumption) | (with_reducible exact Below.refl _ _) | (with_reducible refine below_wov ?_ ?_ _) | (with_reducible refine below_drewN ?_ _) | (with_reducible refine Below.drew ?_) | (with_reducible refine Below.alloc ?_ ?_ _) | (with_reducible refine Below.setCell ?_ ?_ _) | (with_reducible exact Nat.le_refl _) | omega | (simp only [World.size_alloc, World.size_setCell, World.size_drew, Wov_size, World.heap_drewN]; omega)))), m11_2.below (by (repeat' (first | (with_reducible assumption) | (with_reducible exact Below.refl _ _) | (with_reducible refine below_wov ?_ ?_ _) | (with_reducible refine below_drewN ?_ _) | (with_reducible refine Below.drew ?_) | (with_reducible refine Below.alloc ?_ ?_ _) | (with_reducible refine Below.setCell ?_ ?_ _) | (with_reducible exact Nat.le_refl _) | omega | (simp only [World.size_alloc, World.size_setCell, World.size_drew, Wov_size, World.heap_drewN]; omega)))), m11_3.below (by (repeat' (first | (with_reducible assumption) | (with_reducible exact Below.refl _ _) | (with_reducible refine below_wov ?_ ?_ _) | (with_reducible refine below_drewN ?_ _) | (with_reducible refine Below.drew ?_) | (with_reducible refine Below.alloc ?_ ?_ _) | (with_reducible refine Below.setCell ?_ ?_ _) | (with_reducible exact Nat.le_refl _) | omega | (simp only [World.size_alloc, World.size_setCell, World.size_drew, Wov_size, World.heap_drewN]; omega))))⟩ ?_
            rintro W12 ⟨hb12, m12_0, m12_1, m12_2, m12_3⟩
            clear hb11 f11_0_lt f11_0_c0 f11_0_c1 f11_1_lt f11_1_c0 f11_1_c1 f11_2_lt f11_2_c0 f11_2_c1 f11_3_lt f11_3_c0 f11_3_c1 m11_0 m11_1 m11_2 m11_3
            have f12_0_lt := m12_0.lt
            have f12_0_c0 := m12_0.c0
            have f12_0_c1 := m12_0.c1
            have f12_1_lt := m12_1.lt
            have f12_1_c0 := m12_1.c0
            have f12_1_c1 := m12_1.c1
            have f12_2_lt := m12_2.lt
            have f12_2_c0 := m12_2.c0
            have f12_2_c1 := m12_2.c1
            have f12_3_lt := m12_3.lt
            have f12_3_c0 := m12_3.c0
            have f12_3_c1 := m12_3.c1
            refine (C7.out _ _ _ m12_2.sl m12_3.sl).mono ?_; rintro e w' ⟨rfl, q11, rfl⟩
            clear C5 C6 C7 bI
            by_cases hj : j = 0
            · subst hj
              by_cases hk : k = 0
              · subst hk
                by_cases hl : l = 0
                · subst hl
                  have y5 := L5.out (by simp) (by simp) (by simp)
                  subst y5
                  clear L5
                  cases p <;> cases q
                  all_goals
                    go_wp2
                    all_goals
                      go_ret
                      exact gives_bool (by simp) (by (repeat' (first | (with_reducible assumption) | (with_reducible exact Below.refl _ _) | (with_reducible refine below_wov ?_ ?_ _) | (with_reducible refine below_drewN ?_ _) | (with_reducible refine Below.drew ?_) | (with_reducible refine Below.alloc ?_ ?_ _) | (with_reducible refine Below.setCell ?_ ?_ _) | (with_reducible exact Nat.le_refl _) | omega | (simp only [World.size_alloc, World.size_setCell, World.size_drew, Wov_size, World.heap_drewN]; omega))))
                · have bl : (l != 0) = true := by rw [bne_iff_ne]; exact hl
                  clear hl L5
                  go_wp2
                  all_goals
                    go_ret
                    exact gives_bool (by simp) (by (repeat' (first | (with_reducible assumption) | (with_reducible exact Below.refl _ _) | (with_reducible refine below_wov ?_ ?_ _) | (with_reducible refine below_drewN ?_ _) | (with_reducible refine Below.drew ?_) | (with_reducible refine Below.alloc ?_ ?_ _) | (with_reducible refine Below.setCell ?_ ?_ _) | (with_reducible exact Nat.le_refl _) | omega | (simp only [World.size_alloc, World.size_setCell, World.size_drew, Wov_size, World.heap_drewN]; omega))))
              · have bk : (k != 0) = true := by rw [bne_iff_ne]; exact hk
                clear hk L5
                go_wp2
                all_goals
                  go_ret
                  exact gives_bool (by simp) (by (repeat' (first | (with_reducible assumption) | (with_reducible exact Below.refl _ _) | (with_reducible refine below_wov ?_ ?_ _) | (with_reducible refine below_drewN ?_ _) | (with_reducible refine Below.drew ?_) | (with_reducible refine Below.alloc ?_ ?_ _) | (with_reducible refine Below.setCell ?_ ?_ _) | (with_reducible exact Nat.le_refl _) | omega | (simp only [World.size_alloc, World.size_setCell, World.size_drew, Wov_size, World.heap_drewN]; omega))))
            · have bj : (j != 0) = true := by rw [bne_iff_ne]; exact hj
              clear hj L5
              go_wp2
              all_goals
                go_ret
                exact gives_bool (by simp) (by (repeat' (first | (with_reducible assumption) | (with_reducible exact Below.refl _ _) | (with_reducible refine below_wov ?_ ?_ _) | (with_reducible refine below_drewN ?_ _) | (with_reducible refine Below.drew ?_) | (with_reducible refine Below.alloc ?_ ?_ _) | (with_reducible refine Below.setCell ?_ ?_ _) | (with_reducible exact Nat.le_refl _) | omega | (simp only [World.size_alloc, World.size_setCell, World.size_drew, Wov_size, World.heap_drewN]; omega))))
        · skip
          have b0 : (e != 0) = true := by rw [bne_iff_ne]; exact he
          clear he h6 L1 L2 L3 C5 C6 C7 CK CA CB CL SM
          go_wp2
          all_goals
            go_ret
            exact gives_bool (by simp) (by (repeat' (first | (with_reducible assumption) | (with_reducible exact Below.refl _ _) | (with_reducible refine below_wov ?_ ?_ _) | (with_reducible refine below_drewN ?_ _) | (with_reducible refine Below.drew ?_) | (with_reducible refine Below.alloc ?_ ?_ _) | (with_reducible refine Below.setCell ?_ ?_ _) | (with_reducible exact Nat.le_refl _) | omega | (simp only [World.size_alloc, World.size_setCell, World.size_drew, Wov_size, World.heap_drewN]; omega))))
    · skip
      have he := L1.out hf
      subst he
      have b0 : (e != 0) = true := by rw [bne_iff_ne]; exact hf
      clear hf L1 L2 L3 C5 C6 C7 CK CA CB CL SM
      go_wp2
      all_goals
        go_ret
        exact gives_bool (by simp) (by (repeat' (first | (with_reducible assumption) | (with_reducible exact Below.refl _ _) | (with_reducible refine below_wov ?_ ?_ _) | (with_reducible refine below_drewN ?_ _) | (with_reducible refine Below.drew ?_) | (with_reducible refine Below.alloc ?_ ?_ _) | (with_reducible refine Below.setCell ?_ ?_ _) | (with_reducible exact Nat.le_refl _) | omega | (simp only [World.size_alloc, World.size_setCell, World.size_drew, Wov_size, World.heap_drewN]; omega))))
end Go.Proofs.Ytggjkibhffglbaa.inclCommon
