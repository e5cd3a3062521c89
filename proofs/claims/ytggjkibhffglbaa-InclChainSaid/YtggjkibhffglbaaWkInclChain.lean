/- The law InclChain (walk): one that lies in another one lies in whatever that lies in; what is apart from the greater one is apart from the lesser one. No condition. -/
import Derived.Test.YtggjkibhffglbaaG11
import Derived.Test.YtggjkibhffglbaaG12
import Derived.Test.YtggjkibhffglbaaMK
namespace Go.Proofs.Ytggjkibhffglbaa.inclChain
open Go.ChangeShapes Go.WideShapes Go.ChangeAt Go.RowKit
set_option linter.unusedVariables false
set_option linter.unusedSimpArgs false
attribute [local go_sem] Nat.add_assoc Nat.add_lt_add_iff_left lit_lt_add

set_option maxRecDepth 100000 in
set_option maxHeartbeats 16000000 in
theorem walk (na : Int) (pa : Option Addr) (Na ca : Nat) (fa : Nat → Int) (wna : fits64 na) (nb : Int) (pb : Option Addr) (Nb cb : Nat) (fb : Nat → Int) (wnb : fits64 nb) (nd : Int) (pd : Option Addr) (Nd cd : Nat) (fd : Nat → Int) (wnd : fits64 nd) (w : World) (hSa : SlP w pa Na fa) (hFa : Fits Na fa) (hNa : Na ≤ maxLen) (hSb : SlP w pb Nb fb) (hFb : Fits Nb fb) (hNb : Nb ≤ maxLen) (hSd : SlP w pd Nd fd) (hFd : Fits Nd fd) (hNd : Nd ≤ maxLen) :
    Calls Try.prog 7 #[.agg #[.int .i64 na, .slice pa Na ca], .agg #[.int .i64 nb, .slice pb Nb cb], .agg #[.int .i64 nd, .slice pd Nd cd]] w (Gives w (.bool true)) := by
  have HA := Lib.hid alive6
  unfold maxLen at hNa hNb hNd
  by_cases hbig : 1000 < Na ∨ 1000 < Nb ∨ 1000 < Nd
  · clear hSa hFa hSb hFb hSd hFd
    by_cases hb0 : 1000 < Na
    · clear hbig
      go_enter Try.func7, Try.ntmps7
      go_wp2_with (fail)
      refine (HA.out _).mono ?_; rintro e w' ⟨rfl, p1, rfl⟩
      go_wp2
      all_goals
        go_ret
        exact gives_bool rfl (by (repeat' (first | (with_reducible assumption) | (with_reducible exact Below.refl _ _) | (with_reducible refine below_wov ?_ ?_ _) | (with_reducible refine below_drewN ?_ _) | (with_reducible refine Below.drew ?_) | (with_reducible refine Below.alloc ?_ ?_ _) | (with_reducible refine Below.setCell ?_ ?_ _) | (with_reducible exact Nat.le_refl _) | omega | (simp only [World.size_alloc, World.size_setCell, World.size_drew, Wov_size, World.heap_drewN]; omega))))
    · skip
      by_cases hb1 : 1000 < Nb
      · clear hbig
        go_enter Try.func7, Try.ntmps7
        go_wp2_with (fail)
        refine (HA.out _).mono ?_; rintro e w' ⟨rfl, p1, rfl⟩
        go_wp2
        all_goals
          go_ret
          exact gives_bool rfl (by (repeat' (first | (with_reducible assumption) | (with_reducible exact Below.refl _ _) | (with_reducible refine below_wov ?_ ?_ _) | (with_reducible refine below_drewN ?_ _) | (with_reducible refine Below.drew ?_) | (with_reducible refine Below.alloc ?_ ?_ _) | (with_reducible refine Below.setCell ?_ ?_ _) | (with_reducible exact Nat.le_refl _) | omega | (simp only [World.size_alloc, World.size_setCell, World.size_drew, Wov_size, World.heap_drewN]; omega))))
      · skip
        have hb2 : 1000 < Nd := by omega
        clear hbig
        go_enter Try.func7, Try.ntmps7
        go_wp2_with (fail)
        refine (HA.out _).mono ?_; rintro e w' ⟨rfl, p1, rfl⟩
        go_wp2
        all_goals
          go_ret
          exact gives_bool rfl (by (repeat' (first | (with_reducible assumption) | (with_reducible exact Below.refl _ _) | (with_reducible refine below_wov ?_ ?_ _) | (with_reducible refine below_drewN ?_ _) | (with_reducible refine Below.drew ?_) | (with_reducible refine Below.alloc ?_ ?_ _) | (with_reducible refine Below.setCell ?_ ?_ _) | (with_reducible exact Nat.le_refl _) | omega | (simp only [World.size_alloc, World.size_setCell, World.size_drew, Wov_size, World.heap_drewN]; omega))))
  · skip
    have hNa3 : Na ≤ 1000 := by omega
    have hNb3 : Nb ≤ 1000 := by omega
    have hNd3 : Nd ≤ 1000 := by omega
    obtain ⟨⟨x, e⟩, h_1⟩ : ∃ r, r = inR na Na fa nb Nb fb := ⟨_, rfl⟩
    obtain ⟨⟨y, f⟩, h_2⟩ : ∃ r, r = inR nb Nb fb nd Nd fd := ⟨_, rfl⟩
    obtain ⟨⟨z, g⟩, h_3⟩ : ∃ r, r = inR na Na fa nd Nd fd := ⟨_, rfl⟩
    obtain ⟨⟨far, h⟩, h_4⟩ : ∃ r, r = apR nb Nb fb nd Nd fd := ⟨_, rfl⟩
    obtain ⟨⟨near, i⟩, h_5⟩ : ∃ r, r = apR na Na fa nd Nd fd := ⟨_, rfl⟩
    obtain ⟨rfl, rfl, law⟩ := chain_law h_1 h_2 h_3 h_4 h_5
    have C1 : Hid (∀ W, SlP W pa Na fa → SlP W pb Nb fb → Calls Try.prog 28 #[.agg #[.int .i64 na, .slice pa Na ca], .agg #[.int .i64 nb, .slice pb Nb cb]] W (Gives W (.tuple #[.bool x, .int .i64 e]))) := fun W h g => by
      have := in_any na pa Na ca fa nb pb Nb cb fb W wna wnb h g hFa hFb (by omega) (by omega)
      rw [← h_1] at this; exact this
    have C2 : Hid (∀ W, SlP W pb Nb fb → SlP W pd Nd fd → Calls Try.prog 28 #[.agg #[.int .i64 nb, .slice pb Nb cb], .agg #[.int .i64 nd, .slice pd Nd cd]] W (Gives W (.tuple #[.bool y, .int .i64 f]))) := fun W h g => by
      have := in_any nb pb Nb cb fb nd pd Nd cd fd W wnb wnd h g hFb hFd (by omega) (by omega)
      rw [← h_2] at this; exact this
    have C3 : Hid (∀ W, SlP W pa Na fa → SlP W pd Nd fd → Calls Try.prog 28 #[.agg #[.int .i64 na, .slice pa Na ca], .agg #[.int .i64 nd, .slice pd Nd cd]] W (Gives W (.tuple #[.bool z, .int .i64 g]))) := fun W h g => by
      have := in_any na pa Na ca fa nd pd Nd cd fd W wna wnd h g hFa hFd (by omega) (by omega)
      rw [← h_3] at this; exact this
    have C4 : Hid (∀ W, SlP W pb Nb fb → SlP W pd Nd fd → Calls Try.prog 30 #[.agg #[.int .i64 nb, .slice pb Nb cb], .agg #[.int .i64 nd, .slice pd Nd cd]] W (Gives W (.tuple #[.bool far, .int .i64 f]))) := fun W h g => by
      have := apart_any nb pb Nb cb fb nd pd Nd cd fd W wnb wnd h g hFb hFd (by omega) (by omega)
      rw [← h_4] at this; exact this
    have C5 : Hid (∀ W, SlP W pa Na fa → SlP W pd Nd fd → Calls Try.prog 30 #[.agg #[.int .i64 na, .slice pa Na ca], .agg #[.int .i64 nd, .slice pd Nd cd]] W (Gives W (.tuple #[.bool near, .int .i64 g]))) := fun W h g => by
      have := apart_any na pa Na ca fa nd pd Nd cd fd W wna wnd h g hFa hFd (by omega) (by omega)
      rw [← h_5] at this; exact this
    have Sa := Lib.hid hSa
    have Sb := Lib.hid hSb
    have Sd := Lib.hid hSd
    have LW := Lib.hid law
    clear hbig law h_1 h_2 h_3 h_4 h_5 hSa hFa wna hSb hFb wnb hSd hFd wnd
    go_enter Try.func7, Try.ntmps7
    go_wp2_with (fail)
    refine calls_world (fun W => Below w.heap.size w W ∧ BoxM W w.heap.size na pa Na ca fa ∧ BoxM W (w.heap.size + 1) nb pb Nb cb fb ∧ BoxM W (w.heap.size + 2) nd pd Nd cd fd) ⟨by (repeat' (first | (with_reducible assumption) | (with_reducible exact Below.refl _ _) | (with_reducible refine below_wov ?_ ?_ _) | (with_reducible refine below_drewN ?_ _) | (with_reducible refine Below.drew ?_) | (with_reducible refine Below.alloc ?_ ?_ _) | (with_reducible refine Below.setCell ?_ ?_ _) | (with_reducible exact Nat.le_refl _) | omega | (simp only [World.size_alloc, World.size_setCell, World.size_drew, Wov_size, World.heap_drewN]; omega))), (BoxM.new (W := w) (t := 24) (Sa.out) (by simp)).below (by (repeat' (first | (with_reducible assumption) | (with_reducible exact Below.refl _ _) | (with_reducible refine below_wov ?_ ?_ _) | (with_reducible refine below_drewN ?_ _) | (with_reducible refine Below.drew ?_) | (with_reducible refine Below.alloc ?_ ?_ _) | (with_reducible refine Below.setCell ?_ ?_ _) | (with_reducible exact Nat.le_refl _) | omega | (simp only [World.size_alloc, World.size_setCell, World.size_drew, Wov_size, World.heap_drewN]; omega)))), (BoxM.new (W := (World.alloc w (.cells #[.int .i64 na, .slice pa Na ca] 24))) (t := 24) ((Sb.out.below (by (repeat' (first | (with_reducible assumption) | (with_reducible exact Below.refl _ _) | (with_reducible refine below_wov ?_ ?_ _) | (with_reducible refine below_drewN ?_ _) | (with_reducible refine Below.drew ?_) | (with_reducible refine Below.alloc ?_ ?_ _) | (with_reducible refine Below.setCell ?_ ?_ _) | (with_reducible exact Nat.le_refl _) | omega | (simp only [World.size_alloc, World.size_setCell, World.size_drew, Wov_size, World.heap_drewN]; omega)))))) (by simp)).below (by (repeat' (first | (with_reducible assumption) | (with_reducible exact Below.refl _ _) | (with_reducible refine below_wov ?_ ?_ _) | (with_reducible refine below_drewN ?_ _) | (with_reducible refine Below.drew ?_) | (with_reducible refine Below.alloc ?_ ?_ _) | (with_reducible refine Below.setCell ?_ ?_ _) | (with_reducible exact Nat.le_refl _) | omega | (simp only [World.size_alloc, World.size_setCell, World.size_drew, Wov_size, World.heap_drewN]; omega)))), (BoxM.new (W := (World.alloc (World.alloc w (.cells #[.int .i64 na, .slice pa Na ca] 24)) (.cells #[.int .i64 nb, .slice pb Nb cb] 24))) (t := 24) ((Sd.out.below (by (repeat' (first | (with_reducible assumption) | (with_reducible exact Below.refl _ _) | (with_reducible refine below_wov ?_ ?_ _) | (with_reducible refine below_drewN ?_ _) | (with_reducible refine Below.drew ?_) | (with_reducible refine Below.alloc ?_ ?_ _) | (with_reducible refine Below.setCell ?_ ?_ _) | (with_reducible exact Nat.le_refl _) | omega | (simp only [World.size_alloc, World.size_setCell, World.size_drew, Wov_size, World.heap_drewN]; omega)))))) (by simp)).below (by (repeat' (first | (with_reducible assumption) | (with_reducible exact Below.refl _ _) | (with_reducible refine below_wov ?_ ?_ _) | (with_reducible refine below_drewN ?_ _) | (with_reducible refine Below.drew ?_) | (with_reducible refine Below.alloc ?_ ?_ _) | (with_reducible refine Below.setCell ?_ ?_ _) | (with_reducible exact Nat.le_refl _) | omega | (simp only [World.size_alloc, World.size_setCell, World.size_drew, Wov_size, World.heap_drewN]; omega))))⟩ ?_
    rintro W1 ⟨hb1, m1_0, m1_1, m1_2⟩
    have f1_0_lt := m1_0.lt
    have f1_0_c0 := m1_0.c0
    have f1_0_c1 := m1_0.c1
    have f1_1_lt := m1_1.lt
    have f1_1_c0 := m1_1.c0
    have f1_1_c1 := m1_1.c1
    have f1_2_lt := m1_2.lt
    have f1_2_c0 := m1_2.c0
    have f1_2_c1 := m1_2.c1
    refine (HA.out _).mono ?_; rintro e w' ⟨rfl, q0, rfl⟩
    go_wp2_with (fail)
    refine calls_world (fun W => Below w.heap.size w W ∧ BoxM W w.heap.size na pa Na ca fa ∧ BoxM W (w.heap.size + 1) nb pb Nb cb fb ∧ BoxM W (w.heap.size + 2) nd pd Nd cd fd) ⟨by (repeat' (first | (with_reducible assumption) | (with_reducible exact Below.refl _ _) | (with_reducible refine below_wov ?_ ?_ _) | (with_reducible refine below_drewN ?_ _) | (with_reducible refine Below.drew ?_) | (with_reducible refine Below.alloc ?_ ?_ _) | (with_reducible refine Below.setCell ?_ ?_ _) | (with_reducible exact Nat.le_refl _) | omega | (simp only [World.size_alloc, World.size_setCell, World.size_drew, Wov_size, World.heap_drewN]; omega))), m1_0.below (by (repeat' (first | (with_reducible assumption) | (with_reducible exact Below.refl _ _) | (with_reducible refine below_wov ?_ ?_ _) | (with_reducible refine below_drewN ?_ _) | (with_reducible refine Below.drew ?_) | (with_reducible refine Below.alloc ?_ ?_ _) | (with_reducible refine Below.setCell ?_ ?_ _) | (with_reducible exact Nat.le_refl _) | omega | (simp only [World.size_alloc, World.size_setCell, World.size_drew, Wov_size, World.heap_drewN]; omega)))), m1_1.below (by (repeat' (first | (with_reducible assumption) | (with_reducible exact Below.refl _ _) | (with_reducible refine below_wov ?_ ?_ _) | (with_reducible refine below_drewN ?_ _) | (with_reducible refine Below.drew ?_) | (with_reducible refine Below.alloc ?_ ?_ _) | (with_reducible refine Below.setCell ?_ ?_ _) | (with_reducible exact Nat.le_refl _) | omega | (simp only [World.size_alloc, World.size_setCell, World.size_drew, Wov_size, World.heap_drewN]; omega)))), m1_2.below (by (repeat' (first | (with_reducible assumption) | (with_reducible exact Below.refl _ _) | (with_reducible refine below_wov ?_ ?_ _) | (with_reducible refine below_drewN ?_ _) | (with_reducible refine Below.drew ?_) | (with_reducible refine Below.alloc ?_ ?_ _) | (with_reducible refine Below.setCell ?_ ?_ _) | (with_reducible exact Nat.le_refl _) | omega | (simp only [World.size_alloc, World.size_setCell, World.size_drew, Wov_size, World.heap_drewN]; omega))))⟩ ?_
    rintro W2 ⟨hb2, m2_0, m2_1, m2_2⟩
    clear hb1 f1_0_lt f1_0_c0 f1_0_c1 f1_1_lt f1_1_c0 f1_1_c1 f1_2_lt f1_2_c0 f1_2_c1 m1_0 m1_1 m1_2
    have f2_0_lt := m2_0.lt
    have f2_0_c0 := m2_0.c0
    have f2_0_c1 := m2_0.c1
    have f2_1_lt := m2_1.lt
    have f2_1_c0 := m2_1.c0
    have f2_1_c1 := m2_1.c1
    have f2_2_lt := m2_2.lt
    have f2_2_c0 := m2_2.c0
    have f2_2_c1 := m2_2.c1
    refine (C1.out _ m2_0.sl m2_1.sl).mono ?_; rintro e w' ⟨rfl, q1, rfl⟩
    go_wp2_with (fail)
    refine calls_world (fun W => Below w.heap.size w W ∧ BoxM W w.heap.size na pa Na ca fa ∧ BoxM W (w.heap.size + 1) nb pb Nb cb fb ∧ BoxM W (w.heap.size + 2) nd pd Nd cd fd) ⟨by (repeat' (first | (with_reducible assumption) | (with_reducible exact Below.refl _ _) | (with_reducible refine below_wov ?_ ?_ _) | (with_reducible refine below_drewN ?_ _) | (with_reducible refine Below.drew ?_) | (with_reducible refine Below.alloc ?_ ?_ _) | (with_reducible refine Below.setCell ?_ ?_ _) | (with_reducible exact Nat.le_refl _) | omega | (simp only [World.size_alloc, World.size_setCell, World.size_drew, Wov_size, World.heap_drewN]; omega))), m2_0.below (by (repeat' (first | (with_reducible assumption) | (with_reducible exact Below.refl _ _) | (with_reducible refine below_wov ?_ ?_ _) | (with_reducible refine below_drewN ?_ _) | (with_reducible refine Below.drew ?_) | (with_reducible refine Below.alloc ?_ ?_ _) | (with_reducible refine Below.setCell ?_ ?_ _) | (with_reducible exact Nat.le_refl _) | omega | (simp only [World.size_alloc, World.size_setCell, World.size_drew, Wov_size, World.heap_drewN]; omega)))), m2_1.below (by (repeat' (first | (with_reducible assumption) | (with_reducible exact Below.refl _ _) | (with_reducible refine below_wov ?_ ?_ _) | (with_reducible refine below_drewN ?_ _) | (with_reducible refine Below.drew ?_) | (with_reducible refine Below.alloc ?_ ?_ _) | (with_reducible refine Below.setCell ?_ ?_ _) | (with_reducible exact Nat.le_refl _) | omega | (simp only [World.size_alloc, World.size_setCell, World.size_drew, Wov_size, World.heap_drewN]; omega)))), m2_2.below (by (repeat' (first | (with_reducible assumption) | (with_reducible exact Below.refl _ _) | (with_reducible refine below_wov ?_ ?_ _) | (with_reducible refine below_drewN ?_ _) | (with_reducible refine Below.drew ?_) | (with_reducible refine Below.alloc ?_ ?_ _) | (with_reducible refine Below.setCell ?_ ?_ _) | (with_reducible exact Nat.le_refl _) | omega | (simp only [World.size_alloc, World.size_setCell, World.size_drew, Wov_size, World.heap_drewN]; omega))))⟩ ?_
    rintro W3 ⟨hb3, m3_0, m3_1, m3_2⟩
    clear hb2 f2_0_lt f2_0_c0 f2_0_c1 f2_1_lt f2_1_c0 f2_1_c1 f2_2_lt f2_2_c0 f2_2_c1 m2_0 m2_1 m2_2
    have f3_0_lt := m3_0.lt
    have f3_0_c0 := m3_0.c0
    have f3_0_c1 := m3_0.c1
    have f3_1_lt := m3_1.lt
    have f3_1_c0 := m3_1.c0
    have f3_1_c1 := m3_1.c1
    have f3_2_lt := m3_2.lt
    have f3_2_c0 := m3_2.c0
    have f3_2_c1 := m3_2.c1
    refine (C2.out _ m3_1.sl m3_2.sl).mono ?_; rintro e w' ⟨rfl, q2, rfl⟩
    go_wp2_with (fail)
    refine calls_world (fun W => Below w.heap.size w W ∧ BoxM W w.heap.size na pa Na ca fa ∧ BoxM W (w.heap.size + 1) nb pb Nb cb fb ∧ BoxM W (w.heap.size + 2) nd pd Nd cd fd) ⟨by (repeat' (first | (with_reducible assumption) | (with_reducible exact Below.refl _ _) | (with_reducible refine below_wov ?_ ?_ _) | (with_reducible refine below_drewN ?_ _) | (with_reducible refine Below.drew ?_) | (with_reducible refine Below.alloc ?_ ?_ _) | (with_reducible refine Below.setCell ?_ ?_ _) | (with_reducible exact Nat.le_refl _) | omega | (simp only [World.size_alloc, World.size_setCell, World.size_drew, Wov_size, World.heap_drewN]; omega))), m3_0.below (by (repeat' (first | (with_reducible assumption) | (with_reducible exact Below.refl _ _) | (with_reducible refine below_wov ?_ ?_ _) | (with_reducible refine below_drewN ?_ _) | (with_reducible refine Below.drew ?_) | (with_reducible refine Below.alloc ?_ ?_ _) | (with_reducible refine Below.setCell ?_ ?_ _) | (with_reducible exact Nat.le_refl _) | omega | (simp only [World.size_alloc, World.size_setCell, World.size_drew, Wov_size, World.heap_drewN]; omega)))), m3_1.below (by (repeat' (first | (with_reducible assumption) | (with_reducible exact Below.refl _ _) | (with_reducible refine below_wov ?_ ?_ _) | (with_reducible refine below_drewN ?_ _) | (with_reducible refine Below.drew ?_) | (with_reducible refine Below.alloc ?_ ?_ _) | (with_reducible refine Below.setCell ?_ ?_ _) | (with_reducible exact Nat.le_refl _) | omega | (simp only [World.size_alloc, World.size_setCell, World.size_drew, Wov_size, World.heap_drewN]; omega)))), m3_2.below (by (repeat' (first | (with_reducible assumption) | (with_reducible exact Below.refl _ _) | (with_reducible refine below_wov ?_ ?_ _) | (with_reducible refine below_drewN ?_ _) | (with_reducible refine Below.drew ?_) | (with_reducible refine Below.alloc ?_ ?_ _) | (with_reducible refine Below.setCell ?_ ?_ _) | (with_reducible exact Nat.le_refl _) | omega | (simp only [World.size_alloc, World.size_setCell, World.size_drew, Wov_size, World.heap_drewN]; omega))))⟩ ?_
    rintro W4 ⟨hb4, m4_0, m4_1, m4_2⟩
    clear hb3 f3_0_lt f3_0_c0 f3_0_c1 f3_1_lt f3_1_c0 f3_1_c1 f3_2_lt f3_2_c0 f3_2_c1 m3_0 m3_1 m3_2
    have f4_0_lt := m4_0.lt
    have f4_0_c0 := m4_0.c0
    have f4_0_c1 := m4_0.c1
    have f4_1_lt := m4_1.lt
    have f4_1_c0 := m4_1.c0
    have f4_1_c1 := m4_1.c1
    have f4_2_lt := m4_2.lt
    have f4_2_c0 := m4_2.c0
    have f4_2_c1 := m4_2.c1
    refine (C3.out _ m4_0.sl m4_2.sl).mono ?_; rintro e w' ⟨rfl, q3, rfl⟩
    go_wp2_with (fail)
    refine calls_world (fun W => Below w.heap.size w W ∧ BoxM W w.heap.size na pa Na ca fa ∧ BoxM W (w.heap.size + 1) nb pb Nb cb fb ∧ BoxM W (w.heap.size + 2) nd pd Nd cd fd) ⟨by (repeat' (first | (with_reducible assumption) | (with_reducible exact Below.refl _ _) | (with_reducible refine below_wov ?_ ?_ _) | (with_reducible refine below_drewN ?_ _) | (with_reducible refine Below.drew ?_) | (with_reducible refine Below.alloc ?_ ?_ _) | (with_reducible refine Below.setCell ?_ ?_ _) | (with_reducible exact Nat.le_refl _) | omega | (simp only [World.size_alloc, World.size_setCell, World.size_drew, Wov_size, World.heap_drewN]; omega))), m4_0.below (by (repeat' (first | (with_reducible assumption) | (with_reducible exact Below.refl _ _) | (with_reducible refine below_wov ?_ ?_ _) | (with_reducible refine below_drewN ?_ _) | (with_reducible refine Below.drew ?_) | (with_reducible refine Below.alloc ?_ ?_ _) | (with_reducible refine Below.setCell ?_ ?_ _) | (with_reducible exact Nat.le_refl _) | omega | (simp only [World.size_alloc, World.size_setCell, World.size_drew, Wov_size, World.heap_drewN]; omega)))), m4_1.below (by (repeat' (first | (with_reducible assumption) | (with_reducible exact Below.refl _ _) | (with_reducible refine below_wov ?_ ?_ _) | (with_reducible refine below_drewN ?_ _) | (with_reducible refine Below.drew ?_) | (with_reducible refine Below.alloc ?_ ?_ _) | (with_reducible refine Below.setCell ?_ ?_ _) | (with_reducible exact Nat.le_refl _) | omega | (simp only [World.size_alloc, World.size_setCell, World.size_drew, Wov_size, World.heap_drewN]; omega)))), m4_2.below (by (repeat' (first | (with_reducible assumption) | (with_reducible exact Below.refl _ _) | (with_reducible refine below_wov ?_ ?_ _) | (with_reducible refine below_drewN ?_ _) | (with_reducible refine Below.drew ?_) | (with_reducible refine Below.alloc ?_ ?_ _) | (with_reducible refine Below.setCell ?_ ?_ _) | (with_reducible exact Nat.le_refl _) | omega | (simp only [World.size_alloc, World.size_setCell, World.size_drew, Wov_size, World.heap_drewN]; omega))))⟩ ?_
    rintro W5 ⟨hb5, m5_0, m5_1, m5_2⟩
    clear hb4 f4_0_lt f4_0_c0 f4_0_c1 f4_1_lt f4_1_c0 f4_1_c1 f4_2_lt f4_2_c0 f4_2_c1 m4_0 m4_1 m4_2
    have f5_0_lt := m5_0.lt
    have f5_0_c0 := m5_0.c0
    have f5_0_c1 := m5_0.c1
    have f5_1_lt := m5_1.lt
    have f5_1_c0 := m5_1.c0
    have f5_1_c1 := m5_1.c1
    have f5_2_lt := m5_2.lt
    have f5_2_c0 := m5_2.c0
    have f5_2_c1 := m5_2.c1
    refine (C4.out _ m5_1.sl m5_2.sl).mono ?_; rintro e w' ⟨rfl, q4, rfl⟩
    go_wp2_with (fail)
    refine calls_world (fun W => Below w.heap.size w W ∧ BoxM W w.heap.size na pa Na ca fa ∧ BoxM W (w.heap.size + 1) nb pb Nb cb fb ∧ BoxM W (w.heap.size + 2) nd pd Nd cd fd) ⟨by (repeat' (first | (with_reducible assumption) | (with_reducible exact Below.refl _ _) | (with_reducible refine below_wov ?_ ?_ _) | (with_reducible refine below_drewN ?_ _) | (with_reducible refine Below.drew ?_) | (with_reducible refine Below.alloc ?_ ?_ _) | (with_reducible refine Below.setCell ?_ ?_ _) | (with_reducible exact Nat.le_refl _) | omega | (simp only [World.size_alloc, World.size_setCell, World.size_drew, Wov_size, World.heap_drewN]; omega))), m5_0.below (by (repeat' (first | (with_reducible assumption) | (with_reducible exact Below.refl _ _) | (with_reducible refine below_wov ?_ ?_ _) | (with_reducible refine below_drewN ?_ _) | (with_reducible refine Below.drew ?_) | (with_reducible refine Below.alloc ?_ ?_ _) | (with_reducible refine Below.setCell ?_ ?_ _) | (with_reducible exact Nat.le_refl _) | omega | (simp only [World.size_alloc, World.size_setCell, World.size_drew, Wov_size, World.heap_drewN]; omega)))), m5_1.below (by (repeat' (first | (with_reducible assumption) | (with_reducible exact Below.refl _ _) | (with_reducible refine below_wov ?_ ?_ _) | (with_reducible refine below_drewN ?_ _) | (with_reducible refine Below.drew ?_) | (with_reducible refine Below.alloc ?_ ?_ _) | (with_reducible refine Below.setCell ?_ ?_ _) | (with_reducible exact Nat.le_refl _) | omega | (simp only [World.size_alloc, World.size_setCell, World.size_drew, Wov_size, World.heap_drewN]; omega)))), m5_2.below (by (repeat' (first | (with_reducible assumption) | (with_reducible exact Below.refl _ _) | (with_reducible refine below_wov ?_ ?_ _) | (with_reducible refine below_drewN ?_ _) | (with_reducible refine Below.drew ?_) | (with_reducible refine Below.alloc ?_ ?_ _) | (with_reducible refine Below.setCell ?_ ?_ _) | (with_reducible exact Nat.le_refl _) | omega | (simp only [World.size_alloc, World.size_setCell, World.size_drew, Wov_size, World.heap_drewN]; omega))))⟩ ?_
    rintro W6 ⟨hb6, m6_0, m6_1, m6_2⟩
    clear hb5 f5_0_lt f5_0_c0 f5_0_c1 f5_1_lt f5_1_c0 f5_1_c1 f5_2_lt f5_2_c0 f5_2_c1 m5_0 m5_1 m5_2
    have f6_0_lt := m6_0.lt
    have f6_0_c0 := m6_0.c0
    have f6_0_c1 := m6_0.c1
    have f6_1_lt := m6_1.lt
    have f6_1_c0 := m6_1.c0
    have f6_1_c1 := m6_1.c1
    have f6_2_lt := m6_2.lt
    have f6_2_c0 := m6_2.c0
    have f6_2_c1 := m6_2.c1
    refine (C5.out _ m6_0.sl m6_2.sl).mono ?_; rintro e w' ⟨rfl, q5, rfl⟩
    clear C1 C2 C3 C4 C5
    by_cases he : e = 0
    · subst he
      by_cases hf : f = 0
      · subst hf
        by_cases hg : g = 0
        · subst hg
          obtain ⟨l1, l2⟩ := LW.out rfl rfl rfl
          clear LW
          cases x with
          | false =>
            clear l1 l2
            go_wp2
            all_goals
              go_ret
              exact gives_bool (by simp) (by (repeat' (first | (with_reducible assumption) | (with_reducible exact Below.refl _ _) | (with_reducible refine below_wov ?_ ?_ _) | (with_reducible refine below_drewN ?_ _) | (with_reducible refine Below.drew ?_) | (with_reducible refine Below.alloc ?_ ?_ _) | (with_reducible refine Below.setCell ?_ ?_ _) | (with_reducible exact Nat.le_refl _) | omega | (simp only [World.size_alloc, World.size_setCell, World.size_drew, Wov_size, World.heap_drewN]; omega))))
          | true =>
            cases y <;> cases far <;> cases z <;> cases near
            all_goals first
              | (exfalso; simp at l1; done)
              | (exfalso; simp at l2; done)
              | (clear l1 l2; go_wp2; all_goals (go_ret; exact gives_bool (by simp) (by (repeat' (first | (with_reducible assumption) | (with_reducible exact Below.refl _ _) | (with_reducible refine below_wov ?_ ?_ _) | (with_reducible refine below_drewN ?_ _) | (with_reducible refine Below.drew ?_) | (with_reducible refine Below.alloc ?_ ?_ _) | (with_reducible refine Below.setCell ?_ ?_ _) | (with_reducible exact Nat.le_refl _) | omega | (simp only [World.size_alloc, World.size_setCell, World.size_drew, Wov_size, World.heap_drewN]; omega))))))
        · have bg : (g != 0) = true := by rw [bne_iff_ne]; exact hg
          clear hg LW
          go_wp2
          all_goals
            go_ret
            exact gives_bool (by simp) (by (repeat' (first | (with_reducible assumption) | (with_reducible exact Below.refl _ _) | (with_reducible refine below_wov ?_ ?_ _) | (with_reducible refine below_drewN ?_ _) | (with_reducible refine Below.drew ?_) | (with_reducible refine Below.alloc ?_ ?_ _) | (with_reducible refine Below.setCell ?_ ?_ _) | (with_reducible exact Nat.le_refl _) | omega | (simp only [World.size_alloc, World.size_setCell, World.size_drew, Wov_size, World.heap_drewN]; omega))))
      · have bf : (f != 0) = true := by rw [bne_iff_ne]; exact hf
        clear hf LW
        go_wp2
        all_goals
          go_ret
          exact gives_bool (by simp) (by (repeat' (first | (with_reducible assumption) | (with_reducible exact Below.refl _ _) | (with_reducible refine below_wov ?_ ?_ _) | (with_reducible refine below_drewN ?_ _) | (with_reducible refine Below.drew ?_) | (with_reducible refine Below.alloc ?_ ?_ _) | (with_reducible refine Below.setCell ?_ ?_ _) | (with_reducible exact Nat.le_refl _) | omega | (simp only [World.size_alloc, World.size_setCell, World.size_drew, Wov_size, World.heap_drewN]; omega))))
    · have be : (e != 0) = true := by rw [bne_iff_ne]; exact he
      clear he LW
      go_wp2
      all_goals
        go_ret
        exact gives_bool (by simp) (by (repeat' (first | (with_reducible assumption) | (with_reducible exact Below.refl _ _) | (with_reducible refine below_wov ?_ ?_ _) | (with_reducible refine below_drewN ?_ _) | (with_reducible refine Below.drew ?_) | (with_reducible refine Below.alloc ?_ ?_ _) | (with_reducible refine Below.setCell ?_ ?_ _) | (with_reducible exact Nat.le_refl _) | omega | (simp only [World.size_alloc, World.size_setCell, World.size_drew, Wov_size, World.heap_drewN]; omega))))
end Go.Proofs.Ytggjkibhffglbaa.inclChain
