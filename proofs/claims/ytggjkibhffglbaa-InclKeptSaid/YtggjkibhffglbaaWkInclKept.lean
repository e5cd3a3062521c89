/- The law InclKept (walk): times that keep one keep another one in which it lies, and none from which it is apart. No condition. -/
import Derived.Test.YtggjkibhffglbaaG11
import Derived.Test.YtggjkibhffglbaaG13
import Derived.Test.YtggjkibhffglbaaMK
namespace Go.Proofs.Ytggjkibhffglbaa.inclKept
open Go.ChangeShapes Go.WideShapes Go.ChangeAt Go.RowKit
set_option linter.unusedVariables false
set_option linter.unusedSimpArgs false
attribute [local go_sem] Nat.add_assoc Nat.add_lt_add_iff_left lit_lt_add

set_option maxRecDepth 100000 in
set_option maxHeartbeats 16000000 in
theorem walk (na : Int) (pa : Option Addr) (Na ca : Nat) (fa : Nat → Int) (wna : fits64 na) (nb : Int) (pb : Option Addr) (Nb cb : Nat) (fb : Nat → Int) (wnb : fits64 nb) (q : Option Addr) (M cq : Nat) (T : Nat → Int × Int) (w : World) (hSa : SlP w pa Na fa) (hFa : Fits Na fa) (hNa : Na ≤ maxLen) (hSb : SlP w pb Nb fb) (hFb : Fits Nb fb) (hNb : Nb ≤ maxLen) (hST : SlR w q M T) (hFT : FitsR M T) (hM : M ≤ maxLen) :
    Calls Try.prog 11 #[.agg #[.int .i64 na, .slice pa Na ca], .agg #[.int .i64 nb, .slice pb Nb cb], .slice q M cq] w (Gives w (.bool true)) := by
  have HA := Lib.hid alive6
  unfold maxLen at hNa hNb hM
  by_cases hbig : 1000 < Na ∨ 1000 < Nb ∨ 100 < M
  · clear hSa hFa hSb hFb hST hFT
    by_cases hb0 : 1000 < Na
    · clear hbig
      go_enter Try.func11, Try.ntmps11
      go_wp2_with (fail)
      refine (HA.out _).mono ?_; rintro e w' ⟨rfl, p1, rfl⟩
      go_wp2
      all_goals
        go_ret
        exact gives_bool rfl (by (repeat' (first | (with_reducible assumption) | (with_reducible exact Below.refl _ _) | (with_reducible refine below_wov ?_ ?_ _) | (with_reducible refine below_drewN ?_ _) | (with_reducible refine Below.drew ?_) | (with_reducible refine Below.alloc ?_ ?_ _) | (with_reducible refine Below.setCell ?_ ?_ _) | (with_reducible exact Nat.le_refl _) | omega | (simp only [World.size_alloc, World.size_setCell, World.size_drew, Wov_size, World.heap_drewN]; omega))))
    · skip
      by_cases hb1 : 1000 < Nb
      · clear hbig
        go_enter Try.func11, Try.ntmps11
        go_wp2_with (fail)
        refine (HA.out _).mono ?_; rintro e w' ⟨rfl, p1, rfl⟩
        go_wp2
        all_goals
          go_ret
          exact gives_bool rfl (by (repeat' (first | (with_reducible assumption) | (with_reducible exact Below.refl _ _) | (with_reducible refine below_wov ?_ ?_ _) | (with_reducible refine below_drewN ?_ _) | (with_reducible refine Below.drew ?_) | (with_reducible refine Below.alloc ?_ ?_ _) | (with_reducible refine Below.setCell ?_ ?_ _) | (with_reducible exact Nat.le_refl _) | omega | (simp only [World.size_alloc, World.size_setCell, World.size_drew, Wov_size, World.heap_drewN]; omega))))
      · skip
        have hb2 : 100 < M := by omega
        clear hbig
        go_enter Try.func11, Try.ntmps11
        go_wp2_with (fail)
        refine (HA.out _).mono ?_; rintro e w' ⟨rfl, p1, rfl⟩
        go_wp2
        all_goals
          go_ret
          exact gives_bool rfl (by (repeat' (first | (with_reducible assumption) | (with_reducible exact Below.refl _ _) | (with_reducible refine below_wov ?_ ?_ _) | (with_reducible refine below_drewN ?_ _) | (with_reducible refine Below.drew ?_) | (with_reducible refine Below.alloc ?_ ?_ _) | (with_reducible refine Below.setCell ?_ ?_ _) | (with_reducible exact Nat.le_refl _) | omega | (simp only [World.size_alloc, World.size_setCell, World.size_drew, Wov_size, World.heap_drewN]; omega))))
  · skip
    have hNa3 : Na ≤ 1000 := by omega
    have hNb3 : Nb ≤ 1000 := by omega
    have hM3 : M ≤ 100 := by omega
    obtain ⟨⟨inn, e⟩, h_1⟩ : ∃ r, r = inR na Na fa nb Nb fb := ⟨_, rfl⟩
    obtain ⟨⟨back, f⟩, h_2⟩ : ∃ r, r = inR nb Nb fb na Na fa := ⟨_, rfl⟩
    obtain ⟨⟨apart, g⟩, h_3⟩ : ∃ r, r = apR na Na fa nb Nb fb := ⟨_, rfl⟩
    obtain ⟨⟨one, h⟩, h_4⟩ : ∃ r, r = keepsD na Na fa M T := ⟨_, rfl⟩
    obtain ⟨⟨two, i⟩, h_5⟩ : ∃ r, r = keepsD nb Nb fb M T := ⟨_, rfl⟩
    obtain ⟨rfl, rfl, l1⟩ := kept_law h_1 h_2 h_3 h_4 h_5
    obtain ⟨⟨M2, T2, j⟩, h_6⟩ : ∃ r, r = pickR na Na fa := ⟨_, rfl⟩
    obtain ⟨⟨it, k⟩, h_7⟩ : ∃ r, r = keepsD nb Nb fb M2 T2 := ⟨_, rfl⟩
    have l2 := kept_law2 h_1 h_3 h_6 h_7
    have ff := picks_fits (n := na) (N := Na) (f := fa)
    rw [← h_6] at ff
    obtain ⟨ff1, ff2⟩ := ff
    simp only at ff1 ff2
    have C1 : Hid (∀ W, SlP W pa Na fa → SlP W pb Nb fb → Calls Try.prog 28 #[.agg #[.int .i64 na, .slice pa Na ca], .agg #[.int .i64 nb, .slice pb Nb cb]] W (Gives W (.tuple #[.bool inn, .int .i64 e]))) := fun W h g => by
      have := in_any na pa Na ca fa nb pb Nb cb fb W wna wnb h g hFa hFb (by omega) (by omega)
      rw [← h_1] at this; exact this
    have C2 : Hid (∀ W, SlP W pb Nb fb → SlP W pa Na fa → Calls Try.prog 28 #[.agg #[.int .i64 nb, .slice pb Nb cb], .agg #[.int .i64 na, .slice pa Na ca]] W (Gives W (.tuple #[.bool back, .int .i64 e]))) := fun W h g => by
      have := in_any nb pb Nb cb fb na pa Na ca fa W wnb wna h g hFb hFa (by omega) (by omega)
      rw [← h_2] at this; exact this
    have C3 : Hid (∀ W, SlP W pa Na fa → SlP W pb Nb fb → Calls Try.prog 30 #[.agg #[.int .i64 na, .slice pa Na ca], .agg #[.int .i64 nb, .slice pb Nb cb]] W (Gives W (.tuple #[.bool apart, .int .i64 e]))) := fun W h g => by
      have := apart_any na pa Na ca fa nb pb Nb cb fb W wna wnb h g hFa hFb (by omega) (by omega)
      rw [← h_3] at this; exact this
    have C4 : Hid (∀ W, SlP W pa Na fa → SlR W q M T → Calls Try.prog 37 #[.agg #[.int .i64 na, .slice pa Na ca], .slice q M cq] W (Gives W (.tuple #[.bool one, .int .i64 h]))) := fun W h g => by
      have := keepsD_any na Na pa ca fa q M cq T W wna h hFa (by omega) g hFT (by omega)
      rw [← h_4] at this; exact this
    have C5 : Hid (∀ W, SlP W pb Nb fb → SlR W q M T → Calls Try.prog 37 #[.agg #[.int .i64 nb, .slice pb Nb cb], .slice q M cq] W (Gives W (.tuple #[.bool two, .int .i64 i]))) := fun W h g => by
      have := keepsD_any nb Nb pb cb fb q M cq T W wnb h hFb (by omega) g hFT (by omega)
      rw [← h_5] at this; exact this
    have C6 : Hid (∀ W, SlP W pa Na fa → Calls Try.prog 32 #[.agg #[.int .i64 na, .slice pa Na ca]] W (ratC W M2 T2 j)) := fun W h => by
      have := incPick_any na pa Na ca fa W wna h hFa (by omega)
      rw [← h_6] at this; exact this
    have C7 : Hid (∀ W p c, SlP W pb Nb fb → SlR W p M2 T2 → Calls Try.prog 37 #[.agg #[.int .i64 nb, .slice pb Nb cb], .slice p M2 c] W (Gives W (.tuple #[.bool it, .int .i64 k]))) := fun W p c h g => by
      have := keepsD_any nb Nb pb cb fb p M2 c T2 W wnb h hFb (by omega) g ff1 (by omega)
      rw [← h_7] at this; exact this
    have L1 := Lib.hid l1
    have L2 := Lib.hid l2
    have ST := Lib.hid hST
    have Sa := Lib.hid hSa
    have Sb := Lib.hid hSb
    clear hbig l1 l2 ff1 ff2 h_1 h_2 h_3 h_4 h_5 h_6 h_7 hST hFT hSa hFa wna hSb hFb wnb
    go_enter Try.func11, Try.ntmps11
    go_wp2_with (fail)
    refine calls_world (fun W => Below w.heap.size w W ∧ BoxM W w.heap.size na pa Na ca fa ∧ BoxM W (w.heap.size + 1) nb pb Nb cb fb ∧ SlR W q M T) ⟨by (repeat' (first | (with_reducible assumption) | (with_reducible exact Below.refl _ _) | (with_reducible refine below_wov ?_ ?_ _) | (with_reducible refine below_drewN ?_ _) | (with_reducible refine Below.drew ?_) | (with_reducible refine Below.alloc ?_ ?_ _) | (with_reducible refine Below.setCell ?_ ?_ _) | (with_reducible exact Nat.le_refl _) | omega | (simp only [World.size_alloc, World.size_setCell, World.size_drew, Wov_size, World.heap_drewN]; omega))), (BoxM.new (W := w) (t := 24) (Sa.out) (by simp)).below (by (repeat' (first | (with_reducible assumption) | (with_reducible exact Below.refl _ _) | (with_reducible refine below_wov ?_ ?_ _) | (with_reducible refine below_drewN ?_ _) | (with_reducible refine Below.drew ?_) | (with_reducible refine Below.alloc ?_ ?_ _) | (with_reducible refine Below.setCell ?_ ?_ _) | (with_reducible exact Nat.le_refl _) | omega | (simp only [World.size_alloc, World.size_setCell, World.size_drew, Wov_size, World.heap_drewN]; omega)))), (BoxM.new (W := (World.alloc w (.cells #[.int .i64 na, .slice pa Na ca] 24))) (t := 24) ((Sb.out.below (by (repeat' (first | (with_reducible assumption) | (with_reducible exact Below.refl _ _) | (with_reducible refine below_wov ?_ ?_ _) | (with_reducible refine below_drewN ?_ _) | (with_reducible refine Below.drew ?_) | (with_reducible refine Below.alloc ?_ ?_ _) | (with_reducible refine Below.setCell ?_ ?_ _) | (with_reducible exact Nat.le_refl _) | omega | (simp only [World.size_alloc, World.size_setCell, World.size_drew, Wov_size, World.heap_drewN]; omega)))))) (by simp)).below (by (repeat' (first | (with_reducible assumption) | (with_reducible exact Below.refl _ _) | (with_reducible refine below_wov ?_ ?_ _) | (with_reducible refine below_drewN ?_ _) | (with_reducible refine Below.drew ?_) | (with_reducible refine Below.alloc ?_ ?_ _) | (with_reducible refine Below.setCell ?_ ?_ _) | (with_reducible exact Nat.le_refl _) | omega | (simp only [World.size_alloc, World.size_setCell, World.size_drew, Wov_size, World.heap_drewN]; omega)))), ST.out.below (by (repeat' (first | (with_reducible assumption) | (with_reducible exact Below.refl _ _) | (with_reducible refine below_wov ?_ ?_ _) | (with_reducible refine below_drewN ?_ _) | (with_reducible refine Below.drew ?_) | (with_reducible refine Below.alloc ?_ ?_ _) | (with_reducible refine Below.setCell ?_ ?_ _) | (with_reducible exact Nat.le_refl _) | omega | (simp only [World.size_alloc, World.size_setCell, World.size_drew, Wov_size, World.heap_drewN]; omega))))⟩ ?_
    rintro W1 ⟨hb1, m1_0, m1_1, m1_2⟩
    have f1_0_lt := m1_0.lt
    have f1_0_c0 := m1_0.c0
    have f1_0_c1 := m1_0.c1
    have f1_1_lt := m1_1.lt
    have f1_1_c0 := m1_1.c0
    have f1_1_c1 := m1_1.c1
    refine (HA.out _).mono ?_; rintro e w' ⟨rfl, q0, rfl⟩
    go_wp2_with (fail)
    refine calls_world (fun W => Below w.heap.size w W ∧ BoxM W w.heap.size na pa Na ca fa ∧ BoxM W (w.heap.size + 1) nb pb Nb cb fb ∧ SlR W q M T) ⟨by (repeat' (first | (with_reducible assumption) | (with_reducible exact Below.refl _ _) | (with_reducible refine below_wov ?_ ?_ _) | (with_reducible refine below_drewN ?_ _) | (with_reducible refine Below.drew ?_) | (with_reducible refine Below.alloc ?_ ?_ _) | (with_reducible refine Below.setCell ?_ ?_ _) | (with_reducible exact Nat.le_refl _) | omega | (simp only [World.size_alloc, World.size_setCell, World.size_drew, Wov_size, World.heap_drewN]; omega))), m1_0.below (by (repeat' (first | (with_reducible assumption) | (with_reducible exact Below.refl _ _) | (with_reducible refine below_wov ?_ ?_ _) | (with_reducible refine below_drewN ?_ _) | (with_reducible refine Below.drew ?_) | (with_reducible refine Below.alloc ?_ ?_ _) | (with_reducible refine Below.setCell ?_ ?_ _) | (with_reducible exact Nat.le_refl _) | omega | (simp only [World.size_alloc, World.size_setCell, World.size_drew, Wov_size, World.heap_drewN]; omega)))), m1_1.below (by (repeat' (first | (with_reducible assumption) | (with_reducible exact Below.refl _ _) | (with_reducible refine below_wov ?_ ?_ _) | (with_reducible refine below_drewN ?_ _) | (with_reducible refine Below.drew ?_) | (with_reducible refine Below.alloc ?_ ?_ _) | (with_reducible refine Below.setCell ?_ ?_ _) | (with_reducible exact Nat.le_refl _) | omega | (simp only [World.size_alloc, World.size_setCell, World.size_drew, Wov_size, World.heap_drewN]; omega)))), m1_2.below (by (repeat' (first | (with_reducible assumption) | (with_reducible exact Below.refl _ _) | (with_reducible refine below_wov ?_ ?_ _) | (with_reducible refine below_drewN ?_ _) | (with_reducible refine Below.drew ?_) | (with_reducible refine Below.alloc ?_ ?_ _) | (with_reducible refine Below.setCell ?_ ?_ _) | (with_reducible exact Nat.le_refl _) | omega | (simp only [World.size_alloc, World.size_setCell, World.size_drew, Wov_size, World.heap_drewN]; omega))))⟩ ?_
    rintro W2 ⟨hb2, m2_0, m2_1, m2_2⟩
    clear hb1 f1_0_lt f1_0_c0 f1_0_c1 f1_1_lt f1_1_c0 f1_1_c1 m1_0 m1_1 m1_2
    have f2_0_lt := m2_0.lt
    have f2_0_c0 := m2_0.c0
    have f2_0_c1 := m2_0.c1
    have f2_1_lt := m2_1.lt
    have f2_1_c0 := m2_1.c0
    have f2_1_c1 := m2_1.c1
    refine (C1.out _ m2_0.sl m2_1.sl).mono ?_; rintro e w' ⟨rfl, q1, rfl⟩
    go_wp2_with (fail)
    refine calls_world (fun W => Below w.heap.size w W ∧ BoxM W w.heap.size na pa Na ca fa ∧ BoxM W (w.heap.size + 1) nb pb Nb cb fb ∧ SlR W q M T) ⟨by (repeat' (first | (with_reducible assumption) | (with_reducible exact Below.refl _ _) | (with_reducible refine below_wov ?_ ?_ _) | (with_reducible refine below_drewN ?_ _) | (with_reducible refine Below.drew ?_) | (with_reducible refine Below.alloc ?_ ?_ _) | (with_reducible refine Below.setCell ?_ ?_ _) | (with_reducible exact Nat.le_refl _) | omega | (simp only [World.size_alloc, World.size_setCell, World.size_drew, Wov_size, World.heap_drewN]; omega))), m2_0.below (by (repeat' (first | (with_reducible assumption) | (with_reducible exact Below.refl _ _) | (with_reducible refine below_wov ?_ ?_ _) | (with_reducible refine below_drewN ?_ _) | (with_reducible refine Below.drew ?_) | (with_reducible refine Below.alloc ?_ ?_ _) | (with_reducible refine Below.setCell ?_ ?_ _) | (with_reducible exact Nat.le_refl _) | omega | (simp only [World.size_alloc, World.size_setCell, World.size_drew, Wov_size, World.heap_drewN]; omega)))), m2_1.below (by (repeat' (first | (with_reducible assumption) | (with_reducible exact Below.refl _ _) | (with_reducible refine below_wov ?_ ?_ _) | (with_reducible refine below_drewN ?_ _) | (with_reducible refine Below.drew ?_) | (with_reducible refine Below.alloc ?_ ?_ _) | (with_reducible refine Below.setCell ?_ ?_ _) | (with_reducible exact Nat.le_refl _) | omega | (simp only [World.size_alloc, World.size_setCell, World.size_drew, Wov_size, World.heap_drewN]; omega)))), m2_2.below (by (repeat' (first | (with_reducible assumption) | (with_reducible exact Below.refl _ _) | (with_reducible refine below_wov ?_ ?_ _) | (with_reducible refine below_drewN ?_ _) | (with_reducible refine Below.drew ?_) | (with_reducible refine Below.alloc ?_ ?_ _) | (with_reducible refine Below.setCell ?_ ?_ _) | (with_reducible exact Nat.le_refl _) | omega | (simp only [World.size_alloc, World.size_setCell, World.size_drew, Wov_size, World.heap_drewN]; omega))))⟩ ?_
    rintro W3 ⟨hb3, m3_0, m3_1, m3_2⟩
    clear hb2 f2_0_lt f2_0_c0 f2_0_c1 f2_1_lt f2_1_c0 f2_1_c1 m2_0 m2_1 m2_2
    have f3_0_lt := m3_0.lt
    have f3_0_c0 := m3_0.c0
    have f3_0_c1 := m3_0.c1
    have f3_1_lt := m3_1.lt
    have f3_1_c0 := m3_1.c0
    have f3_1_c1 := m3_1.c1
    refine (C2.out _ m3_1.sl m3_0.sl).mono ?_; rintro e w' ⟨rfl, q2, rfl⟩
    go_wp2_with (fail)
    refine calls_world (fun W => Below w.heap.size w W ∧ BoxM W w.heap.size na pa Na ca fa ∧ BoxM W (w.heap.size + 1) nb pb Nb cb fb ∧ SlR W q M T) ⟨by (repeat' (first | (with_reducible assumption) | (with_reducible exact Below.refl _ _) | (with_reducible refine below_wov ?_ ?_ _) | (with_reducible refine below_drewN ?_ _) | (with_reducible refine Below.drew ?_) | (with_reducible refine Below.alloc ?_ ?_ _) | (with_reducible refine Below.setCell ?_ ?_ _) | (with_reducible exact Nat.le_refl _) | omega | (simp only [World.size_alloc, World.size_setCell, World.size_drew, Wov_size, World.heap_drewN]; omega))), m3_0.below (by (repeat' (first | (with_reducible assumption) | (with_reducible exact Below.refl _ _) | (with_reducible refine below_wov ?_ ?_ _) | (with_reducible refine below_drewN ?_ _) | (with_reducible refine Below.drew ?_) | (with_reducible refine Below.alloc ?_ ?_ _) | (with_reducible refine Below.setCell ?_ ?_ _) | (with_reducible exact Nat.le_refl _) | omega | (simp only [World.size_alloc, World.size_setCell, World.size_drew, Wov_size, World.heap_drewN]; omega)))), m3_1.below (by (repeat' (first | (with_reducible assumption) | (with_reducible exact Below.refl _ _) | (with_reducible refine below_wov ?_ ?_ _) | (with_reducible refine below_drewN ?_ _) | (with_reducible refine Below.drew ?_) | (with_reducible refine Below.alloc ?_ ?_ _) | (with_reducible refine Below.setCell ?_ ?_ _) | (with_reducible exact Nat.le_refl _) | omega | (simp only [World.size_alloc, World.size_setCell, World.size_drew, Wov_size, World.heap_drewN]; omega)))), m3_2.below (by (repeat' (first | (with_reducible assumption) | (with_reducible exact Below.refl _ _) | (with_reducible refine below_wov ?_ ?_ _) | (with_reducible refine below_drewN ?_ _) | (with_reducible refine Below.drew ?_) | (with_reducible refine Below.alloc ?_ ?_ _) | (with_reducible refine Below.setCell ?_ ?_ _) | (with_reducible exact Nat.le_refl _) | omega | (simp only [World.size_alloc, World.size_setCell, World.size_drew, Wov_size, World.heap_drewN]; omega))))⟩ ?_
    rintro W4 ⟨hb4, m4_0, m4_1, m4_2⟩
    clear hb3 f3_0_lt f3_0_c0 f3_0_c1 f3_1_lt f3_1_c0 f3_1_c1 m3_0 m3_1 m3_2
    have f4_0_lt := m4_0.lt
    have f4_0_c0 := m4_0.c0
    have f4_0_c1 := m4_0.c1
    have f4_1_lt := m4_1.lt
    have f4_1_c0 := m4_1.c0
    have f4_1_c1 := m4_1.c1
    refine (C3.out _ m4_0.sl m4_1.sl).mono ?_; rintro e w' ⟨rfl, q3, rfl⟩
    clear HA C1 C2 C3
    by_cases he : e = 0
    · skip
      subst he
      go_wp2_with (fail)
      refine calls_world (fun W => Below w.heap.size w W ∧ BoxM W w.heap.size na pa Na ca fa ∧ BoxM W (w.heap.size + 1) nb pb Nb cb fb ∧ SlR W q M T) ⟨by (repeat' (first | (with_reducible assumption) | (with_reducible exact Below.refl _ _) | (with_reducible refine below_wov ?_ ?_ _) | (with_reducible refine below_drewN ?_ _) | (with_reducible refine Below.drew ?_) | (with_reducible refine Below.alloc ?_ ?_ _) | (with_reducible refine Below.setCell ?_ ?_ _) | (with_reducible exact Nat.le_refl _) | omega | (simp only [World.size_alloc, World.size_setCell, World.size_drew, Wov_size, World.heap_drewN]; omega))), m4_0.below (by (repeat' (first | (with_reducible assumption) | (with_reducible exact Below.refl _ _) | (with_reducible refine below_wov ?_ ?_ _) | (with_reducible refine below_drewN ?_ _) | (with_reducible refine Below.drew ?_) | (with_reducible refine Below.alloc ?_ ?_ _) | (with_reducible refine Below.setCell ?_ ?_ _) | (with_reducible exact Nat.le_refl _) | omega | (simp only [World.size_alloc, World.size_setCell, World.size_drew, Wov_size, World.heap_drewN]; omega)))), m4_1.below (by (repeat' (first | (with_reducible assumption) | (with_reducible exact Below.refl _ _) | (with_reducible refine below_wov ?_ ?_ _) | (with_reducible refine below_drewN ?_ _) | (with_reducible refine Below.drew ?_) | (with_reducible refine Below.alloc ?_ ?_ _) | (with_reducible refine Below.setCell ?_ ?_ _) | (with_reducible exact Nat.le_refl _) | omega | (simp only [World.size_alloc, World.size_setCell, World.size_drew, Wov_size, World.heap_drewN]; omega)))), m4_2.below (by (repeat' (first | (with_reducible assumption) | (with_reducible exact Below.refl _ _) | (with_reducible refine below_wov ?_ ?_ _) | (with_reducible refine below_drewN ?_ _) | (with_reducible refine Below.drew ?_) | (with_reducible refine Below.alloc ?_ ?_ _) | (with_reducible refine Below.setCell ?_ ?_ _) | (with_reducible exact Nat.le_refl _) | omega | (simp only [World.size_alloc, World.size_setCell, World.size_drew, Wov_size, World.heap_drewN]; omega))))⟩ ?_
      rintro W5 ⟨hb5, m5_0, m5_1, m5_2⟩
      clear hb4 f4_0_lt f4_0_c0 f4_0_c1 f4_1_lt f4_1_c0 f4_1_c1 m4_0 m4_1 m4_2
      have f5_0_lt := m5_0.lt
      have f5_0_c0 := m5_0.c0
      have f5_0_c1 := m5_0.c1
      have f5_1_lt := m5_1.lt
      have f5_1_c0 := m5_1.c0
      have f5_1_c1 := m5_1.c1
      refine (C4.out _ m5_0.sl m5_2).mono ?_; rintro e w' ⟨rfl, q4, rfl⟩
      go_wp2_with (fail)
      refine calls_world (fun W => Below w.heap.size w W ∧ BoxM W w.heap.size na pa Na ca fa ∧ BoxM W (w.heap.size + 1) nb pb Nb cb fb ∧ SlR W q M T) ⟨by (repeat' (first | (with_reducible assumption) | (with_reducible exact Below.refl _ _) | (with_reducible refine below_wov ?_ ?_ _) | (with_reducible refine below_drewN ?_ _) | (with_reducible refine Below.drew ?_) | (with_reducible refine Below.alloc ?_ ?_ _) | (with_reducible refine Below.setCell ?_ ?_ _) | (with_reducible exact Nat.le_refl _) | omega | (simp only [World.size_alloc, World.size_setCell, World.size_drew, Wov_size, World.heap_drewN]; omega))), m5_0.below (by (repeat' (first | (with_reducible assumption) | (with_reducible exact Below.refl _ _) | (with_reducible refine below_wov ?_ ?_ _) | (with_reducible refine below_drewN ?_ _) | (with_reducible refine Below.drew ?_) | (with_reducible refine Below.alloc ?_ ?_ _) | (with_reducible refine Below.setCell ?_ ?_ _) | (with_reducible exact Nat.le_refl _) | omega | (simp only [World.size_alloc, World.size_setCell, World.size_drew, Wov_size, World.heap_drewN]; omega)))), m5_1.below (by (repeat' (first | (with_reducible assumption) | (with_reducible exact Below.refl _ _) | (with_reducible refine below_wov ?_ ?_ _) | (with_reducible refine below_drewN ?_ _) | (with_reducible refine Below.drew ?_) | (with_reducible refine Below.alloc ?_ ?_ _) | (with_reducible refine Below.setCell ?_ ?_ _) | (with_reducible exact Nat.le_refl _) | omega | (simp only [World.size_alloc, World.size_setCell, World.size_drew, Wov_size, World.heap_drewN]; omega)))), m5_2.below (by (repeat' (first | (with_reducible assumption) | (with_reducible exact Below.refl _ _) | (with_reducible refine below_wov ?_ ?_ _) | (with_reducible refine below_drewN ?_ _) | (with_reducible refine Below.drew ?_) | (with_reducible refine Below.alloc ?_ ?_ _) | (with_reducible refine Below.setCell ?_ ?_ _) | (with_reducible exact Nat.le_refl _) | omega | (simp only [World.size_alloc, World.size_setCell, World.size_drew, Wov_size, World.heap_drewN]; omega))))⟩ ?_
      rintro W6 ⟨hb6, m6_0, m6_1, m6_2⟩
      clear hb5 f5_0_lt f5_0_c0 f5_0_c1 f5_1_lt f5_1_c0 f5_1_c1 m5_0 m5_1 m5_2
      have f6_0_lt := m6_0.lt
      have f6_0_c0 := m6_0.c0
      have f6_0_c1 := m6_0.c1
      have f6_1_lt := m6_1.lt
      have f6_1_c0 := m6_1.c0
      have f6_1_c1 := m6_1.c1
      refine (C5.out _ m6_1.sl m6_2).mono ?_; rintro e w' ⟨rfl, q5, rfl⟩
      clear C4 C5
      by_cases hh : h = 0
      · skip
        subst hh
        by_cases hi : i = 0
        · skip
          subst hi
          obtain ⟨y1, y2, y3⟩ := L1.out (by simp) (by simp) (by simp)
          obtain ⟨y4, y5⟩ := L2.out (by simp)
          have Y4 := Lib.hid y4
          have Y5 := Lib.hid y5
          clear L1 L2 y4 y5
          cases inn <;> cases one <;> cases two <;> cases back <;> cases apart
          all_goals first
            | (exfalso; simp at y1; done)
            | (exfalso; simp at y2; done)
            | (exfalso; simp at y3; done)
            | skip
          all_goals clear y1 y2 y3
          all_goals
            go_wp2_with (fail)
            refine calls_world (fun W => Below w.heap.size w W ∧ BoxM W w.heap.size na pa Na ca fa ∧ BoxM W (w.heap.size + 1) nb pb Nb cb fb) ⟨by (repeat' (first | (with_reducible assumption) | (with_reducible exact Below.refl _ _) | (with_reducible refine below_wov ?_ ?_ _) | (with_reducible refine below_drewN ?_ _) | (with_reducible refine Below.drew ?_) | (with_reducible refine Below.alloc ?_ ?_ _) | (with_reducible refine Below.setCell ?_ ?_ _) | (with_reducible exact Nat.le_refl _) | omega | (simp only [World.size_alloc, World.size_setCell, World.size_drew, Wov_size, World.heap_drewN]; omega))), m6_0.below (by (repeat' (first | (with_reducible assumption) | (with_reducible exact Below.refl _ _) | (with_reducible refine below_wov ?_ ?_ _) | (with_reducible refine below_drewN ?_ _) | (with_reducible refine Below.drew ?_) | (with_reducible refine Below.alloc ?_ ?_ _) | (with_reducible refine Below.setCell ?_ ?_ _) | (with_reducible exact Nat.le_refl _) | omega | (simp only [World.size_alloc, World.size_setCell, World.size_drew, Wov_size, World.heap_drewN]; omega)))), m6_1.below (by (repeat' (first | (with_reducible assumption) | (with_reducible exact Below.refl _ _) | (with_reducible refine below_wov ?_ ?_ _) | (with_reducible refine below_drewN ?_ _) | (with_reducible refine Below.drew ?_) | (with_reducible refine Below.alloc ?_ ?_ _) | (with_reducible refine Below.setCell ?_ ?_ _) | (with_reducible exact Nat.le_refl _) | omega | (simp only [World.size_alloc, World.size_setCell, World.size_drew, Wov_size, World.heap_drewN]; omega))))⟩ ?_
            rintro W7 ⟨hb7, m7_0, m7_1⟩
            clear hb6 f6_0_lt f6_0_c0 f6_0_c1 f6_1_lt f6_1_c0 f6_1_c1 m6_0 m6_1 m6_2
            have f7_0_lt := m7_0.lt
            have f7_0_c0 := m7_0.c0
            have f7_0_c1 := m7_0.c1
            have f7_1_lt := m7_1.lt
            have f7_1_c0 := m7_1.c0
            have f7_1_c1 := m7_1.c1
            refine (C6.out _ m7_0.sl).mono ?_; rintro e w' ⟨⟨p1, c1, rfl, t1⟩, q6, rfl⟩
            by_cases hj : j = 0
            · skip
              subst hj
              obtain ⟨rfl, x1, x2, x3⟩ := Y5.out (by simp)
              clear Y4 Y5
              go_wp2_with (fail)
              refine calls_world (fun W => Below w.heap.size w W ∧ BoxM W w.heap.size na pa Na ca fa ∧ BoxM W (w.heap.size + 1) nb pb Nb cb fb ∧ SlR W p1 M2 T2) ⟨by (repeat' (first | (with_reducible assumption) | (with_reducible exact Below.refl _ _) | (with_reducible refine below_wov ?_ ?_ _) | (with_reducible refine below_drewN ?_ _) | (with_reducible refine Below.drew ?_) | (with_reducible refine Below.alloc ?_ ?_ _) | (with_reducible refine Below.setCell ?_ ?_ _) | (with_reducible exact Nat.le_refl _) | omega | (simp only [World.size_alloc, World.size_setCell, World.size_drew, Wov_size, World.heap_drewN]; omega))), m7_0.below (by (repeat' (first | (with_reducible assumption) | (with_reducible exact Below.refl _ _) | (with_reducible refine below_wov ?_ ?_ _) | (with_reducible refine below_drewN ?_ _) | (with_reducible refine Below.drew ?_) | (with_reducible refine Below.alloc ?_ ?_ _) | (with_reducible refine Below.setCell ?_ ?_ _) | (with_reducible exact Nat.le_refl _) | omega | (simp only [World.size_alloc, World.size_setCell, World.size_drew, Wov_size, World.heap_drewN]; omega)))), m7_1.below (by (repeat' (first | (with_reducible assumption) | (with_reducible exact Below.refl _ _) | (with_reducible refine below_wov ?_ ?_ _) | (with_reducible refine below_drewN ?_ _) | (with_reducible refine Below.drew ?_) | (with_reducible refine Below.alloc ?_ ?_ _) | (with_reducible refine Below.setCell ?_ ?_ _) | (with_reducible exact Nat.le_refl _) | omega | (simp only [World.size_alloc, World.size_setCell, World.size_drew, Wov_size, World.heap_drewN]; omega)))), t1⟩ ?_
              rintro W8 ⟨hb8, m8_0, m8_1, m8_2⟩
              clear hb7 f7_0_lt f7_0_c0 f7_0_c1 f7_1_lt f7_1_c0 f7_1_c1 m7_0 m7_1
              have f8_0_lt := m8_0.lt
              have f8_0_c0 := m8_0.c0
              have f8_0_c1 := m8_0.c1
              have f8_1_lt := m8_1.lt
              have f8_1_c0 := m8_1.c0
              have f8_1_c1 := m8_1.c1
              clear t1
              refine (C7.out _ _ _ m8_1.sl m8_2).mono ?_; rintro e w' ⟨rfl, q7, rfl⟩
              cases it
              all_goals first
                | (exfalso; simp at x1; done)
                | (exfalso; simp at x2; done)
                | (exfalso; simp at x3; done)
                | (clear x1 x2 x3; go_wp2; all_goals (go_ret; exact gives_bool (by simp) (by (repeat' (first | (with_reducible assumption) | (with_reducible exact Below.refl _ _) | (with_reducible refine below_wov ?_ ?_ _) | (with_reducible refine below_drewN ?_ _) | (with_reducible refine Below.drew ?_) | (with_reducible refine Below.alloc ?_ ?_ _) | (with_reducible refine Below.setCell ?_ ?_ _) | (with_reducible exact Nat.le_refl _) | omega | (simp only [World.size_alloc, World.size_setCell, World.size_drew, Wov_size, World.heap_drewN]; omega))))))
            · skip
              have bj : (j != 0) = true := by rw [bne_iff_ne]; exact hj
              have x1 := Y4.out hj
              clear Y4 Y5 hj t1
              first
                | (exfalso; simp at x1; done)
                | (clear x1; go_wp2; all_goals (go_ret; exact gives_bool (by simp) (by (repeat' (first | (with_reducible assumption) | (with_reducible exact Below.refl _ _) | (with_reducible refine below_wov ?_ ?_ _) | (with_reducible refine below_drewN ?_ _) | (with_reducible refine Below.drew ?_) | (with_reducible refine Below.alloc ?_ ?_ _) | (with_reducible refine Below.setCell ?_ ?_ _) | (with_reducible exact Nat.le_refl _) | omega | (simp only [World.size_alloc, World.size_setCell, World.size_drew, Wov_size, World.heap_drewN]; omega))))))
        · skip
          have bi : (i != 0) = true := by rw [bne_iff_ne]; exact hi
          clear hi L1 L2
          go_wp2
          all_goals
            go_ret
            exact gives_bool (by simp) (by (repeat' (first | (with_reducible assumption) | (with_reducible exact Below.refl _ _) | (with_reducible refine below_wov ?_ ?_ _) | (with_reducible refine below_drewN ?_ _) | (with_reducible refine Below.drew ?_) | (with_reducible refine Below.alloc ?_ ?_ _) | (with_reducible refine Below.setCell ?_ ?_ _) | (with_reducible exact Nat.le_refl _) | omega | (simp only [World.size_alloc, World.size_setCell, World.size_drew, Wov_size, World.heap_drewN]; omega))))
      · skip
        have bh : (h != 0) = true := by rw [bne_iff_ne]; exact hh
        clear hh L1 L2
        go_wp2
        all_goals
          go_ret
          exact gives_bool (by simp) (by (repeat' (first | (with_reducible assumption) | (with_reducible exact Below.refl _ _) | (with_reducible refine below_wov ?_ ?_ _) | (with_reducible refine below_drewN ?_ _) | (with_reducible refine Below.drew ?_) | (with_reducible refine Below.alloc ?_ ?_ _) | (with_reducible refine Below.setCell ?_ ?_ _) | (with_reducible exact Nat.le_refl _) | omega | (simp only [World.size_alloc, World.size_setCell, World.size_drew, Wov_size, World.heap_drewN]; omega))))
    · skip
      have be : (e != 0) = true := by rw [bne_iff_ne]; exact he
      clear he L1 L2
      go_wp2
      all_goals
        go_ret
        exact gives_bool (by simp) (by (repeat' (first | (with_reducible assumption) | (with_reducible exact Below.refl _ _) | (with_reducible refine below_wov ?_ ?_ _) | (with_reducible refine below_drewN ?_ _) | (with_reducible refine Below.drew ?_) | (with_reducible refine Below.alloc ?_ ?_ _) | (with_reducible refine Below.setCell ?_ ?_ _) | (with_reducible exact Nat.le_refl _) | omega | (simp only [World.size_alloc, World.size_setCell, World.size_drew, Wov_size, World.heap_drewN]; omega))))
end Go.Proofs.Ytggjkibhffglbaa.inclKept
