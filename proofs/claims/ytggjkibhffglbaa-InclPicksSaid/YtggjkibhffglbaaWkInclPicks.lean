/- The law InclPicks (walk): times that are picked keep the matrix. No condition. -/
import Derived.Test.YtggjkibhffglbaaG11
import Derived.Test.YtggjkibhffglbaaG13
import Derived.Test.YtggjkibhffglbaaMK
namespace Go.Proofs.Ytggjkibhffglbaa.inclPicks
open Go.ChangeShapes Go.WideShapes Go.ChangeAt Go.RowKit
set_option linter.unusedVariables false
set_option linter.unusedSimpArgs false
attribute [local go_sem] Nat.add_assoc Nat.add_lt_add_iff_left lit_lt_add

set_option maxRecDepth 100000 in
set_option maxHeartbeats 16000000 in
theorem walk (na : Int) (pa : Option Addr) (Na ca : Nat) (fa : Nat → Int) (wna : fits64 na) (w : World) (hSa : SlP w pa Na fa) (hFa : Fits Na fa) (hNa : Na ≤ maxLen) :
    Calls Try.prog 8 #[.agg #[.int .i64 na, .slice pa Na ca]] w (Gives w (.bool true)) := by
  have HA := Lib.hid alive6
  unfold maxLen at hNa
  by_cases hbig : 1000 < Na
  · clear hSa hFa
    have hb0 : 1000 < Na := by omega
    clear hbig
    go_enter Try.func8, Try.ntmps8
    go_wp2_with (fail)
    refine (HA.out _).mono ?_; rintro e w' ⟨rfl, p1, rfl⟩
    go_wp2
    all_goals
      go_ret
      exact gives_bool rfl (by (repeat' (first | (with_reducible assumption) | (with_reducible exact Below.refl _ _) | (with_reducible refine below_wov ?_ ?_ _) | (with_reducible refine below_drewN ?_ _) | (with_reducible refine Below.drew ?_) | (with_reducible refine Below.alloc ?_ ?_ _) | (with_reducible refine Below.setCell ?_ ?_ _) | (with_reducible exact Nat.le_refl _) | omega | (simp only [World.size_alloc, World.size_setCell, World.size_drew, Wov_size, World.heap_drewN]; omega))))
  · skip
    have hNa3 : Na ≤ 1000 := by omega
    obtain ⟨⟨M, T, e⟩, h_1⟩ : ∃ r, r = pickR na Na fa := ⟨_, rfl⟩
    obtain ⟨⟨x, Z, g, f⟩, h_2⟩ : ∃ r, r = closeM na Na fa := ⟨_, rfl⟩
    obtain ⟨l1, l2, l3⟩ := picks_law h_1
    have l1 : e = f := by rw [← h_2] at l1; exact l1
    subst l1
    have ff := picks_fits (n := na) (N := Na) (f := fa)
    rw [← h_1] at ff
    obtain ⟨ff1, ff2⟩ := ff
    simp only at ff1 ff2
    have PK : Hid (∀ W, SlP W pa Na fa → Calls Try.prog 32 #[.agg #[.int .i64 na, .slice pa Na ca]] W (ratC W M T e)) := fun W h => by
      have := incPick_any na pa Na ca fa W wna h hFa (by omega)
      rw [← h_1] at this; exact this
    have CL : Hid (∀ W, SlP W pa Na fa → Calls Try.prog 36 #[.agg #[.int .i64 na, .slice pa Na ca]] W (matC W x Z g e)) := fun W h => by
      have := closeM_any na pa Na ca fa W wna h hFa (by omega)
      rw [← h_2] at this; exact this
    have KP : Hid (e = 0 → ∀ W p c, SlP W pa Na fa → SlR W p M T → Calls Try.prog 37 #[.agg #[.int .i64 na, .slice pa Na ca], .slice p M c] W (Gives W (.tuple #[.bool true, .int .i64 0]))) := fun he W p c h h' => by
      have := keepsD_any na Na pa ca fa p M c T W wna h hFa (by omega) h' ff1 (by omega)
      rw [(l3 he).2.2.2] at this; exact this
    have L2 := Lib.hid l2
    have L3 : Hid (e = 0 → (M : Int) = na - 1 ∧ 1 ≤ na ∧ na ≤ 4) := fun he => ⟨(l3 he).1, (l3 he).2.1, (l3 he).2.2.1⟩
    have Sa := Lib.hid hSa
    clear hbig l2 l3 h_1 h_2 ff1 ff2 hSa hFa wna
    go_enter Try.func8, Try.ntmps8
    go_wp2_with (fail)
    refine calls_world (fun W => Below w.heap.size w W ∧ BoxM W w.heap.size na pa Na ca fa) ⟨by (repeat' (first | (with_reducible assumption) | (with_reducible exact Below.refl _ _) | (with_reducible refine below_wov ?_ ?_ _) | (with_reducible refine below_drewN ?_ _) | (with_reducible refine Below.drew ?_) | (with_reducible refine Below.alloc ?_ ?_ _) | (with_reducible refine Below.setCell ?_ ?_ _) | (with_reducible exact Nat.le_refl _) | omega | (simp only [World.size_alloc, World.size_setCell, World.size_drew, Wov_size, World.heap_drewN]; omega))), (BoxM.new (W := w) (t := 24) (Sa.out) (by simp)).below (by (repeat' (first | (with_reducible assumption) | (with_reducible exact Below.refl _ _) | (with_reducible refine below_wov ?_ ?_ _) | (with_reducible refine below_drewN ?_ _) | (with_reducible refine Below.drew ?_) | (with_reducible refine Below.alloc ?_ ?_ _) | (with_reducible refine Below.setCell ?_ ?_ _) | (with_reducible exact Nat.le_refl _) | omega | (simp only [World.size_alloc, World.size_setCell, World.size_drew, Wov_size, World.heap_drewN]; omega))))⟩ ?_
    rintro W1 ⟨hb1, m1_0⟩
    have f1_0_lt := m1_0.lt
    have f1_0_c0 := m1_0.c0
    have f1_0_c1 := m1_0.c1
    refine (HA.out _).mono ?_; rintro e w' ⟨rfl, q0, rfl⟩
    go_wp2_with (fail)
    refine calls_world (fun W => Below w.heap.size w W ∧ BoxM W w.heap.size na pa Na ca fa) ⟨by (repeat' (first | (with_reducible assumption) | (with_reducible exact Below.refl _ _) | (with_reducible refine below_wov ?_ ?_ _) | (with_reducible refine below_drewN ?_ _) | (with_reducible refine Below.drew ?_) | (with_reducible refine Below.alloc ?_ ?_ _) | (with_reducible refine Below.setCell ?_ ?_ _) | (with_reducible exact Nat.le_refl _) | omega | (simp only [World.size_alloc, World.size_setCell, World.size_drew, Wov_size, World.heap_drewN]; omega))), m1_0.below (by (repeat' (first | (with_reducible assumption) | (with_reducible exact Below.refl _ _) | (with_reducible refine below_wov ?_ ?_ _) | (with_reducible refine below_drewN ?_ _) | (with_reducible refine Below.drew ?_) | (with_reducible refine Below.alloc ?_ ?_ _) | (with_reducible refine Below.setCell ?_ ?_ _) | (with_reducible exact Nat.le_refl _) | omega | (simp only [World.size_alloc, World.size_setCell, World.size_drew, Wov_size, World.heap_drewN]; omega))))⟩ ?_
    rintro W2 ⟨hb2, m2_0⟩
    clear hb1 f1_0_lt f1_0_c0 f1_0_c1 m1_0
    have f2_0_lt := m2_0.lt
    have f2_0_c0 := m2_0.c0
    have f2_0_c1 := m2_0.c1
    refine (PK.out _ m2_0.sl).mono ?_; rintro e w' ⟨⟨p1, c1, rfl, t1⟩, q1, rfl⟩
    go_wp2_with (fail)
    refine calls_world (fun W => Below w.heap.size w W ∧ BoxM W w.heap.size na pa Na ca fa ∧ SlR W p1 M T) ⟨by (repeat' (first | (with_reducible assumption) | (with_reducible exact Below.refl _ _) | (with_reducible refine below_wov ?_ ?_ _) | (with_reducible refine below_drewN ?_ _) | (with_reducible refine Below.drew ?_) | (with_reducible refine Below.alloc ?_ ?_ _) | (with_reducible refine Below.setCell ?_ ?_ _) | (with_reducible exact Nat.le_refl _) | omega | (simp only [World.size_alloc, World.size_setCell, World.size_drew, Wov_size, World.heap_drewN]; omega))), m2_0.below (by (repeat' (first | (with_reducible assumption) | (with_reducible exact Below.refl _ _) | (with_reducible refine below_wov ?_ ?_ _) | (with_reducible refine below_drewN ?_ _) | (with_reducible refine Below.drew ?_) | (with_reducible refine Below.alloc ?_ ?_ _) | (with_reducible refine Below.setCell ?_ ?_ _) | (with_reducible exact Nat.le_refl _) | omega | (simp only [World.size_alloc, World.size_setCell, World.size_drew, Wov_size, World.heap_drewN]; omega)))), t1⟩ ?_
    rintro W3 ⟨hb3, m3_0, m3_1⟩
    clear hb2 f2_0_lt f2_0_c0 f2_0_c1 m2_0
    have f3_0_lt := m3_0.lt
    have f3_0_c0 := m3_0.c0
    have f3_0_c1 := m3_0.c1
    clear t1
    refine (CL.out _ m3_0.sl).mono ?_; rintro e w' ⟨⟨p2, c2, rfl, ho⟩, q2, rfl⟩
    clear ho PK CL
    by_cases he : e = 0
    · subst he
      obtain ⟨z1, z2, z3⟩ := L3.out rfl
      have KP2 := Lib.hid (KP.out rfl)
      have hw : IntKind.i64.wrap (na - 1) = (M : Int) := by rw [IntWalk.i64_in _ (by omega)]; omega
      have hm := Lib.hid z1
      clear L2 L3 KP z1
      go_wp2_with (fail)
      refine calls_world (fun W => Below w.heap.size w W ∧ BoxM W w.heap.size na pa Na ca fa ∧ SlR W p1 M T) ⟨by (repeat' (first | (with_reducible assumption) | (with_reducible exact Below.refl _ _) | (with_reducible refine below_wov ?_ ?_ _) | (with_reducible refine below_drewN ?_ _) | (with_reducible refine Below.drew ?_) | (with_reducible refine Below.alloc ?_ ?_ _) | (with_reducible refine Below.setCell ?_ ?_ _) | (with_reducible exact Nat.le_refl _) | omega | (simp only [World.size_alloc, World.size_setCell, World.size_drew, Wov_size, World.heap_drewN]; omega))), m3_0.below (by (repeat' (first | (with_reducible assumption) | (with_reducible exact Below.refl _ _) | (with_reducible refine below_wov ?_ ?_ _) | (with_reducible refine below_drewN ?_ _) | (with_reducible refine Below.drew ?_) | (with_reducible refine Below.alloc ?_ ?_ _) | (with_reducible refine Below.setCell ?_ ?_ _) | (with_reducible exact Nat.le_refl _) | omega | (simp only [World.size_alloc, World.size_setCell, World.size_drew, Wov_size, World.heap_drewN]; omega)))), m3_1.below (by (repeat' (first | (with_reducible assumption) | (with_reducible exact Below.refl _ _) | (with_reducible refine below_wov ?_ ?_ _) | (with_reducible refine below_drewN ?_ _) | (with_reducible refine Below.drew ?_) | (with_reducible refine Below.alloc ?_ ?_ _) | (with_reducible refine Below.setCell ?_ ?_ _) | (with_reducible exact Nat.le_refl _) | omega | (simp only [World.size_alloc, World.size_setCell, World.size_drew, Wov_size, World.heap_drewN]; omega))))⟩ ?_
      rintro W4 ⟨hb4, m4_0, m4_1⟩
      clear hb3 f3_0_lt f3_0_c0 f3_0_c1 m3_0 m3_1
      have f4_0_lt := m4_0.lt
      have f4_0_c0 := m4_0.c0
      have f4_0_c1 := m4_0.c1
      refine (KP2.out _ _ _ m4_0.sl m4_1).mono ?_; rintro e w' ⟨rfl, q3, rfl⟩
      go_wp2
      all_goals
        go_ret
        exact gives_bool (by simp) (by (repeat' (first | (with_reducible assumption) | (with_reducible exact Below.refl _ _) | (with_reducible refine below_wov ?_ ?_ _) | (with_reducible refine below_drewN ?_ _) | (with_reducible refine Below.drew ?_) | (with_reducible refine Below.alloc ?_ ?_ _) | (with_reducible refine Below.setCell ?_ ?_ _) | (with_reducible exact Nat.le_refl _) | omega | (simp only [World.size_alloc, World.size_setCell, World.size_drew, Wov_size, World.heap_drewN]; omega))))
    · have hm : M = 0 := L2.out he
      subst hm
      have be : (e != 0) = true := by rw [bne_iff_ne]; exact he
      clear he L2 L3 KP
      go_wp2
      all_goals
        go_ret
        exact gives_bool (by simp) (by (repeat' (first | (with_reducible assumption) | (with_reducible exact Below.refl _ _) | (with_reducible refine below_wov ?_ ?_ _) | (with_reducible refine below_drewN ?_ _) | (with_reducible refine Below.drew ?_) | (with_reducible refine Below.alloc ?_ ?_ _) | (with_reducible refine Below.setCell ?_ ?_ _) | (with_reducible exact Nat.le_refl _) | omega | (simp only [World.size_alloc, World.size_setCell, World.size_drew, Wov_size, World.heap_drewN]; omega))))
end Go.Proofs.Ytggjkibhffglbaa.inclPicks
