/- law10: its helpers difference and within. No condition but that the span may be. -/
import Derived.Test.YtbgbhfcnadjhdaaK11
import Derived.Test.YtbgbhfcnadjhdaaM4
namespace Go.Proofs.Ytbgbhfcnadjhdaa
set_option linter.unusedSimpArgs false
set_option linter.unusedVariables false
open Go Go.RowKit Go.Shelf
attribute [local go_sem] Nat.add_assoc Nat.add_lt_add_iff_left lit_lt_add

/-- The difference of a point's times, if it may be. -/
def diffR (a p b q : Int) : (Int × Int) × Bool := if a = -9223372036854775808 then ((0, 0), false) else (((addPR b q (-a) p 1).1, (addPR b q (-a) p 1).2.1), decide ((addPR b q (-a) p 1).2.2 = 0))
set_option maxRecDepth 10000 in
set_option maxHeartbeats 2000000 in
theorem difference_any (a p b q : Int) (wa : fits64 a) (wp : fits64 p) (wb : fits64 b) (wq : fits64 q) (w : World) : Calls Try.prog 39 #[.agg #[.int .i64 a, .int .i64 p, .int .i64 b, .int .i64 q]] w (Gives w (.tuple #[.agg #[.int .i64 (diffR a p b q).1.1, .int .i64 (diffR a p b q).1.2], .bool (diffR a p b q).2])) := by
  unfold diffR
  by_cases ha : a = -9223372036854775808
  · rw [if_pos ha]
    have hq : (a == -9223372036854775808) = true := by rw [ha]; rfl
    clear ha wa wp wb wq
    go_enter Try.func39, Try.ntmps39
    go_wp2
    go_returns
    exact gives_end rfl (by (repeat' (first | (with_reducible assumption) | (with_reducible exact Below.refl _ _) | (with_reducible refine below_wov ?_ ?_ _) | (with_reducible refine below_drewN ?_ _) | (with_reducible refine Below.drew ?_) | (with_reducible refine Below.alloc ?_ ?_ _) | (with_reducible refine Below.setCell ?_ ?_ _) | (with_reducible exact Nat.le_refl _) | omega | (simp only [World.size_alloc, World.size_setCell, World.size_drew, Wov_size, World.heap_drewN]; omega))))
  · rw [if_neg ha]
    have hq : (a == -9223372036854775808) = false := by rw [beq_eq_false_iff_ne]; exact ha
    have hw : IntKind.i64.wrap (-a) = -a := by unfold fits64 at wa; rw [IntKind.wrap_i64]; omega
    have wn : fits64 (-a) := by unfold fits64 at *; omega
    obtain ⟨⟨x, y, e0⟩, hr⟩ : ∃ r, r = addPR b q (-a) p 1 := ⟨_, rfl⟩
    have AD : Hid (∀ w, Calls Try.prog 43 #[.agg #[.int .i64 b, .int .i64 q], .agg #[.int .i64 (-a), .int .i64 p]] w (Gives w (.tuple #[.agg #[.int .i64 x, .int .i64 y], .int .i64 e0]))) := fun w => by
      have := ratAdd_any b q (-a) p wb wn w
      rw [← hr] at this; exact this
    rw [← hr]
    obtain ⟨na, hna⟩ : ∃ x, x = -a := ⟨_, rfl⟩
    rw [← hna] at AD
    replace hw : IntKind.i64.wrap (-a) = na := hw.trans hna.symm
    have e : decide (e0 = 0) = (e0 == 0) := rfl
    clear hr hna ha wa wp wb wq wn
    dsimp only
    rw [e]
    go_enter Try.func39, Try.ntmps39
    go_wp2_with (fail)
    refine (AD.out _).mono ?_; rintro e w' ⟨rfl, q1, rfl⟩
    go_wp2
    go_returns
    exact gives_end rfl (by (repeat' (first | (with_reducible assumption) | (with_reducible exact Below.refl _ _) | (with_reducible refine below_wov ?_ ?_ _) | (with_reducible refine below_drewN ?_ _) | (with_reducible refine Below.drew ?_) | (with_reducible refine Below.alloc ?_ ?_ _) | (with_reducible refine Below.setCell ?_ ?_ _) | (with_reducible exact Nat.le_refl _) | omega | (simp only [World.size_alloc, World.size_setCell, World.size_drew, Wov_size, World.heap_drewN]; omega))))
set_option maxRecDepth 10000 in
set_option maxHeartbeats 4000000 in
theorem inspan_any (s : Sp) (n m : Int) (hs : s.ok = true) (ho : okRat n m = true) (wn : fits64 n) (w : World) : Calls Try.prog 41 #[.agg #[.int .i64 n, .int .i64 m], .agg #[.int .i64 s.lo, .bool s.ls, .int .i64 s.hi, .bool s.hs, .bool s.op]] w (Gives w (.bool (s.inn (n, m)))) := by
  obtain ⟨b1, b2, b3, b4, b5⟩ := spanB_bd hs
  have wm : fits64 m := by have := (okRat_bd ho).1; have := (okRat_bd ho).2.1; unfold fits64; omega
  have one : ∀ c : Int, -288230376151711744 ≤ c → c ≤ 288230376151711744 → ofR c 1 = (c, 1, 0) ∧ okRat c 1 = true := fun c h1 h2 => by
    have h8 : ok8 (8 * c) := by unfold ok8; omega
    refine ⟨ofR_one h8, ?_⟩
    have := q8_ok h8
    rwa [q8_whole] at this
  have OL : Hid (∀ w, Calls Try.prog 42 #[.int .i64 s.lo, .int .i64 1] w (Gives w (.tuple #[.agg #[.int .i64 s.lo, .int .i64 1], .int .i64 0]))) := fun w => by
    have := of_any s.lo 1 (by omega) (by omega) (by decide) w
    rw [(one s.lo b1 b2).1] at this; exact this
  have CL : Hid (∀ w, Calls Try.prog 81 #[.agg #[.int .i64 s.lo, .int .i64 1], .agg #[.int .i64 n, .int .i64 m]] w (Gives w (.tuple #[.int .i64 (cmpR s.lo 1 n m), .int .i64 0]))) := fun w => by
    have := ratCmp_any s.lo 1 n m (by omega) (by omega) (by decide) (by decide) wn.1 wn.2 wm.1 wm.2 w
    unfold cmpPR at this
    rw [(one s.lo b1 b2).2, ho] at this; exact this
  unfold Sp.inn inSpan
  dsimp only
  obtain ⟨c, hc⟩ : ∃ c, c = cmpR s.lo 1 n m := ⟨_, rfl⟩
  rw [← hc] at CL ⊢
  cases hop : s.op
  · have b5 := b5 hop
    have OH : Hid (∀ w, Calls Try.prog 42 #[.int .i64 s.hi, .int .i64 1] w (Gives w (.tuple #[.agg #[.int .i64 s.hi, .int .i64 1], .int .i64 0]))) := fun w => by
      have := of_any s.hi 1 (by omega) (by omega) (by decide) w
      rw [(one s.hi (by omega) b3).1] at this; exact this
    have CH : Hid (∀ w, Calls Try.prog 81 #[.agg #[.int .i64 n, .int .i64 m], .agg #[.int .i64 s.hi, .int .i64 1]] w (Gives w (.tuple #[.int .i64 (cmpR n m s.hi 1), .int .i64 0]))) := fun w => by
      have := ratCmp_any n m s.hi 1 wn.1 wn.2 wm.1 wm.2 (by omega) (by omega) (by decide) (by decide) w
      unfold cmpPR at this
      rw [(one s.hi (by omega) b3).2, ho] at this; exact this
    obtain ⟨d, hd⟩ : ∃ c, c = cmpR n m s.hi 1 := ⟨_, rfl⟩
    rw [← hd] at CH ⊢
    clear one hs ho wn wm hc hd b1 b2 b3 b4 b5
    obtain ⟨lo, ls, hi, hs, op⟩ := s
    dsimp only at *
    subst hop
    rcases Int.lt_trichotomy c 0 with hc | hc | hc
    · have kc1 : decide (c < 0) = true := decide_eq_true hc
      rcases Int.lt_trichotomy d 0 with hd | hd | hd
      · have kd1 : decide (d < 0) = true := decide_eq_true hd
        go_enter Try.func41, Try.ntmps41
        go_wp2_with (fail)
        refine (OL.out _).mono ?_; rintro e w' ⟨rfl, q1, rfl⟩
        go_wp2_with (fail)
        refine (CL.out _).mono ?_; rintro e w' ⟨rfl, q2, rfl⟩
        go_wp2_with (fail)
        refine (OH.out _).mono ?_; rintro e w' ⟨rfl, q3, rfl⟩
        go_wp2_with (fail)
        refine (CH.out _).mono ?_; rintro e w' ⟨rfl, q4, rfl⟩
        go_wp2
        all_goals
          go_ret
          exact gives_bool (by simp [cmpIn, *]) (by (repeat' (first | (with_reducible assumption) | (with_reducible exact Below.refl _ _) | (with_reducible refine below_wov ?_ ?_ _) | (with_reducible refine below_drewN ?_ _) | (with_reducible refine Below.drew ?_) | (with_reducible refine Below.alloc ?_ ?_ _) | (with_reducible refine Below.setCell ?_ ?_ _) | (with_reducible exact Nat.le_refl _) | omega | (simp only [World.size_alloc, World.size_setCell, World.size_drew, Wov_size, World.heap_drewN]; omega))))
      · subst hd
        cases hs
        · skip
          go_enter Try.func41, Try.ntmps41
          go_wp2_with (fail)
          refine (OL.out _).mono ?_; rintro e w' ⟨rfl, q1, rfl⟩
          go_wp2_with (fail)
          refine (CL.out _).mono ?_; rintro e w' ⟨rfl, q2, rfl⟩
          go_wp2_with (fail)
          refine (OH.out _).mono ?_; rintro e w' ⟨rfl, q3, rfl⟩
          go_wp2_with (fail)
          refine (CH.out _).mono ?_; rintro e w' ⟨rfl, q4, rfl⟩
          go_wp2
          all_goals
            go_ret
            exact gives_bool (by simp [cmpIn, *]) (by (repeat' (first | (with_reducible assumption) | (with_reducible exact Below.refl _ _) | (with_reducible refine below_wov ?_ ?_ _) | (with_reducible refine below_drewN ?_ _) | (with_reducible refine Below.drew ?_) | (with_reducible refine Below.alloc ?_ ?_ _) | (with_reducible refine Below.setCell ?_ ?_ _) | (with_reducible exact Nat.le_refl _) | omega | (simp only [World.size_alloc, World.size_setCell, World.size_drew, Wov_size, World.heap_drewN]; omega))))
        · skip
          go_enter Try.func41, Try.ntmps41
          go_wp2_with (fail)
          refine (OL.out _).mono ?_; rintro e w' ⟨rfl, q1, rfl⟩
          go_wp2_with (fail)
          refine (CL.out _).mono ?_; rintro e w' ⟨rfl, q2, rfl⟩
          go_wp2_with (fail)
          refine (OH.out _).mono ?_; rintro e w' ⟨rfl, q3, rfl⟩
          go_wp2_with (fail)
          refine (CH.out _).mono ?_; rintro e w' ⟨rfl, q4, rfl⟩
          go_wp2
          all_goals
            go_ret
            exact gives_bool (by simp [cmpIn, *]) (by (repeat' (first | (with_reducible assumption) | (with_reducible exact Below.refl _ _) | (with_reducible refine below_wov ?_ ?_ _) | (with_reducible refine below_drewN ?_ _) | (with_reducible refine Below.drew ?_) | (with_reducible refine Below.alloc ?_ ?_ _) | (with_reducible refine Below.setCell ?_ ?_ _) | (with_reducible exact Nat.le_refl _) | omega | (simp only [World.size_alloc, World.size_setCell, World.size_drew, Wov_size, World.heap_drewN]; omega))))
      · have kd1 : decide (d < 0) = false := decide_eq_false (by omega)
        have kd2 : (d == 0) = false := by rw [beq_eq_false_iff_ne]; omega
        have kd3 : ¬ d = 0 := by omega
        go_enter Try.func41, Try.ntmps41
        go_wp2_with (fail)
        refine (OL.out _).mono ?_; rintro e w' ⟨rfl, q1, rfl⟩
        go_wp2_with (fail)
        refine (CL.out _).mono ?_; rintro e w' ⟨rfl, q2, rfl⟩
        go_wp2_with (fail)
        refine (OH.out _).mono ?_; rintro e w' ⟨rfl, q3, rfl⟩
        go_wp2_with (fail)
        refine (CH.out _).mono ?_; rintro e w' ⟨rfl, q4, rfl⟩
        go_wp2
        all_goals
          go_ret
          exact gives_bool (by simp [cmpIn, *]) (by (repeat' (first | (with_reducible assumption) | (with_reducible exact Below.refl _ _) | (with_reducible refine below_wov ?_ ?_ _) | (with_reducible refine below_drewN ?_ _) | (with_reducible refine Below.drew ?_) | (with_reducible refine Below.alloc ?_ ?_ _) | (with_reducible refine Below.setCell ?_ ?_ _) | (with_reducible exact Nat.le_refl _) | omega | (simp only [World.size_alloc, World.size_setCell, World.size_drew, Wov_size, World.heap_drewN]; omega))))
    · subst hc
      cases ls
      · skip
        rcases Int.lt_trichotomy d 0 with hd | hd | hd
        · have kd1 : decide (d < 0) = true := decide_eq_true hd
          go_enter Try.func41, Try.ntmps41
          go_wp2_with (fail)
          refine (OL.out _).mono ?_; rintro e w' ⟨rfl, q1, rfl⟩
          go_wp2_with (fail)
          refine (CL.out _).mono ?_; rintro e w' ⟨rfl, q2, rfl⟩
          go_wp2_with (fail)
          refine (OH.out _).mono ?_; rintro e w' ⟨rfl, q3, rfl⟩
          go_wp2_with (fail)
          refine (CH.out _).mono ?_; rintro e w' ⟨rfl, q4, rfl⟩
          go_wp2
          all_goals
            go_ret
            exact gives_bool (by simp [cmpIn, *]) (by (repeat' (first | (with_reducible assumption) | (with_reducible exact Below.refl _ _) | (with_reducible refine below_wov ?_ ?_ _) | (with_reducible refine below_drewN ?_ _) | (with_reducible refine Below.drew ?_) | (with_reducible refine Below.alloc ?_ ?_ _) | (with_reducible refine Below.setCell ?_ ?_ _) | (with_reducible exact Nat.le_refl _) | omega | (simp only [World.size_alloc, World.size_setCell, World.size_drew, Wov_size, World.heap_drewN]; omega))))
        · subst hd
          cases hs
          · skip
            go_enter Try.func41, Try.ntmps41
            go_wp2_with (fail)
            refine (OL.out _).mono ?_; rintro e w' ⟨rfl, q1, rfl⟩
            go_wp2_with (fail)
            refine (CL.out _).mono ?_; rintro e w' ⟨rfl, q2, rfl⟩
            go_wp2_with (fail)
            refine (OH.out _).mono ?_; rintro e w' ⟨rfl, q3, rfl⟩
            go_wp2_with (fail)
            refine (CH.out _).mono ?_; rintro e w' ⟨rfl, q4, rfl⟩
            go_wp2
            all_goals
              go_ret
              exact gives_bool (by simp [cmpIn, *]) (by (repeat' (first | (with_reducible assumption) | (with_reducible exact Below.refl _ _) | (with_reducible refine below_wov ?_ ?_ _) | (with_reducible refine below_drewN ?_ _) | (with_reducible refine Below.drew ?_) | (with_reducible refine Below.alloc ?_ ?_ _) | (with_reducible refine Below.setCell ?_ ?_ _) | (with_reducible exact Nat.le_refl _) | omega | (simp only [World.size_alloc, World.size_setCell, World.size_drew, Wov_size, World.heap_drewN]; omega))))
          · skip
            go_enter Try.func41, Try.ntmps41
            go_wp2_with (fail)
            refine (OL.out _).mono ?_; rintro e w' ⟨rfl, q1, rfl⟩
            go_wp2_with (fail)
            refine (CL.out _).mono ?_; rintro e w' ⟨rfl, q2, rfl⟩
            go_wp2_with (fail)
            refine (OH.out _).mono ?_; rintro e w' ⟨rfl, q3, rfl⟩
            go_wp2_with (fail)
            refine (CH.out _).mono ?_; rintro e w' ⟨rfl, q4, rfl⟩
            go_wp2
            all_goals
              go_ret
              exact gives_bool (by simp [cmpIn, *]) (by (repeat' (first | (with_reducible assumption) | (with_reducible exact Below.refl _ _) | (with_reducible refine below_wov ?_ ?_ _) | (with_reducible refine below_drewN ?_ _) | (with_reducible refine Below.drew ?_) | (with_reducible refine Below.alloc ?_ ?_ _) | (with_reducible refine Below.setCell ?_ ?_ _) | (with_reducible exact Nat.le_refl _) | omega | (simp only [World.size_alloc, World.size_setCell, World.size_drew, Wov_size, World.heap_drewN]; omega))))
        · have kd1 : decide (d < 0) = false := decide_eq_false (by omega)
          have kd2 : (d == 0) = false := by rw [beq_eq_false_iff_ne]; omega
          have kd3 : ¬ d = 0 := by omega
          go_enter Try.func41, Try.ntmps41
          go_wp2_with (fail)
          refine (OL.out _).mono ?_; rintro e w' ⟨rfl, q1, rfl⟩
          go_wp2_with (fail)
          refine (CL.out _).mono ?_; rintro e w' ⟨rfl, q2, rfl⟩
          go_wp2_with (fail)
          refine (OH.out _).mono ?_; rintro e w' ⟨rfl, q3, rfl⟩
          go_wp2_with (fail)
          refine (CH.out _).mono ?_; rintro e w' ⟨rfl, q4, rfl⟩
          go_wp2
          all_goals
            go_ret
            exact gives_bool (by simp [cmpIn, *]) (by (repeat' (first | (with_reducible assumption) | (with_reducible exact Below.refl _ _) | (with_reducible refine below_wov ?_ ?_ _) | (with_reducible refine below_drewN ?_ _) | (with_reducible refine Below.drew ?_) | (with_reducible refine Below.alloc ?_ ?_ _) | (with_reducible refine Below.setCell ?_ ?_ _) | (with_reducible exact Nat.le_refl _) | omega | (simp only [World.size_alloc, World.size_setCell, World.size_drew, Wov_size, World.heap_drewN]; omega))))
      · skip
        go_enter Try.func41, Try.ntmps41
        go_wp2_with (fail)
        refine (OL.out _).mono ?_; rintro e w' ⟨rfl, q1, rfl⟩
        go_wp2_with (fail)
        refine (CL.out _).mono ?_; rintro e w' ⟨rfl, q2, rfl⟩
        go_wp2_with (fail)
        refine (OH.out _).mono ?_; rintro e w' ⟨rfl, q3, rfl⟩
        go_wp2_with (fail)
        refine (CH.out _).mono ?_; rintro e w' ⟨rfl, q4, rfl⟩
        go_wp2
        all_goals
          go_ret
          exact gives_bool (by simp [cmpIn, *]) (by (repeat' (first | (with_reducible assumption) | (with_reducible exact Below.refl _ _) | (with_reducible refine below_wov ?_ ?_ _) | (with_reducible refine below_drewN ?_ _) | (with_reducible refine Below.drew ?_) | (with_reducible refine Below.alloc ?_ ?_ _) | (with_reducible refine Below.setCell ?_ ?_ _) | (with_reducible exact Nat.le_refl _) | omega | (simp only [World.size_alloc, World.size_setCell, World.size_drew, Wov_size, World.heap_drewN]; omega))))
    · have kc1 : decide (c < 0) = false := decide_eq_false (by omega)
      have kc2 : (c == 0) = false := by rw [beq_eq_false_iff_ne]; omega
      have kc3 : ¬ c = 0 := by omega
      go_enter Try.func41, Try.ntmps41
      go_wp2_with (fail)
      refine (OL.out _).mono ?_; rintro e w' ⟨rfl, q1, rfl⟩
      go_wp2_with (fail)
      refine (CL.out _).mono ?_; rintro e w' ⟨rfl, q2, rfl⟩
      go_wp2_with (fail)
      refine (OH.out _).mono ?_; rintro e w' ⟨rfl, q3, rfl⟩
      go_wp2_with (fail)
      refine (CH.out _).mono ?_; rintro e w' ⟨rfl, q4, rfl⟩
      go_wp2
      all_goals
        go_ret
        exact gives_bool (by simp [cmpIn, *]) (by (repeat' (first | (with_reducible assumption) | (with_reducible exact Below.refl _ _) | (with_reducible refine below_wov ?_ ?_ _) | (with_reducible refine below_drewN ?_ _) | (with_reducible refine Below.drew ?_) | (with_reducible refine Below.alloc ?_ ?_ _) | (with_reducible refine Below.setCell ?_ ?_ _) | (with_reducible exact Nat.le_refl _) | omega | (simp only [World.size_alloc, World.size_setCell, World.size_drew, Wov_size, World.heap_drewN]; omega))))
  · clear one hs ho wn wm hc b1 b2 b3 b4 b5
    obtain ⟨lo, ls, hi, hs, op⟩ := s
    dsimp only at *
    subst hop
    rcases Int.lt_trichotomy c 0 with hc | hc | hc
    · have kc1 : decide (c < 0) = true := decide_eq_true hc
      go_enter Try.func41, Try.ntmps41
      go_wp2_with (fail)
      refine (OL.out _).mono ?_; rintro e w' ⟨rfl, q1, rfl⟩
      go_wp2_with (fail)
      refine (CL.out _).mono ?_; rintro e w' ⟨rfl, q2, rfl⟩
      go_wp2
      all_goals
        go_ret
        exact gives_bool (by simp [cmpIn, *]) (by (repeat' (first | (with_reducible assumption) | (with_reducible exact Below.refl _ _) | (with_reducible refine below_wov ?_ ?_ _) | (with_reducible refine below_drewN ?_ _) | (with_reducible refine Below.drew ?_) | (with_reducible refine Below.alloc ?_ ?_ _) | (with_reducible refine Below.setCell ?_ ?_ _) | (with_reducible exact Nat.le_refl _) | omega | (simp only [World.size_alloc, World.size_setCell, World.size_drew, Wov_size, World.heap_drewN]; omega))))
    · subst hc
      cases ls
      · skip
        go_enter Try.func41, Try.ntmps41
        go_wp2_with (fail)
        refine (OL.out _).mono ?_; rintro e w' ⟨rfl, q1, rfl⟩
        go_wp2_with (fail)
        refine (CL.out _).mono ?_; rintro e w' ⟨rfl, q2, rfl⟩
        go_wp2
        all_goals
          go_ret
          exact gives_bool (by simp [cmpIn, *]) (by (repeat' (first | (with_reducible assumption) | (with_reducible exact Below.refl _ _) | (with_reducible refine below_wov ?_ ?_ _) | (with_reducible refine below_drewN ?_ _) | (with_reducible refine Below.drew ?_) | (with_reducible refine Below.alloc ?_ ?_ _) | (with_reducible refine Below.setCell ?_ ?_ _) | (with_reducible exact Nat.le_refl _) | omega | (simp only [World.size_alloc, World.size_setCell, World.size_drew, Wov_size, World.heap_drewN]; omega))))
      · skip
        go_enter Try.func41, Try.ntmps41
        go_wp2_with (fail)
        refine (OL.out _).mono ?_; rintro e w' ⟨rfl, q1, rfl⟩
        go_wp2_with (fail)
        refine (CL.out _).mono ?_; rintro e w' ⟨rfl, q2, rfl⟩
        go_wp2
        all_goals
          go_ret
          exact gives_bool (by simp [cmpIn, *]) (by (repeat' (first | (with_reducible assumption) | (with_reducible exact Below.refl _ _) | (with_reducible refine below_wov ?_ ?_ _) | (with_reducible refine below_drewN ?_ _) | (with_reducible refine Below.drew ?_) | (with_reducible refine Below.alloc ?_ ?_ _) | (with_reducible refine Below.setCell ?_ ?_ _) | (with_reducible exact Nat.le_refl _) | omega | (simp only [World.size_alloc, World.size_setCell, World.size_drew, Wov_size, World.heap_drewN]; omega))))
    · have kc1 : decide (c < 0) = false := decide_eq_false (by omega)
      have kc2 : (c == 0) = false := by rw [beq_eq_false_iff_ne]; omega
      have kc3 : ¬ c = 0 := by omega
      go_enter Try.func41, Try.ntmps41
      go_wp2_with (fail)
      refine (OL.out _).mono ?_; rintro e w' ⟨rfl, q1, rfl⟩
      go_wp2_with (fail)
      refine (CL.out _).mono ?_; rintro e w' ⟨rfl, q2, rfl⟩
      go_wp2
      all_goals
        go_ret
        exact gives_bool (by simp [cmpIn, *]) (by (repeat' (first | (with_reducible assumption) | (with_reducible exact Below.refl _ _) | (with_reducible refine below_wov ?_ ?_ _) | (with_reducible refine below_drewN ?_ _) | (with_reducible refine Below.drew ?_) | (with_reducible refine Below.alloc ?_ ?_ _) | (with_reducible refine Below.setCell ?_ ?_ _) | (with_reducible exact Nat.le_refl _) | omega | (simp only [World.size_alloc, World.size_setCell, World.size_drew, Wov_size, World.heap_drewN]; omega))))
end Go.Proofs.Ytbgbhfcnadjhdaa
