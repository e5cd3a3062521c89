/- The document's zones' texts: contracts of floor, tens, interval, One. No condition but that bounds may be. -/
import Derived.Test.YtpaomeilfmeheaaDoorS5
namespace Go.Proofs.YtpaomeilfmeheaaDoor
set_option linter.unusedSimpArgs false
set_option linter.unusedVariables false
open Go Go.RowKit Go.Shelf
attribute [local go_sem] Nat.add_assoc Nat.add_lt_add_iff_left lit_lt_add

theorem half_even {b : Int} (h : b % 2 = 0) : Int.tmod b 2 = 0 ∧ Int.tdiv b 2 = b / 2 := by
  by_cases s : 0 ≤ b.tmod 2
  · obtain ⟨a, c⟩ := tdiv_pos b 2 (by omega) s
    omega
  · obtain ⟨a, c⟩ := tdiv_neg b 2 (by omega) (by omega)
    have := Int.lt_tmod_of_pos b (b := 2) (by omega)
    omega
theorem half_odd {b : Int} (h : b % 2 = 1) : ¬ Int.tmod b 2 = 0 := by
  intro e
  obtain ⟨a, c⟩ := tdiv_pos b 2 (by omega) (by omega)
  omega
set_option maxRecDepth 10000 in
set_option maxHeartbeats 1000000 in
theorem floor31_any (b : Int) (h1 : -4611686018427387904 ≤ b) (h2 : b ≤ 4611686018427387904) : Pure Tryd.prog 58 #[.int .i64 b] (.tuple #[.int .i64 (b / 2), .bool (decide (b % 2 = 1))]) := by
  intro w
  have hw : wrap64 (b - 1) = b - 1 := wrap64_id (by omega) (by omega)
  by_cases h : b % 2 = 0
  · obtain ⟨ht, hd⟩ := half_even h
    have hd2 : decide (b % 2 = 1) = false := decide_eq_false (by omega)
    have hq : wrap64 (b / 2) = b / 2 := wrap64_id (by omega) (by omega)
    rw [hd2]
    have HQ := Lib.hid hq
    clear h hd2 h1 h2 hw hq
    go_enter Tryd.func58, Tryd.ntmps58
    go_wp2
    all_goals
      go_ret2
      exact gives_end (by rw [HQ.out]; rfl) (by (repeat' (first | (with_reducible assumption) | (with_reducible exact Below.refl _ _) | (with_reducible refine below_wov ?_ ?_ _) | (with_reducible refine below_drewN ?_ _) | (with_reducible refine Below.drew ?_) | (with_reducible refine Below.alloc ?_ ?_ _) | (with_reducible refine Below.setCell ?_ ?_ _) | (with_reducible exact Nat.le_refl _) | omega | (simp only [World.size_alloc, World.size_setCell, World.size_drew, Wov_size, World.heap_drewN]; omega))))
  · have h' : b % 2 = 1 := by omega
    have ht : (Int.tmod b 2 == 0) = false := by rw [beq_eq_false_iff_ne]; exact half_odd h'
    obtain ⟨_, hd⟩ := half_even (b := b - 1) (by omega)
    have hd2 : decide (b % 2 = 1) = true := decide_eq_true h'
    rw [hd2, show b / 2 = (b - 1) / 2 by omega]
    have hq : wrap64 ((b - 1) / 2) = (b - 1) / 2 := wrap64_id (by omega) (by omega)
    have HQ := Lib.hid hq
    clear h hd2 h' h1 h2 hq
    go_enter Tryd.func58, Tryd.ntmps58
    go_wp2
    all_goals
      go_ret2
      exact gives_end (by rw [HQ.out]; rfl) (by (repeat' (first | (with_reducible assumption) | (with_reducible exact Below.refl _ _) | (with_reducible refine below_wov ?_ ?_ _) | (with_reducible refine below_drewN ?_ _) | (with_reducible refine Below.drew ?_) | (with_reducible refine Below.alloc ?_ ?_ _) | (with_reducible refine Below.setCell ?_ ?_ _) | (with_reducible exact Nat.le_refl _) | omega | (simp only [World.size_alloc, World.size_setCell, World.size_drew, Wov_size, World.heap_drewN]; omega))))

theorem digit_cut (u : Nat) (h : u < 10) : (ByteArray.mk #[48, 49, 50, 51, 52, 53, 54, 55, 56, 57]).extract u (u + 1) = bs [UInt8.ofNat (48 + u)] := by
  have : u = 0 ∨ u = 1 ∨ u = 2 ∨ u = 3 ∨ u = 4 ∨ u = 5 ∨ u = 6 ∨ u = 7 ∨ u = 8 ∨ u = 9 := by omega
  rcases this with rfl | rfl | rfl | rfl | rfl | rfl | rfl | rfl | rfl | rfl <;> (rw [Lib.extract_eq]; rfl)
set_option maxRecDepth 10000 in
set_option maxHeartbeats 1000000 in
theorem tens_pos : ∀ (k u : Nat), u ≤ k → u ≤ 9223372036854775807 → ∀ w, Calls Tryd.prog 59 #[.int .i64 (u : Int)] w (Gives w (.string (bs (Lib.decDigits u)))) := by
  intro k
  induction k with
  | zero =>
    intro u hu _ w
    obtain rfl : u = 0 := by omega
    have hx := digit_cut 0 (by omega)
    have e : Lib.decDigits 0 = [UInt8.ofNat (48 + 0)] := dec_small (by omega)
    rw [e, ← hx]
    clear e hx hu
    show Calls _ _ #[.int .i64 0] _ _
    go_enter Tryd.func59, Tryd.ntmps59
    go_wp2
    go_ret
    exact gives_end rfl (by (repeat' (first | (with_reducible assumption) | (with_reducible exact Below.refl _ _) | (with_reducible refine below_wov ?_ ?_ _) | (with_reducible refine below_drewN ?_ _) | (with_reducible refine Below.drew ?_) | (with_reducible refine Below.alloc ?_ ?_ _) | (with_reducible refine Below.setCell ?_ ?_ _) | (with_reducible exact Nat.le_refl _) | omega | (simp only [World.size_alloc, World.size_setCell, World.size_drew, Wov_size, World.heap_drewN]; omega))))
  | succ k ih =>
    intro u hu hm w
    by_cases h : u < 10
    · have hx := digit_cut u h
      rw [dec_small h, ← hx]
      have d1 : decide ((u : Int) < 0) = false := decide_eq_false (by omega)
      have d2 : decide ((u : Int) < 10) = true := decide_eq_true (by omega)
      have hw : wrap64 ((u : Int) + 1) = ((u + 1 : Nat) : Int) := by rw [wrap64_id (by omega) (by omega)]; omega
      have u0 : (0 : Int) ≤ (u : Int) := by omega
      have u1 : (u : Int) ≤ ((u + 1 : Nat) : Int) := by omega
      have u2 : ((u + 1 : Nat) : Int) ≤ 10 := by omega
      clear ih hx
      go_enter Tryd.func59, Tryd.ntmps59
      go_wp2
      all_goals
        go_ret
        exact gives_end rfl (by (repeat' (first | (with_reducible assumption) | (with_reducible exact Below.refl _ _) | (with_reducible refine below_wov ?_ ?_ _) | (with_reducible refine below_drewN ?_ _) | (with_reducible refine Below.drew ?_) | (with_reducible refine Below.alloc ?_ ?_ _) | (with_reducible refine Below.setCell ?_ ?_ _) | (with_reducible exact Nat.le_refl _) | omega | (simp only [World.size_alloc, World.size_setCell, World.size_drew, Wov_size, World.heap_drewN]; omega))))
    · have T1 : Hid (∀ w, Calls Tryd.prog 59 #[.int .i64 ((u / 10 : Nat) : Int)] w (Gives w (.string (bs (Lib.decDigits (u / 10)))))) := ih (u / 10) (by omega) (by omega)
      have T2 : Hid (∀ w, Calls Tryd.prog 59 #[.int .i64 ((u % 10 : Nat) : Int)] w (Gives w (.string (bs (Lib.decDigits (u % 10)))))) := ih (u % 10) (by omega) (by omega)
      have e : bs (Lib.decDigits u) = bs (Lib.decDigits (u / 10)) ++ bs (Lib.decDigits (u % 10)) := by
        have := dec_big (u := u / 10) (d := u % 10) (by omega) (by omega)
        rw [show u / 10 * 10 + u % 10 = u by omega] at this
        rw [this, bs_app, dec_small (u := u % 10) (by omega)]
      have z1 : (bs (Lib.decDigits (u / 10))).size ≤ 100 := by
        rw [bs_size]
        have := itoa_len (n := ((u / 10 : Nat) : Int)) (by omega) (by omega)
        rw [Lib.itoa_nonneg] at this
        exact this
      have z2 : (bs (Lib.decDigits (u % 10))).size ≤ 100 := by
        rw [bs_size]
        have := itoa_len (n := ((u % 10 : Nat) : Int)) (by omega) (by omega)
        rw [Lib.itoa_nonneg] at this
        exact this
      rw [e]
      obtain ⟨b1, hb1⟩ : ∃ b, b = bs (Lib.decDigits (u / 10)) := ⟨_, rfl⟩
      obtain ⟨b2, hb2⟩ : ∃ b, b = bs (Lib.decDigits (u % 10)) := ⟨_, rfl⟩
      rw [← hb1] at T1 z1 ⊢
      rw [← hb2] at T2 z2 ⊢
      have k1 : ¬ 9223372036854775807 < b1.size + b2.size := by omega
      have hp : 0 ≤ Int.tmod (u : Int) 10 := Int.tmod_nonneg 10 (by omega)
      obtain ⟨a, c⟩ := tdiv_pos (u : Int) 10 (by omega) hp
      have q1 : Int.tdiv (u : Int) 10 = ((u / 10 : Nat) : Int) := by omega
      have q2 : Int.tmod (u : Int) 10 = ((u % 10 : Nat) : Int) := by omega
      have q3 : wrap64 ((u / 10 : Nat) : Int) = ((u / 10 : Nat) : Int) := wrap64_id (by omega) (by omega)
      have d1 : decide ((u : Int) < 0) = false := decide_eq_false (by omega)
      have d2 : decide ((u : Int) < 10) = false := decide_eq_false (by omega)
      clear ih hp a c e z1 z2 hb1 hb2
      obtain ⟨x, hx⟩ : ∃ x : Int, x = ((u / 10 : Nat) : Int) := ⟨_, rfl⟩
      obtain ⟨y, hy⟩ : ∃ x : Int, x = ((u % 10 : Nat) : Int) := ⟨_, rfl⟩
      rw [← hx] at q1 q3 T1
      rw [← hy] at q2 T2
      clear hx hy
      go_enter Tryd.func59, Tryd.ntmps59
      go_wp2_with (fail)
      refine (T1.out _).mono ?_; rintro e w' ⟨rfl, p1, rfl⟩
      go_wp2_with (fail)
      refine (T2.out _).mono ?_; rintro e w' ⟨rfl, p2, rfl⟩
      go_wp2
      go_ret
      exact gives_end rfl (by (repeat' (first | (with_reducible assumption) | (with_reducible exact Below.refl _ _) | (with_reducible refine below_wov ?_ ?_ _) | (with_reducible refine below_drewN ?_ _) | (with_reducible refine Below.drew ?_) | (with_reducible refine Below.alloc ?_ ?_ _) | (with_reducible refine Below.setCell ?_ ?_ _) | (with_reducible exact Nat.le_refl _) | omega | (simp only [World.size_alloc, World.size_setCell, World.size_drew, Wov_size, World.heap_drewN]; omega))))
set_option maxRecDepth 10000 in
set_option maxHeartbeats 1000000 in
theorem tens_any (n : Int) (h1 : -9223372036854775807 ≤ n) (h2 : n ≤ 9223372036854775807) (w : World) : Calls Tryd.prog 59 #[.int .i64 n] w (Gives w (.string (bs (Lib.itoa n)))) := by
  by_cases h : n < 0
  · obtain ⟨u, hu⟩ : ∃ u : Nat, u = n.natAbs := ⟨_, rfl⟩
    have T1 : Hid (∀ w, Calls Tryd.prog 59 #[.int .i64 (u : Int)] w (Gives w (.string (bs (Lib.decDigits u))))) := tens_pos u u (Nat.le_refl _) (by omega)
    have e : bs (Lib.itoa n) = bs [45] ++ bs (Lib.decDigits u) := by
      unfold Lib.itoa
      rw [if_pos h, ← hu, bs_app]; rfl
    have z1 : (bs (Lib.decDigits u)).size ≤ 100 := by
      rw [bs_size]
      have := itoa_len (n := (u : Int)) (by omega) (by omega)
      rw [Lib.itoa_nonneg] at this
      exact this
    rw [e]
    obtain ⟨b1, hb1⟩ : ∃ b, b = bs (Lib.decDigits u) := ⟨_, rfl⟩
    rw [← hb1] at T1 z1 ⊢
    have e5 : bs [45] = { data := #[45] } := rfl
    rw [e5]
    have z5 : (ByteArray.mk #[45]).size = 1 := rfl
    have k1 : ¬ 9223372036854775807 < (ByteArray.mk #[45]).size + b1.size := by omega
    have d1 : decide (n < 0) = true := decide_eq_true h
    have hw : wrap64 (-n) = (u : Int) := by rw [wrap64_id (by omega) (by omega)]; omega
    clear e hb1 z1 z5 hu h h1 h2 e5
    go_enter Tryd.func59, Tryd.ntmps59
    go_wp2_with (fail)
    refine (T1.out _).mono ?_; rintro e w' ⟨rfl, p1, rfl⟩
    go_wp2
    go_ret
    exact gives_end rfl (by (repeat' (first | (with_reducible assumption) | (with_reducible exact Below.refl _ _) | (with_reducible refine below_wov ?_ ?_ _) | (with_reducible refine below_drewN ?_ _) | (with_reducible refine Below.drew ?_) | (with_reducible refine Below.alloc ?_ ?_ _) | (with_reducible refine Below.setCell ?_ ?_ _) | (with_reducible exact Nat.le_refl _) | omega | (simp only [World.size_alloc, World.size_setCell, World.size_drew, Wov_size, World.heap_drewN]; omega))))
  · obtain ⟨u, rfl⟩ : ∃ u : Nat, n = (u : Int) := ⟨n.toNat, by omega⟩
    rw [Lib.itoa_nonneg]
    exact tens_pos u u (Nat.le_refl _) (by omega) w
end Go.Proofs.YtpaomeilfmeheaaDoor
