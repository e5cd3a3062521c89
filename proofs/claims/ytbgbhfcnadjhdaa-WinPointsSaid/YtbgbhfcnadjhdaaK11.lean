/- law10: its helpers, and its alive. No condition. -/
import Derived.Test.YtbgbhfcnadjhdaaK6
import Derived.Test.YtbgbhfcnadjhdaaH4
import Derived.Test.YtbgbhfcnadjhdaaH13
import Derived.Test.YtbgbhfcnadjhdaaH11
namespace Go.Proofs.Ytbgbhfcnadjhdaa
set_option linter.unusedSimpArgs false
set_option linter.unusedVariables false
open Go Go.RowKit Go.Shelf
attribute [local go_sem] Nat.add_assoc Nat.add_lt_add_iff_left lit_lt_add

set_option maxHeartbeats 400000 in
theorem to10_any (a b : Int) : Pure Try.prog 27 #[.int .i64 a, .int .i64 b] (.agg #[.int .i64 a, .bool false, .int .i64 b, .bool false, .bool false]) := by
  intro w
  go_enter Try.func27, Try.ntmps27
  go_wp2
  go_returns
  exact gives_end rfl (by (repeat' (first | (with_reducible assumption) | (with_reducible exact Below.refl _ _) | (with_reducible refine below_wov ?_ ?_ _) | (with_reducible refine below_drewN ?_ _) | (with_reducible refine Below.drew ?_) | (with_reducible refine Below.alloc ?_ ?_ _) | (with_reducible refine Below.setCell ?_ ?_ _) | (with_reducible exact Nat.le_refl _) | omega | (simp only [World.size_alloc, World.size_setCell, World.size_drew, Wov_size, World.heap_drewN]; omega))))
set_option maxRecDepth 10000 in
theorem make10_0 (w : World) : Calls Try.prog 26 #[.agg #[.int .i64 0, .bool false, .int .i64 4, .bool false, .bool false], .agg #[.int .i64 0, .bool false, .int .i64 4, .bool false, .bool false], .agg #[.int .i64 0, .bool true, .int .i64 0, .bool false, .bool true]] w (Gives w (.tuple #[.agg #[.int .i64 8, .int .i64 1, .int .i64 9, .int .i64 0, .int .i64 9, .int .i64 0], .int .i64 0])) := by
  have h : (makeZ (betwS 0 false 4 false false) (betwS 0 false 4 false false) (betwS 0 true 0 false true)).2 = 0 ∧ (makeZ (betwS 0 false 4 false false) (betwS 0 false 4 false false) (betwS 0 true 0 false true)).1 0 = 8 ∧ (makeZ (betwS 0 false 4 false false) (betwS 0 false 4 false false) (betwS 0 true 0 false true)).1 1 = 1 ∧ (makeZ (betwS 0 false 4 false false) (betwS 0 false 4 false false) (betwS 0 true 0 false true)).1 2 = 9 ∧ (makeZ (betwS 0 false 4 false false) (betwS 0 false 4 false false) (betwS 0 true 0 false true)).1 3 = 0 ∧ (makeZ (betwS 0 false 4 false false) (betwS 0 false 4 false false) (betwS 0 true 0 false true)).1 4 = 9 ∧ (makeZ (betwS 0 false 4 false false) (betwS 0 false 4 false false) (betwS 0 true 0 false true)).1 5 = 0 := by decide +kernel
  have := zmake_any 0 false 4 false false 0 false 4 false false 0 true 0 false true w (by decide) (by decide) (by decide) (by decide) (by decide) (by decide)
  unfold zoneR zoneV at this
  rw [h.1, h.2.1, h.2.2.1, h.2.2.2.1, h.2.2.2.2.1, h.2.2.2.2.2.1, h.2.2.2.2.2.2] at this
  exact this
set_option maxRecDepth 10000 in
set_option maxHeartbeats 1000000 in
theorem some10_0 : Pure Try.prog 25 #[.int .i64 0] (.agg #[.int .i64 8, .int .i64 1, .int .i64 9, .int .i64 0, .int .i64 9, .int .i64 0]) := by
  intro w
  have TT : Hid (Pure Try.prog 27 #[.int .i64 0, .int .i64 4] (.agg #[.int .i64 0, .bool false, .int .i64 4, .bool false, .bool false])) := to10_any 0 4
  have MK := Lib.hid make10_0
  go_enter Try.func25, Try.ntmps25
  go_wp2_with (fail)
  refine (TT.out _).mono ?_; rintro e w' ⟨rfl, q1, rfl⟩
  go_wp2_with (fail)
  refine (TT.out _).mono ?_; rintro e w' ⟨rfl, q2, rfl⟩
  go_wp2_with (fail)
  refine (MK.out _).mono ?_; rintro e w' ⟨rfl, q3, rfl⟩
  go_wp2
  go_returns
  exact gives_end rfl (by (repeat' (first | (with_reducible assumption) | (with_reducible exact Below.refl _ _) | (with_reducible refine below_wov ?_ ?_ _) | (with_reducible refine below_drewN ?_ _) | (with_reducible refine Below.drew ?_) | (with_reducible refine Below.alloc ?_ ?_ _) | (with_reducible refine Below.setCell ?_ ?_ _) | (with_reducible exact Nat.le_refl _) | omega | (simp only [World.size_alloc, World.size_setCell, World.size_drew, Wov_size, World.heap_drewN]; omega))))
set_option maxRecDepth 10000 in
theorem make10_2 (w : World) : Calls Try.prog 26 #[.agg #[.int .i64 2, .bool false, .int .i64 6, .bool false, .bool false], .agg #[.int .i64 2, .bool false, .int .i64 6, .bool false, .bool false], .agg #[.int .i64 0, .bool true, .int .i64 0, .bool false, .bool true]] w (Gives w (.tuple #[.agg #[.int .i64 12, .int .i64 (-3), .int .i64 13, .int .i64 (-4), .int .i64 9, .int .i64 0], .int .i64 0])) := by
  have h : (makeZ (betwS 2 false 6 false false) (betwS 2 false 6 false false) (betwS 0 true 0 false true)).2 = 0 ∧ (makeZ (betwS 2 false 6 false false) (betwS 2 false 6 false false) (betwS 0 true 0 false true)).1 0 = 12 ∧ (makeZ (betwS 2 false 6 false false) (betwS 2 false 6 false false) (betwS 0 true 0 false true)).1 1 = (-3) ∧ (makeZ (betwS 2 false 6 false false) (betwS 2 false 6 false false) (betwS 0 true 0 false true)).1 2 = 13 ∧ (makeZ (betwS 2 false 6 false false) (betwS 2 false 6 false false) (betwS 0 true 0 false true)).1 3 = (-4) ∧ (makeZ (betwS 2 false 6 false false) (betwS 2 false 6 false false) (betwS 0 true 0 false true)).1 4 = 9 ∧ (makeZ (betwS 2 false 6 false false) (betwS 2 false 6 false false) (betwS 0 true 0 false true)).1 5 = 0 := by decide +kernel
  have := zmake_any 2 false 6 false false 2 false 6 false false 0 true 0 false true w (by decide) (by decide) (by decide) (by decide) (by decide) (by decide)
  unfold zoneR zoneV at this
  rw [h.1, h.2.1, h.2.2.1, h.2.2.2.1, h.2.2.2.2.1, h.2.2.2.2.2.1, h.2.2.2.2.2.2] at this
  exact this
set_option maxRecDepth 10000 in
set_option maxHeartbeats 1000000 in
theorem some10_2 : Pure Try.prog 25 #[.int .i64 2] (.agg #[.int .i64 12, .int .i64 (-3), .int .i64 13, .int .i64 (-4), .int .i64 9, .int .i64 0]) := by
  intro w
  have TT : Hid (Pure Try.prog 27 #[.int .i64 2, .int .i64 6] (.agg #[.int .i64 2, .bool false, .int .i64 6, .bool false, .bool false])) := to10_any 2 6
  have MK := Lib.hid make10_2
  go_enter Try.func25, Try.ntmps25
  go_wp2_with (fail)
  refine (TT.out _).mono ?_; rintro e w' ⟨rfl, q1, rfl⟩
  go_wp2_with (fail)
  refine (TT.out _).mono ?_; rintro e w' ⟨rfl, q2, rfl⟩
  go_wp2_with (fail)
  refine (MK.out _).mono ?_; rintro e w' ⟨rfl, q3, rfl⟩
  go_wp2
  go_returns
  exact gives_end rfl (by (repeat' (first | (with_reducible assumption) | (with_reducible exact Below.refl _ _) | (with_reducible refine below_wov ?_ ?_ _) | (with_reducible refine below_drewN ?_ _) | (with_reducible refine Below.drew ?_) | (with_reducible refine Below.alloc ?_ ?_ _) | (with_reducible refine Below.setCell ?_ ?_ _) | (with_reducible exact Nat.le_refl _) | omega | (simp only [World.size_alloc, World.size_setCell, World.size_drew, Wov_size, World.heap_drewN]; omega))))
set_option maxRecDepth 10000 in
theorem within10_0 (w : World) : Calls Try.prog 40 #[.agg #[.int .i64 8, .int .i64 1, .int .i64 9, .int .i64 0, .int .i64 9, .int .i64 0], .agg #[.int .i64 1, .bool false, .int .i64 2, .bool false, .bool false]] w (Gives w (.tuple #[.agg #[.int .i64 7, .int .i64 1, .int .i64 9, .int .i64 (-1), .int .i64 5, .int .i64 (-1)], .int .i64 0])) := by
  have h : (withinZ (row6 8 1 9 0 9 0) ⟨1, false, 2, false, false⟩).2 = 0 ∧ (withinZ (row6 8 1 9 0 9 0) ⟨1, false, 2, false, false⟩).1 0 = 7 ∧ (withinZ (row6 8 1 9 0 9 0) ⟨1, false, 2, false, false⟩).1 1 = 1 ∧ (withinZ (row6 8 1 9 0 9 0) ⟨1, false, 2, false, false⟩).1 2 = 9 ∧ (withinZ (row6 8 1 9 0 9 0) ⟨1, false, 2, false, false⟩).1 3 = (-1) ∧ (withinZ (row6 8 1 9 0 9 0) ⟨1, false, 2, false, false⟩).1 4 = 5 ∧ (withinZ (row6 8 1 9 0 9 0) ⟨1, false, 2, false, false⟩).1 5 = (-1) := by decide +kernel
  have f : FitsZ (row6 8 1 9 0 9 0) := fun i hi => by
    rcases six hi with rfl | rfl | rfl | rfl | rfl | rfl <;> decide
  have := wwithin_any (row6 8 1 9 0 9 0) ⟨1, false, 2, false, false⟩ w f (by decide) (by decide)
  unfold zoneR zoneV at this
  rw [h.1, h.2.1, h.2.2.1, h.2.2.2.1, h.2.2.2.2.1, h.2.2.2.2.2.1, h.2.2.2.2.2.2] at this
  exact this
set_option maxRecDepth 10000 in
theorem make10_b (w : World) : Calls Try.prog 26 #[.agg #[.int .i64 0, .bool false, .int .i64 3, .bool false, .bool false], .agg #[.int .i64 1, .bool false, .int .i64 4, .bool false, .bool false], .agg #[.int .i64 1, .bool false, .int .i64 2, .bool false, .bool false]] w (Gives w (.tuple #[.agg #[.int .i64 7, .int .i64 1, .int .i64 9, .int .i64 (-1), .int .i64 5, .int .i64 (-1)], .int .i64 0])) := by
  have h : (makeZ (betwS 0 false 3 false false) (betwS 1 false 4 false false) (betwS 1 false 2 false false)).2 = 0 ∧ (makeZ (betwS 0 false 3 false false) (betwS 1 false 4 false false) (betwS 1 false 2 false false)).1 0 = 7 ∧ (makeZ (betwS 0 false 3 false false) (betwS 1 false 4 false false) (betwS 1 false 2 false false)).1 1 = 1 ∧ (makeZ (betwS 0 false 3 false false) (betwS 1 false 4 false false) (betwS 1 false 2 false false)).1 2 = 9 ∧ (makeZ (betwS 0 false 3 false false) (betwS 1 false 4 false false) (betwS 1 false 2 false false)).1 3 = (-1) ∧ (makeZ (betwS 0 false 3 false false) (betwS 1 false 4 false false) (betwS 1 false 2 false false)).1 4 = 5 ∧ (makeZ (betwS 0 false 3 false false) (betwS 1 false 4 false false) (betwS 1 false 2 false false)).1 5 = (-1) := by decide +kernel
  have := zmake_any 0 false 3 false false 1 false 4 false false 1 false 2 false false w (by decide) (by decide) (by decide) (by decide) (by decide) (by decide)
  unfold zoneR zoneV at this
  rw [h.1, h.2.1, h.2.2.1, h.2.2.2.1, h.2.2.2.2.1, h.2.2.2.2.2.1, h.2.2.2.2.2.2] at this
  exact this
set_option maxRecDepth 10000 in
theorem check10_0 (w : World) : Calls Try.prog 45 #[.agg #[.int .i64 7, .int .i64 1, .int .i64 9, .int .i64 (-1), .int .i64 5, .int .i64 (-1)]] w (Gives w (.int .i64 0)) := by
  have k : okZ (row6 7 1 9 (-1) 5 (-1)) = true := by decide +kernel
  have := zcheck_any (row6 7 1 9 (-1) 5 (-1)) w (okZ_fits k)
  rw [k] at this
  exact this
set_option maxRecDepth 10000 in
set_option maxHeartbeats 4000000 in
theorem alive10 : Pure Try.prog 29 #[] (.bool true) := by
  intro w
  have S0 := Lib.hid some10_0
  have T12 : Hid (Pure Try.prog 27 #[.int .i64 1, .int .i64 2] (.agg #[.int .i64 1, .bool false, .int .i64 2, .bool false, .bool false])) := to10_any 1 2
  have T03 : Hid (Pure Try.prog 27 #[.int .i64 0, .int .i64 3] (.agg #[.int .i64 0, .bool false, .int .i64 3, .bool false, .bool false])) := to10_any 0 3
  have T14 : Hid (Pure Try.prog 27 #[.int .i64 1, .int .i64 4] (.agg #[.int .i64 1, .bool false, .int .i64 4, .bool false, .bool false])) := to10_any 1 4
  have WI := Lib.hid within10_0
  have MK := Lib.hid make10_b
  have CK := Lib.hid check10_0
  have E1 : eq6 7 1 9 (-1) 5 (-1) 7 1 9 (-1) 5 (-1) = true := by decide
  have E2 : eq6 7 1 9 (-1) 5 (-1) 0 0 0 0 0 0 = false := by decide
  go_enter Try.func29, Try.ntmps29
  go_wp2_with (fail)
  refine (S0.out _).mono ?_; rintro e w' ⟨rfl, q1, rfl⟩
  go_wp2_with (fail)
  refine (T12.out _).mono ?_; rintro e w' ⟨rfl, q2, rfl⟩
  go_wp2_with (fail)
  refine (WI.out _).mono ?_; rintro e w' ⟨rfl, q3, rfl⟩
  go_wp2_with (fail)
  refine (T03.out _).mono ?_; rintro e w' ⟨rfl, q4, rfl⟩
  go_wp2_with (fail)
  refine (T14.out _).mono ?_; rintro e w' ⟨rfl, q5, rfl⟩
  go_wp2_with (fail)
  refine (T12.out _).mono ?_; rintro e w' ⟨rfl, q6, rfl⟩
  go_wp2_with (fail)
  refine (MK.out _).mono ?_; rintro e w' ⟨rfl, q7, rfl⟩
  clear S0 T12 T03 T14 WI MK
  go_wp2_with (fail)
  refine (CK.out _).mono ?_; rintro e w' ⟨rfl, q8, rfl⟩
  go_wp2
  all_goals
    go_ret
    exact gives_bool (by simp) (by (repeat' (first | (with_reducible assumption) | (with_reducible exact Below.refl _ _) | (with_reducible refine below_wov ?_ ?_ _) | (with_reducible refine below_drewN ?_ _) | (with_reducible refine Below.drew ?_) | (with_reducible refine Below.alloc ?_ ?_ _) | (with_reducible refine Below.setCell ?_ ?_ _) | (with_reducible exact Nat.le_refl _) | omega | (simp only [World.size_alloc, World.size_setCell, World.size_drew, Wov_size, World.heap_drewN]; omega))))
#print axioms alive10
end Go.Proofs.Ytbgbhfcnadjhdaa
