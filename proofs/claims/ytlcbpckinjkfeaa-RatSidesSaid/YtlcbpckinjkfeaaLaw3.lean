/- Contracts of the helpers of law package 03: of, alive. No condition. -/
import Derived.Test.YtlcbpckinjkfeaaFrame2
import Derived.Test.YtlcbpckinjkfeaaRat8
namespace Go.Proofs.Ytlcbpckinjkfeaa
open Go.ChangeShapes Go.WideShapes Go.ChangeAt Go.RowKit
set_option linter.unusedVariables false
set_option linter.unusedSimpArgs false
attribute [local go_sem] Nat.add_assoc Nat.add_lt_add_iff_left lit_lt_add

/-- A small fraction: its two numbers. -/
def ofV (r : Int × Int × Int) : Value := .agg #[.int .i64 r.1, .int .i64 r.2.1]

set_option maxRecDepth 10000 in
set_option maxHeartbeats 1000000 in
theorem lof_any (n d : Int) (h1 : fits64 n) (h2 : fits64 d) :
    Pure Try.prog 74 #[.int .i64 n, .int .i64 d] (ofV (ofR n d)) := by
  intro w
  have C := of_any n d h1.1 h1.2 h2.2
  obtain ⟨⟨x, y, z⟩, hr⟩ : ∃ r, r = ofR n d := ⟨_, rfl⟩
  rw [← hr] at C ⊢
  clear hr h1 h2
  simp only [rat3] at C
  go_enter Try.func74, Try.ntmps74
  go_wp2_with (fail)
  refine (C _).mono ?_; rintro e w' ⟨rfl, p, rfl⟩
  go_wp2
  go_returns
  exact gives_end rfl (by (repeat' (first | (with_reducible assumption) | (with_reducible exact Below.refl _ _) | (with_reducible refine below_wov ?_ ?_ _) | (with_reducible refine below_drewN ?_ _) | (with_reducible refine Below.drew ?_) | (with_reducible refine Below.alloc ?_ ?_ _) | (with_reducible refine Below.setCell ?_ ?_ _) | (with_reducible exact Nat.le_refl _) | omega | (simp only [World.size_alloc, World.size_setCell, World.size_drew, Wov_size, World.heap_drewN]; omega))))

theorem fits_small {n : Int} (h : -1000000 ≤ n ∧ n ≤ 1000000) : fits64 n := by unfold fits64; omega

set_option maxRecDepth 10000 in
set_option maxHeartbeats 2000000 in
theorem alive3 : Pure Try.prog 22 #[] (.bool true) := by
  intro w
  have O1 : Pure Try.prog 46 #[.int .i64 6, .int .i64 4] (.tuple #[.agg #[.int .i64 3, .int .i64 2], .int .i64 0]) := of_any 6 4 (by omega) (by omega) (by omega)
  have O2 : Pure Try.prog 46 #[.int .i64 1, .int .i64 0] (.tuple #[.agg #[.int .i64 0, .int .i64 0], .int .i64 30]) := of_any 1 0 (by omega) (by omega) (by omega)
  have L13 : Pure Try.prog 74 #[.int .i64 1, .int .i64 3] (.agg #[.int .i64 1, .int .i64 3]) := lof_any 1 3 (fits_small (by omega)) (fits_small (by omega))
  have L12 : Pure Try.prog 74 #[.int .i64 1, .int .i64 2] (.agg #[.int .i64 1, .int .i64 2]) := lof_any 1 2 (fits_small (by omega)) (fits_small (by omega))
  have L16 : Pure Try.prog 74 #[.int .i64 1, .int .i64 6] (.agg #[.int .i64 1, .int .i64 6]) := lof_any 1 6 (fits_small (by omega)) (fits_small (by omega))
  have CC : Pure Try.prog 23 #[.agg #[.int .i64 1, .int .i64 3], .agg #[.int .i64 1, .int .i64 2]] (.tuple #[.int .i64 (-1), .int .i64 0]) := ratCmp_any 1 3 1 2 (by omega) (by omega) (by omega) (by omega) (by omega) (by omega) (by omega) (by omega)
  have AA : Pure Try.prog 52 #[.agg #[.int .i64 1, .int .i64 3], .agg #[.int .i64 1, .int .i64 6]] (.tuple #[.agg #[.int .i64 1, .int .i64 2], .int .i64 0]) := ratAdd_any 1 3 1 6 (fits_small (by omega)) (fits_small (by omega))
  have H1 := Lib.hid O1
  have H2 := Lib.hid O2
  have H3 := Lib.hid L13
  have H4 := Lib.hid L12
  have H5 := Lib.hid L16
  have H6 := Lib.hid CC
  have H7 := Lib.hid AA
  clear O1 O2 L13 L12 L16 CC AA
  go_enter Try.func22, Try.ntmps22
  go_wp2_with (fail)
  refine (H1.out _).mono ?_; rintro e w' ⟨rfl, p1, rfl⟩
  go_wp2_with (fail)
  refine (H2.out _).mono ?_; rintro e w' ⟨rfl, p2, rfl⟩
  go_wp2_with (fail)
  refine (H3.out _).mono ?_; rintro e w' ⟨rfl, p3, rfl⟩
  go_wp2_with (fail)
  refine (H4.out _).mono ?_; rintro e w' ⟨rfl, p4, rfl⟩
  go_wp2_with (fail)
  refine (H6.out _).mono ?_; rintro e w' ⟨rfl, p5, rfl⟩
  go_wp2_with (fail)
  refine (H3.out _).mono ?_; rintro e w' ⟨rfl, p6, rfl⟩
  go_wp2_with (fail)
  refine (H5.out _).mono ?_; rintro e w' ⟨rfl, p7, rfl⟩
  go_wp2_with (fail)
  refine (H7.out _).mono ?_; rintro e w' ⟨rfl, p8, rfl⟩
  go_wp2_with (fail)
  refine wp_region_wov (by kernel_rfl) (by kernel_rfl) ?_
  repeat (go_big_quiet_step ((go_at_call 74; (first | exact (H4.out).at _ _ | exact (H4.out).at2 _ _ _ | exact (H4.out).at3 _ _ _ _ | exact (H4.out).at4 _ _ _ _ _ | exact (H4.out).at5 _ _ _ _ _ _ | exact (H4.out).at6 _ _ _ _ _ _ _))))
  refine wpQuiet_nil ?_
  rintro _ ⟨pq, rfl⟩
  go_wp2
  go_ret
  exact gives_bool (by simp) (by (repeat' (first | (with_reducible assumption) | (with_reducible exact Below.refl _ _) | (with_reducible refine below_wov ?_ ?_ _) | (with_reducible refine below_drewN ?_ _) | (with_reducible refine Below.drew ?_) | (with_reducible refine Below.alloc ?_ ?_ _) | (with_reducible refine Below.setCell ?_ ?_ _) | (with_reducible exact Nat.le_refl _) | omega | (simp only [World.size_alloc, World.size_setCell, World.size_drew, Wov_size, World.heap_drewN]; omega))))
end Go.Proofs.Ytlcbpckinjkfeaa
