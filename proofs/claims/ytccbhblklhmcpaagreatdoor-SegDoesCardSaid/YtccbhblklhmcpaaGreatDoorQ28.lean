/- seg.checked: the error of a signal. No condition but on sizes. -/
import Derived.Test.YtccbhblklhmcpaaGreatDoorQ27
namespace Go.Proofs.YtccbhblklhmcpaaGreatDoor
set_option linter.unusedSimpArgs false
set_option linter.unusedVariables false
open Go Go.RowKit Go.Shelf
attribute [local go_sem] Nat.add_assoc Nat.add_lt_add_iff_left lit_lt_add

set_option maxRecDepth 10000 in
set_option maxHeartbeats 1000000 in
theorem odds_0 (W : World) (D : Nat) (a x : Int) (h0 : 0 ≤ x) (hD : D < W.heap.size) (hc : W.cell? ⟨D, 0, none⟩ = some (.int .i64 0)) (h8 : x < 256) : Calls Tryz.prog 27 #[.agg #[.int .i64 a, .int .u8 x], .pointer (some ⟨D, 0, none⟩)] W (Gives W (.bool (decide (a < 1) || decide (1 ≤ x)))) := by
  have hw : IntKind.i64.wrap x = x := by rw [IntKind.wrap_i64]; omega
  by_cases h1 : a < 1
  · rw [decide_eq_true h1, Bool.true_or]
    go_enter Tryz.func27, Tryz.ntmps27
    go_wp2_with (fail)
    refine wp_region_wov (by kernel_rfl) (by kernel_rfl) ?_
    repeat (go_big_quiet_step (fail))
    refine wpQuiet_nil ?_
    rintro _ ⟨pq, rfl⟩
    go_wp2_with (fail)
    go_ret
    exact gives_end (by simp [go_sem, h1]) (by (repeat' (first | (with_reducible assumption) | (with_reducible exact Below.refl _ _) | (with_reducible refine below_wov ?_ ?_ _) | (with_reducible refine below_drewN ?_ _) | (with_reducible refine Below.drew ?_) | (with_reducible refine Below.alloc ?_ ?_ _) | (with_reducible refine Below.setCell ?_ ?_ _) | (with_reducible exact Nat.le_refl _) | omega | (simp only [World.size_alloc, World.size_setCell, World.size_drew, Wov_size, World.heap_drewN]; omega))))
  · rw [decide_eq_false h1, Bool.false_or]
    have h1' : 1 ≤ a := by omega
    have hd := decide_eq_false h1
    clear h1
    go_enter Tryz.func27, Tryz.ntmps27
    go_wp2_with (fail)
    refine wp_region_wov (by kernel_rfl) (by kernel_rfl) ?_
    repeat (go_big_quiet_step (fail))
    refine wpQuiet_nil ?_
    rintro _ ⟨pq, rfl⟩
    go_wp2_with (fail)
    go_ret
    exact gives_end (by simp [go_sem, *]) (by (repeat' (first | (with_reducible assumption) | (with_reducible exact Below.refl _ _) | (with_reducible refine below_wov ?_ ?_ _) | (with_reducible refine below_drewN ?_ _) | (with_reducible refine Below.drew ?_) | (with_reducible refine Below.alloc ?_ ?_ _) | (with_reducible refine Below.setCell ?_ ?_ _) | (with_reducible exact Nat.le_refl _) | omega | (simp only [World.size_alloc, World.size_setCell, World.size_drew, Wov_size, World.heap_drewN]; omega))))
set_option maxRecDepth 10000 in
set_option maxHeartbeats 1000000 in
theorem odds_1 (W : World) (D : Nat) (a x : Int) (h0 : 0 ≤ x) (hD : D < W.heap.size) (hc : W.cell? ⟨D, 0, none⟩ = some (.int .i64 1)) (h8 : x < 256) : Calls Tryz.prog 27 #[.agg #[.int .i64 a, .int .u8 x], .pointer (some ⟨D, 0, none⟩)] W (Gives W (.bool (decide (a < 1) || decide (2 ≤ x)))) := by
  have hw : IntKind.i64.wrap x = x := by rw [IntKind.wrap_i64]; omega
  by_cases h1 : a < 1
  · rw [decide_eq_true h1, Bool.true_or]
    go_enter Tryz.func27, Tryz.ntmps27
    go_wp2_with (fail)
    refine wp_region_wov (by kernel_rfl) (by kernel_rfl) ?_
    repeat (go_big_quiet_step (fail))
    refine wpQuiet_nil ?_
    rintro _ ⟨pq, rfl⟩
    go_wp2_with (fail)
    go_ret
    exact gives_end (by simp [go_sem, h1]) (by (repeat' (first | (with_reducible assumption) | (with_reducible exact Below.refl _ _) | (with_reducible refine below_wov ?_ ?_ _) | (with_reducible refine below_drewN ?_ _) | (with_reducible refine Below.drew ?_) | (with_reducible refine Below.alloc ?_ ?_ _) | (with_reducible refine Below.setCell ?_ ?_ _) | (with_reducible exact Nat.le_refl _) | omega | (simp only [World.size_alloc, World.size_setCell, World.size_drew, Wov_size, World.heap_drewN]; omega))))
  · rw [decide_eq_false h1, Bool.false_or]
    have h1' : 1 ≤ a := by omega
    have hd := decide_eq_false h1
    clear h1
    go_enter Tryz.func27, Tryz.ntmps27
    go_wp2_with (fail)
    refine wp_region_wov (by kernel_rfl) (by kernel_rfl) ?_
    repeat (go_big_quiet_step (fail))
    refine wpQuiet_nil ?_
    rintro _ ⟨pq, rfl⟩
    go_wp2_with (fail)
    go_ret
    exact gives_end (by simp [go_sem, *]) (by (repeat' (first | (with_reducible assumption) | (with_reducible exact Below.refl _ _) | (with_reducible refine below_wov ?_ ?_ _) | (with_reducible refine below_drewN ?_ _) | (with_reducible refine Below.drew ?_) | (with_reducible refine Below.alloc ?_ ?_ _) | (with_reducible refine Below.setCell ?_ ?_ _) | (with_reducible exact Nat.le_refl _) | omega | (simp only [World.size_alloc, World.size_setCell, World.size_drew, Wov_size, World.heap_drewN]; omega))))
set_option maxRecDepth 10000 in
set_option maxHeartbeats 1000000 in
theorem odds_2 (W : World) (D : Nat) (a x : Int) (h0 : 0 ≤ x) (hD : D < W.heap.size) (hc : W.cell? ⟨D, 0, none⟩ = some (.int .i64 2)) (h8 : x < 256) : Calls Tryz.prog 27 #[.agg #[.int .i64 a, .int .u8 x], .pointer (some ⟨D, 0, none⟩)] W (Gives W (.bool (decide (a < 1) || decide (4 ≤ x)))) := by
  have hw : IntKind.i64.wrap x = x := by rw [IntKind.wrap_i64]; omega
  by_cases h1 : a < 1
  · rw [decide_eq_true h1, Bool.true_or]
    go_enter Tryz.func27, Tryz.ntmps27
    go_wp2_with (fail)
    refine wp_region_wov (by kernel_rfl) (by kernel_rfl) ?_
    repeat (go_big_quiet_step (fail))
    refine wpQuiet_nil ?_
    rintro _ ⟨pq, rfl⟩
    go_wp2_with (fail)
    go_ret
    exact gives_end (by simp [go_sem, h1]) (by (repeat' (first | (with_reducible assumption) | (with_reducible exact Below.refl _ _) | (with_reducible refine below_wov ?_ ?_ _) | (with_reducible refine below_drewN ?_ _) | (with_reducible refine Below.drew ?_) | (with_reducible refine Below.alloc ?_ ?_ _) | (with_reducible refine Below.setCell ?_ ?_ _) | (with_reducible exact Nat.le_refl _) | omega | (simp only [World.size_alloc, World.size_setCell, World.size_drew, Wov_size, World.heap_drewN]; omega))))
  · rw [decide_eq_false h1, Bool.false_or]
    have h1' : 1 ≤ a := by omega
    have hd := decide_eq_false h1
    clear h1
    go_enter Tryz.func27, Tryz.ntmps27
    go_wp2_with (fail)
    refine wp_region_wov (by kernel_rfl) (by kernel_rfl) ?_
    repeat (go_big_quiet_step (fail))
    refine wpQuiet_nil ?_
    rintro _ ⟨pq, rfl⟩
    go_wp2_with (fail)
    go_ret
    exact gives_end (by simp [go_sem, *]) (by (repeat' (first | (with_reducible assumption) | (with_reducible exact Below.refl _ _) | (with_reducible refine below_wov ?_ ?_ _) | (with_reducible refine below_drewN ?_ _) | (with_reducible refine Below.drew ?_) | (with_reducible refine Below.alloc ?_ ?_ _) | (with_reducible refine Below.setCell ?_ ?_ _) | (with_reducible exact Nat.le_refl _) | omega | (simp only [World.size_alloc, World.size_setCell, World.size_drew, Wov_size, World.heap_drewN]; omega))))
set_option maxRecDepth 10000 in
set_option maxHeartbeats 1000000 in
theorem odds_3 (W : World) (D : Nat) (a x : Int) (h0 : 0 ≤ x) (hD : D < W.heap.size) (hc : W.cell? ⟨D, 0, none⟩ = some (.int .i64 3)) (h8 : x < 256) : Calls Tryz.prog 27 #[.agg #[.int .i64 a, .int .u8 x], .pointer (some ⟨D, 0, none⟩)] W (Gives W (.bool (decide (a < 1) || decide (8 ≤ x)))) := by
  have hw : IntKind.i64.wrap x = x := by rw [IntKind.wrap_i64]; omega
  by_cases h1 : a < 1
  · rw [decide_eq_true h1, Bool.true_or]
    go_enter Tryz.func27, Tryz.ntmps27
    go_wp2_with (fail)
    refine wp_region_wov (by kernel_rfl) (by kernel_rfl) ?_
    repeat (go_big_quiet_step (fail))
    refine wpQuiet_nil ?_
    rintro _ ⟨pq, rfl⟩
    go_wp2_with (fail)
    go_ret
    exact gives_end (by simp [go_sem, h1]) (by (repeat' (first | (with_reducible assumption) | (with_reducible exact Below.refl _ _) | (with_reducible refine below_wov ?_ ?_ _) | (with_reducible refine below_drewN ?_ _) | (with_reducible refine Below.drew ?_) | (with_reducible refine Below.alloc ?_ ?_ _) | (with_reducible refine Below.setCell ?_ ?_ _) | (with_reducible exact Nat.le_refl _) | omega | (simp only [World.size_alloc, World.size_setCell, World.size_drew, Wov_size, World.heap_drewN]; omega))))
  · rw [decide_eq_false h1, Bool.false_or]
    have h1' : 1 ≤ a := by omega
    have hd := decide_eq_false h1
    clear h1
    go_enter Tryz.func27, Tryz.ntmps27
    go_wp2_with (fail)
    refine wp_region_wov (by kernel_rfl) (by kernel_rfl) ?_
    repeat (go_big_quiet_step (fail))
    refine wpQuiet_nil ?_
    rintro _ ⟨pq, rfl⟩
    go_wp2_with (fail)
    go_ret
    exact gives_end (by simp [go_sem, *]) (by (repeat' (first | (with_reducible assumption) | (with_reducible exact Below.refl _ _) | (with_reducible refine below_wov ?_ ?_ _) | (with_reducible refine below_drewN ?_ _) | (with_reducible refine Below.drew ?_) | (with_reducible refine Below.alloc ?_ ?_ _) | (with_reducible refine Below.setCell ?_ ?_ _) | (with_reducible exact Nat.le_refl _) | omega | (simp only [World.size_alloc, World.size_setCell, World.size_drew, Wov_size, World.heap_drewN]; omega))))
set_option maxRecDepth 10000 in
set_option maxHeartbeats 1000000 in
theorem odds_4 (W : World) (D : Nat) (a x : Int) (h0 : 0 ≤ x) (hD : D < W.heap.size) (hc : W.cell? ⟨D, 0, none⟩ = some (.int .i64 4)) (h8 : x < 256) : Calls Tryz.prog 27 #[.agg #[.int .i64 a, .int .u8 x], .pointer (some ⟨D, 0, none⟩)] W (Gives W (.bool (decide (a < 1) || decide (16 ≤ x)))) := by
  have hw : IntKind.i64.wrap x = x := by rw [IntKind.wrap_i64]; omega
  by_cases h1 : a < 1
  · rw [decide_eq_true h1, Bool.true_or]
    go_enter Tryz.func27, Tryz.ntmps27
    go_wp2_with (fail)
    refine wp_region_wov (by kernel_rfl) (by kernel_rfl) ?_
    repeat (go_big_quiet_step (fail))
    refine wpQuiet_nil ?_
    rintro _ ⟨pq, rfl⟩
    go_wp2_with (fail)
    go_ret
    exact gives_end (by simp [go_sem, h1]) (by (repeat' (first | (with_reducible assumption) | (with_reducible exact Below.refl _ _) | (with_reducible refine below_wov ?_ ?_ _) | (with_reducible refine below_drewN ?_ _) | (with_reducible refine Below.drew ?_) | (with_reducible refine Below.alloc ?_ ?_ _) | (with_reducible refine Below.setCell ?_ ?_ _) | (with_reducible exact Nat.le_refl _) | omega | (simp only [World.size_alloc, World.size_setCell, World.size_drew, Wov_size, World.heap_drewN]; omega))))
  · rw [decide_eq_false h1, Bool.false_or]
    have h1' : 1 ≤ a := by omega
    have hd := decide_eq_false h1
    clear h1
    go_enter Tryz.func27, Tryz.ntmps27
    go_wp2_with (fail)
    refine wp_region_wov (by kernel_rfl) (by kernel_rfl) ?_
    repeat (go_big_quiet_step (fail))
    refine wpQuiet_nil ?_
    rintro _ ⟨pq, rfl⟩
    go_wp2_with (fail)
    go_ret
    exact gives_end (by simp [go_sem, *]) (by (repeat' (first | (with_reducible assumption) | (with_reducible exact Below.refl _ _) | (with_reducible refine below_wov ?_ ?_ _) | (with_reducible refine below_drewN ?_ _) | (with_reducible refine Below.drew ?_) | (with_reducible refine Below.alloc ?_ ?_ _) | (with_reducible refine Below.setCell ?_ ?_ _) | (with_reducible exact Nat.le_refl _) | omega | (simp only [World.size_alloc, World.size_setCell, World.size_drew, Wov_size, World.heap_drewN]; omega))))
set_option maxRecDepth 10000 in
set_option maxHeartbeats 1000000 in
theorem odds_5 (W : World) (D : Nat) (a x : Int) (h0 : 0 ≤ x) (hD : D < W.heap.size) (hc : W.cell? ⟨D, 0, none⟩ = some (.int .i64 5)) (h8 : x < 256) : Calls Tryz.prog 27 #[.agg #[.int .i64 a, .int .u8 x], .pointer (some ⟨D, 0, none⟩)] W (Gives W (.bool (decide (a < 1) || decide (32 ≤ x)))) := by
  have hw : IntKind.i64.wrap x = x := by rw [IntKind.wrap_i64]; omega
  by_cases h1 : a < 1
  · rw [decide_eq_true h1, Bool.true_or]
    go_enter Tryz.func27, Tryz.ntmps27
    go_wp2_with (fail)
    refine wp_region_wov (by kernel_rfl) (by kernel_rfl) ?_
    repeat (go_big_quiet_step (fail))
    refine wpQuiet_nil ?_
    rintro _ ⟨pq, rfl⟩
    go_wp2_with (fail)
    go_ret
    exact gives_end (by simp [go_sem, h1]) (by (repeat' (first | (with_reducible assumption) | (with_reducible exact Below.refl _ _) | (with_reducible refine below_wov ?_ ?_ _) | (with_reducible refine below_drewN ?_ _) | (with_reducible refine Below.drew ?_) | (with_reducible refine Below.alloc ?_ ?_ _) | (with_reducible refine Below.setCell ?_ ?_ _) | (with_reducible exact Nat.le_refl _) | omega | (simp only [World.size_alloc, World.size_setCell, World.size_drew, Wov_size, World.heap_drewN]; omega))))
  · rw [decide_eq_false h1, Bool.false_or]
    have h1' : 1 ≤ a := by omega
    have hd := decide_eq_false h1
    clear h1
    go_enter Tryz.func27, Tryz.ntmps27
    go_wp2_with (fail)
    refine wp_region_wov (by kernel_rfl) (by kernel_rfl) ?_
    repeat (go_big_quiet_step (fail))
    refine wpQuiet_nil ?_
    rintro _ ⟨pq, rfl⟩
    go_wp2_with (fail)
    go_ret
    exact gives_end (by simp [go_sem, *]) (by (repeat' (first | (with_reducible assumption) | (with_reducible exact Below.refl _ _) | (with_reducible refine below_wov ?_ ?_ _) | (with_reducible refine below_drewN ?_ _) | (with_reducible refine Below.drew ?_) | (with_reducible refine Below.alloc ?_ ?_ _) | (with_reducible refine Below.setCell ?_ ?_ _) | (with_reducible exact Nat.le_refl _) | omega | (simp only [World.size_alloc, World.size_setCell, World.size_drew, Wov_size, World.heap_drewN]; omega))))
set_option maxRecDepth 10000 in
set_option maxHeartbeats 1000000 in
theorem odds_6 (W : World) (D : Nat) (a x : Int) (h0 : 0 ≤ x) (hD : D < W.heap.size) (hc : W.cell? ⟨D, 0, none⟩ = some (.int .i64 6)) (h8 : x < 256) : Calls Tryz.prog 27 #[.agg #[.int .i64 a, .int .u8 x], .pointer (some ⟨D, 0, none⟩)] W (Gives W (.bool (decide (a < 1) || decide (64 ≤ x)))) := by
  have hw : IntKind.i64.wrap x = x := by rw [IntKind.wrap_i64]; omega
  by_cases h1 : a < 1
  · rw [decide_eq_true h1, Bool.true_or]
    go_enter Tryz.func27, Tryz.ntmps27
    go_wp2_with (fail)
    refine wp_region_wov (by kernel_rfl) (by kernel_rfl) ?_
    repeat (go_big_quiet_step (fail))
    refine wpQuiet_nil ?_
    rintro _ ⟨pq, rfl⟩
    go_wp2_with (fail)
    go_ret
    exact gives_end (by simp [go_sem, h1]) (by (repeat' (first | (with_reducible assumption) | (with_reducible exact Below.refl _ _) | (with_reducible refine below_wov ?_ ?_ _) | (with_reducible refine below_drewN ?_ _) | (with_reducible refine Below.drew ?_) | (with_reducible refine Below.alloc ?_ ?_ _) | (with_reducible refine Below.setCell ?_ ?_ _) | (with_reducible exact Nat.le_refl _) | omega | (simp only [World.size_alloc, World.size_setCell, World.size_drew, Wov_size, World.heap_drewN]; omega))))
  · rw [decide_eq_false h1, Bool.false_or]
    have h1' : 1 ≤ a := by omega
    have hd := decide_eq_false h1
    clear h1
    go_enter Tryz.func27, Tryz.ntmps27
    go_wp2_with (fail)
    refine wp_region_wov (by kernel_rfl) (by kernel_rfl) ?_
    repeat (go_big_quiet_step (fail))
    refine wpQuiet_nil ?_
    rintro _ ⟨pq, rfl⟩
    go_wp2_with (fail)
    go_ret
    exact gives_end (by simp [go_sem, *]) (by (repeat' (first | (with_reducible assumption) | (with_reducible exact Below.refl _ _) | (with_reducible refine below_wov ?_ ?_ _) | (with_reducible refine below_drewN ?_ _) | (with_reducible refine Below.drew ?_) | (with_reducible refine Below.alloc ?_ ?_ _) | (with_reducible refine Below.setCell ?_ ?_ _) | (with_reducible exact Nat.le_refl _) | omega | (simp only [World.size_alloc, World.size_setCell, World.size_drew, Wov_size, World.heap_drewN]; omega))))
set_option maxRecDepth 10000 in
set_option maxHeartbeats 1000000 in
theorem odds_7 (W : World) (D : Nat) (a x : Int) (h0 : 0 ≤ x) (hD : D < W.heap.size) (hc : W.cell? ⟨D, 0, none⟩ = some (.int .i64 7)) (h8 : x < 256) : Calls Tryz.prog 27 #[.agg #[.int .i64 a, .int .u8 x], .pointer (some ⟨D, 0, none⟩)] W (Gives W (.bool (decide (a < 1) || decide (128 ≤ x)))) := by
  have hw : IntKind.i64.wrap x = x := by rw [IntKind.wrap_i64]; omega
  by_cases h1 : a < 1
  · rw [decide_eq_true h1, Bool.true_or]
    go_enter Tryz.func27, Tryz.ntmps27
    go_wp2_with (fail)
    refine wp_region_wov (by kernel_rfl) (by kernel_rfl) ?_
    repeat (go_big_quiet_step (fail))
    refine wpQuiet_nil ?_
    rintro _ ⟨pq, rfl⟩
    go_wp2_with (fail)
    go_ret
    exact gives_end (by simp [go_sem, h1]) (by (repeat' (first | (with_reducible assumption) | (with_reducible exact Below.refl _ _) | (with_reducible refine below_wov ?_ ?_ _) | (with_reducible refine below_drewN ?_ _) | (with_reducible refine Below.drew ?_) | (with_reducible refine Below.alloc ?_ ?_ _) | (with_reducible refine Below.setCell ?_ ?_ _) | (with_reducible exact Nat.le_refl _) | omega | (simp only [World.size_alloc, World.size_setCell, World.size_drew, Wov_size, World.heap_drewN]; omega))))
  · rw [decide_eq_false h1, Bool.false_or]
    have h1' : 1 ≤ a := by omega
    have hd := decide_eq_false h1
    clear h1
    go_enter Tryz.func27, Tryz.ntmps27
    go_wp2_with (fail)
    refine wp_region_wov (by kernel_rfl) (by kernel_rfl) ?_
    repeat (go_big_quiet_step (fail))
    refine wpQuiet_nil ?_
    rintro _ ⟨pq, rfl⟩
    go_wp2_with (fail)
    go_ret
    exact gives_end (by simp [go_sem, *]) (by (repeat' (first | (with_reducible assumption) | (with_reducible exact Below.refl _ _) | (with_reducible refine below_wov ?_ ?_ _) | (with_reducible refine below_drewN ?_ _) | (with_reducible refine Below.drew ?_) | (with_reducible refine Below.alloc ?_ ?_ _) | (with_reducible refine Below.setCell ?_ ?_ _) | (with_reducible exact Nat.le_refl _) | omega | (simp only [World.size_alloc, World.size_setCell, World.size_drew, Wov_size, World.heap_drewN]; omega))))
set_option maxRecDepth 10000 in
set_option maxHeartbeats 1000000 in
theorem odds_8 (W : World) (D : Nat) (a x : Int) (h0 : 0 ≤ x) (hD : D < W.heap.size) (hc : W.cell? ⟨D, 0, none⟩ = some (.int .i64 8)) (h8 : x < 256) : Calls Tryz.prog 27 #[.agg #[.int .i64 a, .int .u8 x], .pointer (some ⟨D, 0, none⟩)] W (Gives W (.bool (decide (a < 1) || decide (256 ≤ x)))) := by
  have hw : IntKind.i64.wrap x = x := by rw [IntKind.wrap_i64]; omega
  by_cases h1 : a < 1
  · rw [decide_eq_true h1, Bool.true_or]
    go_enter Tryz.func27, Tryz.ntmps27
    go_wp2_with (fail)
    refine wp_region_wov (by kernel_rfl) (by kernel_rfl) ?_
    repeat (go_big_quiet_step (fail))
    refine wpQuiet_nil ?_
    rintro _ ⟨pq, rfl⟩
    go_wp2_with (fail)
    go_ret
    exact gives_end (by simp [go_sem, h1]) (by (repeat' (first | (with_reducible assumption) | (with_reducible exact Below.refl _ _) | (with_reducible refine below_wov ?_ ?_ _) | (with_reducible refine below_drewN ?_ _) | (with_reducible refine Below.drew ?_) | (with_reducible refine Below.alloc ?_ ?_ _) | (with_reducible refine Below.setCell ?_ ?_ _) | (with_reducible exact Nat.le_refl _) | omega | (simp only [World.size_alloc, World.size_setCell, World.size_drew, Wov_size, World.heap_drewN]; omega))))
  · rw [decide_eq_false h1, Bool.false_or]
    have h1' : 1 ≤ a := by omega
    have hd := decide_eq_false h1
    clear h1
    go_enter Tryz.func27, Tryz.ntmps27
    go_wp2_with (fail)
    refine wp_region_wov (by kernel_rfl) (by kernel_rfl) ?_
    repeat (go_big_quiet_step (fail))
    refine wpQuiet_nil ?_
    rintro _ ⟨pq, rfl⟩
    go_wp2_with (fail)
    go_ret
    exact gives_end (by simp [go_sem, *]) (by (repeat' (first | (with_reducible assumption) | (with_reducible exact Below.refl _ _) | (with_reducible refine below_wov ?_ ?_ _) | (with_reducible refine below_drewN ?_ _) | (with_reducible refine Below.drew ?_) | (with_reducible refine Below.alloc ?_ ?_ _) | (with_reducible refine Below.setCell ?_ ?_ _) | (with_reducible exact Nat.le_refl _) | omega | (simp only [World.size_alloc, World.size_setCell, World.size_drew, Wov_size, World.heap_drewN]; omega))))
theorem odds_any (W : World) (D n : Nat) (s : Sg) (hn : n ≤ 8) (h8 : s.2 < 256) (hD : D < W.heap.size) (hc : W.cell? ⟨D, 0, none⟩ = some (.int .i64 n)) : Calls Tryz.prog 27 #[.agg #[.int .i64 s.1, .int .u8 s.2], .pointer (some ⟨D, 0, none⟩)] W (Gives W (.bool (oddS n s))) := by
  have e : ∀ k : Nat, oddS n s = (decide (s.1 < 1) || decide (((2 ^ n : Nat) : Int) ≤ (s.2 : Int))) := fun _ => by
    unfold oddS
    congr 1
    rw [decide_eq_decide]; omega
  rw [e 0]
  have h0 : (0 : Int) ≤ (s.2 : Int) := by omega
  have h9 : (s.2 : Int) < 256 := by omega
  rcases (show n = 0 ∨ n = 1 ∨ n = 2 ∨ n = 3 ∨ n = 4 ∨ n = 5 ∨ n = 6 ∨ n = 7 ∨ n = 8 by omega) with rfl | rfl | rfl | rfl | rfl | rfl | rfl | rfl | rfl
  · exact odds_0 W D s.1 s.2 h0 hD hc h9
  · exact odds_1 W D s.1 s.2 h0 hD hc h9
  · exact odds_2 W D s.1 s.2 h0 hD hc h9
  · exact odds_3 W D s.1 s.2 h0 hD hc h9
  · exact odds_4 W D s.1 s.2 h0 hD hc h9
  · exact odds_5 W D s.1 s.2 h0 hD hc h9
  · exact odds_6 W D s.1 s.2 h0 hD hc h9
  · exact odds_7 W D s.1 s.2 h0 hD hc h9
  · exact odds_8 W D s.1 s.2 h0 hD hc h9
#print axioms odds_any
end Go.Proofs.YtccbhblklhmcpaaGreatDoor
