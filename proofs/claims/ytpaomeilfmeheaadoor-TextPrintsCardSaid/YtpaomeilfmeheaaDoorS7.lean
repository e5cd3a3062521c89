/- The document's texts of intervals: nine ways. No condition but that bounds may be. -/
import Derived.Test.YtpaomeilfmeheaaDoorS6
namespace Go.Proofs.YtpaomeilfmeheaaDoor
set_option linter.unusedSimpArgs false
set_option linter.unusedVariables false
open Go Go.RowKit Go.Shelf
attribute [local go_sem] Nat.add_assoc Nat.add_lt_add_iff_left lit_lt_add

theorem ext_one (x : UInt8) (l : List UInt8) : (bs (x :: l)).extract 1 (bs (x :: l)).size = bs l := by
  rw [Lib.extract_eq, bs_list, bs_size]
  simp
set_option maxRecDepth 10000 in
set_option maxHeartbeats 2000000 in
theorem iv_no_no (lo hi : Int) (h1 : lo = noneB) (h2 : hi = noneB) (w : World) : Calls Tryd.prog 35 #[.int .i64 lo, .int .i64 hi] w (Gives w (.string (bs (ivT lo hi)))) := by
  have d1 : (lo != 9223372036854775807) = false := by rw [bne_eq_false_iff_eq]; exact h1
  have d2 : (hi == 9223372036854775807) = true := by rw [beq_iff_eq]; exact h2
  have HE0 : bs (ivT lo hi) = bs [40, 45, 111, 111, 44] ++ bs [111, 111, 41] := by
    simp only [bs_app]
    congr 1
    unfold ivT lowT highT
    rw [if_pos h1, if_pos h2]
    simp
  have HE : Hid (bs (ivT lo hi) = (ByteArray.mk #[40, 45, 111, 111, 44]) ++ (ByteArray.mk #[111, 111, 41])) := HE0
  have s0 : (ByteArray.mk #[40, 45, 111, 111, 44]).size = 5 := rfl
  have s1 : (ByteArray.mk #[40]).size = 1 := rfl
  have s2 : (ByteArray.mk #[44]).size = 1 := rfl
  have s3 : (ByteArray.mk #[91]).size = 1 := rfl
  have s4 : (ByteArray.mk #[111, 111, 41]).size = 3 := rfl
  have s5 : (ByteArray.mk #[93]).size = 1 := rfl
  have s6 : (ByteArray.mk #[41]).size = 1 := rfl
  have k0 : ¬ 9223372036854775807 < ((ByteArray.mk #[40, 45, 111, 111, 44])).size + (ByteArray.mk #[111, 111, 41]).size := by (try simp only [ByteArray.size_append, ByteArray.size_extract]); omega
  clear HE0 s0 s1 s2 s3 s4 s5 s6 h1 h2
  go_enter Tryd.func35, Tryd.ntmps35
  go_wp2
  all_goals
    go_ret
    exact gives_end (by rw [HE.out]; rfl) (by (repeat' (first | (with_reducible assumption) | (with_reducible exact Below.refl _ _) | (with_reducible refine below_wov ?_ ?_ _) | (with_reducible refine below_drewN ?_ _) | (with_reducible refine Below.drew ?_) | (with_reducible refine Below.alloc ?_ ?_ _) | (with_reducible refine Below.setCell ?_ ?_ _) | (with_reducible exact Nat.le_refl _) | omega | (simp only [World.size_alloc, World.size_setCell, World.size_drew, Wov_size, World.heap_drewN]; omega))))
set_option maxRecDepth 10000 in
set_option maxHeartbeats 2000000 in
theorem iv_no_out (lo hi : Int) (h1 : lo = noneB) (h2 : hi ≠ noneB) (g2 : -288230376151711744 ≤ hi / 2 ∧ hi / 2 ≤ 288230376151711744) (m2 : ¬ hi % 2 = 1) (w : World) : Calls Tryd.prog 35 #[.int .i64 lo, .int .i64 hi] w (Gives w (.string (bs (ivT lo hi)))) := by
  have d1 : (lo != 9223372036854775807) = false := by rw [bne_eq_false_iff_eq]; exact h1
  have d2 : (hi == 9223372036854775807) = false := by rw [beq_eq_false_iff_ne]; exact h2
  have FH : Hid (∀ w, Calls Tryd.prog 58 #[.int .i64 hi] w (Gives w (.tuple #[.int .i64 (hi / 2), .bool false]))) := by
    have := floor31_any hi (by omega) (by omega)
    rw [decide_eq_false m2] at this; exact this
  have TH : Hid (∀ w, Calls Tryd.prog 59 #[.int .i64 (hi / 2)] w (Gives w (.string (bs (Lib.itoa (hi / 2)))))) := tens_any _ (by omega) (by omega)
  have z2 : (bs (Lib.itoa (hi / 2))).size ≤ 100 := by rw [bs_size]; exact itoa_len (by omega) (by omega)
  have HE0 : bs (ivT lo hi) = bs [40, 45, 111, 111, 44] ++ bs (Lib.itoa (hi / 2)) ++ bs [41] := by
    simp only [bs_app]
    congr 1
    unfold ivT lowT highT
    rw [if_pos h1, if_neg h2, if_neg m2]
    simp
  obtain ⟨b2, hb2⟩ : ∃ b, b = bs (Lib.itoa (hi / 2)) := ⟨_, rfl⟩
  rw [← hb2] at TH z2 HE0
  have HE : Hid (bs (ivT lo hi) = (ByteArray.mk #[40, 45, 111, 111, 44]) ++ b2 ++ (ByteArray.mk #[41])) := HE0
  have s0 : (ByteArray.mk #[40, 45, 111, 111, 44]).size = 5 := rfl
  have s1 : (ByteArray.mk #[40]).size = 1 := rfl
  have s2 : (ByteArray.mk #[44]).size = 1 := rfl
  have s3 : (ByteArray.mk #[91]).size = 1 := rfl
  have s4 : (ByteArray.mk #[111, 111, 41]).size = 3 := rfl
  have s5 : (ByteArray.mk #[93]).size = 1 := rfl
  have s6 : (ByteArray.mk #[41]).size = 1 := rfl
  have k0 : ¬ 9223372036854775807 < ((ByteArray.mk #[40, 45, 111, 111, 44])).size + (b2).size := by (try simp only [ByteArray.size_append, ByteArray.size_extract]); omega
  have k1 : ¬ 9223372036854775807 < ((ByteArray.mk #[40, 45, 111, 111, 44]) ++ b2).size + (ByteArray.mk #[41]).size := by (try simp only [ByteArray.size_append, ByteArray.size_extract]); omega
  clear HE0 s0 s1 s2 s3 s4 s5 s6 h1 h2 hb2 g2 m2 z2
  go_enter Tryd.func35, Tryd.ntmps35
  go_wp2_with (fail)
  refine (FH.out _).mono ?_; rintro e w' ⟨rfl, p3, rfl⟩
  go_wp2_with (fail)
  refine (TH.out _).mono ?_; rintro e w' ⟨rfl, p4, rfl⟩
  go_wp2
  all_goals
    go_ret
    exact gives_end (by rw [HE.out]; rfl) (by (repeat' (first | (with_reducible assumption) | (with_reducible exact Below.refl _ _) | (with_reducible refine below_wov ?_ ?_ _) | (with_reducible refine below_drewN ?_ _) | (with_reducible refine Below.drew ?_) | (with_reducible refine Below.alloc ?_ ?_ _) | (with_reducible refine Below.setCell ?_ ?_ _) | (with_reducible exact Nat.le_refl _) | omega | (simp only [World.size_alloc, World.size_setCell, World.size_drew, Wov_size, World.heap_drewN]; omega))))
set_option maxRecDepth 10000 in
set_option maxHeartbeats 2000000 in
theorem iv_no_inn (lo hi : Int) (h1 : lo = noneB) (h2 : hi ≠ noneB) (g2 : -288230376151711744 ≤ hi / 2 ∧ hi / 2 ≤ 288230376151711744) (m2 : hi % 2 = 1) (w : World) : Calls Tryd.prog 35 #[.int .i64 lo, .int .i64 hi] w (Gives w (.string (bs (ivT lo hi)))) := by
  have d1 : (lo != 9223372036854775807) = false := by rw [bne_eq_false_iff_eq]; exact h1
  have d2 : (hi == 9223372036854775807) = false := by rw [beq_eq_false_iff_ne]; exact h2
  have FH : Hid (∀ w, Calls Tryd.prog 58 #[.int .i64 hi] w (Gives w (.tuple #[.int .i64 (hi / 2), .bool true]))) := by
    have := floor31_any hi (by omega) (by omega)
    rw [decide_eq_true m2] at this; exact this
  have TH : Hid (∀ w, Calls Tryd.prog 59 #[.int .i64 (hi / 2)] w (Gives w (.string (bs (Lib.itoa (hi / 2)))))) := tens_any _ (by omega) (by omega)
  have z2 : (bs (Lib.itoa (hi / 2))).size ≤ 100 := by rw [bs_size]; exact itoa_len (by omega) (by omega)
  have HE0 : bs (ivT lo hi) = bs [40, 45, 111, 111, 44] ++ bs (Lib.itoa (hi / 2)) ++ bs [93] := by
    simp only [bs_app]
    congr 1
    unfold ivT lowT highT
    rw [if_pos h1, if_neg h2, if_pos m2]
    simp
  obtain ⟨b2, hb2⟩ : ∃ b, b = bs (Lib.itoa (hi / 2)) := ⟨_, rfl⟩
  rw [← hb2] at TH z2 HE0
  have HE : Hid (bs (ivT lo hi) = (ByteArray.mk #[40, 45, 111, 111, 44]) ++ b2 ++ (ByteArray.mk #[93])) := HE0
  have s0 : (ByteArray.mk #[40, 45, 111, 111, 44]).size = 5 := rfl
  have s1 : (ByteArray.mk #[40]).size = 1 := rfl
  have s2 : (ByteArray.mk #[44]).size = 1 := rfl
  have s3 : (ByteArray.mk #[91]).size = 1 := rfl
  have s4 : (ByteArray.mk #[111, 111, 41]).size = 3 := rfl
  have s5 : (ByteArray.mk #[93]).size = 1 := rfl
  have s6 : (ByteArray.mk #[41]).size = 1 := rfl
  have k0 : ¬ 9223372036854775807 < ((ByteArray.mk #[40, 45, 111, 111, 44])).size + (b2).size := by (try simp only [ByteArray.size_append, ByteArray.size_extract]); omega
  have k1 : ¬ 9223372036854775807 < ((ByteArray.mk #[40, 45, 111, 111, 44]) ++ b2).size + (ByteArray.mk #[93]).size := by (try simp only [ByteArray.size_append, ByteArray.size_extract]); omega
  clear HE0 s0 s1 s2 s3 s4 s5 s6 h1 h2 hb2 g2 m2 z2
  go_enter Tryd.func35, Tryd.ntmps35
  go_wp2_with (fail)
  refine (FH.out _).mono ?_; rintro e w' ⟨rfl, p3, rfl⟩
  go_wp2_with (fail)
  refine (TH.out _).mono ?_; rintro e w' ⟨rfl, p4, rfl⟩
  go_wp2
  all_goals
    go_ret
    exact gives_end (by rw [HE.out]; rfl) (by (repeat' (first | (with_reducible assumption) | (with_reducible exact Below.refl _ _) | (with_reducible refine below_wov ?_ ?_ _) | (with_reducible refine below_drewN ?_ _) | (with_reducible refine Below.drew ?_) | (with_reducible refine Below.alloc ?_ ?_ _) | (with_reducible refine Below.setCell ?_ ?_ _) | (with_reducible exact Nat.le_refl _) | omega | (simp only [World.size_alloc, World.size_setCell, World.size_drew, Wov_size, World.heap_drewN]; omega))))
set_option maxRecDepth 10000 in
set_option maxHeartbeats 2000000 in
theorem iv_out_no (lo hi : Int) (h1 : lo ≠ noneB) (g1 : -288230376151711744 ≤ lo / 2 ∧ lo / 2 ≤ 288230376151711744) (m1 : ¬ lo % 2 = 1) (h2 : hi = noneB) (w : World) : Calls Tryd.prog 35 #[.int .i64 lo, .int .i64 hi] w (Gives w (.string (bs (ivT lo hi)))) := by
  have d1 : (lo != 9223372036854775807) = true := by rw [bne_iff_ne]; exact h1
  have FL : Hid (∀ w, Calls Tryd.prog 58 #[.int .i64 lo] w (Gives w (.tuple #[.int .i64 (lo / 2), .bool false]))) := by
    have := floor31_any lo (by omega) (by omega)
    rw [decide_eq_false m1] at this; exact this
  have TL : Hid (∀ w, Calls Tryd.prog 59 #[.int .i64 (-(lo / 2))] w (Gives w (.string (bs (Lib.itoa (-(lo / 2))))))) := tens_any _ (by omega) (by omega)
  have z1 : (bs (Lib.itoa (-(lo / 2)))).size ≤ 100 := by rw [bs_size]; exact itoa_len (by omega) (by omega)
  have n1 : wrap64 (-(lo / 2)) = -(lo / 2) := wrap64_id (by omega) (by omega)
  have d2 : (hi == 9223372036854775807) = true := by rw [beq_iff_eq]; exact h2
  have HE0 : bs (ivT lo hi) = bs [40] ++ bs (Lib.itoa (-(lo / 2))) ++ bs [44] ++ bs [111, 111, 41] := by
    simp only [bs_app]
    congr 1
    unfold ivT lowT highT
    rw [if_neg h1, if_neg m1, if_pos h2]
    simp
  obtain ⟨b1, hb1⟩ : ∃ b, b = bs (Lib.itoa (-(lo / 2))) := ⟨_, rfl⟩
  rw [← hb1] at TL z1 HE0
  have HE : Hid (bs (ivT lo hi) = (ByteArray.mk #[40]) ++ b1 ++ (ByteArray.mk #[44]) ++ (ByteArray.mk #[111, 111, 41])) := HE0
  have s0 : (ByteArray.mk #[40, 45, 111, 111, 44]).size = 5 := rfl
  have s1 : (ByteArray.mk #[40]).size = 1 := rfl
  have s2 : (ByteArray.mk #[44]).size = 1 := rfl
  have s3 : (ByteArray.mk #[91]).size = 1 := rfl
  have s4 : (ByteArray.mk #[111, 111, 41]).size = 3 := rfl
  have s5 : (ByteArray.mk #[93]).size = 1 := rfl
  have s6 : (ByteArray.mk #[41]).size = 1 := rfl
  have k0 : ¬ 9223372036854775807 < (ByteArray.mk #[40]).size + (b1).size := by (try simp only [ByteArray.size_append, ByteArray.size_extract]); omega
  have k1 : ¬ 9223372036854775807 < ((ByteArray.mk #[40]) ++ b1).size + (ByteArray.mk #[44]).size := by (try simp only [ByteArray.size_append, ByteArray.size_extract]); omega
  have k2 : ¬ 9223372036854775807 < ((ByteArray.mk #[40]) ++ b1 ++ (ByteArray.mk #[44])).size + (ByteArray.mk #[111, 111, 41]).size := by (try simp only [ByteArray.size_append, ByteArray.size_extract]); omega
  clear HE0 s0 s1 s2 s3 s4 s5 s6 h1 h2 hb1 g1 m1 z1
  go_enter Tryd.func35, Tryd.ntmps35
  go_wp2_with (fail)
  refine (FL.out _).mono ?_; rintro e w' ⟨rfl, p1, rfl⟩
  go_wp2_with (fail)
  refine (TL.out _).mono ?_; rintro e w' ⟨rfl, p2, rfl⟩
  go_wp2
  all_goals
    go_ret
    exact gives_end (by rw [HE.out]; rfl) (by (repeat' (first | (with_reducible assumption) | (with_reducible exact Below.refl _ _) | (with_reducible refine below_wov ?_ ?_ _) | (with_reducible refine below_drewN ?_ _) | (with_reducible refine Below.drew ?_) | (with_reducible refine Below.alloc ?_ ?_ _) | (with_reducible refine Below.setCell ?_ ?_ _) | (with_reducible exact Nat.le_refl _) | omega | (simp only [World.size_alloc, World.size_setCell, World.size_drew, Wov_size, World.heap_drewN]; omega))))
set_option maxRecDepth 10000 in
set_option maxHeartbeats 2000000 in
theorem iv_out_out (lo hi : Int) (h1 : lo ≠ noneB) (g1 : -288230376151711744 ≤ lo / 2 ∧ lo / 2 ≤ 288230376151711744) (m1 : ¬ lo % 2 = 1) (h2 : hi ≠ noneB) (g2 : -288230376151711744 ≤ hi / 2 ∧ hi / 2 ≤ 288230376151711744) (m2 : ¬ hi % 2 = 1) (w : World) : Calls Tryd.prog 35 #[.int .i64 lo, .int .i64 hi] w (Gives w (.string (bs (ivT lo hi)))) := by
  have d1 : (lo != 9223372036854775807) = true := by rw [bne_iff_ne]; exact h1
  have FL : Hid (∀ w, Calls Tryd.prog 58 #[.int .i64 lo] w (Gives w (.tuple #[.int .i64 (lo / 2), .bool false]))) := by
    have := floor31_any lo (by omega) (by omega)
    rw [decide_eq_false m1] at this; exact this
  have TL : Hid (∀ w, Calls Tryd.prog 59 #[.int .i64 (-(lo / 2))] w (Gives w (.string (bs (Lib.itoa (-(lo / 2))))))) := tens_any _ (by omega) (by omega)
  have z1 : (bs (Lib.itoa (-(lo / 2)))).size ≤ 100 := by rw [bs_size]; exact itoa_len (by omega) (by omega)
  have n1 : wrap64 (-(lo / 2)) = -(lo / 2) := wrap64_id (by omega) (by omega)
  have d2 : (hi == 9223372036854775807) = false := by rw [beq_eq_false_iff_ne]; exact h2
  have FH : Hid (∀ w, Calls Tryd.prog 58 #[.int .i64 hi] w (Gives w (.tuple #[.int .i64 (hi / 2), .bool false]))) := by
    have := floor31_any hi (by omega) (by omega)
    rw [decide_eq_false m2] at this; exact this
  have TH : Hid (∀ w, Calls Tryd.prog 59 #[.int .i64 (hi / 2)] w (Gives w (.string (bs (Lib.itoa (hi / 2)))))) := tens_any _ (by omega) (by omega)
  have z2 : (bs (Lib.itoa (hi / 2))).size ≤ 100 := by rw [bs_size]; exact itoa_len (by omega) (by omega)
  have HE0 : bs (ivT lo hi) = bs [40] ++ bs (Lib.itoa (-(lo / 2))) ++ bs [44] ++ bs (Lib.itoa (hi / 2)) ++ bs [41] := by
    simp only [bs_app]
    congr 1
    unfold ivT lowT highT
    rw [if_neg h1, if_neg m1, if_neg h2, if_neg m2]
    simp
  obtain ⟨b1, hb1⟩ : ∃ b, b = bs (Lib.itoa (-(lo / 2))) := ⟨_, rfl⟩
  rw [← hb1] at TL z1 HE0
  obtain ⟨b2, hb2⟩ : ∃ b, b = bs (Lib.itoa (hi / 2)) := ⟨_, rfl⟩
  rw [← hb2] at TH z2 HE0
  have HE : Hid (bs (ivT lo hi) = (ByteArray.mk #[40]) ++ b1 ++ (ByteArray.mk #[44]) ++ b2 ++ (ByteArray.mk #[41])) := HE0
  have s0 : (ByteArray.mk #[40, 45, 111, 111, 44]).size = 5 := rfl
  have s1 : (ByteArray.mk #[40]).size = 1 := rfl
  have s2 : (ByteArray.mk #[44]).size = 1 := rfl
  have s3 : (ByteArray.mk #[91]).size = 1 := rfl
  have s4 : (ByteArray.mk #[111, 111, 41]).size = 3 := rfl
  have s5 : (ByteArray.mk #[93]).size = 1 := rfl
  have s6 : (ByteArray.mk #[41]).size = 1 := rfl
  have k0 : ¬ 9223372036854775807 < (ByteArray.mk #[40]).size + (b1).size := by (try simp only [ByteArray.size_append, ByteArray.size_extract]); omega
  have k1 : ¬ 9223372036854775807 < ((ByteArray.mk #[40]) ++ b1).size + (ByteArray.mk #[44]).size := by (try simp only [ByteArray.size_append, ByteArray.size_extract]); omega
  have k2 : ¬ 9223372036854775807 < ((ByteArray.mk #[40]) ++ b1 ++ (ByteArray.mk #[44])).size + (b2).size := by (try simp only [ByteArray.size_append, ByteArray.size_extract]); omega
  have k3 : ¬ 9223372036854775807 < ((ByteArray.mk #[40]) ++ b1 ++ (ByteArray.mk #[44]) ++ b2).size + (ByteArray.mk #[41]).size := by (try simp only [ByteArray.size_append, ByteArray.size_extract]); omega
  clear HE0 s0 s1 s2 s3 s4 s5 s6 h1 h2 hb1 g1 m1 z1 hb2 g2 m2 z2
  go_enter Tryd.func35, Tryd.ntmps35
  go_wp2_with (fail)
  refine (FL.out _).mono ?_; rintro e w' ⟨rfl, p1, rfl⟩
  go_wp2_with (fail)
  refine (TL.out _).mono ?_; rintro e w' ⟨rfl, p2, rfl⟩
  go_wp2_with (fail)
  refine (FH.out _).mono ?_; rintro e w' ⟨rfl, p3, rfl⟩
  go_wp2_with (fail)
  refine (TH.out _).mono ?_; rintro e w' ⟨rfl, p4, rfl⟩
  go_wp2
  all_goals
    go_ret
    exact gives_end (by rw [HE.out]; rfl) (by (repeat' (first | (with_reducible assumption) | (with_reducible exact Below.refl _ _) | (with_reducible refine below_wov ?_ ?_ _) | (with_reducible refine below_drewN ?_ _) | (with_reducible refine Below.drew ?_) | (with_reducible refine Below.alloc ?_ ?_ _) | (with_reducible refine Below.setCell ?_ ?_ _) | (with_reducible exact Nat.le_refl _) | omega | (simp only [World.size_alloc, World.size_setCell, World.size_drew, Wov_size, World.heap_drewN]; omega))))
set_option maxRecDepth 10000 in
set_option maxHeartbeats 2000000 in
theorem iv_out_inn (lo hi : Int) (h1 : lo ≠ noneB) (g1 : -288230376151711744 ≤ lo / 2 ∧ lo / 2 ≤ 288230376151711744) (m1 : ¬ lo % 2 = 1) (h2 : hi ≠ noneB) (g2 : -288230376151711744 ≤ hi / 2 ∧ hi / 2 ≤ 288230376151711744) (m2 : hi % 2 = 1) (w : World) : Calls Tryd.prog 35 #[.int .i64 lo, .int .i64 hi] w (Gives w (.string (bs (ivT lo hi)))) := by
  have d1 : (lo != 9223372036854775807) = true := by rw [bne_iff_ne]; exact h1
  have FL : Hid (∀ w, Calls Tryd.prog 58 #[.int .i64 lo] w (Gives w (.tuple #[.int .i64 (lo / 2), .bool false]))) := by
    have := floor31_any lo (by omega) (by omega)
    rw [decide_eq_false m1] at this; exact this
  have TL : Hid (∀ w, Calls Tryd.prog 59 #[.int .i64 (-(lo / 2))] w (Gives w (.string (bs (Lib.itoa (-(lo / 2))))))) := tens_any _ (by omega) (by omega)
  have z1 : (bs (Lib.itoa (-(lo / 2)))).size ≤ 100 := by rw [bs_size]; exact itoa_len (by omega) (by omega)
  have n1 : wrap64 (-(lo / 2)) = -(lo / 2) := wrap64_id (by omega) (by omega)
  have d2 : (hi == 9223372036854775807) = false := by rw [beq_eq_false_iff_ne]; exact h2
  have FH : Hid (∀ w, Calls Tryd.prog 58 #[.int .i64 hi] w (Gives w (.tuple #[.int .i64 (hi / 2), .bool true]))) := by
    have := floor31_any hi (by omega) (by omega)
    rw [decide_eq_true m2] at this; exact this
  have TH : Hid (∀ w, Calls Tryd.prog 59 #[.int .i64 (hi / 2)] w (Gives w (.string (bs (Lib.itoa (hi / 2)))))) := tens_any _ (by omega) (by omega)
  have z2 : (bs (Lib.itoa (hi / 2))).size ≤ 100 := by rw [bs_size]; exact itoa_len (by omega) (by omega)
  have HE0 : bs (ivT lo hi) = bs [40] ++ bs (Lib.itoa (-(lo / 2))) ++ bs [44] ++ bs (Lib.itoa (hi / 2)) ++ bs [93] := by
    simp only [bs_app]
    congr 1
    unfold ivT lowT highT
    rw [if_neg h1, if_neg m1, if_neg h2, if_pos m2]
    simp
  obtain ⟨b1, hb1⟩ : ∃ b, b = bs (Lib.itoa (-(lo / 2))) := ⟨_, rfl⟩
  rw [← hb1] at TL z1 HE0
  obtain ⟨b2, hb2⟩ : ∃ b, b = bs (Lib.itoa (hi / 2)) := ⟨_, rfl⟩
  rw [← hb2] at TH z2 HE0
  have HE : Hid (bs (ivT lo hi) = (ByteArray.mk #[40]) ++ b1 ++ (ByteArray.mk #[44]) ++ b2 ++ (ByteArray.mk #[93])) := HE0
  have s0 : (ByteArray.mk #[40, 45, 111, 111, 44]).size = 5 := rfl
  have s1 : (ByteArray.mk #[40]).size = 1 := rfl
  have s2 : (ByteArray.mk #[44]).size = 1 := rfl
  have s3 : (ByteArray.mk #[91]).size = 1 := rfl
  have s4 : (ByteArray.mk #[111, 111, 41]).size = 3 := rfl
  have s5 : (ByteArray.mk #[93]).size = 1 := rfl
  have s6 : (ByteArray.mk #[41]).size = 1 := rfl
  have k0 : ¬ 9223372036854775807 < (ByteArray.mk #[40]).size + (b1).size := by (try simp only [ByteArray.size_append, ByteArray.size_extract]); omega
  have k1 : ¬ 9223372036854775807 < ((ByteArray.mk #[40]) ++ b1).size + (ByteArray.mk #[44]).size := by (try simp only [ByteArray.size_append, ByteArray.size_extract]); omega
  have k2 : ¬ 9223372036854775807 < ((ByteArray.mk #[40]) ++ b1 ++ (ByteArray.mk #[44])).size + (b2).size := by (try simp only [ByteArray.size_append, ByteArray.size_extract]); omega
  have k3 : ¬ 9223372036854775807 < ((ByteArray.mk #[40]) ++ b1 ++ (ByteArray.mk #[44]) ++ b2).size + (ByteArray.mk #[93]).size := by (try simp only [ByteArray.size_append, ByteArray.size_extract]); omega
  clear HE0 s0 s1 s2 s3 s4 s5 s6 h1 h2 hb1 g1 m1 z1 hb2 g2 m2 z2
  go_enter Tryd.func35, Tryd.ntmps35
  go_wp2_with (fail)
  refine (FL.out _).mono ?_; rintro e w' ⟨rfl, p1, rfl⟩
  go_wp2_with (fail)
  refine (TL.out _).mono ?_; rintro e w' ⟨rfl, p2, rfl⟩
  go_wp2_with (fail)
  refine (FH.out _).mono ?_; rintro e w' ⟨rfl, p3, rfl⟩
  go_wp2_with (fail)
  refine (TH.out _).mono ?_; rintro e w' ⟨rfl, p4, rfl⟩
  go_wp2
  all_goals
    go_ret
    exact gives_end (by rw [HE.out]; rfl) (by (repeat' (first | (with_reducible assumption) | (with_reducible exact Below.refl _ _) | (with_reducible refine below_wov ?_ ?_ _) | (with_reducible refine below_drewN ?_ _) | (with_reducible refine Below.drew ?_) | (with_reducible refine Below.alloc ?_ ?_ _) | (with_reducible refine Below.setCell ?_ ?_ _) | (with_reducible exact Nat.le_refl _) | omega | (simp only [World.size_alloc, World.size_setCell, World.size_drew, Wov_size, World.heap_drewN]; omega))))
set_option maxRecDepth 10000 in
set_option maxHeartbeats 2000000 in
theorem iv_inn_no (lo hi : Int) (h1 : lo ≠ noneB) (g1 : -288230376151711744 ≤ lo / 2 ∧ lo / 2 ≤ 288230376151711744) (m1 : lo % 2 = 1) (h2 : hi = noneB) (w : World) : Calls Tryd.prog 35 #[.int .i64 lo, .int .i64 hi] w (Gives w (.string (bs (ivT lo hi)))) := by
  have d1 : (lo != 9223372036854775807) = true := by rw [bne_iff_ne]; exact h1
  have FL : Hid (∀ w, Calls Tryd.prog 58 #[.int .i64 lo] w (Gives w (.tuple #[.int .i64 (lo / 2), .bool true]))) := by
    have := floor31_any lo (by omega) (by omega)
    rw [decide_eq_true m1] at this; exact this
  have TL : Hid (∀ w, Calls Tryd.prog 59 #[.int .i64 (-(lo / 2))] w (Gives w (.string (bs (Lib.itoa (-(lo / 2))))))) := tens_any _ (by omega) (by omega)
  have z1 : (bs (Lib.itoa (-(lo / 2)))).size ≤ 100 := by rw [bs_size]; exact itoa_len (by omega) (by omega)
  have n1 : wrap64 (-(lo / 2)) = -(lo / 2) := wrap64_id (by omega) (by omega)
  have d2 : (hi == 9223372036854775807) = true := by rw [beq_iff_eq]; exact h2
  have HE0 : bs (ivT lo hi) = bs [91] ++ (bs [40] ++ bs (Lib.itoa (-(lo / 2))) ++ bs [44]).extract 1 (bs [40] ++ bs (Lib.itoa (-(lo / 2))) ++ bs [44]).size ++ bs [111, 111, 41] := by
    rw [show (bs [40] ++ bs (Lib.itoa (-(lo / 2))) ++ bs [44]).extract 1 (bs [40] ++ bs (Lib.itoa (-(lo / 2))) ++ bs [44]).size = bs (Lib.itoa (-(lo / 2)) ++ [44]) from by
      rw [bs_app, bs_app]
      exact ext_one 40 _]
    simp only [bs_app]
    congr 1
    unfold ivT lowT highT
    rw [if_neg h1, if_pos m1, if_pos h2]
    simp
  obtain ⟨b1, hb1⟩ : ∃ b, b = bs (Lib.itoa (-(lo / 2))) := ⟨_, rfl⟩
  rw [← hb1] at TL z1 HE0
  have hz : ((ByteArray.mk #[40]) ++ b1 ++ (ByteArray.mk #[44])).size = 1 + (b1.size + 1) := by rw [ByteArray.size_append, ByteArray.size_append]; show 1 + b1.size + 1 = _; omega
  have HE1 : bs (ivT lo hi) = (ByteArray.mk #[91]) ++ ((ByteArray.mk #[40]) ++ b1 ++ (ByteArray.mk #[44])).extract 1 ((ByteArray.mk #[40]) ++ b1 ++ (ByteArray.mk #[44])).size ++ (ByteArray.mk #[111, 111, 41]) := HE0
  rw [hz] at HE1
  have HE : Hid (bs (ivT lo hi) = (ByteArray.mk #[91]) ++ ((ByteArray.mk #[40]) ++ b1 ++ (ByteArray.mk #[44])).extract 1 (1 + (b1.size + 1)) ++ (ByteArray.mk #[111, 111, 41])) := HE1
  clear HE1 hz
  have s0 : (ByteArray.mk #[40, 45, 111, 111, 44]).size = 5 := rfl
  have s1 : (ByteArray.mk #[40]).size = 1 := rfl
  have s2 : (ByteArray.mk #[44]).size = 1 := rfl
  have s3 : (ByteArray.mk #[91]).size = 1 := rfl
  have s4 : (ByteArray.mk #[111, 111, 41]).size = 3 := rfl
  have s5 : (ByteArray.mk #[93]).size = 1 := rfl
  have s6 : (ByteArray.mk #[41]).size = 1 := rfl
  have k0 : ¬ 9223372036854775807 < (ByteArray.mk #[40]).size + (b1).size := by (try simp only [ByteArray.size_append, ByteArray.size_extract]); omega
  have k1 : ¬ 9223372036854775807 < ((ByteArray.mk #[40]) ++ b1).size + (ByteArray.mk #[44]).size := by (try simp only [ByteArray.size_append, ByteArray.size_extract]); omega
  have k2 : ¬ 9223372036854775807 < (ByteArray.mk #[91]).size + (((ByteArray.mk #[40]) ++ b1 ++ (ByteArray.mk #[44])).extract 1 ((ByteArray.mk #[40]) ++ b1 ++ (ByteArray.mk #[44])).size).size := by (try simp only [ByteArray.size_append, ByteArray.size_extract]); omega
  have k3 : ¬ 9223372036854775807 < ((ByteArray.mk #[91]) ++ ((ByteArray.mk #[40]) ++ b1 ++ (ByteArray.mk #[44])).extract 1 ((ByteArray.mk #[40]) ++ b1 ++ (ByteArray.mk #[44])).size).size + (ByteArray.mk #[111, 111, 41]).size := by (try simp only [ByteArray.size_append, ByteArray.size_extract]); omega
  have j1 : ¬ 9223372036854775807 < 1 + (b1.size + 1) := by omega
  have j2 : ¬ 9223372036854775807 < 1 + (b1.size + 4) := by omega
  have e1 : 1 ≤ ((ByteArray.mk #[40]) ++ b1 ++ (ByteArray.mk #[44])).size := by simp only [ByteArray.size_append]; omega
  clear HE0 s0 s1 s2 s3 s4 s5 s6 h1 h2 hb1 g1 m1 z1
  go_enter Tryd.func35, Tryd.ntmps35
  go_wp2_with (fail)
  refine (FL.out _).mono ?_; rintro e w' ⟨rfl, p1, rfl⟩
  go_wp2_with (fail)
  refine (TL.out _).mono ?_; rintro e w' ⟨rfl, p2, rfl⟩
  go_wp2
  all_goals
    go_ret
    exact gives_end (by rw [HE.out]; rfl) (by (repeat' (first | (with_reducible assumption) | (with_reducible exact Below.refl _ _) | (with_reducible refine below_wov ?_ ?_ _) | (with_reducible refine below_drewN ?_ _) | (with_reducible refine Below.drew ?_) | (with_reducible refine Below.alloc ?_ ?_ _) | (with_reducible refine Below.setCell ?_ ?_ _) | (with_reducible exact Nat.le_refl _) | omega | (simp only [World.size_alloc, World.size_setCell, World.size_drew, Wov_size, World.heap_drewN]; omega))))
set_option maxRecDepth 10000 in
set_option maxHeartbeats 2000000 in
theorem iv_inn_out (lo hi : Int) (h1 : lo ≠ noneB) (g1 : -288230376151711744 ≤ lo / 2 ∧ lo / 2 ≤ 288230376151711744) (m1 : lo % 2 = 1) (h2 : hi ≠ noneB) (g2 : -288230376151711744 ≤ hi / 2 ∧ hi / 2 ≤ 288230376151711744) (m2 : ¬ hi % 2 = 1) (w : World) : Calls Tryd.prog 35 #[.int .i64 lo, .int .i64 hi] w (Gives w (.string (bs (ivT lo hi)))) := by
  have d1 : (lo != 9223372036854775807) = true := by rw [bne_iff_ne]; exact h1
  have FL : Hid (∀ w, Calls Tryd.prog 58 #[.int .i64 lo] w (Gives w (.tuple #[.int .i64 (lo / 2), .bool true]))) := by
    have := floor31_any lo (by omega) (by omega)
    rw [decide_eq_true m1] at this; exact this
  have TL : Hid (∀ w, Calls Tryd.prog 59 #[.int .i64 (-(lo / 2))] w (Gives w (.string (bs (Lib.itoa (-(lo / 2))))))) := tens_any _ (by omega) (by omega)
  have z1 : (bs (Lib.itoa (-(lo / 2)))).size ≤ 100 := by rw [bs_size]; exact itoa_len (by omega) (by omega)
  have n1 : wrap64 (-(lo / 2)) = -(lo / 2) := wrap64_id (by omega) (by omega)
  have d2 : (hi == 9223372036854775807) = false := by rw [beq_eq_false_iff_ne]; exact h2
  have FH : Hid (∀ w, Calls Tryd.prog 58 #[.int .i64 hi] w (Gives w (.tuple #[.int .i64 (hi / 2), .bool false]))) := by
    have := floor31_any hi (by omega) (by omega)
    rw [decide_eq_false m2] at this; exact this
  have TH : Hid (∀ w, Calls Tryd.prog 59 #[.int .i64 (hi / 2)] w (Gives w (.string (bs (Lib.itoa (hi / 2)))))) := tens_any _ (by omega) (by omega)
  have z2 : (bs (Lib.itoa (hi / 2))).size ≤ 100 := by rw [bs_size]; exact itoa_len (by omega) (by omega)
  have HE0 : bs (ivT lo hi) = bs [91] ++ (bs [40] ++ bs (Lib.itoa (-(lo / 2))) ++ bs [44]).extract 1 (bs [40] ++ bs (Lib.itoa (-(lo / 2))) ++ bs [44]).size ++ bs (Lib.itoa (hi / 2)) ++ bs [41] := by
    rw [show (bs [40] ++ bs (Lib.itoa (-(lo / 2))) ++ bs [44]).extract 1 (bs [40] ++ bs (Lib.itoa (-(lo / 2))) ++ bs [44]).size = bs (Lib.itoa (-(lo / 2)) ++ [44]) from by
      rw [bs_app, bs_app]
      exact ext_one 40 _]
    simp only [bs_app]
    congr 1
    unfold ivT lowT highT
    rw [if_neg h1, if_pos m1, if_neg h2, if_neg m2]
    simp
  obtain ⟨b1, hb1⟩ : ∃ b, b = bs (Lib.itoa (-(lo / 2))) := ⟨_, rfl⟩
  rw [← hb1] at TL z1 HE0
  obtain ⟨b2, hb2⟩ : ∃ b, b = bs (Lib.itoa (hi / 2)) := ⟨_, rfl⟩
  rw [← hb2] at TH z2 HE0
  have hz : ((ByteArray.mk #[40]) ++ b1 ++ (ByteArray.mk #[44])).size = 1 + (b1.size + 1) := by rw [ByteArray.size_append, ByteArray.size_append]; show 1 + b1.size + 1 = _; omega
  have HE1 : bs (ivT lo hi) = (ByteArray.mk #[91]) ++ ((ByteArray.mk #[40]) ++ b1 ++ (ByteArray.mk #[44])).extract 1 ((ByteArray.mk #[40]) ++ b1 ++ (ByteArray.mk #[44])).size ++ b2 ++ (ByteArray.mk #[41]) := HE0
  rw [hz] at HE1
  have HE : Hid (bs (ivT lo hi) = (ByteArray.mk #[91]) ++ ((ByteArray.mk #[40]) ++ b1 ++ (ByteArray.mk #[44])).extract 1 (1 + (b1.size + 1)) ++ b2 ++ (ByteArray.mk #[41])) := HE1
  clear HE1 hz
  have s0 : (ByteArray.mk #[40, 45, 111, 111, 44]).size = 5 := rfl
  have s1 : (ByteArray.mk #[40]).size = 1 := rfl
  have s2 : (ByteArray.mk #[44]).size = 1 := rfl
  have s3 : (ByteArray.mk #[91]).size = 1 := rfl
  have s4 : (ByteArray.mk #[111, 111, 41]).size = 3 := rfl
  have s5 : (ByteArray.mk #[93]).size = 1 := rfl
  have s6 : (ByteArray.mk #[41]).size = 1 := rfl
  have k0 : ¬ 9223372036854775807 < (ByteArray.mk #[40]).size + (b1).size := by (try simp only [ByteArray.size_append, ByteArray.size_extract]); omega
  have k1 : ¬ 9223372036854775807 < ((ByteArray.mk #[40]) ++ b1).size + (ByteArray.mk #[44]).size := by (try simp only [ByteArray.size_append, ByteArray.size_extract]); omega
  have k2 : ¬ 9223372036854775807 < (ByteArray.mk #[91]).size + (((ByteArray.mk #[40]) ++ b1 ++ (ByteArray.mk #[44])).extract 1 ((ByteArray.mk #[40]) ++ b1 ++ (ByteArray.mk #[44])).size).size := by (try simp only [ByteArray.size_append, ByteArray.size_extract]); omega
  have k3 : ¬ 9223372036854775807 < ((ByteArray.mk #[91]) ++ ((ByteArray.mk #[40]) ++ b1 ++ (ByteArray.mk #[44])).extract 1 ((ByteArray.mk #[40]) ++ b1 ++ (ByteArray.mk #[44])).size).size + (b2).size := by (try simp only [ByteArray.size_append, ByteArray.size_extract]); omega
  have k4 : ¬ 9223372036854775807 < ((ByteArray.mk #[91]) ++ ((ByteArray.mk #[40]) ++ b1 ++ (ByteArray.mk #[44])).extract 1 ((ByteArray.mk #[40]) ++ b1 ++ (ByteArray.mk #[44])).size ++ b2).size + (ByteArray.mk #[41]).size := by (try simp only [ByteArray.size_append, ByteArray.size_extract]); omega
  have j1 : ¬ 9223372036854775807 < 1 + (b1.size + 1) := by omega
  have j2 : ¬ 9223372036854775807 < 1 + (b1.size + (1 + b2.size)) := by omega
  have j3 : ¬ 9223372036854775807 < 1 + (b1.size + (1 + (b2.size + 1))) := by omega
  have e1 : 1 ≤ ((ByteArray.mk #[40]) ++ b1 ++ (ByteArray.mk #[44])).size := by simp only [ByteArray.size_append]; omega
  clear HE0 s0 s1 s2 s3 s4 s5 s6 h1 h2 hb1 g1 m1 z1 hb2 g2 m2 z2
  go_enter Tryd.func35, Tryd.ntmps35
  go_wp2_with (fail)
  refine (FL.out _).mono ?_; rintro e w' ⟨rfl, p1, rfl⟩
  go_wp2_with (fail)
  refine (TL.out _).mono ?_; rintro e w' ⟨rfl, p2, rfl⟩
  go_wp2_with (fail)
  refine (FH.out _).mono ?_; rintro e w' ⟨rfl, p3, rfl⟩
  go_wp2_with (fail)
  refine (TH.out _).mono ?_; rintro e w' ⟨rfl, p4, rfl⟩
  go_wp2
  all_goals
    go_ret
    exact gives_end (by rw [HE.out]; rfl) (by (repeat' (first | (with_reducible assumption) | (with_reducible exact Below.refl _ _) | (with_reducible refine below_wov ?_ ?_ _) | (with_reducible refine below_drewN ?_ _) | (with_reducible refine Below.drew ?_) | (with_reducible refine Below.alloc ?_ ?_ _) | (with_reducible refine Below.setCell ?_ ?_ _) | (with_reducible exact Nat.le_refl _) | omega | (simp only [World.size_alloc, World.size_setCell, World.size_drew, Wov_size, World.heap_drewN]; omega))))
set_option maxRecDepth 10000 in
set_option maxHeartbeats 2000000 in
theorem iv_inn_inn (lo hi : Int) (h1 : lo ≠ noneB) (g1 : -288230376151711744 ≤ lo / 2 ∧ lo / 2 ≤ 288230376151711744) (m1 : lo % 2 = 1) (h2 : hi ≠ noneB) (g2 : -288230376151711744 ≤ hi / 2 ∧ hi / 2 ≤ 288230376151711744) (m2 : hi % 2 = 1) (w : World) : Calls Tryd.prog 35 #[.int .i64 lo, .int .i64 hi] w (Gives w (.string (bs (ivT lo hi)))) := by
  have d1 : (lo != 9223372036854775807) = true := by rw [bne_iff_ne]; exact h1
  have FL : Hid (∀ w, Calls Tryd.prog 58 #[.int .i64 lo] w (Gives w (.tuple #[.int .i64 (lo / 2), .bool true]))) := by
    have := floor31_any lo (by omega) (by omega)
    rw [decide_eq_true m1] at this; exact this
  have TL : Hid (∀ w, Calls Tryd.prog 59 #[.int .i64 (-(lo / 2))] w (Gives w (.string (bs (Lib.itoa (-(lo / 2))))))) := tens_any _ (by omega) (by omega)
  have z1 : (bs (Lib.itoa (-(lo / 2)))).size ≤ 100 := by rw [bs_size]; exact itoa_len (by omega) (by omega)
  have n1 : wrap64 (-(lo / 2)) = -(lo / 2) := wrap64_id (by omega) (by omega)
  have d2 : (hi == 9223372036854775807) = false := by rw [beq_eq_false_iff_ne]; exact h2
  have FH : Hid (∀ w, Calls Tryd.prog 58 #[.int .i64 hi] w (Gives w (.tuple #[.int .i64 (hi / 2), .bool true]))) := by
    have := floor31_any hi (by omega) (by omega)
    rw [decide_eq_true m2] at this; exact this
  have TH : Hid (∀ w, Calls Tryd.prog 59 #[.int .i64 (hi / 2)] w (Gives w (.string (bs (Lib.itoa (hi / 2)))))) := tens_any _ (by omega) (by omega)
  have z2 : (bs (Lib.itoa (hi / 2))).size ≤ 100 := by rw [bs_size]; exact itoa_len (by omega) (by omega)
  have HE0 : bs (ivT lo hi) = bs [91] ++ (bs [40] ++ bs (Lib.itoa (-(lo / 2))) ++ bs [44]).extract 1 (bs [40] ++ bs (Lib.itoa (-(lo / 2))) ++ bs [44]).size ++ bs (Lib.itoa (hi / 2)) ++ bs [93] := by
    rw [show (bs [40] ++ bs (Lib.itoa (-(lo / 2))) ++ bs [44]).extract 1 (bs [40] ++ bs (Lib.itoa (-(lo / 2))) ++ bs [44]).size = bs (Lib.itoa (-(lo / 2)) ++ [44]) from by
      rw [bs_app, bs_app]
      exact ext_one 40 _]
    simp only [bs_app]
    congr 1
    unfold ivT lowT highT
    rw [if_neg h1, if_pos m1, if_neg h2, if_pos m2]
    simp
  obtain ⟨b1, hb1⟩ : ∃ b, b = bs (Lib.itoa (-(lo / 2))) := ⟨_, rfl⟩
  rw [← hb1] at TL z1 HE0
  obtain ⟨b2, hb2⟩ : ∃ b, b = bs (Lib.itoa (hi / 2)) := ⟨_, rfl⟩
  rw [← hb2] at TH z2 HE0
  have hz : ((ByteArray.mk #[40]) ++ b1 ++ (ByteArray.mk #[44])).size = 1 + (b1.size + 1) := by rw [ByteArray.size_append, ByteArray.size_append]; show 1 + b1.size + 1 = _; omega
  have HE1 : bs (ivT lo hi) = (ByteArray.mk #[91]) ++ ((ByteArray.mk #[40]) ++ b1 ++ (ByteArray.mk #[44])).extract 1 ((ByteArray.mk #[40]) ++ b1 ++ (ByteArray.mk #[44])).size ++ b2 ++ (ByteArray.mk #[93]) := HE0
  rw [hz] at HE1
  have HE : Hid (bs (ivT lo hi) = (ByteArray.mk #[91]) ++ ((ByteArray.mk #[40]) ++ b1 ++ (ByteArray.mk #[44])).extract 1 (1 + (b1.size + 1)) ++ b2 ++ (ByteArray.mk #[93])) := HE1
  clear HE1 hz
  have s0 : (ByteArray.mk #[40, 45, 111, 111, 44]).size = 5 := rfl
  have s1 : (ByteArray.mk #[40]).size = 1 := rfl
  have s2 : (ByteArray.mk #[44]).size = 1 := rfl
  have s3 : (ByteArray.mk #[91]).size = 1 := rfl
  have s4 : (ByteArray.mk #[111, 111, 41]).size = 3 := rfl
  have s5 : (ByteArray.mk #[93]).size = 1 := rfl
  have s6 : (ByteArray.mk #[41]).size = 1 := rfl
  have k0 : ¬ 9223372036854775807 < (ByteArray.mk #[40]).size + (b1).size := by (try simp only [ByteArray.size_append, ByteArray.size_extract]); omega
  have k1 : ¬ 9223372036854775807 < ((ByteArray.mk #[40]) ++ b1).size + (ByteArray.mk #[44]).size := by (try simp only [ByteArray.size_append, ByteArray.size_extract]); omega
  have k2 : ¬ 9223372036854775807 < (ByteArray.mk #[91]).size + (((ByteArray.mk #[40]) ++ b1 ++ (ByteArray.mk #[44])).extract 1 ((ByteArray.mk #[40]) ++ b1 ++ (ByteArray.mk #[44])).size).size := by (try simp only [ByteArray.size_append, ByteArray.size_extract]); omega
  have k3 : ¬ 9223372036854775807 < ((ByteArray.mk #[91]) ++ ((ByteArray.mk #[40]) ++ b1 ++ (ByteArray.mk #[44])).extract 1 ((ByteArray.mk #[40]) ++ b1 ++ (ByteArray.mk #[44])).size).size + (b2).size := by (try simp only [ByteArray.size_append, ByteArray.size_extract]); omega
  have k4 : ¬ 9223372036854775807 < ((ByteArray.mk #[91]) ++ ((ByteArray.mk #[40]) ++ b1 ++ (ByteArray.mk #[44])).extract 1 ((ByteArray.mk #[40]) ++ b1 ++ (ByteArray.mk #[44])).size ++ b2).size + (ByteArray.mk #[93]).size := by (try simp only [ByteArray.size_append, ByteArray.size_extract]); omega
  have j1 : ¬ 9223372036854775807 < 1 + (b1.size + 1) := by omega
  have j2 : ¬ 9223372036854775807 < 1 + (b1.size + (1 + b2.size)) := by omega
  have j3 : ¬ 9223372036854775807 < 1 + (b1.size + (1 + (b2.size + 1))) := by omega
  have e1 : 1 ≤ ((ByteArray.mk #[40]) ++ b1 ++ (ByteArray.mk #[44])).size := by simp only [ByteArray.size_append]; omega
  clear HE0 s0 s1 s2 s3 s4 s5 s6 h1 h2 hb1 g1 m1 z1 hb2 g2 m2 z2
  go_enter Tryd.func35, Tryd.ntmps35
  go_wp2_with (fail)
  refine (FL.out _).mono ?_; rintro e w' ⟨rfl, p1, rfl⟩
  go_wp2_with (fail)
  refine (TL.out _).mono ?_; rintro e w' ⟨rfl, p2, rfl⟩
  go_wp2_with (fail)
  refine (FH.out _).mono ?_; rintro e w' ⟨rfl, p3, rfl⟩
  go_wp2_with (fail)
  refine (TH.out _).mono ?_; rintro e w' ⟨rfl, p4, rfl⟩
  go_wp2
  all_goals
    go_ret
    exact gives_end (by rw [HE.out]; rfl) (by (repeat' (first | (with_reducible assumption) | (with_reducible exact Below.refl _ _) | (with_reducible refine below_wov ?_ ?_ _) | (with_reducible refine below_drewN ?_ _) | (with_reducible refine Below.drew ?_) | (with_reducible refine Below.alloc ?_ ?_ _) | (with_reducible refine Below.setCell ?_ ?_ _) | (with_reducible exact Nat.le_refl _) | omega | (simp only [World.size_alloc, World.size_setCell, World.size_drew, Wov_size, World.heap_drewN]; omega))))
theorem interval_any (lo hi : Int) (hl : mayB lo = true) (hh : mayB hi = true) (w : World) : Calls Tryd.prog 35 #[.int .i64 lo, .int .i64 hi] w (Gives w (.string (bs (ivT lo hi)))) := by
  by_cases h1 : lo = noneB
  · by_cases h2 : hi = noneB
    · exact iv_no_no lo hi h1 h2 w
    · have g2 : -288230376151711744 ≤ hi / 2 ∧ hi / 2 ≤ 288230376151711744 := (mayB_bd hh).resolve_left h2
      by_cases m2 : hi % 2 = 1
      · exact iv_no_inn lo hi h1 h2 g2 m2 w
      · exact iv_no_out lo hi h1 h2 g2 m2 w
  · have g1 : -288230376151711744 ≤ lo / 2 ∧ lo / 2 ≤ 288230376151711744 := (mayB_bd hl).resolve_left h1
    by_cases m1 : lo % 2 = 1
    · by_cases h2 : hi = noneB
      · exact iv_inn_no lo hi h1 g1 m1 h2 w
      · have g2 : -288230376151711744 ≤ hi / 2 ∧ hi / 2 ≤ 288230376151711744 := (mayB_bd hh).resolve_left h2
        by_cases m2 : hi % 2 = 1
        · exact iv_inn_inn lo hi h1 g1 m1 h2 g2 m2 w
        · exact iv_inn_out lo hi h1 g1 m1 h2 g2 m2 w
    · by_cases h2 : hi = noneB
      · exact iv_out_no lo hi h1 g1 m1 h2 w
      · have g2 : -288230376151711744 ≤ hi / 2 ∧ hi / 2 ≤ 288230376151711744 := (mayB_bd hh).resolve_left h2
        by_cases m2 : hi % 2 = 1
        · exact iv_out_inn lo hi h1 g1 m1 h2 g2 m2 w
        · exact iv_out_out lo hi h1 g1 m1 h2 g2 m2 w
#print axioms interval_any
end Go.Proofs.YtpaomeilfmeheaaDoor
