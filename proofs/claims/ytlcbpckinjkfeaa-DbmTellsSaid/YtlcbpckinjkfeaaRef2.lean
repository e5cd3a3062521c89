/- Contracts of the document's own functions on numbers and bounds (rallentandoref01, 02). No condition but that numbers are of their kind. -/
import Derived.Test.YtlcbpckinjkfeaaBound2
namespace Go.Proofs.Ytlcbpckinjkfeaa
set_option linter.unusedSimpArgs false
set_option linter.unusedVariables false
open Go Go.RowKit

set_option maxHeartbeats 400000 in
theorem ref1May_any (n : Int) (w : World) (h1 : -9223372036854775808 ≤ n) (h2 : n ≤ 9223372036854775807) :
    Calls Try.prog 179 #[.int .i64 n] w fun e w' => e = .returned (.bool (okN n)) ∧ w = w' := by
  by_cases ha : -2305843009213693952 ≤ n
  · go_enter Try.func179, Try.ntmps179
    go_wp2
    all_goals
      go_ret
      refine ⟨ret_bool ?_, rfl⟩
      rw [Bool.eq_iff_iff]; simp [okN]; try omega
  · have ha' : n < -2305843009213693952 := by omega
    go_enter Try.func179, Try.ntmps179
    go_wp2
    all_goals
      go_ret
      refine ⟨ret_bool ?_, rfl⟩
      rw [Bool.eq_iff_iff]; simp [okN]; try omega

theorem tmod2_cases (b : Int) : (b.tmod 2 = 0 ∧ b % 2 = 0) ∨ (b.tmod 2 ≠ 0 ∧ b % 2 = 1) := by
  have e := Int.mul_tdiv_add_tmod b 2
  have l1 := Int.lt_tmod_of_pos b (by decide : (0:Int) < 2)
  have l2 := Int.tmod_lt_of_pos b (by decide : (0:Int) < 2)
  omega
theorem number_even (b : Int) (h1 : -9223372036854775808 ≤ b) (h2 : b ≤ 9223372036854775807) (h : b % 2 = 0) : b.tdiv 2 = bnum b := by
  have e : b = 2 * (b / 2) := by omega
  have : b.tdiv 2 = b / 2 := by
    conv => lhs; rw [e]
    exact Int.mul_tdiv_cancel_left _ (by decide)
  rw [this]; rfl
theorem number_odd (b : Int) (h1 : -9223372036854775808 ≤ b) (h2 : b ≤ 9223372036854775807) (h : b % 2 = 1) : (wrap64 (b - 1)).tdiv 2 = bnum b := by
  have e0 : wrap64 (b - 1) = b - 1 := by unfold wrap64; omega
  have e : b - 1 = 2 * (b / 2) := by omega
  rw [e0, e, Int.mul_tdiv_cancel_left _ (by decide : (2:Int) ≠ 0)]
  rfl

set_option maxHeartbeats 400000 in
theorem refNumber_any (b : Int) (w : World) (h1 : -9223372036854775808 ≤ b) (h2 : b ≤ 9223372036854775807) :
    Calls Try.prog 141 #[.int .i64 b] w fun e w' => e = .returned (.int .i64 (bnum b)) ∧ w = w' := by
  rcases tmod2_cases b with ⟨h0, hm⟩ | ⟨h0, hm⟩
  · have e : (b.tmod 2 != 0) = false := by rw [h0]; rfl
    have R := Lib.hid (number_even b h1 h2 hm)
    clear h0 hm
    go_enter Try.func141, Try.ntmps141
    go_wp2
    go_ret
    exact ⟨ret_int (by first | exact R.out | (rw [wrap64_id (by rw [R.out]; exact (bnum_bd h1 h2).1) (by rw [R.out]; exact (bnum_bd h1 h2).2)]; exact R.out)), rfl⟩
  · have e : (b.tmod 2 != 0) = true := by rw [bne_iff_ne]; exact h0
    have R := Lib.hid (number_odd b h1 h2 hm)
    clear h0 hm
    go_enter Try.func141, Try.ntmps141
    go_wp2
    go_ret
    exact ⟨ret_int (by first | exact R.out | (rw [wrap64_id (by rw [R.out]; exact (bnum_bd h1 h2).1) (by rw [R.out]; exact (bnum_bd h1 h2).2)]; exact R.out)), rfl⟩

theorem strict_eq (b : Int) : (b.tmod 2 == 0) = bstr b := by
  rw [Bool.eq_iff_iff]; simp only [beq_iff_eq, bstr, decide_eq_true_eq]
  rcases tmod2_cases b with ⟨h0, hm⟩ | ⟨h0, hm⟩ <;> omega

set_option maxHeartbeats 400000 in
theorem refStrict_any (b : Int) (w : World) :
    Calls Try.prog 169 #[.int .i64 b] w fun e w' => e = .returned (.bool (bstr b)) ∧ w = w' := by
  have R := Lib.hid (strict_eq b)
  go_enter Try.func169, Try.ntmps169
  go_wp2
  go_ret
  exact ⟨ret_bool R.out, rfl⟩

set_option maxHeartbeats 400000 in
theorem refMade_any (c : Int) (s : Bool) (w : World) (h1 : -2305843009213693952 ≤ c) (h2 : c ≤ 2305843009213693952) :
    Calls Try.prog 152 #[.int .i64 c, .bool s] w fun e w' => e = .returned (.int .i64 (mkB c s)) ∧ w = w' := by
  cases s
  all_goals
    go_enter Try.func152, Try.ntmps152
    go_wp2
    go_ret
    exact ⟨ret_int (by simp [mkB]), rfl⟩

end Go.Proofs.Ytlcbpckinjkfeaa
