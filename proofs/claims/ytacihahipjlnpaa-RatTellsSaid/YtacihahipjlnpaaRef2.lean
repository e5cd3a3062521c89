/- Contracts of the document's own functions on numbers and bounds (rallentandoref01, 02). No condition but that numbers are of their kind. -/
import Derived.Test.YtacihahipjlnpaaBound2
namespace Go.Proofs.Ytacihahipjlnpaa
set_option linter.unusedSimpArgs false
set_option linter.unusedVariables false
open Go Go.RowKit

set_option maxHeartbeats 400000 in
theorem ref1May_any (n : Int) (w : World) (h1 : -9223372036854775808 ≤ n) (h2 : n ≤ 9223372036854775807) :
    Calls Try.prog 97 #[.int .i64 n] w fun e w' => e = .returned (.bool (okN n)) ∧ w = w' := by
  by_cases ha : -2305843009213693952 ≤ n
  · go_enter Try.func97, Try.ntmps97
    go_wp2
    all_goals
      go_ret
      refine ⟨ret_bool ?_, rfl⟩
      rw [Bool.eq_iff_iff]; simp [okN]; try omega
  · have ha' : n < -2305843009213693952 := by omega
    go_enter Try.func97, Try.ntmps97
    go_wp2
    all_goals
      go_ret
      refine ⟨ret_bool ?_, rfl⟩
      rw [Bool.eq_iff_iff]; simp [okN]; try omega

theorem tmod2_cases (b : Int) : (b.tmod 2 = 0 ∧ b % 2 = 0) ∨ (b.tmod 2 ≠ 0 ∧ b % 2 = 1) := by
  have e := Int.mul_tdiv_add_tmod b 2
  have l1 := Int.lt_tmod_of_pos b (by decide : (0:Int) < 2)
  have l2 := Int.tmod_lt_of_pos b (by decide : (0:Int) < 2)
  omega
theorem number_even (b : Int) (h1 : -9223372036854775808 ≤ b) (h2 : b ≤ 9223372036854775807) (h : b % 2 = 0) : b.tdiv 2 = bnum b := by
  have e : b = 2 * (b / 2) := by omega
  have : b.tdiv 2 = b / 2 := by
    conv => lhs; rw [e]
    exact Int.mul_tdiv_cancel_left _ (by decide)
  rw [this]; rfl
theorem number_odd (b : Int) (h1 : -9223372036854775808 ≤ b) (h2 : b ≤ 9223372036854775807) (h : b % 2 = 1) : (wrap64 (b - 1)).tdiv 2 = bnum b := by
  have e0 : wrap64 (b - 1) = b - 1 := by unfold wrap64; omega
  have e : b - 1 = 2 * (b / 2) := by omega
  rw [e0, e, Int.mul_tdiv_cancel_left _ (by decide : (2:Int) ≠ 0)]
  rfl

set_option maxHeartbeats 400000 in
theorem refNumber_any (b : Int) (w : World) (h1 : -9223372036854775808 ≤ b) (h2 : b ≤ 9223372036854775807) :
    Calls Try.prog 98 #[.int .i64 b] w fun e w' => e = .returned (.int .i64 (bnum b)) ∧ w = w' := by
  rcases tmod2_cases b with ⟨h0, hm⟩ | ⟨h0, hm⟩
  · have e : (b.tmod 2 != 0) = false := by rw [h0]; rfl
    have R := Lib.hid (number_even b h1 h2 hm)
    clear h0 hm
    go_enter Try.func98, Try.ntmps98
    go_wp2
    go_ret
    exact ⟨ret_int (by first | exact R.out | (rw [wrap64_id (by rw [R.out]; exact (bnum_bd h1 h2).1) (by rw [R.out]; exact (bnum_bd h1 h2).2)]; exact R.out)), rfl⟩
  · have e : (b.tmod 2 != 0) = true := by rw [bne_iff_ne]; exact h0
    have R := Lib.hid (number_odd b h1 h2 hm)
    clear h0 hm
    go_enter Try.func98, Try.ntmps98
    go_wp2
    go_ret
    exact ⟨ret_int (by first | exact R.out | (rw [wrap64_id (by rw [R.out]; exact (bnum_bd h1 h2).1) (by rw [R.out]; exact (bnum_bd h1 h2).2)]; exact R.out)), rfl⟩

theorem strict_eq (b : Int) : (b.tmod 2 == 0) = bstr b := by
  rw [Bool.eq_iff_iff]; simp only [beq_iff_eq, bstr, decide_eq_true_eq]
  rcases tmod2_cases b with ⟨h0, hm⟩ | ⟨h0, hm⟩ <;> omega

set_option maxHeartbeats 400000 in
theorem refStrict_any (b : Int) (w : World) :
    Calls Try.prog 99 #[.int .i64 b] w fun e w' => e = .returned (.bool (bstr b)) ∧ w = w' := by
  have R := Lib.hid (strict_eq b)
  go_enter Try.func99, Try.ntmps99
  go_wp2
  go_ret
  exact ⟨ret_bool R.out, rfl⟩

set_option maxHeartbeats 400000 in
theorem refMade_any (c : Int) (s : Bool) (w : World) (h1 : -2305843009213693952 ≤ c) (h2 : c ≤ 2305843009213693952) :
    Calls Try.prog 107 #[.int .i64 c, .bool s] w fun e w' => e = .returned (.int .i64 (mkB c s)) ∧ w = w' := by
  cases s
  all_goals
    go_enter Try.func107, Try.ntmps107
    go_wp2
    go_ret
    exact ⟨ret_int (by simp [mkB]), rfl⟩

set_option maxRecDepth 10000 in
set_option maxHeartbeats 400000 in
theorem ref2May_any (b : Int) (w : World) (h1 : -9223372036854775808 ≤ b) (h2 : b ≤ 9223372036854775807) :
    Calls Try.prog 77 #[.int .i64 b] w fun e w' => e = .returned (.bool (okB b)) ∧ w = w' := by
  by_cases hn : b = noneB
  · have e := isNone_t hn
    have R : Hid (true = okB b) := by show _ = _; simp [okB, hn]
    clear hn
    go_enter Try.func77, Try.ntmps77
    go_wp2
    go_ret
    exact ⟨ret_bool R.out, rfl⟩
  · have e := isNone_f hn
    have R : Hid (okN (bnum b) = okB b) := by show _ = _; simp [okB, hn]
    obtain ⟨c1, c2⟩ := bnum_bd h1 h2
    have N := Lib.hid (fun w => refNumber_any b w h1 h2)
    obtain ⟨c, hc⟩ : ∃ c, c = bnum b := ⟨_, rfl⟩
    rw [← hc] at N R c1 c2
    clear hn hc
    go_enter Try.func77, Try.ntmps77
    go_wp2_with (first
      | (go_at_call 98; refine (N.out _).mono ?_; rintro e w' ⟨rfl, rfl⟩)
      | (go_at_call 97; refine (ref1May_any c _ c1 c2).mono ?_; rintro e w' ⟨rfl, rfl⟩))
    go_ret
    exact ⟨ret_bool R.out, rfl⟩
end Go.Proofs.Ytacihahipjlnpaa
