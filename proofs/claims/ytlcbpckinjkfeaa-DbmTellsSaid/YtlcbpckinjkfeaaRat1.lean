/- Contracts of the small functions of package rat: sizes, quotients rounded down, the greatest common divisor. No condition but that numbers are of their kinds. -/
import Derived.Test.YtlcbpckinjkfeaaKit
import Derived.Outline
namespace Go.Proofs.Ytlcbpckinjkfeaa
set_option linter.unusedSimpArgs false
set_option linter.unusedVariables false
open Go Go.RowKit

def lo64 : Int := -9223372036854775808
def hi64 : Int := 9223372036854775807

set_option maxHeartbeats 400000 in
theorem size_any (n : Int) (w : World) (h1 : -9223372036854775808 ≤ n) (h2 : n ≤ 9223372036854775807) :
    Calls Try.prog 120 #[.int .i64 n] w fun e w' => e = .returned (.int .u64 (n.natAbs : Int)) ∧ w = w' := by
  go_enter Try.func120, Try.ntmps120
  go_wp2
  · go_ret
    refine ⟨ret_int ?_, rfl⟩
    simp only [IntKind.wrap_u64]
    omega
  · go_ret
    refine ⟨ret_int ?_, rfl⟩
    omega

set_option maxHeartbeats 400000 in
theorem floor_any (n d : Int) (w : World) (h1 : -9223372036854775808 ≤ n) (h2 : n ≤ 9223372036854775807) (h3 : 0 < d) (h4 : d ≤ 9223372036854775807) :
    Calls Try.prog 79 #[.int .i64 n, .int .i64 d] w fun e w' => e = .returned (.tuple #[.int .i64 (n / d), .int .i64 (n % d)]) ∧ ∃ m, w' = w.drewN m := by
  go_enter Try.func79, Try.ntmps79
  go_wp2
  go_quiet (fail)
  go_wp2
  · go_ret2
    have hf := floor_neg n d h3 h4 h1 h2 ‹_›
    exact ⟨ret2 hf.1 hf.2, nq, rfl⟩
  · go_ret2
    have hf := floor_pos n d h3 ‹_›
    exact ⟨ret2 hf.1 hf.2, nq, rfl⟩

set_option maxHeartbeats 400000 in
theorem gcd_any (a b : Nat) (w : World) (h1 : a < 18446744073709551616) (h2 : b < 18446744073709551616) :
    Calls Try.prog 119 #[.int .u64 a, .int .u64 b] w fun e w' => e = .returned (.int .u64 (Nat.gcd a b : Nat)) ∧ ∃ n, w' = w.drewN n := by
  go_enter Try.func119, Try.ntmps119
  go_wp2
  go_loopw [0, 1] (fun x y wr => ∃ p q n : Nat, x = .int .u64 p ∧ y = .int .u64 q ∧ Nat.gcd p q = Nat.gcd a b ∧ p < 18446744073709551616 ∧ q < 18446744073709551616 ∧ wr = w.drewN n) (fun _ y _ => (intOf y).toNat)
  case atStart => exact ⟨a, b, 0, rfl, rfl, rfl, h1, h2, rfl⟩
  case round =>
    obtain ⟨p, q, n, rfl, rfl, hg, hp, hq, rfl⟩ := hrel
    have HG := Lib.hid hg
    clear hg
    by_cases h0 : 0 < q
    · have hm : (p : Int) % (q : Int) = ((p % q : Nat) : Int) := by simp
      have hl : p % q < q := Nat.mod_lt _ h0
      go_wp2
      go_quiet (fail)
      go_wp2
      go_roundw
      case rel => exact ⟨q, p % q, _, rfl, by rw [hm], by rw [Nat.gcd_comm, ← Nat.gcd_rec]; exact (Nat.gcd_comm _ _).trans HG.out, hq, by omega, World.drewN_drewN _ _ _⟩
      case measure => simp [intOf]; omega
    · have h0 : q = 0 := by omega
      subst h0
      go_wp2
      go_ret
      exact ⟨ret_int (by have := HG.out; simp at this; rw [this]), n, rfl⟩

/-! ### within, Check -/
def ratV (n d : Int) : Value := .agg #[.int .i64 n, .int .i64 d]
def withinB (n d : Int) : Bool := decide (-2305843009213693952 ≤ n / d ∧ (n / d < 2305843009213693952 ∨ n / d = 2305843009213693952 ∧ n % d = 0))

set_option maxHeartbeats 400000 in
theorem within_any (n d : Int) (h1 : -9223372036854775808 ≤ n) (h2 : n ≤ 9223372036854775807) (h3 : 0 < d) (h4 : d ≤ 9223372036854775807) :
    Pure Try.prog 118 #[.agg #[.int .i64 n, .int .i64 d]] (.bool (withinB n d)) := by
  intro w
  go_enter Try.func118, Try.ntmps118
  go_wp2_with (go_at_call 79; refine (floor_any _ _ _ h1 h2 h3 h4).mono ?_; rintro e w' ⟨rfl, m, rfl⟩)
  all_goals
    go_ret
    refine gives_bool ?_ (by (repeat' (first | (with_reducible assumption) | (with_reducible exact Below.refl _ _) | (with_reducible refine below_wov ?_ ?_ _) | (with_reducible refine below_drewN ?_ _) | (with_reducible refine Below.drew ?_) | (with_reducible refine Below.alloc ?_ ?_ _) | (with_reducible refine Below.setCell ?_ ?_ _) | (with_reducible exact Nat.le_refl _) | omega | (simp only [World.size_alloc, World.size_setCell, World.size_drew, Wov_size, World.heap_drewN]; omega))))
    rw [Bool.eq_iff_iff]
    simp [withinB]
    try omega

def okRat (n d : Int) : Bool := decide (1 ≤ d) && (decide (d ≤ 1048576) && (withinB n d && decide (Nat.gcd n.natAbs d.natAbs = 1)))
def rcode (b : Bool) : Int := if b then 0 else 8

theorem dec_lt_f {a b : Int} (h : b ≤ a) : decide (a < b) = false := by simp; omega
theorem dec_lt_t {a b : Int} (h : a < b) : decide (a < b) = true := by simp; omega
theorem beq_f {a b : Int} (h : a ≠ b) : (a == b) = false := by simp; omega
theorem bne_t {a b : Int} (h : a ≠ b) : (a != b) = true := by simp; omega
theorem bne_f {a b : Int} (h : a = b) : (a != b) = false := by simp; omega

set_option maxHeartbeats 800000 in
theorem ratCheck_any (n d : Int) (h1 : -9223372036854775808 ≤ n) (h2 : n ≤ 9223372036854775807) :
    Pure Try.prog 51 #[.agg #[.int .i64 n, .int .i64 d]] (.int .i64 (rcode (okRat n d))) := by
  intro w
  by_cases ha : 1 ≤ d
  · have ga := dec_lt_f ha
    by_cases hb : d ≤ 1048576
    · have gb := dec_lt_f hb
      by_cases hc : withinB n d = true
      · have hd : (d : Int) = (d.natAbs : Int) := by omega
        have HD := Lib.hid hd
        clear hd
        by_cases hg : Nat.gcd n.natAbs d.natAbs = 1
        all_goals
          have HG := Lib.hid hg
          clear hg
          go_enter Try.func51, Try.ntmps51
          go_wp2
          refine wp_region_wov (by kernel_rfl) (by kernel_rfl) ?_
          repeat (go_big_quiet_step (first
            | (go_at_call 118; exact (within_any n d h1 h2 (by omega) (by omega)).at _ _)
            | (go_at_call 120; (first | exact ((Pure.of_same (fun w => size_any n w h1 h2))).at _ _ | exact ((Pure.of_same (fun w => size_any n w h1 h2))).at2 _ _ _ | exact ((Pure.of_same (fun w => size_any n w h1 h2))).at3 _ _ _ _ | exact ((Pure.of_same (fun w => size_any n w h1 h2))).at4 _ _ _ _ _ | exact ((Pure.of_same (fun w => size_any n w h1 h2))).at5 _ _ _ _ _ _ | exact ((Pure.of_same (fun w => size_any n w h1 h2))).at6 _ _ _ _ _ _ _))
            | (go_at_call 119; rw [HD.out]; (first | exact ((Pure.of_drewN (fun w => gcd_any n.natAbs d.natAbs w (by omega) (by omega)))).at _ _ | exact ((Pure.of_drewN (fun w => gcd_any n.natAbs d.natAbs w (by omega) (by omega)))).at2 _ _ _ | exact ((Pure.of_drewN (fun w => gcd_any n.natAbs d.natAbs w (by omega) (by omega)))).at3 _ _ _ _ | exact ((Pure.of_drewN (fun w => gcd_any n.natAbs d.natAbs w (by omega) (by omega)))).at4 _ _ _ _ _ | exact ((Pure.of_drewN (fun w => gcd_any n.natAbs d.natAbs w (by omega) (by omega)))).at5 _ _ _ _ _ _ | exact ((Pure.of_drewN (fun w => gcd_any n.natAbs d.natAbs w (by omega) (by omega)))).at6 _ _ _ _ _ _ _))))
          refine wpQuiet_nil ?_
          rintro _ ⟨pq, rfl⟩
          go_wp2
          all_goals
            go_ret
            refine gives_int ?_ (by (repeat' (first | (with_reducible assumption) | (with_reducible exact Below.refl _ _) | (with_reducible refine below_wov ?_ ?_ _) | (with_reducible refine below_drewN ?_ _) | (with_reducible refine Below.drew ?_) | (with_reducible refine Below.alloc ?_ ?_ _) | (with_reducible refine Below.setCell ?_ ?_ _) | (with_reducible exact Nat.le_refl _) | omega | (simp only [World.size_alloc, World.size_setCell, World.size_drew, Wov_size, World.heap_drewN]; omega))))
            have hg := HG.out
            first | (simp [rcode, okRat, ha, hb, hc, hg]; done) | (exfalso; simp_all; done) | (exfalso; simp_all; omega)
      · have hc : withinB n d = false := by simpa using hc
        go_enter Try.func51, Try.ntmps51
        go_wp2
        refine wp_region_wov (by kernel_rfl) (by kernel_rfl) ?_
        repeat (go_big_quiet_step ((go_at_call 118; exact (within_any n d h1 h2 (by omega) (by omega)).at _ _)))
        refine wpQuiet_nil ?_
        rintro _ ⟨pq, rfl⟩
        go_wp2
        go_ret
        exact gives_int (by simp [rcode, okRat, hc]) (by (repeat' (first | (with_reducible assumption) | (with_reducible exact Below.refl _ _) | (with_reducible refine below_wov ?_ ?_ _) | (with_reducible refine below_drewN ?_ _) | (with_reducible refine Below.drew ?_) | (with_reducible refine Below.alloc ?_ ?_ _) | (with_reducible refine Below.setCell ?_ ?_ _) | (with_reducible exact Nat.le_refl _) | omega | (simp only [World.size_alloc, World.size_setCell, World.size_drew, Wov_size, World.heap_drewN]; omega))))
    · have gb : decide (1048576 < d) = true := dec_lt_t (by omega)
      have hb : ¬ d ≤ 1048576 := by omega
      go_enter Try.func51, Try.ntmps51
      go_wp2
      refine wp_region_wov (by kernel_rfl) (by kernel_rfl) ?_
      repeat (go_big_quiet_step (fail))
      refine wpQuiet_nil ?_
      rintro _ ⟨pq, rfl⟩
      go_wp2
      go_ret
      have hb : ¬ d ≤ 1048576 := by omega
      exact gives_int (by simp [rcode, okRat, hb]) (by (repeat' (first | (with_reducible assumption) | (with_reducible exact Below.refl _ _) | (with_reducible refine below_wov ?_ ?_ _) | (with_reducible refine below_drewN ?_ _) | (with_reducible refine Below.drew ?_) | (with_reducible refine Below.alloc ?_ ?_ _) | (with_reducible refine Below.setCell ?_ ?_ _) | (with_reducible exact Nat.le_refl _) | omega | (simp only [World.size_alloc, World.size_setCell, World.size_drew, Wov_size, World.heap_drewN]; omega))))
  · go_enter Try.func51, Try.ntmps51
    go_wp2
    refine wp_region_wov (by kernel_rfl) (by kernel_rfl) ?_
    repeat (go_big_quiet_step (fail))
    refine wpQuiet_nil ?_
    rintro _ ⟨pq, rfl⟩
    go_wp2
    go_ret
    have ha : ¬ 1 ≤ d := by omega
    exact gives_int (by simp [rcode, okRat, ha]) (by (repeat' (first | (with_reducible assumption) | (with_reducible exact Below.refl _ _) | (with_reducible refine below_wov ?_ ?_ _) | (with_reducible refine below_drewN ?_ _) | (with_reducible refine Below.drew ?_) | (with_reducible refine Below.alloc ?_ ?_ _) | (with_reducible refine Below.setCell ?_ ?_ _) | (with_reducible exact Nat.le_refl _) | omega | (simp only [World.size_alloc, World.size_setCell, World.size_drew, Wov_size, World.heap_drewN]; omega))))

theorem ratCheck_ok {n d : Int} (h1 : -9223372036854775808 ≤ n) (h2 : n ≤ 9223372036854775807) (h : okRat n d = true) :
    Pure Try.prog 51 #[.agg #[.int .i64 n, .int .i64 d]] (.int .i64 0) := by
  have := ratCheck_any n d h1 h2
  rwa [h] at this
theorem ratCheck_bad {n d : Int} (h1 : -9223372036854775808 ≤ n) (h2 : n ≤ 9223372036854775807) (h : okRat n d = false) :
    Pure Try.prog 51 #[.agg #[.int .i64 n, .int .i64 d]] (.int .i64 8) := by
  have := ratCheck_any n d h1 h2
  rwa [h] at this
end Go.Proofs.Ytlcbpckinjkfeaa
