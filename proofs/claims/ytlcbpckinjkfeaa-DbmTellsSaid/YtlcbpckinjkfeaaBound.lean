/- Contracts of packages num and bound. No condition but that numbers are of their kind. -/
import Derived.Test.YtlcbpckinjkfeaaRat1
namespace Go.Proofs.Ytlcbpckinjkfeaa
set_option linter.unusedSimpArgs false
set_option linter.unusedVariables false
open Go Go.RowKit

def okN (n : Int) : Bool := decide (-2305843009213693952 ≤ n) && decide (n ≤ 2305843009213693952)
def ncode (b : Bool) : Int := if b then 0 else 10

set_option maxHeartbeats 400000 in
theorem numCheck_any (n : Int) (w : World) (h1 : -9223372036854775808 ≤ n) (h2 : n ≤ 9223372036854775807) :
    Calls Try.prog 136 #[.int .i64 n] w fun e w' => e = .returned (.int .i64 (ncode (okN n))) ∧ w = w' := by
  by_cases ha : n < -2305843009213693952
  · go_enter Try.func136, Try.ntmps136
    go_wp2
    go_ret
    exact ⟨ret_int (by have : ¬ (-2305843009213693952 ≤ n) := by omega
                       simp [ncode, okN, this]), rfl⟩
  · go_enter Try.func136, Try.ntmps136
    go_wp2
    all_goals
      go_ret
      refine ⟨ret_int ?_, rfl⟩
      have : -2305843009213693952 ≤ n := by omega
      first
        | (have h3 : n ≤ 2305843009213693952 := by omega
           simp [ncode, okN, this, h3]; done)
        | (have h3 : ¬ n ≤ 2305843009213693952 := by omega
           simp [ncode, okN, this, h3]; done)

@[go_sem] theorem run_lim0 (c : Int) (s : Bool) (w : World) : (Instr.field 119 (.agg #[.int .i64 c, .bool s]) 0).run Try.prog w = .ok (.int .i64 c) w := by kernel_rfl
@[go_sem] theorem run_lim1 (c : Int) (s : Bool) (w : World) : (Instr.field 119 (.agg #[.int .i64 c, .bool s]) 1).run Try.prog w = .ok (.bool s) w := by kernel_rfl
def limV (c : Int) (s : Bool) : Value := .agg #[.int .i64 c, .bool s]
def bnum (b : Int) : Int := b / 2
def bstr (b : Int) : Bool := decide (b % 2 = 0)

set_option maxHeartbeats 400000 in
theorem boundOf_any (b : Int) (h1 : -9223372036854775808 ≤ b) (h2 : b ≤ 9223372036854775807) :
    Pure Try.prog 137 #[.int .i64 b] (.agg #[.int .i64 (bnum b), .bool (bstr b)]) := by
  intro w
  go_enter Try.func137, Try.ntmps137
  go_wp2
  go_returns
  exact gives_end (by simp [bnum, bstr, i64_and1]; rw [Bool.eq_iff_iff]; simp) (by (repeat' (first | (with_reducible assumption) | (with_reducible exact Below.refl _ _) | (with_reducible refine below_wov ?_ ?_ _) | (with_reducible refine below_drewN ?_ _) | (with_reducible refine Below.drew ?_) | (with_reducible refine Below.alloc ?_ ?_ _) | (with_reducible refine Below.setCell ?_ ?_ _) | (with_reducible exact Nat.le_refl _) | omega | (simp only [World.size_alloc, World.size_setCell, World.size_drew, Wov_size, World.heap_drewN]; omega))))

def mkB (c : Int) (s : Bool) : Int := 2 * c + (if s then 0 else 1)

set_option maxHeartbeats 400000 in
theorem told_any (c : Int) (s : Bool) (h1 : -2305843009213693952 ≤ c) (h2 : c ≤ 2305843009213693952) :
    Pure Try.prog 139 #[.agg #[.int .i64 c, .bool s]] (.int .i64 (mkB c s)) := by
  intro w
  cases s
  · go_enter Try.func139, Try.ntmps139
    go_wp2
    go_ret
    exact gives_int (by rw [i64_or1 c h1 h2]; simp [mkB]) (by (repeat' (first | (with_reducible assumption) | (with_reducible exact Below.refl _ _) | (with_reducible refine below_wov ?_ ?_ _) | (with_reducible refine below_drewN ?_ _) | (with_reducible refine Below.drew ?_) | (with_reducible refine Below.alloc ?_ ?_ _) | (with_reducible refine Below.setCell ?_ ?_ _) | (with_reducible exact Nat.le_refl _) | omega | (simp only [World.size_alloc, World.size_setCell, World.size_drew, Wov_size, World.heap_drewN]; omega))))
  · go_enter Try.func139, Try.ntmps139
    go_wp2
    go_ret
    exact gives_int (by simp [mkB]; omega) (by (repeat' (first | (with_reducible assumption) | (with_reducible exact Below.refl _ _) | (with_reducible refine below_wov ?_ ?_ _) | (with_reducible refine below_drewN ?_ _) | (with_reducible refine Below.drew ?_) | (with_reducible refine Below.alloc ?_ ?_ _) | (with_reducible refine Below.setCell ?_ ?_ _) | (with_reducible exact Nat.le_refl _) | omega | (simp only [World.size_alloc, World.size_setCell, World.size_drew, Wov_size, World.heap_drewN]; omega))))

/-- A number's bound, or the error. -/
def madeR (c : Int) (s : Bool) : Int × Int := if okN c then (mkB c s, 0) else (0, 10)
def pair2 (r : Int × Int) : Value := .tuple #[.int .i64 r.1, .int .i64 r.2]
theorem gives_pair {w w' : World} {a b : Int} {r : Int × Int} (he : r = (a, b)) (h : Below w.heap.size w w') : Gives w (pair2 r) (.returned (.tuple #[.int .i64 a, .int .i64 b])) w' := gives_end (by rw [he]; rfl) h

theorem okN_bd {c : Int} (h : okN c = true) : -2305843009213693952 ≤ c ∧ c ≤ 2305843009213693952 := by simpa [okN] using h

theorem numCheck_ok {n : Int} (w : World) (h : okN n = true) :
    Calls Try.prog 136 #[.int .i64 n] w fun e w' => e = .returned (.int .i64 0) ∧ w = w' := by
  have hb := okN_bd h
  have := numCheck_any n w (by omega) (by omega)
  rwa [h] at this
theorem numCheck_bad {n : Int} (w : World) (h1 : -9223372036854775808 ≤ n) (h2 : n ≤ 9223372036854775807) (h : okN n = false) :
    Calls Try.prog 136 #[.int .i64 n] w fun e w' => e = .returned (.int .i64 10) ∧ w = w' := by
  have := numCheck_any n w h1 h2
  rwa [h] at this

set_option maxHeartbeats 400000 in
theorem made_any (c : Int) (s : Bool) (h1 : -9223372036854775808 ≤ c) (h2 : c ≤ 9223372036854775807) :
    Pure Try.prog 83 #[.agg #[.int .i64 c, .bool s]] (pair2 (madeR c s)) := by
  intro w
  cases hk : okN c
  · have C := fun w => numCheck_bad w h1 h2 hk
    have R : Hid (madeR c s = (0, 10)) := by show _ = _; rw [madeR, hk]; rfl
    have HC := Lib.hid C
    clear hk C
    go_enter Try.func83, Try.ntmps83
    go_wp2_with (go_at_call 136; refine (HC.out _).mono ?_; rintro e w' ⟨rfl, rfl⟩)
    go_ret2
    exact gives_pair R.out (by (repeat' (first | (with_reducible assumption) | (with_reducible exact Below.refl _ _) | (with_reducible refine below_wov ?_ ?_ _) | (with_reducible refine below_drewN ?_ _) | (with_reducible refine Below.drew ?_) | (with_reducible refine Below.alloc ?_ ?_ _) | (with_reducible refine Below.setCell ?_ ?_ _) | (with_reducible exact Nat.le_refl _) | omega | (simp only [World.size_alloc, World.size_setCell, World.size_drew, Wov_size, World.heap_drewN]; omega))))
  · have hb := okN_bd hk
    have C := fun w => numCheck_ok w hk
    have T := told_any c s hb.1 hb.2
    have R : Hid (madeR c s = (mkB c s, 0)) := by show _ = _; rw [madeR, hk]; rfl
    have HC := Lib.hid C
    clear hk hb C
    go_enter Try.func83, Try.ntmps83
    go_wp2_with (first
      | (go_at_call 136; refine (HC.out _).mono ?_; rintro e w' ⟨rfl, rfl⟩)
      | (go_at_call 139; refine (T _).mono ?_; rintro e w' ⟨rfl, p, rfl⟩))
    go_ret2
    exact gives_pair R.out (by (repeat' (first | (with_reducible assumption) | (with_reducible exact Below.refl _ _) | (with_reducible refine below_wov ?_ ?_ _) | (with_reducible refine below_drewN ?_ _) | (with_reducible refine Below.drew ?_) | (with_reducible refine Below.alloc ?_ ?_ _) | (with_reducible refine Below.setCell ?_ ?_ _) | (with_reducible exact Nat.le_refl _) | omega | (simp only [World.size_alloc, World.size_setCell, World.size_drew, Wov_size, World.heap_drewN]; omega))))

set_option maxHeartbeats 400000 in
theorem most_any (c : Int) (h1 : -9223372036854775808 ≤ c) (h2 : c ≤ 9223372036854775807) :
    Pure Try.prog 84 #[.int .i64 c] (pair2 (madeR c false)) := by
  intro w
  have C := made_any c false h1 h2
  obtain ⟨⟨x, y⟩, hr⟩ : ∃ r, r = madeR c false := ⟨_, rfl⟩
  rw [← hr] at C ⊢
  clear hr
  simp only [pair2] at C
  go_enter Try.func84, Try.ntmps84
  go_wp2_with (go_at_call 83; refine (C _).mono ?_; rintro e w' ⟨rfl, p, rfl⟩)
  go_ret2
  exact gives_pair rfl (by (repeat' (first | (with_reducible assumption) | (with_reducible exact Below.refl _ _) | (with_reducible refine below_wov ?_ ?_ _) | (with_reducible refine below_drewN ?_ _) | (with_reducible refine Below.drew ?_) | (with_reducible refine Below.alloc ?_ ?_ _) | (with_reducible refine Below.setCell ?_ ?_ _) | (with_reducible exact Nat.le_refl _) | omega | (simp only [World.size_alloc, World.size_setCell, World.size_drew, Wov_size, World.heap_drewN]; omega))))

/-- None: no bound. -/
def noneB : Int := 9223372036854775807
def okB (b : Int) : Bool := decide (b = noneB) || okN (bnum b)

theorem isNone_t {b : Int} (h : b = noneB) : (b == 9223372036854775807) = true := by subst h; rfl
theorem isNone_f {b : Int} (h : b ≠ noneB) : (b == 9223372036854775807) = false := by
  rw [beq_eq_false_iff_ne]; exact h
theorem notNone_t {b : Int} (h : b ≠ noneB) : (b != 9223372036854775807) = true := by
  rw [bne_iff_ne]; exact h
theorem notNone_f {b : Int} (h : b = noneB) : (b != 9223372036854775807) = false := by subst h; rfl
theorem bnum_bd {b : Int} (h1 : -9223372036854775808 ≤ b) (h2 : b ≤ 9223372036854775807) : -9223372036854775808 ≤ bnum b ∧ bnum b ≤ 9223372036854775807 := by unfold bnum; omega

set_option maxRecDepth 10000 in
set_option maxHeartbeats 400000 in
theorem boundCheck_any (b : Int) (h1 : -9223372036854775808 ≤ b) (h2 : b ≤ 9223372036854775807) :
    Pure Try.prog 77 #[.int .i64 b] (.int .i64 (rcode (okB b))) := by
  intro w
  by_cases hn : b = noneB
  · have e := notNone_f hn
    have R : Hid (okB b = true) := by show _ = _; simp [okB, hn]
    clear hn
    go_enter Try.func77, Try.ntmps77
    go_wp2
    go_ret
    exact gives_int (by rw [R.out]; rfl) (by (repeat' (first | (with_reducible assumption) | (with_reducible exact Below.refl _ _) | (with_reducible refine below_wov ?_ ?_ _) | (with_reducible refine below_drewN ?_ _) | (with_reducible refine Below.drew ?_) | (with_reducible refine Below.alloc ?_ ?_ _) | (with_reducible refine Below.setCell ?_ ?_ _) | (with_reducible exact Nat.le_refl _) | omega | (simp only [World.size_alloc, World.size_setCell, World.size_drew, Wov_size, World.heap_drewN]; omega))))
  · have e := notNone_t hn
    have R : Hid (okB b = okN (bnum b)) := by show _ = _; simp [okB, hn]
    have B := boundOf_any b h1 h2
    obtain ⟨c1, c2⟩ := bnum_bd h1 h2
    have HC := Lib.hid (fun w => numCheck_any (bnum b) w c1 c2)
    obtain ⟨c, hc⟩ : ∃ c, c = bnum b := ⟨_, rfl⟩
    rw [← hc] at B c1 c2 HC R
    clear hn hc
    cases hk : okN c
    · have HC2 := Lib.hid (fun w => numCheck_bad w c1 c2 hk)
      have HK := Lib.hid hk
      clear hk HC
      go_enter Try.func77, Try.ntmps77
      go_wp2_with (first
        | (go_at_call 137; refine (B _).mono ?_; rintro e w' ⟨rfl, p, rfl⟩)
        | (go_at_call 136; refine (HC2.out _).mono ?_; rintro e w' ⟨rfl, rfl⟩))
      go_ret
      exact gives_int (by rw [R.out, HK.out]; rfl) (by (repeat' (first | (with_reducible assumption) | (with_reducible exact Below.refl _ _) | (with_reducible refine below_wov ?_ ?_ _) | (with_reducible refine below_drewN ?_ _) | (with_reducible refine Below.drew ?_) | (with_reducible refine Below.alloc ?_ ?_ _) | (with_reducible refine Below.setCell ?_ ?_ _) | (with_reducible exact Nat.le_refl _) | omega | (simp only [World.size_alloc, World.size_setCell, World.size_drew, Wov_size, World.heap_drewN]; omega))))
    · have HC2 := Lib.hid (fun w => numCheck_ok w hk)
      have HK := Lib.hid hk
      clear hk HC
      go_enter Try.func77, Try.ntmps77
      go_wp2_with (first
        | (go_at_call 137; refine (B _).mono ?_; rintro e w' ⟨rfl, p, rfl⟩)
        | (go_at_call 136; refine (HC2.out _).mono ?_; rintro e w' ⟨rfl, rfl⟩))
      go_ret
      exact gives_int (by rw [R.out, HK.out]; rfl) (by (repeat' (first | (with_reducible assumption) | (with_reducible exact Below.refl _ _) | (with_reducible refine below_wov ?_ ?_ _) | (with_reducible refine below_drewN ?_ _) | (with_reducible refine Below.drew ?_) | (with_reducible refine Below.alloc ?_ ?_ _) | (with_reducible refine Below.setCell ?_ ?_ _) | (with_reducible exact Nat.le_refl _) | omega | (simp only [World.size_alloc, World.size_setCell, World.size_drew, Wov_size, World.heap_drewN]; omega))))
end Go.Proofs.Ytlcbpckinjkfeaa
