/- Contracts of rat.product (two words), and of the comparisons of package cmp. No condition but that numbers are of their kind. -/
import Derived.Test.YtlcbpckinjkfeaaBound2
import Derived.Shelf.Bits.Mul64
namespace Go.Proofs
open Go.Shelf
def Try.laysMul_ren : Go.Shelf.Ren := ⟨fun | 264 => 164 | n => n, fun | 53 => 157 | 46 => 186 | n => n, fun | n => n⟩
theorem Try.laysMul : Go.Proofs.Lays.n264 Try.prog Try.laysMul_ren := {
  mixed := by kernel_rfl
  f264 := Try.func164.trans (congrArg some (by kernel_rfl))
  t46 := Try.underlying186
  a46 := Try.isAgg186
  z46 := Try.sizeOf186
  v46 := Try.zeroValue186
  t53 := Try.underlying157
  a53 := Try.isAgg157
  z53 := Try.sizeOf157
  v53 := Try.zeroValue157 }
end Go.Proofs
namespace Go.Proofs.Ytlcbpckinjkfeaa
set_option linter.unusedSimpArgs false
set_option linter.unusedVariables false
open Go Go.RowKit Go.Shelf

theorem mul64_any (x y : Nat) (hx : x < 18446744073709551616) (hy : y < 18446744073709551616) (w : World) :
    Calls Try.prog 164 #[.int .u64 x, .int .u64 y] w fun e w' => e = .returned (.tuple #[.int .u64 ((x * y / 18446744073709551616 : Nat) : Int), .int .u64 ((x * y % 18446744073709551616 : Nat) : Int)]) ∧ w' = w := Any.bits_Mul64 Try.laysMul x y hx hy w

theorem mul64_out (x y : Nat) (hx : x < 18446744073709551616) (hy : y < 18446744073709551616) : ∃ h l : Nat, h ≤ 18446744073709551615 ∧ l ≤ 18446744073709551615 ∧ Hid (x * y = h * 18446744073709551616 + l) ∧
    ∀ w, Calls Try.prog 164 #[.int .u64 x, .int .u64 y] w fun e w' => e = .returned (.tuple #[.int .u64 h, .int .u64 l]) ∧ w' = w := by
  refine ⟨x * y / 18446744073709551616, x * y % 18446744073709551616, ?_, by omega, ?_, fun w => mul64_any x y hx hy w⟩
  · have : x * y ≤ 18446744073709551615 * 18446744073709551615 := Nat.mul_le_mul (by omega) (by omega)
    omega
  · show _ = _
    omega

def hiP (a b : Int) : Int := a * b / 18446744073709551616
def loP (a b : Int) : Int := a * b % 18446744073709551616

def sub64Entry : Array Value → Sem Value := fun args => do
  let (x, y, b) ← Extern.MathBitsCarry.three "Sub64" args
  pure (Extern.MathBitsCarry.pair ((x + Extern.MathBitsCarry.m64 - y - b) % Extern.MathBitsCarry.m64) (if x < y + b then 1 else 0))

theorem run_sub64 (y c : Nat) (hc : c ≤ 1) (w : World) :
    (callFunc 165 #[.int .u64 0, .int .u64 y, .int .u64 c]).run Try.prog w =
      .ok (.value (.tuple #[.int .u64 (((18446744073709551616 - y - c) % 18446744073709551616 : Nat) : Int), .int .u64 ((if 0 < y + c then 1 else 0 : Nat) : Int)])) w := by
  rw [run_callFunc_extern Try.func165 (by kernel_rfl) (by kernel_rfl) (by kernel_rfl) (e := sub64Entry) (by kernel_rfl)]
  have : c = 0 ∨ c = 1 := by omega
  rcases this with rfl | rfl
  · have key : (sub64Entry #[.int .u64 0, .int .u64 y, .int .u64 ((0 : Nat) : Int)]).run Try.prog w = .ok (Extern.MathBitsCarry.pair (((0 : Int).toNat + Extern.MathBitsCarry.m64 - (y : Int).toNat - 0) % Extern.MathBitsCarry.m64) (if (0 : Int).toNat < (y : Int).toNat + 0 then 1 else 0)) w := rfl
    rw [key]
    simp [Extern.MathBitsCarry.pair, Extern.MathBitsCarry.m64, Result.andThen]
  · have key : (sub64Entry #[.int .u64 0, .int .u64 y, .int .u64 ((1 : Nat) : Int)]).run Try.prog w = .ok (Extern.MathBitsCarry.pair (((0 : Int).toNat + Extern.MathBitsCarry.m64 - (y : Int).toNat - 1) % Extern.MathBitsCarry.m64) (if (0 : Int).toNat < (y : Int).toNat + 1 then 1 else 0)) w := rfl
    rw [key]
    simp [Extern.MathBitsCarry.pair, Extern.MathBitsCarry.m64, Result.andThen]

/-- Both words negated, in two steps. -/
theorem sub64_out (h l : Nat) (hl : l ≤ 18446744073709551615) (hh : h ≤ 9223372036854775807) : ∃ L B H C : Nat, H ≤ 18446744073709551615 ∧ L ≤ 18446744073709551615 ∧
    Hid (∃ k : Nat, (L : Int) = k * 18446744073709551616 - l ∧ k ≤ 1 ∧ B = k ∧ (H : Int) = 18446744073709551616 - h - k ∧ (0 < h + k) ∨ (L = 0 ∧ l = 0 ∧ B = 0 ∧ h = 0 ∧ H = 0)) ∧
    (∀ w, (callFunc 165 #[.int .u64 0, .int .u64 l, .int .u64 0]).run Try.prog w = .ok (.value (.tuple #[.int .u64 L, .int .u64 B])) w) ∧
    (∀ w, (callFunc 165 #[.int .u64 0, .int .u64 h, .int .u64 B]).run Try.prog w = .ok (.value (.tuple #[.int .u64 H, .int .u64 C])) w) := by
  by_cases h0 : l = 0
  · refine ⟨(18446744073709551616 - l - 0) % 18446744073709551616, if 0 < l + 0 then 1 else 0, (18446744073709551616 - h - 0) % 18446744073709551616, if 0 < h + 0 then 1 else 0, by omega, by omega, ?_, run_sub64 l 0 (by omega), ?_⟩
    · subst h0
      show ∃ k, _
      by_cases hz : h = 0
      · exact ⟨0, .inr ⟨by omega, rfl, rfl, hz, by omega⟩⟩
      · exact ⟨0, .inl ⟨by omega, by omega, rfl, by omega, by omega⟩⟩
    · subst h0
      exact run_sub64 h 0 (by omega)
  · have e : (if 0 < l + 0 then 1 else 0) = 1 := if_pos (by omega)
    refine ⟨(18446744073709551616 - l - 0) % 18446744073709551616, 1, (18446744073709551616 - h - 1) % 18446744073709551616, if 0 < h + 1 then 1 else 0, by omega, by omega, ?_, ?_, run_sub64 h 1 (by omega)⟩
    · exact ⟨1, .inl ⟨by omega, by omega, rfl, by omega, by omega⟩⟩
    · intro w
      have := run_sub64 l 0 (by omega) w
      rw [e] at this
      exact this

theorem natAbs_mul_le (a b : Int) (h1 : -9223372036854775808 ≤ a) (h2 : a ≤ 9223372036854775807) (h3 : -9223372036854775808 ≤ b) (h4 : b ≤ 9223372036854775807) : a.natAbs * b.natAbs ≤ 85070591730234615865843651857942052864 := by
  have : a.natAbs * b.natAbs ≤ 9223372036854775808 * 9223372036854775808 := Nat.mul_le_mul (by omega) (by omega)
  omega
theorem prod_pos {P h l : Nat} (hP : P = h * 18446744073709551616 + l) (hl : l ≤ 18446744073709551615) (hb : P ≤ 85070591730234615865843651857942052864) :
    (h : Int) = (P : Int) / 18446744073709551616 ∧ (l : Int) = (P : Int) % 18446744073709551616 := by
  omega
theorem prod_neg {P h l L B H : Nat} (hP : P = h * 18446744073709551616 + l) (hl : l ≤ 18446744073709551615) (hb : P ≤ 85070591730234615865843651857942052864) (hL : L ≤ 18446744073709551615)
    (hk : ∃ k : Nat, (L : Int) = k * 18446744073709551616 - l ∧ k ≤ 1 ∧ B = k ∧ (H : Int) = 18446744073709551616 - h - k ∧ (0 < h + k) ∨ (L = 0 ∧ l = 0 ∧ B = 0 ∧ h = 0 ∧ H = 0)) :
    wrap64 H = (-(P : Int)) / 18446744073709551616 ∧ (L : Int) = (-(P : Int)) % 18446744073709551616 := by
  obtain ⟨k, hk⟩ := hk
  unfold wrap64
  rcases hk with ⟨e1, e2, e3, e4, e5⟩ | ⟨e1, e2, e3, e4, e5⟩
  · have : k = 0 ∨ k = 1 := by omega
    rcases this with rfl | rfl <;> omega
  · omega

set_option maxRecDepth 10000 in
set_option maxHeartbeats 800000 in
theorem product_any (a b : Int) (h1 : -9223372036854775808 ≤ a) (h2 : a ≤ 9223372036854775807) (h3 : -9223372036854775808 ≤ b) (h4 : b ≤ 9223372036854775807) (w : World) :
    Calls Try.prog 132 #[.int .i64 a, .int .i64 b] w fun e w' => e = .returned (.tuple #[.int .i64 (hiP a b), .int .u64 (loP a b)]) ∧ w = w' := by
  obtain ⟨h, l, hh, hl, hx, C⟩ := mul64_out a.natAbs b.natAbs (by omega) (by omega)
  have S1 := fun w => size_any a w h1 h2
  have S2 := fun w => size_any b w h3 h4
  have hbd := Lib.hid (natAbs_mul_le a b h1 h2 h3 h4)
  obtain ⟨x, hxa⟩ : ∃ x, x = a.natAbs := ⟨_, rfl⟩
  obtain ⟨y, hyb⟩ : ∃ y, y = b.natAbs := ⟨_, rfl⟩
  rw [← hxa, ← hyb] at C hx hbd
  rw [← hxa] at S1
  rw [← hyb] at S2
  have hh2 : h ≤ 9223372036854775807 := by have := hx.out; have := hbd.out; omega
  obtain ⟨L, B, H, D, hH, hL, hk, E1, E2⟩ := sub64_out h l hl hh2
  have R1 : Hid (a < 0 ∧ b < 0 ∨ ¬ a < 0 ∧ ¬ b < 0 → (h : Int) = hiP a b ∧ (l : Int) = loP a b) := by
    show _ → _
    intro hs
    have e : a * b = ((x * y : Nat) : Int) := by
      rw [Int.natCast_mul, hxa, hyb]
      rcases hs with ⟨s1, s2⟩ | ⟨s1, s2⟩
      · rw [show a = -(a.natAbs : Int) by omega, show b = -(b.natAbs : Int) by omega]; simp [Int.neg_mul, Int.mul_neg]
      · rw [show a = (a.natAbs : Int) by omega, show b = (b.natAbs : Int) by omega]; simp
    rw [hiP, loP, e]
    exact prod_pos hx.out hl hbd.out
  have R2 : Hid (a < 0 ∧ ¬ b < 0 ∨ ¬ a < 0 ∧ b < 0 → wrap64 H = hiP a b ∧ (L : Int) = loP a b) := by
    show _ → _
    intro hs
    have e : a * b = -((x * y : Nat) : Int) := by
      rw [Int.natCast_mul, hxa, hyb]
      rcases hs with ⟨s1, s2⟩ | ⟨s1, s2⟩
      · rw [show a = -(a.natAbs : Int) by omega, show b = (b.natAbs : Int) by omega]; simp [Int.neg_mul]
      · rw [show a = (a.natAbs : Int) by omega, show b = -(b.natAbs : Int) by omega]; simp [Int.mul_neg]
    rw [hiP, loP, e]
    exact prod_neg hx.out hl hbd.out hL hk.out
  have HC := Lib.hid C
  have HS1 := Lib.hid S1
  have HS2 := Lib.hid S2
  clear C S1 S2 hxa hyb hk hbd hx
  by_cases ha : a < 0
  · have da := dec_lt_t ha
    by_cases hb : b < 0
    · have db := dec_lt_t hb
      have R := Lib.hid (R1.out (.inl ⟨ha, hb⟩))
      clear R1 R2 ha hb E1 E2
      go_enter Try.func132, Try.ntmps132
      go_wp2_with (fail)
      refine (HS1.out _).mono ?_; rintro e w' ⟨rfl, rfl⟩
      go_wp2_with (fail)
      refine (HS2.out _).mono ?_; rintro e w' ⟨rfl, rfl⟩
      go_wp2_with (fail)
      refine (HC.out _).mono ?_; rintro e w' ⟨rfl, rfl⟩
      go_wp2
      go_ret2
      exact ⟨ret2 R.out.1 R.out.2, rfl⟩
    · have db := dec_lt_f (Int.not_lt.1 hb)
      have R := Lib.hid (R2.out (.inl ⟨ha, hb⟩))
      clear R1 R2 ha hb
      go_enter Try.func132, Try.ntmps132
      go_wp2_with (fail)
      refine (HS1.out _).mono ?_; rintro e w' ⟨rfl, rfl⟩
      go_wp2_with (fail)
      refine (HS2.out _).mono ?_; rintro e w' ⟨rfl, rfl⟩
      go_wp2_with (fail)
      refine (HC.out _).mono ?_; rintro e w' ⟨rfl, rfl⟩
      go_wp2
      go_ret2
      exact ⟨ret2 R.out.1 R.out.2, rfl⟩
  · have da := dec_lt_f (Int.not_lt.1 ha)
    by_cases hb : b < 0
    · have db := dec_lt_t hb
      have R := Lib.hid (R2.out (.inr ⟨ha, hb⟩))
      clear R1 R2 ha hb
      go_enter Try.func132, Try.ntmps132
      go_wp2_with (fail)
      refine (HS1.out _).mono ?_; rintro e w' ⟨rfl, rfl⟩
      go_wp2_with (fail)
      refine (HS2.out _).mono ?_; rintro e w' ⟨rfl, rfl⟩
      go_wp2_with (fail)
      refine (HC.out _).mono ?_; rintro e w' ⟨rfl, rfl⟩
      go_wp2
      go_ret2
      exact ⟨ret2 R.out.1 R.out.2, rfl⟩
    · have db := dec_lt_f (Int.not_lt.1 hb)
      have R := Lib.hid (R1.out (.inr ⟨ha, hb⟩))
      clear R1 R2 ha hb E1 E2
      go_enter Try.func132, Try.ntmps132
      go_wp2_with (fail)
      refine (HS1.out _).mono ?_; rintro e w' ⟨rfl, rfl⟩
      go_wp2_with (fail)
      refine (HS2.out _).mono ?_; rintro e w' ⟨rfl, rfl⟩
      go_wp2_with (fail)
      refine (HC.out _).mono ?_; rintro e w' ⟨rfl, rfl⟩
      go_wp2
      go_ret2
      exact ⟨ret2 R.out.1 R.out.2, rfl⟩
end Go.Proofs.Ytlcbpckinjkfeaa
