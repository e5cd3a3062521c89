/- Plain laws of whole numbers: quotients rounded down beside those cut off. No condition. -/
import Derived.WalkKit
namespace Go.Proofs.YtccbhblklhmcpaaGreatDoor
open Go Go.RowKit

theorem tdiv_neg (n d : Int) (hd : 0 < d) (h : n.tmod d < 0) : n / d = n.tdiv d - 1 ∧ n % d = n.tmod d + d := by
  have e := Int.mul_tdiv_add_tmod n d
  have l : -d < n.tmod d := by
    exact Int.lt_tmod_of_pos n hd
  have e2 : n = (n.tmod d + d) + d * (n.tdiv d - 1) := by rw [Int.mul_sub]; omega
  constructor
  · rw [e2, Int.add_mul_ediv_left _ _ (by omega : d ≠ 0), Int.ediv_eq_zero_of_lt (by omega) (by omega), ← e2]; omega
  · rw [e2, Int.add_mul_emod_self_left, Int.emod_eq_of_lt (by omega) (by omega), ← e2]
theorem tdiv_pos (n d : Int) (hd : 0 < d) (h : 0 ≤ n.tmod d) : n / d = n.tdiv d ∧ n % d = n.tmod d := by
  have e := Int.mul_tdiv_add_tmod n d
  have l : n.tmod d < d := Int.tmod_lt_of_pos n hd
  have e2 : n = n.tmod d + d * n.tdiv d := by omega
  constructor
  · conv => lhs; rw [e2]
    rw [Int.add_mul_ediv_left _ _ (by omega : d ≠ 0), Int.ediv_eq_zero_of_lt (by omega) (by omega)]; omega
  · conv => lhs; rw [e2]
    rw [Int.add_mul_emod_self_left, Int.emod_eq_of_lt (by omega) (by omega)]

theorem ediv_bd (n d : Int) (hd : 0 < d) (h1 : -9223372036854775808 ≤ n) (h2 : n ≤ 9223372036854775807) : -9223372036854775808 ≤ n / d ∧ n / d ≤ 9223372036854775807 := by
  constructor
  · apply Int.le_ediv_of_mul_le hd
    have : -9223372036854775808 * d ≤ -9223372036854775808 * 1 := by omega
    omega
  · have : n / d ≤ 9223372036854775807 / d := Int.ediv_le_ediv hd h2
    have := Int.ediv_le_self (a := 9223372036854775807) d (by omega)
    omega
theorem emod_bd (n d : Int) (hd : 0 < d) : 0 ≤ n % d ∧ n % d < d := ⟨Int.emod_nonneg _ (by omega), Int.emod_lt_of_pos _ hd⟩

theorem wrap64_id {a : Int} (h1 : -9223372036854775808 ≤ a) (h2 : a ≤ 9223372036854775807) : wrap64 a = a := by
  unfold wrap64; omega
theorem floor_neg (n d : Int) (hd : 0 < d) (hd2 : d ≤ 9223372036854775807) (h1 : -9223372036854775808 ≤ n) (h2 : n ≤ 9223372036854775807) (h : n.tmod d < 0) : wrap64 (n.tdiv d - 1) = n / d ∧ wrap64 (n.tmod d + d) = n % d := by
  have ⟨a, b⟩ := tdiv_neg n d hd h
  have := ediv_bd n d hd h1 h2
  have := emod_bd n d hd
  rw [← a, ← b]
  exact ⟨wrap64_id (by omega) (by omega), wrap64_id (by omega) (by omega)⟩
theorem floor_pos (n d : Int) (hd : 0 < d) (h : 0 ≤ n.tmod d) : n.tdiv d = n / d ∧ n.tmod d = n % d := by
  have ⟨a, b⟩ := tdiv_pos n d hd h
  exact ⟨a.symm, b.symm⟩

theorem tdiv_exact (n : Int) (g : Nat) (hg : 0 < g) (h : (g : Int) ∣ n) : n.tdiv g = n / g := by
  obtain ⟨k, rfl⟩ := h
  rw [Int.mul_tdiv_cancel_left _ (by omega), Int.mul_ediv_cancel_left _ (by omega)]
theorem gcd_dvd_l (n d : Int) : ((Nat.gcd n.natAbs d.natAbs : Nat) : Int) ∣ n := by
  have := Int.natCast_dvd_natCast.2 (Nat.gcd_dvd_left n.natAbs d.natAbs)
  exact Int.dvd_natAbs.1 this
theorem gcd_dvd_r (n d : Int) : ((Nat.gcd n.natAbs d.natAbs : Nat) : Int) ∣ d := by
  have := Int.natCast_dvd_natCast.2 (Nat.gcd_dvd_right n.natAbs d.natAbs)
  exact Int.dvd_natAbs.1 this
theorem ediv_bd' (n : Int) (g : Nat) (hg : 0 < g) (h1 : -9223372036854775808 ≤ n) (h2 : n ≤ 9223372036854775807) : -9223372036854775808 ≤ n / g ∧ n / g ≤ 9223372036854775807 := ediv_bd n g (by omega) h1 h2
theorem ediv_pos' (d : Int) (g : Nat) (hg : 0 < g) (hd : 0 < d) (h : (g : Int) ∣ d) : 0 < d / g := by
  obtain ⟨k, rfl⟩ := h
  rw [Int.mul_ediv_cancel_left _ (by omega)]
  exact Int.pos_of_mul_pos_right (by simpa using hd) (by omega) |> fun h => h

theorem bv_and_one (x : BitVec 64) : (x &&& 1#64).toNat = x.toNat % 2 := by
  rw [BitVec.toNat_and]
  show x.toNat &&& 1 = _
  exact Nat.and_one_is_mod _
theorem i64_and1 (n : Int) : bits .and .i64 n 1 = n % 2 := by
  show IntKind.i64.wrap ((BitVec.ofInt 64 n &&& BitVec.ofInt 64 1).toNat : Int) = _
  have e : (BitVec.ofInt 64 1) = 1#64 := by decide
  rw [e, bv_and_one, BitVec.toNat_ofInt, IntKind.wrap_i64]
  omega
theorem nat_or_one (a : Nat) : (2 * a) ||| 1 = 2 * a + 1 := by
  have := Nat.two_pow_add_eq_or_of_lt (i := 1) (b := 1) (by decide) a
  simpa using this.symm
theorem i64_or1 (c : Int) (h1 : -2305843009213693952 ≤ c) (h2 : c ≤ 2305843009213693952) : bits .or .i64 (c * 2) 1 = 2 * c + 1 := by
  show IntKind.i64.wrap ((BitVec.ofInt 64 (c * 2) ||| BitVec.ofInt 64 1).toNat : Int) = _
  have e : (BitVec.ofInt 64 1).toNat = 1 := by decide
  have f : (BitVec.ofInt 64 (c * 2)).toNat = 2 * ((c % 9223372036854775808).toNat) := by
    rw [BitVec.toNat_ofInt]; omega
  rw [BitVec.toNat_or, e, f, nat_or_one, IntKind.wrap_i64]
  omega
end Go.Proofs.YtccbhblklhmcpaaGreatDoor
