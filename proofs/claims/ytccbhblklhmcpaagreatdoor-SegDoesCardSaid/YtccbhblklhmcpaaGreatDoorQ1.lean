/- Numbers as texts: plain words, and the law that a number's text is read back. -/
import Derived.Lib.ItoaNum
import Derived.Lib.Join
import Derived.Lib.AtoiAllCases
namespace Go.Proofs.YtccbhblklhmcpaaGreatDoor
set_option linter.unusedSimpArgs false
set_option linter.unusedVariables false
open Go

def isD (c : UInt8) : Bool := decide (48 ≤ c.toNat ∧ c.toNat ≤ 57)
def valD (acc : Nat) : List UInt8 → Nat
  | [] => acc
  | c :: r => valD (acc * 10 + (c.toNat - 48)) r
/-- A number without a sign, as it is written. -/
def canonD (l : List UInt8) : Bool := l.all isD && (decide (l = [48]) || (!l.isEmpty && decide (l.head? ≠ some 48)))
/-- A number, as it is written. -/
def canonT (l : List UInt8) : Bool := if l.head? = some 45 then canonD l.tail && decide (l.tail ≠ [48]) else canonD l
def valT (l : List UInt8) : Int := if l.head? = some 45 then -(valD 0 l.tail : Int) else valD 0 l
theorem valD_app : ∀ (l : List UInt8) (acc : Nat) (c : UInt8), valD acc (l ++ [c]) = valD acc l * 10 + (c.toNat - 48)
  | [], acc, c => rfl
  | a :: l, acc, c => by
    rw [List.cons_append]
    unfold valD
    exact valD_app l _ c
theorem isD_digit (d : Nat) (h : d < 10) : isD (UInt8.ofNat (48 + d)) = true ∧ (UInt8.ofNat (48 + d)).toNat - 48 = d := by
  have : d = 0 ∨ d = 1 ∨ d = 2 ∨ d = 3 ∨ d = 4 ∨ d = 5 ∨ d = 6 ∨ d = 7 ∨ d = 8 ∨ d = 9 := by omega
  rcases this with rfl | rfl | rfl | rfl | rfl | rfl | rfl | rfl | rfl | rfl <;> decide
theorem digit_of_isD {c : UInt8} (h : isD c = true) : c = UInt8.ofNat (48 + (c.toNat - 48)) ∧ c.toNat - 48 < 10 := by
  unfold isD at h
  have h := of_decide_eq_true h
  refine ⟨?_, by omega⟩
  rw [show 48 + (c.toNat - 48) = c.toNat by omega, UInt8.ofNat_toNat]
theorem dec_small {u : Nat} (h : u < 10) : Lib.decDigits u = [UInt8.ofNat (48 + u)] := by rw [Lib.decDigits, dif_pos h]
theorem dec_big {u d : Nat} (hu : 1 ≤ u) (h : d < 10) : Lib.decDigits (u * 10 + d) = Lib.decDigits u ++ [UInt8.ofNat (48 + d)] := by
  rw [Lib.decDigits, dif_neg (by omega), show (u * 10 + d) / 10 = u by omega, show (u * 10 + d) % 10 = d by omega]
theorem dec_canon (u : Nat) : (Lib.decDigits u).all isD = true ∧ valD 0 (Lib.decDigits u) = u ∧ Lib.decDigits u ≠ [] ∧ (1 ≤ u → (Lib.decDigits u).head? ≠ some 48) := by
  induction u using Nat.strongRecOn with
  | _ u ih =>
    by_cases h : u < 10
    · rw [dec_small h]
      obtain ⟨a, b⟩ := isD_digit u h
      obtain ⟨x, hx⟩ : ∃ x, x = UInt8.ofNat (48 + u) := ⟨_, rfl⟩
      rw [← hx] at a b ⊢
      refine ⟨by simp [a], ?_, by simp, fun h1 => ?_⟩
      · show 0 * 10 + (x.toNat - 48) = u
        omega
      · intro e
        simp only [List.head?_cons, Option.some.injEq] at e
        rw [e] at b
        have : (48 : UInt8).toNat - 48 = 0 := rfl
        omega
    · obtain ⟨a, b, c, d⟩ := ih (u / 10) (by omega)
      have e : u = u / 10 * 10 + u % 10 := by omega
      obtain ⟨a', b'⟩ := isD_digit (u % 10) (by omega)
      have ed : Lib.decDigits u = Lib.decDigits (u / 10) ++ [UInt8.ofNat (48 + u % 10)] := by
        have := dec_big (u := u / 10) (d := u % 10) (by omega) (by omega)
        rwa [← e] at this
      rw [ed]
      obtain ⟨x, hx⟩ : ∃ x, x = UInt8.ofNat (48 + u % 10) := ⟨_, rfl⟩
      rw [← hx] at a' b' ⊢
      refine ⟨by rw [List.all_append, a]; simp [a'], by rw [valD_app, b, b']; omega, by simp, fun _ => ?_⟩
      have := d (by omega)
      cases hl : Lib.decDigits (u / 10) with
      | nil => exact absurd hl c
      | cons x r => rw [hl] at this; simpa using this
theorem canon_dec (u : Nat) : canonD (Lib.decDigits u) = true := by
  obtain ⟨a, b, c, d⟩ := dec_canon u
  unfold canonD
  rw [a, Bool.true_and]
  by_cases h : u = 0
  · subst h; rw [dec_small (by omega)]; decide
  · have h1 := d (by omega)
    have : (Lib.decDigits u).isEmpty = false := by cases hl : Lib.decDigits u with
      | nil => exact absurd hl c
      | cons x r => rfl
    simp [this, h1]
theorem val_pos {l : List UInt8} (h : l.all isD = true) (h1 : l ≠ []) (h2 : l.head? ≠ some 48) : 1 ≤ valD 0 l := by
  have mono : ∀ (l : List UInt8) (acc : Nat), acc ≤ valD acc l := by
    intro l
    induction l with
    | nil => intro acc; exact Nat.le_refl _
    | cons c r ih => intro acc; unfold valD; have := ih (acc * 10 + (c.toNat - 48)); omega
  cases l with
  | nil => exact absurd rfl h1
  | cons c r =>
    unfold valD
    have hc : isD c = true := by simp [List.all_cons] at h; exact h.1
    have := mono r (0 * 10 + (c.toNat - 48))
    have h3 : c ≠ 48 := fun e => h2 (by rw [e]; rfl)
    have h4 : c.toNat ≠ 48 := fun e => h3 (UInt8.toNat_inj.1 e)
    unfold isD at hc
    have hc := of_decide_eq_true hc
    omega
theorem dec_val : ∀ (k : Nat) (l : List UInt8), l.length = k → canonD l = true → Lib.decDigits (valD 0 l) = l
  | 0, l, hk, h => by
    have : l = [] := List.length_eq_zero_iff.1 hk
    subst this
    exact absurd h (by decide)
  | k + 1, l, hk, h => by
    obtain ⟨m, c, rfl⟩ : ∃ m c, l = m ++ [c] := ⟨l.dropLast, l.getLast (by intro e; rw [e] at hk; cases hk), (List.dropLast_concat_getLast _).symm⟩
    have hall : (m ++ [c]).all isD = true := by unfold canonD at h; simp only [Bool.and_eq_true] at h; exact h.1
    have hm : m.all isD = true := by simp [List.all_append] at hall; simpa using hall.1
    have hc : isD c = true := by simp [List.all_append] at hall; exact hall.2
    obtain ⟨e, hlt⟩ := digit_of_isD hc
    rw [valD_app]
    cases hmm : m with
    | nil =>
      show Lib.decDigits (0 * 10 + (c.toNat - 48)) = [c]
      rw [Nat.zero_mul, Nat.zero_add, dec_small hlt, ← e]
    | cons x r =>
      rw [← hmm]
      have hne : m ≠ [] := by rw [hmm]; simp
      have hhead : m.head? ≠ some 48 := by
        unfold canonD at h
        simp only [Bool.and_eq_true, Bool.or_eq_true, decide_eq_true_eq] at h
        rcases h.2 with h2 | ⟨_, h2⟩
        · rw [hmm] at h2; simp at h2
        · rw [hmm] at h2 ⊢; simpa using h2
      have hp := val_pos hm hne hhead
      have hcm : canonD m = true := by
        unfold canonD
        rw [hm]
        have : m.isEmpty = false := by rw [hmm]; rfl
        simp [this, hhead]
      rw [dec_big hp hlt, dec_val k m (by simp at hk; exact hk) hcm, ← e]
/-- A number's text is read back. -/
theorem canon_itoa (n : Int) : canonT (Lib.itoa n) = true ∧ valT (Lib.itoa n) = n := by
  unfold Lib.itoa
  split
  · rename_i h
    obtain ⟨a, b, c, d⟩ := dec_canon n.natAbs
    have h1 := d (by omega)
    refine ⟨?_, ?_⟩
    · unfold canonT
      rw [if_pos (by rfl)]
      rw [List.tail_cons, canon_dec, Bool.true_and]
      exact decide_eq_true (fun e => by rw [e] at h1; exact h1 rfl)
    · unfold valT
      rw [if_pos (by rfl), List.tail_cons, b]; omega
  · rename_i h
    obtain ⟨a, b, c, d⟩ := dec_canon n.toNat
    have hh : ¬ (Lib.decDigits n.toNat).head? = some 45 := by
      cases hl : Lib.decDigits n.toNat with
      | nil => exact absurd hl c
      | cons x r =>
        rw [hl] at a
        simp only [List.all_cons, Bool.and_eq_true] at a
        intro e
        simp only [List.head?_cons, Option.some.injEq] at e
        rw [e] at a
        exact absurd a.1 (by decide)
    refine ⟨?_, ?_⟩
    · unfold canonT; rw [if_neg hh]; exact canon_dec _
    · unfold valT; rw [if_neg hh, b]; omega
theorem itoa_val {l : List UInt8} (h : canonT l = true) : Lib.itoa (valT l) = l := by
  unfold canonT at h
  unfold valT
  split at h
  · rename_i hh
    rw [if_pos hh]
    simp only [Bool.and_eq_true, decide_eq_true_eq] at h
    obtain ⟨h1, h2⟩ := h
    obtain ⟨r, rfl⟩ : ∃ r, l = 45 :: r := by
      cases l with
      | nil => cases hh
      | cons x r => simp only [List.head?_cons, Option.some.injEq] at hh; exact ⟨r, by rw [hh]⟩
    simp only [List.tail_cons] at h1 h2 ⊢
    have e := dec_val _ r rfl h1
    have hp : 1 ≤ valD 0 r := by
      have h1' := h1
      unfold canonD at h1'
      simp only [Bool.and_eq_true, Bool.or_eq_true, decide_eq_true_eq] at h1'
      rcases h1'.2 with h3 | ⟨h3, h4⟩
      · exact absurd h3 h2
      · exact val_pos h1'.1 (by intro e; rw [e] at h3; cases h3) h4
    unfold Lib.itoa
    rw [if_pos (by omega), show (-(valD 0 r : Int)).natAbs = valD 0 r by omega, e]
  · rename_i hh
    rw [if_neg hh]
    unfold Lib.itoa
    rw [if_neg (by omega), Int.toNat_natCast, dec_val _ l rfl h]
/-- What strconv.Atoi makes of digits. -/
theorem parse_digits : ∀ (l : List UInt8) (acc : Nat), l.all isD = true → acc < 18446744073709551616 → Lib.parseUint10 acc l = if valD acc l < 18446744073709551616 then .ok (valD acc l) else .range
  | [], acc, _, h => by rw [if_pos (by exact h)]; rfl
  | c :: r, acc, h, ha => by
    have mono : ∀ (l : List UInt8) (acc : Nat), acc ≤ valD acc l := by
      intro l
      induction l with
      | nil => intro acc; exact Nat.le_refl _
      | cons c r ih => intro acc; unfold valD; have := ih (acc * 10 + (c.toNat - 48)); omega
    simp only [List.all_cons, Bool.and_eq_true] at h
    have hc := h.1
    unfold isD at hc
    have hc := of_decide_eq_true hc
    have hm := mono r (acc * 10 + (c.toNat - 48))
    show Lib.parseUint10 acc (c :: r) = if valD (acc * 10 + (c.toNat - 48)) r < 18446744073709551616 then .ok (valD (acc * 10 + (c.toNat - 48)) r) else .range
    unfold Lib.parseUint10
    rw [if_pos hc]
    split
    · rw [if_neg (by omega)]
    · split
      · rw [if_neg (by omega)]
      · exact parse_digits r _ h.2 (by omega)
theorem canonD_ne {l : List UInt8} (h : canonD l = true) : l ≠ [] ∧ l.all isD = true := by
  unfold canonD at h
  simp only [Bool.and_eq_true, Bool.or_eq_true, decide_eq_true_eq] at h
  refine ⟨?_, h.1⟩
  rintro rfl
  rcases h.2 with h2 | ⟨h2, _⟩
  · cases h2
  · cases h2
theorem canonT_neg (r : List UInt8) : canonT (45 :: r) = (canonD r && decide (r ≠ [48])) := by
  unfold canonT; rw [if_pos (by rfl)]; rfl
theorem valT_neg (r : List UInt8) : valT (45 :: r) = -(valD 0 r : Int) := by
  unfold valT; rw [if_pos (by rfl)]; rfl
theorem canonT_pos {l : List UInt8} (h : ¬ l.head? = some 45) : canonT l = canonD l := by
  unfold canonT; rw [if_neg h]
theorem valT_pos {l : List UInt8} (h : ¬ l.head? = some 45) : valT l = valD 0 l := by
  unfold valT; rw [if_neg h]
theorem atoi_canon {l : List UInt8} (h : canonT l = true) : Lib.atoiAll l = if -9223372036854775808 ≤ valT l ∧ valT l ≤ 9223372036854775807 then .ok (valT l) else .range := by
  by_cases hh : l.head? = some 45
  · obtain ⟨r, rfl⟩ : ∃ r, l = 45 :: r := by
      cases l with
      | nil => cases hh
      | cons x r => simp only [List.head?_cons, Option.some.injEq] at hh; exact ⟨r, by rw [hh]⟩
    rw [canonT_neg, Bool.and_eq_true] at h
    obtain ⟨hne, hall⟩ := canonD_ne h.1
    rw [valT_neg, Lib.atoiAll_minus]
    unfold Lib.parseMag
    rw [if_neg hne, parse_digits r 0 hall (by omega)]
    obtain ⟨v, hv⟩ : ∃ v, v = valD 0 r := ⟨_, rfl⟩
    rw [← hv]
    by_cases h1 : v < 18446744073709551616
    · rw [if_pos h1]
      unfold Lib.signed
      by_cases h2 : 9223372036854775808 < v
      · simp only [if_pos h2]; rw [if_neg (by omega)]
      · simp only [if_neg h2]; rw [if_pos (by omega)]
    · rw [if_neg h1, if_neg (by omega)]; rfl
  · rw [canonT_pos hh] at h
    rw [valT_pos hh]
    obtain ⟨hne, hall⟩ := canonD_ne h
    obtain ⟨c, r, rfl⟩ : ∃ c r, l = c :: r := by
      cases l with
      | nil => exact absurd rfl hne
      | cons x r => exact ⟨x, r, rfl⟩
    have hc : isD c = true := by simp only [List.all_cons, Bool.and_eq_true] at hall; exact hall.1
    unfold isD at hc
    have hc := of_decide_eq_true hc
    rw [Lib.atoiAll_plain c r (by omega) (by omega)]
    unfold Lib.parseMag
    rw [if_neg hne, parse_digits (c :: r) 0 hall (by omega)]
    obtain ⟨v, hv⟩ : ∃ v, v = valD 0 (c :: r) := ⟨_, rfl⟩
    rw [← hv]
    by_cases h1 : v < 18446744073709551616
    · rw [if_pos h1]
      unfold Lib.signless
      by_cases h2 : 9223372036854775808 ≤ v
      · simp only [if_pos h2]; rw [if_neg (by omega)]
      · simp only [if_neg h2]; rw [if_pos (by omega)]
    · rw [if_neg h1, if_neg (by omega)]; rfl
#print axioms atoi_canon
end Go.Proofs.YtccbhblklhmcpaaGreatDoor
