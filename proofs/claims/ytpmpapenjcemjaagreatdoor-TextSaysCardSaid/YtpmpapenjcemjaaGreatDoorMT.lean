/- Zones as texts: plain words, and the law that a number's text is read back. Zones as texts: plain words of reading; a text that is read is what is read, written anew. -/
import Derived.Test.YtpmpapenjcemjaaGreatDoorH5
import Derived.Lib.ItoaNum
import Derived.Lib.Join
import Derived.Lib.AtoiAllCases
import Derived.Lib.IndexMore
import Derived.Lib.CutLaws
namespace Go.Proofs.YtpmpapenjcemjaaGreatDoor
set_option linter.unusedSimpArgs false
set_option linter.unusedVariables false
open Go

def isD (c : UInt8) : Bool := decide (48 ≤ c.toNat ∧ c.toNat ≤ 57)
def valD (acc : Nat) : List UInt8 → Nat
  | [] => acc
  | c :: r => valD (acc * 10 + (c.toNat - 48)) r
/-- A number without a sign, as it is written. -/
def canonD (l : List UInt8) : Bool := l.all isD && (decide (l = [48]) || (!l.isEmpty && decide (l.head? ≠ some 48)))
/-- A number, as it is written. -/
def canonT (l : List UInt8) : Bool := if l.head? = some 45 then canonD l.tail && decide (l.tail ≠ [48]) else canonD l
def valT (l : List UInt8) : Int := if l.head? = some 45 then -(valD 0 l.tail : Int) else valD 0 l
theorem valD_app : ∀ (l : List UInt8) (acc : Nat) (c : UInt8), valD acc (l ++ [c]) = valD acc l * 10 + (c.toNat - 48)
  | [], acc, c => rfl
  | a :: l, acc, c => by
    rw [List.cons_append]
    unfold valD
    exact valD_app l _ c
theorem isD_digit (d : Nat) (h : d < 10) : isD (UInt8.ofNat (48 + d)) = true ∧ (UInt8.ofNat (48 + d)).toNat - 48 = d := by
  have : d = 0 ∨ d = 1 ∨ d = 2 ∨ d = 3 ∨ d = 4 ∨ d = 5 ∨ d = 6 ∨ d = 7 ∨ d = 8 ∨ d = 9 := by omega
  rcases this with rfl | rfl | rfl | rfl | rfl | rfl | rfl | rfl | rfl | rfl <;> decide
theorem digit_of_isD {c : UInt8} (h : isD c = true) : c = UInt8.ofNat (48 + (c.toNat - 48)) ∧ c.toNat - 48 < 10 := by
  unfold isD at h
  have h := of_decide_eq_true h
  refine ⟨?_, by omega⟩
  rw [show 48 + (c.toNat - 48) = c.toNat by omega, UInt8.ofNat_toNat]
theorem dec_small {u : Nat} (h : u < 10) : Lib.decDigits u = [UInt8.ofNat (48 + u)] := by rw [Lib.decDigits, dif_pos h]
theorem dec_big {u d : Nat} (hu : 1 ≤ u) (h : d < 10) : Lib.decDigits (u * 10 + d) = Lib.decDigits u ++ [UInt8.ofNat (48 + d)] := by
  rw [Lib.decDigits, dif_neg (by omega), show (u * 10 + d) / 10 = u by omega, show (u * 10 + d) % 10 = d by omega]
theorem dec_canon (u : Nat) : (Lib.decDigits u).all isD = true ∧ valD 0 (Lib.decDigits u) = u ∧ Lib.decDigits u ≠ [] ∧ (1 ≤ u → (Lib.decDigits u).head? ≠ some 48) := by
  induction u using Nat.strongRecOn with
  | _ u ih =>
    by_cases h : u < 10
    · rw [dec_small h]
      obtain ⟨a, b⟩ := isD_digit u h
      obtain ⟨x, hx⟩ : ∃ x, x = UInt8.ofNat (48 + u) := ⟨_, rfl⟩
      rw [← hx] at a b ⊢
      refine ⟨by simp [a], ?_, by simp, fun h1 => ?_⟩
      · show 0 * 10 + (x.toNat - 48) = u
        omega
      · intro e
        simp only [List.head?_cons, Option.some.injEq] at e
        rw [e] at b
        have : (48 : UInt8).toNat - 48 = 0 := rfl
        omega
    · obtain ⟨a, b, c, d⟩ := ih (u / 10) (by omega)
      have e : u = u / 10 * 10 + u % 10 := by omega
      obtain ⟨a', b'⟩ := isD_digit (u % 10) (by omega)
      have ed : Lib.decDigits u = Lib.decDigits (u / 10) ++ [UInt8.ofNat (48 + u % 10)] := by
        have := dec_big (u := u / 10) (d := u % 10) (by omega) (by omega)
        rwa [← e] at this
      rw [ed]
      obtain ⟨x, hx⟩ : ∃ x, x = UInt8.ofNat (48 + u % 10) := ⟨_, rfl⟩
      rw [← hx] at a' b' ⊢
      refine ⟨by rw [List.all_append, a]; simp [a'], by rw [valD_app, b, b']; omega, by simp, fun _ => ?_⟩
      have := d (by omega)
      cases hl : Lib.decDigits (u / 10) with
      | nil => exact absurd hl c
      | cons x r => rw [hl] at this; simpa using this
theorem canon_dec (u : Nat) : canonD (Lib.decDigits u) = true := by
  obtain ⟨a, b, c, d⟩ := dec_canon u
  unfold canonD
  rw [a, Bool.true_and]
  by_cases h : u = 0
  · subst h; rw [dec_small (by omega)]; decide
  · have h1 := d (by omega)
    have : (Lib.decDigits u).isEmpty = false := by cases hl : Lib.decDigits u with
      | nil => exact absurd hl c
      | cons x r => rfl
    simp [this, h1]
theorem val_pos {l : List UInt8} (h : l.all isD = true) (h1 : l ≠ []) (h2 : l.head? ≠ some 48) : 1 ≤ valD 0 l := by
  have mono : ∀ (l : List UInt8) (acc : Nat), acc ≤ valD acc l := by
    intro l
    induction l with
    | nil => intro acc; exact Nat.le_refl _
    | cons c r ih => intro acc; unfold valD; have := ih (acc * 10 + (c.toNat - 48)); omega
  cases l with
  | nil => exact absurd rfl h1
  | cons c r =>
    unfold valD
    have hc : isD c = true := by simp [List.all_cons] at h; exact h.1
    have := mono r (0 * 10 + (c.toNat - 48))
    have h3 : c ≠ 48 := fun e => h2 (by rw [e]; rfl)
    have h4 : c.toNat ≠ 48 := fun e => h3 (UInt8.toNat_inj.1 e)
    unfold isD at hc
    have hc := of_decide_eq_true hc
    omega
theorem dec_val : ∀ (k : Nat) (l : List UInt8), l.length = k → canonD l = true → Lib.decDigits (valD 0 l) = l
  | 0, l, hk, h => by
    have : l = [] := List.length_eq_zero_iff.1 hk
    subst this
    exact absurd h (by decide)
  | k + 1, l, hk, h => by
    obtain ⟨m, c, rfl⟩ : ∃ m c, l = m ++ [c] := ⟨l.dropLast, l.getLast (by intro e; rw [e] at hk; cases hk), (List.dropLast_concat_getLast _).symm⟩
    have hall : (m ++ [c]).all isD = true := by unfold canonD at h; simp only [Bool.and_eq_true] at h; exact h.1
    have hm : m.all isD = true := by simp [List.all_append] at hall; simpa using hall.1
    have hc : isD c = true := by simp [List.all_append] at hall; exact hall.2
    obtain ⟨e, hlt⟩ := digit_of_isD hc
    rw [valD_app]
    cases hmm : m with
    | nil =>
      show Lib.decDigits (0 * 10 + (c.toNat - 48)) = [c]
      rw [Nat.zero_mul, Nat.zero_add, dec_small hlt, ← e]
    | cons x r =>
      rw [← hmm]
      have hne : m ≠ [] := by rw [hmm]; simp
      have hhead : m.head? ≠ some 48 := by
        unfold canonD at h
        simp only [Bool.and_eq_true, Bool.or_eq_true, decide_eq_true_eq] at h
        rcases h.2 with h2 | ⟨_, h2⟩
        · rw [hmm] at h2; simp at h2
        · rw [hmm] at h2 ⊢; simpa using h2
      have hp := val_pos hm hne hhead
      have hcm : canonD m = true := by
        unfold canonD
        rw [hm]
        have : m.isEmpty = false := by rw [hmm]; rfl
        simp [this, hhead]
      rw [dec_big hp hlt, dec_val k m (by simp at hk; exact hk) hcm, ← e]
/-- A number's text is read back. -/
theorem canon_itoa (n : Int) : canonT (Lib.itoa n) = true ∧ valT (Lib.itoa n) = n := by
  unfold Lib.itoa
  split
  · rename_i h
    obtain ⟨a, b, c, d⟩ := dec_canon n.natAbs
    have h1 := d (by omega)
    refine ⟨?_, ?_⟩
    · unfold canonT
      rw [if_pos (by rfl)]
      rw [List.tail_cons, canon_dec, Bool.true_and]
      exact decide_eq_true (fun e => by rw [e] at h1; exact h1 rfl)
    · unfold valT
      rw [if_pos (by rfl), List.tail_cons, b]; omega
  · rename_i h
    obtain ⟨a, b, c, d⟩ := dec_canon n.toNat
    have hh : ¬ (Lib.decDigits n.toNat).head? = some 45 := by
      cases hl : Lib.decDigits n.toNat with
      | nil => exact absurd hl c
      | cons x r =>
        rw [hl] at a
        simp only [List.all_cons, Bool.and_eq_true] at a
        intro e
        simp only [List.head?_cons, Option.some.injEq] at e
        rw [e] at a
        exact absurd a.1 (by decide)
    refine ⟨?_, ?_⟩
    · unfold canonT; rw [if_neg hh]; exact canon_dec _
    · unfold valT; rw [if_neg hh, b]; omega
theorem itoa_val {l : List UInt8} (h : canonT l = true) : Lib.itoa (valT l) = l := by
  unfold canonT at h
  unfold valT
  split at h
  · rename_i hh
    rw [if_pos hh]
    simp only [Bool.and_eq_true, decide_eq_true_eq] at h
    obtain ⟨h1, h2⟩ := h
    obtain ⟨r, rfl⟩ : ∃ r, l = 45 :: r := by
      cases l with
      | nil => cases hh
      | cons x r => simp only [List.head?_cons, Option.some.injEq] at hh; exact ⟨r, by rw [hh]⟩
    simp only [List.tail_cons] at h1 h2 ⊢
    have e := dec_val _ r rfl h1
    have hp : 1 ≤ valD 0 r := by
      have h1' := h1
      unfold canonD at h1'
      simp only [Bool.and_eq_true, Bool.or_eq_true, decide_eq_true_eq] at h1'
      rcases h1'.2 with h3 | ⟨h3, h4⟩
      · exact absurd h3 h2
      · exact val_pos h1'.1 (by intro e; rw [e] at h3; cases h3) h4
    unfold Lib.itoa
    rw [if_pos (by omega), show (-(valD 0 r : Int)).natAbs = valD 0 r by omega, e]
  · rename_i hh
    rw [if_neg hh]
    unfold Lib.itoa
    rw [if_neg (by omega), Int.toNat_natCast, dec_val _ l rfl h]
/-- What strconv.Atoi makes of digits. -/
theorem parse_digits : ∀ (l : List UInt8) (acc : Nat), l.all isD = true → acc < 18446744073709551616 → Lib.parseUint10 acc l = if valD acc l < 18446744073709551616 then .ok (valD acc l) else .range
  | [], acc, _, h => by rw [if_pos (by exact h)]; rfl
  | c :: r, acc, h, ha => by
    have mono : ∀ (l : List UInt8) (acc : Nat), acc ≤ valD acc l := by
      intro l
      induction l with
      | nil => intro acc; exact Nat.le_refl _
      | cons c r ih => intro acc; unfold valD; have := ih (acc * 10 + (c.toNat - 48)); omega
    simp only [List.all_cons, Bool.and_eq_true] at h
    have hc := h.1
    unfold isD at hc
    have hc := of_decide_eq_true hc
    have hm := mono r (acc * 10 + (c.toNat - 48))
    show Lib.parseUint10 acc (c :: r) = if valD (acc * 10 + (c.toNat - 48)) r < 18446744073709551616 then .ok (valD (acc * 10 + (c.toNat - 48)) r) else .range
    unfold Lib.parseUint10
    rw [if_pos hc]
    split
    · rw [if_neg (by omega)]
    · split
      · rw [if_neg (by omega)]
      · exact parse_digits r _ h.2 (by omega)
theorem canonD_ne {l : List UInt8} (h : canonD l = true) : l ≠ [] ∧ l.all isD = true := by
  unfold canonD at h
  simp only [Bool.and_eq_true, Bool.or_eq_true, decide_eq_true_eq] at h
  refine ⟨?_, h.1⟩
  rintro rfl
  rcases h.2 with h2 | ⟨h2, _⟩
  · cases h2
  · cases h2
theorem canonT_neg (r : List UInt8) : canonT (45 :: r) = (canonD r && decide (r ≠ [48])) := by
  unfold canonT; rw [if_pos (by rfl)]; rfl
theorem valT_neg (r : List UInt8) : valT (45 :: r) = -(valD 0 r : Int) := by
  unfold valT; rw [if_pos (by rfl)]; rfl
theorem canonT_pos {l : List UInt8} (h : ¬ l.head? = some 45) : canonT l = canonD l := by
  unfold canonT; rw [if_neg h]
theorem valT_pos {l : List UInt8} (h : ¬ l.head? = some 45) : valT l = valD 0 l := by
  unfold valT; rw [if_neg h]
theorem atoi_canon {l : List UInt8} (h : canonT l = true) : Lib.atoiAll l = if -9223372036854775808 ≤ valT l ∧ valT l ≤ 9223372036854775807 then .ok (valT l) else .range := by
  by_cases hh : l.head? = some 45
  · obtain ⟨r, rfl⟩ : ∃ r, l = 45 :: r := by
      cases l with
      | nil => cases hh
      | cons x r => simp only [List.head?_cons, Option.some.injEq] at hh; exact ⟨r, by rw [hh]⟩
    rw [canonT_neg, Bool.and_eq_true] at h
    obtain ⟨hne, hall⟩ := canonD_ne h.1
    rw [valT_neg, Lib.atoiAll_minus]
    unfold Lib.parseMag
    rw [if_neg hne, parse_digits r 0 hall (by omega)]
    obtain ⟨v, hv⟩ : ∃ v, v = valD 0 r := ⟨_, rfl⟩
    rw [← hv]
    by_cases h1 : v < 18446744073709551616
    · rw [if_pos h1]
      unfold Lib.signed
      by_cases h2 : 9223372036854775808 < v
      · simp only [if_pos h2]; rw [if_neg (by omega)]
      · simp only [if_neg h2]; rw [if_pos (by omega)]
    · rw [if_neg h1, if_neg (by omega)]; rfl
  · rw [canonT_pos hh] at h
    rw [valT_pos hh]
    obtain ⟨hne, hall⟩ := canonD_ne h
    obtain ⟨c, r, rfl⟩ : ∃ c r, l = c :: r := by
      cases l with
      | nil => exact absurd rfl hne
      | cons x r => exact ⟨x, r, rfl⟩
    have hc : isD c = true := by simp only [List.all_cons, Bool.and_eq_true] at hall; exact hall.1
    unfold isD at hc
    have hc := of_decide_eq_true hc
    rw [Lib.atoiAll_plain c r (by omega) (by omega)]
    unfold Lib.parseMag
    rw [if_neg hne, parse_digits (c :: r) 0 hall (by omega)]
    obtain ⟨v, hv⟩ : ∃ v, v = valD 0 (c :: r) := ⟨_, rfl⟩
    rw [← hv]
    by_cases h1 : v < 18446744073709551616
    · rw [if_pos h1]
      unfold Lib.signless
      by_cases h2 : 9223372036854775808 ≤ v
      · simp only [if_pos h2]; rw [if_neg (by omega)]
      · simp only [if_neg h2]; rw [if_pos (by omega)]
    · rw [if_neg h1, if_neg (by omega)]; rfl
#print axioms atoi_canon
end Go.Proofs.YtpmpapenjcemjaaGreatDoor

namespace Go.Proofs.YtpmpapenjcemjaaGreatDoor
set_option linter.unusedSimpArgs false
set_option linter.unusedVariables false
open Go

/-- The lower end that a bound tells, as it is written: bracket and number. -/
def lowT (b : Int) : List UInt8 := if b = noneB then [40, 45, 111, 111] else (if b % 2 = 1 then 91 else 40) :: Lib.itoa (-(b / 2))
/-- The upper end. -/
def highT (b : Int) : List UInt8 := if b = noneB then [111, 111, 41] else Lib.itoa (b / 2) ++ [if b % 2 = 1 then 93 else 41]
def ivT (lo hi : Int) : List UInt8 := lowT lo ++ 44 :: highT hi
/-- A zone's text. -/
def oneT (z : Nat → Int) : List UInt8 := ivT (z 1) (z 0) ++ (ivT (z 3) (z 2) ++ ivT (z 5) (z 4))
/-- Zones' text, or the error. -/
def printT (L : List (Nat → Int)) : List UInt8 × Int :=
  if 4096 < L.length then ([], 4) else if L.all okZ then (Lib.join (L.map oneT) [32], 0) else ([], 8)

/-- The error of a number's text. -/
def numE (l : List UInt8) : Int := if -2305843009213693952 ≤ valT l ∧ valT l ≤ 2305843009213693952 then 0 else 151
def loEnd (c : UInt8) (l : List UInt8) : Int × Int :=
  if c = 40 ∧ l = [45, 111, 111] then (0, noneB)
  else if (c = 40 ∨ c = 91) ∧ canonT l = true then (numE l, 2 * -(valT l) + (if c = 91 then 1 else 0))
  else (170, 0)
def hiEnd (c : UInt8) (l : List UInt8) : Int × Int :=
  if c = 41 ∧ l = [111, 111] then (0, noneB)
  else if (c = 41 ∨ c = 93) ∧ canonT l = true then (numE l, 2 * valT l + (if c = 93 then 1 else 0))
  else (170, 0)
/-- A text is cut behind its first byte of a kind. -/
def cutC (c : UInt8) : List UInt8 → Option (List UInt8 × List UInt8)
  | [] => none
  | x :: r => if x = c then some ([], r) else (cutC c r).map fun p => (x :: p.1, p.2)
/-- An interval's text: the error, and the bounds of its lower and its upper end. -/
def ivR (s : List UInt8) : Int × Int × Int :=
  if s.length < 2 then (170, 0, 0) else
  match cutC 44 s.tail.dropLast with
  | none => (170, 0, 0)
  | some (a, b) =>
    if (loEnd (s.headD 0) a).1 = 170 ∨ (hiEnd (s.getLastD 0) b).1 = 170 then (170, 0, 0)
    else (max (loEnd (s.headD 0) a).1 (hiEnd (s.getLastD 0) b).1, (loEnd (s.headD 0) a).2, (hiEnd (s.getLastD 0) b).2)
/-- The texts that end with a bracket, one behind the other. -/
def piecesT : List UInt8 → List (List UInt8)
  | [] => []
  | x :: r => if x = 41 ∨ x = 93 then [x] :: piecesT r else match piecesT r with
    | [] => [[x]]
    | p :: ps => (x :: p) :: ps
def zoneZ (s : List UInt8) : Nat → Int := fun i => match piecesT s with
  | [a, b, c] => (match i with | 0 => (ivR a).2.2 | 1 => (ivR a).2.1 | 2 => (ivR b).2.2 | 3 => (ivR b).2.1 | 4 => (ivR c).2.2 | _ => (ivR c).2.1)
  | _ => 0
def zoneE (s : List UInt8) : Int := match piecesT s with
  | [a, b, c] =>
    if (ivR a).1 = 170 ∨ (ivR b).1 = 170 ∨ (ivR c).1 = 170 then 170
    else if (ivR a).1 = 0 ∧ (ivR b).1 = 0 ∧ (ivR c).1 = 0 then (if okZ (zoneZ s) then 0 else 8) else 151
  | _ => 170
/-- A text's parts between a byte. -/
def splitB (c : UInt8) : List UInt8 → List (List UInt8)
  | [] => [[]]
  | x :: r => if x = c then [] :: splitB c r else match splitB c r with
    | [] => [[x]]
    | p :: ps => (x :: p) :: ps
/-- Texts of zones, from a place on, behind zones that were read. -/
def readT : List (List UInt8) → Int → List (Nat → Int) → List (Nat → Int) × Int × Int
  | [], _, acc => (acc, 0, 0)
  | s :: r, at_, acc => if zoneE s = 0 then readT r (at_ + (s.length + 1)) (acc ++ [zoneZ s]) else ([], at_, zoneE s)
def parseT (s : List UInt8) : List (Nat → Int) × Int × Int :=
  if 1048576 < s.length then ([], 0, 3) else if s = [] then ([], 0, 0) else if 4096 < (splitB 32 s).length then ([], 0, 4) else readT (splitB 32 s) 0 []

theorem splitB_ne (c : UInt8) : ∀ l, splitB c l ≠ []
  | [] => by simp [splitB]
  | x :: r => by
    unfold splitB
    split
    · simp
    · split <;> simp
theorem join_cons (x : List UInt8) (xs : List (List UInt8)) (h : xs ≠ []) (sep : List UInt8) : Lib.join (x :: xs) sep = x ++ (sep ++ Lib.join xs sep) := by
  cases xs with
  | nil => exact absurd rfl h
  | cons y ys => simp [Lib.join, List.intercalate, List.intersperse]
theorem join_single (x : List UInt8) (sep : List UInt8) : Lib.join [x] sep = x := by simp [Lib.join, List.intercalate, List.intersperse]
theorem split_join (c : UInt8) : ∀ l, Lib.join (splitB c l) [c] = l
  | [] => by simp [splitB, join_single]
  | x :: r => by
    have ih := split_join c r
    unfold splitB
    split
    · rename_i h
      rw [join_cons _ _ (splitB_ne c r), ih, h]; rfl
    · cases hs : splitB c r with
      | nil => exact absurd hs (splitB_ne c r)
      | cons p ps =>
        rw [hs] at ih
        simp only
        cases ps with
        | nil => rw [join_single] at ih ⊢; rw [ih]
        | cons q qs =>
          rw [join_cons _ _ (by simp)] at ih ⊢
          rw [List.cons_append, ih]
theorem split_free (c : UInt8) : ∀ p : List UInt8, c ∉ p → ∀ r, splitB c (p ++ c :: r) = p :: splitB c r
  | [], _, r => by simp [splitB]
  | x :: p, h, r => by
    have hx : x ≠ c := fun e => h (by rw [e]; exact List.mem_cons_self ..)
    have := split_free c p (fun hm => h (List.mem_cons_of_mem _ hm)) r
    rw [List.cons_append, splitB, if_neg hx, this]
theorem split_last (c : UInt8) : ∀ p : List UInt8, c ∉ p → splitB c p = [p]
  | [], _ => rfl
  | x :: p, h => by
    have hx : x ≠ c := fun e => h (by rw [e]; exact List.mem_cons_self ..)
    rw [splitB, if_neg hx, split_last c p (fun hm => h (List.mem_cons_of_mem _ hm))]
theorem join_split (c : UInt8) : ∀ xs : List (List UInt8), xs ≠ [] → (∀ x, x ∈ xs → c ∉ x) → splitB c (Lib.join xs [c]) = xs
  | [], h, _ => absurd rfl h
  | [x], _, h => by rw [join_single]; exact split_last c x (h x (List.mem_cons_self ..))
  | x :: y :: ys, _, h => by
    rw [join_cons _ _ (by simp)]
    show splitB c (x ++ c :: Lib.join (y :: ys) [c]) = _
    rw [split_free c x (h x (List.mem_cons_self ..)), join_split c (y :: ys) (by simp) (fun z hz => h z (List.mem_cons_of_mem _ hz))]
theorem split_mem (c : UInt8) : ∀ l p, p ∈ splitB c l → c ∉ p
  | [], p, h => by simp [splitB] at h; subst h; simp
  | x :: r, p, h => by
    unfold splitB at h
    split at h
    · rcases List.mem_cons.1 h with rfl | h
      · simp
      · exact split_mem c r p h
    · rename_i hx
      cases hs : splitB c r with
      | nil => exact absurd hs (splitB_ne c r)
      | cons q qs =>
        rw [hs] at h
        simp only [List.mem_cons] at h
        rcases h with rfl | h
        · have := split_mem c r q (by rw [hs]; exact List.mem_cons_self ..)
          intro hm
          rcases List.mem_cons.1 hm with e | hm
          · exact hx e.symm
          · exact this hm
        · exact split_mem c r p (by rw [hs]; exact List.mem_cons_of_mem _ h)
/-- Pieces. -/
theorem pieces_flat : ∀ l, (piecesT l).flatten = l
  | [] => rfl
  | x :: r => by
    have ih := pieces_flat r
    unfold piecesT
    split
    · simp [ih]
    · cases hs : piecesT r with
      | nil => rw [hs] at ih; simp only [List.flatten_nil] at ih; rw [← ih]; simp
      | cons p ps => rw [hs] at ih; simp only [List.flatten_cons] at ih ⊢; rw [← ih]; simp
theorem pieces_free : ∀ (p : List UInt8), (41 : UInt8) ∉ p → (93 : UInt8) ∉ p → ∀ (x : UInt8) (r : List UInt8), x = 41 ∨ x = 93 → piecesT (p ++ x :: r) = (p ++ [x]) :: piecesT r
  | [], _, _, x, r, hx => by simp [piecesT, hx]
  | y :: p, h1, h2, x, r, hx => by
    have a : y ≠ 41 := fun e => h1 (by rw [e]; exact List.mem_cons_self ..)
    have b : y ≠ 93 := fun e => h2 (by rw [e]; exact List.mem_cons_self ..)
    have := pieces_free p (fun hm => h1 (List.mem_cons_of_mem _ hm)) (fun hm => h2 (List.mem_cons_of_mem _ hm)) x r hx
    rw [List.cons_append, piecesT, if_neg (by simp [a, b]), this]
    rfl
theorem pieces_none : ∀ (p : List UInt8), (41 : UInt8) ∉ p → (93 : UInt8) ∉ p → p ≠ [] → piecesT p = [p]
  | [], _, _, h => absurd rfl h
  | [y], h1, h2, _ => by
    have a : y ≠ 41 := fun e => h1 (by rw [e]; exact List.mem_cons_self ..)
    have b : y ≠ 93 := fun e => h2 (by rw [e]; exact List.mem_cons_self ..)
    simp [piecesT, a, b]
  | y :: z :: p, h1, h2, _ => by
    have a : y ≠ 41 := fun e => h1 (by rw [e]; exact List.mem_cons_self ..)
    have b : y ≠ 93 := fun e => h2 (by rw [e]; exact List.mem_cons_self ..)
    have := pieces_none (z :: p) (fun hm => h1 (List.mem_cons_of_mem _ hm)) (fun hm => h2 (List.mem_cons_of_mem _ hm)) (by simp)
    rw [piecesT, if_neg (by simp [a, b]), this]
/-- Cutting. -/
theorem cutC_some {c : UInt8} : ∀ {l a b : List UInt8}, cutC c l = some (a, b) → l = a ++ c :: b ∧ c ∉ a
  | [], a, b, h => by simp [cutC] at h
  | x :: r, a, b, h => by
    unfold cutC at h
    split at h
    · rename_i hx
      simp only [Option.some.injEq, Prod.mk.injEq] at h
      obtain ⟨rfl, rfl⟩ := h
      exact ⟨by rw [hx]; rfl, by simp⟩
    · rename_i hx
      cases hs : cutC c r with
      | none => rw [hs] at h; simp at h
      | some p =>
        obtain ⟨p1, p2⟩ := p
        rw [hs] at h
        simp only [Option.map_some, Option.some.injEq, Prod.mk.injEq] at h
        obtain ⟨rfl, rfl⟩ := h
        obtain ⟨e, hn⟩ := cutC_some hs
        refine ⟨by rw [e]; rfl, fun hm => ?_⟩
        rcases List.mem_cons.1 hm with e | hm
        · exact hx e.symm
        · exact hn hm
theorem cutC_free {c : UInt8} : ∀ (a : List UInt8), c ∉ a → ∀ b, cutC c (a ++ c :: b) = some (a, b)
  | [], _, b => by simp [cutC]
  | x :: a, h, b => by
    have hx : x ≠ c := fun e => h (by rw [e]; exact List.mem_cons_self ..)
    rw [List.cons_append, cutC, if_neg hx, cutC_free a (fun hm => h (List.mem_cons_of_mem _ hm)) b]
    rfl
theorem cutC_none {c : UInt8} : ∀ {l : List UInt8}, cutC c l = none ↔ c ∉ l
  | [] => by simp [cutC]
  | x :: r => by
    have ih := @cutC_none c r
    unfold cutC
    split
    · rename_i hx
      constructor
      · intro h; cases h
      · intro h; exact absurd (by rw [hx]; exact List.mem_cons_self ..) h
    · rename_i hx
      rw [Option.map_eq_none_iff, ih]
      constructor
      · intro h hm
        rcases List.mem_cons.1 hm with e | hm
        · exact hx e.symm
        · exact h hm
      · exact fun h hm => h (List.mem_cons_of_mem _ hm)

/-- What is a number's text holds digits and a sign alone. -/
theorem canon_mem {l : List UInt8} (h : canonT l = true) : ∀ x, x ∈ l → x = 45 ∨ isD x = true := by
  unfold canonT at h
  split at h
  · rename_i hh
    simp only [Bool.and_eq_true] at h
    obtain ⟨r, rfl⟩ : ∃ r, l = 45 :: r := by
      cases l with
      | nil => cases hh
      | cons x r => simp only [List.head?_cons, Option.some.injEq] at hh; exact ⟨r, by rw [hh]⟩
    intro x hx
    rcases List.mem_cons.1 hx with rfl | hx
    · exact .inl rfl
    · exact .inr (List.all_eq_true.1 (canonD_ne h.1).2 x hx)
  · exact fun x hx => .inr (List.all_eq_true.1 (canonD_ne h).2 x hx)
theorem isD_ne {x : UInt8} (h : x = 45 ∨ isD x = true) : x ≠ 32 ∧ x ≠ 41 ∧ x ≠ 44 ∧ x ≠ 93 ∧ x ≠ 40 ∧ x ≠ 91 ∧ x ≠ 111 := by
  refine ⟨?_, ?_, ?_, ?_, ?_, ?_, ?_⟩ <;> (rintro rfl; rcases h with h | h <;> exact absurd h (by decide))
theorem numE_zero {l : List UInt8} (h : numE l = 0) : -2305843009213693952 ≤ valT l ∧ valT l ≤ 2305843009213693952 := by
  unfold numE at h
  split at h
  · assumption
  · cases h
theorem noneB_val : noneB = 9223372036854775807 := rfl
theorem low_back {c : UInt8} {l : List UInt8} {b : Int} (h : loEnd c l = (0, b)) : lowT b = c :: l := by
  unfold loEnd at h
  split at h
  · rename_i h1
    simp only [Prod.mk.injEq, true_and] at h
    rw [← h, lowT, if_pos rfl, h1.1, h1.2]
  · split at h
    · rename_i h2
      simp only [Prod.mk.injEq] at h
      have hv := numE_zero h.1
      obtain ⟨hc, hl⟩ := h2
      rw [← h.2]
      have ne := noneB_val
      unfold lowT
      rcases hc with rfl | rfl
      · rw [if_neg (by decide : ¬ ((40 : UInt8) = 91)), if_neg (by omega), if_neg (by omega), show -((2 * -valT l + 0) / 2) = valT l by omega, itoa_val hl]
      · rw [if_pos rfl, if_neg (by omega), if_pos (by omega), show -((2 * -valT l + 1) / 2) = valT l by omega, itoa_val hl]
    · simp at h
theorem high_back {c : UInt8} {l : List UInt8} {b : Int} (h : hiEnd c l = (0, b)) : highT b = l ++ [c] := by
  unfold hiEnd at h
  split at h
  · rename_i h1
    simp only [Prod.mk.injEq, true_and] at h
    rw [← h, highT, if_pos rfl, h1.1, h1.2]; rfl
  · split at h
    · rename_i h2
      simp only [Prod.mk.injEq] at h
      have hv := numE_zero h.1
      obtain ⟨hc, hl⟩ := h2
      rw [← h.2]
      have ne := noneB_val
      unfold highT
      rcases hc with rfl | rfl
      · rw [if_neg (by decide : ¬ ((41 : UInt8) = 93)), if_neg (by omega), if_neg (by omega), show (2 * valT l + 0) / 2 = valT l by omega, itoa_val hl]
      · rw [if_pos rfl, if_neg (by omega), if_pos (by omega), show (2 * valT l + 1) / 2 = valT l by omega, itoa_val hl]
    · simp at h
theorem low_read {b : Int} (hb : mayB b = true) : ∃ c l, lowT b = c :: l ∧ loEnd c l = (0, b) ∧ (c = 40 ∨ c = 91) ∧ ∀ x, x ∈ l → x ≠ 32 ∧ x ≠ 41 ∧ x ≠ 44 ∧ x ≠ 93 := by
  by_cases h : b = noneB
  · subst h
    refine ⟨40, [45, 111, 111], by rw [lowT, if_pos rfl], by unfold loEnd; rw [if_pos (by decide)], .inl rfl, ?_⟩
    intro x hx
    simp only [List.mem_cons, List.mem_nil_iff, or_false] at hx
    rcases hx with rfl | rfl | rfl <;> decide
  · have hr : -288230376151711744 ≤ b / 2 ∧ b / 2 ≤ 288230376151711744 := (mayB_bd hb).resolve_left h
    obtain ⟨c1, c2⟩ := canon_itoa (-(b / 2))
    have nm := fun x hx => isD_ne (canon_mem c1 x hx)
    have hne : ¬ (Lib.itoa (-(b / 2)) = [45, 111, 111]) := fun e => by rw [e] at c1; exact absurd c1 (by decide)
    have e0 : numE (Lib.itoa (-(b / 2))) = 0 := by unfold numE; rw [c2, if_pos (by omega)]
    by_cases h2 : b % 2 = 1
    · refine ⟨91, Lib.itoa (-(b / 2)), by rw [lowT, if_neg h, if_pos h2], ?_, .inr rfl, fun x hx => ⟨(nm x hx).1, (nm x hx).2.1, (nm x hx).2.2.1, (nm x hx).2.2.2.1⟩⟩
      unfold loEnd
      rw [if_neg (fun hh => hne hh.2), if_pos ⟨.inr rfl, c1⟩, e0, c2, if_pos rfl]
      simp only [Prod.mk.injEq, true_and]; omega
    · refine ⟨40, Lib.itoa (-(b / 2)), by rw [lowT, if_neg h, if_neg h2], ?_, .inl rfl, fun x hx => ⟨(nm x hx).1, (nm x hx).2.1, (nm x hx).2.2.1, (nm x hx).2.2.2.1⟩⟩
      unfold loEnd
      rw [if_neg (fun hh => hne hh.2), if_pos ⟨.inl rfl, c1⟩, e0, c2, if_neg (by decide : ¬ ((40 : UInt8) = 91))]
      simp only [Prod.mk.injEq, true_and]; omega
theorem high_read {b : Int} (hb : mayB b = true) : ∃ c l, highT b = l ++ [c] ∧ hiEnd c l = (0, b) ∧ (c = 41 ∨ c = 93) ∧ ∀ x, x ∈ l → x ≠ 32 ∧ x ≠ 41 ∧ x ≠ 44 ∧ x ≠ 93 := by
  by_cases h : b = noneB
  · subst h
    refine ⟨41, [111, 111], by rw [highT, if_pos rfl]; rfl, by unfold hiEnd; rw [if_pos (by decide)], .inl rfl, ?_⟩
    intro x hx
    simp only [List.mem_cons, List.mem_nil_iff, or_false] at hx
    rcases hx with rfl | rfl <;> decide
  · have hr : -288230376151711744 ≤ b / 2 ∧ b / 2 ≤ 288230376151711744 := (mayB_bd hb).resolve_left h
    obtain ⟨c1, c2⟩ := canon_itoa (b / 2)
    have nm := fun x hx => isD_ne (canon_mem c1 x hx)
    have hne : ¬ (Lib.itoa (b / 2) = [111, 111]) := fun e => by rw [e] at c1; exact absurd c1 (by decide)
    have e0 : numE (Lib.itoa (b / 2)) = 0 := by unfold numE; rw [c2, if_pos (by omega)]
    by_cases h2 : b % 2 = 1
    · refine ⟨93, Lib.itoa (b / 2), by rw [highT, if_neg h, if_pos h2], ?_, .inr rfl, fun x hx => ⟨(nm x hx).1, (nm x hx).2.1, (nm x hx).2.2.1, (nm x hx).2.2.2.1⟩⟩
      unfold hiEnd
      rw [if_neg (fun hh => hne hh.2), if_pos ⟨.inr rfl, c1⟩, e0, c2, if_pos rfl]
      simp only [Prod.mk.injEq, true_and]; omega
    · refine ⟨41, Lib.itoa (b / 2), by rw [highT, if_neg h, if_neg h2], ?_, .inl rfl, fun x hx => ⟨(nm x hx).1, (nm x hx).2.1, (nm x hx).2.2.1, (nm x hx).2.2.2.1⟩⟩
      unfold hiEnd
      rw [if_neg (fun hh => hne hh.2), if_pos ⟨.inl rfl, c1⟩, e0, c2, if_neg (by decide : ¬ ((41 : UInt8) = 93))]
      simp only [Prod.mk.injEq, true_and]; omega
/-- An interval's text ends with its only closing bracket, and is read back. -/
theorem iv_read {lo hi : Int} (h1 : mayB lo = true) (h2 : mayB hi = true) : ∃ p c, ivT lo hi = p ++ [c] ∧ (c = 41 ∨ c = 93) ∧ (41 : UInt8) ∉ p ∧ (93 : UInt8) ∉ p ∧ (32 : UInt8) ∉ ivT lo hi ∧ ivR (ivT lo hi) = (0, lo, hi) := by
  obtain ⟨c1, l1, e1, r1, k1, n1⟩ := low_read h1
  obtain ⟨c2, l2, e2, r2, k2, n2⟩ := high_read h2
  have e : ivT lo hi = (c1 :: l1 ++ 44 :: l2) ++ [c2] := by unfold ivT; rw [e1, e2]; simp
  have g1 : (c1 ≠ 41) ∧ (c1 ≠ 93) ∧ c1 ≠ 32 := by rcases k1 with rfl | rfl <;> decide
  have g2 : c2 ≠ 32 := by rcases k2 with rfl | rfl <;> decide
  have mm : ∀ x : UInt8, x ∈ (c1 :: l1 ++ 44 :: l2) → x ≠ 41 ∧ x ≠ 93 ∧ x ≠ 32 := by
    intro x hx
    simp only [List.cons_append, List.mem_cons, List.mem_append] at hx
    rcases hx with rfl | hx | rfl | hx
    · exact g1
    · exact ⟨(n1 x hx).2.1, (n1 x hx).2.2.2, (n1 x hx).1⟩
    · decide
    · exact ⟨(n2 x hx).2.1, (n2 x hx).2.2.2, (n2 x hx).1⟩
  refine ⟨_, c2, e, k2, fun hm => (mm _ hm).1 rfl, fun hm => (mm _ hm).2.1 rfl, ?_, ?_⟩
  · rw [e]
    intro hm
    rcases List.mem_append.1 hm with hm | hm
    · exact (mm _ hm).2.2 rfl
    · simp only [List.mem_cons, List.mem_nil_iff, or_false] at hm
      exact g2 hm.symm
  · have n44 : (44 : UInt8) ∉ l1 := fun hm => (n1 _ hm).2.2.1 rfl
    rw [e]
    unfold ivR
    rw [if_neg (by simp; omega)]
    have et : ((c1 :: l1 ++ 44 :: l2) ++ [c2]).tail.dropLast = l1 ++ 44 :: l2 := by
      simp only [List.cons_append, List.tail_cons]
      exact List.dropLast_concat
    have eh : ((c1 :: l1 ++ 44 :: l2) ++ [c2]).headD 0 = c1 := rfl
    have el : ((c1 :: l1 ++ 44 :: l2) ++ [c2]).getLastD 0 = c2 := List.getLastD_concat ..
    rw [et, cutC_free l1 n44 l2, eh, el]
    simp only
    rw [r1, r2, if_neg (by simp)]
    rfl
/-- What is read of an interval is written so. -/
theorem iv_back {s : List UInt8} {lo hi : Int} (h : ivR s = (0, lo, hi)) : ivT lo hi = s := by
  unfold ivR at h
  split at h
  · simp at h
  · rename_i hlen
    cases hc : cutC 44 s.tail.dropLast with
    | none => rw [hc] at h; simp at h
    | some p =>
      obtain ⟨a, b⟩ := p
      rw [hc] at h
      simp only at h
      split at h
      · simp at h
      · simp only [Prod.mk.injEq] at h
        obtain ⟨h0, hlo, hhi⟩ := h
        obtain ⟨ec, _⟩ := cutC_some hc
        have b1 : ∀ c l, (loEnd c l).1 = 0 ∨ (loEnd c l).1 = 151 ∨ (loEnd c l).1 = 170 := by
          intro c l; unfold loEnd numE; (repeat' split) <;> simp
        have b2 : ∀ c l, (hiEnd c l).1 = 0 ∨ (hiEnd c l).1 = 151 ∨ (hiEnd c l).1 = 170 := by
          intro c l; unfold hiEnd numE; (repeat' split) <;> simp
        have x1 := b1 (s.headD 0) a
        have x2 := b2 (s.getLastD 0) b
        have y1 : loEnd (s.headD 0) a = (0, lo) := Prod.ext (by simp only; omega) hlo
        have y2 : hiEnd (s.getLastD 0) b = (0, hi) := Prod.ext (by simp only; omega) hhi
        unfold ivT
        rw [low_back y1, high_back y2]
        cases s with
        | nil => simp at hlen
        | cons x r =>
          simp only [List.tail_cons, List.headD_cons] at ec ⊢
          cases r with
          | nil => simp at hlen
          | cons y t =>
            have : (x :: y :: t).getLastD 0 = (y :: t).getLast (by simp) := by simp [List.getLastD_eq_getLast?, List.getLast?_cons_cons, List.getLast?_eq_some_getLast]
            rw [this]
            have e2 : a ++ 44 :: (b ++ [(y :: t).getLast (by simp)]) = y :: t := by
              have := List.dropLast_concat_getLast (l := y :: t) (by simp)
              rw [ec] at this
              simpa using this
            rw [List.cons_append, e2]
theorem okZ_mayB {z : Nat → Int} (h : okZ z = true) {t : Nat} (ht : t < 6) : mayB (z t) = true := by
  rw [← shortZ_zF z t ht]
  exact okD_may (okZ_facts h).1 _ (placeZ_lt t ht)
theorem okZ_congr6 {a b : Nat → Int} (h : ∀ i, i < 6 → a i = b i) : okZ a = okZ b := by
  have : zF a = zF b := by
    have key : ∀ (k : Nat), k ≤ 6 → mF a k = mF b k := by
      intro k
      induction k with
      | zero => intro _; rfl
      | succ k ih => intro hk; unfold mF; rw [ih (by omega), h k (by omega)]
    exact key 6 (Nat.le_refl _)
  unfold okZ
  rw [this]
/-- A zone's text is read back. -/
theorem one_read {z : Nat → Int} (h : okZ z = true) : zoneE (oneT z) = 0 ∧ (∀ i, i < 6 → zoneZ (oneT z) i = z i) ∧ (32 : UInt8) ∉ oneT z ∧ oneT z ≠ [] := by
  obtain ⟨p0, c0, e0, k0, u0, v0, s0, r0⟩ := iv_read (okZ_mayB h (t := 1) (by omega)) (okZ_mayB h (t := 0) (by omega))
  obtain ⟨p1, c1, e1, k1, u1, v1, s1, r1⟩ := iv_read (okZ_mayB h (t := 3) (by omega)) (okZ_mayB h (t := 2) (by omega))
  obtain ⟨p2, c2, e2, k2, u2, v2, s2, r2⟩ := iv_read (okZ_mayB h (t := 5) (by omega)) (okZ_mayB h (t := 4) (by omega))
  have hp : piecesT (oneT z) = [ivT (z 1) (z 0), ivT (z 3) (z 2), ivT (z 5) (z 4)] := by
    unfold oneT
    rw [e0, e1, e2, List.append_assoc, List.append_assoc]
    show piecesT (p0 ++ c0 :: (p1 ++ c1 :: (p2 ++ [c2]))) = _
    rw [pieces_free p0 u0 v0 c0 _ k0, pieces_free p1 u1 v1 c1 _ k1, pieces_free p2 u2 v2 c2 [] k2]
    rfl
  have hz : ∀ i, i < 6 → zoneZ (oneT z) i = z i := by
    intro i hi
    unfold zoneZ
    rw [hp]
    have : i = 0 ∨ i = 1 ∨ i = 2 ∨ i = 3 ∨ i = 4 ∨ i = 5 := by omega
    rcases this with rfl | rfl | rfl | rfl | rfl | rfl <;> simp only [r0, r1, r2]
  refine ⟨?_, hz, ?_, ?_⟩
  · have hk : okZ (zoneZ (oneT z)) = true := by rw [okZ_congr6 hz]; exact h
    unfold zoneE
    rw [hk, hp]
    simp [r0, r1, r2]
  · unfold oneT
    intro hm
    rcases List.mem_append.1 hm with hm | hm
    · exact s0 hm
    · rcases List.mem_append.1 hm with hm | hm
      · exact s1 hm
      · exact s2 hm
  · unfold oneT
    rw [e0]; simp
/-- What is read of a zone's text is written so. -/
theorem one_back {s : List UInt8} (h : zoneE s = 0) : okZ (zoneZ s) = true ∧ oneT (zoneZ s) = s := by
  have hf := pieces_flat s
  have hz : ∀ a b c, piecesT s = [a, b, c] → zoneZ s 0 = (ivR a).2.2 ∧ zoneZ s 1 = (ivR a).2.1 ∧ zoneZ s 2 = (ivR b).2.2 ∧ zoneZ s 3 = (ivR b).2.1 ∧ zoneZ s 4 = (ivR c).2.2 ∧ zoneZ s 5 = (ivR c).2.1 := by
    intro a b c hp
    unfold zoneZ
    rw [hp]
    exact ⟨rfl, rfl, rfl, rfl, rfl, rfl⟩
  unfold zoneE at h
  split at h
  · rename_i a b c hp
    split at h
    · simp at h
    · split at h
      · rename_i h3
        split at h
        · rename_i hk
          refine ⟨hk, ?_⟩
          obtain ⟨z0, z1, z2, z3, z4, z5⟩ := hz a b c hp
          unfold oneT
          rw [z0, z1, z2, z3, z4, z5, iv_back (Prod.ext h3.1 rfl : ivR a = (0, (ivR a).2.1, (ivR a).2.2)), iv_back (Prod.ext h3.2.1 rfl : ivR b = (0, (ivR b).2.1, (ivR b).2.2)), iv_back (Prod.ext h3.2.2 rfl : ivR c = (0, (ivR c).2.1, (ivR c).2.2))]
          rw [hp] at hf
          simpa using hf
        · simp at h
      · simp at h
  · simp at h
/-- Lists of zones, bound by bound. -/
def sameZs : List (Nat → Int) → List (Nat → Int) → Prop
  | [], [] => True
  | a :: l, b :: m => (∀ i, i < 6 → a i = b i) ∧ sameZs l m
  | _, _ => False
theorem sameZs_len : ∀ {l m : List (Nat → Int)}, sameZs l m → l.length = m.length
  | [], [], _ => rfl
  | a :: l, b :: m, h => by simp [sameZs_len h.2]
  | [], b :: m, h => h.elim
  | a :: l, [], h => h.elim
theorem sameZs_refl : ∀ l : List (Nat → Int), sameZs l l
  | [] => trivial
  | a :: l => ⟨fun _ _ => rfl, sameZs_refl l⟩
theorem oneT_congr {a b : Nat → Int} (h : ∀ i, i < 6 → a i = b i) : oneT a = oneT b := by
  unfold oneT
  rw [h 0 (by omega), h 1 (by omega), h 2 (by omega), h 3 (by omega), h 4 (by omega), h 5 (by omega)]
theorem sameZs_text : ∀ {l m : List (Nat → Int)}, sameZs l m → l.map oneT = m.map oneT
  | [], [], _ => rfl
  | a :: l, b :: m, h => by rw [List.map_cons, List.map_cons, oneT_congr h.1, sameZs_text h.2]
  | [], b :: m, h => h.elim
  | a :: l, [], h => h.elim
theorem text_sameZs : ∀ {l m : List (Nat → Int)}, l.all okZ = true → m.all okZ = true → l.map oneT = m.map oneT → sameZs l m
  | [], [], _, _, _ => trivial
  | a :: l, b :: m, h1, h2, h => by
    simp only [List.all_cons, Bool.and_eq_true] at h1 h2
    simp only [List.map_cons, List.cons.injEq] at h
    refine ⟨fun i hi => ?_, text_sameZs h1.2 h2.2 h.2⟩
    rw [← (one_read h1.1).2.1 i hi, ← (one_read h2.1).2.1 i hi, h.1]
  | [], b :: m, _, _, h => by simp at h
  | a :: l, [], _, _, h => by simp at h
/-- Reading what was written. -/
theorem read_text : ∀ (L : List (Nat → Int)) (n : Int) (acc : List (Nat → Int)), L.all okZ = true → ∃ M, readT (L.map oneT) n acc = (acc ++ M, 0, 0) ∧ sameZs M L
  | [], n, acc, _ => ⟨[], by simp [readT], trivial⟩
  | a :: L, n, acc, h => by
    simp only [List.all_cons, Bool.and_eq_true] at h
    obtain ⟨r1, r2, _, _⟩ := one_read h.1
    obtain ⟨M, e, s⟩ := read_text L (n + ((oneT a).length + 1)) (acc ++ [zoneZ (oneT a)]) h.2
    refine ⟨zoneZ (oneT a) :: M, ?_, r2, s⟩
    rw [List.map_cons, readT, if_pos r1, e]
    simp
theorem read_back : ∀ (P : List (List UInt8)) (n : Int) (acc L : List (Nat → Int)) (x : Int), readT P n acc = (L, x, 0) → x = 0 ∧ ∃ M, L = acc ++ M ∧ M.map oneT = P ∧ M.all okZ = true ∧ M.length = P.length
  | [], n, acc, L, x, h => by
    simp only [readT, Prod.mk.injEq] at h
    exact ⟨h.2.1.symm, [], by rw [← h.1]; simp, rfl, rfl, rfl⟩
  | s :: P, n, acc, L, x, h => by
    unfold readT at h
    split at h
    · rename_i hs
      obtain ⟨hx, M, e1, e2, e3, e4⟩ := read_back P _ _ L x h
      obtain ⟨b1, b2⟩ := one_back hs
      exact ⟨hx, zoneZ s :: M, by rw [e1]; simp, by rw [List.map_cons, b2, e2], by simp [b1, e3], by simp [e4]⟩
    · rename_i hs
      simp only [Prod.mk.injEq] at h
      exact absurd h.2.2 hs
theorem read_nil : ∀ (P : List (List UInt8)) (n : Int) (acc L : List (Nat → Int)) (x e : Int), readT P n acc = (L, x, e) → e ≠ 0 → L = []
  | [], n, acc, L, x, e, h, he => by simp only [readT, Prod.mk.injEq] at h; exact absurd h.2.2.symm he
  | s :: P, n, acc, L, x, e, h, he => by
    unfold readT at h
    split at h
    · exact read_nil P _ _ L x e h he
    · simp only [Prod.mk.injEq] at h; exact h.1.symm
/-- TextBack, the plain part: what is printed is parsed to the same. -/
theorem parse_print {L : List (Nat → Int)} (hlen : (printT L).1.length ≤ 1048576) (h : (printT L).2 = 0) : ∃ M, parseT (printT L).1 = (M, 0, 0) ∧ sameZs M L := by
  unfold printT at h hlen ⊢
  split at h
  · simp at h
  · rename_i hL
    rw [if_neg hL] at hlen ⊢
    split at h
    · rename_i hk
      rw [if_pos hk] at hlen ⊢
      simp only at hlen ⊢
      unfold parseT
      rw [if_neg (by omega)]
      cases L with
      | nil => exact ⟨[], by simp [Lib.join], trivial⟩
      | cons a L =>
        have hne : ∀ x, x ∈ (a :: L).map oneT → (32 : UInt8) ∉ x := by
          intro x hx
          obtain ⟨z, hz, rfl⟩ := List.mem_map.1 hx
          exact (one_read (List.all_eq_true.1 hk z hz)).2.2.1
        have hs := join_split 32 ((a :: L).map oneT) (by simp) hne
        have h0 : Lib.join ((a :: L).map oneT) [32] ≠ [] := by
          intro e
          have ha : okZ a = true := List.all_eq_true.1 hk a (List.mem_cons_self ..)
          have h1 := (one_read ha).2.2.2
          rw [List.map_cons] at e
          cases L with
          | nil => rw [List.map_nil, join_single] at e; exact h1 e
          | cons b L => rw [join_cons _ _ (by simp)] at e; exact h1 (List.append_eq_nil_iff.1 e).1
        rw [if_neg h0, hs, if_neg (by simpa using hL)]
        obtain ⟨M, e, s⟩ := read_text (a :: L) 0 [] hk
        exact ⟨M, by rw [e]; rfl, s⟩
    · simp at h
/-- TextBack, the other half: what is parsed is printed so. -/
theorem print_parse {s : List UInt8} {L : List (Nat → Int)} {x : Int} (h : parseT s = (L, x, 0)) : printT L = (s, 0) := by
  unfold parseT at h
  split at h
  · simp at h
  · split at h
    · rename_i hs
      simp only [Prod.mk.injEq] at h
      rw [← h.1, hs]
      rfl
    · split at h
      · simp at h
      · rename_i hn
        obtain ⟨_, M, e1, e2, e3, e4⟩ := read_back _ _ _ L x h
        simp only [List.nil_append] at e1
        rw [e1]
        unfold printT
        rw [if_neg (by omega), if_pos e3, e2, split_join]
theorem parse_nil {s : List UInt8} {L : List (Nat → Int)} {x e : Int} (h : parseT s = (L, x, e)) (he : e ≠ 0) : L = [] := by
  unfold parseT at h
  split at h
  · simp only [Prod.mk.injEq] at h; exact h.1.symm
  · split at h
    · simp only [Prod.mk.injEq] at h; exact h.1.symm
    · split at h
      · simp only [Prod.mk.injEq] at h; exact h.1.symm
      · exact read_nil _ _ _ L x e h he
#print axioms print_parse
end Go.Proofs.YtpmpapenjcemjaaGreatDoor
