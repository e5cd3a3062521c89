/- Plain laws: fractions of eighths: sums, middles, which is less, which bounds are kept. No condition but that they are not too great. -/
import Derived.Test.YtpaomeilfmeheaaDoorMK
import Derived.Test.YtpaomeilfmeheaaDoorG1
namespace Go.Proofs.YtpaomeilfmeheaaDoor
set_option linter.unusedSimpArgs false
set_option linter.unusedVariables false
open Go Go.RowKit

theorem gcd8 (a : Nat) : Nat.gcd a 8 = if a % 8 = 0 then 8 else if a % 4 = 0 then 4 else if a % 2 = 0 then 2 else 1 := by
  have h : ∀ r, r < 8 → Nat.gcd r 8 = if r % 8 = 0 then 8 else if r % 4 = 0 then 4 else if r % 2 = 0 then 2 else 1 := by decide
  have e : Nat.gcd a 8 = Nat.gcd (a % 8) 8 := by rw [Nat.gcd_comm, Nat.gcd_rec]
  rw [e, h _ (Nat.mod_lt _ (by omega))]
  simp only [show a % 8 % 8 = a % 8 from by omega, show a % 8 % 4 = a % 4 from by omega, show a % 8 % 2 = a % 2 from by omega]

/-- So many eighths in lowest terms. -/
def q8 (t : Int) : Int × Int := if t % 8 = 0 then (t / 8, 1) else if t % 4 = 0 then (t / 4, 2) else if t % 2 = 0 then (t / 2, 4) else (t, 8)
theorem q8_eq (t : Int) : (q8 t).1 * 8 = t * (q8 t).2 ∧ ((q8 t).2 = 1 ∨ (q8 t).2 = 2 ∨ (q8 t).2 = 4 ∨ (q8 t).2 = 8) := by
  unfold q8
  split
  · exact ⟨show t / 8 * 8 = t * 1 by omega, .inl rfl⟩
  · split
    · exact ⟨show t / 4 * 8 = t * 2 by omega, .inr (.inl rfl)⟩
    · split
      · exact ⟨show t / 2 * 8 = t * 4 by omega, .inr (.inr (.inl rfl))⟩
      · exact ⟨rfl, .inr (.inr (.inr rfl))⟩
theorem q8_pos (t : Int) : 0 < (q8 t).2 := by have := (q8_eq t).2; omega
theorem q8_neg (t : Int) : q8 (-t) = (-(q8 t).1, (q8 t).2) := by
  unfold q8
  by_cases h8 : t % 8 = 0
  · rw [if_pos (by omega), if_pos h8]; simp only; congr 1; omega
  · rw [if_neg (by omega), if_neg h8]
    by_cases h4 : t % 4 = 0
    · rw [if_pos (by omega), if_pos h4]; simp only; congr 1; omega
    · rw [if_neg (by omega), if_neg h4]
      by_cases h2 : t % 2 = 0
      · rw [if_pos (by omega), if_pos h2]; simp only; congr 1; omega
      · rw [if_neg (by omega), if_neg h2]
theorem q8_whole (n : Int) : q8 (8 * n) = (n, 1) := by
  unfold q8; rw [if_pos (by omega)]; congr 1; omega
theorem q8_zero : q8 0 = (0, 1) := q8_whole 0
theorem q8_inj {a b : Int} (h : q8 a = q8 b) : a = b := by
  have h1 := (q8_eq a).1
  have h2 := (q8_eq b).1
  have h3 := (q8_eq b).2
  rw [h] at h1
  have : a * (q8 b).2 = b * (q8 b).2 := by omega
  exact Int.eq_of_mul_eq_mul_right (by omega) this

theorem normR_scale (T G m : Int) (hm : 0 < m) : normR (T * m) (G * m) = normR T G := by
  unfold normR
  have e : ((Nat.gcd (T * m).natAbs (G * m).natAbs : Nat) : Int) = (Nat.gcd T.natAbs G.natAbs : Nat) * m := by
    rw [Int.natAbs_mul, Int.natAbs_mul, Nat.gcd_mul_right]
    push_cast
    rw [Int.natAbs_of_nonneg (by omega)]
  rw [e, Int.mul_ediv_mul_of_pos_left _ _ hm, Int.mul_ediv_mul_of_pos_left _ _ hm]
theorem normR_same {T G t : Int} (hG : 0 < G) (h : T * 8 = t * G) : normR T G = normR t 8 := by
  rw [← normR_scale T G 8 (by omega), h, Int.mul_comm G 8, normR_scale t 8 G hG]
/-- Not too great: of whole numbers, halves and quarters up to 2^61, of eighths up to 2^60. -/
def ok8 (t : Int) : Prop := -18446744073709551616 < t ∧ t < 18446744073709551616 ∧ (t % 2 ≠ 0 → -9223372036854775808 < t ∧ t < 9223372036854775808)
theorem ok8.neg {t : Int} (h : ok8 t) : ok8 (-t) := by unfold ok8 at *; omega
theorem q8_fits {t : Int} (h : ok8 t) : fits64 (q8 t).1 := by
  obtain ⟨h1, h2, h3⟩ := h
  unfold q8 fits64
  split
  · show _ ≤ t / 8 ∧ t / 8 ≤ _; omega
  · split
    · show _ ≤ t / 4 ∧ t / 4 ≤ _; omega
    · split
      · show _ ≤ t / 2 ∧ t / 2 ≤ _; omega
      · show _ ≤ t ∧ t ≤ _; have := h3 (by omega); omega
theorem q8_fits2 (t : Int) : fits64 (q8 t).2 := by have := (q8_eq t).2; unfold fits64; omega
theorem q8_floor (t : Int) : (q8 t).1 / (q8 t).2 = t / 8 ∧ ((q8 t).1 % (q8 t).2 = 0 ↔ t % 8 = 0) := by
  unfold q8
  split
  · show t / 8 / 1 = t / 8 ∧ (t / 8 % 1 = 0 ↔ t % 8 = 0); omega
  · split
    · show t / 4 / 2 = t / 8 ∧ (t / 4 % 2 = 0 ↔ t % 8 = 0); omega
    · split
      · show t / 2 / 4 = t / 8 ∧ (t / 2 % 4 = 0 ↔ t % 8 = 0); omega
      · show t / 8 = t / 8 ∧ (t % 8 = 0 ↔ t % 8 = 0); omega
theorem q8_norm {t : Int} : (t / (Nat.gcd t.natAbs (8 : Int).natAbs : Nat), 8 / ((Nat.gcd t.natAbs (8 : Int).natAbs : Nat) : Int)) = q8 t := by
  rw [show (8 : Int).natAbs = 8 from rfl, gcd8]
  unfold q8
  by_cases h8 : t % 8 = 0
  · rw [if_pos (show t.natAbs % 8 = 0 by omega), if_pos h8]; rfl
  · rw [if_neg (show ¬ t.natAbs % 8 = 0 by omega), if_neg h8]
    by_cases h4 : t % 4 = 0
    · rw [if_pos (show t.natAbs % 4 = 0 by omega), if_pos h4]; rfl
    · rw [if_neg (show ¬ t.natAbs % 4 = 0 by omega), if_neg h4]
      by_cases h2 : t % 2 = 0
      · rw [if_pos (show t.natAbs % 2 = 0 by omega), if_pos h2]; rfl
      · rw [if_neg (show ¬ t.natAbs % 2 = 0 by omega), if_neg h2]; simp
theorem q8_co (t : Int) : Nat.gcd (q8 t).1.natAbs (q8 t).2.natAbs = 1 := by
  have h := div_gcd_co t 8 (by omega)
  have e := q8_norm (t := t)
  rw [Prod.ext_iff] at e
  simp only at e
  rw [e.1, e.2] at h
  exact h
theorem q8_ok {t : Int} (h : ok8 t) : okRat (q8 t).1 (q8 t).2 = true := by
  obtain ⟨h1, h2, h3⟩ := h
  have hf := q8_floor t
  have hd := (q8_eq t).2
  unfold okRat withinB
  have hc := q8_co t
  simp only [Bool.and_eq_true, decide_eq_true_iff, hf.1]
  exact ⟨by omega, by omega, by omega, hc⟩
theorem normR_q8 {T G t : Int} (hG : 0 < G) (h : T * 8 = t * G) (ho : ok8 t) : normR T G = ((q8 t).1, (q8 t).2, 0) := by
  have hk := q8_ok ho
  have hf := q8_fits ho
  have e := q8_norm (t := t)
  rw [Prod.ext_iff] at e
  simp only at e
  rw [normR_same hG h]
  unfold normR
  rw [e.1, e.2, if_pos ⟨hf, hk⟩]

theorem add8 {a n : Int} (ha : ok8 a) (hn : ok8 (8 * n)) (hr : ok8 (a + 8 * n)) : addPR (q8 a).1 (q8 a).2 n 1 1 = ((q8 (a + 8 * n)).1, (q8 (a + 8 * n)).2, 0) := by
  have h1 := q8_ok ha
  have h2 := q8_ok hn
  rw [q8_whole] at h2
  unfold addPR sumR
  rw [h1, h2]
  simp only [Bool.and_self, if_true]
  refine normR_q8 (by have := q8_pos a; omega) ?_ hr
  have := (q8_eq a).1
  generalize (q8 a).1 = p at *
  generalize (q8 a).2 = q at *
  rw [Int.mul_one, Int.mul_one, Int.mul_one, Int.add_mul, Int.add_mul, this]
  congr 1
  rw [Int.mul_comm 8 n, Int.mul_assoc, Int.mul_assoc, Int.mul_comm q 8]
theorem mid8 {a b m : Int} (ha : ok8 a) (hb : ok8 b) (hm : a + b = 2 * m) (hr : ok8 m) : addPR (q8 a).1 (q8 a).2 (q8 b).1 (q8 b).2 2 = ((q8 m).1, (q8 m).2, 0) := by
  have h1 := q8_ok ha
  have h2 := q8_ok hb
  unfold addPR sumR
  rw [h1, h2]
  simp only [Bool.and_self, if_true]
  have p1 := q8_pos a
  have p2 := q8_pos b
  refine normR_q8 (by have := Int.mul_pos p1 p2; omega) ?_ hr
  have e1 := (q8_eq a).1
  have e2 := (q8_eq b).1
  generalize (q8 a).1 = p at *
  generalize (q8 a).2 = q at *
  generalize (q8 b).1 = r at *
  generalize (q8 b).2 = s at *
  have x1 : p * s * 8 = a * (q * s) := by rw [Int.mul_right_comm, e1, Int.mul_assoc]
  have x2 : r * q * 8 = b * (q * s) := by rw [Int.mul_right_comm, e2, Int.mul_assoc, Int.mul_comm s q]
  rw [Int.add_mul, x1, x2, ← Int.add_mul, hm, Int.mul_comm 2 m, Int.mul_assoc, Int.mul_comm 2]
theorem cmp8 (a b : Int) : cmpR (q8 a).1 (q8 a).2 (q8 b).1 (q8 b).2 = sgn3 a b 0 := by
  have p1 := q8_pos a
  have p2 := q8_pos b
  have e1 := (q8_eq a).1
  have e2 := (q8_eq b).1
  unfold cmpR
  generalize (q8 a).1 = p at *
  generalize (q8 a).2 = q at *
  generalize (q8 b).1 = r at *
  generalize (q8 b).2 = s at *
  have hqs := Int.mul_pos p1 p2
  have x1 : p * s * 8 = a * (q * s) := by rw [Int.mul_right_comm, e1, Int.mul_assoc]
  have x2 : r * q * 8 = b * (q * s) := by rw [Int.mul_right_comm, e2, Int.mul_assoc, Int.mul_comm s q]
  generalize p * s = X at *
  generalize r * q = Y at *
  generalize q * s = Z at *
  unfold sgn3
  by_cases h : a < b
  · have := Int.mul_lt_mul_of_pos_right h hqs
    rw [if_pos h, if_pos (by omega)]
  · rw [if_neg h]
    by_cases h' : b < a
    · have := Int.mul_lt_mul_of_pos_right h' hqs
      rw [if_pos h', if_neg (by omega), if_pos (by omega)]
    · obtain rfl : a = b := by omega
      rw [if_neg h', if_neg (by omega), if_neg (by omega)]
/-- A difference of eighths keeps a bound. -/
def keepE (a b : Int) : Prop := b = noneB ∨ a < 8 * (b / 2) ∨ (a = 8 * (b / 2) ∧ ¬ b % 2 = 0)
instance (a b : Int) : Decidable (keepE a b) := by unfold keepE; infer_instance
theorem keep8 (a b x : Int) : keptB (q8 a).1 (q8 a).2 (q8 b).1 (q8 b).2 x = decide (keepE (a - b) x) := by
  have p1 := q8_pos a
  have p2 := q8_pos b
  have e1 := (q8_eq a).1
  have e2 := (q8_eq b).1
  have hk := keptB_iff (x := x) (n1 := (q8 a).1) (n2 := (q8 b).1) p1 p2
  generalize (q8 a).1 = p at *
  generalize (q8 a).2 = q at *
  generalize (q8 b).1 = r at *
  generalize (q8 b).2 = s at *
  have hqs := Int.mul_pos p1 p2
  have x1 : p * s * 8 = a * (q * s) := by rw [Int.mul_right_comm, e1, Int.mul_assoc]
  have x2 : r * q * 8 = b * (q * s) := by rw [Int.mul_right_comm, e2, Int.mul_assoc, Int.mul_comm s q]
  rw [Bool.eq_iff_iff, hk, decide_eq_true_iff]
  unfold keepE
  by_cases hn : x = noneB
  · subst hn; simp [eb_none, ele_none]
  · rw [eb_some hn, ele_some, ← kept_core hqs]
    simp only [hn, false_or]
    generalize p * s = X at *
    generalize r * q = Y at *
    generalize q * s = Z at *
    have hz : (a - b) * Z = (X - Y) * 8 := by rw [Int.sub_mul]; omega
    have hl : X - Y < x / 2 * Z ↔ a - b < 8 * (x / 2) := by
      have e : 8 * (x / 2) * Z = x / 2 * Z * 8 := by rw [Int.mul_assoc, Int.mul_comm]
      constructor
      · intro h
        refine Int.lt_of_mul_lt_mul_right ?_ (Int.le_of_lt hqs)
        rw [hz, e]; omega
      · intro h
        have := Int.mul_lt_mul_of_pos_right h hqs
        rw [hz, e] at this; omega
    have he : X - Y = x / 2 * Z ↔ a - b = 8 * (x / 2) := by
      have e : 8 * (x / 2) * Z = x / 2 * Z * 8 := by rw [Int.mul_assoc, Int.mul_comm]
      constructor
      · intro h
        refine Int.eq_of_mul_eq_mul_right (Int.ne_of_gt hqs) ?_
        rw [hz, e, h]
      · intro h
        have : (a - b) * Z = 8 * (x / 2) * Z := by rw [h]
        rw [hz, e] at this; omega
    rw [hl, he]
#print axioms keep8
end Go.Proofs.YtpaomeilfmeheaaDoor
