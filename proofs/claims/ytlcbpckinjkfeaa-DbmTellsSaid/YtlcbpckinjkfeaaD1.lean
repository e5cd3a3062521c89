/- Plain laws of bounds that add up, none being above all, and of rounds by a clock. No condition. -/
import Derived.Test.YtlcbpckinjkfeaaBound2
namespace Go.Proofs.Ytlcbpckinjkfeaa
set_option linter.unusedSimpArgs false
set_option linter.unusedVariables false
open Go Go.RowKit

/-- A bound, none standing above all. -/
abbrev EB := Option Int
def eadd : EB → EB → EB
  | some x, some y => some (2 * (x / 2 + y / 2) + (if x % 2 = 0 ∨ y % 2 = 0 then 0 else 1))
  | _, _ => none
def ele : EB → EB → Prop
  | _, none => True
  | none, some _ => False
  | some x, some y => x ≤ y
instance (a b : EB) : Decidable (ele a b) := by
  cases a <;> cases b <;> (unfold ele; infer_instance)

theorem ele_refl (a : EB) : ele a a := by cases a <;> simp [ele]
theorem ele_none (a : EB) : ele a none := by cases a <;> simp [ele]
theorem ele_some {x y : Int} : ele (some x) (some y) ↔ x ≤ y := Iff.rfl
theorem ele_trans {a b c : EB} (h : ele a b) (g : ele b c) : ele a c := by
  cases a <;> cases b <;> cases c <;> simp_all [ele]; omega
theorem ele_antisymm {a b : EB} (h : ele a b) (g : ele b a) : a = b := by
  cases a <;> cases b <;> simp_all [ele]; omega
theorem ele_total (a b : EB) : ele a b ∨ ele b a := by
  cases a <;> cases b <;> simp [ele]; omega
theorem ele_of_not {a b : EB} (h : ¬ ele a b) : ele b a := (ele_total a b).resolve_left h
theorem eadd_comm (a b : EB) : eadd a b = eadd b a := by
  cases a <;> cases b <;> simp [eadd]
  split <;> split <;> omega
theorem eadd_none (a : EB) : eadd a none = none := by cases a <;> rfl
theorem none_eadd (a : EB) : eadd none a = none := by cases a <;> rfl
theorem eadd_assoc (a b c : EB) : eadd (eadd a b) c = eadd a (eadd b c) := by
  cases a <;> cases b <;> cases c <;> simp [eadd]
  repeat' split
  all_goals omega
theorem eadd_one (a : EB) : eadd a (some 1) = a := by
  cases a <;> simp [eadd]
  split <;> omega
theorem one_eadd (a : EB) : eadd (some 1) a = a := by rw [eadd_comm, eadd_one]
theorem eadd_mono {a b c d : EB} (h : ele a b) (g : ele c d) : ele (eadd a c) (eadd b d) := by
  cases a <;> cases b <;> cases c <;> cases d <;> simp_all [ele, eadd]
  repeat' split
  all_goals omega
theorem eadd_mono_l {a b : EB} (c : EB) (h : ele a b) : ele (eadd a c) (eadd b c) := eadd_mono h (ele_refl c)
theorem eadd_mono_r {a b : EB} (c : EB) (h : ele a b) : ele (eadd c a) (eadd c b) := eadd_mono (ele_refl c) h
theorem ele_add_one {a b : EB} (h : ele (some 1) b) : ele a (eadd a b) := by
  have := eadd_mono_r a h
  rwa [eadd_one] at this
theorem ele_one_add {a b : EB} (h : ele (some 1) b) : ele a (eadd b a) := by rw [eadd_comm]; exact ele_add_one h

/-- The lesser of two, the first where they are the same. -/
def emin (a b : EB) : EB := if ele a b then a else b
theorem emin_le_l (a b : EB) : ele (emin a b) a := by
  unfold emin; split
  · exact ele_refl a
  · rename_i h; exact ele_of_not h
theorem emin_le_r (a b : EB) : ele (emin a b) b := by
  unfold emin; split
  · assumption
  · exact ele_refl b
theorem le_emin {c a b : EB} (h : ele c a) (g : ele c b) : ele c (emin a b) := by
  unfold emin; split <;> assumption
theorem emin_cases (a b : EB) : emin a b = a ∨ (emin a b = b ∧ ¬ ele a b) := by
  unfold emin; split
  · exact .inl rfl
  · rename_i h; exact .inr ⟨rfl, h⟩
theorem emin_eq_l {a b : EB} (h : ele a b) : emin a b = a := if_pos h

/-- A matrix of bounds of n clocks that is closed: 0 of each clock to itself, none greater than the sum by a third one. -/
def Closed (n : Nat) (q : Nat → Nat → EB) : Prop :=
  (∀ i, i < n → q i i = some 1) ∧ ∀ i j k, i < n → j < n → k < n → ele (q i j) (eadd (q i k) (q k j))
def Under (n : Nat) (q d : Nat → Nat → EB) : Prop := ∀ i j, i < n → j < n → ele (q i j) (d i j)

/-- A round by clock k. -/
def viaR (m : Nat → Nat → EB) (k i j : Nat) : EB := emin (m i j) (eadd (m i k) (m k j))

theorem viaR_le (m : Nat → Nat → EB) (k i j : Nat) : ele (viaR m k i j) (m i j) := emin_le_l _ _
theorem viaR_le2 (m : Nat → Nat → EB) (k i j : Nat) : ele (viaR m k i j) (eadd (m i k) (m k j)) := emin_le_r _ _
theorem viaR_row {m : Nat → Nat → EB} {k : Nat} (h : m k k = some 1) (j : Nat) : viaR m k k j = m k j := by
  unfold viaR; rw [h, one_eadd]; exact emin_eq_l (ele_refl _)
theorem viaR_col {m : Nat → Nat → EB} {k : Nat} (h : m k k = some 1) (i : Nat) : viaR m k i k = m i k := by
  unfold viaR; rw [h, eadd_one]; exact emin_eq_l (ele_refl _)

/-- The sums by a clock are none less: of all clocks below k. -/
def TriB (n k : Nat) (m : Nat → Nat → EB) : Prop := ∀ t i j, t < k → t < n → i < n → j < n → ele (m i j) (eadd (m i t) (m t j))

theorem eadd4 (a b c d : EB) : eadd (eadd a b) (eadd c d) = eadd a (eadd (eadd b c) d) := by
  rw [eadd_assoc, eadd_assoc]

/-- Behind a round by k, what held of the clocks before holds, and holds of k. -/
theorem viaR_tri {n k : Nat} {m : Nat → Nat → EB} (hk : k < n) (h1 : m k k = some 1) (h : TriB n k m) : TriB n (k + 1) (viaR m k) := by
  intro t i j ht htn hi hj
  by_cases htk : t = k
  · subst htk
    rw [viaR_row h1, viaR_col h1]
    exact viaR_le2 _ _ _ _
  · have ht' : t < k := by omega
    have T := fun a b ha hb => h t a b ht' htn ha hb
    rcases emin_cases (m i t) (eadd (m i k) (m k t)) with e1 | ⟨e1, _⟩
    · rcases emin_cases (m t j) (eadd (m t k) (m k j)) with e2 | ⟨e2, _⟩
      · rw [show viaR m k i t = m i t from e1, show viaR m k t j = m t j from e2]
        exact ele_trans (viaR_le _ _ _ _) (T i j hi hj)
      · rw [show viaR m k i t = m i t from e1, show viaR m k t j = _ from e2]
        refine ele_trans (viaR_le2 _ _ _ _) ?_
        rw [← eadd_assoc]
        exact eadd_mono_l _ (T i k hi hk)
    · rcases emin_cases (m t j) (eadd (m t k) (m k j)) with e2 | ⟨e2, _⟩
      · rw [show viaR m k i t = _ from e1, show viaR m k t j = m t j from e2]
        refine ele_trans (viaR_le2 _ _ _ _) ?_
        rw [eadd_assoc]
        exact eadd_mono_r _ (T k j hk hj)
      · rw [show viaR m k i t = _ from e1, show viaR m k t j = _ from e2]
        refine ele_trans (viaR_le2 _ _ _ _) ?_
        rw [eadd4]
        refine eadd_mono_r _ (ele_one_add ?_)
        have := T k k hk hk
        rwa [h1] at this

/-- What is closed and lies under stays under. -/
theorem viaR_under {n k : Nat} {q m : Nat → Nat → EB} (hk : k < n) (hq : Closed n q) (h : Under n q m) : Under n q (viaR m k) := by
  intro i j hi hj
  exact le_emin (h i j hi hj) (ele_trans (hq.2 i j k hi hj hk) (eadd_mono (h i k hi hk) (h k j hk hj)))

/-- The rounds by the clocks from 0 on, up to below k; none: a clock's bound of itself is below 0. -/
def roundsR (n : Nat) (m : Nat → Nat → EB) : Nat → Option (Nat → Nat → EB)
  | 0 => some m
  | k + 1 => match roundsR n m k with
    | none => none
    | some a => if ∀ i, i < n → ele (some 1) (viaR a k i i) then some (viaR a k) else none

/-- The matrix with 0 of each clock to itself. -/
def diag1 (d : Nat → Nat → EB) : Nat → Nat → EB := fun i j => if i = j then some 1 else d i j
/-- The closed one; none: it is empty. -/
def closeE (n : Nat) (d : Nat → Nat → EB) : Option (Nat → Nat → EB) :=
  if ∀ i, i < n → ele (some 1) (d i i) then roundsR n (diag1 d) n else none

theorem diag1_diag (d : Nat → Nat → EB) (i : Nat) : diag1 d i i = some 1 := if_pos rfl
theorem diag1_off (d : Nat → Nat → EB) {i j : Nat} (h : i ≠ j) : diag1 d i j = d i j := if_neg h

/-- What holds of the matrix behind each round. -/
structure RoundInv (n k : Nat) (m a : Nat → Nat → EB) : Prop where
  diag : ∀ i, i < n → a i i = some 1
  tri : TriB n k a
  le : ∀ i j, i < n → j < n → ele (a i j) (m i j)

theorem rounds_inv {n : Nat} {m : Nat → Nat → EB} (h : ∀ i, i < n → m i i = some 1) : ∀ k a, k ≤ n → roundsR n m k = some a → RoundInv n k m a
  | 0, a, _, e => by
    simp only [roundsR, Option.some.injEq] at e
    subst e
    exact ⟨h, fun t i j ht => by omega, fun i j _ _ => ele_refl _⟩
  | k + 1, a, hk, e => by
    unfold roundsR at e
    split at e
    · cases e
    · rename_i b hb
      split at e
      · rename_i hd
        simp only [Option.some.injEq] at e
        subst e
        obtain ⟨d1, t1, l1⟩ := rounds_inv h k b (by omega) hb
        refine ⟨fun i hi => ?_, viaR_tri (by omega) (d1 k (by omega)) t1, fun i j hi hj => ele_trans (viaR_le _ _ _ _) (l1 i j hi hj)⟩
        refine ele_antisymm ?_ (hd i hi)
        have := viaR_le b k i i
        rwa [d1 i hi] at this
      · cases e

theorem rounds_under {n : Nat} {m q : Nat → Nat → EB} (hq : Closed n q) (h : Under n q m) : ∀ k, k ≤ n → ∃ a, roundsR n m k = some a ∧ Under n q a
  | 0, _ => ⟨m, rfl, h⟩
  | k + 1, hk => by
    obtain ⟨b, hb, hu⟩ := rounds_under hq h k (by omega)
    have hv := viaR_under (k := k) (by omega) hq hu
    refine ⟨viaR b k, ?_, hv⟩
    simp only [roundsR, hb]
    rw [if_pos]
    intro i hi
    have := hv i i hi hi
    rwa [hq.1 i hi] at this

/-- The closed one is closed, and lies under. -/
theorem closeE_closed {n : Nat} {d c : Nat → Nat → EB} (h : closeE n d = some c) : Closed n c ∧ Under n c d := by
  unfold closeE at h
  split at h
  · rename_i hd
    obtain ⟨d1, t1, l1⟩ := rounds_inv (fun i _ => diag1_diag d i) n c (Nat.le_refl _) h
    refine ⟨⟨d1, fun i j k hi hj hk => t1 k i j hk hk hi hj⟩, fun i j hi hj => ?_⟩
    by_cases e : i = j
    · subst e
      rw [d1 i hi]; exact hd i hi
    · have := l1 i j hi hj
      rwa [diag1_off d e] at this
  · cases h

/-- What is closed and lies under lies under the closed one. -/
theorem closeE_greatest {n : Nat} {d q : Nat → Nat → EB} (hq : Closed n q) (h : Under n q d) : ∃ c, closeE n d = some c ∧ Under n q c := by
  have hd : ∀ i, i < n → ele (some 1) (d i i) := fun i hi => by
    have := h i i hi hi
    rwa [hq.1 i hi] at this
  unfold closeE
  rw [if_pos hd]
  refine rounds_under hq (fun i j hi hj => ?_) n (Nat.le_refl _)
  by_cases e : i = j
  · subst e
    rw [diag1_diag, hq.1 i hi]; exact ele_refl _
  · rw [diag1_off d e]; exact h i j hi hj

theorem under_trans {n : Nat} {a b c : Nat → Nat → EB} (h : Under n a b) (g : Under n b c) : Under n a c := fun i j hi hj => ele_trans (h i j hi hj) (g i j hi hj)
theorem under_refl (n : Nat) (a : Nat → Nat → EB) : Under n a a := fun _ _ _ _ => ele_refl _

/-- What is closed is closed to itself. -/
theorem closeE_self {n : Nat} {q : Nat → Nat → EB} (hq : Closed n q) : ∃ c, closeE n q = some c ∧ ∀ i j, i < n → j < n → c i j = q i j := by
  obtain ⟨c, hc, hu⟩ := closeE_greatest hq (under_refl n q)
  exact ⟨c, hc, fun i j hi hj => ele_antisymm ((closeE_closed hc).2 i j hi hj) (hu i j hi hj)⟩
end Go.Proofs.Ytlcbpckinjkfeaa
