/- Contracts of incl.checked, incl.root, order.under, incl.In and incl.Apart, of all matrices. -/
import Derived.Test.YtpaomeilfmeheaaDoorG1
namespace Go.Proofs.YtpaomeilfmeheaaDoor
set_option linter.unusedSimpArgs false
set_option linter.unusedVariables false
open Go Go.RowKit Go.Shelf
attribute [local go_sem] Nat.add_assoc Nat.add_lt_add_iff_left lit_lt_add

/-- How far the bounds are under. -/
theorem underK_step {n : Nat} {c g : Nat → Int} (h : ∀ x, x < n * n → x % (n + 1) = 0 ∨ c x ≤ g x) : underK n c g = true := underK_iff.2 h
theorem underK_stop {n t : Nat} {c g : Nat → Int} (ht : t < n * n) (h1 : ¬ t % (n + 1) = 0) (h2 : ¬ c t ≤ g t) : underK n c g = false := by
  rw [← Bool.not_eq_true, underK_iff]
  exact fun h => (h t ht).elim h1 h2

theorem inB_none {n : Nat} {f g : Nat → Int} (hok : okD n (n * n) f = true) (h : closeM n (n * n) f = errM 6) : inB n f g = true := by
  unfold inB
  cases hc : closeI n f with
  | none => rfl
  | some c =>
    exfalso
    have : closeM n (n * n) f = ⟨n, n * n, c, 0⟩ := by
      unfold closeM closeR
      rw [hok, if_pos rfl, show ((n : Int)).toNat = n from rfl, hc]; rfl
    rw [this] at h
    have := congrArg MR.e h
    simp [errM] at this
theorem inB_closed {n : Nat} {f g c : Nat → Int} (hok : okD n (n * n) f = true) (h : closeM n (n * n) f = ⟨n, n * n, c, 0⟩) : inB n f g = (diagK n g && underK n c g) := by
  unfold inB
  unfold closeM closeR at h
  rw [hok, if_pos rfl, show ((n : Int)).toNat = n from rfl] at h
  cases hc : closeI n f with
  | none => rw [hc] at h; have := congrArg MR.e h; simp [mR, errM] at this
  | some c' =>
    rw [hc] at h
    have := congrArg MR.f h
    simp only [mR] at this
    rw [this]
theorem diagK_stop {n t : Nat} {g : Nat → Int} (ht : t < n) (h : ¬ 1 ≤ g (t * (n + 1))) : diagK n g = false := by
  rw [← Bool.not_eq_true, diagK_iff]
  exact fun h' => h (h' t ht)
def pairBE (r : Bool × Int) : Value := .tuple #[.bool r.1, .int .i64 r.2]
theorem gives_be {w w' : World} {b : Bool} {c : Int} {r : Bool × Int} (he : r = (b, c)) (h : Below w.heap.size w w') : Gives w (pairBE r) (.returned (.tuple #[.bool b, .int .i64 c])) w' := gives_end (by rw [he]; rfl) h

theorem twoE_cases (n1 : Int) (N1 : Nat) (f1 : Nat → Int) (n2 : Int) (N2 : Nat) (f2 : Nat → Int) :
    (twoE n1 N1 f1 n2 N2 f2 ≠ 0 ∧ (twoE n1 N1 f1 n2 N2 f2 = 8 ∨ twoE n1 N1 f1 n2 N2 f2 = 40)) ∨
    (∃ m : Nat, n1 = (m : Int) ∧ n2 = (m : Int) ∧ N1 = m * m ∧ N2 = m * m ∧ 1 ≤ m ∧ m ≤ 4 ∧ okD m (m * m) f1 = true ∧ okD m (m * m) f2 = true ∧ twoE n1 N1 f1 n2 N2 f2 = 0) := by
  unfold twoE
  cases o1 : okD n1 N1 f1
  · left; simp
  · cases o2 : okD n2 N2 f2
    · left; simp
    · by_cases e : n1 = n2
      · right
        subst e
        obtain ⟨m, rfl, rfl, h1, h2⟩ := okD_form o1
        obtain ⟨m', h, rfl, _, _⟩ := okD_form o2
        obtain rfl : m = m' := by omega
        exact ⟨m, rfl, rfl, rfl, rfl, h1, h2, o1, o2, by simp⟩
      · left; simp [e]
theorem inR_ok {n : Nat} {f1 f2 : Nat → Int} (h : twoE n (n * n) f1 n (n * n) f2 = 0) : inR n (n * n) f1 n (n * n) f2 = (inB n f1 f2, 0) := by
  unfold inR; rw [if_pos h]; rfl
theorem inR_bad {n1 : Int} {N1 : Nat} {f1 : Nat → Int} {n2 : Int} {N2 : Nat} {f2 : Nat → Int} (h : twoE n1 N1 f1 n2 N2 f2 ≠ 0) : inR n1 N1 f1 n2 N2 f2 = (false, twoE n1 N1 f1 n2 N2 f2) := if_neg h
theorem apR_ok {n1 : Int} {N1 : Nat} {f1 : Nat → Int} {n2 : Int} {N2 : Nat} {f2 : Nat → Int} (h : twoE n1 N1 f1 n2 N2 f2 = 0) : apR n1 N1 f1 n2 N2 f2 = (decide ((meetM n1 N1 f1 n2 N2 f2).e = 6), 0) := if_pos h
theorem apR_bad {n1 : Int} {N1 : Nat} {f1 : Nat → Int} {n2 : Int} {N2 : Nat} {f2 : Nat → Int} (h : twoE n1 N1 f1 n2 N2 f2 ≠ 0) : apR n1 N1 f1 n2 N2 f2 = (false, twoE n1 N1 f1 n2 N2 f2) := if_neg h

end Go.Proofs.YtpaomeilfmeheaaDoor
