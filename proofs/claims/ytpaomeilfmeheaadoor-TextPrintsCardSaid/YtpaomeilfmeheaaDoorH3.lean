/- Zones: contract of slices.Contains over errors. No condition. -/
import Derived.Test.YtpaomeilfmeheaaDoorH2
namespace Go.Proofs.YtpaomeilfmeheaaDoor
set_option linter.unusedSimpArgs false
set_option linter.unusedVariables false
open Go Go.RowKit Go.Shelf
attribute [local go_sem] Nat.add_assoc Nat.add_lt_add_iff_left lit_lt_add

def hasE (N : Nat) (f : Nat → Int) (v : Int) : Bool := (List.range N).any fun x => decide (v = f x)
theorem hasE_f {N : Nat} {f : Nat → Int} {v : Int} (h : ∀ x, x < N → v ≠ f x) : hasE N f v = false := by
  rw [← Bool.not_eq_true]
  intro h'
  simp only [hasE, List.any_eq_true, List.mem_range, decide_eq_true_eq] at h'
  obtain ⟨x, hx, e⟩ := h'
  exact h x hx e
theorem hasE_t {N t : Nat} {f : Nat → Int} {v : Int} (ht : t < N) (h : v = f t) : hasE N f v = true := by
  simp only [hasE, List.any_eq_true, List.mem_range, decide_eq_true_eq]
  exact ⟨t, ht, h⟩
def idxEPost (w : World) (b : Bool) (e : Ending) (w' : World) : Prop := ∃ i : Int, e = .returned (.int .i64 i) ∧ decide (0 ≤ i) = b ∧ ∃ p, w' = Wov w p

end Go.Proofs.YtpaomeilfmeheaaDoor
