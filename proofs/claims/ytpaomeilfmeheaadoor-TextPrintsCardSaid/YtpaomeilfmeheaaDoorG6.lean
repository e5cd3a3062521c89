/- Contracts of the document's two, Away, Inside, In and Apart (layer 6), of all matrices. -/
import Derived.Test.YtpaomeilfmeheaaDoorG5
namespace Go.Proofs.YtpaomeilfmeheaaDoor
set_option linter.unusedSimpArgs false
set_option linter.unusedVariables false
open Go Go.RowKit Go.Shelf
attribute [local go_sem] Nat.add_assoc Nat.add_lt_add_iff_left lit_lt_add

theorem close_e6 {n : Nat} {f : Nat → Int} (hok : okD n (n * n) f = true) : (!decide ((closeM n (n * n) f).e = 0)) = decide ((closeM n (n * n) f).e = 6) := by
  rcases closeM_cases hok with ⟨c, h, _⟩ | ⟨h, _⟩ <;> rw [h] <;> rfl

/-- What a round of the document's question asks. -/
theorem outB_none {n x : Nat} {f g : Nat → Int} (h : g x = noneB) : outB n f g x = true := by unfold outB; rw [decide_eq_true h]; rfl
theorem outB_some {n i j : Nat} {f g : Nat → Int} (hj : j < n) (h : g (i * n + j) ≠ noneB) : outB n f g (i * n + j) = decide ((closeM n (n * n) (lessF f (upd (topF n) (j * n + i) (otherB (g (i * n + j)))))).e = 6) := by
  have e1 : (i * n + j) % n = j := by rw [Nat.mul_comm, Nat.mul_add_mod]; exact Nat.mod_eq_of_lt hj
  have e2 : (i * n + j) / n = i := by rw [Nat.mul_comm, Nat.mul_add_div (by omega), Nat.div_eq_of_lt hj, Nat.add_zero]
  unfold outB
  rw [decide_eq_false h, Bool.false_or, e1, e2]
theorem refIn_stop {n x : Nat} {f g : Nat → Int} (hf : okD n (n * n) f = true) (hg : okD n (n * n) g = true) (hx : x < n * n) (h : outB n f g x = false) : inB n f g = false := by
  rw [← Bool.not_eq_true, ← refIn_iff hf hg]
  intro h'
  rw [h' x hx] at h; cases h

/-- What stays while the document asks bound by bound. -/
structure InI (w : World) (n N : Nat) (p1 p2 : Option Addr) (c1 c2 : Nat) (W : World) : Prop where
  below : Below w.heap.size w W
  size : w.heap.size + 1 < W.heap.size
  a0 : W.cell? ⟨w.heap.size, 0, none⟩ = some (.int .i64 n)
  a1 : W.cell? ⟨w.heap.size, 1, none⟩ = some (.slice p1 N c1)
  b0 : W.cell? ⟨w.heap.size + 1, 0, none⟩ = some (.int .i64 n)
  b1 : W.cell? ⟨w.heap.size + 1, 1, none⟩ = some (.slice p2 N c2)
theorem InI.later {w : World} {n N : Nat} {p1 p2 : Option Addr} {c1 c2 : Nat} {W W' : World} (h : InI w n N p1 p2 c1 c2 W) (hb : Below W.heap.size W W') : InI w n N p1 p2 c1 c2 W' :=
  ⟨h.below.trans (hb.mono h.below.size), Nat.lt_of_lt_of_le h.size hb.size, (hb.cell (p := ⟨w.heap.size, 0, none⟩) (by have := h.size; show w.heap.size < _; omega)).trans h.a0, (hb.cell (p := ⟨w.heap.size, 1, none⟩) (by have := h.size; show w.heap.size < _; omega)).trans h.a1, (hb.cell (p := ⟨w.heap.size + 1, 0, none⟩) h.size).trans h.b0, (hb.cell (p := ⟨w.heap.size + 1, 1, none⟩) h.size).trans h.b1⟩

end Go.Proofs.YtpaomeilfmeheaaDoor
