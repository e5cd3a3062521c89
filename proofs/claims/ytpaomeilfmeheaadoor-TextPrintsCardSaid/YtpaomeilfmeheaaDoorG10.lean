/- Contract of incl.Pick, of all matrices. -/
import Derived.Test.YtpaomeilfmeheaaDoorG9
namespace Go.Proofs.YtpaomeilfmeheaaDoor
set_option linter.unusedSimpArgs false
set_option linter.unusedVariables false
open Go Go.RowKit Go.Shelf
attribute [local go_sem] Nat.add_assoc Nat.add_lt_add_iff_left lit_lt_add

/-- Times and an error's number. -/
structure TR where
  M : Nat
  T : Nat → Int × Int
  e : Int
def pickR (n : Int) (N : Nat) (f : Nat → Int) : TR :=
  if (closeM n N f).e = 0 then ⟨n.toNat - 1, fun k => q8 (pickT n.toNat (closeM n N f).f (k + 1)), 0⟩ else ⟨0, fun _ => (0, 0), (closeM n N f).e⟩
def ratC (w : World) (M : Nat) (T : Nat → Int × Int) (e0 : Int) (e : Ending) (W : World) : Prop :=
  (∃ p cap, e = .returned (.tuple #[.slice p M cap, .int .i64 e0]) ∧ SlR W p M T) ∧ ∃ q, W = Wov w q

theorem row_later {W V : World} {base e s k : Nat} {v : Value} {xs : List Value} (h : W.ownsRow base e s v k xs) (hb : Below W.heap.size W V) : V.ownsRow base e s v k xs := by
  obtain ⟨h0, h | ⟨g, cap, cur, h1, h2, h3, h4⟩⟩ := h
  · exact ⟨h0, .inl h⟩
  · exact ⟨h0, .inr ⟨g, cap, cur, h1, h2, (hb.block g (Array.getElem?_eq_some_iff.1 h3).1).trans h3, h4⟩⟩

end Go.Proofs.YtpaomeilfmeheaaDoor
