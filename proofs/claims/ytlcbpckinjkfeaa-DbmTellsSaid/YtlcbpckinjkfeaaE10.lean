/- A boxed matrix, kept while the world grows. No condition. -/
import Derived.Test.YtlcbpckinjkfeaaE8
import Derived.Test.YtlcbpckinjkfeaaFrame2
namespace Go.Proofs.Ytlcbpckinjkfeaa
set_option linter.unusedSimpArgs false
set_option linter.unusedVariables false
open Go Go.RowKit

/-- A matrix in a variable of its own: block A. -/
structure BoxM (W : World) (A : Nat) (n : Int) (p : Option Addr) (N cap : Nat) (f : Nat → Int) : Prop where
  lt : A < W.heap.size
  c0 : W.cell? ⟨A, 0, none⟩ = some (.int .i64 n)
  c1 : W.cell? ⟨A, 1, none⟩ = some (.slice p N cap)
  sl : SlP W p N f
theorem BoxM.below {W W' : World} {A : Nat} {n : Int} {p : Option Addr} {N cap : Nat} {f : Nat → Int} (h : BoxM W A n p N cap f) (hb : Below W.heap.size W W') : BoxM W' A n p N cap f :=
  ⟨Nat.lt_of_lt_of_le h.lt hb.size, (hb.cell (p := ⟨A, 0, none⟩) h.lt).trans h.c0, (hb.cell (p := ⟨A, 1, none⟩) h.lt).trans h.c1, h.sl.below hb⟩
theorem BoxM.new {W : World} {A : Nat} {n : Int} {p : Option Addr} {N cap : Nat} {f : Nat → Int} {t : TypeId} (h : SlP W p N f) (hA : A = W.heap.size) : BoxM (W.alloc (.cells #[.int .i64 n, .slice p N cap] t)) A n p N cap f := by
  subst hA
  exact ⟨by simp, by simp [go_sem], by simp [go_sem], h.below ((Below.refl _ _).alloc (Nat.le_refl _) _)⟩
end Go.Proofs.Ytlcbpckinjkfeaa
