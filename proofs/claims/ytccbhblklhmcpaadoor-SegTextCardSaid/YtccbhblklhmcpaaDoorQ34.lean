/- law21: the chapter's names and text. No condition but on what some package variables hold. -/
import Derived.Test.YtccbhblklhmcpaaDoorQ33
import Derived.Test.YtccbhblklhmcpaaDoorRG
namespace Go.Proofs.YtccbhblklhmcpaaDoor
set_option linter.unusedSimpArgs false
set_option linter.unusedVariables false
open Go Go.RowKit Go.Shelf
attribute [local go_sem] Nat.add_assoc Nat.add_lt_add_iff_left lit_lt_add

/-- The chapter's names. -/
def pq : List (List UInt8) := [[112], [113]]
theorem pq_sl {W : World} {A : Nat} (hA : A < W.heap.size) (h0 : W.cell? ⟨A, 0, none⟩ = some (.string ⟨#[112]⟩)) (h1 : W.cell? ⟨A, 1, none⟩ = some (.string ⟨#[113]⟩)) : SlS W (some ⟨A, 0, none⟩) pq := by
  refine .inr ⟨A, 0, rfl, hA, fun i j x u hx hu => ?_⟩
  have hi : i < 2 := (List.getElem?_eq_some_iff.1 hx).1
  have hj : j < 1 := (List.getElem?_eq_some_iff.1 hu).1
  obtain rfl : j = 0 := by omega
  have hu : some (Value.string (bs x)) = some u := hu
  injection hu with hu
  subst hu
  rcases (show i = 0 ∨ i = 1 by omega) with rfl | rfl
  · have hx : some [112] = some x := hx
    injection hx with hx; subst hx; exact h0
  · have hx : some [113] = some x := hx
    injection hx with hx; subst hx; exact h1
/-- The chapter's names, in memory. -/
def PqIs (w w' : World) (v : Value) : Prop := ∃ A, v = .slice (some ⟨A, 0, none⟩) 2 2 ∧ w.heap.size ≤ A ∧ A < w'.heap.size ∧ SlS w' (some ⟨A, 0, none⟩) pq
set_option maxRecDepth 10000 in
set_option maxHeartbeats 400000 in
theorem names21_any (w : World) : Calls Tryd.prog 7 #[] w (fun e w' => Below w.heap.size w w' ∧ ∃ v, e = .returned v ∧ PqIs w w' v) := by
  go_enter Tryd.func7, Tryd.ntmps7
  go_wp2_with (fail)
  go_ret
  exact ⟨by (repeat' (first | (with_reducible assumption) | (with_reducible exact Below.refl _ _) | (with_reducible refine below_wov ?_ ?_ _) | (with_reducible refine below_drewN ?_ _) | (with_reducible refine Below.drew ?_) | (with_reducible refine Below.alloc ?_ ?_ _) | (with_reducible refine Below.setCell ?_ ?_ _) | (with_reducible exact Nat.le_refl _) | omega | (simp only [World.size_alloc, World.size_setCell, World.size_drew, Wov_size, World.heap_drewN]; omega))), _, rfl, _, rfl, Nat.le_refl _, by simp, pq_sl (by simp) (by simp [go_sem]) (by simp [go_sem])⟩
def txt0 : List UInt8 := [50, 58, 112, 44, 113, 59, 49, 58, 45, 59, 52, 58, 113]
def sig0 : List Sg := [(2, 3), (1, 0), (4, 2)]
theorem parse0 : parseS pq txt0 = (sig0, 0, 0) := by decide +kernel
theorem print0 : printS pq sig0 = (txt0, 0) := by
  have := (print_parse (N := pq) (S := txt0) (by rw [parse0])).1
  rwa [parse0] at this
theorem check0 : checkS 2 sig0 = 0 := by decide +kernel
theorem sig0_sl {W : World} {A : Nat} (hA : A < W.heap.size) (h0 : W.cell? ⟨A, 0, none⟩ = some (.int .i64 2)) (h1 : W.cell? ⟨A, 1, none⟩ = some (.int .u8 3)) (h2 : W.cell? ⟨A, 2, none⟩ = some (.int .i64 1)) (h3 : W.cell? ⟨A, 3, none⟩ = some (.int .u8 0)) (h4 : W.cell? ⟨A, 4, none⟩ = some (.int .i64 4)) (h5 : W.cell? ⟨A, 5, none⟩ = some (.int .u8 2)) : SlK sgD W (some ⟨A, 0, none⟩) sig0 := by
  refine .inr ⟨A, 0, rfl, hA, fun i j x u hx hu => ?_⟩
  have hi : i < 3 := (List.getElem?_eq_some_iff.1 hx).1
  have hj : j < 2 := (List.getElem?_eq_some_iff.1 hu).1
  rcases (show i = 0 ∨ i = 1 ∨ i = 2 by omega) with rfl | rfl | rfl <;> rcases (show j = 0 ∨ j = 1 by omega) with rfl | rfl <;> (injection hx with hx; subst hx; injection hu with hu; subst hu; assumption)
#print axioms sig0_sl
end Go.Proofs.YtccbhblklhmcpaaDoor
