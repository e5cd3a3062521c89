/- tree.Names: its closure, that keeps the names which it has met in a map. No condition but on sizes, and what some package variables hold. -/
import Derived.Test.YtccbhblklhmcpaaGreatDoorQ20
import Derived.Maps.OwnSet
import Derived.Maps.OwnOps
import Derived.Maps.Views
namespace Go.Proofs.YtccbhblklhmcpaaGreatDoor
set_option linter.unusedSimpArgs false
set_option linter.unusedVariables false
open Go Go.RowKit Go.Shelf
attribute [local go_sem] Nat.add_assoc Nat.add_lt_add_iff_left lit_lt_add

/-- The names that a map holds. -/
def knownD (N : List (List UInt8)) : DataW Unit := N.foldl (fun m x => m.put (.string x) (.lit (.int .i64 1))) (.map [])
theorem known_app (N : List (List UInt8)) (x : List UInt8) : knownD (N ++ [x]) = (knownD N).put (.string x) (.lit (.int .i64 1)) := by unfold knownD; rw [List.foldl_append]; rfl
theorem known_isMap : ∀ (N : List (List UInt8)) (m : DataW Unit), Maps.IsMap m → Maps.IsMap (N.foldl (fun m x => m.put (.string x) (.lit (.int .i64 1))) m)
  | [], m, h => h
  | x :: N, m, h => known_isMap N _ (h.put _ _)
theorem known_fold : ∀ (N : List (List UInt8)) (m : DataW Unit) (x : List UInt8), Maps.IsMap m → (N.foldl (fun m x => m.put (.string x) (.lit (.int .i64 1))) m).atKey (.string x) (.lit (.int .i64 0)) = if x ∈ N then .lit (.int .i64 1) else m.atKey (.string x) (.lit (.int .i64 0))
  | [], m, x, _ => by simp
  | y :: N, m, x, h => by
    rw [List.foldl_cons, known_fold N _ x (h.put _ _)]
    by_cases hN : x ∈ N
    · rw [if_pos hN, if_pos (List.mem_cons_of_mem _ hN)]
    · rw [if_neg hN]
      by_cases hy : x = y
      · subst hy
        rw [if_pos (List.mem_cons_self ..), Maps.atKey_put_same h (by exact trivial)]
      · rw [if_neg (by rw [List.mem_cons]; rintro (e | e); exact hy e; exact hN e), Maps.atKey_put_other (by intro e; injection e with e; exact hy e)]
theorem known_at (N : List (List UInt8)) (x : List UInt8) : (knownD N).atKey (.string x) (.lit (.int .i64 0)) = .lit (.int .i64 (if x ∈ N then 1 else 0)) := by
  unfold knownD
  rw [known_fold N _ x Maps.isMap_empty]
  by_cases h : x ∈ N
  · rw [if_pos h, if_pos h]
  · rw [if_neg h, if_neg h]; rfl
/-- A map of names in memory, and the box that holds it. -/
structure MapI (W : World) (b : Nat) (N : List (List UInt8)) : Prop where
  own : W.ownsMap Tryz.prog 9 (plainElem Tryz.prog 3) b N.length (knownD N)
  box : W.cell? ⟨b + 1, 0, none⟩ = some (.map (some b))
  lt : b + 1 < W.heap.size
theorem MapI.below {W V : World} {b : Nat} {N : List (List UInt8)} (h : MapI W b N) (hb : Below W.heap.size W V) : MapI V b N := by
  obtain ⟨⟨es, clock, h1, h2⟩, h3, h4⟩ := h
  exact ⟨⟨es, clock, (hb.block b (by omega)).trans h1, h2⟩, (hb.cell (p := ⟨b + 1, 0, none⟩) h4).trans h3, Nat.lt_of_lt_of_le h4 hb.size⟩
theorem MapI.put {W V : World} {b : Nat} {N N' : List (List UInt8)} (h : MapI W b N) (ho : V.ownsMap Tryz.prog 9 (plainElem Tryz.prog 3) b N'.length (knownD N')) (hg : W.grownBy V (some b)) : MapI V b N' :=
  ⟨ho, (World.cell?_of_block (hg.block (b + 1) h.lt (by intro e; injection e with e; omega))).trans h.box, Nat.lt_of_lt_of_le h.lt hg.size⟩
#print axioms MapI.put
end Go.Proofs.YtccbhblklhmcpaaGreatDoor
