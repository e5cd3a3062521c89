/- Zones' texts: the text of two lists is that of both: plain laws. No condition. -/
import Derived.Test.YtpmpapenjcemjaaGreatDoorB2
namespace Go.Proofs.YtpmpapenjcemjaaGreatDoor
set_option linter.unusedSimpArgs false
set_option linter.unusedVariables false
open Go Go.RowKit

theorem join_app (sep : List UInt8) : ∀ a b : List (List UInt8), a ≠ [] → b ≠ [] → Lib.join (a ++ b) sep = Lib.join a sep ++ (sep ++ Lib.join b sep)
  | [], _, h, _ => absurd rfl h
  | [x], b, _, hb => by rw [List.cons_append, List.nil_append, join_cons _ _ hb, join_single]
  | x :: y :: r, b, _, hb => by
    have ih := join_app sep (y :: r) b (by simp) hb
    rw [List.cons_append, join_cons _ _ (by simp), ih, join_cons x (y :: r) (by simp)]
    simp [List.append_assoc]
/-- The text of two lists. -/
theorem joins_ok {a b : List (Nat → Int)} (ha : a.length ≤ 2000) (hb : b.length ≤ 2000) (h1 : (printT a).2 = 0) (h2 : (printT b).2 = 0) :
    printT (a ++ b) = (if a = [] ∨ b = [] then (printT a).1 ++ (printT b).1 else ((printT a).1 ++ [32]) ++ (printT b).1, 0) := by
  obtain ⟨k1, _⟩ := print_all h1
  obtain ⟨k2, _⟩ := print_all h2
  rw [print_ok (L := a ++ b) (by rw [List.all_append, k1, k2]; rfl) (by rw [List.length_append]; omega), print_ok k1 (by omega), print_ok k2 (by omega), List.map_append]
  congr 1
  by_cases h : a = [] ∨ b = []
  · rw [if_pos h]
    rcases h with rfl | rfl
    · simp [Lib.join]
    · simp [Lib.join]
  · rw [if_neg h]
    have na : a ≠ [] := fun e => h (.inl e)
    have nb : b ≠ [] := fun e => h (.inr e)
    rw [join_app _ _ _ (by simpa using na) (by simpa using nb)]
    simp
theorem joins_bad {a b : List (Nat → Int)} (ha : a.length ≤ 2000) (hb : b.length ≤ 2000) (h : (printT a).2 ≠ 0 ∨ (printT b).2 ≠ 0) : printT (a ++ b) = ([], 8) := by
  refine print_bad ?_ (by rw [List.length_append]; omega)
  rw [List.all_append]
  rcases h with h | h
  · cases hk : a.all okZ
    · rfl
    · rw [print_ok hk (by omega)] at h; exact absurd rfl h
  · cases hk : b.all okZ
    · simp
    · rw [print_ok hk (by omega)] at h; exact absurd rfl h
theorem sameZs_symm {l m : List (Nat → Int)} (h : sameZs l m) : sameZs m l :=
  sameZs_of (sameZs_len h).symm fun i hi j hj => (sameZs_nth h i (by rw [sameZs_len h]; exact hi) j hj).symm
theorem sameZs_trans {l m n : List (Nat → Int)} (h : sameZs l m) (k : sameZs m n) : sameZs l n :=
  sameZs_of ((sameZs_len h).trans (sameZs_len k)) fun i hi j hj => (sameZs_nth h i hi j hj).trans (sameZs_nth k i (by rw [← sameZs_len h]; exact hi) j hj)
/-- A text tells unlike lists apart. -/
theorem texts_apart {a b : List (Nat → Int)} (h1 : (printT a).2 = 0) (h2 : (printT b).2 = 0) : (printT a).1 = (printT b).1 ↔ sameL a b = true := by
  constructor
  · intro h
    obtain ⟨M, m1, m2⟩ := parse_print (by have := print_len a; omega) h1
    obtain ⟨M', n1, n2⟩ := parse_print (by have := print_len b; omega) h2
    rw [h, n1] at m1
    simp only [Prod.mk.injEq] at m1
    rw [m1.1] at n2
    exact sameZs_same (sameZs_trans (sameZs_symm m2) n2)
  · intro h
    have hs := same_sameZs h
    obtain ⟨k1, l1⟩ := print_all h1
    obtain ⟨k2, l2⟩ := print_all h2
    rw [print_ok k1 l1, print_ok k2 l2, sameZs_text hs]
#print axioms texts_apart
end Go.Proofs.YtpmpapenjcemjaaGreatDoor
