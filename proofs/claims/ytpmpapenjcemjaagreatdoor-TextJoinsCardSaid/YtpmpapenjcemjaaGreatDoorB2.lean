/- Zones' texts: plain laws for the walks of law31. No condition. -/
import Derived.Test.YtpmpapenjcemjaaGreatDoorB1
import Derived.Test.YtpmpapenjcemjaaGreatDoorS10
namespace Go.Proofs.YtpmpapenjcemjaaGreatDoor
set_option linter.unusedSimpArgs false
set_option linter.unusedVariables false
open Go Go.RowKit

theorem print_all {L : List (Nat → Int)} (h : (printT L).2 = 0) : L.all okZ = true ∧ L.length ≤ 4096 := by
  unfold printT at h
  split at h
  · simp at h
  · rename_i h1
    split at h
    · rename_i h2; exact ⟨h2, by omega⟩
    · simp at h
theorem all_fits {L : List (Nat → Int)} (h : L.all okZ = true) : ∀ z, z ∈ L → FitsZ z := fun z hz => okZ_fits (List.all_eq_true.1 h z hz)
theorem sameZs_nth : ∀ {l m : List (Nat → Int)}, sameZs l m → ∀ i, i < l.length → ∀ j, j < 6 → nthZ l i j = nthZ m i j
  | [], [], _, i, hi, _, _ => by simp at hi
  | a :: l, b :: m, h, 0, _, j, hj => by simpa [nthZ] using h.1 j hj
  | a :: l, b :: m, h, i + 1, hi, j, hj => by
    have := sameZs_nth h.2 i (by simpa using hi) j hj
    simpa [nthZ] using this
  | [], b :: m, h, _, _, _, _ => h.elim
  | a :: l, [], h, _, _, _, _ => h.elim
theorem sameZs_same {l m : List (Nat → Int)} (h : sameZs l m) : sameL l m = true :=
  sameL_yes (sameZs_len h) fun i hi => (eq6_iff _ _).2 (fun j hj => sameZs_nth h i hi j hj)
theorem sameZs_of : ∀ {l m : List (Nat → Int)}, l.length = m.length → (∀ i, i < l.length → ∀ j, j < 6 → nthZ l i j = nthZ m i j) → sameZs l m
  | [], [], _, _ => trivial
  | a :: l, b :: m, h, hh => ⟨fun j hj => by simpa [nthZ] using hh 0 (by simp) j hj, sameZs_of (by simpa using h) fun i hi j hj => by
    have := hh (i + 1) (by simpa using hi) j hj
    simpa [nthZ] using this⟩
  | [], b :: m, h, _ => by simp at h
  | a :: l, [], h, _ => by simp at h
theorem same_sameZs {l m : List (Nat → Int)} (h : sameL l m = true) : sameZs l m := by
  unfold sameL at h
  rw [Bool.and_eq_true, decide_eq_true_eq, List.all_eq_true] at h
  exact sameZs_of h.1 fun i hi => (eq6_iff _ _).1 (h.2 i (by simpa using hi))
#print axioms same_sameZs
end Go.Proofs.YtpmpapenjcemjaaGreatDoor
