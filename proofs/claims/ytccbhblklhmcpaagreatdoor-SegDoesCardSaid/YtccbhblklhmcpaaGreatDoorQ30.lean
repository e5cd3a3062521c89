/- seg.Parse. No condition but on sizes, and what some package variables hold. -/
import Derived.Test.YtccbhblklhmcpaaGreatDoorQ29
namespace Go.Proofs.YtccbhblklhmcpaaGreatDoor
set_option linter.unusedSimpArgs false
set_option linter.unusedVariables false
open Go Go.RowKit Go.Shelf
attribute [local go_sem] Nat.add_assoc Nat.add_lt_add_iff_left lit_lt_add

/-- What is read of all segments is a number's and names'. -/
theorem all_good (N : List (List UInt8)) : ∀ (f : Nat) (r : List UInt8) (p : Nat) (acc : List Sg), (allL N f r p acc).2.2 = 0 → (∀ s, s ∈ (allL N f r p acc).1 → s ∈ acc ∨ (1 ≤ s.1 ∧ s.1 < 288230376151711744 ∧ s.2 < 2 ^ N.length)) ∧ (allL N f r p acc).1.length ≤ acc.length + r.length + 1
  | 0, r, p, acc, h => by unfold allL at h; simp at h
  | f + 1, r, p, acc, h => by
    unfold allL at h ⊢
    split at h
    · rename_i h0; exact absurd h h0
    · rename_i h0
      have h0 : (segL N r p).2.2.2 = 0 := Classical.not_not.1 h0
      have hs := seg_inv (N := N) (r := r) (p := p) (s := (segL N r p).1) (t := (segL N r p).2.1) (q := (segL N r p).2.2.1) (Prod.ext rfl (Prod.ext rfl (Prod.ext rfl h0)))
      rw [if_neg (by rw [h0]; simp)]
      split at h
      · rename_i h1
        rw [if_pos h1]
        refine ⟨fun s hs' => ?_, by simp⟩
        rcases List.mem_append.1 hs' with h2 | h2
        · exact .inl h2
        · rw [List.mem_singleton.1 h2]; exact .inr hs.2
      · rename_i h1
        rw [if_neg h1]
        split at h
        · rename_i h2
          rw [if_pos h2]
          obtain ⟨g1, g2⟩ := all_good N f _ _ _ h
          have hl := congrArg List.length hs.1
          rw [List.length_append] at hl
          have hp := List.length_pos_iff.2 h1
          refine ⟨fun s hs' => ?_, ?_⟩
          · rcases g1 s hs' with h3 | h3
            · rcases List.mem_append.1 h3 with h4 | h4
              · exact .inl h4
              · rw [List.mem_singleton.1 h4]; exact .inr hs.2
            · exact .inr h3
          · rw [List.length_append, List.length_singleton, List.length_tail] at g2
            omega
        · simp at h
/-- What reading begins with. -/
def oA (N : List (List UInt8)) (S : List UInt8) : List Sg × Nat × Nat := if S = [] then ([], 0, 0) else allL N (S.length + 1) S 0 []
theorem oA_good (N : List (List UInt8)) (S : List UInt8) (h : (oA N S).2.2 = 0) : (∀ s, s ∈ (oA N S).1 → 1 ≤ s.1 ∧ s.1 < 288230376151711744 ∧ s.2 < 2 ^ N.length) ∧ (oA N S).1.length ≤ S.length + 1 := by
  unfold oA at h ⊢
  split at h
  · rename_i hs; rw [if_pos hs]; exact ⟨fun s hs => (by cases hs), Nat.zero_le _⟩
  · rename_i hs; rw [if_neg hs]
    obtain ⟨a, b⟩ := all_good N _ _ _ _ h
    exact ⟨fun s hs => (a s hs).resolve_left (by simp), by simpa using b⟩
theorem oA_fail (N : List (List UInt8)) : ∀ (f : Nat) (r : List UInt8) (p : Nat) (acc : List Sg), (allL N f r p acc).2.2 ≠ 0 → (allL N f r p acc).1 = []
  | 0, r, p, acc, h => rfl
  | f + 1, r, p, acc, h => by
    unfold allL at h ⊢
    split at h
    · rename_i h0; rw [if_pos h0]
    · rename_i h0
      rw [if_neg h0]
      split at h
      · simp at h
      · rename_i h1
        rw [if_neg h1]
        split at h
        · rename_i h2; rw [if_pos h2]; exact oA_fail N f _ _ _ h
        · rename_i h2; rw [if_neg h2]
theorem parseS_eq (N : List (List UInt8)) (S : List UInt8) (h1 : mayNames N = true) (h2 : ¬ 4096 < S.length) : parseS N S = if (oA N S).2.2 ≠ 0 then ([], (oA N S).2.1, (oA N S).2.2) else if checkS N.length (oA N S).1 ≠ 0 then ([], 0, checkS N.length (oA N S).1) else ((oA N S).1, 0, 0) := by
  unfold parseS oA
  rw [if_neg (by rw [h1]; simp), if_neg h2]
  by_cases hs : S = []
  · rw [if_pos hs, if_pos hs]
    simp only [ne_eq, not_true_eq_false, if_false]
    have : checkS N.length [] = 0 := by unfold checkS; simp [farL]
    rw [this]; rfl
  · rw [if_neg hs, if_neg hs]
set_option maxRecDepth 10000 in
set_option maxHeartbeats 4000000 in
theorem all_none (W : World) (B : Nat) (v : Value) (h : RdI W B v (bs []) 0) : Calls Tryz.prog 11 #[.pointer (some ⟨B, 0, none⟩)] W (allC W B ([], 0, 0)) := by
  have hlt := h.lt
  have c1 := h.c1
  have he : (bs []).toList.isEmpty = true := by rw [Lib.toList_data, bs_list]; rfl
  obtain ⟨T, hT⟩ : ∃ T, T = bs [] := ⟨_, rfl⟩
  rw [← hT] at c1 he
  clear h hT
  go_enter Tryz.func11, Tryz.ntmps11
  go_wp2_with (fail)
  go_ret2
  exact ⟨Turn.of (by (repeat' (first | (with_reducible assumption) | (with_reducible exact Below.refl _ _) | (with_reducible refine below_wov ?_ ?_ _) | (with_reducible refine below_drewN ?_ _) | (with_reducible refine Below.drew ?_) | (with_reducible refine Below.alloc ?_ ?_ _) | (with_reducible refine Below.setCell ?_ ?_ _) | (with_reducible exact Nat.le_refl _) | omega | (simp only [World.size_alloc, World.size_setCell, World.size_drew, Wov_size, World.heap_drewN]; omega)))), _, _, rfl, .inl ⟨rfl, rfl⟩, fun _ => RowK.nil _ _⟩
#print axioms all_none
end Go.Proofs.YtccbhblklhmcpaaGreatDoor
