/- Plain laws for what the shelf's contracts hand back: places of names, trimmed texts, the words that may be no names. -/
import Derived.Test.YtccbhblklhmcpaaGreatDoorQB
import Derived.Lib.SlicesS
import Derived.Lib.IndexMore
import Derived.Lib.SlTrimSet
import Derived.Lib.IndexAny
namespace Go.Proofs.YtccbhblklhmcpaaGreatDoor
set_option linter.unusedSimpArgs false
set_option linter.unusedVariables false
open Go

theorem idxFromS_eq (x : List UInt8) : ∀ (N : List (List UInt8)) (i : Nat), Lib.idxFromS (N.map bs) (bs x) i = if x ∈ N then ((i + N.idxOf x : Nat) : Int) else -1
  | [], i => by simp [Lib.idxFromS]
  | y :: N, i => by
    rw [List.map_cons, Lib.idxFromS, idxFromS_eq x N]
    by_cases h : y = x
    · subst h
      rw [if_pos rfl, if_pos (List.mem_cons_self ..), List.idxOf_cons_self, Nat.add_zero]
    · rw [if_neg (fun e => h (bs_inj e)), List.idxOf_cons, show (y == x) = false from beq_eq_false_iff_ne.2 h, cond_false]
      by_cases hx : x ∈ N
      · rw [if_pos hx, if_pos (List.mem_cons_of_mem _ hx)]
        congr 1; omega
      · rw [if_neg hx, if_neg (by rw [List.mem_cons]; rintro (e | e); exact h e.symm; exact hx e)]
theorem idxOfS_eq (N : List (List UInt8)) (x : List UInt8) : Lib.idxOfS (N.map bs) (bs x) = idxI N x := by
  unfold Lib.idxOfS idxI
  rw [idxFromS_eq, Nat.zero_add]
def lettersT : List UInt8 := [97, 98, 99, 100, 101, 102, 103, 104, 105, 106, 107, 108, 109, 110, 111, 112, 113, 114, 115, 116, 117, 118, 119, 120, 121, 122]
def digitsT : List UInt8 := [48, 49, 50, 51, 52, 53, 54, 55, 56, 57]
theorem mem_lit (l : List Nat) (b : UInt8) (h : ∀ k, k ∈ l → k < 256) : (l.map UInt8.ofNat).contains b = l.contains b.toNat := by
  induction l with
  | nil => rfl
  | cons k l ih =>
    rw [List.map_cons, List.contains_cons, List.contains_cons, ih fun j hj => h j (List.mem_cons_of_mem _ hj)]
    congr 1
    rw [Bool.eq_iff_iff, beq_iff_eq, beq_iff_eq, ← UInt8.toNat_inj, UInt8.toNat_ofNat', Nat.mod_eq_of_lt (h k (List.mem_cons_self ..))]
theorem letters_isL (b : UInt8) : lettersT.contains b = isL b := by
  have := mem_lit [97, 98, 99, 100, 101, 102, 103, 104, 105, 106, 107, 108, 109, 110, 111, 112, 113, 114, 115, 116, 117, 118, 119, 120, 121, 122] b (by decide)
  refine this.trans ?_
  unfold isL
  rw [Bool.eq_iff_iff, decide_eq_true_eq]
  simp
  omega
theorem digits_isD (b : UInt8) : digitsT.contains b = isD b := by
  have := mem_lit [48, 49, 50, 51, 52, 53, 54, 55, 56, 57] b (by decide)
  refine this.trans ?_
  unfold isD
  rw [Bool.eq_iff_iff, decide_eq_true_eq]
  simp
  omega
theorem words_isW (b : UInt8) : (lettersT ++ digitsT).contains b = isW b := by
  unfold isW
  rw [List.contains_append, letters_isL, digits_isD]
/-- The words that may be no names, with blanks between. -/
def oddT : List UInt8 := [32, 116, 114, 117, 101, 32, 102, 97, 108, 115, 101, 32, 111, 111, 32]
theorem pre_space : ∀ (w l : List UInt8), (32 : UInt8) ∉ w → ((w ++ [32]).isPrefixOf l = true ↔ ∃ r, l = w ++ 32 :: r)
  | [], l, _ => by
    cases l with
    | nil => simp
    | cons c r =>
      simp only [List.nil_append, List.isPrefixOf_cons_cons, List.isPrefixOf_nil_left, Bool.and_true, beq_iff_eq, List.cons.injEq]
      constructor
      · rintro rfl; exact ⟨r, rfl, rfl⟩
      · rintro ⟨_, h, _⟩; exact h.symm
  | x :: w, l, h => by
    rw [List.mem_cons, not_or] at h
    cases l with
    | nil => simp
    | cons c r =>
      have ih := pre_space w r h.2
      rw [List.cons_append, List.isPrefixOf_cons_cons, Bool.and_eq_true, beq_iff_eq, ih]
      constructor
      · rintro ⟨rfl, z, rfl⟩; exact ⟨z, rfl⟩
      · rintro ⟨z, hz⟩
        rw [List.cons_append, List.cons.injEq] at hz
        exact ⟨hz.1.symm, z, hz.2⟩
theorem split_space : ∀ (w v r : List UInt8), (32 : UInt8) ∉ w → (32 : UInt8) ∉ v → ((∃ z, v ++ 32 :: r = w ++ 32 :: z) ↔ w = v)
  | [], [], r, _, _ => by simp
  | [], y :: v, r, _, hv => by
    rw [List.mem_cons, not_or] at hv
    simp only [List.cons_append, List.nil_append, List.cons.injEq]
    constructor
    · rintro ⟨z, h, _⟩; exact absurd h.symm hv.1
    · intro h; cases h
  | x :: w, [], r, hw, _ => by
    rw [List.mem_cons, not_or] at hw
    simp only [List.cons_append, List.nil_append, List.cons.injEq]
    constructor
    · rintro ⟨z, h, _⟩; exact absurd h hw.1
    · intro h; cases h
  | x :: w, y :: v, r, hw, hv => by
    rw [List.mem_cons, not_or] at hw hv
    have ih := split_space w v r hw.2 hv.2
    simp only [List.cons_append, List.cons.injEq]
    constructor
    · rintro ⟨z, rfl, h⟩; exact ⟨rfl, ih.1 ⟨z, h⟩⟩
    · rintro ⟨rfl, h⟩
      obtain ⟨z, hz⟩ := ih.2 h
      exact ⟨z, rfl, hz⟩
theorem index_hit_iff (sub : List UInt8) : ∀ s : List UInt8, (0 ≤ Lib.index s sub) ↔ ∃ i, i ≤ s.length ∧ sub.isPrefixOf (s.drop i) = true
  | [] => by
    unfold Lib.index
    cases sub with
    | nil => simp
    | cons x r => simp
  | b :: s => by
    have ih := index_hit_iff sub s
    have hg := Lib.index_ge s sub
    unfold Lib.index
    by_cases h : sub.isPrefixOf (b :: s) = true
    · rw [if_pos h]
      exact ⟨fun _ => ⟨0, Nat.zero_le _, h⟩, fun _ => by omega⟩
    · rw [if_neg h]
      by_cases h2 : (Lib.index s sub == -1) = true
      · rw [if_pos h2]
        rw [beq_iff_eq] at h2
        constructor
        · intro h3; omega
        · rintro ⟨i, hi, hp⟩
          cases i with
          | zero => exact absurd hp h
          | succ i =>
            have := ih.2 ⟨i, by simpa using hi, hp⟩
            omega
      · rw [if_neg h2]
        have h2 : ¬ Lib.index s sub = -1 := by simpa using h2
        constructor
        · intro _
          obtain ⟨i, hi, hp⟩ := ih.1 (by omega)
          exact ⟨i + 1, by simpa using hi, hp⟩
        · intro _; omega
theorem odd_contains (w : List UInt8) (hw : (32 : UInt8) ∉ w) : Lib.contains oddT ([32] ++ w ++ [32]) = oddName w := by
  unfold Lib.contains oddName
  rw [decide_eq_decide, index_hit_iff]
  have e : ∀ l : List UInt8, ([32] ++ w ++ [32]).isPrefixOf l = true ↔ ∃ r, l = 32 :: r ∧ ∃ z, r = w ++ 32 :: z := fun l => by
    cases l with
    | nil => simp
    | cons c r =>
      rw [List.append_assoc, List.singleton_append, List.isPrefixOf_cons_cons, Bool.and_eq_true, beq_iff_eq, pre_space w r hw]
      constructor
      · rintro ⟨rfl, h⟩; exact ⟨r, rfl, h⟩
      · rintro ⟨r', h, hz⟩
        simp only [List.cons.injEq] at h
        obtain ⟨rfl, rfl⟩ := h
        exact ⟨rfl, hz⟩
  have s1 := split_space w [116, 114, 117, 101] [102, 97, 108, 115, 101, 32, 111, 111, 32] hw (by decide)
  have s2 := split_space w [102, 97, 108, 115, 101] [111, 111, 32] hw (by decide)
  have s3 := split_space w [111, 111] [] hw (by decide)
  constructor
  · rintro ⟨i, hi, hp⟩
    rw [e] at hp
    obtain ⟨r, hr, hz⟩ := hp
    have hi : i ≤ 15 := hi
    have hc : i = 0 ∨ i = 1 ∨ i = 2 ∨ i = 3 ∨ i = 4 ∨ i = 5 ∨ i = 6 ∨ i = 7 ∨ i = 8 ∨ i = 9 ∨ i = 10 ∨ i = 11 ∨ i = 12 ∨ i = 13 ∨ i = 14 ∨ i = 15 := by omega
    rcases hc with rfl | rfl | rfl | rfl | rfl | rfl | rfl | rfl | rfl | rfl | rfl | rfl | rfl | rfl | rfl | rfl
    · left; injection hr with _ hr; subst hr; exact s1.1 hz
    all_goals first
      | (exfalso; injection hr with h _; revert h; decide)
      | (exfalso; cases hr; done)
      | skip
    · right; left; injection hr with _ hr; subst hr; exact s2.1 hz
    · right; right; injection hr with _ hr; subst hr; exact s3.1 hz
    · exfalso
      injection hr with _ hr
      subst hr
      obtain ⟨z, hz⟩ := hz
      cases w <;> simp at hz
  · rintro (h | h | h)
    · refine ⟨0, by decide, (e _).2 ⟨_, rfl, s1.2 h⟩⟩
    · refine ⟨5, by decide, (e _).2 ⟨_, rfl, s2.2 h⟩⟩
    · refine ⟨11, by decide, (e _).2 ⟨_, rfl, s3.2 h⟩⟩
theorem word_no_space {w : List UInt8} (h : w.all isW = true) : (32 : UInt8) ∉ w := fun hm => by
  have := List.all_eq_true.1 h 32 hm
  exact absurd this (by decide)
#print axioms odd_contains
end Go.Proofs.YtccbhblklhmcpaaGreatDoor
