/- Zones as texts: where brackets, commas and blanks stand: plain laws for the walks. -/
import Derived.Test.YtpmpapenjcemjaaGreatDoorMT
import Derived.Lib.IndexAny
import Derived.Lib.Bytealg
namespace Go.Proofs.YtpmpapenjcemjaaGreatDoor
set_option linter.unusedSimpArgs false
set_option linter.unusedVariables false
open Go

theorem indexAny_cases (cs : List UInt8) : ∀ l : List UInt8, (Lib.indexAny l cs = -1 ∧ ∀ b, b ∈ l → cs.contains b = false) ∨ ∃ p x r, l = p ++ x :: r ∧ cs.contains x = true ∧ (∀ b, b ∈ p → cs.contains b = false) ∧ Lib.indexAny l cs = (p.length : Int)
  | [] => .inl ⟨rfl, fun b hb => by cases hb⟩
  | b :: l => by
    unfold Lib.indexAny
    by_cases h : cs.contains b = true
    · rw [if_pos h]
      exact .inr ⟨[], b, l, rfl, h, (fun _ hb => by cases hb), rfl⟩
    · rw [if_neg h]
      have h' : cs.contains b = false := by simpa using h
      rcases indexAny_cases cs l with ⟨e, ha⟩ | ⟨p, x, r, e, hx, hp, hi⟩
      · refine .inl ⟨by rw [e]; rfl, fun y hy => ?_⟩
        rcases List.mem_cons.1 hy with rfl | hy
        · exact h'
        · exact ha y hy
      · refine .inr ⟨b :: p, x, r, by rw [e]; rfl, hx, fun y hy => ?_, ?_⟩
        · rcases List.mem_cons.1 hy with rfl | hy
          · exact h'
          · exact hp y hy
        · rw [hi, if_neg (by simp)]
          simp
theorem indexByte_cases (c : UInt8) : ∀ l : List UInt8, (Lib.indexByte l c = -1 ∧ c ∉ l) ∨ ∃ p r, l = p ++ c :: r ∧ c ∉ p ∧ Lib.indexByte l c = (p.length : Int)
  | [] => .inl ⟨rfl, by simp⟩
  | b :: l => by
    unfold Lib.indexByte
    by_cases h : (b == c) = true
    · rw [if_pos h]
      have : b = c := by simpa using h
      subst this
      exact .inr ⟨[], l, rfl, by simp, rfl⟩
    · rw [if_neg h]
      have h' : b ≠ c := by simpa using h
      rcases indexByte_cases c l with ⟨e, ha⟩ | ⟨p, r, e, hp, hi⟩
      · refine .inl ⟨by rw [e]; rfl, fun hm => ?_⟩
        rcases List.mem_cons.1 hm with e | hm
        · exact h' e.symm
        · exact ha hm
      · refine .inr ⟨b :: p, r, by rw [e]; rfl, fun hm => ?_, ?_⟩
        · rcases List.mem_cons.1 hm with e | hm
          · exact h' e.symm
          · exact hp hm
        · rw [hi, if_neg (by simp)]
          simp
theorem brackets_no {b : UInt8} (h : ([41, 93] : List UInt8).contains b = false) : b ≠ 41 ∧ b ≠ 93 := by
  constructor <;> (rintro rfl; exact absurd h (by decide))
theorem brackets_yes {b : UInt8} (h : ([41, 93] : List UInt8).contains b = true) : b = 41 ∨ b = 93 := by
  simp at h; exact h
/-- How far the first piece of a text goes. -/
def pieceN (l : List UInt8) : Nat := if Lib.indexAny l [41, 93] = -1 then l.length else (Lib.indexAny l [41, 93]).toNat + 1
theorem pieceN_le (l : List UInt8) (h : l ≠ []) : 1 ≤ pieceN l ∧ pieceN l ≤ l.length := by
  unfold pieceN
  have : 1 ≤ l.length := by cases l with
    | nil => exact absurd rfl h
    | cons => simp
  rcases indexAny_cases [41, 93] l with ⟨e, _⟩ | ⟨p, x, r, e, _, _, hi⟩
  · rw [if_pos e]; omega
  · rw [hi, if_neg (by omega), e]; simp
theorem pieces_step (l : List UInt8) (h : l ≠ []) : piecesT l = l.take (pieceN l) :: piecesT (l.drop (pieceN l)) := by
  unfold pieceN
  rcases indexAny_cases [41, 93] l with ⟨e, ha⟩ | ⟨p, x, r, e, hx, hp, hi⟩
  · rw [if_pos e, List.take_length, List.drop_length]
    rw [pieces_none l (fun hm => (brackets_no (ha _ hm)).1 rfl) (fun hm => (brackets_no (ha _ hm)).2 rfl) h]
    rfl
  · rw [hi, if_neg (by omega)]
    have e1 : l.take ((p.length : Int).toNat + 1) = p ++ [x] := by rw [e]; simp [List.take_append, List.take_of_length_le]
    have e2 : l.drop ((p.length : Int).toNat + 1) = r := by rw [e]; simp [List.drop_append]
    rw [e1, e2, e]
    exact pieces_free p (fun hm => (brackets_no (hp _ hm)).1 rfl) (fun hm => (brackets_no (hp _ hm)).2 rfl) x r (brackets_yes hx)
theorem cut_comma (l : List UInt8) : (cutC 44 l = none ∧ Lib.indexByte l 44 = -1) ∨ ∃ a b, cutC 44 l = some (a, b) ∧ Lib.indexByte l 44 = (a.length : Int) ∧ l.take a.length = a ∧ l.drop (a.length + 1) = b := by
  rcases indexByte_cases 44 l with ⟨e, h⟩ | ⟨p, r, e, h, hi⟩
  · exact .inl ⟨cutC_none.2 h, e⟩
  · refine .inr ⟨p, r, by rw [e]; exact cutC_free p h r, hi, by rw [e]; simp, by rw [e]; simp⟩
/-- The first part of a text, up to a blank. -/
theorem split_step (c : UInt8) (l : List UInt8) : (Lib.indexByte l c = -1 ∧ splitB c l = [l]) ∨ ∃ n : Nat, Lib.indexByte l c = (n : Int) ∧ n < l.length ∧ splitB c l = l.take n :: splitB c (l.drop (n + 1)) := by
  rcases indexByte_cases c l with ⟨e, h⟩ | ⟨p, r, e, h, hi⟩
  · exact .inl ⟨e, split_last c l h⟩
  · refine .inr ⟨p.length, hi, by rw [e]; simp, ?_⟩
    rw [show l.take p.length = p by rw [e]; simp, show l.drop (p.length + 1) = r by rw [e]; simp, e]
    exact split_free c p h r
theorem split_count (c : UInt8) : ∀ l : List UInt8, (splitB c l).length = l.count c + 1
  | [] => rfl
  | x :: r => by
    have ih := split_count c r
    unfold splitB
    by_cases h : x = c
    · rw [if_pos h, List.length_cons, ih, h, List.count_cons_self]
    · rw [if_neg h, List.count_cons_of_ne h]
      cases hs : splitB c r with
      | nil => exact absurd hs (splitB_ne c r)
      | cons p ps => rw [hs] at ih; simpa using ih
#print axioms split_count
end Go.Proofs.YtpmpapenjcemjaaGreatDoor
