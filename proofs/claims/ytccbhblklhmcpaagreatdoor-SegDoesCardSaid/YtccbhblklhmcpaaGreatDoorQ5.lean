/- A text cut into tokens: plain words; which texts are names. -/
import Derived.Test.YtccbhblklhmcpaaGreatDoorQ2
namespace Go.Proofs.YtccbhblklhmcpaaGreatDoor
set_option linter.unusedSimpArgs false
set_option linter.unusedVariables false
open Go

/-- A token: its kind, its text, where it begins. -/
structure Tk where
  kind : Nat
  text : List UInt8
  at_ : Nat
def isB (c : UInt8) : Bool := c == 32 || c == 9 || c == 10 || c == 13
def signsT : List UInt8 := [124, 38, 59, 43, 60, 62, 95, 91, 93, 40, 41, 44, 33, 123, 125]
def numB (s : List UInt8) : Bool := canonD s && decide (valD 0 s < 288230376151711744)
/-- The token that a row of letters and digits is, or an error's number. -/
def headL : List UInt8 → Bool
  | [] => false
  | c :: _ => isL c
def rowK (s : List UInt8) : Nat × Nat := if headL s = true then (if 8 < s.length then (0, 152) else (1, 0)) else if numB s then (2, 0) else (0, 151)
/-- A sign behind others. -/
def addSign (l : List Tk) (c : UInt8) (i : Nat) : List Tk :=
  match l.getLast? with
  | some t => if (c = 124 ∨ c = 38) ∧ t.kind = 3 ∧ t.text = [c] ∧ t.at_ + 1 = i then l.dropLast ++ [⟨3, [c, c], t.at_⟩] else l ++ [⟨3, [c], i⟩]
  | none => [⟨3, [c], i⟩]
/-- Behind the end of a row that began at a place. -/
def endRow (l : List Tk) (cur : List UInt8) (i : Nat) : List Tk := if cur = [] then l else l ++ [⟨(rowK cur).1, cur, i - cur.length⟩]
/-- The tokens of what is left at a place, where a row and some tokens stand before it. -/
def cutL : List UInt8 → Nat → List UInt8 → List Tk → List Tk × Nat × Nat
  | [], i, cur, l => if cur ≠ [] ∧ (rowK cur).2 ≠ 0 then ([], i - cur.length, (rowK cur).2) else (endRow l cur i, 0, 0)
  | c :: r, i, cur, l =>
    if isW c = true then cutL r (i + 1) (cur ++ [c]) l
    else if cur ≠ [] ∧ (rowK cur).2 ≠ 0 then ([], i - cur.length, (rowK cur).2)
    else if isB c = true then cutL r (i + 1) [] (endRow l cur i)
    else if signsT.contains c = true then cutL r (i + 1) [] (addSign (endRow l cur i) c i)
    else ([], i, 150)
def cutT (s : List UInt8) : List Tk × Nat × Nat := if 4096 < s.length then ([], 0, 3) else cutL s 0 [] []
/-- The one token that a text is. -/
def singleT (s : List UInt8) : Option Tk :=
  match cutT s with
  | ([t], _, 0) => if t.text = s then some t else none
  | _ => none
def oddName (s : List UInt8) : Bool := decide (s = [116, 114, 117, 101] ∨ s = [102, 97, 108, 115, 101] ∨ s = [111, 111])
def nameT (s : List UInt8) : Bool :=
  match singleT s with
  | some t => decide (t.kind = 1) && !oddName s
  | none => false

def wordP (s : List UInt8) : Prop := s.length ≤ 8 ∧ s.all isW = true ∧ ∃ c r, s = c :: r ∧ isL c = true
theorem rowK_word {s : List UInt8} (hs : s.all isW = true) (h : (rowK s).1 = 1) : wordP s ∧ (rowK s).2 = 0 := by
  unfold rowK at h ⊢
  by_cases h0 : headL s = true
  · rw [if_pos h0] at h ⊢
    by_cases h1 : 8 < s.length
    · rw [if_pos h1] at h; cases h
    · rw [if_neg h1]
      refine ⟨⟨by omega, hs, ?_⟩, rfl⟩
      cases s with
      | nil => cases h0
      | cons c r => exact ⟨c, r, rfl, h0⟩
  · rw [if_neg h0] at h
    by_cases h1 : numB s = true
    · rw [if_pos h1] at h; cases h
    · rw [if_neg h1] at h; cases h
theorem row_of_word {s : List UInt8} (h : wordP s) : rowK s = (1, 0) := by
  obtain ⟨h1, _, c, r, rfl, hc⟩ := h
  unfold rowK
  rw [if_pos (by exact hc), if_neg (by omega)]
def tkP (t : Tk) : Prop := t.kind = 1 → wordP t.text
theorem endRow_p {l : List Tk} {cur : List UInt8} {i : Nat} (hl : ∀ t, t ∈ l → tkP t) (hc : cur.all isW = true) : ∀ t, t ∈ endRow l cur i → tkP t := by
  unfold endRow
  split
  · exact hl
  · intro t ht
    rcases List.mem_append.1 ht with h | h
    · exact hl t h
    · rw [List.mem_singleton] at h
      subst h
      exact fun hk => (rowK_word hc hk).1
theorem addSign_p {l : List Tk} {c : UInt8} {i : Nat} (hl : ∀ t, t ∈ l → tkP t) : ∀ t, t ∈ addSign l c i → tkP t := by
  have three : ∀ x a, tkP ⟨3, x, a⟩ := fun x a h => by cases h
  unfold addSign
  split
  · split
    · intro t ht
      rcases List.mem_append.1 ht with h | h
      · exact hl t (List.dropLast_subset _ h)
      · rw [List.mem_singleton] at h; subst h; exact three _ _
    · intro t ht
      rcases List.mem_append.1 ht with h | h
      · exact hl t h
      · rw [List.mem_singleton] at h; subst h; exact three _ _
  · intro t ht
    rw [List.mem_singleton] at ht; subst ht; exact three _ _
theorem cutL_p : ∀ (r : List UInt8) (i : Nat) (cur : List UInt8) (l : List Tk), cur.all isW = true → (∀ t, t ∈ l → tkP t) → ∀ t, t ∈ (cutL r i cur l).1 → tkP t
  | [], i, cur, l, hc, hl => by
    unfold cutL
    split
    · intro t ht; cases ht
    · exact endRow_p hl hc
  | c :: r, i, cur, l, hc, hl => by
    unfold cutL
    split
    · rename_i h
      exact cutL_p r _ _ _ (by rw [List.all_append, hc]; simp [h]) hl
    · split
      · intro t ht; cases ht
      · split
        · exact cutL_p r _ _ _ rfl (endRow_p hl hc)
        · split
          · exact cutL_p r _ _ _ rfl (addSign_p (endRow_p hl hc))
          · intro t ht; cases ht
theorem cutL_row : ∀ (r : List UInt8) (i : Nat) (cur : List UInt8) (l : List Tk), r.all isW = true → cutL r i cur l = cutL [] (i + r.length) (cur ++ r) l
  | [], i, cur, l, _ => by rw [List.append_nil]; rfl
  | c :: r, i, cur, l, h => by
    simp only [List.all_cons, Bool.and_eq_true] at h
    have e : cutL (c :: r) i cur l = cutL r (i + 1) (cur ++ [c]) l := by rw [cutL]; rw [if_pos h.1]
    rw [e, cutL_row r _ _ _ h.2, List.append_assoc]
    rw [show i + 1 + r.length = i + (c :: r).length by rw [List.length_cons]; omega]
    rfl
theorem cut_word {s : List UInt8} (h : wordP s) : cutT s = ([⟨1, s, 0⟩], 0, 0) := by
  have hr := row_of_word h
  obtain ⟨h1, h2, c, r, e, hc⟩ := h
  have hne : s ≠ [] := by rw [e]; simp
  unfold cutT
  rw [if_neg (by omega), cutL_row s 0 [] [] h2, List.nil_append, Nat.zero_add]
  unfold cutL endRow
  rw [hr, if_neg (by simp), if_neg hne, Nat.sub_self]
  rfl
theorem single_word {s : List UInt8} (h : wordP s) : singleT s = some ⟨1, s, 0⟩ := by
  unfold singleT
  rw [cut_word h]
  simp
theorem word_of_single {s : List UInt8} {t : Tk} (h : singleT s = some t) (hk : t.kind = 1) : wordP s := by
  unfold singleT at h
  split at h
  · rename_i u _ he
    split at h
    · rename_i h2
      simp only [Option.some.injEq] at h
      subst h
      have : u ∈ (cutT s).1 := by rw [he]; simp
      unfold cutT at this
      split at this
      · cases this
      · have := cutL_p s 0 [] [] rfl (fun t ht => by cases ht) u this hk
        rwa [h2] at this
    · cases h
  · cases h
theorem mayName_iff (s : List UInt8) : mayName s = true ↔ wordP s ∧ oddName s = false := by
  unfold mayName oddName wordP
  cases s with
  | nil => simp
  | cons c r =>
    simp only [Bool.and_eq_true, decide_eq_true_eq, decide_eq_false_iff_not, not_or, List.all_cons]
    constructor
    · rintro ⟨⟨⟨⟨h1, h2, h3⟩, h4⟩, h5⟩, h6⟩
      exact ⟨⟨h1, ⟨by unfold isW; rw [h2]; rfl, h3⟩, c, r, rfl, h2⟩, h4, h5, h6⟩
    · rintro ⟨⟨h1, ⟨h2, h3⟩, c', r', e, hc⟩, h4, h5, h6⟩
      simp only [List.cons.injEq] at e
      obtain ⟨rfl, rfl⟩ := e
      exact ⟨⟨⟨⟨h1, hc, h3⟩, h4⟩, h5⟩, h6⟩
theorem nameT_eq (s : List UInt8) : nameT s = mayName s := by
  rw [Bool.eq_iff_iff, mayName_iff]
  unfold nameT
  constructor
  · intro h
    split at h
    · rename_i t ht
      simp only [Bool.and_eq_true, decide_eq_true_eq, Bool.not_eq_true'] at h
      exact ⟨word_of_single ht h.1, h.2⟩
    · cases h
  · rintro ⟨h, ho⟩
    rw [single_word h]
    simp [ho]
#print axioms nameT_eq
end Go.Proofs.YtccbhblklhmcpaaGreatDoor
