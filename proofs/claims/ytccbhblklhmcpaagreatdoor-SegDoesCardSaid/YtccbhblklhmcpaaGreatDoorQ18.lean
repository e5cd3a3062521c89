/- A text cut into tokens, step by step: plain laws. -/
import Derived.Test.YtccbhblklhmcpaaGreatDoorQ5
namespace Go.Proofs.YtccbhblklhmcpaaGreatDoor
set_option linter.unusedSimpArgs false
set_option linter.unusedVariables false
open Go

/-- Where the cutting stands at a place: the row that goes on, and the tokens before it. -/
structure CutR (s : List UInt8) (i : Nat) (cur : List UInt8) (l : List Tk) : Prop where
  hc : cur = (s.drop (i - cur.length)).take cur.length
  hl : cur.length ≤ i
  all : cur.all isW = true
  len : l.length ≤ 2 * i
  eq : cutL (s.drop i) i cur l = cutL s 0 [] []
theorem CutR.start (s : List UInt8) : CutR s 0 [] [] := ⟨by simp, Nat.le_refl _, rfl, Nat.le_refl _, rfl⟩
theorem endRow_len (l : List Tk) (cur : List UInt8) (i : Nat) : (endRow l cur i).length ≤ l.length + 1 := by
  unfold endRow; split
  · omega
  · simp
theorem addSign_len (l : List Tk) (c : UInt8) (i : Nat) : (addSign l c i).length ≤ l.length + 1 := by
  unfold addSign; split
  · split
    · simp
    · simp
  · simp
theorem drop_x {s : List UInt8} {i : Nat} {x : UInt8} (hx : s[i]? = some x) : s.drop i = x :: s.drop (i + 1) := by
  obtain ⟨hi, e⟩ := List.getElem?_eq_some_iff.1 hx
  rw [List.drop_eq_getElem_cons hi, e]
section
variable {s : List UInt8} {i : Nat} {cur : List UInt8} {l : List Tk} {x : UInt8} (h : CutR s i cur l)
include h
theorem CutR.word (hx : s[i]? = some x) (hw : isW x = true) : CutR s (i + 1) (cur ++ [x]) l := by
  have hl := h.hl
  refine ⟨?_, by rw [List.length_append]; simp; omega, by rw [List.all_append, h.all]; simp [hw], by have := h.len; omega, ?_⟩
  · rw [List.length_append]
    show _ = (s.drop (i + 1 - (cur.length + 1))).take (cur.length + 1)
    rw [show i + 1 - (cur.length + 1) = i - cur.length by omega, List.take_add_one, ← h.hc, List.getElem?_drop, show i - cur.length + cur.length = i by omega, hx]
    rfl
  · rw [← h.eq, drop_x hx]
    conv => rhs; rw [cutL]
    rw [if_pos hw]
theorem CutR.err (hx : s[i]? = some x) (hw : isW x = false) (hn : cur ≠ []) (he : (rowK cur).2 ≠ 0) : cutL s 0 [] [] = ([], i - cur.length, (rowK cur).2) := by
  rw [← h.eq, drop_x hx, cutL, if_neg (by rw [hw]; simp), if_pos ⟨hn, he⟩]
theorem CutR.blank (hx : s[i]? = some x) (hw : isW x = false) (hn : ¬ (cur ≠ [] ∧ (rowK cur).2 ≠ 0)) (hb : isB x = true) : CutR s (i + 1) [] (endRow l cur i) := by
  refine ⟨by simp, Nat.zero_le _, rfl, by have := h.len; have := endRow_len l cur i; omega, ?_⟩
  rw [← h.eq, drop_x hx]
  conv => rhs; rw [cutL]
  rw [if_neg (by rw [hw]; simp), if_neg hn, if_pos hb]
theorem CutR.sign (hx : s[i]? = some x) (hw : isW x = false) (hn : ¬ (cur ≠ [] ∧ (rowK cur).2 ≠ 0)) (hb : isB x = false) (hs : signsT.contains x = true) : CutR s (i + 1) [] (addSign (endRow l cur i) x i) := by
  refine ⟨by simp, Nat.zero_le _, rfl, by have := h.len; have := endRow_len l cur i; have := addSign_len (endRow l cur i) x i; omega, ?_⟩
  rw [← h.eq, drop_x hx]
  conv => rhs; rw [cutL]
  rw [if_neg (by rw [hw]; simp), if_neg hn, if_neg (by rw [hb]; simp), if_pos hs]
theorem CutR.odd (hx : s[i]? = some x) (hw : isW x = false) (hn : ¬ (cur ≠ [] ∧ (rowK cur).2 ≠ 0)) (hb : isB x = false) (hs : signsT.contains x = false) : cutL s 0 [] [] = ([], i, 150) := by
  rw [← h.eq, drop_x hx, cutL, if_neg (by rw [hw]; simp), if_neg hn, if_neg (by rw [hb]; simp), if_neg (by rw [hs]; simp)]
theorem CutR.last (hi : i = s.length) : cutL s 0 [] [] = if cur ≠ [] ∧ (rowK cur).2 ≠ 0 then ([], i - cur.length, (rowK cur).2) else (endRow l cur i, 0, 0) := by
  rw [← h.eq, hi, List.drop_of_length_le (Nat.le_refl _), cutL]
theorem CutR.slice (hn : cur ≠ []) : i - cur.length < i ∧ cur = (s.drop (i - cur.length)).take (i - (i - cur.length)) := by
  have := List.length_pos_iff.2 hn
  have hl := h.hl
  refine ⟨by omega, ?_⟩
  rw [show i - (i - cur.length) = cur.length by omega]
  exact h.hc
end
theorem wide_odd {x : UInt8} (h : 128 ≤ x.toNat) : isW x = false ∧ isB x = false ∧ signsT.contains x = false := by
  have hb : ∀ k : Nat, k < 128 → (x == UInt8.ofNat k) = false := fun k hk => by
    rw [beq_eq_false_iff_ne]; intro e
    have := congrArg UInt8.toNat e
    rw [UInt8.toNat_ofNat'] at this
    omega
  refine ⟨?_, ?_, ?_⟩
  · unfold isW isL isD
    rw [decide_eq_false (by omega), decide_eq_false (by omega)]; rfl
  · unfold isB
    rw [show (32 : UInt8) = UInt8.ofNat 32 from rfl, show (9 : UInt8) = UInt8.ofNat 9 from rfl, show (10 : UInt8) = UInt8.ofNat 10 from rfl, show (13 : UInt8) = UInt8.ofNat 13 from rfl, hb 32 (by omega), hb 9 (by omega), hb 10 (by omega), hb 13 (by omega)]
    rfl
  · rw [Bool.eq_false_iff]; intro hm
    have hm := List.contains_iff_mem.1 hm
    have : ∀ b ∈ signsT, b.toNat < 128 := by decide
    have := this x hm
    omega
#print axioms wide_odd
end Go.Proofs.YtccbhblklhmcpaaGreatDoor
