/- Signals as texts: plain words for how they are read and written. -/
import Derived.Test.YtccbhblklhmcpaaGreatDoorQ1
namespace Go.Proofs.YtccbhblklhmcpaaGreatDoor
set_option linter.unusedSimpArgs false
set_option linter.unusedVariables false
open Go

def isL (c : UInt8) : Bool := decide (97 ≤ c.toNat ∧ c.toNat ≤ 122)
def isW (c : UInt8) : Bool := isL c || isD c
/-- May a text be a proposition's name? -/
def mayName (s : List UInt8) : Bool := decide (s.length ≤ 8) && (match s with | [] => false | c :: r => isL c && r.all isW) && decide (s ≠ [116, 114, 117, 101]) && decide (s ≠ [102, 97, 108, 115, 101]) && decide (s ≠ [111, 111])
/-- May names be declared? -/
def mayNames (N : List (List UInt8)) : Bool := decide (N.length ≤ 8) && N.all mayName && decide N.Nodup
/-- The place of a name; below 0: there is none. -/
def idxI (N : List (List UInt8)) (x : List UInt8) : Int := if x ∈ N then (N.idxOf x : Int) else -1
/-- A segment: how long it is, and what is on. -/
abbrev Sg := Int × Nat
/-- What reading names gives: what is on, what is left, where that begins, and an error's number. -/
def onL (N : List (List UInt8)) : Nat → List UInt8 → Nat → Int → Nat → Nat × List UInt8 × Nat × Nat
  | 0, r, p, _, _ => (0, r, p, 170)
  | f + 1, r, p, last, on =>
    if r.takeWhile isL = [] then (0, r, p, 170)
    else if idxI N (r.takeWhile isW) < 0 then (0, r, p, 161)
    else if idxI N (r.takeWhile isW) ≤ last then (0, r, p, 170)
    else if (r.dropWhile isW).head? = some 44 then onL N f (r.dropWhile isW).tail (p + (r.takeWhile isW).length + 1) (idxI N (r.takeWhile isW)) (on + 2 ^ (idxI N (r.takeWhile isW)).toNat)
    else (on + 2 ^ (idxI N (r.takeWhile isW)).toNat, r.dropWhile isW, p + (r.takeWhile isW).length, 0)
/-- A segment's. -/
def segL (N : List (List UInt8)) (r : List UInt8) (p : Nat) : Sg × List UInt8 × Nat × Nat :=
  if r.takeWhile isD = [] ∨ (r.takeWhile isD).head? = some 48 ∨ 288230376151711744 ≤ valD 0 (r.takeWhile isD) then ((0, 0), r, p, 170)
  else if (r.dropWhile isD).head? ≠ some 58 then ((0, 0), r.dropWhile isD, p + (r.takeWhile isD).length, 170)
  else if (r.dropWhile isD).tail.head? = some 45 then ((valD 0 (r.takeWhile isD), 0), (r.dropWhile isD).tail.tail, p + (r.takeWhile isD).length + 2, 0)
  else let o := onL N (r.length + 1) (r.dropWhile isD).tail (p + (r.takeWhile isD).length + 1) (-1) 0
    ((valD 0 (r.takeWhile isD), o.1), o.2.1, o.2.2.1, o.2.2.2)
/-- All segments. -/
def allL (N : List (List UInt8)) : Nat → List UInt8 → Nat → List Sg → List Sg × Nat × Nat
  | 0, _, p, _ => ([], p, 170)
  | f + 1, r, p, acc =>
    if (segL N r p).2.2.2 ≠ 0 then ([], (segL N r p).2.2.1, (segL N r p).2.2.2)
    else if (segL N r p).2.1 = [] then (acc ++ [(segL N r p).1], 0, 0)
    else if (segL N r p).2.1.head? = some 59 then allL N f (segL N r p).2.1.tail ((segL N r p).2.2.1 + 1) (acc ++ [(segL N r p).1])
    else ([], (segL N r p).2.2.1, 170)
/-- Is a signal too long, where so much is left? -/
def farL : Int → List Sg → Bool
  | _, [] => false
  | left, s :: l => decide (left ≤ s.1) || farL (left - s.1) l
def oddS (n : Nat) (s : Sg) : Bool := decide (s.1 < 1) || decide (2 ^ n ≤ s.2)
/-- The error of a signal of so many names. -/
def checkS (n : Nat) (l : List Sg) : Nat := if 1024 < l.length then 4 else if l.any (oddS n) then 8 else if farL 288230376151711744 l then 220 else 0
def parseS (N : List (List UInt8)) (S : List UInt8) : List Sg × Nat × Nat :=
  if mayNames N = false then ([], 0, 2)
  else if 4096 < S.length then ([], 0, 3)
  else if S = [] then ([], 0, 0)
  else if (allL N (S.length + 1) S 0 []).2.2 ≠ 0 then ([], (allL N (S.length + 1) S 0 []).2.1, (allL N (S.length + 1) S 0 []).2.2)
  else if checkS N.length (allL N (S.length + 1) S 0 []).1 ≠ 0 then ([], 0, checkS N.length (allL N (S.length + 1) S 0 []).1)
  else ((allL N (S.length + 1) S 0 []).1, 0, 0)
/-- The places of what is on. -/
def bitsF (n m : Nat) : List Nat := (List.range n).filter fun k => m.testBit k
/-- The names of what is on. -/
def onNames (N : List (List UInt8)) (m : Nat) : List (List UInt8) := (bitsF N.length m).map fun k => N.getD k []
def segT (N : List (List UInt8)) (s : Sg) : List UInt8 := Lib.itoa s.1 ++ 58 :: (if onNames N s.2 = [] then [45] else Lib.join (onNames N s.2) [44])
def printS (N : List (List UInt8)) (l : List Sg) : List UInt8 × Nat :=
  if mayNames N = false then ([], 2)
  else if checkS N.length l ≠ 0 then ([], checkS N.length l)
  else (Lib.join (l.map (segT N)) [59], 0)

theorem drop_len {p : UInt8 → Bool} : ∀ (r : List UInt8), r.drop (r.takeWhile p).length = r.dropWhile p
  | [] => rfl
  | c :: r => by
    by_cases h : p c = true
    · rw [List.takeWhile_cons_of_pos h, List.dropWhile_cons_of_pos h, List.length_cons, List.drop_succ_cons, drop_len r]
    · rw [List.takeWhile_cons_of_neg h, List.dropWhile_cons_of_neg h]; rfl
theorem len_split {p : UInt8 → Bool} (r : List UInt8) : (r.takeWhile p).length + (r.dropWhile p).length = r.length := by
  have := congrArg List.length (List.takeWhile_append_dropWhile (p := p) (l := r))
  rwa [List.length_append] at this
theorem take_app {p : UInt8 → Bool} : ∀ {a b : List UInt8}, a.all p = true → (∀ c, b.head? = some c → p c = false) → (a ++ b).takeWhile p = a ∧ (a ++ b).dropWhile p = b
  | [], b, _, h => by
    cases b with
    | nil => exact ⟨rfl, rfl⟩
    | cons c r =>
      have := h c rfl
      rw [List.nil_append, List.takeWhile_cons_of_neg (by simp [this]), List.dropWhile_cons_of_neg (by simp [this])]
      exact ⟨rfl, rfl⟩
  | x :: a, b, ha, h => by
    simp only [List.all_cons, Bool.and_eq_true] at ha
    obtain ⟨i1, i2⟩ := take_app ha.2 h
    rw [List.cons_append, List.takeWhile_cons_of_pos ha.1, List.dropWhile_cons_of_pos ha.1, i1, i2]
    exact ⟨rfl, rfl⟩
theorem head_drop {p : UInt8 → Bool} : ∀ {r : List UInt8} {c : UInt8}, (r.dropWhile p).head? = some c → p c = false
  | [], c, h => by cases h
  | x :: r, c, h => by
    by_cases hx : p x = true
    · rw [List.dropWhile_cons_of_pos hx] at h; exact head_drop h
    · rw [List.dropWhile_cons_of_neg hx] at h
      simp only [List.head?_cons, Option.some.injEq] at h
      subst h; simpa using hx
theorem all_take {p : UInt8 → Bool} : ∀ {r : List UInt8}, (r.takeWhile p).all p = true
  | [] => rfl
  | x :: r => by
    by_cases hx : p x = true
    · rw [List.takeWhile_cons_of_pos hx]; simp [hx, all_take]
    · rw [List.takeWhile_cons_of_neg hx]; rfl
theorem takeL_nil {r : List UInt8} : r.takeWhile isL = [] ↔ ∀ c, r.head? = some c → isL c = false := by
  cases r with
  | nil => simp
  | cons c r =>
    by_cases h : isL c = true
    · rw [List.takeWhile_cons_of_pos h]; simp [h]
    · rw [List.takeWhile_cons_of_neg h]; simpa using h
theorem idxI_lt {N : List (List UInt8)} {x : List UInt8} (h : 0 ≤ idxI N x) : x ∈ N ∧ (idxI N x).toNat = N.idxOf x ∧ idxI N x = (N.idxOf x : Int) ∧ N.idxOf x < N.length ∧ N.getD (N.idxOf x) [] = x := by
  unfold idxI at h ⊢
  split at h
  · rename_i hm
    rw [if_pos hm]
    have hl := List.idxOf_lt_length_of_mem hm
    exact ⟨hm, by simp, rfl, hl, by rw [List.getD_eq_getElem?_getD, List.getElem?_eq_getElem hl, Option.getD_some, List.getElem_idxOf]⟩
  · omega
theorem idxI_at {N : List (List UInt8)} (hN : N.Nodup) {k : Nat} (hk : k < N.length) : idxI N (N.getD k []) = k := by
  have e : N.getD k [] = N[k] := by rw [List.getD_eq_getElem?_getD, List.getElem?_eq_getElem hk]; rfl
  rw [e]
  unfold idxI
  rw [if_pos (List.getElem_mem hk), hN.idxOf_getElem]
#print axioms idxI_at
end Go.Proofs.YtccbhblklhmcpaaGreatDoor
