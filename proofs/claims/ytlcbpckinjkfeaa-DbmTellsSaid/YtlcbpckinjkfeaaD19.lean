/- Rows of fractions: what a slice of the call's own holds behind an append of a slice of fractions. No condition. -/
import Derived.Test.YtlcbpckinjkfeaaD18
import Derived.Deep.AppendSrc
namespace Go.Proofs.Ytlcbpckinjkfeaa
set_option linter.unusedSimpArgs false
set_option linter.unusedVariables false
open Go Go.RowKit Go.Shelf

/-- The cells of some fractions. -/
def cellsR (T : Nat → Int × Int) : Nat → List Value
  | 0 => []
  | M + 1 => cellsR T M ++ [.int .i64 (T M).1, .int .i64 (T M).2]
theorem cellsR_len (T : Nat → Int × Int) : ∀ M, (cellsR T M).length = M * 2
  | 0 => rfl
  | M + 1 => by simp only [cellsR, List.length_append, cellsR_len T M, List.length_cons, List.length_nil]; omega
theorem cellsR_get {T : Nat → Int × Int} : ∀ {M x : Nat}, x < M → (cellsR T M)[x * 2]? = some (.int .i64 (T x).1) ∧ (cellsR T M)[x * 2 + 1]? = some (.int .i64 (T x).2)
  | 0, x, h => by omega
  | M + 1, x, h => by
    by_cases e : x = M
    · subst e
      have hl := cellsR_len T x
      constructor
      · rw [cellsR, List.getElem?_append_right (by omega), hl, Nat.sub_self]; rfl
      · rw [cellsR, List.getElem?_append_right (by omega), hl, show x * 2 + 1 - x * 2 = 1 by omega]; rfl
    · have hl := cellsR_len T M
      obtain ⟨h1, h2⟩ := cellsR_get (T := T) (M := M) (x := x) (by omega)
      exact ⟨by rw [cellsR, List.getElem?_append_left (by omega)]; exact h1, by rw [cellsR, List.getElem?_append_left (by omega)]; exact h2⟩
theorem cellsR_get' {T : Nat → Int × Int} {M j : Nat} {u : Value} (h : (cellsR T M)[j]? = some u) : ∃ x, x < M ∧ ((j = x * 2 ∧ u = .int .i64 (T x).1) ∨ (j = x * 2 + 1 ∧ u = .int .i64 (T x).2)) := by
  have hj : j < M * 2 := by
    have := (List.getElem?_eq_some_iff.1 h).1
    rwa [cellsR_len] at this
  refine ⟨j / 2, by omega, ?_⟩
  obtain ⟨h1, h2⟩ := cellsR_get (T := T) (M := M) (x := j / 2) (by omega)
  by_cases e : j % 2 = 0
  · left
    have e2 : j / 2 * 2 = j := by omega
    rw [e2, h] at h1
    exact ⟨by omega, by cases h1; rfl⟩
  · right
    have e2 : j / 2 * 2 + 1 = j := by omega
    rw [e2, h] at h2
    exact ⟨by omega, by cases h2; rfl⟩
theorem cellsR_one {T : Nat → Int × Int} {M : Nat} : ∀ u ∈ cellsR T M, u.oneCell' = true := by
  intro u hu
  obtain ⟨j, hj⟩ := List.getElem?_of_mem hu
  obtain ⟨x, _, ⟨_, rfl⟩ | ⟨_, rfl⟩⟩ := cellsR_get' hj <;> rfl
/-- The times, that of clock 0 ahead. -/
def tm (T : Nat → Int × Int) : Nat → Int × Int
  | 0 => (0, 1)
  | x + 1 => T x
theorem cellsR_tm (T : Nat → Int × Int) : ∀ M, [Value.int .i64 0, .int .i64 1] ++ cellsR T M = cellsR (tm T) (M + 1)
  | 0 => rfl
  | M + 1 => by
    show [Value.int .i64 0, .int .i64 1] ++ (cellsR T M ++ _) = cellsR (tm T) (M + 1) ++ _
    rw [← List.append_assoc, cellsR_tm T M]; rfl
theorem infoR : (Try.prog.info? 23).map (fun i => (i.size, i.bytes)) = some (2, 16) := by kernel_rfl
theorem infoRz : (Try.prog.info? 23).map (fun i => i.zero) = some (some (.agg #[.int .i64 0, .int .i64 0])) := by kernel_rfl

/-- A block whose first cells hold fractions. -/
def HoldsR (W : World) (B M : Nat) (T : Nat → Int × Int) : Prop := ∀ x, x < M → W.cell? ⟨B, x * 2, none⟩ = some (.int .i64 (T x).1) ∧ W.cell? ⟨B, x * 2 + 1, none⟩ = some (.int .i64 (T x).2)
theorem HoldsR.below {W W' : World} {B M k : Nat} {T : Nat → Int × Int} (h : HoldsR W B M T) (hb : Below k W W') (hk : B < k) : HoldsR W' B M T := fun x hx =>
  ⟨(hb.cell (p := ⟨B, x * 2, none⟩) hk).trans (h x hx).1, (hb.cell (p := ⟨B, x * 2 + 1, none⟩) hk).trans (h x hx).2⟩
theorem holdsR_of_row {W : World} {base e N : Nat} {v : Value} {T : Nat → Int × Int} (h0 : 0 < N) (h : W.ownsRow base e 2 v N (cellsR T N)) : ∃ B cap, v = .slice (some ⟨B, 0, none⟩) N cap ∧ base ≤ B ∧ B < W.heap.size ∧ HoldsR W B N T := by
  obtain ⟨_, ⟨_, hn⟩ | ⟨g, cap, cur, rfl, hb, hg, h1, h2, h3, h4⟩⟩ := h
  · omega
  · refine ⟨g, cap, rfl, hb, (Array.getElem?_eq_some_iff.1 hg).1, fun x hx => ?_⟩
    obtain ⟨h5, h6⟩ := cellsR_get (T := T) hx
    rw [← h4, List.getElem?_take, if_pos (by omega)] at h5 h6
    constructor
    · simp [World.cell?, hg]; simpa using h5
    · simp [World.cell?, hg]; simpa using h6

/-- A row that a slice's literal has made. -/
theorem row_lit (W : World) (T : Nat → Int × Int) (base : Nat) (hb : base ≤ W.heap.size) : (W.alloc (.cells #[.int .i64 0, .int .i64 1] 23)).ownsRow base 23 2 (.slice (some ⟨W.heap.size, 0, none⟩) 1 1) 1 [.int .i64 0, .int .i64 1] :=
  ⟨rfl, .inr ⟨W.heap.size, 1, _, rfl, hb, World.alloc_heap_new W _, by omega, by simp [maxLen], rfl, rfl⟩⟩
/-- An append of nothing. -/
theorem append_nothing (W : World) (b : Nat) (p : Option Addr) (c : Nat) : (Builtin.append_ #[40, 40] 40 #[.slice (some ⟨b, 0, none⟩) 1 1, .slice p 0 c]).run Try.prog W = .ok (.slice (some ⟨b, 0, none⟩) 1 1) W := by
  have hi : ∃ i, Try.prog.info? 23 = some i := by
    have := infoR
    cases h : Try.prog.info? 23 with
    | none => rw [h] at this; cases this
    | some i => exact ⟨i, rfl⟩
  obtain ⟨i, hi⟩ := hi
  have hs : Src Try.prog i.size 40 (.slice p 0 c) 0 [] W := by
    cases p with
    | none => exact Src.ofNil W Try.underlying40 c
    | some a => exact Src.ofSlice W Try.underlying40 a 0 c [] (by simp) (fun j u h => by cases h) (fun u h => by cases h)
  have := run_append_room_src (P := Try.prog) W 40 40 40 23 i Try.underlying40 hi b 0 1 1 (.slice p 0 c) 0 [] hs (by omega) (fun j h => by cases h) (fun j h => by cases h)
  simpa [World.setCells] using this

def keptAll (n : Nat) (f : Nat → Int) (T : Nat → Int × Int) : Bool := (pairsAll n).all fun x => keptB (tm T x.1.1).1 (tm T x.1.1).2 (tm T x.1.2).1 (tm T x.1.2).2 (f (x.1.1 * n + x.1.2))
/-- Whether times keep a matrix, or the error. -/
def keepsD (n : Int) (N : Nat) (f : Nat → Int) (M : Nat) (T : Nat → Int × Int) : Bool × Int :=
  if okD n N f && allRat M T then (if (M : Int) = n - 1 then (keptAll n.toNat f T, 0) else (false, 40)) else (false, 8)
theorem keptAll_iff {n : Nat} {f : Nat → Int} {T : Nat → Int × Int} : keptAll n f T = true ↔ ∀ i j, i < n → j < n → keptB (tm T i).1 (tm T i).2 (tm T j).1 (tm T j).2 (f (i * n + j)) = true := by
  unfold keptAll
  rw [List.all_eq_true]
  constructor
  · intro h i j hi hj
    obtain ⟨x, hx, he⟩ := pairsUpto_mem (n * n) (Nat.le_refl _) i j hj (place_lt hi hj)
    have := h x hx
    rw [he] at this
    exact this
  · intro h x _
    exact h x.1.1 x.1.2 x.2.1 x.2.2
end Go.Proofs.Ytlcbpckinjkfeaa
