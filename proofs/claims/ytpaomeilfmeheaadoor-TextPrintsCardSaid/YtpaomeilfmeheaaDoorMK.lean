/- Slices of fractions; whether one of them may not be. No condition but that numbers are of their kind. Rows of fractions: what a slice of the call's own holds behind an append of a slice of fractions. No condition. Contract of dbm.Keeps. No condition but on the count of bounds and times, and that numbers are of their kind. Times keep a matrix just if they keep the closed one: plain. No condition. Opening a list of times among a law's arguments. No condition. -/
import Derived.Test.YtpaomeilfmeheaaDoorMC
import Derived.Test.YtpaomeilfmeheaaDoorMA
import Derived.Deep.AppendSrc
import Derived.Test.YtpaomeilfmeheaaDoorFrame2
import Derived.Deep.SlicePairs
namespace Go.Proofs.YtpaomeilfmeheaaDoor
set_option linter.unusedSimpArgs false
set_option linter.unusedVariables false
open Go Go.RowKit Go.Shelf
attribute [local go_sem] Nat.add_assoc Nat.add_lt_add_iff_left lit_lt_add

/-- A slice's elements: fractions. -/
def SlR (W : World) (p : Option Addr) (M : Nat) (T : Nat → Int × Int) : Prop := M = 0 ∨ ∃ B off, p = some ⟨B, off, none⟩ ∧ B < W.heap.size ∧ ∀ x, x < M → W.cell? ⟨B, off + x * 2, none⟩ = some (.int .i64 (T x).1) ∧ W.cell? ⟨B, off + (x * 2 + 1), none⟩ = some (.int .i64 (T x).2)
theorem SlR.below {W W' : World} {p : Option Addr} {N : Nat} {T : Nat → Int × Int} (h : SlR W p N T) (hb : Below W.heap.size W W') : SlR W' p N T := by
  rcases h with h | ⟨B, off, h1, h2, h3⟩
  · exact .inl h
  · exact .inr ⟨B, off, h1, Nat.lt_of_lt_of_le h2 hb.size, fun x hx => ⟨(hb.cell (p := ⟨B, off + x * 2, none⟩) h2).trans (h3 x hx).1, (hb.cell (p := ⟨B, off + (x * 2 + 1), none⟩) h2).trans (h3 x hx).2⟩⟩
def FitsR (M : Nat) (T : Nat → Int × Int) : Prop := ∀ x, x < M → fits64 (T x).1 ∧ fits64 (T x).2
def allRat (M : Nat) (T : Nat → Int × Int) : Bool := (List.range M).all fun x => okRat (T x).1 (T x).2
theorem allRat_t {M : Nat} {T : Nat → Int × Int} (h : ∀ x, x < M → okRat (T x).1 (T x).2 = true) : allRat M T = true := by
  unfold allRat; rw [List.all_eq_true]; intro x hx; exact h x (by simpa using hx)
theorem allRat_f {M t : Nat} {T : Nat → Int × Int} (ht : t < M) (h : okRat (T t).1 (T t).2 = false) : allRat M T = false := by
  unfold allRat; rw [List.all_eq_false]; exact ⟨t, by simpa using ht, by simp [h]⟩
theorem allRat_iff {M : Nat} {T : Nat → Int × Int} : allRat M T = true ↔ ∀ x, x < M → okRat (T x).1 (T x).2 = true := by
  unfold allRat; rw [List.all_eq_true]
  constructor
  · intro h x hx; exact h x (by simpa using hx)
  · intro h x hx; exact h x (by simpa using hx)

def idxRPost (w : World) (N : Nat) (T : Nat → Int × Int) (e : Ending) (w' : World) : Prop := ∃ i : Int, e = .returned (.int .i64 i) ∧ decide (0 ≤ i) = !allRat N T ∧ ∃ p, w' = Wov w p

end Go.Proofs.YtpaomeilfmeheaaDoor

namespace Go.Proofs.YtpaomeilfmeheaaDoor
set_option linter.unusedSimpArgs false
set_option linter.unusedVariables false
open Go Go.RowKit Go.Shelf

/-- The cells of some fractions. -/
def cellsR (T : Nat → Int × Int) : Nat → List Value
  | 0 => []
  | M + 1 => cellsR T M ++ [.int .i64 (T M).1, .int .i64 (T M).2]
theorem cellsR_len (T : Nat → Int × Int) : ∀ M, (cellsR T M).length = M * 2
  | 0 => rfl
  | M + 1 => by simp only [cellsR, List.length_append, cellsR_len T M, List.length_cons, List.length_nil]; omega
theorem cellsR_get {T : Nat → Int × Int} : ∀ {M x : Nat}, x < M → (cellsR T M)[x * 2]? = some (.int .i64 (T x).1) ∧ (cellsR T M)[x * 2 + 1]? = some (.int .i64 (T x).2)
  | 0, x, h => by omega
  | M + 1, x, h => by
    by_cases e : x = M
    · subst e
      have hl := cellsR_len T x
      constructor
      · rw [cellsR, List.getElem?_append_right (by omega), hl, Nat.sub_self]; rfl
      · rw [cellsR, List.getElem?_append_right (by omega), hl, show x * 2 + 1 - x * 2 = 1 by omega]; rfl
    · have hl := cellsR_len T M
      obtain ⟨h1, h2⟩ := cellsR_get (T := T) (M := M) (x := x) (by omega)
      exact ⟨by rw [cellsR, List.getElem?_append_left (by omega)]; exact h1, by rw [cellsR, List.getElem?_append_left (by omega)]; exact h2⟩
theorem cellsR_get' {T : Nat → Int × Int} {M j : Nat} {u : Value} (h : (cellsR T M)[j]? = some u) : ∃ x, x < M ∧ ((j = x * 2 ∧ u = .int .i64 (T x).1) ∨ (j = x * 2 + 1 ∧ u = .int .i64 (T x).2)) := by
  have hj : j < M * 2 := by
    have := (List.getElem?_eq_some_iff.1 h).1
    rwa [cellsR_len] at this
  refine ⟨j / 2, by omega, ?_⟩
  obtain ⟨h1, h2⟩ := cellsR_get (T := T) (M := M) (x := j / 2) (by omega)
  by_cases e : j % 2 = 0
  · left
    have e2 : j / 2 * 2 = j := by omega
    rw [e2, h] at h1
    exact ⟨by omega, by cases h1; rfl⟩
  · right
    have e2 : j / 2 * 2 + 1 = j := by omega
    rw [e2, h] at h2
    exact ⟨by omega, by cases h2; rfl⟩
theorem cellsR_one {T : Nat → Int × Int} {M : Nat} : ∀ u ∈ cellsR T M, u.oneCell' = true := by
  intro u hu
  obtain ⟨j, hj⟩ := List.getElem?_of_mem hu
  obtain ⟨x, _, ⟨_, rfl⟩ | ⟨_, rfl⟩⟩ := cellsR_get' hj <;> rfl
/-- The times, that of clock 0 ahead. -/
def tm (T : Nat → Int × Int) : Nat → Int × Int
  | 0 => (0, 1)
  | x + 1 => T x
theorem cellsR_tm (T : Nat → Int × Int) : ∀ M, [Value.int .i64 0, .int .i64 1] ++ cellsR T M = cellsR (tm T) (M + 1)
  | 0 => rfl
  | M + 1 => by
    show [Value.int .i64 0, .int .i64 1] ++ (cellsR T M ++ _) = cellsR (tm T) (M + 1) ++ _
    rw [← List.append_assoc, cellsR_tm T M]; rfl
/-- A block whose first cells hold fractions. -/
def HoldsR (W : World) (B M : Nat) (T : Nat → Int × Int) : Prop := ∀ x, x < M → W.cell? ⟨B, x * 2, none⟩ = some (.int .i64 (T x).1) ∧ W.cell? ⟨B, x * 2 + 1, none⟩ = some (.int .i64 (T x).2)
theorem HoldsR.below {W W' : World} {B M k : Nat} {T : Nat → Int × Int} (h : HoldsR W B M T) (hb : Below k W W') (hk : B < k) : HoldsR W' B M T := fun x hx =>
  ⟨(hb.cell (p := ⟨B, x * 2, none⟩) hk).trans (h x hx).1, (hb.cell (p := ⟨B, x * 2 + 1, none⟩) hk).trans (h x hx).2⟩
theorem holdsR_of_row {W : World} {base e N : Nat} {v : Value} {T : Nat → Int × Int} (h0 : 0 < N) (h : W.ownsRow base e 2 v N (cellsR T N)) : ∃ B cap, v = .slice (some ⟨B, 0, none⟩) N cap ∧ base ≤ B ∧ B < W.heap.size ∧ HoldsR W B N T := by
  obtain ⟨_, ⟨_, hn⟩ | ⟨g, cap, cur, rfl, hb, hg, h1, h2, h3, h4⟩⟩ := h
  · omega
  · refine ⟨g, cap, rfl, hb, (Array.getElem?_eq_some_iff.1 hg).1, fun x hx => ?_⟩
    obtain ⟨h5, h6⟩ := cellsR_get (T := T) hx
    rw [← h4, List.getElem?_take, if_pos (by omega)] at h5 h6
    constructor
    · simp [World.cell?, hg]; simpa using h5
    · simp [World.cell?, hg]; simpa using h6

def keptAll (n : Nat) (f : Nat → Int) (T : Nat → Int × Int) : Bool := (pairsAll n).all fun x => keptB (tm T x.1.1).1 (tm T x.1.1).2 (tm T x.1.2).1 (tm T x.1.2).2 (f (x.1.1 * n + x.1.2))
/-- Whether times keep a matrix, or the error. -/
def keepsD (n : Int) (N : Nat) (f : Nat → Int) (M : Nat) (T : Nat → Int × Int) : Bool × Int :=
  if okD n N f && allRat M T then (if (M : Int) = n - 1 then (keptAll n.toNat f T, 0) else (false, 40)) else (false, 8)
theorem keptAll_iff {n : Nat} {f : Nat → Int} {T : Nat → Int × Int} : keptAll n f T = true ↔ ∀ i j, i < n → j < n → keptB (tm T i).1 (tm T i).2 (tm T j).1 (tm T j).2 (f (i * n + j)) = true := by
  unfold keptAll
  rw [List.all_eq_true]
  constructor
  · intro h i j hi hj
    obtain ⟨x, hx, he⟩ := pairsUpto_mem (n * n) (Nat.le_refl _) i j hj (place_lt hi hj)
    have := h x hx
    rw [he] at this
    exact this
  · intro h x _
    exact h x.1.1 x.1.2 x.2.1 x.2.2
end Go.Proofs.YtpaomeilfmeheaaDoor

namespace Go.Proofs.YtpaomeilfmeheaaDoor
set_option linter.unusedSimpArgs false
set_option linter.unusedVariables false
open Go Go.RowKit Go.Shelf
attribute [local go_sem] Oper.semAt_some Nat.add_assoc Nat.add_lt_add_iff_left lit_lt_add

theorem at_wovo {M B off n N cap : Nat} {W : World} (hn : n ≤ 4) (hN2 : N ≤ 9223372036854775807) (hM : M < W.heap.size)
    (c0 : W.cell? ⟨M, 0, none⟩ = some (.int .i64 n)) (c1 : W.cell? ⟨M, 1, none⟩ = some (.slice (some ⟨B, off, none⟩) N cap)) (i j : Nat) (hi : i ≤ 4) (hj : j ≤ 4) (hN : i * n + j < N) (p : Gr) :
    Calls Tryd.prog 53 #[.pointer (some ⟨M, 0, none⟩), .int .i64 i, .int .i64 j] (Wov W p) fun e w' => e = .returned (.pointer (some ⟨B, off + (i * n + j), none⟩)) ∧ ∃ q, w' = Wov W q :=
  (at_off M B off n i j N cap (Wov W p) hn hi hj hN hN2 (by rw [Wov_cell_past _ _ _ _ hM]; exact c0) (by rw [Wov_cell_past _ _ _ _ hM]; exact c1)).mono fun e w' ⟨he, m, hm⟩ => ⟨he, _, hm.trans (Wov_drewN _ _ _)⟩

def keptP {n : Nat} (f : Nat → Int) (T : Nat → Int × Int) (x : PairC n) : Bool := keptB (tm T x.1.1).1 (tm T x.1.1).2 (tm T x.1.2).1 (tm T x.1.2).2 (f (x.1.1 * n + x.1.2))

end Go.Proofs.YtpaomeilfmeheaaDoor

namespace Go.Proofs.YtpaomeilfmeheaaDoor
set_option linter.unusedSimpArgs false
set_option linter.unusedVariables false

/-- The least bound that a difference A / E keeps. -/
def leastB (A E : Int) : Int := 2 * (A / E) + (if A % E = 0 then 1 else 2)
theorem kept_core {A E x : Int} (hE : 0 < E) : (A < x / 2 * E ∨ (A = x / 2 * E ∧ ¬ x % 2 = 0)) ↔ leastB A E ≤ x := by
  have h1 := Int.emod_nonneg A (show E ≠ 0 by omega)
  have h2 := Int.emod_lt_of_pos A hE
  have h3 := Int.mul_ediv_add_emod A E
  obtain ⟨f, hf⟩ : ∃ f, f = A / E := ⟨_, rfl⟩
  obtain ⟨r, hr⟩ : ∃ r, r = A % E := ⟨_, rfl⟩
  obtain ⟨c, hc⟩ : ∃ c, c = x / 2 := ⟨_, rfl⟩
  unfold leastB
  rw [← hf, ← hr] at h3
  rw [← hr] at h1 h2
  rw [← hf, ← hr]
  clear hf hr
  rw [← hc]
  rcases Int.lt_trichotomy f c with h | h | h
  · have : E * f + E ≤ c * E := by
      have := Int.mul_le_mul_of_nonneg_right (show f + 1 ≤ c by omega) (show (0 : Int) ≤ E by omega)
      rw [Int.add_mul, Int.one_mul, Int.mul_comm f E] at this; exact this
    constructor
    · intro _; split <;> omega
    · intro _; exact .inl (by omega)
  · subst h
    have e : f * E = E * f := Int.mul_comm _ _
    rw [e]
    constructor
    · rintro (h | ⟨h, g⟩)
      · omega
      · rw [if_pos (by omega)]; omega
    · intro h
      right
      split at h <;> omega
  · have : c * E + E ≤ E * f := by
      have := Int.mul_le_mul_of_nonneg_right (show c + 1 ≤ f by omega) (show (0 : Int) ≤ E by omega)
      rw [Int.add_mul, Int.one_mul, Int.mul_comm f E] at this; exact this
    constructor
    · rintro (h | ⟨h, _⟩) <;> omega
    · intro h; exfalso; split at h <;> omega

theorem keptB_iff {n1 d1 n2 d2 x : Int} (h1 : 0 < d1) (h2 : 0 < d2) : keptB n1 d1 n2 d2 x = true ↔ ele (some (leastB (n1 * d2 - n2 * d1) (d1 * d2))) (eb x) := by
  unfold keptB eb
  by_cases hx : x = noneB
  · rw [if_pos hx]; simp [hx, ele]
  · rw [if_neg hx, decide_eq_false hx, Bool.false_or, ele_some, ← kept_core (Int.mul_pos h1 h2)]
    simp only [bstr, Bool.or_eq_true, Bool.and_eq_true, decide_eq_true_eq, Bool.not_eq_true', decide_eq_false_iff_not]
    exact Iff.rfl

/-- Sums of kept bounds are kept. -/
theorem least_add {a p b q c r : Int} (hp : 0 < p) (hq : 0 < q) (hr : 0 < r) :
    ele (some (leastB (a * r - c * p) (p * r))) (eadd (some (leastB (a * q - b * p) (p * q))) (some (leastB (b * r - c * q) (q * r)))) := by
  obtain ⟨x, hx⟩ : ∃ x, x = leastB (a * q - b * p) (p * q) := ⟨_, rfl⟩
  obtain ⟨y, hy⟩ : ∃ y, y = leastB (b * r - c * q) (q * r) := ⟨_, rfl⟩
  rw [← hx, ← hy]
  have kx := (kept_core (x := x) (A := a * q - b * p) (Int.mul_pos hp hq)).2 (by omega)
  have ky := (kept_core (x := y) (A := b * r - c * q) (Int.mul_pos hq hr)).2 (by omega)
  show leastB _ _ ≤ _
  rw [← kept_core (Int.mul_pos hp hr)]
  obtain ⟨u, hu⟩ : ∃ u, u = x / 2 := ⟨_, rfl⟩
  obtain ⟨v, hv⟩ : ∃ v, v = y / 2 := ⟨_, rfl⟩
  have hs : (2 * (x / 2 + y / 2) + (if x % 2 = 0 ∨ y % 2 = 0 then 0 else 1)) / 2 = u + v := by rw [← hu, ← hv]; split <;> omega
  rw [hs]
  rw [← hu] at kx
  rw [← hv] at ky
  have ex : (a * q - b * p < u * (p * q) ↔ (a * q - b * p) * r < u * (p * q) * r) := ⟨fun h => Int.mul_lt_mul_of_pos_right h hr, fun h => Int.lt_of_mul_lt_mul_right h (by omega)⟩
  have ey : (b * r - c * q < v * (q * r) ↔ (b * r - c * q) * p < v * (q * r) * p) := ⟨fun h => Int.mul_lt_mul_of_pos_right h hp, fun h => Int.lt_of_mul_lt_mul_right h (by omega)⟩
  have ez : (a * r - c * p < (u + v) * (p * r) ↔ (a * r - c * p) * q < (u + v) * (p * r) * q) := ⟨fun h => Int.mul_lt_mul_of_pos_right h hq, fun h => Int.lt_of_mul_lt_mul_right h (by omega)⟩
  have fx : (a * q - b * p = u * (p * q) → (a * q - b * p) * r = u * (p * q) * r) := fun h => by rw [h]
  have fy : (b * r - c * q = v * (q * r) → (b * r - c * q) * p = v * (q * r) * p) := fun h => by rw [h]
  have fz : ((a * r - c * p) * q = (u + v) * (p * r) * q → a * r - c * p = (u + v) * (p * r)) := fun h => Int.eq_of_mul_eq_mul_right (by omega) h
  have g1 : (a * q - b * p) * r = a * q * r - b * p * r := Int.sub_mul _ _ _
  have g2 : (b * r - c * q) * p = b * p * r - c * p * q := by rw [Int.sub_mul, Int.mul_right_comm b r p, Int.mul_right_comm c q p]
  have g3 : (a * r - c * p) * q = a * q * r - c * p * q := by rw [Int.sub_mul, Int.mul_right_comm a r q]
  have g4 : u * (p * q) * r = u * (p * q * r) := Int.mul_assoc _ _ _
  have g5 : v * (q * r) * p = v * (p * q * r) := by rw [Int.mul_assoc, Int.mul_comm (q * r) p, ← Int.mul_assoc p q r]
  have g6 : (u + v) * (p * r) * q = u * (p * q * r) + v * (p * q * r) := by rw [Int.mul_assoc, Int.mul_right_comm p r q, Int.add_mul]
  rw [g1, g4] at ex fx
  rw [g2, g5] at ey fy
  rw [g3, g6] at ez fz
  obtain ⟨X, hX⟩ : ∃ X, X = a * q * r := ⟨_, rfl⟩
  obtain ⟨Y, hY⟩ : ∃ Y, Y = b * p * r := ⟨_, rfl⟩
  obtain ⟨Z, hZ⟩ : ∃ Z, Z = c * p * q := ⟨_, rfl⟩
  obtain ⟨U, hU⟩ : ∃ U, U = u * (p * q * r) := ⟨_, rfl⟩
  obtain ⟨V, hV⟩ : ∃ V, V = v * (p * q * r) := ⟨_, rfl⟩
  rw [← hX, ← hY, ← hU] at ex fx
  rw [← hY, ← hZ, ← hV] at ey fy
  rw [← hX, ← hZ, ← hU, ← hV] at ez fz
  rcases kx with kx | ⟨kx, ox⟩
  · have := ex.1 kx
    rcases ky with ky | ⟨ky, oy⟩
    · have := ey.1 ky
      exact .inl (ez.2 (by omega))
    · have := fy ky
      exact .inl (ez.2 (by omega))
  · have := fx kx
    rcases ky with ky | ⟨ky, oy⟩
    · have := ey.1 ky
      exact .inl (ez.2 (by omega))
    · have := fy ky
      refine .inr ⟨fz (by omega), ?_⟩
      rw [if_neg (by omega)]; omega

/-- The matrix of the least bounds that times keep. -/
def tmE (T : Nat → Int × Int) : Nat → Nat → EB := fun i j => some (leastB ((tm T i).1 * (tm T j).2 - (tm T j).1 * (tm T i).2) ((tm T i).2 * (tm T j).2))
theorem tmE_closed {n : Nat} {T : Nat → Int × Int} (h : ∀ i, i < n → 0 < (tm T i).2) : Closed n (tmE T) := by
  refine ⟨fun i hi => ?_, fun i j k hi hj hk => least_add (h i hi) (h k hk) (h j hj)⟩
  unfold tmE leastB
  rw [Int.sub_self]; simp
theorem tm_pos {M : Nat} {T : Nat → Int × Int} (h : allRat M T = true) : ∀ i, i < M + 1 → 0 < (tm T i).2 := by
  intro i hi
  cases i with
  | zero => exact (by decide : (0 : Int) < 1)
  | succ i =>
    have := allRat_iff.1 h i (by omega)
    unfold okRat at this
    simp only [Bool.and_eq_true, decide_eq_true_eq] at this
    show 0 < (T i).2
    omega
theorem kept_under {n : Nat} {f : Nat → Int} {T : Nat → Int × Int} (h : ∀ i, i < n → 0 < (tm T i).2) : keptAll n f T = true ↔ Under n (tmE T) (mE n f) := by
  rw [keptAll_iff]
  exact ⟨fun g i j hi hj => (keptB_iff (h i hi) (h j hj)).1 (g i j hi hj), fun g i j hi hj => (keptB_iff (h i hi) (h j hj)).2 (g i j hi hj)⟩

theorem kept_none {n : Nat} {f : Nat → Int} {T : Nat → Int × Int} (h : ∀ i, i < n → 0 < (tm T i).2) (hn : n ≤ 4) (hb : ∀ i j, i < n → j < n → bd 288230376151711744 (f (i * n + j))) (hc : closeI n f = none) : keptAll n f T = false := by
  cases hk : keptAll n f T
  · rfl
  · obtain ⟨c, h1, _⟩ := closeE_greatest (tmE_closed h) ((kept_under h).1 hk)
    rw [close_none hn hb hc] at h1; cases h1
theorem kept_same {n : Nat} {f c : Nat → Int} {T : Nat → Int × Int} (h : ∀ i, i < n → 0 < (tm T i).2) (K : ClosedI n f c) : keptAll n f T = keptAll n c T := by
  rw [Bool.eq_iff_iff, kept_under h, kept_under h]
  constructor
  · intro hu
    obtain ⟨e, he, hce⟩ := K.ex
    obtain ⟨c', h1, h2⟩ := closeE_greatest (tmE_closed h) hu
    rw [he] at h1; cases h1
    intro i j hi hj
    show ele _ (eb (c (i * n + j)))
    rw [hce i j hi hj]; exact h2 i j hi hj
  · exact fun hu => under_trans hu K.closed.2
#print axioms kept_none
#print axioms kept_same
end Go.Proofs.YtpaomeilfmeheaaDoor

namespace Go.Proofs.YtpaomeilfmeheaaDoor
open Go.ChangeShapes Go.WideShapes Go.ChangeAt Go.RowKit Go.Joins Go.Deep
set_option linter.unusedVariables false
set_option linter.unusedSimpArgs false
set_option maxRecDepth 10000

end Go.Proofs.YtpaomeilfmeheaaDoor
