/- Lists of zones: plain laws of the parts; zones in memory. No condition. -/
import Derived.Test.YtbgbhfcnadjhdaaJ4
namespace Go.Proofs.Ytbgbhfcnadjhdaa
set_option linter.unusedSimpArgs false
set_option linter.unusedVariables false
open Go Go.RowKit Go.Shelf

theorem parts_all {b : Nat → Int} (hb : okZ b = true) : ∀ (k t : Nat) (a : Nat → Int) (acc : List (Nat → Int)), t + k = 6 → okZ a = true → (∀ x, x ∈ partsZ k t a b → x.2 = 0) → lessZ k t a b acc = (acc ++ (partsZ k t a b).map Prod.fst, 0)
  | 0, _, _, acc, _, _, _ => by simp [lessZ, partsZ]
  | k + 1, t, a, acc, e, ha, h => by
    have ht : t < 6 := by omega
    have hm := okZ_may hb ht
    by_cases hn : b t = noneB
    · rw [partsZ_none hn] at h ⊢
      unfold lessZ
      rw [if_pos hn]
      exact parts_all hb k (t + 1) a acc (by omega) ha h
    · rw [partsZ_some hn] at h ⊢
      unfold lessZ
      rw [if_neg hn]
      have ho := other_may hm hn
      have hE : (withZ a (othZ t) (otherB (b t))).2 = 6 ∨ (withZ a (othZ t) (otherB (b t))).2 = 0 := by
        rcases withZ_cases ha (othZ_lt t) ho with ⟨r, hr, _⟩ | ⟨hr, _⟩ | ⟨hr, _⟩
        · rw [hr]; exact .inr rfl
        · rw [hr]; exact .inl rfl
        · have := h (withZ a (othZ t) (otherB (b t))) (by rw [hr]; simp)
          exact .inr this
      obtain ⟨P0, hP0⟩ : ∃ P : List PartX, (if (withZ a (othZ t) (otherB (b t))).2 = 6 then [] else [withZ a (othZ t) (otherB (b t))]) = P := ⟨_, rfl⟩
      have hA : (if (withZ a (othZ t) (otherB (b t))).2 = 0 then acc ++ [(withZ a (othZ t) (otherB (b t))).1] else acc) = acc ++ P0.map Prod.fst := by
        rw [← hP0]
        rcases hE with h6 | h0
        · rw [h6]; simp
        · rw [h0]; simp
      rw [if_neg (by omega), hA]
      rw [hP0] at h ⊢
      rcases withZ_cases ha ht hm with ⟨l, hl, kl, _⟩ | ⟨hl, _⟩ | ⟨hl, _⟩
      · rw [hl] at h ⊢
        have h' : ∀ x, x ∈ partsZ k (t + 1) l b → x.2 = 0 := fun x hx => h x (by simp [hx])
        have := parts_all hb k (t + 1) l (acc ++ P0.map Prod.fst) (by omega) kl h'
        simp only [show ¬ ((0 : Int) = 6) by decide, if_false, ne_eq, not_true_eq_false, if_true, List.nil_append, List.map_append]
        rw [this, List.append_assoc]
      · rw [hl]; simp
      · have := h (withZ a t (b t)) (by rw [hl]; simp)
        rw [hl] at this
        simp at this
theorem parts_err {b : Nat → Int} (hb : okZ b = true) : ∀ (k t : Nat) (a : Nat → Int) (acc : List (Nat → Int)) (pre : List PartX) (x : PartX) (rest : List PartX), t + k = 6 → okZ a = true → partsZ k t a b = pre ++ x :: rest → (∀ y, y ∈ pre → y.2 = 0) → x.2 ≠ 0 → lessZ k t a b acc = ([], x.2)
  | 0, _, _, _, pre, x, rest, _, _, h, _, _ => by simp [partsZ] at h
  | k + 1, t, a, acc, pre, x, rest, e, ha, h, hp, hx => by
    have ht : t < 6 := by omega
    have hm := okZ_may hb ht
    by_cases hn : b t = noneB
    · rw [partsZ_none hn] at h
      unfold lessZ
      rw [if_pos hn]
      exact parts_err hb k (t + 1) a acc pre x rest (by omega) ha h hp hx
    · rw [partsZ_some hn] at h
      unfold lessZ
      rw [if_neg hn]
      have ho := other_may hm hn
      have tail : ∀ (acc' : List (Nat → Int)) (p' : List PartX), (∀ y, y ∈ p' → y.2 = 0) → (if (withZ a t (b t)).2 = 6 then [] else (if (withZ a t (b t)).2 = 0 then [] else [withZ a t (b t)]) ++ partsZ k (t + 1) (withZ a t (b t)).1 b) = p' ++ x :: rest →
          (if (withZ a t (b t)).2 = 6 then (acc', (0 : Int)) else if (withZ a t (b t)).2 ≠ 0 then ([], (withZ a t (b t)).2) else lessZ k (t + 1) (withZ a t (b t)).1 b acc') = ([], x.2) := by
        intro acc' p' hp' hR
        rcases withZ_cases ha ht hm with ⟨l, hl, kl, _⟩ | ⟨hl, _⟩ | ⟨hl, _⟩
        · rw [hl] at hR ⊢
          simp only [show ¬ ((0 : Int) = 6) by decide, if_false, ne_eq, not_true_eq_false, if_true, List.nil_append] at hR ⊢
          exact parts_err hb k (t + 1) l acc' p' x rest (by omega) kl hR hp' hx
        · rw [hl] at hR
          simp at hR
        · rw [hl] at hR ⊢
          simp only [show ¬ ((8 : Int) = 6) by decide, show ¬ ((8 : Int) = 0) by decide, if_false, ne_eq, not_false_eq_true, if_true] at hR ⊢
          cases p' with
          | nil =>
            simp only [List.nil_append, List.singleton_append, List.cons.injEq] at hR
            rw [← hR.1]
          | cons y p' =>
            simp only [List.singleton_append, List.cons_append, List.cons.injEq] at hR
            have := hp' y (by simp)
            rw [← hR.1] at this
            simp at this
      rcases withZ_cases ha (othZ_lt t) ho with ⟨r, hr, _⟩ | ⟨hr, _⟩ | ⟨hr, _⟩
      · rw [hr] at h ⊢
        rw [if_neg (by simp)]
        simp only [show ¬ ((0 : Int) = 6) by decide, if_false, List.singleton_append] at h
        cases pre with
        | nil =>
          simp only [List.nil_append, List.cons.injEq] at h
          rw [← h.1] at hx
          simp at hx
        | cons y p' =>
          simp only [List.cons_append, List.cons.injEq] at h
          exact tail _ p' (fun z hz => hp z (by simp [hz])) h.2
      · rw [hr] at h ⊢
        rw [if_neg (by simp)]
        simp only [if_true, List.nil_append] at h
        exact tail _ pre hp h
      · rw [hr] at h ⊢
        rw [if_pos (by simp)]
        simp only [show ¬ ((8 : Int) = 6) by decide, if_false, List.singleton_append] at h
        cases pre with
        | nil =>
          simp only [List.nil_append, List.cons.injEq] at h
          rw [← h.1]
        | cons y p' =>
          simp only [List.cons_append, List.cons.injEq] at h
          have := hp y (by simp)
          rw [← h.1] at this
          simp at this

/-- The cells of zones, one behind the other. -/
def cellsZ : List (Nat → Int) → List Value
  | [] => []
  | z :: l => [.int .i64 (z 0), .int .i64 (z 1), .int .i64 (z 2), .int .i64 (z 3), .int .i64 (z 4), .int .i64 (z 5)] ++ cellsZ l
theorem cellsZ_len : ∀ l, (cellsZ l).length = l.length * 6
  | [] => rfl
  | z :: l => by rw [cellsZ, List.length_append, cellsZ_len l]; simp only [List.length_cons, List.length_nil]; omega
theorem cellsZ_app : ∀ a b, cellsZ (a ++ b) = cellsZ a ++ cellsZ b
  | [], b => rfl
  | z :: a, b => by rw [List.cons_append, cellsZ, cellsZ_app a b, cellsZ, List.append_assoc]
theorem cellsZ_one : ∀ l, ∀ u ∈ cellsZ l, u.oneCell' = true
  | [], u, hu => by cases hu
  | z :: l, u, hu => by
    rcases List.mem_append.1 hu with h | h
    · simp only [List.mem_cons, List.not_mem_nil, or_false] at h
      rcases h with rfl | rfl | rfl | rfl | rfl | rfl <;> rfl
    · exact cellsZ_one l u h
theorem cellsZ_get : ∀ (l : List (Nat → Int)) (i j : Nat), i < l.length → j < 6 → (cellsZ l)[i * 6 + j]? = some (.int .i64 (nthZ l i j))
  | [], i, j, hi, _ => by simp at hi
  | z :: l, 0, j, _, hj => by
    rw [cellsZ, List.getElem?_append_left (by simp; omega)]
    rcases six hj with rfl | rfl | rfl | rfl | rfl | rfl <;> rfl
  | z :: l, i + 1, j, hi, hj => by
    rw [cellsZ, List.getElem?_append_right (by simp; omega)]
    have := cellsZ_get l i j (by simp at hi; omega) hj
    simp only [List.length_cons, List.length_nil]
    rw [show (i + 1) * 6 + j - (0 + 1 + 1 + 1 + 1 + 1 + 1) = i * 6 + j by omega, this]
    rfl
/-- Zones in memory. -/
def SlZ (W : World) (p : Option Addr) (l : List (Nat → Int)) : Prop := l = [] ∨ ∃ A o, p = some ⟨A, o, none⟩ ∧ A < W.heap.size ∧ ∀ i j, i < l.length → j < 6 → W.cell? ⟨A, o + (i * 6 + j), none⟩ = some (.int .i64 (nthZ l i j))
theorem SlZ.below {W V : World} {p : Option Addr} {l : List (Nat → Int)} (h : SlZ W p l) (hb : Below W.heap.size W V) : SlZ V p l := by
  rcases h with h | ⟨A, o, rfl, h1, h2⟩
  · exact .inl h
  · exact .inr ⟨A, o, rfl, Nat.lt_of_lt_of_le h1 hb.size, fun i j hi hj => (hb.cell (p := ⟨A, o + (i * 6 + j), none⟩) h1).trans (h2 i j hi hj)⟩
/-- Zones of the call's own. -/
def OwnZ (w W : World) (p : Option Addr) (l : List (Nat → Int)) : Prop := l = [] ∨ ∃ B, p = some ⟨B, 0, none⟩ ∧ w.heap.size ≤ B ∧ B < W.heap.size ∧ ∀ i j, i < l.length → j < 6 → W.cell? ⟨B, i * 6 + j, none⟩ = some (.int .i64 (nthZ l i j)) ∧ W.frozen? ⟨B, i * 6 + j, none⟩ = false
theorem OwnZ.slz {w W : World} {p : Option Addr} {l : List (Nat → Int)} (h : OwnZ w W p l) : SlZ W p l := by
  rcases h with h | ⟨B, rfl, _, h1, h2⟩
  · exact .inl h
  · exact .inr ⟨B, 0, rfl, h1, fun i j hi hj => by rw [Nat.zero_add]; exact (h2 i j hi hj).1⟩
/-- What a row holds, the zones hold. -/
theorem ownZ_of_row {w W : World} {base : Nat} {e : TypeId} {v : Value} {l : List (Nat → Int)} (h : W.ownsRow base e 6 v l.length (cellsZ l)) (hb : w.heap.size ≤ base) : ∃ p c, v = .slice p l.length c ∧ (p = none → c = 0) ∧ OwnZ w W p l := by
  rcases h.2 with ⟨rfl, h0⟩ | ⟨g, cap, cur, rfl, hg, hgb, _, _, hc, ht⟩
  · rw [h0]; exact ⟨none, 0, rfl, fun _ => rfl, .inl (List.length_eq_zero_iff.1 h0)⟩
  · refine ⟨_, cap, rfl, (fun h => by cases h), .inr ⟨g, rfl, by omega, (Array.getElem?_eq_some_iff.1 hgb).1, fun i j hi hj => ?_⟩⟩
    have hx : i * 6 + j < l.length * 6 := by omega
    have h1 := cellsZ_get l i j hi hj
    rw [← ht, List.getElem?_take_of_lt hx] at h1
    rw [Array.getElem?_toList] at h1
    refine ⟨?_, ?_⟩
    · simp only [World.cell?, hgb]; simpa using h1
    · simp only [World.frozen?, hgb]; simp
/-- Zones as a result, with an error's number. -/
def zlC (w : World) (r : List (Nat → Int) × Int) (e : Ending) (W : World) : Prop := (∃ p c, e = .returned (.tuple #[.slice p r.1.length c, .int .i64 r.2]) ∧ (p = none → c = 0) ∧ OwnZ w W p r.1) ∧ ∃ q, W = Wov w q
end Go.Proofs.Ytbgbhfcnadjhdaa
