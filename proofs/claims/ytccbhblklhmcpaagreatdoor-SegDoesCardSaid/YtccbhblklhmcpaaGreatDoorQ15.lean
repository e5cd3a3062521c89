/- lex's cutter: contract of (*cutter).sign. No condition but on the count of tokens. -/
import Derived.Test.YtccbhblklhmcpaaGreatDoorQ14
namespace Go.Proofs.YtccbhblklhmcpaaGreatDoor
set_option linter.unusedSimpArgs false
set_option linter.unusedVariables false
open Go Go.RowKit Go.Shelf
attribute [local go_sem] Nat.add_assoc Nat.add_lt_add_iff_left lit_lt_add

theorem cellsK_set {α : Type} {D : EK α} (hD : D.Ok) {j : Nat} {u : Value} (hj : j < D.k) : ∀ (xs : List α) (i : Nat) (x x' : α), xs[i]? = some x → D.enc x' = (D.enc x).set j u → cellsK D (xs.set i x') = (cellsK D xs).set (i * D.k + j) u
  | [], i, x, x', h, _ => by cases h
  | y :: xs, 0, x, x', h, he => by
    simp only [List.getElem?_cons_zero, Option.some.injEq] at h
    subst h
    rw [List.set_cons_zero, cellsK_cons, cellsK_cons, he, Nat.zero_mul, Nat.zero_add, List.set_append_left _ _ (by rw [hD.len]; exact hj)]
  | y :: xs, i + 1, x, x', h, he => by
    rw [List.getElem?_cons_succ] at h
    rw [List.set_cons_succ, cellsK_cons, cellsK_cons, cellsK_set hD hj xs i x x' h he, List.set_append_right _ _ (by rw [hD.len, Nat.add_mul]; omega), hD.len]
    congr 2
    rw [Nat.add_mul]; omega
theorem take_set' (l : List Value) (n i : Nat) (u : Value) : (l.set i u).take n = (l.take n).set i u := by
  apply List.ext_getElem?
  intro k
  simp only [List.getElem?_take, List.getElem?_set, List.length_take]
  by_cases h1 : k < n
  · simp only [h1, if_true]
    by_cases h2 : i = k
    · subst h2
      by_cases h3 : i < l.length
      · simp [h3, h1]; omega
      · simp [h3]; omega
    · simp [h2]
  · simp only [h1, if_false]
    by_cases h2 : i = k
    · subst h2
      simp [h1]; omega
    · simp [h2]
theorem RowK.setAt {α : Type} {D : EK α} (hD : D.Ok) {W : World} {n g cap i j : Nat} {xs : List α} {x x' : α} {u : Value} (h : RowK D n W (.slice (some ⟨g, 0, none⟩) xs.length cap) xs) (hx : xs[i]? = some x) (hj : j < D.k) (he : D.enc x' = (D.enc x).set j u) :
    RowK D n (W.setCell ⟨g, i * D.k + j, none⟩ u) (.slice (some ⟨g, 0, none⟩) xs.length cap) (xs.set i x') := by
  obtain ⟨h0, h | ⟨g', cap', cur, h1, h2, h3, h4, h5, h6, h7⟩⟩ := h
  · cases h.1
  · injection h1 with e1 _ e2
    injection e1 with e1
    injection e1 with e1
    subst e1 e2
    unfold RowK
    rw [List.length_set]
    refine ⟨by rw [cellsK_len hD, List.length_set], .inr ⟨g, cap, cur.setIfInBounds (i * D.k + j) u, rfl, h2, ?_, h4, h5, by rw [Array.size_setIfInBounds]; exact h6, ?_⟩⟩
    · simp only [World.setCell, Array.getElem?_modify, if_true, h3]
      simp
    · rw [cellsK_set hD hj xs i x x' hx he, ← h7, ← take_set', Array.toList_setIfInBounds]
/-- The last token's cells. -/
theorem RowK.last {W : World} {n : Nat} {v : Value} {l : List Tk} {t : Tk} {m : Nat} (h : RowK tkD n W v l) (ht : l[m]? = some t) : ∃ g cap, v = .slice (some ⟨g, 0, none⟩) l.length cap ∧ n ≤ g ∧ g < W.heap.size ∧ W.cell? ⟨g, m * 3, none⟩ = some (.int .u8 t.kind) ∧ W.cell? ⟨g, m * 3 + 1, none⟩ = some (.string (bs t.text)) ∧ W.cell? ⟨g, m * 3 + 2, none⟩ = some (.int .i64 t.at_) ∧ W.frozen? ⟨g, m * 3 + 1, none⟩ = false := by
  have hlt := h.own_lt
  obtain ⟨p, c, hv, _, _, hs⟩ := RowK.sl tkD_ok h
  rcases h.2 with ⟨_, h0⟩ | ⟨g, cap, cur, rfl, hg, hgb, _⟩
  · have hm := (List.getElem?_eq_some_iff.1 ht).1
    omega
  · injection hv with e1 _ e2
    subst e1 e2
    rcases hs with hs | ⟨A, o, e, hA, hc⟩
    · rw [hs] at ht; cases ht
    · injection e with e
      injection e with e1 e2
      subst e1 e2
      have c0 := hc m 0 t _ ht rfl
      have c1 := hc m 1 t _ ht rfl
      have c2 := hc m 2 t _ ht rfl
      rw [Nat.zero_add] at c0 c1 c2
      refine ⟨g, cap, rfl, hg, hA, c0, c1, c2, ?_⟩
      simp only [World.frozen?, hgb]; simp
theorem encode_ascii (c : UInt8) (hc : c.toNat < 128) : Utf8.encode (c.toNat : Int) = bs [c] := by
  have hval : Utf8.valid (c.toNat : Int) = true := by unfold Utf8.valid; simp; omega
  unfold Utf8.encode
  rw [if_pos hval]
  simp only
  rw [if_pos (by omega)]
  simp [bs]
#print axioms encode_ascii
end Go.Proofs.YtccbhblklhmcpaaGreatDoor
