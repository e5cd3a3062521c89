/- Lists of zones laid one behind the other, at a step of a region that draws its order; the length of what is left; a list that came in as nil. No condition. -/
import Derived.Test.YtbgbhfcnadjhdaaJ9
import Derived.Test.YtbgbhfcnadjhdaaJ11
import Derived.Test.YtbgbhfcnadjhdaaJ12
import Derived.Deep.RegionLaw
namespace Go.Proofs.Ytbgbhfcnadjhdaa
set_option linter.unusedSimpArgs false
set_option linter.unusedVariables false
open Go Go.RowKit Go.Shelf Go.ChangeShapes Go.WideShapes Go.ChangeAt Go.Joins Go.Deep
attribute [local go_sem] Nat.add_assoc Nat.add_lt_add_iff_left lit_lt_add

theorem wp_appZ {o : Oper} {a : Act} {K' : Act → World → Prop} {Q : Exit → Act → World → Prop} (X : World) (base : Nat)
    (s x : Operand) (hop : o.op = Op.call { callee := Callee.builtin Builtin.append, args := #[s, x], argTypes := #[25, 25] }) (hty : o.type = 25)
    (v : Value) (K L : List (Nat → Int)) (hs : a.eval s = v) (hown : X.ownsRow base 24 6 v K.length (cellsZ K)) (q : Option Addr) (cq : Nat) (hx : a.eval x = .slice q L.length cq) (hq : q = none → cq = 0) (hR : SlZ X q L) (hM : K.length + L.length ≤ 1000000) (hb : base ≤ X.heap.size)
    (h : ∀ v' w', w'.ownsRow base 24 6 v' (K ++ L).length (cellsZ (K ++ L)) → X.grownBy w' v.ownBlock → K' (a.put o.dst v') w') :
    Oper.wp Try.prog o a X K' Q := by
  unfold Oper.wp
  obtain ⟨i0, hi, hz1, hz2⟩ : ∃ i0, Try.prog.info? 24 = some i0 ∧ i0.size = 6 ∧ i0.bytes = 48 := by
    have := infoZ
    cases h : Try.prog.info? 24 with
    | none => rw [h] at this; cases this
    | some i => rw [h] at this; simp at this; exact ⟨i, rfl, this.1, this.2⟩
  have hz0 : i0.zero = some (.agg #[.int .i64 0, .int .i64 0, .int .i64 0, .int .i64 0, .int .i64 0, .int .i64 0]) := by
    have := infoZz
    rw [hi] at this; simpa using this
  cases q with
  | none =>
    obtain rfl := hq rfl
    have hL : L = [] := by
      rcases hR with h | ⟨A, o, h, _⟩
      · exact h
      · cases h
    subst hL
    have hrun := run_append_owned_none (P := Try.prog) X base 25 25 24 i0 6 Try.underlying25 hi v K.length (cellsZ K) hown
    simp only [List.length_nil] at hx
    simp [execOp, hop, hty, resolve, invoke, builtin, hs, hx, hrun, Result.andThen]
    refine (h v X ?_ ⟨rfl, rfl, rfl, Nat.le_refl _, fun _ _ _ => rfl⟩)
    rw [List.append_nil]; exact hown
  | some ad =>
    have hc : ∀ j u, (cellsZ L)[j]? = some u → X.cell? (ad.add j) = some u := by
      intro j u hj
      rcases hR with h | ⟨A, o, h, hlt, hv⟩
      · subst h; simp [cellsZ] at hj
      · cases h
        have hjl : j < L.length * 6 := by
          have := (List.getElem?_eq_some_iff.1 hj).1
          rwa [cellsZ_len] at this
        have h1 := cellsZ_get L (j / 6) (j % 6) (by omega) (by omega)
        have h2 := hv (j / 6) (j % 6) (by omega) (by omega)
        rw [show j / 6 * 6 + j % 6 = j by omega] at h1 h2
        rw [h1] at hj
        rw [Addr.add_lit, h2]; exact hj
    obtain ⟨v', w', hrun, r1, r2, r3⟩ := run_append_own (P := Try.prog) X base 25 25 24 i0 _ 6 48 Try.underlying25 hi hz0 hz1 hz2 rfl (by decide) v K.length (cellsZ K) hown ad L.length cq (cellsZ L) (cellsZ_len L) hc (cellsZ_one L) (by unfold maxLen; omega) (by omega) hb
    simp [execOp, hop, hty, resolve, invoke, builtin, hs, hx, hrun, Result.andThen]
    refine h v' w' ?_ r2
    rw [List.length_append, cellsZ_app]; exact r1
theorem step_appZ {ops : Array Oper} {o : Oper} {a : Act} {K' : Act → World → Prop} {Q : Exit → Act → World → Prop} {E : Prop} (X : World) (base : Nat) (hgd : o.guard = none)
    (s x : Operand) (hop : o.op = Op.call { callee := Callee.builtin Builtin.append, args := #[s, x], argTypes := #[25, 25] }) (hty : o.type = 25)
    (v : Value) (K L : List (Nat → Int)) (hs : a.eval s = v) (hown : X.ownsRow base 24 6 v K.length (cellsZ K)) (q : Option Addr) (cq : Nat) (hx : a.eval x = .slice q L.length cq) (hq : q = none → cq = 0) (hR : SlZ X q L) (hM : K.length + L.length ≤ 1000000) (hb : base ≤ X.heap.size)
    (h : ∀ v' w', w'.ownsRow base 24 6 v' (K ++ L).length (cellsZ (K ++ L)) → X.grownBy w' v.ownBlock → K' (a.put o.dst v') w') :
    if Region.wanted o (yielded ops a.tmps) = true then Oper.wp Try.prog o a X K' Q else E := by
  have hw : Region.wanted o (yielded ops a.tmps) = true := by simp [Region.wanted, hgd]
  rw [if_pos hw]
  exact wp_appZ X base s x hop hty v K L hs hown q cq hx hq hR hM hb h
theorem slz_one {X : World} {b : Nat → Int} {t : TypeId} : SlZ (X.alloc (.cells #[.int .i64 (b 0), .int .i64 (b 1), .int .i64 (b 2), .int .i64 (b 3), .int .i64 (b 4), .int .i64 (b 5)] t)) (some ⟨X.heap.size, 0, none⟩) [b] := by
  refine .inr ⟨_, 0, rfl, by simp, fun i j hi hj => ?_⟩
  obtain rfl : i = 0 := by simpa using hi
  rcases six hj with rfl | rfl | rfl | rfl | rfl | rfl <;> simp [go_sem, nthZ]
theorem rest_len : ∀ (l out n : List (Nat → Int)), restZ l out = (n, 0) → out.length ≤ 4096 → n.length ≤ 4096
  | [], out, n, h, ho => by
    simp only [restZ, Prod.mk.injEq, and_true] at h
    rw [← h]; exact ho
  | b :: l, out, n, h, ho => by
    rw [rest_cons] at h
    by_cases h1 : (nextZ b out []).2 ≠ 0
    · rw [if_pos h1] at h
      simp only [Prod.mk.injEq] at h
      exact absurd h.2 h1
    · rw [if_neg h1] at h
      refine rest_len l _ n h ?_
      obtain ⟨g1, _, g3⟩ := next_ok out [] _ (Prod.ext rfl (by omega) : nextZ b out [] = ((nextZ b out []).1, 0))
      cases out with
      | nil => rw [g1]; simp [flatZ]
      | cons y ys => exact g3 (by simp)
theorem left_len {a : Nat → Int} {l L : List (Nat → Int)} (h : leftZ a l = (L, 0)) : L.length ≤ 4096 := rest_len l [a] L (left_ok h).2.2 (by simp)
theorem flat_app (b : Nat → Int) : ∀ x y, flatZ b (x ++ y) = flatZ b x ++ flatZ b y
  | [], y => rfl
  | z :: x, y => by rw [List.cons_append, flatZ, flat_app b x y, flatZ, List.append_assoc]
theorem flat_take {b : Nat → Int} {m : List (Nat → Int)} {t : Nat} (h : t < m.length) : flatZ b (m.take (t + 1)) = flatZ b (m.take t) ++ (minusZ (nthZ m t) b).1 := by
  rw [List.take_succ_eq_append_getElem h, flat_app, nthZ_eq h]
  simp [flatZ]
set_option maxRecDepth 10000 in
theorem open_zones_nil {H : Type} {enc : TypeId × Value → H} {W : World} {base : Nat} {q : Option Addr} {cq n : Nat} {d : DataW H} {p : List MemPlace}
    (hv : Value.okWide Try.prog W .any base 25 (.slice q n cq)) (h : DataW.Trod enc Try.prog W 0 (fun _ => true) true 25 (.slice q n cq) d p) : q = none → cq = 0 := by
  obtain ⟨k, h⟩ := h
  rcases open_slice Try.underlying25 h with ⟨h1, _⟩ | ⟨a, len, cap, m, n', D, Pl, h1, _⟩
  · have h1 : Value.slice q n cq = .slice none 0 0 := by simpa [Value.cells] using h1
    simp only [Value.slice.injEq] at h1
    exact fun _ => h1.2.2
  · have h1 : Value.slice q n cq = .slice (some a) len cap := by simpa [Value.cells] using h1
    simp only [Value.slice.injEq] at h1
    intro hq
    rw [hq] at h1; cases h1.1
end Go.Proofs.Ytbgbhfcnadjhdaa
