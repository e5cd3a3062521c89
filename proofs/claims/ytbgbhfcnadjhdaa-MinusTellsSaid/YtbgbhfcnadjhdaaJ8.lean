/- Lists of zones laid one behind the other; contract of minus.Left. No condition but on the count of zones. -/
import Derived.Test.YtbgbhfcnadjhdaaJ6
import Derived.Laws.OwnMore
namespace Go.Proofs.Ytbgbhfcnadjhdaa
set_option linter.unusedSimpArgs false
set_option linter.unusedVariables false
open Go Go.RowKit Go.Shelf
attribute [local go_sem] Nat.add_assoc Nat.add_lt_add_iff_left lit_lt_add

/-- Zones behind zones: one append, of however many. -/
theorem wpList_appZ {ops : Array Oper} {rest : List Oper} {o : Oper} {a : Act} {Q : Exit → Act → World → Prop} (X : World) (base : Nat)
    (hgd : o.guard = none) (s x : Operand) (hop : o.op = Op.call { callee := Callee.builtin Builtin.append, args := #[s, x], argTypes := #[25, 25] }) (hty : o.type = 25)
    (v : Value) (K L : List (Nat → Int)) (hs : a.eval s = v) (hown : X.ownsRow base 24 6 v K.length (cellsZ K)) (q : Option Addr) (cq : Nat) (hx : a.eval x = .slice q L.length cq) (hq : q = none → cq = 0) (hR : SlZ X q L) (hM : K.length + L.length ≤ 1000000) (hb : base ≤ X.heap.size)
    (h : ∀ v' w', w'.ownsRow base 24 6 v' (K ++ L).length (cellsZ (K ++ L)) → X.grownBy w' v.ownBlock → wpList Try.prog ops Q rest (a.put o.dst v') w') :
    wpList Try.prog ops Q (o :: rest) a X := by
  refine wpList_plain hgd fun K' hK' => ?_
  unfold Oper.wp
  obtain ⟨i0, hi, hz1, hz2⟩ : ∃ i0, Try.prog.info? 24 = some i0 ∧ i0.size = 6 ∧ i0.bytes = 48 := by
    have := infoZ
    cases h : Try.prog.info? 24 with
    | none => rw [h] at this; cases this
    | some i => rw [h] at this; simp at this; exact ⟨i, rfl, this.1, this.2⟩
  have hz0 : i0.zero = some (.agg #[.int .i64 0, .int .i64 0, .int .i64 0, .int .i64 0, .int .i64 0, .int .i64 0]) := by
    have := infoZz
    rw [hi] at this; simpa using this
  cases q with
  | none =>
    obtain rfl := hq rfl
    have hL : L = [] := by
      rcases hR with h | ⟨A, o, h, _⟩
      · exact h
      · cases h
    subst hL
    have hrun := run_append_owned_none (P := Try.prog) X base 25 25 24 i0 6 Try.underlying25 hi v K.length (cellsZ K) hown
    simp only [List.length_nil] at hx
    simp [execOp, hop, hty, resolve, invoke, builtin, hs, hx, hrun, Result.andThen]
    refine hK' _ _ (h v X ?_ ⟨rfl, rfl, rfl, Nat.le_refl _, fun _ _ _ => rfl⟩)
    rw [List.append_nil]; exact hown
  | some ad =>
    have hc : ∀ j u, (cellsZ L)[j]? = some u → X.cell? (ad.add j) = some u := by
      intro j u hj
      rcases hR with h | ⟨A, o, h, hlt, hv⟩
      · subst h; simp [cellsZ] at hj
      · cases h
        have hjl : j < L.length * 6 := by
          have := (List.getElem?_eq_some_iff.1 hj).1
          rwa [cellsZ_len] at this
        have h1 := cellsZ_get L (j / 6) (j % 6) (by omega) (by omega)
        have h2 := hv (j / 6) (j % 6) (by omega) (by omega)
        rw [show j / 6 * 6 + j % 6 = j by omega] at h1 h2
        rw [h1] at hj
        rw [Addr.add_lit, h2]; exact hj
    obtain ⟨v', w', hrun, r1, r2, r3⟩ := run_append_own (P := Try.prog) X base 25 25 24 i0 _ 6 48 Try.underlying25 hi hz0 hz1 hz2 rfl (by decide) v K.length (cellsZ K) hown ad L.length cq (cellsZ L) (cellsZ_len L) hc (cellsZ_one L) (by unfold maxLen; omega) (by omega) hb
    simp [execOp, hop, hty, resolve, invoke, builtin, hs, hx, hrun, Result.andThen]
    refine hK' _ _ (h v' w' ?_ r2)
    rw [List.length_append, cellsZ_app]; exact r1
end Go.Proofs.Ytbgbhfcnadjhdaa
