/- The list of all times, laid in a plain walk; boxed spans. No condition. -/
import Derived.Test.YtlcbpckinjkfeaaE10
import Derived.Test.YtlcbpckinjkfeaaD20
namespace Go.Proofs.Ytlcbpckinjkfeaa
set_option linter.unusedSimpArgs false
set_option linter.unusedVariables false
open Go Go.RowKit Go.Shelf
attribute [local go_sem] Nat.add_assoc Nat.add_lt_add_iff_left lit_lt_add

/-- The times, behind that of clock 0: one append, of however many. -/
theorem wpList_all {ops : Array Oper} {rest : List Oper} {o : Oper} {a : Act} {Q : Exit → Act → World → Prop} (X : World) (g : Nat) (hgx : X.heap.size = g)
    (hgd : o.guard = none) (s x : Operand) (hop : o.op = Op.call { callee := Callee.builtin Builtin.append, args := #[s, x], argTypes := #[40, 40] }) (hty : o.type = 40)
    (hs : a.eval s = .slice (some ⟨g, 0, none⟩) 1 1) (q : Option Addr) (M cq : Nat) (T : Nat → Int × Int) (hx : a.eval x = .slice q M cq) (hR : SlR X q M T) (hM : M ≤ 1000000)
    (h : ∀ Z cap w', Below g (X.alloc (.cells #[.int .i64 0, .int .i64 1] 23)) w' → g ≤ Z → Z < w'.heap.size → HoldsR w' Z (M + 1) (tm T) → wpList Try.prog ops Q rest (a.put o.dst (.slice (some ⟨Z, 0, none⟩) (M + 1) cap)) w') :
    wpList Try.prog ops Q (o :: rest) a (X.alloc (.cells #[.int .i64 0, .int .i64 1] 23)) := by
  refine wpList_plain hgd fun K hK' => ?_
  subst hgx
  unfold Oper.wp
  by_cases h0 : M = 0
  · subst h0
    have hrun := append_nothing (X.alloc (.cells #[.int .i64 0, .int .i64 1] 23)) X.heap.size q cq
    simp [execOp, hop, hty, resolve, invoke, builtin, hs, hx, hrun, Result.andThen]
    refine hK' _ _ (h X.heap.size 1 _ (Below.refl _ _) (Nat.le_refl _) (by simp) ?_)
    intro y hy
    obtain rfl : y = 0 := by omega
    constructor <;> simp [go_sem, tm]
  · obtain ⟨B, off, rfl, hB, hc⟩ : ∃ B off, q = some ⟨B, off, none⟩ ∧ B < X.heap.size ∧ ∀ x, x < M → X.cell? ⟨B, off + x * 2, none⟩ = some (.int .i64 (T x).1) ∧ X.cell? ⟨B, off + (x * 2 + 1), none⟩ = some (.int .i64 (T x).2) := by
      rcases hR with h | h
      · omega
      · exact h
    obtain ⟨i0, hi, hz1, hz2⟩ : ∃ i0, Try.prog.info? 23 = some i0 ∧ i0.size = 2 ∧ i0.bytes = 16 := by
      have := infoR
      cases h : Try.prog.info? 23 with
      | none => rw [h] at this; cases this
      | some i => rw [h] at this; simp at this; exact ⟨i, rfl, this.1, this.2⟩
    have hz0 : i0.zero = some (.agg #[.int .i64 0, .int .i64 0]) := by
      have := infoRz
      rw [hi] at this; simpa using this
    obtain ⟨v', w', hrun, r1, r2, r3⟩ := run_append_own (P := Try.prog) (X.alloc (.cells #[.int .i64 0, .int .i64 1] 23)) X.heap.size 40 40 23 i0 (.agg #[.int .i64 0, .int .i64 0]) 2 16 Try.underlying40 hi hz0 hz1 hz2 rfl (by decide) _ 1 _ (row_lit X T X.heap.size (Nat.le_refl _)) ⟨B, off, none⟩ M cq (cellsR T M) (cellsR_len T M)
      (fun j u hj => by
        rw [Addr.add_lit]
        obtain ⟨y, hy, ⟨rfl, rfl⟩ | ⟨rfl, rfl⟩⟩ := cellsR_get' hj
        · exact (World.cell?_alloc_lt _ _ _ hB).trans (hc y hy).1
        · exact (World.cell?_alloc_lt _ _ _ hB).trans (hc y hy).2) cellsR_one (by unfold maxLen; omega) (by omega) (by simp)
    rw [cellsR_tm, Nat.add_comm 1 M] at r1
    obtain ⟨Z, cap, rfl, z1, z2, z3⟩ := holdsR_of_row (by omega) r1
    simp [execOp, hop, hty, resolve, invoke, builtin, hs, hx, hrun, Result.andThen]
    refine hK' _ _ (h Z cap _ ⟨r2.os, r2.tape, r2.output, r2.size, fun k hk => r2.block k (by simp; omega) (fun e => by simp [Value.ownBlock] at e; omega)⟩ z1 z2 z3)


theorem slR_of {W : World} {B M : Nat} {T : Nat → Int × Int} (h : HoldsR W B M T) (hB : B < W.heap.size) : SlR W (some ⟨B, 0, none⟩) M T := .inr ⟨B, 0, rfl, hB, fun x hx => by rw [Nat.zero_add, Nat.zero_add]; exact h x hx⟩

/-- A span in a variable of its own. -/
structure BoxS (W : World) (A : Nat) (lo : Int) (ls : Bool) (hi : Int) (hs op : Bool) : Prop where
  lt : A < W.heap.size
  c0 : W.cell? ⟨A, 0, none⟩ = some (.int .i64 lo)
  c1 : W.cell? ⟨A, 1, none⟩ = some (.bool ls)
  c2 : W.cell? ⟨A, 2, none⟩ = some (.int .i64 hi)
  c3 : W.cell? ⟨A, 3, none⟩ = some (.bool hs)
  c4 : W.cell? ⟨A, 4, none⟩ = some (.bool op)
theorem BoxS.below {W W' : World} {A : Nat} {lo : Int} {ls : Bool} {hi : Int} {hs op : Bool} (h : BoxS W A lo ls hi hs op) (hb : Below W.heap.size W W') : BoxS W' A lo ls hi hs op :=
  ⟨Nat.lt_of_lt_of_le h.lt hb.size, (hb.cell (p := ⟨A, 0, none⟩) h.lt).trans h.c0, (hb.cell (p := ⟨A, 1, none⟩) h.lt).trans h.c1, (hb.cell (p := ⟨A, 2, none⟩) h.lt).trans h.c2, (hb.cell (p := ⟨A, 3, none⟩) h.lt).trans h.c3, (hb.cell (p := ⟨A, 4, none⟩) h.lt).trans h.c4⟩
theorem BoxS.new {W : World} {A : Nat} {lo : Int} {ls : Bool} {hi : Int} {hs op : Bool} {t : TypeId} (hA : A = W.heap.size) : BoxS (W.alloc (.cells #[.int .i64 lo, .bool ls, .int .i64 hi, .bool hs, .bool op] t)) A lo ls hi hs op := by
  subst hA
  exact ⟨by simp, by simp [go_sem], by simp [go_sem], by simp [go_sem], by simp [go_sem], by simp [go_sem]⟩
/-- A fraction in a variable of its own. -/
structure BoxR (W : World) (A : Nat) (a b : Int) : Prop where
  lt : A < W.heap.size
  c0 : W.cell? ⟨A, 0, none⟩ = some (.int .i64 a)
  c1 : W.cell? ⟨A, 1, none⟩ = some (.int .i64 b)
theorem BoxR.below {W W' : World} {A : Nat} {a b : Int} (h : BoxR W A a b) (hb : Below W.heap.size W W') : BoxR W' A a b :=
  ⟨Nat.lt_of_lt_of_le h.lt hb.size, (hb.cell (p := ⟨A, 0, none⟩) h.lt).trans h.c0, (hb.cell (p := ⟨A, 1, none⟩) h.lt).trans h.c1⟩
theorem BoxR.new {W : World} {A : Nat} {a b : Int} {t : TypeId} (hA : A = W.heap.size) : BoxR (W.alloc (.cells #[.int .i64 a, .int .i64 b] t)) A a b := by
  subst hA
  exact ⟨by simp, by simp [go_sem], by simp [go_sem]⟩
end Go.Proofs.Ytlcbpckinjkfeaa
