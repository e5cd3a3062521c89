/- Worlds in which one block has turned; numbers held in a block; the contract of (*matrix).through. No condition but that the count of clocks is at most 4 and numbers are of their kind. -/
import Derived.Test.YtlcbpckinjkfeaaD3
import Derived.Test.YtlcbpckinjkfeaaBound2
import Derived.Test.YtlcbpckinjkfeaaFrame2
namespace Go.Proofs.Ytlcbpckinjkfeaa
set_option linter.unusedSimpArgs false
set_option linter.unusedVariables false
open Go Go.RowKit Go.Shelf
attribute [local go_sem] Oper.semAt_some

/-- All that lay in w lies in W as it lay, but for block B. -/
structure Chg (w : World) (B : Nat) (W : World) : Prop where
  os : W.os = w.os
  tape : W.tape = w.tape
  output : W.output = w.output
  size : w.heap.size ≤ W.heap.size
  block : ∀ b, b < w.heap.size → b ≠ B → W.heap[b]? = w.heap[b]?

theorem Chg.refl (w : World) (B : Nat) : Chg w B w := ⟨rfl, rfl, rfl, Nat.le_refl _, fun _ _ _ => rfl⟩
theorem Chg.trans {a b c : World} {B : Nat} (h : Chg a B b) (g : Chg b B c) : Chg a B c :=
  ⟨g.os.trans h.os, g.tape.trans h.tape, g.output.trans h.output, Nat.le_trans h.size g.size, fun k hk hB => (g.block k (Nat.lt_of_lt_of_le hk h.size) hB).trans (h.block k hk hB)⟩
theorem Chg.of_below {a b : World} {B : Nat} (h : Below a.heap.size a b) : Chg a B b := ⟨h.os, h.tape, h.output, h.size, fun k hk _ => h.block k hk⟩
theorem Chg.wov (w : World) (B : Nat) (p : Gr) : Chg w B (Wov w p) := .of_below (below_Wov w p)
theorem Chg.drew (w : World) (B : Nat) : Chg w B w.drew := ⟨rfl, rfl, rfl, Nat.le_refl _, fun _ _ _ => rfl⟩
theorem Chg.drewN (w : World) (B n : Nat) : Chg w B (w.drewN n) := ⟨rfl, rfl, rfl, Nat.le_refl _, fun _ _ _ => rfl⟩
theorem Chg.alloc (w : World) (B : Nat) (o : Obj) : Chg w B (w.alloc o) := .of_below ((Below.refl _ w).alloc (Nat.le_refl _) o)
theorem Chg.set (w : World) (B x : Nat) (v : Value) : Chg w B (w.setCell ⟨B, x, none⟩ v) := by
  refine ⟨rfl, rfl, rfl, ?_, fun k hk hB => ?_⟩
  · simp [World.setCell]
  · exact Below.heap_setCell _ _ _ k (fun e => hB (by rw [e]))
theorem Chg.cell {w W : World} {B b x : Nat} (h : Chg w B W) (hb : b < w.heap.size) (hB : b ≠ B) : W.cell? ⟨b, x, none⟩ = w.cell? ⟨b, x, none⟩ := World.cell?_of_block (h.block b hb hB)
theorem Chg.frozen {w W : World} {B b x : Nat} (h : Chg w B W) (hb : b < w.heap.size) (hB : b ≠ B) : W.frozen? ⟨b, x, none⟩ = w.frozen? ⟨b, x, none⟩ := World.frozen?_of_block (h.block b hb hB)
/-- What is no cells, and lies at or beyond the end, may turn. -/
theorem Chg.own {w W W' : World} {B n0 : Nat} {row : Option Nat} (h : Chg w B W) (hg : W.grownBy W' row) (hr : ∀ r, row = some r → n0 ≤ r) (hn : w.heap.size ≤ n0) : Chg w B W' :=
  ⟨hg.os.trans h.os, hg.tape.trans h.tape, hg.output.trans h.output, Nat.le_trans h.size hg.size, fun k hk hB => (hg.block k (Nat.lt_of_lt_of_le hk h.size) (fun e => by have := hr k e.symm; omega)).trans (h.block k hk hB)⟩
/-- If the one block is new, the world has grown. -/
theorem Chg.below {w W : World} {B : Nat} (h : Chg w B W) (hB : w.heap.size ≤ B) : Below w.heap.size w W := ⟨h.os, h.tape, h.output, h.size, fun k hk => h.block k hk (by omega)⟩

/-- A block whose first cells hold numbers, and may be written. -/
def HoldsI (W : World) (B N : Nat) (f : Nat → Int) : Prop := ∀ x, x < N → W.cell? ⟨B, x, none⟩ = some (.int .i64 (f x)) ∧ W.frozen? ⟨B, x, none⟩ = false
def upd (f : Nat → Int) (a : Nat) (v : Int) : Nat → Int := fun y => if y = a then v else f y
theorem HoldsI.block_lt {W : World} {B N : Nat} {f : Nat → Int} (h : HoldsI W B N f) (hN : 0 < N) : B < W.heap.size := by
  have := World.block_lt_of_cell? W _ (h 0 hN).1
  exact this
theorem HoldsI.of_block {W W' : World} {B N : Nat} {f : Nat → Int} (h : HoldsI W B N f) (hb : W'.heap[B]? = W.heap[B]?) : HoldsI W' B N f := fun x hx =>
  ⟨(World.cell?_of_block hb).trans (h x hx).1, (World.frozen?_of_block hb).trans (h x hx).2⟩
theorem HoldsI.below {W W' : World} {B N k : Nat} {f : Nat → Int} (h : HoldsI W B N f) (hb : Below k W W') (hk : B < k) : HoldsI W' B N f := h.of_block (hb.block B hk)
theorem HoldsI.wov {W : World} {B N : Nat} {f : Nat → Int} (h : HoldsI W B N f) (hB : B < W.heap.size) (p : Gr) : HoldsI (Wov W p) B N f := h.below (below_Wov W p) hB
theorem HoldsI.own {W W' : World} {B N : Nat} {f : Nat → Int} {row : Option Nat} (h : HoldsI W B N f) (hg : W.grownBy W' row) (hr : ∀ r, row = some r → ∃ o : Obj, W.heap[r]? = some o ∧ o.isCells = false) : HoldsI W' B N f := fun x hx =>
  ⟨cell_kept (h x hx).1 hg hr, (frozen_kept (h x hx).1 hg hr).trans (h x hx).2⟩
theorem HoldsI.set {W : World} {B N a : Nat} {f : Nat → Int} (h : HoldsI W B N f) (ha : a < N) (v : Int) : HoldsI (W.setCell ⟨B, a, none⟩ (.int .i64 v)) B N (upd f a v) := by
  intro x hx
  refine ⟨?_, by rw [World.frozen?_setCell]; exact (h x hx).2⟩
  unfold upd
  by_cases e : x = a
  · subst e
    rw [if_pos rfl, setCell_cell_self, (h x hx).1]; rfl
  · rw [if_neg e]
    exact (World.cell?_setCell_other _ _ _ _ (fun e' => by cases e'; exact e rfl)).trans (h x hx).1

/-- One step of a round: the bound of a pair, at most that by clock k. -/
def stepP (n k : Nat) (f : Nat → Int) (x : PairC n) : Nat → Int :=
  if (addR (f (x.1.1 * n + k)) (f (k * n + x.1.2))).1 < f (x.1.1 * n + x.1.2) then upd f (x.1.1 * n + x.1.2) (addR (f (x.1.1 * n + k)) (f (k * n + x.1.2))).1 else f
def diagB (n : Nat) (f : Nat → Int) : Bool := (List.range n).all fun i => decide (1 ≤ f (i * n + i))
def Fits (N : Nat) (f : Nat → Int) : Prop := ∀ x, x < N → fits64 (f x)
theorem addR_fits (a b : Int) : fits64 (addR a b).1 := by
  unfold addR
  split
  · split
    · unfold noneB fits64; simp
    · unfold madeR
      split
      · rename_i h
        have := okN_bd h
        unfold mkB fits64
        simp only
        split <;> omega
      · unfold fits64; simp
  · unfold fits64; simp
theorem Fits.step {n k N : Nat} {f : Nat → Int} (h : Fits N f) (x : PairC n) : Fits N (stepP n k f x) := by
  unfold stepP
  split
  · intro y hy
    unfold upd
    split
    · exact addR_fits _ _
    · exact h y hy
  · exact h
theorem place_lt {n i j : Nat} (hi : i < n) (hj : j < n) : i * n + j < n * n := by
  have : (i + 1) * n ≤ n * n := Nat.mul_le_mul_right n hi
  rw [Nat.add_mul] at this
  omega
end Go.Proofs.Ytlcbpckinjkfeaa
