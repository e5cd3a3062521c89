/- lex's cutter: contract of (*cutter).end. No condition but on sizes, and what some package variables hold. -/
import Derived.Test.YtccbhblklhmcpaaGreatDoorQ12
import Derived.Deep.RegionHeld3
namespace Go.Proofs.YtccbhblklhmcpaaGreatDoor
set_option linter.unusedSimpArgs false
set_option linter.unusedVariables false
open Go Go.RowKit Go.Shelf
attribute [local go_sem] Nat.add_assoc Nat.add_lt_add_iff_left lit_lt_add

/-- A cutter in memory: its text, where a row began, its tokens. -/
structure CutI (nb : Nat) (W : World) (B : Nat) (S : ByteArray) (f : Int) (v : Value) (l : List Tk) : Prop where
  lt : B < W.heap.size
  ln : B < nb
  nz : nb ≤ W.heap.size
  c0 : W.cell? ⟨B, 0, none⟩ = some (.string S)
  c1 : W.cell? ⟨B, 1, none⟩ = some v
  c2 : W.cell? ⟨B, 2, none⟩ = some (.int .i64 f)
  z0 : W.frozen? ⟨B, 0, none⟩ = false
  z1 : W.frozen? ⟨B, 1, none⟩ = false
  z2 : W.frozen? ⟨B, 2, none⟩ = false
  row : RowK tkD nb W v l
theorem CutI.below {nb : Nat} {W V : World} {B : Nat} {S : ByteArray} {f : Int} {v : Value} {l : List Tk} (h : CutI nb W B S f v l) (hb : Below W.heap.size W V) : CutI nb V B S f v l :=
  ⟨Nat.lt_of_lt_of_le h.lt hb.size, h.ln, Nat.le_trans h.nz hb.size, (hb.cell (p := ⟨B, 0, none⟩) h.lt).trans h.c0, (hb.cell (p := ⟨B, 1, none⟩) h.lt).trans h.c1, (hb.cell (p := ⟨B, 2, none⟩) h.lt).trans h.c2,
    (hb.frozen (p := ⟨B, 0, none⟩) h.lt).trans h.z0, (hb.frozen (p := ⟨B, 1, none⟩) h.lt).trans h.z1, (hb.frozen (p := ⟨B, 2, none⟩) h.lt).trans h.z2, h.row.below hb⟩
/-- The blocks below a number are as they were, but one. -/
structure Turn (nb B : Nat) (W V : World) : Prop where
  os : V.os = W.os
  tape : V.tape = W.tape
  output : V.output = W.output
  size : W.heap.size ≤ V.heap.size
  block : ∀ j, j < nb → j ≠ B → V.heap[j]? = W.heap[j]?
theorem Turn.of {nb B : Nat} {W V : World} (h : Below nb W V) : Turn nb B W V := ⟨h.os, h.tape, h.output, h.size, fun j hj _ => h.block j hj⟩
theorem Turn.trans {nb B : Nat} {W V X : World} (h : Turn nb B W V) (g : Turn nb B V X) : Turn nb B W X := ⟨g.os.trans h.os, g.tape.trans h.tape, g.output.trans h.output, Nat.le_trans h.size g.size, fun j hj hB => (g.block j hj hB).trans (h.block j hj hB)⟩
theorem Turn.set {nb B : Nat} {W V : World} (h : Turn nb B W V) {a : Addr} (ha : a.block = B ∨ nb ≤ a.block) (u : Value) : Turn nb B W (V.setCell a u) :=
  ⟨h.os, h.tape, h.output, by rw [World.size_setCell]; exact h.size, fun j hj hB => by
    rw [← h.block j hj hB]
    simp only [World.setCell, Array.getElem?_modify]
    rw [if_neg (by rcases ha with ha | ha <;> omega)]⟩
theorem Turn.below {nb B : Nat} {W V : World} (h : Turn nb B W V) (hB : B ≤ nb) : Below B W V := ⟨h.os, h.tape, h.output, h.size, fun j hj => h.block j (by omega) (by omega)⟩
set_option maxRecDepth 10000 in
set_option maxHeartbeats 1000000 in
/-- No row has begun. -/
theorem end_none (nb : Nat) (W : World) (B : Nat) (S : ByteArray) (v : Value) (l : List Tk) (i : Int) (hI : CutI nb W B S (-1) v l) : Calls Tryz.prog 66 #[.pointer (some ⟨B, 0, none⟩), .int .i64 i] W (Gives W (.int .i64 0)) := by
  have hlt := hI.lt
  have c2 := hI.c2
  clear hI
  go_enter Tryz.func66, Tryz.ntmps66
  go_wp2_with (fail)
  go_ret
  exact gives_end rfl (by (repeat' (first | (with_reducible assumption) | (with_reducible exact Below.refl _ _) | (with_reducible refine below_wov ?_ ?_ _) | (with_reducible refine below_drewN ?_ _) | (with_reducible refine Below.drew ?_) | (with_reducible refine Below.alloc ?_ ?_ _) | (with_reducible refine Below.setCell ?_ ?_ _) | (with_reducible exact Nat.le_refl _) | omega | (simp only [World.size_alloc, World.size_setCell, World.size_drew, Wov_size, World.heap_drewN]; omega))))
set_option maxRecDepth 10000 in
set_option maxHeartbeats 4000000 in
/-- A row that may not be. -/
theorem end_err (nb : Nat) (W : World) (B : Nat) (S : List UInt8) (v : Value) (l : List Tk) (k i : Nat) (hI : CutI nb W B (bs S) k v l) (hki : k < i) (hiS : i ≤ S.length) (hS : S.length ≤ 140737488355328) (hL : Laid W) (he : (rowK ((S.drop k).take (i - k))).2 ≠ 0) :
    Calls Tryz.prog 66 #[.pointer (some ⟨B, 0, none⟩), .int .i64 i] W (Gives W (.int .i64 (rowK ((S.drop k).take (i - k))).2)) := by
  have hlt := hI.lt
  have c0 := hI.c0
  have c2 := hI.c2
  have z0 := hI.z0
  obtain ⟨cur, hcur⟩ : ∃ cur, cur = (S.drop k).take (i - k) := ⟨_, rfl⟩
  have hne : cur ≠ [] := by
    rw [hcur]; intro h
    have := congrArg List.length h
    rw [List.length_take, List.length_drop] at this
    simp at this; omega
  have hlc : cur.length ≤ 140737488355328 := by rw [hcur, List.length_take, List.length_drop]; omega
  have eX : (bs S).extract k i = bs cur := by rw [bs_ext, hcur]
  have hsz := bs_size S
  rw [← hcur] at he ⊢
  have RW : Hid (∀ w', Below W.heap.size W w' → Calls Tryz.prog 85 #[.string (bs cur)] w' (Gives w' (.tuple #[.agg #[.int .u8 0, .string ⟨#[]⟩, .int .i64 0], .int .i64 (rowK cur).2]))) := fun w' hb => by
    have := row_any cur hne hlc w' (hL.below hb)
    unfold rowV at this
    rw [if_neg he] at this
    exact this
  obtain ⟨E, hE⟩ : ∃ E : Int, E = ((rowK cur).2 : Int) := ⟨_, rfl⟩
  have hE0 : (E == 0) = false := by rw [beq_eq_false_iff_ne]; omega
  rw [← hE] at RW ⊢
  obtain ⟨T, hT⟩ : ∃ T, T = bs S := ⟨_, rfl⟩
  rw [← hT] at eX hsz c0
  obtain ⟨n, hn⟩ : ∃ n, n = S.length := ⟨_, rfl⟩
  rw [← hn] at hsz hiS
  have k0 : (0 : Int) ≤ (k : Int) := by omega
  have k1 : (k : Int) ≤ (i : Int) := by omega
  have k2 : (i : Int) ≤ (n : Int) := by omega
  have k3 : k ≤ i := by omega
  clear hI he hE hT hn hS hL hcur hne hlc
  go_enter Tryz.func66, Tryz.ntmps66
  go_wp2_with (fail)
  go_region_held3 (fun w' => w'.cell? ⟨B, 0, none⟩ = some (.string T) ∧ w'.cell? ⟨B, 2, none⟩ = some (.int .i64 (k : Int)))
    ((simp [go_sem, *]))
    ((go_at_call 85; (refine (RW.out _ (by (repeat' (first | (with_reducible assumption) | (with_reducible exact Below.refl _ _) | (with_reducible refine below_wov ?_ ?_ _) | (with_reducible refine below_drewN ?_ _) | (with_reducible refine Below.drew ?_) | (with_reducible refine Below.alloc ?_ ?_ _) | (with_reducible refine Below.setCell ?_ ?_ _) | (with_reducible exact Nat.le_refl _) | omega | (simp only [World.size_alloc, World.size_setCell, World.size_drew, Wov_size, World.heap_drewN]; omega))))).mono ?_); rintro e w' ⟨rfl, qa, rfl⟩))
  all_goals
    go_wp2_with (fail)
    go_ret
    exact gives_end rfl (by (repeat' (first | (with_reducible assumption) | (with_reducible exact Below.refl _ _) | (with_reducible refine below_wov ?_ ?_ _) | (with_reducible refine below_drewN ?_ _) | (with_reducible refine Below.drew ?_) | (with_reducible refine Below.alloc ?_ ?_ _) | (with_reducible refine Below.setCell ?_ ?_ _) | (with_reducible exact Nat.le_refl _) | omega | (simp only [World.size_alloc, World.size_setCell, World.size_drew, Wov_size, World.heap_drewN]; omega))))
#print axioms end_err
end Go.Proofs.YtccbhblklhmcpaaGreatDoor
