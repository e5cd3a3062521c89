/- Zones' texts: contract of side.read. No condition but on size, and that strconv.ErrRange lies. -/
import Derived.Test.YtpmpapenjcemjaaGreatDoorU4
namespace Go.Proofs.YtpmpapenjcemjaaGreatDoor
set_option linter.unusedSimpArgs false
set_option linter.unusedVariables false
open Go Go.RowKit Go.Shelf
attribute [local go_sem] Nat.add_assoc Nat.add_lt_add_iff_left lit_lt_add

abbrev EndX := Int × Bool × Bool
def xEndV (x : EndX) : Value := end3 x.1 x.2.1 x.2.2
/-- What is read: an end, and an error. -/
def endR (o p : UInt8) (no : List UInt8) (c : UInt8) (l : List UInt8) : EndX × Int :=
  if c = o ∧ l = no then ((0, false, true), 0)
  else if (c = o ∨ c = p) ∧ canonT l = true then (if numE l = 0 then ((valT l, decide (c = p), false), 0) else ((0, false, false), 151))
  else ((0, false, false), 170)
def endRV (r : EndX × Int) : Value := .tuple #[xEndV r.1, .int .i64 r.2]
theorem ErrR.below {w V : World} (h : ErrR w) (hb : Below w.heap.size w V) : ErrR V := by
  obtain ⟨tp, p, hv⟩ := h
  cases hg : Tryz.prog.globalNamed "strconv.ErrRange" with
  | none => unfold World.var? at hv; rw [hg] at hv; cases hv
  | some g =>
    have hlt : g < w.heap.size := by
      unfold World.var? at hv
      rw [hg] at hv
      rcases Nat.lt_or_ge g w.heap.size with h | h
      · exact h
      · rw [Option.bind_some, Array.getElem?_eq_none h] at hv; cases hv
    exact ⟨tp, p, Go.Joins.var_stays hg hv hb (Nat.le_refl _)⟩
set_option maxRecDepth 10000 in
set_option maxHeartbeats 2000000 in
theorem read_none (o p : UInt8) (no : List UInt8) (c : UInt8) (l : List UInt8) (w : World) (IX : Hid (Pure Tryz.prog 157 #[.string (bs [o, p]), .int .u8 c.toNat] (.int .i64 0))) (hq : (l == no) = true) :
    Calls Tryz.prog 113 #[.agg #[.string (bs [o, p]), .string (bs no)], .int .u8 c.toNat, .string (bs l)] w (Gives w (.tuple #[end3 0 false true, .int .i64 0])) := by
  obtain ⟨BR, hBR⟩ : ∃ B, B = bs [o, p] := ⟨_, rfl⟩
  rw [← hBR] at IX ⊢
  clear hBR
  unfold end3
  go_enter Tryz.func113, Tryz.ntmps113
  go_wp2_with (fail)
  refine (IX.out _).mono ?_; rintro e w' ⟨rfl, q1, rfl⟩
  skip
  go_wp2_with (fail)
  go_returns
  exact gives_end rfl (by (repeat' (first | (with_reducible assumption) | (with_reducible exact Below.refl _ _) | (with_reducible refine below_wov ?_ ?_ _) | (with_reducible refine below_drewN ?_ _) | (with_reducible refine Below.drew ?_) | (with_reducible refine Below.alloc ?_ ?_ _) | (with_reducible refine Below.setCell ?_ ?_ _) | (with_reducible exact Nat.le_refl _) | omega | (simp only [World.size_alloc, World.size_setCell, World.size_drew, Wov_size, World.heap_drewN]; omega))))
set_option maxRecDepth 10000 in
set_option maxHeartbeats 2000000 in
theorem read_brk (o p : UInt8) (no : List UInt8) (c : UInt8) (l : List UInt8) (w : World) (IX : Hid (Pure Tryz.prog 157 #[.string (bs [o, p]), .int .u8 c.toNat] (.int .i64 (-1)))) :
    Calls Tryz.prog 113 #[.agg #[.string (bs [o, p]), .string (bs no)], .int .u8 c.toNat, .string (bs l)] w (Gives w (.tuple #[end3 0 false false, .int .i64 170])) := by
  obtain ⟨BR, hBR⟩ : ∃ B, B = bs [o, p] := ⟨_, rfl⟩
  rw [← hBR] at IX ⊢
  clear hBR
  unfold end3
  go_enter Tryz.func113, Tryz.ntmps113
  go_wp2_with (fail)
  refine (IX.out _).mono ?_; rintro e w' ⟨rfl, q1, rfl⟩
  skip
  go_wp2_with (fail)
  go_returns
  exact gives_end rfl (by (repeat' (first | (with_reducible assumption) | (with_reducible exact Below.refl _ _) | (with_reducible refine below_wov ?_ ?_ _) | (with_reducible refine below_drewN ?_ _) | (with_reducible refine Below.drew ?_) | (with_reducible refine Below.alloc ?_ ?_ _) | (with_reducible refine Below.setCell ?_ ?_ _) | (with_reducible exact Nat.le_refl _) | omega | (simp only [World.size_alloc, World.size_setCell, World.size_drew, Wov_size, World.heap_drewN]; omega))))
set_option maxRecDepth 10000 in
set_option maxHeartbeats 2000000 in
theorem read_dig0 (o p : UInt8) (no : List UInt8) (c : UInt8) (l : List UInt8) (w : World) (IX : Hid (Pure Tryz.prog 157 #[.string (bs [o, p]), .int .u8 c.toNat] (.int .i64 0))) (hq : (l == no) = false) (DG : Hid (Pure Tryz.prog 160 #[.string (bs l)] (.bool false))) :
    Calls Tryz.prog 113 #[.agg #[.string (bs [o, p]), .string (bs no)], .int .u8 c.toNat, .string (bs l)] w (Gives w (.tuple #[end3 0 false false, .int .i64 170])) := by
  obtain ⟨BR, hBR⟩ : ∃ B, B = bs [o, p] := ⟨_, rfl⟩
  rw [← hBR] at IX ⊢
  clear hBR
  unfold end3
  go_enter Tryz.func113, Tryz.ntmps113
  go_wp2_with (fail)
  refine (IX.out _).mono ?_; rintro e w' ⟨rfl, q1, rfl⟩
  go_wp2_with (fail); refine (DG.out _).mono ?_; rintro e w' ⟨rfl, q2, rfl⟩
  go_wp2_with (fail)
  go_returns
  exact gives_end rfl (by (repeat' (first | (with_reducible assumption) | (with_reducible exact Below.refl _ _) | (with_reducible refine below_wov ?_ ?_ _) | (with_reducible refine below_drewN ?_ _) | (with_reducible refine Below.drew ?_) | (with_reducible refine Below.alloc ?_ ?_ _) | (with_reducible refine Below.setCell ?_ ?_ _) | (with_reducible exact Nat.le_refl _) | omega | (simp only [World.size_alloc, World.size_setCell, World.size_drew, Wov_size, World.heap_drewN]; omega))))
set_option maxRecDepth 10000 in
set_option maxHeartbeats 2000000 in
theorem read_dig1 (o p : UInt8) (no : List UInt8) (c : UInt8) (l : List UInt8) (w : World) (IX : Hid (Pure Tryz.prog 157 #[.string (bs [o, p]), .int .u8 c.toNat] (.int .i64 1))) (DG : Hid (Pure Tryz.prog 160 #[.string (bs l)] (.bool false))) :
    Calls Tryz.prog 113 #[.agg #[.string (bs [o, p]), .string (bs no)], .int .u8 c.toNat, .string (bs l)] w (Gives w (.tuple #[end3 0 false false, .int .i64 170])) := by
  obtain ⟨BR, hBR⟩ : ∃ B, B = bs [o, p] := ⟨_, rfl⟩
  rw [← hBR] at IX ⊢
  clear hBR
  unfold end3
  go_enter Tryz.func113, Tryz.ntmps113
  go_wp2_with (fail)
  refine (IX.out _).mono ?_; rintro e w' ⟨rfl, q1, rfl⟩
  go_wp2_with (fail); refine (DG.out _).mono ?_; rintro e w' ⟨rfl, q2, rfl⟩
  go_wp2_with (fail)
  go_returns
  exact gives_end rfl (by (repeat' (first | (with_reducible assumption) | (with_reducible exact Below.refl _ _) | (with_reducible refine below_wov ?_ ?_ _) | (with_reducible refine below_drewN ?_ _) | (with_reducible refine Below.drew ?_) | (with_reducible refine Below.alloc ?_ ?_ _) | (with_reducible refine Below.setCell ?_ ?_ _) | (with_reducible exact Nat.le_refl _) | omega | (simp only [World.size_alloc, World.size_setCell, World.size_drew, Wov_size, World.heap_drewN]; omega))))
set_option maxRecDepth 10000 in
set_option maxHeartbeats 2000000 in
theorem read_num0 (o p : UInt8) (no : List UInt8) (c : UInt8) (l : List UInt8) (w : World) (IX : Hid (Pure Tryz.prog 157 #[.string (bs [o, p]), .int .u8 c.toNat] (.int .i64 0))) (hq : (l == no) = false) (DG : Hid (Pure Tryz.prog 160 #[.string (bs l)] (.bool true))) (n : Int) (AT : Hid (Pure Tryz.prog 95 #[.string (bs l)] (.tuple #[.int .i64 n, .nilIface]))) (h1 : ¬ 2305843009213693952 < n) (h2 : ¬ n < -2305843009213693952) :
    Calls Tryz.prog 113 #[.agg #[.string (bs [o, p]), .string (bs no)], .int .u8 c.toNat, .string (bs l)] w (Gives w (.tuple #[end3 n false false, .int .i64 0])) := by
  obtain ⟨BR, hBR⟩ : ∃ B, B = bs [o, p] := ⟨_, rfl⟩
  rw [← hBR] at IX ⊢
  clear hBR
  unfold end3
  go_enter Tryz.func113, Tryz.ntmps113
  go_wp2_with (fail)
  refine (IX.out _).mono ?_; rintro e w' ⟨rfl, q1, rfl⟩
  go_wp2_with (fail); refine (DG.out _).mono ?_; rintro e w' ⟨rfl, q2, rfl⟩; go_wp2_with (fail); refine (AT.out _).mono ?_; rintro e w' ⟨rfl, q3, rfl⟩
  go_wp2_with (fail)
  go_returns
  exact gives_end rfl (by (repeat' (first | (with_reducible assumption) | (with_reducible exact Below.refl _ _) | (with_reducible refine below_wov ?_ ?_ _) | (with_reducible refine below_drewN ?_ _) | (with_reducible refine Below.drew ?_) | (with_reducible refine Below.alloc ?_ ?_ _) | (with_reducible refine Below.setCell ?_ ?_ _) | (with_reducible exact Nat.le_refl _) | omega | (simp only [World.size_alloc, World.size_setCell, World.size_drew, Wov_size, World.heap_drewN]; omega))))
set_option maxRecDepth 10000 in
set_option maxHeartbeats 2000000 in
theorem read_num1 (o p : UInt8) (no : List UInt8) (c : UInt8) (l : List UInt8) (w : World) (IX : Hid (Pure Tryz.prog 157 #[.string (bs [o, p]), .int .u8 c.toNat] (.int .i64 1))) (DG : Hid (Pure Tryz.prog 160 #[.string (bs l)] (.bool true))) (n : Int) (AT : Hid (Pure Tryz.prog 95 #[.string (bs l)] (.tuple #[.int .i64 n, .nilIface]))) (h1 : ¬ 2305843009213693952 < n) (h2 : ¬ n < -2305843009213693952) :
    Calls Tryz.prog 113 #[.agg #[.string (bs [o, p]), .string (bs no)], .int .u8 c.toNat, .string (bs l)] w (Gives w (.tuple #[end3 n true false, .int .i64 0])) := by
  obtain ⟨BR, hBR⟩ : ∃ B, B = bs [o, p] := ⟨_, rfl⟩
  rw [← hBR] at IX ⊢
  clear hBR
  unfold end3
  go_enter Tryz.func113, Tryz.ntmps113
  go_wp2_with (fail)
  refine (IX.out _).mono ?_; rintro e w' ⟨rfl, q1, rfl⟩
  go_wp2_with (fail); refine (DG.out _).mono ?_; rintro e w' ⟨rfl, q2, rfl⟩; go_wp2_with (fail); refine (AT.out _).mono ?_; rintro e w' ⟨rfl, q3, rfl⟩
  go_wp2_with (fail)
  go_returns
  exact gives_end rfl (by (repeat' (first | (with_reducible assumption) | (with_reducible exact Below.refl _ _) | (with_reducible refine below_wov ?_ ?_ _) | (with_reducible refine below_drewN ?_ _) | (with_reducible refine Below.drew ?_) | (with_reducible refine Below.alloc ?_ ?_ _) | (with_reducible refine Below.setCell ?_ ?_ _) | (with_reducible exact Nat.le_refl _) | omega | (simp only [World.size_alloc, World.size_setCell, World.size_drew, Wov_size, World.heap_drewN]; omega))))
set_option maxRecDepth 10000 in
set_option maxHeartbeats 2000000 in
theorem read_high0 (o p : UInt8) (no : List UInt8) (c : UInt8) (l : List UInt8) (w : World) (IX : Hid (Pure Tryz.prog 157 #[.string (bs [o, p]), .int .u8 c.toNat] (.int .i64 0))) (hq : (l == no) = false) (DG : Hid (Pure Tryz.prog 160 #[.string (bs l)] (.bool true))) (n : Int) (AT : Hid (Pure Tryz.prog 95 #[.string (bs l)] (.tuple #[.int .i64 n, .nilIface]))) (h1 : 2305843009213693952 < n) :
    Calls Tryz.prog 113 #[.agg #[.string (bs [o, p]), .string (bs no)], .int .u8 c.toNat, .string (bs l)] w (Gives w (.tuple #[end3 0 false false, .int .i64 151])) := by
  obtain ⟨BR, hBR⟩ : ∃ B, B = bs [o, p] := ⟨_, rfl⟩
  rw [← hBR] at IX ⊢
  clear hBR
  unfold end3
  go_enter Tryz.func113, Tryz.ntmps113
  go_wp2_with (fail)
  refine (IX.out _).mono ?_; rintro e w' ⟨rfl, q1, rfl⟩
  go_wp2_with (fail); refine (DG.out _).mono ?_; rintro e w' ⟨rfl, q2, rfl⟩; go_wp2_with (fail); refine (AT.out _).mono ?_; rintro e w' ⟨rfl, q3, rfl⟩
  go_wp2_with (fail)
  go_returns
  exact gives_end rfl (by (repeat' (first | (with_reducible assumption) | (with_reducible exact Below.refl _ _) | (with_reducible refine below_wov ?_ ?_ _) | (with_reducible refine below_drewN ?_ _) | (with_reducible refine Below.drew ?_) | (with_reducible refine Below.alloc ?_ ?_ _) | (with_reducible refine Below.setCell ?_ ?_ _) | (with_reducible exact Nat.le_refl _) | omega | (simp only [World.size_alloc, World.size_setCell, World.size_drew, Wov_size, World.heap_drewN]; omega))))
set_option maxRecDepth 10000 in
set_option maxHeartbeats 2000000 in
theorem read_high1 (o p : UInt8) (no : List UInt8) (c : UInt8) (l : List UInt8) (w : World) (IX : Hid (Pure Tryz.prog 157 #[.string (bs [o, p]), .int .u8 c.toNat] (.int .i64 1))) (DG : Hid (Pure Tryz.prog 160 #[.string (bs l)] (.bool true))) (n : Int) (AT : Hid (Pure Tryz.prog 95 #[.string (bs l)] (.tuple #[.int .i64 n, .nilIface]))) (h1 : 2305843009213693952 < n) :
    Calls Tryz.prog 113 #[.agg #[.string (bs [o, p]), .string (bs no)], .int .u8 c.toNat, .string (bs l)] w (Gives w (.tuple #[end3 0 false false, .int .i64 151])) := by
  obtain ⟨BR, hBR⟩ : ∃ B, B = bs [o, p] := ⟨_, rfl⟩
  rw [← hBR] at IX ⊢
  clear hBR
  unfold end3
  go_enter Tryz.func113, Tryz.ntmps113
  go_wp2_with (fail)
  refine (IX.out _).mono ?_; rintro e w' ⟨rfl, q1, rfl⟩
  go_wp2_with (fail); refine (DG.out _).mono ?_; rintro e w' ⟨rfl, q2, rfl⟩; go_wp2_with (fail); refine (AT.out _).mono ?_; rintro e w' ⟨rfl, q3, rfl⟩
  go_wp2_with (fail)
  go_returns
  exact gives_end rfl (by (repeat' (first | (with_reducible assumption) | (with_reducible exact Below.refl _ _) | (with_reducible refine below_wov ?_ ?_ _) | (with_reducible refine below_drewN ?_ _) | (with_reducible refine Below.drew ?_) | (with_reducible refine Below.alloc ?_ ?_ _) | (with_reducible refine Below.setCell ?_ ?_ _) | (with_reducible exact Nat.le_refl _) | omega | (simp only [World.size_alloc, World.size_setCell, World.size_drew, Wov_size, World.heap_drewN]; omega))))
set_option maxRecDepth 10000 in
set_option maxHeartbeats 2000000 in
theorem read_low0 (o p : UInt8) (no : List UInt8) (c : UInt8) (l : List UInt8) (w : World) (IX : Hid (Pure Tryz.prog 157 #[.string (bs [o, p]), .int .u8 c.toNat] (.int .i64 0))) (hq : (l == no) = false) (DG : Hid (Pure Tryz.prog 160 #[.string (bs l)] (.bool true))) (n : Int) (AT : Hid (Pure Tryz.prog 95 #[.string (bs l)] (.tuple #[.int .i64 n, .nilIface]))) (h1 : ¬ 2305843009213693952 < n) (h2 : n < -2305843009213693952) :
    Calls Tryz.prog 113 #[.agg #[.string (bs [o, p]), .string (bs no)], .int .u8 c.toNat, .string (bs l)] w (Gives w (.tuple #[end3 0 false false, .int .i64 151])) := by
  obtain ⟨BR, hBR⟩ : ∃ B, B = bs [o, p] := ⟨_, rfl⟩
  rw [← hBR] at IX ⊢
  clear hBR
  unfold end3
  go_enter Tryz.func113, Tryz.ntmps113
  go_wp2_with (fail)
  refine (IX.out _).mono ?_; rintro e w' ⟨rfl, q1, rfl⟩
  go_wp2_with (fail); refine (DG.out _).mono ?_; rintro e w' ⟨rfl, q2, rfl⟩; go_wp2_with (fail); refine (AT.out _).mono ?_; rintro e w' ⟨rfl, q3, rfl⟩
  go_wp2_with (fail)
  go_returns
  exact gives_end rfl (by (repeat' (first | (with_reducible assumption) | (with_reducible exact Below.refl _ _) | (with_reducible refine below_wov ?_ ?_ _) | (with_reducible refine below_drewN ?_ _) | (with_reducible refine Below.drew ?_) | (with_reducible refine Below.alloc ?_ ?_ _) | (with_reducible refine Below.setCell ?_ ?_ _) | (with_reducible exact Nat.le_refl _) | omega | (simp only [World.size_alloc, World.size_setCell, World.size_drew, Wov_size, World.heap_drewN]; omega))))
set_option maxRecDepth 10000 in
set_option maxHeartbeats 2000000 in
theorem read_low1 (o p : UInt8) (no : List UInt8) (c : UInt8) (l : List UInt8) (w : World) (IX : Hid (Pure Tryz.prog 157 #[.string (bs [o, p]), .int .u8 c.toNat] (.int .i64 1))) (DG : Hid (Pure Tryz.prog 160 #[.string (bs l)] (.bool true))) (n : Int) (AT : Hid (Pure Tryz.prog 95 #[.string (bs l)] (.tuple #[.int .i64 n, .nilIface]))) (h1 : ¬ 2305843009213693952 < n) (h2 : n < -2305843009213693952) :
    Calls Tryz.prog 113 #[.agg #[.string (bs [o, p]), .string (bs no)], .int .u8 c.toNat, .string (bs l)] w (Gives w (.tuple #[end3 0 false false, .int .i64 151])) := by
  obtain ⟨BR, hBR⟩ : ∃ B, B = bs [o, p] := ⟨_, rfl⟩
  rw [← hBR] at IX ⊢
  clear hBR
  unfold end3
  go_enter Tryz.func113, Tryz.ntmps113
  go_wp2_with (fail)
  refine (IX.out _).mono ?_; rintro e w' ⟨rfl, q1, rfl⟩
  go_wp2_with (fail); refine (DG.out _).mono ?_; rintro e w' ⟨rfl, q2, rfl⟩; go_wp2_with (fail); refine (AT.out _).mono ?_; rintro e w' ⟨rfl, q3, rfl⟩
  go_wp2_with (fail)
  go_returns
  exact gives_end rfl (by (repeat' (first | (with_reducible assumption) | (with_reducible exact Below.refl _ _) | (with_reducible refine below_wov ?_ ?_ _) | (with_reducible refine below_drewN ?_ _) | (with_reducible refine Below.drew ?_) | (with_reducible refine Below.alloc ?_ ?_ _) | (with_reducible refine Below.setCell ?_ ?_ _) | (with_reducible exact Nat.le_refl _) | omega | (simp only [World.size_alloc, World.size_setCell, World.size_drew, Wov_size, World.heap_drewN]; omega))))
set_option maxRecDepth 10000 in
set_option maxHeartbeats 2000000 in
theorem read_over0 (o p : UInt8) (no : List UInt8) (c : UInt8) (l : List UInt8) (w : World) (IX : Hid (Pure Tryz.prog 157 #[.string (bs [o, p]), .int .u8 c.toNat] (.int .i64 0))) (hq : (l == no) = false) (DG : Hid (Pure Tryz.prog 160 #[.string (bs l)] (.bool true))) (AT : Hid (∀ w', Below w.heap.size w w' → Calls Tryz.prog 95 #[.string (bs l)] w' fun e w'' => ∃ n N, Gives w' (.tuple #[.int .i64 n, .iface 260 (.pointer (some ⟨N, 0, none⟩))]) e w'')) :
    Calls Tryz.prog 113 #[.agg #[.string (bs [o, p]), .string (bs no)], .int .u8 c.toNat, .string (bs l)] w (Gives w (.tuple #[end3 0 false false, .int .i64 151])) := by
  obtain ⟨BR, hBR⟩ : ∃ B, B = bs [o, p] := ⟨_, rfl⟩
  rw [← hBR] at IX ⊢
  clear hBR
  unfold end3
  go_enter Tryz.func113, Tryz.ntmps113
  go_wp2_with (fail)
  refine (IX.out _).mono ?_; rintro e w' ⟨rfl, q1, rfl⟩
  go_wp2_with (fail); refine (DG.out _).mono ?_; rintro e w' ⟨rfl, q2, rfl⟩; go_wp2_with (fail); refine (AT.out _ (by (repeat' (first | (with_reducible assumption) | (with_reducible exact Below.refl _ _) | (with_reducible refine below_wov ?_ ?_ _) | (with_reducible refine below_drewN ?_ _) | (with_reducible refine Below.drew ?_) | (with_reducible refine Below.alloc ?_ ?_ _) | (with_reducible refine Below.setCell ?_ ?_ _) | (with_reducible exact Nat.le_refl _) | omega | (simp only [World.size_alloc, World.size_setCell, World.size_drew, Wov_size, World.heap_drewN]; omega))))).mono ?_; rintro e w' ⟨n, N, rfl, q3, rfl⟩
  go_wp2_with (fail)
  go_returns
  exact gives_end rfl (by (repeat' (first | (with_reducible assumption) | (with_reducible exact Below.refl _ _) | (with_reducible refine below_wov ?_ ?_ _) | (with_reducible refine below_drewN ?_ _) | (with_reducible refine Below.drew ?_) | (with_reducible refine Below.alloc ?_ ?_ _) | (with_reducible refine Below.setCell ?_ ?_ _) | (with_reducible exact Nat.le_refl _) | omega | (simp only [World.size_alloc, World.size_setCell, World.size_drew, Wov_size, World.heap_drewN]; omega))))
set_option maxRecDepth 10000 in
set_option maxHeartbeats 2000000 in
theorem read_over1 (o p : UInt8) (no : List UInt8) (c : UInt8) (l : List UInt8) (w : World) (IX : Hid (Pure Tryz.prog 157 #[.string (bs [o, p]), .int .u8 c.toNat] (.int .i64 1))) (DG : Hid (Pure Tryz.prog 160 #[.string (bs l)] (.bool true))) (AT : Hid (∀ w', Below w.heap.size w w' → Calls Tryz.prog 95 #[.string (bs l)] w' fun e w'' => ∃ n N, Gives w' (.tuple #[.int .i64 n, .iface 260 (.pointer (some ⟨N, 0, none⟩))]) e w'')) :
    Calls Tryz.prog 113 #[.agg #[.string (bs [o, p]), .string (bs no)], .int .u8 c.toNat, .string (bs l)] w (Gives w (.tuple #[end3 0 false false, .int .i64 151])) := by
  obtain ⟨BR, hBR⟩ : ∃ B, B = bs [o, p] := ⟨_, rfl⟩
  rw [← hBR] at IX ⊢
  clear hBR
  unfold end3
  go_enter Tryz.func113, Tryz.ntmps113
  go_wp2_with (fail)
  refine (IX.out _).mono ?_; rintro e w' ⟨rfl, q1, rfl⟩
  go_wp2_with (fail); refine (DG.out _).mono ?_; rintro e w' ⟨rfl, q2, rfl⟩; go_wp2_with (fail); refine (AT.out _ (by (repeat' (first | (with_reducible assumption) | (with_reducible exact Below.refl _ _) | (with_reducible refine below_wov ?_ ?_ _) | (with_reducible refine below_drewN ?_ _) | (with_reducible refine Below.drew ?_) | (with_reducible refine Below.alloc ?_ ?_ _) | (with_reducible refine Below.setCell ?_ ?_ _) | (with_reducible exact Nat.le_refl _) | omega | (simp only [World.size_alloc, World.size_setCell, World.size_drew, Wov_size, World.heap_drewN]; omega))))).mono ?_; rintro e w' ⟨n, N, rfl, q3, rfl⟩
  go_wp2_with (fail)
  go_returns
  exact gives_end rfl (by (repeat' (first | (with_reducible assumption) | (with_reducible exact Below.refl _ _) | (with_reducible refine below_wov ?_ ?_ _) | (with_reducible refine below_drewN ?_ _) | (with_reducible refine Below.drew ?_) | (with_reducible refine Below.alloc ?_ ?_ _) | (with_reducible refine Below.setCell ?_ ?_ _) | (with_reducible exact Nat.le_refl _) | omega | (simp only [World.size_alloc, World.size_setCell, World.size_drew, Wov_size, World.heap_drewN]; omega))))
#print axioms read_over1
end Go.Proofs.YtpmpapenjcemjaaGreatDoor
