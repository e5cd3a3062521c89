/- Zones' texts: contracts of text.ended, sides, says, written. No condition but that bounds fit 64 bits. -/
import Derived.Test.YtpmpapenjcemjaaGreatDoorS1
import Derived.Test.YtpmpapenjcemjaaGreatDoorMT
import Derived.Test.YtpmpapenjcemjaaGreatDoorMA
namespace Go.Proofs.YtpmpapenjcemjaaGreatDoor
set_option linter.unusedSimpArgs false
set_option linter.unusedVariables false
open Go Go.RowKit Go.Shelf
attribute [local go_sem] Nat.add_assoc Nat.add_lt_add_iff_left lit_lt_add

/-- An end. -/
def end3 (n : Int) (i no : Bool) : Value := .agg #[.int .i64 n, .bool i, .bool no]
def sidesV : Value := .agg #[.string (bs [40, 91]), .string (bs [45, 111, 111]), .string (bs [41, 93]), .string (bs [111, 111])]

set_option maxRecDepth 10000 in
set_option maxHeartbeats 1000000 in
theorem ended_any (b : Int) (h1 : -9223372036854775808 ≤ b) (h2 : b ≤ 9223372036854775807) : Pure Tryz.prog 77 #[.int .i64 b] (if b = noneB then end3 0 false true else end3 (b / 2) (decide (b % 2 = 1)) false) := by
  intro w
  unfold end3
  by_cases h : b = noneB
  · rw [if_pos h]
    rw [noneB_val] at h
    have hd : decide (b = 9223372036854775807) = true := decide_eq_true h
    subst h
    go_enter Tryz.func77, Tryz.ntmps77
    go_wp2
    go_returns
    exact gives_end rfl (by (repeat' (first | (with_reducible assumption) | (with_reducible exact Below.refl _ _) | (with_reducible refine below_wov ?_ ?_ _) | (with_reducible refine below_drewN ?_ _) | (with_reducible refine Below.drew ?_) | (with_reducible refine Below.alloc ?_ ?_ _) | (with_reducible refine Below.setCell ?_ ?_ _) | (with_reducible exact Nat.le_refl _) | omega | (simp only [World.size_alloc, World.size_setCell, World.size_drew, Wov_size, World.heap_drewN]; omega))))
  · rw [if_neg h]
    have hb : (b == 9223372036854775807) = false := by rw [beq_eq_false_iff_ne]; exact h
    clear h
    go_enter Tryz.func77, Tryz.ntmps77
    go_wp2
    go_returns
    exact gives_end (by simp [i64_and1]; rw [Bool.eq_iff_iff]; simp) (by (repeat' (first | (with_reducible assumption) | (with_reducible exact Below.refl _ _) | (with_reducible refine below_wov ?_ ?_ _) | (with_reducible refine below_drewN ?_ _) | (with_reducible refine Below.drew ?_) | (with_reducible refine Below.alloc ?_ ?_ _) | (with_reducible refine Below.setCell ?_ ?_ _) | (with_reducible exact Nat.le_refl _) | omega | (simp only [World.size_alloc, World.size_setCell, World.size_drew, Wov_size, World.heap_drewN]; omega))))

set_option maxRecDepth 10000 in
set_option maxHeartbeats 1000000 in
theorem sides_any31 : Pure Tryz.prog 76 #[] sidesV := by
  intro w
  unfold sidesV
  go_enter Tryz.func76, Tryz.ntmps76
  go_wp2
  go_returns
  exact gives_end rfl (by (repeat' (first | (with_reducible assumption) | (with_reducible exact Below.refl _ _) | (with_reducible refine below_wov ?_ ?_ _) | (with_reducible refine below_drewN ?_ _) | (with_reducible refine Below.drew ?_) | (with_reducible refine Below.alloc ?_ ?_ _) | (with_reducible refine Below.setCell ?_ ?_ _) | (with_reducible exact Nat.le_refl _) | omega | (simp only [World.size_alloc, World.size_setCell, World.size_drew, Wov_size, World.heap_drewN]; omega))))

/-- Structures of three are compared field by field. -/
@[go_sem] theorem end_eql (a0 : Int) (a1 a2 : Bool) (b0 : Int) (b1 b2 : Bool) (w : World) : (Op.equalIn 10000 125 (.agg #[.int .i64 a0, .bool a1, .bool a2]) (.agg #[.int .i64 b0, .bool b1, .bool b2])).run Tryz.prog w = .ok (a0 == b0 && (a1 == b1 && a2 == b2)) w := by
  have hu3 := Tryz.underlying3
  have ha3 := Tryz.isAgg3
  have hz3 := Tryz.sizeOf3
  have hu4 := Tryz.underlying4
  have ha4 := Tryz.isAgg4
  have hz4 := Tryz.sizeOf4
  rw [show (10000 : Nat) = 9999 + 1 from rfl, Op.equalIn]
  simp only [Sem.run_bind, run_underlying Tryz.underlying125, Result.andThen_ok]
  go_simp
  by_cases h0 : a0 = b0
  · by_cases h1 : a1 = b1
    · by_cases h2 : a2 = b2 <;> simp [h0, h1, h2]
    · simp [h0, h1]
  · simp [h0]

/-- How an end is written: its bracket, and its number. -/
def saysT (br no : List UInt8) (n : Int) (i isno : Bool) : List UInt8 × List UInt8 :=
  if isno then (br.take 1, no) else (if i then br.drop 1 else br.take 1, Lib.itoa n)

set_option maxRecDepth 10000 in
set_option maxHeartbeats 1000000 in
theorem says_none (x y : UInt8) (no : List UInt8) : Pure Tryz.prog 78 #[.agg #[.string (bs [x, y]), .string (bs no)], end3 0 false true] (.tuple #[.string (bs [x]), .string (bs no)]) := by
  intro w
  unfold end3
  have e1 : (bs [x, y]).extract 0 1 = bs [x] := by rw [Lib.extract_eq, bs_list]; rfl
  have e2 : (bs [x, y]).size = 2 := rfl
  obtain ⟨X, hX⟩ : ∃ X, X = bs [x, y] := ⟨_, rfl⟩
  rw [← hX] at e1 e2 ⊢
  clear hX
  go_enter Tryz.func78, Tryz.ntmps78
  go_wp2
  go_region
  go_wp2
  go_ret2
  exact gives_end rfl (by (repeat' (first | (with_reducible assumption) | (with_reducible exact Below.refl _ _) | (with_reducible refine below_wov ?_ ?_ _) | (with_reducible refine below_drewN ?_ _) | (with_reducible refine Below.drew ?_) | (with_reducible refine Below.alloc ?_ ?_ _) | (with_reducible refine Below.setCell ?_ ?_ _) | (with_reducible exact Nat.le_refl _) | omega | (simp only [World.size_alloc, World.size_setCell, World.size_drew, Wov_size, World.heap_drewN]; omega))))
set_option maxRecDepth 10000 in
set_option maxHeartbeats 1000000 in
theorem says_num (x y : UInt8) (no : List UInt8) (n : Int) (i : Bool) (h1 : -9223372036854775808 ≤ n) (h2 : n ≤ 9223372036854775807) (w : World) (ht : Tab w) : Calls Tryz.prog 78 #[.agg #[.string (bs [x, y]), .string (bs no)], end3 n i false] w (Gives w (.tuple #[.string (bs [if i then y else x]), .string (bs (Lib.itoa n))])) := by
  have IT : Hid (∀ w', Below w.heap.size w w' → Calls Tryz.prog 29 #[.int .i64 n] w' (Gives w' (.string (bs (Lib.itoa n))))) := fun w' hb => itoa_any n h1 h2 w' (ht.below hb)
  clear ht h1 h2
  unfold end3
  have e1 : (bs [x, y]).extract 0 1 = bs [x] := by rw [Lib.extract_eq, bs_list]; rfl
  have e2 : (bs [x, y]).size = 2 := rfl
  have e3 : (bs [x, y]).extract 1 2 = bs [y] := by rw [Lib.extract_eq, bs_list]; rfl
  obtain ⟨X, hX⟩ : ∃ X, X = bs [x, y] := ⟨_, rfl⟩
  rw [← hX] at e1 e2 e3 ⊢
  clear hX
  cases i
  · go_enter Tryz.func78, Tryz.ntmps78
    go_wp2_with (fail)
    refine (IT.out _ (by (repeat' (first | (with_reducible assumption) | (with_reducible exact Below.refl _ _) | (with_reducible refine below_wov ?_ ?_ _) | (with_reducible refine below_drewN ?_ _) | (with_reducible refine Below.drew ?_) | (with_reducible refine Below.alloc ?_ ?_ _) | (with_reducible refine Below.setCell ?_ ?_ _) | (with_reducible exact Nat.le_refl _) | omega | (simp only [World.size_alloc, World.size_setCell, World.size_drew, Wov_size, World.heap_drewN]; omega))))).mono ?_; rintro e w' ⟨rfl, q1, rfl⟩
    go_wp2
    go_ret2
    exact gives_end rfl (by (repeat' (first | (with_reducible assumption) | (with_reducible exact Below.refl _ _) | (with_reducible refine below_wov ?_ ?_ _) | (with_reducible refine below_drewN ?_ _) | (with_reducible refine Below.drew ?_) | (with_reducible refine Below.alloc ?_ ?_ _) | (with_reducible refine Below.setCell ?_ ?_ _) | (with_reducible exact Nat.le_refl _) | omega | (simp only [World.size_alloc, World.size_setCell, World.size_drew, Wov_size, World.heap_drewN]; omega))))
  · go_enter Tryz.func78, Tryz.ntmps78
    go_wp2_with (fail)
    refine (IT.out _ (by (repeat' (first | (with_reducible assumption) | (with_reducible exact Below.refl _ _) | (with_reducible refine below_wov ?_ ?_ _) | (with_reducible refine below_drewN ?_ _) | (with_reducible refine Below.drew ?_) | (with_reducible refine Below.alloc ?_ ?_ _) | (with_reducible refine Below.setCell ?_ ?_ _) | (with_reducible exact Nat.le_refl _) | omega | (simp only [World.size_alloc, World.size_setCell, World.size_drew, Wov_size, World.heap_drewN]; omega))))).mono ?_; rintro e w' ⟨rfl, q1, rfl⟩
    go_wp2
    go_ret2
    exact gives_end rfl (by (repeat' (first | (with_reducible assumption) | (with_reducible exact Below.refl _ _) | (with_reducible refine below_wov ?_ ?_ _) | (with_reducible refine below_drewN ?_ _) | (with_reducible refine Below.drew ?_) | (with_reducible refine Below.alloc ?_ ?_ _) | (with_reducible refine Below.setCell ?_ ?_ _) | (with_reducible exact Nat.le_refl _) | omega | (simp only [World.size_alloc, World.size_setCell, World.size_drew, Wov_size, World.heap_drewN]; omega))))
end Go.Proofs.YtpmpapenjcemjaaGreatDoor
