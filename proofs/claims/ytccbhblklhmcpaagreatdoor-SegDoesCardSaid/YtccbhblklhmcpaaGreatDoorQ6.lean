/- lex.kind: what a rune is. No condition. -/
import Derived.Test.YtccbhblklhmcpaaGreatDoorQR
import Derived.Test.YtccbhblklhmcpaaGreatDoorQ5
namespace Go.Proofs.YtccbhblklhmcpaaGreatDoor
set_option linter.unusedSimpArgs false
set_option linter.unusedVariables false
open Go Go.RowKit
attribute [local go_sem] Nat.add_assoc Nat.add_lt_add_iff_left lit_lt_add

def kindI (r : Int) : Int := if 97 ≤ r ∧ r ≤ 122 then 2 else if 48 ≤ r ∧ r ≤ 57 then 3 else if r = 32 ∨ r = 9 ∨ r = 10 ∨ r = 13 then 1 else 0
theorem kind_any (r : Int) : Pure Tryz.prog 68 #[.int .i32 r] (.int .i64 (kindI r)) := by
  intro w
  go_enter Tryz.func68, Tryz.ntmps68
  go_wp2
  all_goals
    go_ret
    refine gives_int ?_ (by (repeat' (first | (with_reducible assumption) | (with_reducible exact Below.refl _ _) | (with_reducible refine below_wov ?_ ?_ _) | (with_reducible refine below_drewN ?_ _) | (with_reducible refine Below.drew ?_) | (with_reducible refine Below.alloc ?_ ?_ _) | (with_reducible refine Below.setCell ?_ ?_ _) | (with_reducible exact Nat.le_refl _) | omega | (simp only [World.size_alloc, World.size_setCell, World.size_drew, Wov_size, World.heap_drewN]; omega))))
    unfold kindI
    (repeat' split) <;> first | rfl | (exfalso; omega) | (exfalso; simp only [beq_iff_eq, beq_eq_false_iff_ne, ne_eq] at *; omega)
theorem kind_byte (c : UInt8) : (kindI c.toNat ≥ 2 ↔ isW c = true) ∧ (kindI c.toNat = 2 ↔ isL c = true) ∧ (isW c = false → (kindI c.toNat = 1 ↔ isB c = true)) := by
  have h := c.toNat_lt
  have e : ∀ k : Nat, k < 256 → ((c == UInt8.ofNat k) = true ↔ c.toNat = k) := fun k hk => by
    rw [beq_iff_eq, ← UInt8.toNat_inj, UInt8.toNat_ofNat']
    omega
  have b : isB c = true ↔ (c.toNat = 32 ∨ c.toNat = 9 ∨ c.toNat = 10 ∨ c.toNat = 13) := by
    unfold isB
    simp only [Bool.or_eq_true]
    rw [show (32 : UInt8) = UInt8.ofNat 32 from rfl, show (9 : UInt8) = UInt8.ofNat 9 from rfl, show (10 : UInt8) = UInt8.ofNat 10 from rfl, show (13 : UInt8) = UInt8.ofNat 13 from rfl, e 32 (by omega), e 9 (by omega), e 10 (by omega), e 13 (by omega)]
    omega
  have l : isL c = true ↔ (97 ≤ c.toNat ∧ c.toNat ≤ 122) := by unfold isL; simp
  have d : isD c = true ↔ (48 ≤ c.toNat ∧ c.toNat ≤ 57) := by unfold isD; simp
  have ww : isW c = true ↔ (isL c = true ∨ isD c = true) := by unfold isW; simp
  rw [b]
  refine ⟨?_, ?_, fun hw => ?_⟩
  · rw [ww, l, d]
    unfold kindI
    (repeat' split) <;> omega
  · rw [l]
    unfold kindI
    (repeat' split) <;> omega
  · have : ¬ (isL c = true ∨ isD c = true) := by rw [← ww, hw]; simp
    rw [l, d] at this
    unfold kindI
    (repeat' split) <;> omega
#print axioms kind_byte
end Go.Proofs.YtccbhblklhmcpaaGreatDoor
