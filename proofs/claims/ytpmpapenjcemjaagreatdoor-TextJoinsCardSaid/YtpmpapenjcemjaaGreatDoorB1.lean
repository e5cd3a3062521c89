/- Zones' texts: how long they are. No condition but that the zones may be. -/
import Derived.Test.YtpmpapenjcemjaaGreatDoorS5
import Derived.Lib.ItoaLen
namespace Go.Proofs.YtpmpapenjcemjaaGreatDoor
set_option linter.unusedSimpArgs false
set_option linter.unusedVariables false
open Go Go.RowKit

theorem oneT_len2 {z : Nat → Int} (h : okZ z = true) : (oneT z).length ≤ 135 := by
  have l1 : ∀ b, mayB b = true → (lowT b).length ≤ 22 ∧ (highT b).length ≤ 22 := by
    intro b hb
    unfold lowT highT
    by_cases e : b = noneB
    · rw [if_pos e, if_pos e]; decide
    · have b2 : -288230376151711744 ≤ b / 2 ∧ b / 2 ≤ 288230376151711744 := (mayB_bd hb).resolve_left e
      rw [if_neg e, if_neg e]
      have i1 := Lib.itoa_length_le (-(b / 2)) (by omega) (by omega)
      have i2 := Lib.itoa_length_le (b / 2) (by omega) (by omega)
      simp only [List.length_cons, List.length_append, List.length_nil]
      omega
  have a0 := l1 _ (okZ_mayB h (t := 0) (by omega))
  have a1 := l1 _ (okZ_mayB h (t := 1) (by omega))
  have a2 := l1 _ (okZ_mayB h (t := 2) (by omega))
  have a3 := l1 _ (okZ_mayB h (t := 3) (by omega))
  have a4 := l1 _ (okZ_mayB h (t := 4) (by omega))
  have a5 := l1 _ (okZ_mayB h (t := 5) (by omega))
  unfold oneT ivT
  simp only [List.length_append, List.length_cons]
  omega
theorem print_len (L : List (Nat → Int)) : (printT L).1.length ≤ 600000 := by
  unfold printT
  split
  · simp
  · rename_i h4
    split
    · rename_i hk
      have := join_len [32] 135 (L.map oneT) (fun x hx => by
        obtain ⟨z, hz, rfl⟩ := List.mem_map.1 hx
        exact oneT_len2 (List.all_eq_true.1 hk z hz))
      rw [List.length_map] at this
      simp only [List.length_cons, List.length_nil] at this ⊢
      omega
    · simp
#print axioms print_len
end Go.Proofs.YtpmpapenjcemjaaGreatDoor
