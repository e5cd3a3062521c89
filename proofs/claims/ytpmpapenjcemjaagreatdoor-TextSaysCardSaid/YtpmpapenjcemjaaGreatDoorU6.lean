/- Zones' texts: contract of side.read, its ways under one statement. No condition but on size, and that strconv.ErrRange lies. -/
import Derived.Test.YtpmpapenjcemjaaGreatDoorU5
namespace Go.Proofs.YtpmpapenjcemjaaGreatDoor
set_option linter.unusedSimpArgs false
set_option linter.unusedVariables false
open Go Go.RowKit Go.Shelf

theorem ix_two {o p c : UInt8} (hop : o ≠ p) : Lib.indexByte [o, p] c = if c = o then 0 else if c = p then 1 else -1 := by
  unfold Lib.indexByte
  by_cases h1 : c = o
  · subst h1; simp
  · have e1 : ¬ (o == c) = true := by simpa using fun e => h1 (Eq.symm e)
    rw [if_neg e1, if_neg h1]
    unfold Lib.indexByte
    by_cases h2 : c = p
    · subst h2; simp
    · have e2 : ¬ (p == c) = true := by simpa using fun e => h2 (Eq.symm e)
      rw [if_neg e2, if_neg h2]
      rfl
theorem read_any (o p : UInt8) (hop : o ≠ p) (no : List UInt8) (c : UInt8) (l : List UInt8) (hl : l.length ≤ 140737488355328) (w : World) (hv : ErrR w) :
    Calls Tryz.prog 113 #[.agg #[.string (bs [o, p]), .string (bs no)], .int .u8 c.toNat, .string (bs l)] w (Gives w (endRV (endR o p no c l))) := by
  have IX := indexByte_any (bs [o, p]) c
  rw [bs_list, ix_two hop] at IX
  have DG := digits_any l hl
  have AO := fun h => atoi_ok l h hl
  have AR : canonT l = true → ¬ (-9223372036854775808 ≤ valT l ∧ valT l ≤ 9223372036854775807) → ∀ w', Below w.heap.size w w' → _ := fun h h' w' hb => atoi_range l h hl h' w' (hv.below hb)
  unfold endRV xEndV endR
  by_cases h1 : c = o
  · rw [if_pos h1] at IX
    by_cases h2 : l = no
    · rw [if_pos ⟨h1, h2⟩]
      exact read_none o p no c l w IX (by rw [beq_iff_eq]; exact h2)
    · have hq : (l == no) = false := by rw [beq_eq_false_iff_ne]; exact h2
      have hcp : decide (c = p) = false := decide_eq_false (fun e => hop (h1.symm.trans e))
      rw [if_neg (fun h => h2 h.2)]
      cases hc : canonT l
      · rw [hc] at DG
        rw [if_neg (fun h => by cases h.2)]
        exact read_dig0 o p no c l w IX hq DG
      · rw [hc] at DG
        rw [if_pos ⟨.inl h1, rfl⟩, hcp]
        by_cases hr : -9223372036854775808 ≤ valT l ∧ valT l ≤ 9223372036854775807
        · by_cases h3 : 2305843009213693952 < valT l
          · rw [if_neg (fun h => by have := (numE_zero h).2; omega)]
            exact read_high0 o p no c l w IX hq DG _ (AO hc hr.1 hr.2) h3
          · by_cases h4 : valT l < -2305843009213693952
            · rw [if_neg (fun h => by have := (numE_zero h).1; omega)]
              exact read_low0 o p no c l w IX hq DG _ (AO hc hr.1 hr.2) h3 h4
            · rw [if_pos (by unfold numE; rw [if_pos (by omega)])]
              exact read_num0 o p no c l w IX hq DG _ (AO hc hr.1 hr.2) h3 h4
        · rw [if_neg (fun h => by have := numE_zero h; omega)]
          exact read_over0 o p no c l w IX hq DG (AR hc hr)
  · rw [if_neg h1] at IX
    rw [if_neg (fun h => h1 h.1)]
    by_cases h2 : c = p
    · rw [if_pos h2] at IX
      cases hc : canonT l
      · rw [hc] at DG
        rw [if_neg (fun h => by cases h.2)]
        exact read_dig1 o p no c l w IX DG
      · rw [hc] at DG
        rw [if_pos ⟨.inr h2, rfl⟩, decide_eq_true h2]
        by_cases hr : -9223372036854775808 ≤ valT l ∧ valT l ≤ 9223372036854775807
        · by_cases h3 : 2305843009213693952 < valT l
          · rw [if_neg (fun h => by have := (numE_zero h).2; omega)]
            exact read_high1 o p no c l w IX DG _ (AO hc hr.1 hr.2) h3
          · by_cases h4 : valT l < -2305843009213693952
            · rw [if_neg (fun h => by have := (numE_zero h).1; omega)]
              exact read_low1 o p no c l w IX DG _ (AO hc hr.1 hr.2) h3 h4
            · rw [if_pos (by unfold numE; rw [if_pos (by omega)])]
              exact read_num1 o p no c l w IX DG _ (AO hc hr.1 hr.2) h3 h4
        · rw [if_neg (fun h => by have := numE_zero h; omega)]
          exact read_over1 o p no c l w IX DG (AR hc hr)
    · rw [if_neg h2] at IX
      rw [if_neg (fun h => by rcases h.1 with h | h; exact h1 h; exact h2 h)]
      exact read_brk o p no c l w IX
#print axioms read_any
end Go.Proofs.YtpmpapenjcemjaaGreatDoor
