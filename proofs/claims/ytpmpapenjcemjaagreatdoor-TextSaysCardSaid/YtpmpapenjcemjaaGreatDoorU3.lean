/- Zones' texts: contracts of text.digits, side.read. No condition but on size, and that strconv.ErrRange lies. -/
import Derived.Test.YtpmpapenjcemjaaGreatDoorU1
import Derived.Test.YtpmpapenjcemjaaGreatDoorS2
namespace Go.Proofs.YtpmpapenjcemjaaGreatDoor
set_option linter.unusedSimpArgs false
set_option linter.unusedVariables false
open Go Go.RowKit Go.Shelf
attribute [local go_sem] Nat.add_assoc Nat.add_lt_add_iff_left lit_lt_add

def bareT (l : List UInt8) : List UInt8 := if l.head? = some 45 then l.tail else l
theorem digits_plain (l : List UInt8) : canonT l = (!(bareT l).isEmpty && (bareT l).all isD && (decide (l = [48]) || decide ((bareT l).head? ≠ some 48))) := by
  unfold canonT bareT
  by_cases h : l.head? = some 45
  · rw [if_pos h, if_pos h]
    have h1 : l ≠ [48] := by rintro rfl; simp at h
    unfold canonD
    rw [decide_eq_false h1]
    cases ht : l.tail with
    | nil => rfl
    | cons x r =>
      by_cases hx : x = 48
      · subst hx
        cases hr : decide (r = []) <;> simp_all
      · have : ¬ (x :: r = [48]) := by intro e; injection e with e1 e2; exact hx e1
        simp [hx]
  · rw [if_neg h, if_neg h]
    unfold canonD
    cases l with
    | nil => rfl
    | cons x r => simp
set_option maxRecDepth 10000 in
set_option maxHeartbeats 2000000 in
theorem digits_any (l : List UInt8) (hl : l.length ≤ 140737488355328) : Pure Tryz.prog 160 #[.string (bs l)] (.bool (canonT l)) := by
  intro w
  have TP : Hid (Pure Tryz.prog 193 #[.string (bs l), .string ⟨#[45]⟩] (.string (bs (bareT l)))) := trimPrefix_any l
  have hb : (bareT l).length ≤ 140737488355328 := by
    unfold bareT; split
    · rw [List.length_tail]; omega
    · exact hl
  have TR : Hid (Pure Tryz.prog 194 #[.string (bs (bareT l)), .string ⟨#[48, 49, 50, 51, 52, 53, 54, 55, 56, 57]⟩] (.string (bs (Lib.trimS (bareT l) tenB)))) := trim_any _ hb
  obtain ⟨C, hC⟩ : ∃ C, C = canonT l := ⟨_, rfl⟩
  rw [← hC]
  have HC := Lib.hid (hC.trans (digits_plain l))
  clear hC hl hb
  obtain ⟨T, hT⟩ : ∃ T, T = Lib.trimS (bareT l) tenB := ⟨_, rfl⟩
  rw [← hT] at TR
  have HT : Hid (T = [] ↔ (bareT l).all isD = true) := by rw [hT]; exact trimS_nil _
  obtain ⟨B, hB⟩ : ∃ B, B = bareT l := ⟨_, rfl⟩
  rw [← hB] at TP TR HT
  have HC2 : Hid (C = (!B.isEmpty && B.all isD && (decide (l = [48]) || decide (B.head? ≠ some 48)))) := by rw [hB]; exact HC.out
  clear HC hT hB
  cases B with
  | nil =>
    obtain rfl : C = false := HC2.out
    go_enter Tryz.func160, Tryz.ntmps160
    go_wp2_with (fail)
    refine (TP.out _).mono ?_; rintro e w' ⟨rfl, q1, rfl⟩
    go_wp2_with (fail)
    go_ret
    exact gives_end rfl (by (repeat' (first | (with_reducible assumption) | (with_reducible exact Below.refl _ _) | (with_reducible refine below_wov ?_ ?_ _) | (with_reducible refine below_drewN ?_ _) | (with_reducible refine Below.drew ?_) | (with_reducible refine Below.alloc ?_ ?_ _) | (with_reducible refine Below.setCell ?_ ?_ _) | (with_reducible exact Nat.le_refl _) | omega | (simp only [World.size_alloc, World.size_setCell, World.size_drew, Wov_size, World.heap_drewN]; omega))))
  | cons x r =>
    cases T with
    | cons y z =>
      obtain rfl : C = false := by
        rw [HC2.out]
        have : (x :: r).all isD = false := by
          rw [Bool.eq_false_iff]; intro h
          have := HT.out.2 h
          cases this
        rw [this]; simp
      go_enter Tryz.func160, Tryz.ntmps160
      go_wp2_with (fail)
      refine (TP.out _).mono ?_; rintro e w' ⟨rfl, q1, rfl⟩
      go_wp2_with (fail)
      refine (TR.out _).mono ?_; rintro e w' ⟨rfl, q2, rfl⟩
      go_wp2_with (fail)
      go_ret
      exact gives_end rfl (by (repeat' (first | (with_reducible assumption) | (with_reducible exact Below.refl _ _) | (with_reducible refine below_wov ?_ ?_ _) | (with_reducible refine below_drewN ?_ _) | (with_reducible refine Below.drew ?_) | (with_reducible refine Below.alloc ?_ ?_ _) | (with_reducible refine Below.setCell ?_ ?_ _) | (with_reducible exact Nat.le_refl _) | omega | (simp only [World.size_alloc, World.size_setCell, World.size_drew, Wov_size, World.heap_drewN]; omega))))
    | nil =>
      have hall : (x :: r).all isD = true := HT.out.1 rfl
      have HC3 : Hid (C = (decide (l = [48]) || decide (x ≠ 48))) := by
        show C = _
        rw [HC2.out, hall]
        simp
      clear HC2 HT hall
      by_cases h48 : l = [48]
      · have hC : C = true := by rw [HC3.out, decide_eq_true h48]; rfl
        have hq : (l == [48]) = true := by rw [beq_iff_eq]; exact h48
        clear HC3 h48
        subst hC
        go_enter Tryz.func160, Tryz.ntmps160
        go_wp2_with (fail)
        refine (TP.out _).mono ?_; rintro e w' ⟨rfl, q1, rfl⟩
        go_wp2_with (fail)
        refine (TR.out _).mono ?_; rintro e w' ⟨rfl, q2, rfl⟩
        go_wp2_with (fail)
        all_goals
          go_ret
          exact gives_end rfl (by (repeat' (first | (with_reducible assumption) | (with_reducible exact Below.refl _ _) | (with_reducible refine below_wov ?_ ?_ _) | (with_reducible refine below_drewN ?_ _) | (with_reducible refine Below.drew ?_) | (with_reducible refine Below.alloc ?_ ?_ _) | (with_reducible refine Below.setCell ?_ ?_ _) | (with_reducible exact Nat.le_refl _) | omega | (simp only [World.size_alloc, World.size_setCell, World.size_drew, Wov_size, World.heap_drewN]; omega))))
      · have hC : C = decide (x ≠ 48) := by rw [HC3.out, decide_eq_false h48]; rfl
        have hq : (l == [48]) = false := by rw [beq_eq_false_iff_ne]; exact h48
        have e0 : (bs (x :: r))[0]'(by rw [bs_size]; simp) = x := rfl
        have es : (bs (x :: r)).size = (1 + r.length) := by rw [bs_size, List.length_cons, Nat.add_comm]
        clear HC3 h48
        subst hC
        go_enter Tryz.func160, Tryz.ntmps160
        go_wp2_with (fail)
        refine (TP.out _).mono ?_; rintro e w' ⟨rfl, q1, rfl⟩
        go_wp2_with (fail)
        refine (TR.out _).mono ?_; rintro e w' ⟨rfl, q2, rfl⟩
        go_wp2_with (fail)
        go_ret
        refine gives_end ?_ (by (repeat' (first | (with_reducible assumption) | (with_reducible exact Below.refl _ _) | (with_reducible refine below_wov ?_ ?_ _) | (with_reducible refine below_drewN ?_ _) | (with_reducible refine Below.drew ?_) | (with_reducible refine Below.alloc ?_ ?_ _) | (with_reducible refine Below.setCell ?_ ?_ _) | (with_reducible exact Nat.le_refl _) | omega | (simp only [World.size_alloc, World.size_setCell, World.size_drew, Wov_size, World.heap_drewN]; omega))))
        show Value.bool _ = Value.bool _
        congr 1
        rw [Bool.eq_iff_iff]
        simp [← UInt8.toNat_inj]
        try omega
#print axioms digits_any
end Go.Proofs.YtpmpapenjcemjaaGreatDoor
