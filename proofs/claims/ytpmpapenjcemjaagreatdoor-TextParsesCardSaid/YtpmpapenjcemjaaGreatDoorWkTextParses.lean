/- The law TextParses (walk): a text's zones, or the error and its place, are the document's. No condition but that strconv.ErrRange lies as it is laid. -/
import Derived.Test.YtpmpapenjcemjaaGreatDoorMW
import Derived.Test.YtpmpapenjcemjaaGreatDoorS10
import Derived.Test.YtpmpapenjcemjaaGreatDoorFrame2
namespace Go.Proofs.YtpmpapenjcemjaaGreatDoor.textParses
open Go.ChangeShapes Go.WideShapes Go.ChangeAt Go.RowKit
set_option linter.unusedVariables false
set_option linter.unusedSimpArgs false
attribute [local go_sem] Nat.add_assoc Nat.add_lt_add_iff_left lit_lt_add

theorem parse_len (l : List UInt8) : (parseT l).1.length ≤ 4096 := by
  have key : ∀ (P : List (List UInt8)) (n : Int) (acc : List (Nat → Int)), (readT P n acc).1.length ≤ acc.length + P.length := by
    intro P
    induction P with
    | nil => intro n acc; simp [readT]
    | cons x r ih =>
      intro n acc
      unfold readT
      split
      · have := ih (n + (x.length + 1)) (acc ++ [zoneZ x])
        simp at this ⊢
        omega
      · simp
  unfold parseT
  split
  · simp
  · split
    · simp
    · split
      · simp
      · have := key (splitB 32 l) 0 []
        simp at this
        omega
set_option maxRecDepth 100000 in
set_option maxHeartbeats 4000000 in
theorem walk (s : List UInt8) (w : World) (hs : s.length ≤ maxLen) (ht : Tab w) (hv : ErrR w) :
    Calls Tryz.prog 4 #[.string (bs s)] w (Gives w (.bool true)) := by
  unfold maxLen at hs
  have hsz := bs_size s
  by_cases h1 : (200000 < s.length ∧ s.length ≤ 1048576) ∨ 1100000 < s.length
  · obtain ⟨S, hS⟩ : ∃ S, S = bs s := ⟨_, rfl⟩
    rw [← hS] at hsz ⊢
    rw [← hsz] at h1
    clear hS hsz ht hv hs
    by_cases h2 : 200000 < S.size ∧ S.size ≤ 1048576
    · have d1 : decide ((200000 : Int) < (S.size : Int)) = true := decide_eq_true (by omega)
      have d2 : decide ((S.size : Int) ≤ 1048576) = true := decide_eq_true (by omega)
      clear h1 h2
      go_enter Tryz.func4, Tryz.ntmps4
      go_wp2
      all_goals
        go_ret
        exact gives_bool rfl (by (repeat' (first | (with_reducible assumption) | (with_reducible exact Below.refl _ _) | (with_reducible refine below_wov ?_ ?_ _) | (with_reducible refine below_drewN ?_ _) | (with_reducible refine Below.drew ?_) | (with_reducible refine Below.alloc ?_ ?_ _) | (with_reducible refine Below.setCell ?_ ?_ _) | (with_reducible exact Nat.le_refl _) | omega | (simp only [World.size_alloc, World.size_setCell, World.size_drew, Wov_size, World.heap_drewN]; omega))))
    · have d3 : decide ((1100000 : Int) < (S.size : Int)) = true := decide_eq_true (by omega)
      have d1 : decide ((200000 : Int) < (S.size : Int)) = true := decide_eq_true (by omega)
      have d2 : decide ((S.size : Int) ≤ 1048576) = false := decide_eq_false (by omega)
      clear h1 h2
      go_enter Tryz.func4, Tryz.ntmps4
      go_wp2
      all_goals
        go_ret
        exact gives_bool rfl (by (repeat' (first | (with_reducible assumption) | (with_reducible exact Below.refl _ _) | (with_reducible refine below_wov ?_ ?_ _) | (with_reducible refine below_drewN ?_ _) | (with_reducible refine Below.drew ?_) | (with_reducible refine Below.alloc ?_ ?_ _) | (with_reducible refine Below.setCell ?_ ?_ _) | (with_reducible exact Nat.le_refl _) | omega | (simp only [World.size_alloc, World.size_setCell, World.size_drew, Wov_size, World.heap_drewN]; omega))))
  · have hl : s.length ≤ 900000 ∨ 1048576 < s.length := by omega
    have dd : (decide ((200000 : Int) < ((bs s).size : Int)) = false ∧ decide ((1100000 : Int) < ((bs s).size : Int)) = false) ∨ (decide ((200000 : Int) < ((bs s).size : Int)) = true ∧ decide (((bs s).size : Int) ≤ 1048576) = false ∧ decide ((1100000 : Int) < ((bs s).size : Int)) = false) := by
      rw [hsz]
      by_cases h : 200000 < s.length
      · exact .inr ⟨decide_eq_true (by omega), decide_eq_false (by omega), decide_eq_false (by omega)⟩
      · exact .inl ⟨decide_eq_false (by omega), decide_eq_false (by omega)⟩
    have hpl := parse_len s
    obtain ⟨t, ht0⟩ : ∃ t, t = parseT s := ⟨_, rfl⟩
    rw [← ht0] at hpl
    obtain ⟨Z, a, f⟩ := t
    simp only at hpl
    have P1 : Hid (∀ w', Below w.heap.size w w' → Calls Tryz.prog 15 #[.string (bs s)] w' (fun e W => ∃ p c, e = .returned (.tuple #[.slice p Z.length c, .int .i64 a, .int .i64 f]) ∧ SlZ W p Z ∧ ∃ q, W = Wov w' q)) := fun w' hb => by
      have := parse_any s hl w' (hv.below hb)
      rw [← ht0] at this
      refine this.mono ?_
      rintro e W ⟨⟨p, c, he, _, ho⟩, hq⟩
      exact ⟨p, c, he, ho.slz, hq⟩
    have P2 : Hid (∀ w', Calls Tryz.prog 16 #[.string (bs s)] w' (fun e W => ∃ p c, e = .returned (.tuple #[.slice p Z.length c, .int .i64 a, .int .i64 f]) ∧ SlZ W p Z ∧ ∃ q, W = Wov w' q)) := fun w' => by
      have := parse31_any s hl w'
      rw [← ht0] at this
      refine this.mono ?_
      rintro e W ⟨⟨p, c, he, _, ho⟩, hq⟩
      exact ⟨p, c, he, ho.slz, hq⟩
    have SM : Hid (∀ w' p c q d, SlZ w' p Z → SlZ w' q Z → Calls Tryz.prog 17 #[.slice p Z.length c, .slice q Z.length d] w' (Gives w' (.bool true))) := fun w' p c q d h1 h2 => by
      have := same31_any p q c d Z Z w' h1 h2 (by omega) (by omega)
      rwa [sameL_refl] at this
    obtain ⟨S, hSS⟩ : ∃ S, S = bs s := ⟨_, rfl⟩
    rw [← hSS] at P1 P2 dd ⊢
    clear h1 hl hv ht ht0 hSS hsz hs hpl
    rcases dd with ⟨d1, d3⟩ | ⟨d1, d2, d3⟩
    · go_enter Tryz.func4, Tryz.ntmps4
      go_wp2_with (fail)
      refine (P1.out _ (by (repeat' (first | (with_reducible assumption) | (with_reducible exact Below.refl _ _) | (with_reducible refine below_wov ?_ ?_ _) | (with_reducible refine below_drewN ?_ _) | (with_reducible refine Below.drew ?_) | (with_reducible refine Below.alloc ?_ ?_ _) | (with_reducible refine Below.setCell ?_ ?_ _) | (with_reducible exact Nat.le_refl _) | omega | (simp only [World.size_alloc, World.size_setCell, World.size_drew, Wov_size, World.heap_drewN]; omega))))).mono ?_; rintro e w' ⟨p1, c1, rfl, s1, q1, rfl⟩
      go_wp2_with (fail)
      refine (P2.out _).mono ?_; rintro e w' ⟨p2, c2, rfl, s2, q2, rfl⟩
      replace s1 := s1.below (below_Wov _ q2)
      go_wp2_with (fail)
      (try simp only [drew_Wov, Wov_Wov, Array.append_assoc] at s1 s2)
      refine (SM.out _ p1 c1 p2 c2 (s1.below (by (repeat' (first | (with_reducible assumption) | (with_reducible exact Below.refl _ _) | (with_reducible refine below_wov ?_ ?_ _) | (with_reducible refine below_drewN ?_ _) | (with_reducible refine Below.drew ?_) | (with_reducible refine Below.alloc ?_ ?_ _) | (with_reducible refine Below.setCell ?_ ?_ _) | (with_reducible exact Nat.le_refl _) | omega | (simp only [World.size_alloc, World.size_setCell, World.size_drew, Wov_size, World.heap_drewN]; omega))))) (s2.below (by (repeat' (first | (with_reducible assumption) | (with_reducible exact Below.refl _ _) | (with_reducible refine below_wov ?_ ?_ _) | (with_reducible refine below_drewN ?_ _) | (with_reducible refine Below.drew ?_) | (with_reducible refine Below.alloc ?_ ?_ _) | (with_reducible refine Below.setCell ?_ ?_ _) | (with_reducible exact Nat.le_refl _) | omega | (simp only [World.size_alloc, World.size_setCell, World.size_drew, Wov_size, World.heap_drewN]; omega)))))).mono ?_; rintro e w' ⟨rfl, q3, rfl⟩
      go_wp2
      all_goals
        go_ret
        exact gives_bool (by simp) (by (repeat' (first | (with_reducible assumption) | (with_reducible exact Below.refl _ _) | (with_reducible refine below_wov ?_ ?_ _) | (with_reducible refine below_drewN ?_ _) | (with_reducible refine Below.drew ?_) | (with_reducible refine Below.alloc ?_ ?_ _) | (with_reducible refine Below.setCell ?_ ?_ _) | (with_reducible exact Nat.le_refl _) | omega | (simp only [World.size_alloc, World.size_setCell, World.size_drew, Wov_size, World.heap_drewN]; omega))))
    · go_enter Tryz.func4, Tryz.ntmps4
      go_wp2_with (fail)
      refine (P1.out _ (by (repeat' (first | (with_reducible assumption) | (with_reducible exact Below.refl _ _) | (with_reducible refine below_wov ?_ ?_ _) | (with_reducible refine below_drewN ?_ _) | (with_reducible refine Below.drew ?_) | (with_reducible refine Below.alloc ?_ ?_ _) | (with_reducible refine Below.setCell ?_ ?_ _) | (with_reducible exact Nat.le_refl _) | omega | (simp only [World.size_alloc, World.size_setCell, World.size_drew, Wov_size, World.heap_drewN]; omega))))).mono ?_; rintro e w' ⟨p1, c1, rfl, s1, q1, rfl⟩
      go_wp2_with (fail)
      refine (P2.out _).mono ?_; rintro e w' ⟨p2, c2, rfl, s2, q2, rfl⟩
      replace s1 := s1.below (below_Wov _ q2)
      go_wp2_with (fail)
      (try simp only [drew_Wov, Wov_Wov, Array.append_assoc] at s1 s2)
      refine (SM.out _ p1 c1 p2 c2 (s1.below (by (repeat' (first | (with_reducible assumption) | (with_reducible exact Below.refl _ _) | (with_reducible refine below_wov ?_ ?_ _) | (with_reducible refine below_drewN ?_ _) | (with_reducible refine Below.drew ?_) | (with_reducible refine Below.alloc ?_ ?_ _) | (with_reducible refine Below.setCell ?_ ?_ _) | (with_reducible exact Nat.le_refl _) | omega | (simp only [World.size_alloc, World.size_setCell, World.size_drew, Wov_size, World.heap_drewN]; omega))))) (s2.below (by (repeat' (first | (with_reducible assumption) | (with_reducible exact Below.refl _ _) | (with_reducible refine below_wov ?_ ?_ _) | (with_reducible refine below_drewN ?_ _) | (with_reducible refine Below.drew ?_) | (with_reducible refine Below.alloc ?_ ?_ _) | (with_reducible refine Below.setCell ?_ ?_ _) | (with_reducible exact Nat.le_refl _) | omega | (simp only [World.size_alloc, World.size_setCell, World.size_drew, Wov_size, World.heap_drewN]; omega)))))).mono ?_; rintro e w' ⟨rfl, q3, rfl⟩
      go_wp2
      all_goals
        go_ret
        exact gives_bool (by simp) (by (repeat' (first | (with_reducible assumption) | (with_reducible exact Below.refl _ _) | (with_reducible refine below_wov ?_ ?_ _) | (with_reducible refine below_drewN ?_ _) | (with_reducible refine Below.drew ?_) | (with_reducible refine Below.alloc ?_ ?_ _) | (with_reducible refine Below.setCell ?_ ?_ _) | (with_reducible exact Nat.le_refl _) | omega | (simp only [World.size_alloc, World.size_setCell, World.size_drew, Wov_size, World.heap_drewN]; omega))))
#print axioms walk
end Go.Proofs.YtpmpapenjcemjaaGreatDoor.textParses
