/- The law TextNames (walk): the limits and errors have their numbers; the chapter's examples are so. No condition but that the table of powers and strconv.ErrRange lie as they are laid. -/
import Derived.Test.YtpmpapenjcemjaaGreatDoorY1
import Derived.Test.YtpmpapenjcemjaaGreatDoorFrame2
namespace Go.Proofs.YtpmpapenjcemjaaGreatDoor.textNames
open Go.ChangeShapes Go.WideShapes Go.ChangeAt Go.RowKit
set_option linter.unusedVariables false
set_option linter.unusedSimpArgs false
attribute [local go_sem] Nat.add_assoc Nat.add_lt_add_iff_left lit_lt_add

set_option maxRecDepth 10000 in
set_option maxHeartbeats 2000000 in
theorem fails_any (l : List UInt8) (a e : Int) (hl : l.length ≤ 900000) (h1 : (parseT l).2.1 = a) (h2 : (parseT l).2.2 = e) (he : e ≠ 0) (w : World) (hv : ErrR w) :
    Calls Tryz.prog 18 #[.string (bs l), .int .i64 a, .int .i64 e] w (Gives w (.bool true)) := by
  have hn : (parseT l).1 = [] := by
    obtain ⟨⟨Z, a', e'⟩, hp⟩ : ∃ r, r = parseT l := ⟨_, rfl⟩
    rw [← hp] at h2 ⊢
    exact parse_nil hp.symm (by simp only at h2; rw [h2]; exact he)
  have PA : Hid (Calls Tryz.prog 15 #[.string (bs l)] w (fun e' W => ∃ p c, e' = .returned (.tuple #[.slice p 0 c, .int .i64 a, .int .i64 e]) ∧ ∃ q, W = Wov w q)) := by
    refine (parse_any l (.inl hl) w hv).mono ?_
    rintro e' W ⟨⟨p, c, he', _, _⟩, hq⟩
    rw [hn, h1, h2] at he'
    exact ⟨p, c, he', hq⟩
  obtain ⟨S, hS⟩ : ∃ S, S = bs l := ⟨_, rfl⟩
  rw [← hS] at PA ⊢
  clear hS hn h1 h2 he hv hl
  go_enter Tryz.func18, Tryz.ntmps18
  go_wp2_with (fail)
  refine PA.out.mono ?_; rintro e' w' ⟨p, c, rfl, q1, rfl⟩
  go_wp2
  all_goals
    go_ret
    exact gives_bool (by simp) (by (repeat' (first | (with_reducible assumption) | (with_reducible exact Below.refl _ _) | (with_reducible refine below_wov ?_ ?_ _) | (with_reducible refine below_drewN ?_ _) | (with_reducible refine Below.drew ?_) | (with_reducible refine Below.alloc ?_ ?_ _) | (with_reducible refine Below.setCell ?_ ?_ _) | (with_reducible exact Nat.le_refl _) | omega | (simp only [World.size_alloc, World.size_setCell, World.size_drew, Wov_size, World.heap_drewN]; omega))))
theorem text1 : (parseT [91, 48, 44, 50, 41, 40, 48, 44, 50, 93, 40, 48, 44, 50, 93, 32, 91, 48, 44, 49]).2.1 = 16 ∧ (parseT [91, 48, 44, 50, 41, 40, 48, 44, 50, 93, 40, 48, 44, 50, 93, 32, 91, 48, 44, 49]).2.2 = 170 := by decide +kernel
theorem text2 : (parseT [91, 48, 44, 48, 50, 41, 40, 48, 44, 50, 93, 40, 48, 44, 50, 93]).2.1 = 0 ∧ (parseT [91, 48, 44, 48, 50, 41, 40, 48, 44, 50, 93, 40, 48, 44, 50, 93]).2.2 = 170 := by decide +kernel
theorem text3 : (parseT [91, 48, 44, 51, 41, 40, 48, 44, 50, 93, 40, 48, 44, 50, 93]).2.1 = 0 ∧ (parseT [91, 48, 44, 51, 41, 40, 48, 44, 50, 93, 40, 48, 44, 50, 93]).2.2 = 8 := by decide +kernel
theorem text4 : (parseT [91, 48, 44, 50, 41, 40, 48, 44, 50, 93, 40, 48, 44, 57, 57, 57, 57, 57, 57, 57, 57, 57, 57, 57, 57, 57, 57, 57, 57, 57, 57, 57, 57, 93]).2.1 = 0 ∧ (parseT [91, 48, 44, 50, 41, 40, 48, 44, 50, 93, 40, 48, 44, 57, 57, 57, 57, 57, 57, 57, 57, 57, 57, 57, 57, 57, 57, 57, 57, 57, 57, 57, 57, 93]).2.2 = 151 := by decide +kernel
theorem text5 : (parseT [91, 48, 44, 50, 41, 40, 48, 44, 50, 93, 40, 48, 44, 50, 93, 32]).2.1 = 16 ∧ (parseT [91, 48, 44, 50, 41, 40, 48, 44, 50, 93, 40, 48, 44, 50, 93, 32]).2.2 = 170 := by decide +kernel
theorem text6 : (parseT [91, 45, 111, 111, 44, 50, 41, 40, 48, 44, 50, 93, 40, 48, 44, 50, 93]).2.1 = 0 ∧ (parseT [91, 45, 111, 111, 44, 50, 41, 40, 48, 44, 50, 93, 40, 48, 44, 50, 93]).2.2 = 170 := by decide +kernel

set_option maxRecDepth 100000 in
set_option maxHeartbeats 4000000 in
theorem walk (w : World) (ht : Tab w) (hv : ErrR w) :
    Calls Tryz.prog 5 #[] w (Gives w (.bool true)) := by
  have F1 : Hid (∀ w', Below w.heap.size w w' → Calls Tryz.prog 18 #[.string ⟨#[91, 48, 44, 50, 41, 40, 48, 44, 50, 93, 40, 48, 44, 50, 93, 32, 91, 48, 44, 49]⟩, .int .i64 16, .int .i64 170] w' (Gives w' (.bool true))) := fun w' hb => fails_any _ _ _ (by decide) text1.1 text1.2 (by decide) w' (hv.below hb)
  have F2 : Hid (∀ w', Below w.heap.size w w' → Calls Tryz.prog 18 #[.string ⟨#[91, 48, 44, 48, 50, 41, 40, 48, 44, 50, 93, 40, 48, 44, 50, 93]⟩, .int .i64 0, .int .i64 170] w' (Gives w' (.bool true))) := fun w' hb => fails_any _ _ _ (by decide) text2.1 text2.2 (by decide) w' (hv.below hb)
  have F3 : Hid (∀ w', Below w.heap.size w w' → Calls Tryz.prog 18 #[.string ⟨#[91, 48, 44, 51, 41, 40, 48, 44, 50, 93, 40, 48, 44, 50, 93]⟩, .int .i64 0, .int .i64 8] w' (Gives w' (.bool true))) := fun w' hb => fails_any _ _ _ (by decide) text3.1 text3.2 (by decide) w' (hv.below hb)
  have F4 : Hid (∀ w', Below w.heap.size w w' → Calls Tryz.prog 18 #[.string ⟨#[91, 48, 44, 50, 41, 40, 48, 44, 50, 93, 40, 48, 44, 57, 57, 57, 57, 57, 57, 57, 57, 57, 57, 57, 57, 57, 57, 57, 57, 57, 57, 57, 57, 93]⟩, .int .i64 0, .int .i64 151] w' (Gives w' (.bool true))) := fun w' hb => fails_any _ _ _ (by decide) text4.1 text4.2 (by decide) w' (hv.below hb)
  have F5 : Hid (∀ w', Below w.heap.size w w' → Calls Tryz.prog 18 #[.string ⟨#[91, 48, 44, 50, 41, 40, 48, 44, 50, 93, 40, 48, 44, 50, 93, 32]⟩, .int .i64 16, .int .i64 170] w' (Gives w' (.bool true))) := fun w' hb => fails_any _ _ _ (by decide) text5.1 text5.2 (by decide) w' (hv.below hb)
  have F6 : Hid (∀ w', Below w.heap.size w w' → Calls Tryz.prog 18 #[.string ⟨#[91, 45, 111, 111, 44, 50, 41, 40, 48, 44, 50, 93, 40, 48, 44, 50, 93]⟩, .int .i64 0, .int .i64 170] w' (Gives w' (.bool true))) := fun w' hb => fails_any _ _ _ (by decide) text6.1 text6.2 (by decide) w' (hv.below hb)
  have P1 : Hid (∀ w', Below w.heap.size w w' → Calls Tryz.prog 19 #[.slice none 0 0] w' (Gives w' (.tuple #[.string ⟨#[]⟩, .int .i64 0]))) := fun w' hb => print_any none 0 [] w' (.inl rfl) (fun z hz => by cases hz) (by simp) (ht.below hb)
  have AL : Hid (∀ w', Below w.heap.size w w' → Calls Tryz.prog 20 #[] w' (Gives w' (.bool true))) := fun w' hb => alive31 w' (ht.below hb) (hv.below hb)
  clear ht hv
  go_enter Tryz.func5, Tryz.ntmps5
  go_wp2_with (fail)
  refine (F1.out _ (by (repeat' (first | (with_reducible assumption) | (with_reducible exact Below.refl _ _) | (with_reducible refine below_wov ?_ ?_ _) | (with_reducible refine below_drewN ?_ _) | (with_reducible refine Below.drew ?_) | (with_reducible refine Below.alloc ?_ ?_ _) | (with_reducible refine Below.setCell ?_ ?_ _) | (with_reducible exact Nat.le_refl _) | omega | (simp only [World.size_alloc, World.size_setCell, World.size_drew, Wov_size, World.heap_drewN]; omega))))).mono ?_; rintro e w' ⟨rfl, q1, rfl⟩
  go_wp2_with (fail)
  refine (F2.out _ (by (repeat' (first | (with_reducible assumption) | (with_reducible exact Below.refl _ _) | (with_reducible refine below_wov ?_ ?_ _) | (with_reducible refine below_drewN ?_ _) | (with_reducible refine Below.drew ?_) | (with_reducible refine Below.alloc ?_ ?_ _) | (with_reducible refine Below.setCell ?_ ?_ _) | (with_reducible exact Nat.le_refl _) | omega | (simp only [World.size_alloc, World.size_setCell, World.size_drew, Wov_size, World.heap_drewN]; omega))))).mono ?_; rintro e w' ⟨rfl, q2, rfl⟩
  go_wp2_with (fail)
  refine (F3.out _ (by (repeat' (first | (with_reducible assumption) | (with_reducible exact Below.refl _ _) | (with_reducible refine below_wov ?_ ?_ _) | (with_reducible refine below_drewN ?_ _) | (with_reducible refine Below.drew ?_) | (with_reducible refine Below.alloc ?_ ?_ _) | (with_reducible refine Below.setCell ?_ ?_ _) | (with_reducible exact Nat.le_refl _) | omega | (simp only [World.size_alloc, World.size_setCell, World.size_drew, Wov_size, World.heap_drewN]; omega))))).mono ?_; rintro e w' ⟨rfl, q3, rfl⟩
  go_wp2_with (fail)
  refine (F4.out _ (by (repeat' (first | (with_reducible assumption) | (with_reducible exact Below.refl _ _) | (with_reducible refine below_wov ?_ ?_ _) | (with_reducible refine below_drewN ?_ _) | (with_reducible refine Below.drew ?_) | (with_reducible refine Below.alloc ?_ ?_ _) | (with_reducible refine Below.setCell ?_ ?_ _) | (with_reducible exact Nat.le_refl _) | omega | (simp only [World.size_alloc, World.size_setCell, World.size_drew, Wov_size, World.heap_drewN]; omega))))).mono ?_; rintro e w' ⟨rfl, q4, rfl⟩
  go_wp2_with (fail)
  refine (F5.out _ (by (repeat' (first | (with_reducible assumption) | (with_reducible exact Below.refl _ _) | (with_reducible refine below_wov ?_ ?_ _) | (with_reducible refine below_drewN ?_ _) | (with_reducible refine Below.drew ?_) | (with_reducible refine Below.alloc ?_ ?_ _) | (with_reducible refine Below.setCell ?_ ?_ _) | (with_reducible exact Nat.le_refl _) | omega | (simp only [World.size_alloc, World.size_setCell, World.size_drew, Wov_size, World.heap_drewN]; omega))))).mono ?_; rintro e w' ⟨rfl, q5, rfl⟩
  go_wp2_with (fail)
  refine (F6.out _ (by (repeat' (first | (with_reducible assumption) | (with_reducible exact Below.refl _ _) | (with_reducible refine below_wov ?_ ?_ _) | (with_reducible refine below_drewN ?_ _) | (with_reducible refine Below.drew ?_) | (with_reducible refine Below.alloc ?_ ?_ _) | (with_reducible refine Below.setCell ?_ ?_ _) | (with_reducible exact Nat.le_refl _) | omega | (simp only [World.size_alloc, World.size_setCell, World.size_drew, Wov_size, World.heap_drewN]; omega))))).mono ?_; rintro e w' ⟨rfl, q6, rfl⟩
  go_wp2_with (fail)
  refine (P1.out _ (by (repeat' (first | (with_reducible assumption) | (with_reducible exact Below.refl _ _) | (with_reducible refine below_wov ?_ ?_ _) | (with_reducible refine below_drewN ?_ _) | (with_reducible refine Below.drew ?_) | (with_reducible refine Below.alloc ?_ ?_ _) | (with_reducible refine Below.setCell ?_ ?_ _) | (with_reducible exact Nat.le_refl _) | omega | (simp only [World.size_alloc, World.size_setCell, World.size_drew, Wov_size, World.heap_drewN]; omega))))).mono ?_; rintro e w' ⟨rfl, q7, rfl⟩
  go_wp2_with (fail)
  refine (AL.out _ (by (repeat' (first | (with_reducible assumption) | (with_reducible exact Below.refl _ _) | (with_reducible refine below_wov ?_ ?_ _) | (with_reducible refine below_drewN ?_ _) | (with_reducible refine Below.drew ?_) | (with_reducible refine Below.alloc ?_ ?_ _) | (with_reducible refine Below.setCell ?_ ?_ _) | (with_reducible exact Nat.le_refl _) | omega | (simp only [World.size_alloc, World.size_setCell, World.size_drew, Wov_size, World.heap_drewN]; omega))))).mono ?_; rintro e w' ⟨rfl, q8, rfl⟩
  go_wp2
  all_goals
    go_ret
    exact gives_bool (by simp) (by (repeat' (first | (with_reducible assumption) | (with_reducible exact Below.refl _ _) | (with_reducible refine below_wov ?_ ?_ _) | (with_reducible refine below_drewN ?_ _) | (with_reducible refine Below.drew ?_) | (with_reducible refine Below.alloc ?_ ?_ _) | (with_reducible refine Below.setCell ?_ ?_ _) | (with_reducible exact Nat.le_refl _) | omega | (simp only [World.size_alloc, World.size_setCell, World.size_drew, Wov_size, World.heap_drewN]; omega))))
#print axioms walk
end Go.Proofs.YtpmpapenjcemjaaGreatDoor.textNames
