/- The walk of rat.sum. No condition but that numbers are of their kind, and what its premises say of the numbers between. -/
import Derived.Test.YtlcbpckinjkfeaaRat4
import Derived.Test.YtlcbpckinjkfeaaRat2
namespace Go.Proofs.Ytlcbpckinjkfeaa
set_option linter.unusedSimpArgs false
set_option linter.unusedVariables false
open Go Go.RowKit

/-- A sum of two words that goes round: as the code asks it. -/
def Goes (h il U t : Int) : Prop := ¬ h = il / 9223372036854775808 ∨ (¬ (U < 0 ↔ t < il) ∧ ¬ U = 0)
theorem goes_2 {h il U t : Int} (h2 : ¬ (U < 0 ↔ t < il)) (h3 : (!decide (U < 0) == decide (t < il)) = true ∧ (U != 0) = true) : Goes h il U t := .inr ⟨h2, by have := h3.2; simpa using this⟩
theorem goes_4 {h il U t : Int} (h1 : ¬ h = il / 9223372036854775808) : Goes h il U t := .inl h1
theorem goes_1 {h il U t : Int} (h1 : h = il / 9223372036854775808) (h2 : U < 0 ↔ t < il) : ¬ Goes h il U t := by
  rintro (h | ⟨h, _⟩)
  · exact h h1
  · exact h h2
theorem goes_3 {h il U t : Int} (h1 : h = il / 9223372036854775808) (h2 : ¬ (U < 0 ↔ t < il)) (h3 : (!decide (U < 0) == decide (t < il)) = false ∨ (U != 0) = false) : ¬ Goes h il U t := by
  rintro (h | ⟨_, h⟩)
  · exact h h1
  · rcases h3 with h3 | h3
    · by_cases a : U < 0 <;> by_cases b : t < il <;> simp_all
    · simp at h3; exact h h3
  
set_option maxRecDepth 10000 in
set_option maxHeartbeats 2000000 in
theorem sum_wide (n1 d1 n2 d2 by_ X R Y S A B E Q L C G N : Int) (p g P D U h l il : Int) (r : Int × Int × Int) (w : World)
    (hbX : -2305843009213693952 ≤ X ∧ X ≤ 2305843009213693952) (hbY : -2305843009213693952 ≤ Y ∧ Y ≤ 2305843009213693952)
    (hA : 0 ≤ A ∧ A ≤ 1099511627776) (hB : 0 ≤ B ∧ B ≤ 1099511627776) (hE : 1 ≤ E ∧ E ≤ 1099511627776) (hC : 0 ≤ C ∧ C ≤ 1099511627776) (hG : 1 ≤ G ∧ G ≤ 2199023255552)
    (eA : R * d2 = A) (eB : S * d1 = B) (eE : d1 * d2 = E) (eC : L * E = C) (eG : E * by_ = G)
    (hp : 0 ≤ p ∧ p ≤ G) (hg : 1 ≤ g ∧ g ≤ G) (eP : p.tdiv g = P) (eD : G.tdiv g = D) (hP : 0 ≤ P ∧ P ≤ G) (hD : 1 ≤ D ∧ D ≤ G) (hw0 : -9223372036854775808 ≤ Q + N ∧ Q + N ≤ 9223372036854775807)
    (F1 : Hid (∀ w, Calls Try.prog 79 #[.int .i64 n1, .int .i64 d1] w fun e w' => e = .returned (.tuple #[.int .i64 X, .int .i64 R]) ∧ ∃ m, w' = w.drewN m))
    (F2 : Hid (∀ w, Calls Try.prog 79 #[.int .i64 n2, .int .i64 d2] w fun e w' => e = .returned (.tuple #[.int .i64 Y, .int .i64 S]) ∧ ∃ m, w' = w.drewN m))
    (F3 : Hid (∀ w, Calls Try.prog 79 #[.int .i64 (X + Y), .int .i64 by_] w fun e w' => e = .returned (.tuple #[.int .i64 Q, .int .i64 L]) ∧ ∃ m, w' = w.drewN m))
    (F4 : Hid (∀ w, Calls Try.prog 79 #[.int .i64 (A + B + C), .int .i64 G] w fun e w' => e = .returned (.tuple #[.int .i64 N, .int .i64 p]) ∧ ∃ m, w' = w.drewN m))
    (F5 : Hid (∀ w, Calls Try.prog 119 #[.int .u64 p, .int .u64 G] w fun e w' => e = .returned (.int .u64 g) ∧ ∃ m, w' = w.drewN m))
    (hD2 : 1048576 < D) (hr : Hid (r = (0, 0, 10))) :
    Calls Try.prog 121 #[.agg #[.int .i64 n1, .int .i64 d1], .agg #[.int .i64 n2, .int .i64 d2], .int .i64 by_] w (Gives w (rat3 r)) := by
  obtain ⟨a1, a2⟩ := hbX
  obtain ⟨a3, a4⟩ := hbY
  obtain ⟨a5, a6⟩ := hA
  obtain ⟨a7, a8⟩ := hB
  obtain ⟨a9, a10⟩ := hE
  obtain ⟨a11, a12⟩ := hC
  obtain ⟨a13, a14⟩ := hG
  obtain ⟨a15, a16⟩ := hp
  obtain ⟨a17, a18⟩ := hg
  obtain ⟨a19, a20⟩ := hP
  obtain ⟨a21, a22⟩ := hD
  obtain ⟨a28, a29⟩ := hw0
  have a23 : g ≠ 0 := by omega
  go_enter Try.func121, Try.ntmps121
  go_wp2_with (fail)
  refine (F1.out _).mono ?_; rintro e w' ⟨rfl, m1, rfl⟩
  go_wp2_with (fail)
  refine (F2.out _).mono ?_; rintro e w' ⟨rfl, m2, rfl⟩
  go_wp2_with (fail)
  go_quiet (fail)
  go_wp2_with (fail)
  refine (F3.out _).mono ?_; rintro e w' ⟨rfl, m3, rfl⟩
  go_wp2_with (fail)
  refine (F4.out _).mono ?_; rintro e w' ⟨rfl, m4, rfl⟩
  go_wp2_with (fail)
  refine (F5.out _).mono ?_; rintro e w' ⟨rfl, m5, rfl⟩
  go_wp2_with (fail)
  go_quiet (fail)
  go_wp2
  go_returns
  exact gives_rat hr.out (by (repeat' (first | (with_reducible assumption) | (with_reducible exact Below.refl _ _) | (with_reducible refine below_wov ?_ ?_ _) | (with_reducible refine below_drewN ?_ _) | (with_reducible refine Below.drew ?_) | (with_reducible refine Below.alloc ?_ ?_ _) | (with_reducible refine Below.setCell ?_ ?_ _) | (with_reducible exact Nat.le_refl _) | omega | (simp only [World.size_alloc, World.size_setCell, World.size_drew, Wov_size, World.heap_drewN]; omega))))

set_option maxRecDepth 10000 in
set_option maxHeartbeats 2000000 in
theorem sum_far (n1 d1 n2 d2 by_ X R Y S A B E Q L C G N : Int) (p g P D U h l il : Int) (r : Int × Int × Int) (w : World)
    (hbX : -2305843009213693952 ≤ X ∧ X ≤ 2305843009213693952) (hbY : -2305843009213693952 ≤ Y ∧ Y ≤ 2305843009213693952)
    (hA : 0 ≤ A ∧ A ≤ 1099511627776) (hB : 0 ≤ B ∧ B ≤ 1099511627776) (hE : 1 ≤ E ∧ E ≤ 1099511627776) (hC : 0 ≤ C ∧ C ≤ 1099511627776) (hG : 1 ≤ G ∧ G ≤ 2199023255552)
    (eA : R * d2 = A) (eB : S * d1 = B) (eE : d1 * d2 = E) (eC : L * E = C) (eG : E * by_ = G)
    (hp : 0 ≤ p ∧ p ≤ G) (hg : 1 ≤ g ∧ g ≤ G) (eP : p.tdiv g = P) (eD : G.tdiv g = D) (hP : 0 ≤ P ∧ P ≤ G) (hD : 1 ≤ D ∧ D ≤ G) (hw0 : -9223372036854775808 ≤ Q + N ∧ Q + N ≤ 9223372036854775807)
    (F1 : Hid (∀ w, Calls Try.prog 79 #[.int .i64 n1, .int .i64 d1] w fun e w' => e = .returned (.tuple #[.int .i64 X, .int .i64 R]) ∧ ∃ m, w' = w.drewN m))
    (F2 : Hid (∀ w, Calls Try.prog 79 #[.int .i64 n2, .int .i64 d2] w fun e w' => e = .returned (.tuple #[.int .i64 Y, .int .i64 S]) ∧ ∃ m, w' = w.drewN m))
    (F3 : Hid (∀ w, Calls Try.prog 79 #[.int .i64 (X + Y), .int .i64 by_] w fun e w' => e = .returned (.tuple #[.int .i64 Q, .int .i64 L]) ∧ ∃ m, w' = w.drewN m))
    (F4 : Hid (∀ w, Calls Try.prog 79 #[.int .i64 (A + B + C), .int .i64 G] w fun e w' => e = .returned (.tuple #[.int .i64 N, .int .i64 p]) ∧ ∃ m, w' = w.drewN m))
    (F5 : Hid (∀ w, Calls Try.prog 119 #[.int .u64 p, .int .u64 G] w fun e w' => e = .returned (.int .u64 g) ∧ ∃ m, w' = w.drewN m))
    (hD2 : D ≤ 1048576) (hW : Hid (okN (Q + N) = false)) (hr : Hid (r = (0, 0, 10))) :
    Calls Try.prog 121 #[.agg #[.int .i64 n1, .int .i64 d1], .agg #[.int .i64 n2, .int .i64 d2], .int .i64 by_] w (Gives w (rat3 r)) := by
  obtain ⟨a1, a2⟩ := hbX
  obtain ⟨a3, a4⟩ := hbY
  obtain ⟨a5, a6⟩ := hA
  obtain ⟨a7, a8⟩ := hB
  obtain ⟨a9, a10⟩ := hE
  obtain ⟨a11, a12⟩ := hC
  obtain ⟨a13, a14⟩ := hG
  obtain ⟨a15, a16⟩ := hp
  obtain ⟨a17, a18⟩ := hg
  obtain ⟨a19, a20⟩ := hP
  obtain ⟨a21, a22⟩ := hD
  obtain ⟨a28, a29⟩ := hw0
  have a23 : g ≠ 0 := by omega
  go_enter Try.func121, Try.ntmps121
  go_wp2_with (fail)
  refine (F1.out _).mono ?_; rintro e w' ⟨rfl, m1, rfl⟩
  go_wp2_with (fail)
  refine (F2.out _).mono ?_; rintro e w' ⟨rfl, m2, rfl⟩
  go_wp2_with (fail)
  go_quiet (fail)
  go_wp2_with (fail)
  refine (F3.out _).mono ?_; rintro e w' ⟨rfl, m3, rfl⟩
  go_wp2_with (fail)
  refine (F4.out _).mono ?_; rintro e w' ⟨rfl, m4, rfl⟩
  go_wp2_with (fail)
  refine (F5.out _).mono ?_; rintro e w' ⟨rfl, m5, rfl⟩
  go_wp2_with (fail)
  go_quiet (fail)
  go_wp2_with (fail)
  refine (numCheck_bad _ a28 a29 hW.out).mono ?_; rintro e w' ⟨rfl, rfl⟩
  go_wp2
  go_returns
  exact gives_rat hr.out (by (repeat' (first | (with_reducible assumption) | (with_reducible exact Below.refl _ _) | (with_reducible refine below_wov ?_ ?_ _) | (with_reducible refine below_drewN ?_ _) | (with_reducible refine Below.drew ?_) | (with_reducible refine Below.alloc ?_ ?_ _) | (with_reducible refine Below.setCell ?_ ?_ _) | (with_reducible exact Nat.le_refl _) | omega | (simp only [World.size_alloc, World.size_setCell, World.size_drew, Wov_size, World.heap_drewN]; omega))))

set_option maxRecDepth 10000 in
set_option maxHeartbeats 2000000 in
theorem sum_neg (n1 d1 n2 d2 by_ X R Y S A B E Q L C G N : Int) (p g P D U h l il : Int) (r : Int × Int × Int) (w : World)
    (hbX : -2305843009213693952 ≤ X ∧ X ≤ 2305843009213693952) (hbY : -2305843009213693952 ≤ Y ∧ Y ≤ 2305843009213693952)
    (hA : 0 ≤ A ∧ A ≤ 1099511627776) (hB : 0 ≤ B ∧ B ≤ 1099511627776) (hE : 1 ≤ E ∧ E ≤ 1099511627776) (hC : 0 ≤ C ∧ C ≤ 1099511627776) (hG : 1 ≤ G ∧ G ≤ 2199023255552)
    (eA : R * d2 = A) (eB : S * d1 = B) (eE : d1 * d2 = E) (eC : L * E = C) (eG : E * by_ = G)
    (hp : 0 ≤ p ∧ p ≤ G) (hg : 1 ≤ g ∧ g ≤ G) (eP : p.tdiv g = P) (eD : G.tdiv g = D) (hP : 0 ≤ P ∧ P ≤ G) (hD : 1 ≤ D ∧ D ≤ G) (hw0 : -9223372036854775808 ≤ Q + N ∧ Q + N ≤ 9223372036854775807)
    (F1 : Hid (∀ w, Calls Try.prog 79 #[.int .i64 n1, .int .i64 d1] w fun e w' => e = .returned (.tuple #[.int .i64 X, .int .i64 R]) ∧ ∃ m, w' = w.drewN m))
    (F2 : Hid (∀ w, Calls Try.prog 79 #[.int .i64 n2, .int .i64 d2] w fun e w' => e = .returned (.tuple #[.int .i64 Y, .int .i64 S]) ∧ ∃ m, w' = w.drewN m))
    (F3 : Hid (∀ w, Calls Try.prog 79 #[.int .i64 (X + Y), .int .i64 by_] w fun e w' => e = .returned (.tuple #[.int .i64 Q, .int .i64 L]) ∧ ∃ m, w' = w.drewN m))
    (F4 : Hid (∀ w, Calls Try.prog 79 #[.int .i64 (A + B + C), .int .i64 G] w fun e w' => e = .returned (.tuple #[.int .i64 N, .int .i64 p]) ∧ ∃ m, w' = w.drewN m))
    (F5 : Hid (∀ w, Calls Try.prog 119 #[.int .u64 p, .int .u64 G] w fun e w' => e = .returned (.int .u64 g) ∧ ∃ m, w' = w.drewN m))
    (hD2 : D ≤ 1048576) (hW : Hid (okN (Q + N) = true)) (hw : Q + N < 0) (eI : wrap64 l = il) (hil : -9223372036854775808 ≤ il ∧ il ≤ 9223372036854775807) (F6 : Hid (∀ w, Calls Try.prog 132 #[.int .i64 (Q + N + 1), .int .i64 D] w fun e w' => e = .returned (.tuple #[.int .i64 h, .int .u64 l]) ∧ w = w')) (RO : Hid (Goes h il (P - D) (wrap64 (il + (P - D))) → r = (0, 0, 10))) (RL : Hid (¬ Goes h il (P - D) (wrap64 (il + (P - D))) → Pure Try.prog 114 #[.int .i64 (wrap64 (il + (P - D))), .int .i64 D] (rat3 r))) :
    Calls Try.prog 121 #[.agg #[.int .i64 n1, .int .i64 d1], .agg #[.int .i64 n2, .int .i64 d2], .int .i64 by_] w (Gives w (rat3 r)) := by
  obtain ⟨a1, a2⟩ := hbX
  obtain ⟨a3, a4⟩ := hbY
  obtain ⟨a5, a6⟩ := hA
  obtain ⟨a7, a8⟩ := hB
  obtain ⟨a9, a10⟩ := hE
  obtain ⟨a11, a12⟩ := hC
  obtain ⟨a13, a14⟩ := hG
  obtain ⟨a15, a16⟩ := hp
  obtain ⟨a17, a18⟩ := hg
  obtain ⟨a19, a20⟩ := hP
  obtain ⟨a21, a22⟩ := hD
  obtain ⟨a28, a29⟩ := hw0
  have a23 : g ≠ 0 := by omega
  go_enter Try.func121, Try.ntmps121
  go_wp2_with (fail)
  refine (F1.out _).mono ?_; rintro e w' ⟨rfl, m1, rfl⟩
  go_wp2_with (fail)
  refine (F2.out _).mono ?_; rintro e w' ⟨rfl, m2, rfl⟩
  go_wp2_with (fail)
  go_quiet (fail)
  go_wp2_with (fail)
  refine (F3.out _).mono ?_; rintro e w' ⟨rfl, m3, rfl⟩
  go_wp2_with (fail)
  refine (F4.out _).mono ?_; rintro e w' ⟨rfl, m4, rfl⟩
  go_wp2_with (fail)
  refine (F5.out _).mono ?_; rintro e w' ⟨rfl, m5, rfl⟩
  go_wp2_with (fail)
  go_quiet (fail)
  obtain ⟨a26, a27⟩ := hil
  go_wp2_with (fail)
  refine (numCheck_ok _ hW.out).mono ?_; rintro e w' ⟨rfl, rfl⟩
  go_wp2_with (fail)
  refine (F6.out _).mono ?_; rintro e w' ⟨rfl, rfl⟩
  go_wp2_with (fail)
  · have ho := RL.out (goes_1 ‹_› ‹_›)
    obtain ⟨⟨x, y, z⟩, hr⟩ : ∃ r', r' = r := ⟨_, rfl⟩
    have HR := Lib.hid hr.symm
    rw [← hr] at ho
    clear hr
    refine (ho _).mono ?_; rintro e w' ⟨rfl, p5, rfl⟩
    simp only [rat3]
    go_wp2
    go_returns
    exact gives_rat HR.out (by (repeat' (first | (with_reducible assumption) | (with_reducible exact Below.refl _ _) | (with_reducible refine below_wov ?_ ?_ _) | (with_reducible refine below_drewN ?_ _) | (with_reducible refine Below.drew ?_) | (with_reducible refine Below.alloc ?_ ?_ _) | (with_reducible refine Below.setCell ?_ ?_ _) | (with_reducible exact Nat.le_refl _) | omega | (simp only [World.size_alloc, World.size_setCell, World.size_drew, Wov_size, World.heap_drewN]; omega))))
  · have ho := RO.out (goes_2 ‹_› ‹_›)
    go_returns
    exact gives_rat ho (by (repeat' (first | (with_reducible assumption) | (with_reducible exact Below.refl _ _) | (with_reducible refine below_wov ?_ ?_ _) | (with_reducible refine below_drewN ?_ _) | (with_reducible refine Below.drew ?_) | (with_reducible refine Below.alloc ?_ ?_ _) | (with_reducible refine Below.setCell ?_ ?_ _) | (with_reducible exact Nat.le_refl _) | omega | (simp only [World.size_alloc, World.size_setCell, World.size_drew, Wov_size, World.heap_drewN]; omega))))
  · have ho := RL.out (goes_3 ‹_› ‹_› ‹_›)
    obtain ⟨⟨x, y, z⟩, hr⟩ : ∃ r', r' = r := ⟨_, rfl⟩
    have HR := Lib.hid hr.symm
    rw [← hr] at ho
    clear hr
    refine (ho _).mono ?_; rintro e w' ⟨rfl, p5, rfl⟩
    simp only [rat3]
    go_wp2
    go_returns
    exact gives_rat HR.out (by (repeat' (first | (with_reducible assumption) | (with_reducible exact Below.refl _ _) | (with_reducible refine below_wov ?_ ?_ _) | (with_reducible refine below_drewN ?_ _) | (with_reducible refine Below.drew ?_) | (with_reducible refine Below.alloc ?_ ?_ _) | (with_reducible refine Below.setCell ?_ ?_ _) | (with_reducible exact Nat.le_refl _) | omega | (simp only [World.size_alloc, World.size_setCell, World.size_drew, Wov_size, World.heap_drewN]; omega))))
  · have ho := RO.out (goes_4 ‹_›)
    go_returns
    exact gives_rat ho (by (repeat' (first | (with_reducible assumption) | (with_reducible exact Below.refl _ _) | (with_reducible refine below_wov ?_ ?_ _) | (with_reducible refine below_drewN ?_ _) | (with_reducible refine Below.drew ?_) | (with_reducible refine Below.alloc ?_ ?_ _) | (with_reducible refine Below.setCell ?_ ?_ _) | (with_reducible exact Nat.le_refl _) | omega | (simp only [World.size_alloc, World.size_setCell, World.size_drew, Wov_size, World.heap_drewN]; omega))))

set_option maxRecDepth 10000 in
set_option maxHeartbeats 2000000 in
theorem sum_pos (n1 d1 n2 d2 by_ X R Y S A B E Q L C G N : Int) (p g P D U h l il : Int) (r : Int × Int × Int) (w : World)
    (hbX : -2305843009213693952 ≤ X ∧ X ≤ 2305843009213693952) (hbY : -2305843009213693952 ≤ Y ∧ Y ≤ 2305843009213693952)
    (hA : 0 ≤ A ∧ A ≤ 1099511627776) (hB : 0 ≤ B ∧ B ≤ 1099511627776) (hE : 1 ≤ E ∧ E ≤ 1099511627776) (hC : 0 ≤ C ∧ C ≤ 1099511627776) (hG : 1 ≤ G ∧ G ≤ 2199023255552)
    (eA : R * d2 = A) (eB : S * d1 = B) (eE : d1 * d2 = E) (eC : L * E = C) (eG : E * by_ = G)
    (hp : 0 ≤ p ∧ p ≤ G) (hg : 1 ≤ g ∧ g ≤ G) (eP : p.tdiv g = P) (eD : G.tdiv g = D) (hP : 0 ≤ P ∧ P ≤ G) (hD : 1 ≤ D ∧ D ≤ G) (hw0 : -9223372036854775808 ≤ Q + N ∧ Q + N ≤ 9223372036854775807)
    (F1 : Hid (∀ w, Calls Try.prog 79 #[.int .i64 n1, .int .i64 d1] w fun e w' => e = .returned (.tuple #[.int .i64 X, .int .i64 R]) ∧ ∃ m, w' = w.drewN m))
    (F2 : Hid (∀ w, Calls Try.prog 79 #[.int .i64 n2, .int .i64 d2] w fun e w' => e = .returned (.tuple #[.int .i64 Y, .int .i64 S]) ∧ ∃ m, w' = w.drewN m))
    (F3 : Hid (∀ w, Calls Try.prog 79 #[.int .i64 (X + Y), .int .i64 by_] w fun e w' => e = .returned (.tuple #[.int .i64 Q, .int .i64 L]) ∧ ∃ m, w' = w.drewN m))
    (F4 : Hid (∀ w, Calls Try.prog 79 #[.int .i64 (A + B + C), .int .i64 G] w fun e w' => e = .returned (.tuple #[.int .i64 N, .int .i64 p]) ∧ ∃ m, w' = w.drewN m))
    (F5 : Hid (∀ w, Calls Try.prog 119 #[.int .u64 p, .int .u64 G] w fun e w' => e = .returned (.int .u64 g) ∧ ∃ m, w' = w.drewN m))
    (hD2 : D ≤ 1048576) (hW : Hid (okN (Q + N) = true)) (hw : 0 ≤ Q + N) (eI : wrap64 l = il) (hil : -9223372036854775808 ≤ il ∧ il ≤ 9223372036854775807) (F6 : Hid (∀ w, Calls Try.prog 132 #[.int .i64 (Q + N), .int .i64 D] w fun e w' => e = .returned (.tuple #[.int .i64 h, .int .u64 l]) ∧ w = w')) (RO : Hid (Goes h il P (wrap64 (il + P)) → r = (0, 0, 10))) (RL : Hid (¬ Goes h il P (wrap64 (il + P)) → Pure Try.prog 114 #[.int .i64 (wrap64 (il + P)), .int .i64 D] (rat3 r))) :
    Calls Try.prog 121 #[.agg #[.int .i64 n1, .int .i64 d1], .agg #[.int .i64 n2, .int .i64 d2], .int .i64 by_] w (Gives w (rat3 r)) := by
  obtain ⟨a1, a2⟩ := hbX
  obtain ⟨a3, a4⟩ := hbY
  obtain ⟨a5, a6⟩ := hA
  obtain ⟨a7, a8⟩ := hB
  obtain ⟨a9, a10⟩ := hE
  obtain ⟨a11, a12⟩ := hC
  obtain ⟨a13, a14⟩ := hG
  obtain ⟨a15, a16⟩ := hp
  obtain ⟨a17, a18⟩ := hg
  obtain ⟨a19, a20⟩ := hP
  obtain ⟨a21, a22⟩ := hD
  obtain ⟨a28, a29⟩ := hw0
  have a23 : g ≠ 0 := by omega
  go_enter Try.func121, Try.ntmps121
  go_wp2_with (fail)
  refine (F1.out _).mono ?_; rintro e w' ⟨rfl, m1, rfl⟩
  go_wp2_with (fail)
  refine (F2.out _).mono ?_; rintro e w' ⟨rfl, m2, rfl⟩
  go_wp2_with (fail)
  go_quiet (fail)
  go_wp2_with (fail)
  refine (F3.out _).mono ?_; rintro e w' ⟨rfl, m3, rfl⟩
  go_wp2_with (fail)
  refine (F4.out _).mono ?_; rintro e w' ⟨rfl, m4, rfl⟩
  go_wp2_with (fail)
  refine (F5.out _).mono ?_; rintro e w' ⟨rfl, m5, rfl⟩
  go_wp2_with (fail)
  go_quiet (fail)
  obtain ⟨a26, a27⟩ := hil
  go_wp2_with (fail)
  refine (numCheck_ok _ hW.out).mono ?_; rintro e w' ⟨rfl, rfl⟩
  go_wp2_with (fail)
  refine (F6.out _).mono ?_; rintro e w' ⟨rfl, rfl⟩
  go_wp2_with (fail)
  · have ho := RL.out (goes_1 ‹_› ‹_›)
    obtain ⟨⟨x, y, z⟩, hr⟩ : ∃ r', r' = r := ⟨_, rfl⟩
    have HR := Lib.hid hr.symm
    rw [← hr] at ho
    clear hr
    refine (ho _).mono ?_; rintro e w' ⟨rfl, p5, rfl⟩
    simp only [rat3]
    go_wp2
    go_returns
    exact gives_rat HR.out (by (repeat' (first | (with_reducible assumption) | (with_reducible exact Below.refl _ _) | (with_reducible refine below_wov ?_ ?_ _) | (with_reducible refine below_drewN ?_ _) | (with_reducible refine Below.drew ?_) | (with_reducible refine Below.alloc ?_ ?_ _) | (with_reducible refine Below.setCell ?_ ?_ _) | (with_reducible exact Nat.le_refl _) | omega | (simp only [World.size_alloc, World.size_setCell, World.size_drew, Wov_size, World.heap_drewN]; omega))))
  · have ho := RO.out (goes_2 ‹_› ‹_›)
    go_returns
    exact gives_rat ho (by (repeat' (first | (with_reducible assumption) | (with_reducible exact Below.refl _ _) | (with_reducible refine below_wov ?_ ?_ _) | (with_reducible refine below_drewN ?_ _) | (with_reducible refine Below.drew ?_) | (with_reducible refine Below.alloc ?_ ?_ _) | (with_reducible refine Below.setCell ?_ ?_ _) | (with_reducible exact Nat.le_refl _) | omega | (simp only [World.size_alloc, World.size_setCell, World.size_drew, Wov_size, World.heap_drewN]; omega))))
  · have ho := RL.out (goes_3 ‹_› ‹_› ‹_›)
    obtain ⟨⟨x, y, z⟩, hr⟩ : ∃ r', r' = r := ⟨_, rfl⟩
    have HR := Lib.hid hr.symm
    rw [← hr] at ho
    clear hr
    refine (ho _).mono ?_; rintro e w' ⟨rfl, p5, rfl⟩
    simp only [rat3]
    go_wp2
    go_returns
    exact gives_rat HR.out (by (repeat' (first | (with_reducible assumption) | (with_reducible exact Below.refl _ _) | (with_reducible refine below_wov ?_ ?_ _) | (with_reducible refine below_drewN ?_ _) | (with_reducible refine Below.drew ?_) | (with_reducible refine Below.alloc ?_ ?_ _) | (with_reducible refine Below.setCell ?_ ?_ _) | (with_reducible exact Nat.le_refl _) | omega | (simp only [World.size_alloc, World.size_setCell, World.size_drew, Wov_size, World.heap_drewN]; omega))))
  · have ho := RO.out (goes_4 ‹_›)
    go_returns
    exact gives_rat ho (by (repeat' (first | (with_reducible assumption) | (with_reducible exact Below.refl _ _) | (with_reducible refine below_wov ?_ ?_ _) | (with_reducible refine below_drewN ?_ _) | (with_reducible refine Below.drew ?_) | (with_reducible refine Below.alloc ?_ ?_ _) | (with_reducible refine Below.setCell ?_ ?_ _) | (with_reducible exact Nat.le_refl _) | omega | (simp only [World.size_alloc, World.size_setCell, World.size_drew, Wov_size, World.heap_drewN]; omega))))

end Go.Proofs.Ytlcbpckinjkfeaa
