/- What law06's statements begin with: its two and its alive. -/
import Derived.Test.YtggjkibhffglbaaG10
import Derived.Test.YtggjkibhffglbaaG6
namespace Go.Proofs.Ytggjkibhffglbaa
set_option linter.unusedSimpArgs false
set_option linter.unusedVariables false
open Go Go.RowKit Go.Shelf
attribute [local go_sem] Nat.add_assoc Nat.add_lt_add_iff_left lit_lt_add

set_option maxRecDepth 10000 in
set_option maxHeartbeats 1000000 in
theorem two6_any (a b c d : Int) (w : World) : Calls Try.prog 40 #[.int .i64 a, .int .i64 b, .int .i64 c, .int .i64 d] w (twoPost w a b c d) := by
  go_enter Try.func40, Try.ntmps40
  go_wp2
  go_returns
  refine ⟨w.heap.size + 1, rfl, by omega, by simp [World.setCell], ?_, Wov_of_below (by (repeat' (first | (with_reducible assumption) | (with_reducible exact Below.refl _ _) | (with_reducible refine below_wov ?_ ?_ _) | (with_reducible refine below_drewN ?_ _) | (with_reducible refine Below.drew ?_) | (with_reducible refine Below.alloc ?_ ?_ _) | (with_reducible refine Below.setCell ?_ ?_ _) | (with_reducible exact Nat.le_refl _) | omega | (simp only [World.size_alloc, World.size_setCell, World.size_drew, Wov_size, World.heap_drewN]; omega))))⟩
  intro x hx
  rcases x with _ | _ | _ | _ | x
  all_goals first | omega | (constructor <;> simp [go_sem, four])

set_option maxRecDepth 100000 in
set_option maxHeartbeats 8000000 in
theorem alive6 : Pure Try.prog 35 #[] (.bool true) := by
  intro w
  have F1 : Fits 4 (four 1 (-3) 9 1) := four_fits (by decide) (by decide) (by decide) (by decide)
  have F2 : Fits 4 (four 1 (-1) noneB 1) := four_fits (by decide) (by decide) (by decide) (by decide)
  have v1 : inR 2 4 (four 1 (-3) 9 1) 2 4 (four 1 (-1) noneB 1) = (true, 0) := by decide +kernel
  have v2 : inR 2 4 (four 1 (-1) noneB 1) 2 4 (four 1 (-3) 9 1) = (false, 0) := by decide +kernel
  have v3 : (pickR 2 4 (four 1 (-3) 9 1)).M = 1 ∧ (pickR 2 4 (four 1 (-3) 9 1)).e = 0 ∧ (pickR 2 4 (four 1 (-3) 9 1)).T 0 = (2, 1) := by decide +kernel
  have C1 : Hid (∀ W B B', SlP W (some ⟨B, 0, none⟩) 4 (four 1 (-3) 9 1) → SlP W (some ⟨B', 0, none⟩) 4 (four 1 (-1) noneB 1) → Calls Try.prog 28 #[.agg #[.int .i64 2, .slice (some ⟨B, 0, none⟩) 4 4], .agg #[.int .i64 2, .slice (some ⟨B', 0, none⟩) 4 4]] W (Gives W (.tuple #[.bool true, .int .i64 0]))) := fun W B B' h g => by
    have := in_any 2 (some ⟨B, 0, none⟩) 4 4 _ 2 (some ⟨B', 0, none⟩) 4 4 _ W (by decide) (by decide) h g F1 F2 (by omega) (by omega)
    rw [v1] at this; exact this
  have C2 : Hid (∀ W B B', SlP W (some ⟨B, 0, none⟩) 4 (four 1 (-1) noneB 1) → SlP W (some ⟨B', 0, none⟩) 4 (four 1 (-3) 9 1) → Calls Try.prog 28 #[.agg #[.int .i64 2, .slice (some ⟨B, 0, none⟩) 4 4], .agg #[.int .i64 2, .slice (some ⟨B', 0, none⟩) 4 4]] W (Gives W (.tuple #[.bool false, .int .i64 0]))) := fun W B B' h g => by
    have := in_any 2 (some ⟨B, 0, none⟩) 4 4 _ 2 (some ⟨B', 0, none⟩) 4 4 _ W (by decide) (by decide) h g F2 F1 (by omega) (by omega)
    rw [v2] at this; exact this
  obtain ⟨T, hT⟩ : ∃ T, T = (pickR 2 4 (four 1 (-3) 9 1)).T := ⟨_, rfl⟩
  have V3 : Hid (T 0 = (2, 1)) := by rw [hT]; exact v3.2.2
  have C3 : Hid (∀ W B, SlP W (some ⟨B, 0, none⟩) 4 (four 1 (-3) 9 1) → Calls Try.prog 32 #[.agg #[.int .i64 2, .slice (some ⟨B, 0, none⟩) 4 4]] W (ratC W 1 T 0)) := fun W B h => by
    have := incPick_any 2 (some ⟨B, 0, none⟩) 4 4 _ W (by decide) h F1 (by omega)
    rw [v3.1, v3.2.1, ← hT] at this; exact this
  clear v1 v2 v3 hT F1 F2
  go_enter Try.func35, Try.ntmps35
  go_wp2_with (fail)
  refine (two6_any _ _ _ _ _).mono ?_; rintro e w' ⟨B1, rfl, hA1, hB1, hH1, p1, rfl⟩
  have t1 : SlP (Wov w p1) (some ⟨B1, 0, none⟩) 4 (four 1 (-3) 9 1) := slp_of hH1 hB1
  clear hA1 hB1 hH1
  go_wp2_with (fail)
  refine calls_world (fun W => Below w.heap.size w W ∧ SlP W (some ⟨B1, 0, none⟩) 4 (four 1 (-3) 9 1)) ⟨by (repeat' (first | (with_reducible assumption) | (with_reducible exact Below.refl _ _) | (with_reducible refine below_wov ?_ ?_ _) | (with_reducible refine below_drewN ?_ _) | (with_reducible refine Below.drew ?_) | (with_reducible refine Below.alloc ?_ ?_ _) | (with_reducible refine Below.setCell ?_ ?_ _) | (with_reducible exact Nat.le_refl _) | omega | (simp only [World.size_alloc, World.size_setCell, World.size_drew, Wov_size, World.heap_drewN]; omega))), t1⟩ ?_
  rintro W1 ⟨hb1, m1_0⟩
  have hs1 := hb1.size
  clear t1
  refine (two6_any _ _ _ _ _).mono ?_; rintro e w' ⟨B2, rfl, hA1, hB1, hH1, p2, rfl⟩
  have t2 : SlP (Wov W1 p2) (some ⟨B2, 0, none⟩) 4 (four 1 (-1) noneB 1) := slp_of hH1 hB1
  clear hA1 hB1 hH1
  go_wp2_with (fail)
  refine calls_world (fun W => Below w.heap.size w W ∧ SlP W (some ⟨B1, 0, none⟩) 4 (four 1 (-3) 9 1) ∧ SlP W (some ⟨B2, 0, none⟩) 4 (four 1 (-1) noneB 1)) ⟨by (repeat' (first | (with_reducible assumption) | (with_reducible exact Below.refl _ _) | (with_reducible refine below_wov ?_ ?_ _) | (with_reducible refine below_drewN ?_ _) | (with_reducible refine Below.drew ?_) | (with_reducible refine Below.alloc ?_ ?_ _) | (with_reducible refine Below.setCell ?_ ?_ _) | (with_reducible exact Nat.le_refl _) | omega | (simp only [World.size_alloc, World.size_setCell, World.size_drew, Wov_size, World.heap_drewN]; omega))), m1_0.below (by (repeat' (first | (with_reducible assumption) | (with_reducible exact Below.refl _ _) | (with_reducible refine below_wov ?_ ?_ _) | (with_reducible refine below_drewN ?_ _) | (with_reducible refine Below.drew ?_) | (with_reducible refine Below.alloc ?_ ?_ _) | (with_reducible refine Below.setCell ?_ ?_ _) | (with_reducible exact Nat.le_refl _) | omega | (simp only [World.size_alloc, World.size_setCell, World.size_drew, Wov_size, World.heap_drewN]; omega)))), t2⟩ ?_
  rintro W2 ⟨hb2, m2_0, m2_1⟩
  clear hb1 m1_0 hs1
  have hs2 := hb2.size
  clear t2
  refine (C1.out _ _ _ m2_0 m2_1).mono ?_; rintro e w' ⟨rfl, q1, rfl⟩
  go_wp2_with (fail)
  refine calls_world (fun W => Below w.heap.size w W) (by (repeat' (first | (with_reducible assumption) | (with_reducible exact Below.refl _ _) | (with_reducible refine below_wov ?_ ?_ _) | (with_reducible refine below_drewN ?_ _) | (with_reducible refine Below.drew ?_) | (with_reducible refine Below.alloc ?_ ?_ _) | (with_reducible refine Below.setCell ?_ ?_ _) | (with_reducible exact Nat.le_refl _) | omega | (simp only [World.size_alloc, World.size_setCell, World.size_drew, Wov_size, World.heap_drewN]; omega)))) ?_
  intro W3 hb3
  clear hb2 m2_0 m2_1 hs2
  have hs3 := hb3.size
  refine (two6_any _ _ _ _ _).mono ?_; rintro e w' ⟨B3, rfl, hA1, hB1, hH1, p3, rfl⟩
  have t3 : SlP (Wov W3 p3) (some ⟨B3, 0, none⟩) 4 (four 1 (-1) noneB 1) := slp_of hH1 hB1
  clear hA1 hB1 hH1
  go_wp2_with (fail)
  refine calls_world (fun W => Below w.heap.size w W ∧ SlP W (some ⟨B3, 0, none⟩) 4 (four 1 (-1) noneB 1)) ⟨by (repeat' (first | (with_reducible assumption) | (with_reducible exact Below.refl _ _) | (with_reducible refine below_wov ?_ ?_ _) | (with_reducible refine below_drewN ?_ _) | (with_reducible refine Below.drew ?_) | (with_reducible refine Below.alloc ?_ ?_ _) | (with_reducible refine Below.setCell ?_ ?_ _) | (with_reducible exact Nat.le_refl _) | omega | (simp only [World.size_alloc, World.size_setCell, World.size_drew, Wov_size, World.heap_drewN]; omega))), t3⟩ ?_
  rintro W4 ⟨hb4, m4_0⟩
  clear hb3 hs3
  have hs4 := hb4.size
  clear t3
  refine (two6_any _ _ _ _ _).mono ?_; rintro e w' ⟨B4, rfl, hA1, hB1, hH1, p4, rfl⟩
  have t4 : SlP (Wov W4 p4) (some ⟨B4, 0, none⟩) 4 (four 1 (-3) 9 1) := slp_of hH1 hB1
  clear hA1 hB1 hH1
  go_wp2_with (fail)
  refine calls_world (fun W => Below w.heap.size w W ∧ SlP W (some ⟨B3, 0, none⟩) 4 (four 1 (-1) noneB 1) ∧ SlP W (some ⟨B4, 0, none⟩) 4 (four 1 (-3) 9 1)) ⟨by (repeat' (first | (with_reducible assumption) | (with_reducible exact Below.refl _ _) | (with_reducible refine below_wov ?_ ?_ _) | (with_reducible refine below_drewN ?_ _) | (with_reducible refine Below.drew ?_) | (with_reducible refine Below.alloc ?_ ?_ _) | (with_reducible refine Below.setCell ?_ ?_ _) | (with_reducible exact Nat.le_refl _) | omega | (simp only [World.size_alloc, World.size_setCell, World.size_drew, Wov_size, World.heap_drewN]; omega))), m4_0.below (by (repeat' (first | (with_reducible assumption) | (with_reducible exact Below.refl _ _) | (with_reducible refine below_wov ?_ ?_ _) | (with_reducible refine below_drewN ?_ _) | (with_reducible refine Below.drew ?_) | (with_reducible refine Below.alloc ?_ ?_ _) | (with_reducible refine Below.setCell ?_ ?_ _) | (with_reducible exact Nat.le_refl _) | omega | (simp only [World.size_alloc, World.size_setCell, World.size_drew, Wov_size, World.heap_drewN]; omega)))), t4⟩ ?_
  rintro W5 ⟨hb5, m5_0, m5_1⟩
  clear hb4 m4_0 hs4
  have hs5 := hb5.size
  clear t4
  refine (C2.out _ _ _ m5_0 m5_1).mono ?_; rintro e w' ⟨rfl, q2, rfl⟩
  go_wp2_with (fail)
  refine calls_world (fun W => Below w.heap.size w W) (by (repeat' (first | (with_reducible assumption) | (with_reducible exact Below.refl _ _) | (with_reducible refine below_wov ?_ ?_ _) | (with_reducible refine below_drewN ?_ _) | (with_reducible refine Below.drew ?_) | (with_reducible refine Below.alloc ?_ ?_ _) | (with_reducible refine Below.setCell ?_ ?_ _) | (with_reducible exact Nat.le_refl _) | omega | (simp only [World.size_alloc, World.size_setCell, World.size_drew, Wov_size, World.heap_drewN]; omega)))) ?_
  intro W6 hb6
  clear hb5 m5_0 m5_1 hs5
  have hs6 := hb6.size
  refine (two6_any _ _ _ _ _).mono ?_; rintro e w' ⟨B5, rfl, hA1, hB1, hH1, p5, rfl⟩
  have t5 : SlP (Wov W6 p5) (some ⟨B5, 0, none⟩) 4 (four 1 (-3) 9 1) := slp_of hH1 hB1
  clear hA1 hB1 hH1
  go_wp2_with (fail)
  refine calls_world (fun W => Below w.heap.size w W ∧ SlP W (some ⟨B5, 0, none⟩) 4 (four 1 (-3) 9 1)) ⟨by (repeat' (first | (with_reducible assumption) | (with_reducible exact Below.refl _ _) | (with_reducible refine below_wov ?_ ?_ _) | (with_reducible refine below_drewN ?_ _) | (with_reducible refine Below.drew ?_) | (with_reducible refine Below.alloc ?_ ?_ _) | (with_reducible refine Below.setCell ?_ ?_ _) | (with_reducible exact Nat.le_refl _) | omega | (simp only [World.size_alloc, World.size_setCell, World.size_drew, Wov_size, World.heap_drewN]; omega))), t5⟩ ?_
  rintro W7 ⟨hb7, m7_0⟩
  clear hb6 hs6
  have hs7 := hb7.size
  clear t5
  refine (C3.out _ _ m7_0).mono ?_; rintro e w' ⟨⟨pp, cp, rfl, hl⟩, q3, rfl⟩
  obtain ⟨BB, off, rfl, hBB, hcc⟩ := hl.resolve_left (by omega)
  obtain ⟨k0, k1⟩ := hcc 0 (by omega)
  rw [V3.out] at k0 k1
  simp only [Nat.zero_mul, Nat.add_zero, Nat.zero_add] at k0 k1
  clear hcc V3 C1 C2 C3
  go_wp2
  go_ret
  exact gives_bool rfl (by (repeat' (first | (with_reducible assumption) | (with_reducible exact Below.refl _ _) | (with_reducible refine below_wov ?_ ?_ _) | (with_reducible refine below_drewN ?_ _) | (with_reducible refine Below.drew ?_) | (with_reducible refine Below.alloc ?_ ?_ _) | (with_reducible refine Below.setCell ?_ ?_ _) | (with_reducible exact Nat.le_refl _) | omega | (simp only [World.size_alloc, World.size_setCell, World.size_drew, Wov_size, World.heap_drewN]; omega))))
#print axioms alive6
end Go.Proofs.Ytggjkibhffglbaa
