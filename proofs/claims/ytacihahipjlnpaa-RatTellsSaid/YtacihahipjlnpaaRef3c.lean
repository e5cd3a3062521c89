/- The walk of rallentandoref03.Made. No condition but what its premises say of the numbers between. -/
import Derived.Test.YtacihahipjlnpaaRef3b
namespace Go.Proofs.Ytacihahipjlnpaa
set_option linter.unusedSimpArgs false
set_option linter.unusedVariables false
open Go Go.RowKit

set_option maxRecDepth 10000 in
set_option maxHeartbeats 1000000 in
theorem made_wide (n p k P D : Int) (g : Nat) (w : World)
    (hn : -9223372036854775808 ≤ n ∧ n ≤ 9223372036854775807) (hp : 0 ≤ p ∧ p < k) (hk : 1 ≤ k ∧ k ≤ 9223372036854775807) (hg : 1 ≤ g) (eP : p.tdiv g = P) (eD : k.tdiv g = D) (hP : 0 ≤ P ∧ P < D) (hD : 1 ≤ D ∧ D ≤ k)
    (F1 : Hid (∀ w, Calls Try.prog 53 #[.int .i64 p, .int .i64 k] w fun e w' => e = .returned (.int .i64 g) ∧ ∃ m, w' = w.drewN m))
    (h1 : 1048576 < D) :
    Calls Try.prog 71 #[.int .i64 n, .int .i64 p, .int .i64 k] w (Gives w (.tuple #[.agg #[.int .i64 0, .int .i64 0], .bool false])) := by
  obtain ⟨a1, a2⟩ := hn
  obtain ⟨a3, a4⟩ := hp
  obtain ⟨a5, a6⟩ := hk
  obtain ⟨a7, a8⟩ := hP
  obtain ⟨a9, a10⟩ := hD
  have a11 : (g : Int) ≠ 0 := by omega
  go_enter Try.func71, Try.ntmps71
  go_wp2_with (fail)
  refine (F1.out _).mono ?_; rintro e w' ⟨rfl, m1, rfl⟩
  go_wp2
  go_returns
  exact gives_end rfl (by (repeat' (first | (with_reducible assumption) | (with_reducible exact Below.refl _ _) | (with_reducible refine below_wov ?_ ?_ _) | (with_reducible refine below_drewN ?_ _) | (with_reducible refine Below.drew ?_) | (with_reducible refine Below.alloc ?_ ?_ _) | (with_reducible refine Below.setCell ?_ ?_ _) | (with_reducible exact Nat.le_refl _) | (simp only [World.size_alloc, World.size_setCell, World.size_drew, Wov_size, World.heap_drewN]; omega))))

set_option maxRecDepth 10000 in
set_option maxHeartbeats 1000000 in
theorem made_far (n p k P D : Int) (g : Nat) (w : World)
    (hn : -9223372036854775808 ≤ n ∧ n ≤ 9223372036854775807) (hp : 0 ≤ p ∧ p < k) (hk : 1 ≤ k ∧ k ≤ 9223372036854775807) (hg : 1 ≤ g) (eP : p.tdiv g = P) (eD : k.tdiv g = D) (hP : 0 ≤ P ∧ P < D) (hD : 1 ≤ D ∧ D ≤ k)
    (F1 : Hid (∀ w, Calls Try.prog 53 #[.int .i64 p, .int .i64 k] w fun e w' => e = .returned (.int .i64 g) ∧ ∃ m, w' = w.drewN m))
    (h1 : D ≤ 1048576) (h2 : n < -2305843009213693952 ∨ 2305843009213693952 < n) :
    Calls Try.prog 71 #[.int .i64 n, .int .i64 p, .int .i64 k] w (Gives w (.tuple #[.agg #[.int .i64 0, .int .i64 0], .bool false])) := by
  obtain ⟨a1, a2⟩ := hn
  obtain ⟨a3, a4⟩ := hp
  obtain ⟨a5, a6⟩ := hk
  obtain ⟨a7, a8⟩ := hP
  obtain ⟨a9, a10⟩ := hD
  have a11 : (g : Int) ≠ 0 := by omega
  go_enter Try.func71, Try.ntmps71
  go_wp2_with (fail)
  refine (F1.out _).mono ?_; rintro e w' ⟨rfl, m1, rfl⟩
  rcases h2 with h2 | h2
  · go_wp2
    go_returns
    exact gives_end rfl (by (repeat' (first | (with_reducible assumption) | (with_reducible exact Below.refl _ _) | (with_reducible refine below_wov ?_ ?_ _) | (with_reducible refine below_drewN ?_ _) | (with_reducible refine Below.drew ?_) | (with_reducible refine Below.alloc ?_ ?_ _) | (with_reducible refine Below.setCell ?_ ?_ _) | (with_reducible exact Nat.le_refl _) | (simp only [World.size_alloc, World.size_setCell, World.size_drew, Wov_size, World.heap_drewN]; omega))))
  · go_wp2
    go_returns
    exact gives_end rfl (by (repeat' (first | (with_reducible assumption) | (with_reducible exact Below.refl _ _) | (with_reducible refine below_wov ?_ ?_ _) | (with_reducible refine below_drewN ?_ _) | (with_reducible refine Below.drew ?_) | (with_reducible refine Below.alloc ?_ ?_ _) | (with_reducible refine Below.setCell ?_ ?_ _) | (with_reducible exact Nat.le_refl _) | (simp only [World.size_alloc, World.size_setCell, World.size_drew, Wov_size, World.heap_drewN]; omega))))

set_option maxRecDepth 10000 in
set_option maxHeartbeats 1000000 in
theorem made_nover (n p k P D : Int) (g : Nat) (w : World)
    (hn : -9223372036854775808 ≤ n ∧ n ≤ 9223372036854775807) (hp : 0 ≤ p ∧ p < k) (hk : 1 ≤ k ∧ k ≤ 9223372036854775807) (hg : 1 ≤ g) (eP : p.tdiv g = P) (eD : k.tdiv g = D) (hP : 0 ≤ P ∧ P < D) (hD : 1 ≤ D ∧ D ≤ k)
    (F1 : Hid (∀ w, Calls Try.prog 53 #[.int .i64 p, .int .i64 k] w fun e w' => e = .returned (.int .i64 g) ∧ ∃ m, w' = w.drewN m))
    (h1 : D ≤ 1048576) (h2 : -2305843009213693952 ≤ n) (h3 : n < 0) (ho : 9223372036854775807 / D < n + 1 ∨ n + 1 < (-9223372036854775808 - (P - D)).tdiv D) :
    Calls Try.prog 71 #[.int .i64 n, .int .i64 p, .int .i64 k] w (Gives w (.tuple #[.agg #[.int .i64 0, .int .i64 0], .bool false])) := by
  obtain ⟨a1, a2⟩ := hn
  obtain ⟨a3, a4⟩ := hp
  obtain ⟨a5, a6⟩ := hk
  obtain ⟨a7, a8⟩ := hP
  obtain ⟨a9, a10⟩ := hD
  have a11 : (g : Int) ≠ 0 := by omega
  go_enter Try.func71, Try.ntmps71
  go_wp2_with (fail)
  refine (F1.out _).mono ?_; rintro e w' ⟨rfl, m1, rfl⟩
  go_wp2
  all_goals
    first
      | (go_returns; exact gives_end rfl (by (repeat' (first | (with_reducible assumption) | (with_reducible exact Below.refl _ _) | (with_reducible refine below_wov ?_ ?_ _) | (with_reducible refine below_drewN ?_ _) | (with_reducible refine Below.drew ?_) | (with_reducible refine Below.alloc ?_ ?_ _) | (with_reducible refine Below.setCell ?_ ?_ _) | (with_reducible exact Nat.le_refl _) | (simp only [World.size_alloc, World.size_setCell, World.size_drew, Wov_size, World.heap_drewN]; omega)))))
      | (exfalso; omega)

theorem tdiv_min (D : Int) (h : 0 < D) : 0 ≤ Int.tdiv 9223372036854775808 D ∧ Int.tdiv 9223372036854775808 D ≤ 9223372036854775808 :=
  ⟨Int.tdiv_nonneg (by omega) (by omega), Int.tdiv_le_self _ (by omega)⟩

set_option maxRecDepth 10000 in
set_option maxHeartbeats 1000000 in
theorem made_pover (n p k P D : Int) (g : Nat) (w : World)
    (hn : -9223372036854775808 ≤ n ∧ n ≤ 9223372036854775807) (hp : 0 ≤ p ∧ p < k) (hk : 1 ≤ k ∧ k ≤ 9223372036854775807) (hg : 1 ≤ g) (eP : p.tdiv g = P) (eD : k.tdiv g = D) (hP : 0 ≤ P ∧ P < D) (hD : 1 ≤ D ∧ D ≤ k)
    (F1 : Hid (∀ w, Calls Try.prog 53 #[.int .i64 p, .int .i64 k] w fun e w' => e = .returned (.int .i64 g) ∧ ∃ m, w' = w.drewN m))
    (h1 : D ≤ 1048576) (h2 : 0 ≤ n) (h3 : n ≤ 2305843009213693952) (ho : (9223372036854775807 - P) / D < n) :
    Calls Try.prog 71 #[.int .i64 n, .int .i64 p, .int .i64 k] w (Gives w (.tuple #[.agg #[.int .i64 0, .int .i64 0], .bool false])) := by
  obtain ⟨a1, a2⟩ := hn
  obtain ⟨a3, a4⟩ := hp
  obtain ⟨a5, a6⟩ := hk
  obtain ⟨a7, a8⟩ := hP
  obtain ⟨a9, a10⟩ := hD
  have a11 : (g : Int) ≠ 0 := by omega
  go_enter Try.func71, Try.ntmps71
  go_wp2_with (fail)
  refine (F1.out _).mono ?_; rintro e w' ⟨rfl, m1, rfl⟩
  obtain ⟨ht, ht2⟩ := tdiv_min D (by omega)
  by_cases hz : 0 < P
  · go_wp2
    all_goals
      first
        | (go_returns; exact gives_end rfl (by (repeat' (first | (with_reducible assumption) | (with_reducible exact Below.refl _ _) | (with_reducible refine below_wov ?_ ?_ _) | (with_reducible refine below_drewN ?_ _) | (with_reducible refine Below.drew ?_) | (with_reducible refine Below.alloc ?_ ?_ _) | (with_reducible refine Below.setCell ?_ ?_ _) | (with_reducible exact Nat.le_refl _) | (simp only [World.size_alloc, World.size_setCell, World.size_drew, Wov_size, World.heap_drewN]; omega)))))
        | (exfalso; omega)
  · obtain rfl : P = 0 := by omega
    simp only [Int.sub_zero] at ho
    go_wp2
    all_goals
      first
        | (go_returns; exact gives_end rfl (by (repeat' (first | (with_reducible assumption) | (with_reducible exact Below.refl _ _) | (with_reducible refine below_wov ?_ ?_ _) | (with_reducible refine below_drewN ?_ _) | (with_reducible refine Below.drew ?_) | (with_reducible refine Below.alloc ?_ ?_ _) | (with_reducible refine Below.setCell ?_ ?_ _) | (with_reducible exact Nat.le_refl _) | (simp only [World.size_alloc, World.size_setCell, World.size_drew, Wov_size, World.heap_drewN]; omega)))))
        | (exfalso; omega)

set_option maxRecDepth 10000 in
set_option maxHeartbeats 1000000 in
theorem made_nfine (n p k P D : Int) (g : Nat) (w : World)
    (hn : -9223372036854775808 ≤ n ∧ n ≤ 9223372036854775807) (hp : 0 ≤ p ∧ p < k) (hk : 1 ≤ k ∧ k ≤ 9223372036854775807) (hg : 1 ≤ g) (eP : p.tdiv g = P) (eD : k.tdiv g = D) (hP : 0 ≤ P ∧ P < D) (hD : 1 ≤ D ∧ D ≤ k)
    (F1 : Hid (∀ w, Calls Try.prog 53 #[.int .i64 p, .int .i64 k] w fun e w' => e = .returned (.int .i64 g) ∧ ∃ m, w' = w.drewN m))
    (h1 : D ≤ 1048576) (h2 : -2305843009213693952 ≤ n) (h3 : n < 0) (hf1 : n + 1 ≤ 9223372036854775807 / D) (hf2 : (-9223372036854775808 - (P - D)).tdiv D ≤ n + 1) (E : Int) (eE : (n + 1) * D = E) (hE : -9223372036854775808 ≤ E ∧ E ≤ 9223372036854775807) (hT : -9223372036854775808 ≤ E + (P - D) ∧ E + (P - D) ≤ 9223372036854775807) (s : Bool) (M : Pure Try.prog 54 #[.agg #[.int .i64 (E + (P - D)), .int .i64 D]] (.bool s)) :
    Calls Try.prog 71 #[.int .i64 n, .int .i64 p, .int .i64 k] w (Gives w (.tuple #[.agg #[.int .i64 (E + (P - D)), .int .i64 D], .bool s])) := by
  obtain ⟨a1, a2⟩ := hn
  obtain ⟨a3, a4⟩ := hp
  obtain ⟨a5, a6⟩ := hk
  obtain ⟨a7, a8⟩ := hP
  obtain ⟨a9, a10⟩ := hD
  have a11 : (g : Int) ≠ 0 := by omega
  go_enter Try.func71, Try.ntmps71
  go_wp2_with (fail)
  refine (F1.out _).mono ?_; rintro e w' ⟨rfl, m1, rfl⟩
  obtain ⟨a12, a13⟩ := hE
  obtain ⟨a14, a15⟩ := hT
  go_wp2_with (fail)
  go_region_with (go_at_call 54; refine (M _).mono ?_; rintro e w' ⟨rfl, p1, rfl⟩)
  all_goals
    go_wp2
    go_returns
    exact gives_end rfl (by (repeat' (first | (with_reducible assumption) | (with_reducible exact Below.refl _ _) | (with_reducible refine below_wov ?_ ?_ _) | (with_reducible refine below_drewN ?_ _) | (with_reducible refine Below.drew ?_) | (with_reducible refine Below.alloc ?_ ?_ _) | (with_reducible refine Below.setCell ?_ ?_ _) | (with_reducible exact Nat.le_refl _) | (simp only [World.size_alloc, World.size_setCell, World.size_drew, Wov_size, World.heap_drewN]; omega))))

set_option maxRecDepth 10000 in
set_option maxHeartbeats 1000000 in
theorem made_pfine (n p k P D : Int) (g : Nat) (w : World)
    (hn : -9223372036854775808 ≤ n ∧ n ≤ 9223372036854775807) (hp : 0 ≤ p ∧ p < k) (hk : 1 ≤ k ∧ k ≤ 9223372036854775807) (hg : 1 ≤ g) (eP : p.tdiv g = P) (eD : k.tdiv g = D) (hP : 0 ≤ P ∧ P < D) (hD : 1 ≤ D ∧ D ≤ k)
    (F1 : Hid (∀ w, Calls Try.prog 53 #[.int .i64 p, .int .i64 k] w fun e w' => e = .returned (.int .i64 g) ∧ ∃ m, w' = w.drewN m))
    (h1 : D ≤ 1048576) (h2 : 0 ≤ n) (h3 : n ≤ 2305843009213693952) (hf1 : n ≤ (9223372036854775807 - P) / D) (E : Int) (eE : n * D = E) (hE : -9223372036854775808 ≤ E ∧ E ≤ 9223372036854775807) (hT : -9223372036854775808 ≤ E + P ∧ E + P ≤ 9223372036854775807) (s : Bool) (M : Pure Try.prog 54 #[.agg #[.int .i64 (E + P), .int .i64 D]] (.bool s)) :
    Calls Try.prog 71 #[.int .i64 n, .int .i64 p, .int .i64 k] w (Gives w (.tuple #[.agg #[.int .i64 (E + P), .int .i64 D], .bool s])) := by
  obtain ⟨a1, a2⟩ := hn
  obtain ⟨a3, a4⟩ := hp
  obtain ⟨a5, a6⟩ := hk
  obtain ⟨a7, a8⟩ := hP
  obtain ⟨a9, a10⟩ := hD
  have a11 : (g : Int) ≠ 0 := by omega
  go_enter Try.func71, Try.ntmps71
  go_wp2_with (fail)
  refine (F1.out _).mono ?_; rintro e w' ⟨rfl, m1, rfl⟩
  obtain ⟨a12, a13⟩ := hE
  obtain ⟨a14, a15⟩ := hT
  obtain ⟨ht, ht2⟩ := tdiv_min D (by omega)
  by_cases hz : 0 < P
  · go_wp2_with (fail)
    go_region_with (go_at_call 54; refine (M _).mono ?_; rintro e w' ⟨rfl, p1, rfl⟩)
    all_goals
      go_wp2
      go_returns
      exact gives_end rfl (by (repeat' (first | (with_reducible assumption) | (with_reducible exact Below.refl _ _) | (with_reducible refine below_wov ?_ ?_ _) | (with_reducible refine below_drewN ?_ _) | (with_reducible refine Below.drew ?_) | (with_reducible refine Below.alloc ?_ ?_ _) | (with_reducible refine Below.setCell ?_ ?_ _) | (with_reducible exact Nat.le_refl _) | (simp only [World.size_alloc, World.size_setCell, World.size_drew, Wov_size, World.heap_drewN]; omega))))
  · obtain rfl : P = 0 := by omega
    simp only [Int.sub_zero, Int.add_zero] at hf1 M ⊢
    go_wp2_with (fail)
    go_region_with (go_at_call 54; refine (M _).mono ?_; rintro e w' ⟨rfl, p1, rfl⟩)
    all_goals
      go_wp2
      go_returns
      exact gives_end (by rw [Int.add_zero]) (by (repeat' (first | (with_reducible assumption) | (with_reducible exact Below.refl _ _) | (with_reducible refine below_wov ?_ ?_ _) | (with_reducible refine below_drewN ?_ _) | (with_reducible refine Below.drew ?_) | (with_reducible refine Below.alloc ?_ ?_ _) | (with_reducible refine Below.setCell ?_ ?_ _) | (with_reducible exact Nat.le_refl _) | (simp only [World.size_alloc, World.size_setCell, World.size_drew, Wov_size, World.heap_drewN]; omega))))
end Go.Proofs.Ytacihahipjlnpaa
