/- What law08's statements begin with: its helpers and its alive. No condition. -/
import Derived.Test.YtnjhjgkekmjmdaaH4
import Derived.Test.YtnjhjgkekmjmdaaH6
import Derived.Test.YtnjhjgkekmjmdaaH7
import Derived.Test.YtnjhjgkekmjmdaaH12
import Derived.Test.YtnjhjgkekmjmdaaH13
import Derived.Test.YtnjhjgkekmjmdaaH11
namespace Go.Proofs.Ytnjhjgkekmjmdaa
set_option linter.unusedSimpArgs false
set_option linter.unusedVariables false
open Go Go.RowKit Go.Shelf
attribute [local go_sem] Nat.add_assoc Nat.add_lt_add_iff_left lit_lt_add

set_option maxRecDepth 10000 in
set_option maxHeartbeats 1000000 in
theorem from8_any (lo : Int) (s : Bool) : Pure Try.prog 69 #[.int .i64 lo, .bool s] (.agg #[.int .i64 lo, .bool s, .int .i64 0, .bool false, .bool true]) := by
  intro w
  go_enter Try.func69, Try.ntmps69
  go_wp2
  go_returns
  exact gives_end rfl (by (repeat' (first | (with_reducible assumption) | (with_reducible exact Below.refl _ _) | (with_reducible refine below_wov ?_ ?_ _) | (with_reducible refine below_drewN ?_ _) | (with_reducible refine Below.drew ?_) | (with_reducible refine Below.alloc ?_ ?_ _) | (with_reducible refine Below.setCell ?_ ?_ _) | (with_reducible exact Nat.le_refl _) | omega | (simp only [World.size_alloc, World.size_setCell, World.size_drew, Wov_size, World.heap_drewN]; omega))))
set_option maxRecDepth 10000 in
set_option maxHeartbeats 1000000 in
theorem up8_any (lo hi : Int) (s : Bool) : Pure Try.prog 70 #[.int .i64 lo, .int .i64 hi, .bool s] (.agg #[.int .i64 lo, .bool false, .int .i64 hi, .bool s, .bool false]) := by
  intro w
  go_enter Try.func70, Try.ntmps70
  go_wp2
  go_returns
  exact gives_end rfl (by (repeat' (first | (with_reducible assumption) | (with_reducible exact Below.refl _ _) | (with_reducible refine below_wov ?_ ?_ _) | (with_reducible refine below_drewN ?_ _) | (with_reducible refine Below.drew ?_) | (with_reducible refine Below.alloc ?_ ?_ _) | (with_reducible refine Below.setCell ?_ ?_ _) | (with_reducible exact Nat.le_refl _) | omega | (simp only [World.size_alloc, World.size_setCell, World.size_drew, Wov_size, World.heap_drewN]; omega))))
set_option maxRecDepth 10000 in
set_option maxHeartbeats 1000000 in
theorem at8_any {t u a b c d : Int} (f1 : fits64 t) (f2 : fits64 u) (h1 : ofR t 2 = (a, b, 0)) (h2 : ofR u 2 = (c, d, 0)) : Pure Try.prog 71 #[.int .i64 t, .int .i64 u] (.agg #[.int .i64 a, .int .i64 b, .int .i64 c, .int .i64 d]) := by
  intro w
  have O1 : Hid (∀ w, Calls Try.prog 63 #[.int .i64 t, .int .i64 2] w (Gives w (.tuple #[.agg #[.int .i64 a, .int .i64 b], .int .i64 0]))) := fun w => by
    have := of_any t 2 f1.1 f1.2 (by omega) w
    rw [h1] at this; exact this
  have O2 : Hid (∀ w, Calls Try.prog 63 #[.int .i64 u, .int .i64 2] w (Gives w (.tuple #[.agg #[.int .i64 c, .int .i64 d], .int .i64 0]))) := fun w => by
    have := of_any u 2 f2.1 f2.2 (by omega) w
    rw [h2] at this; exact this
  clear f1 f2 h1 h2
  go_enter Try.func71, Try.ntmps71
  go_wp2_with (fail)
  refine (O1.out _).mono ?_; rintro e w' ⟨rfl, q1, rfl⟩
  go_wp2_with (fail)
  refine (O2.out _).mono ?_; rintro e w' ⟨rfl, q2, rfl⟩
  go_wp2
  go_returns
  exact gives_end rfl (by (repeat' (first | (with_reducible assumption) | (with_reducible exact Below.refl _ _) | (with_reducible refine below_wov ?_ ?_ _) | (with_reducible refine below_drewN ?_ _) | (with_reducible refine Below.drew ?_) | (with_reducible refine Below.alloc ?_ ?_ _) | (with_reducible refine Below.setCell ?_ ?_ _) | (with_reducible exact Nat.le_refl _) | omega | (simp only [World.size_alloc, World.size_setCell, World.size_drew, Wov_size, World.heap_drewN]; omega))))

set_option maxRecDepth 100000 in
set_option maxHeartbeats 4000000 in
theorem some8_any : Pure Try.prog 67 #[] (.tuple #[.agg #[.int .i64 4, .int .i64 1, .int .i64 7, .int .i64 (-1), .int .i64 7, .int .i64 0], .int .i64 0]) := by
  intro w
  have v : (makeZ (betwS 0 false 2 true false) (betwS 1 false 3 false false) (betwS 0 true 0 false true)).2 = 0 ∧ (makeZ (betwS 0 false 2 true false) (betwS 1 false 3 false false) (betwS 0 true 0 false true)).1 0 = 4 ∧ (makeZ (betwS 0 false 2 true false) (betwS 1 false 3 false false) (betwS 0 true 0 false true)).1 1 = 1 ∧ (makeZ (betwS 0 false 2 true false) (betwS 1 false 3 false false) (betwS 0 true 0 false true)).1 2 = 7 ∧ (makeZ (betwS 0 false 2 true false) (betwS 1 false 3 false false) (betwS 0 true 0 false true)).1 3 = -1 ∧ (makeZ (betwS 0 false 2 true false) (betwS 1 false 3 false false) (betwS 0 true 0 false true)).1 4 = 7 ∧ (makeZ (betwS 0 false 2 true false) (betwS 1 false 3 false false) (betwS 0 true 0 false true)).1 5 = 0 := by decide +kernel
  have MK : Hid (∀ w, Calls Try.prog 24 #[.agg #[.int .i64 0, .bool false, .int .i64 2, .bool true, .bool false], .agg #[.int .i64 1, .bool false, .int .i64 3, .bool false, .bool false], .agg #[.int .i64 0, .bool true, .int .i64 0, .bool false, .bool true]] w (Gives w (.tuple #[.agg #[.int .i64 4, .int .i64 1, .int .i64 7, .int .i64 (-1), .int .i64 7, .int .i64 0], .int .i64 0]))) := fun w => by
    have := zmake_any 0 false 2 true false 1 false 3 false false 0 true 0 false true w (by decide) (by decide) (by decide) (by decide) (by decide) (by decide)
    unfold zoneR zoneV at this
    rw [v.1, v.2.1, v.2.2.1, v.2.2.2.1, v.2.2.2.2.1, v.2.2.2.2.2.1, v.2.2.2.2.2.2] at this
    exact this
  clear v
  go_enter Try.func67, Try.ntmps67
  go_wp2_with (fail)
  refine (up8_any _ _ _ _).mono ?_; rintro e w' ⟨rfl, q1, rfl⟩
  go_wp2_with (fail)
  refine (up8_any _ _ _ _).mono ?_; rintro e w' ⟨rfl, q2, rfl⟩
  go_wp2_with (fail)
  refine (from8_any _ _ _).mono ?_; rintro e w' ⟨rfl, q3, rfl⟩
  go_wp2_with (fail)
  refine (MK.out _).mono ?_; rintro e w' ⟨rfl, q4, rfl⟩
  go_wp2
  go_returns
  exact gives_end rfl (by (repeat' (first | (with_reducible assumption) | (with_reducible exact Below.refl _ _) | (with_reducible refine below_wov ?_ ?_ _) | (with_reducible refine below_drewN ?_ _) | (with_reducible refine Below.drew ?_) | (with_reducible refine Below.alloc ?_ ?_ _) | (with_reducible refine Below.setCell ?_ ?_ _) | (with_reducible exact Nat.le_refl _) | omega | (simp only [World.size_alloc, World.size_setCell, World.size_drew, Wov_size, World.heap_drewN]; omega))))

set_option maxRecDepth 100000 in
set_option maxHeartbeats 8000000 in
theorem alive8 : Pure Try.prog 56 #[] (.bool true) := by
  intro w
  have v1 : hasZ (row6 4 1 7 (-1) 7 0) (pt 1 2 1 1) = (true, 0) := by decide +kernel
  have v2 : hasZ (row6 4 1 7 (-1) 7 0) (pt 1 1 1 1) = (false, 0) := by decide +kernel
  have fz : FitsZ (row6 4 1 7 (-1) 7 0) := fun i hi => by
    rcases six hi with rfl | rfl | rfl | rfl | rfl | rfl <;> decide
  have A1 := Lib.hid (at8_any (t := 1) (u := 2) (a := 1) (b := 2) (c := 1) (d := 1) (by decide) (by decide) (by decide) (by decide))
  have A2 := Lib.hid (at8_any (t := 2) (u := 2) (a := 1) (b := 1) (c := 1) (d := 1) (by decide) (by decide) (by decide) (by decide))
  have H1 : Hid (∀ w, Calls Try.prog 59 #[.agg #[.int .i64 4, .int .i64 1, .int .i64 7, .int .i64 (-1), .int .i64 7, .int .i64 0], .agg #[.int .i64 1, .int .i64 2, .int .i64 1, .int .i64 1]] w (Gives w (.tuple #[.bool true, .int .i64 0]))) := fun w => by
    have := zhas_any (row6 4 1 7 (-1) 7 0) 1 2 1 1 w fz (by decide) (by decide) (by decide) (by decide)
    rw [v1] at this; exact this
  have H2 : Hid (∀ w, Calls Try.prog 59 #[.agg #[.int .i64 4, .int .i64 1, .int .i64 7, .int .i64 (-1), .int .i64 7, .int .i64 0], .agg #[.int .i64 1, .int .i64 1, .int .i64 1, .int .i64 1]] w (Gives w (.tuple #[.bool false, .int .i64 0]))) := fun w => by
    have := zhas_any (row6 4 1 7 (-1) 7 0) 1 1 1 1 w fz (by decide) (by decide) (by decide) (by decide)
    rw [v2] at this; exact this
  have SO := Lib.hid some8_any
  clear v1 v2 fz
  go_enter Try.func56, Try.ntmps56
  go_wp2_with (fail)
  refine (SO.out _).mono ?_; rintro e w' ⟨rfl, q1, rfl⟩
  go_wp2_with (fail)
  obtain ⟨A, hA⟩ : ∃ A, w.heap.size + q1.bl.size = A := ⟨_, rfl⟩
  rw [hA]
  refine wp_world (fun W => Below w.heap.size w W ∧ A < W.heap.size ∧ W.cell? ⟨A, 0, none⟩ = some (.int .i64 4) ∧ W.cell? ⟨A, 1, none⟩ = some (.int .i64 1) ∧ W.cell? ⟨A, 2, none⟩ = some (.int .i64 7) ∧ W.cell? ⟨A, 3, none⟩ = some (.int .i64 (-1)) ∧ W.cell? ⟨A, 4, none⟩ = some (.int .i64 7) ∧ W.cell? ⟨A, 5, none⟩ = some (.int .i64 0)) ⟨by (repeat' (first | (with_reducible assumption) | (with_reducible exact Below.refl _ _) | (with_reducible refine below_wov ?_ ?_ _) | (with_reducible refine below_drewN ?_ _) | (with_reducible refine Below.drew ?_) | (with_reducible refine Below.alloc ?_ ?_ _) | (with_reducible refine Below.setCell ?_ ?_ _) | (with_reducible exact Nat.le_refl _) | omega | (simp only [World.size_alloc, World.size_setCell, World.size_drew, Wov_size, World.heap_drewN]; omega))), by rw [← hA]; simp only [World.size_alloc, Wov_size]; omega, by rw [← hA]; simp [go_sem], by rw [← hA]; simp [go_sem], by rw [← hA]; simp [go_sem], by rw [← hA]; simp [go_sem], by rw [← hA]; simp [go_sem], by rw [← hA]; simp [go_sem]⟩ ?_
  rintro W ⟨hbW, lA, c0, c1, c2, c3, c4, c5⟩
  have hsW := hbW.size
  clear SO hA
  go_region_held3 (fun w' => w'.cell? ⟨A, 0, none⟩ = some (.int .i64 4) ∧ w'.cell? ⟨A, 1, none⟩ = some (.int .i64 1) ∧ w'.cell? ⟨A, 2, none⟩ = some (.int .i64 7) ∧ w'.cell? ⟨A, 3, none⟩ = some (.int .i64 (-1)) ∧ w'.cell? ⟨A, 4, none⟩ = some (.int .i64 7) ∧ w'.cell? ⟨A, 5, none⟩ = some (.int .i64 0))
    ((simp [go_sem, *]))
    (first
    | (go_at_call 71; (refine (A1.out _).mono ?_; rintro e w' ⟨rfl, qa, rfl⟩))
    | (go_at_call 59; (refine (H1.out _).mono ?_; rintro e w' ⟨rfl, qb, rfl⟩)))
  simp only [Exit.then]
  refine ‹∀ (a : Act) (w_1 : World), Code.wp Try.prog _ (bodyPost Try.prog _ _) a w_1 → _› _ _ ?_
  refine wp_world (fun X => Below w.heap.size w X ∧ A < X.heap.size ∧ X.cell? ⟨A, 0, none⟩ = some (.int .i64 4) ∧ X.cell? ⟨A, 1, none⟩ = some (.int .i64 1) ∧ X.cell? ⟨A, 2, none⟩ = some (.int .i64 7) ∧ X.cell? ⟨A, 3, none⟩ = some (.int .i64 (-1)) ∧ X.cell? ⟨A, 4, none⟩ = some (.int .i64 7) ∧ X.cell? ⟨A, 5, none⟩ = some (.int .i64 0)) ⟨by (repeat' (first | (with_reducible assumption) | (with_reducible exact Below.refl _ _) | (with_reducible refine below_wov ?_ ?_ _) | (with_reducible refine below_drewN ?_ _) | (with_reducible refine Below.drew ?_) | (with_reducible refine Below.alloc ?_ ?_ _) | (with_reducible refine Below.setCell ?_ ?_ _) | (with_reducible exact Nat.le_refl _) | omega | (simp only [World.size_alloc, World.size_setCell, World.size_drew, Wov_size, World.heap_drewN]; omega))), by (first | omega | ((simp only [World.size_alloc, World.size_setCell, World.size_drew, Wov_size, World.heap_drewN, Array.size_append]) <;> omega)), by simp [go_sem, *], by simp [go_sem, *], by simp [go_sem, *], by simp [go_sem, *], by simp [go_sem, *], by simp [go_sem, *]⟩ ?_
  rintro X ⟨hbX, lX, x0, x1, x2, x3, x4, x5⟩
  have hsX := hbX.size
  clear hbW hsW lA c0 c1 c2 c3 c4 c5 A1 H1
  go_wp2_with (fail)
  go_region_held3 (fun w' => w'.cell? ⟨A, 0, none⟩ = some (.int .i64 4) ∧ w'.cell? ⟨A, 1, none⟩ = some (.int .i64 1) ∧ w'.cell? ⟨A, 2, none⟩ = some (.int .i64 7) ∧ w'.cell? ⟨A, 3, none⟩ = some (.int .i64 (-1)) ∧ w'.cell? ⟨A, 4, none⟩ = some (.int .i64 7) ∧ w'.cell? ⟨A, 5, none⟩ = some (.int .i64 0))
    ((simp [go_sem, *]))
    (first
    | (go_at_call 71; (refine (A2.out _).mono ?_; rintro e w' ⟨rfl, qa, rfl⟩))
    | (go_at_call 59; (refine (H2.out _).mono ?_; rintro e w' ⟨rfl, qb, rfl⟩)))
  simp only [Exit.then]
  refine ‹∀ (a : Act) (w_1 : World), Code.wp Try.prog _ (bodyPost Try.prog _ _) a w_1 → _› _ _ ?_
  have E : eq6 4 1 7 (-1) 7 0 4 1 7 (-1) 7 0 = true := by decide
  go_wp2
  go_ret
  exact gives_bool rfl (by (repeat' (first | (with_reducible assumption) | (with_reducible exact Below.refl _ _) | (with_reducible refine below_wov ?_ ?_ _) | (with_reducible refine below_drewN ?_ _) | (with_reducible refine Below.drew ?_) | (with_reducible refine Below.alloc ?_ ?_ _) | (with_reducible refine Below.setCell ?_ ?_ _) | (with_reducible exact Nat.le_refl _) | omega | (simp only [World.size_alloc, World.size_setCell, World.size_drew, Wov_size, World.heap_drewN]; omega))))
#print axioms alive8
end Go.Proofs.Ytnjhjgkekmjmdaa
