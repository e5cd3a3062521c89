/- The law RatNames: the limit's and the error's numbers, and the chapter's examples. No condition. -/
import Derived.Test.YtacihahipjlnpaaLaw3
namespace Go.Proofs.Ytacihahipjlnpaa.ratNames
open Go.ChangeShapes Go.WideShapes Go.ChangeAt Go.RowKit
set_option linter.unusedVariables false
set_option linter.unusedSimpArgs false
attribute [local go_sem] Nat.add_assoc Nat.add_lt_add_iff_left lit_lt_add

set_option maxRecDepth 10000 in
set_option maxHeartbeats 4000000 in
theorem walk (w : World) : Calls Try.prog 11 #[] w (Gives w (.bool true)) := by
  have H0 := Lib.hid alive3
  have H1 : Hid (Pure Try.prog 19 #[.int .i64 1, .int .i64 2097152] (.tuple #[.agg #[.int .i64 0, .int .i64 0], .int .i64 10])) := of_any 1 2097152 (by omega) (by omega) (by omega)
  have H2 : Hid (Pure Try.prog 39 #[.int .i64 0, .int .i64 1] (.agg #[.int .i64 0, .int .i64 1])) := lof_any 0 1 (fits_small (by omega)) (fits_small (by omega))
  have H3 : Hid (Pure Try.prog 39 #[.int .i64 1, .int .i64 1] (.agg #[.int .i64 1, .int .i64 1])) := lof_any 1 1 (fits_small (by omega)) (fits_small (by omega))
  have H4 : Hid (Pure Try.prog 29 #[.agg #[.int .i64 0, .int .i64 1], .agg #[.int .i64 1, .int .i64 1]] (.tuple #[.agg #[.int .i64 1, .int .i64 2], .int .i64 0])) := ratMid_any 0 1 1 1 (fits_small (by omega)) (fits_small (by omega))
  have H5 : Hid (Pure Try.prog 39 #[.int .i64 5, .int .i64 2] (.agg #[.int .i64 5, .int .i64 2])) := lof_any 5 2 (fits_small (by omega)) (fits_small (by omega))
  have H6 : Hid (Pure Try.prog 39 #[.int .i64 1, .int .i64 2] (.agg #[.int .i64 1, .int .i64 2])) := lof_any 1 2 (fits_small (by omega)) (fits_small (by omega))
  have H7 : Hid (Pure Try.prog 35 #[.agg #[.int .i64 5, .int .i64 2], .agg #[.int .i64 1, .int .i64 2], .int .i64 5] (.tuple #[.bool true, .int .i64 0])) := ratKeeps_any 5 2 1 2 5 (fits_small (by omega)) (fits_small (by omega)) (fits_small (by omega))
  have H8 : Hid (Pure Try.prog 35 #[.agg #[.int .i64 5, .int .i64 2], .agg #[.int .i64 1, .int .i64 2], .int .i64 4] (.tuple #[.bool false, .int .i64 0])) := ratKeeps_any 5 2 1 2 4 (fits_small (by omega)) (fits_small (by omega)) (fits_small (by omega))
  have H9 : Hid (Pure Try.prog 39 #[.int .i64 (-3), .int .i64 2] (.agg #[.int .i64 (-3), .int .i64 2])) := lof_any (-3) 2 (fits_small (by omega)) (fits_small (by omega))
  have HA : Hid (Pure Try.prog 31 #[.agg #[.int .i64 (-3), .int .i64 2]] (.tuple #[.int .i64 (-2), .bool false, .int .i64 0])) := ratFloor_any (-3) 2 (fits_small (by omega))
  go_enter Try.func11, Try.ntmps11
  go_wp2_with (fail)
  refine (H1.out _).mono ?_; rintro e w' ⟨rfl, p1, rfl⟩
  go_wp2_with (fail)
  refine (H2.out _).mono ?_; rintro e w' ⟨rfl, p2, rfl⟩
  go_wp2_with (fail)
  refine (H3.out _).mono ?_; rintro e w' ⟨rfl, p3, rfl⟩
  go_wp2_with (fail)
  refine calls_world (fun W => Below w.heap.size w W) (by (repeat' (first | (with_reducible assumption) | (with_reducible exact Below.refl _ _) | (with_reducible refine below_wov ?_ ?_ _) | (with_reducible refine below_drewN ?_ _) | (with_reducible refine Below.drew ?_) | (with_reducible refine Below.alloc ?_ ?_ _) | (with_reducible refine Below.setCell ?_ ?_ _) | (with_reducible exact Nat.le_refl _) | omega | (simp only [World.size_alloc, World.size_setCell, World.size_drew, Wov_size, World.heap_drewN]; omega)))) ?_
  intro W hB
  have hsz := hB.size
  refine (H4.out _).mono ?_; rintro e w' ⟨rfl, p4, rfl⟩
  go_wp2_with (fail)
  refine calls_world (fun V => Below w.heap.size w V ∧ V.cell? ⟨W.heap.size + p4.bl.size, 0, none⟩ = some (.int .i64 1) ∧ V.cell? ⟨W.heap.size + p4.bl.size, 1, none⟩ = some (.int .i64 2)) ⟨by (repeat' (first | (with_reducible assumption) | (with_reducible exact Below.refl _ _) | (with_reducible refine below_wov ?_ ?_ _) | (with_reducible refine below_drewN ?_ _) | (with_reducible refine Below.drew ?_) | (with_reducible refine Below.alloc ?_ ?_ _) | (with_reducible refine Below.setCell ?_ ?_ _) | (with_reducible exact Nat.le_refl _) | omega | (simp only [World.size_alloc, World.size_setCell, World.size_drew, Wov_size, World.heap_drewN]; omega))), by simp [go_sem], by simp [go_sem]⟩ ?_
  clear hB hsz
  rintro V ⟨hB, f1, f2⟩
  have hsz := hB.size
  refine (H5.out _).mono ?_; rintro e w' ⟨rfl, p5, rfl⟩
  go_wp2_with (fail)
  refine (H6.out _).mono ?_; rintro e w' ⟨rfl, p6, rfl⟩
  go_wp2_with (fail)
  refine (H7.out _).mono ?_; rintro e w' ⟨rfl, p7, rfl⟩
  go_wp2_with (fail)
  refine (H5.out _).mono ?_; rintro e w' ⟨rfl, p8, rfl⟩
  go_wp2_with (fail)
  refine (H6.out _).mono ?_; rintro e w' ⟨rfl, p9, rfl⟩
  go_wp2_with (fail)
  refine (H8.out _).mono ?_; rintro e w' ⟨rfl, p10, rfl⟩
  go_wp2_with (fail)
  refine (H9.out _).mono ?_; rintro e w' ⟨rfl, p11, rfl⟩
  go_wp2_with (fail)
  refine (HA.out _).mono ?_; rintro e w' ⟨rfl, p12, rfl⟩
  go_wp2_with (fail)
  refine wp_world (fun V => Below w.heap.size w V ∧ V.cell? ⟨W.heap.size + p4.bl.size, 0, none⟩ = some (.int .i64 1) ∧ V.cell? ⟨W.heap.size + p4.bl.size, 1, none⟩ = some (.int .i64 2)) ⟨by (repeat' (first | (with_reducible assumption) | (with_reducible exact Below.refl _ _) | (with_reducible refine below_wov ?_ ?_ _) | (with_reducible refine below_drewN ?_ _) | (with_reducible refine Below.drew ?_) | (with_reducible refine Below.alloc ?_ ?_ _) | (with_reducible refine Below.setCell ?_ ?_ _) | (with_reducible exact Nat.le_refl _) | omega | (simp only [World.size_alloc, World.size_setCell, World.size_drew, Wov_size, World.heap_drewN]; omega))), by simp [go_sem, f1], by simp [go_sem, f2]⟩ ?_
  clear hB hsz f1 f2
  rintro V ⟨hB, f1, f2⟩
  have hsz := hB.size
  clear H1 H2 H3 H4 H5 H7 H8 H9 HA
  refine wp_region_wov (by kernel_rfl) (by kernel_rfl) ?_
  repeat (go_big_quiet_step (first | (go_at_call 26; exact H0.out.at _ _) | (go_at_call 39; exact H6.out.at _ _)))
  refine wpQuiet_nil ?_
  rintro _ ⟨pq, rfl⟩
  go_wp2
  go_ret
  exact gives_bool (by simp) (by (repeat' (first | (with_reducible assumption) | (with_reducible exact Below.refl _ _) | (with_reducible refine below_wov ?_ ?_ _) | (with_reducible refine below_drewN ?_ _) | (with_reducible refine Below.drew ?_) | (with_reducible refine Below.alloc ?_ ?_ _) | (with_reducible refine Below.setCell ?_ ?_ _) | (with_reducible exact Nat.le_refl _) | omega | (simp only [World.size_alloc, World.size_setCell, World.size_drew, Wov_size, World.heap_drewN]; omega))))

set_option maxRecDepth 100000 in
theorem lifted (os : Os) (started : os.Started) (H : Type) (enc : TypeId × Value → H) :
    ReturnsInHanded {} Try.checked os 11 .any (Rows.ratNamesSpec.pre6 enc Try.prog Try.f11 Rows.ratNamesRow.domain false) (Rows.ratNamesSpec.post enc Try.prog Try.f11 false true false false) := by
  refine returnsInHanded_of_change (C := Try.checked) own started (by kernel_rfl) Try.func11
    (ChangeSpec.witness6 (enc := enc) (C := Try.checked) false ⟨#[], #[], []⟩ 8 (by kernel_rfl) (by kernel_rfl) (by kernel_rfl) (by kernel_rfl)) ?_
  intro W base args ds gs before hval0 hW hcnd _
  have hval : ∀ (j : Nat) t v, Try.f11.params[j]? = some t → args[j]? = some v → Value.okWide Try.prog W .any base t v := hval0
  have hW' := hW
  obtain ⟨p, q, hA0, hV, hpq, hfz, hnd⟩ := hW
  have hA : DataW.TrodAll enc Try.prog W 0 (fun _ => true) true Try.f11.params.toList args.toList ds p := hA0
  rw [Try.params11] at hA hval
  obtain ⟨hargs, rfl, rfl⟩ := trodAll_nil hA
  obtain rfl : args = #[] := by cases args; simp_all
  obtain ⟨rfl, rfl⟩ := trodVars_none hV
  clear hA0 hval0
  refine (walk  W).mono fun e W' ⟨he, hg⟩ => ?_
  subst he
  exact ⟨_, rfl, law_post (by kernel_rfl) rfl rfl hW' rfl rfl rfl hg⟩

theorem over : Rows.ratNamesRow.holds Try.pinned (OpenSpec.ofChange Rows.ratNamesSpec) :=
  OpenClaim.holds_of_wide 11 Try.f11 rfl rfl rfl rfl rfl rfl rfl ⟨rfl, rfl, rfl, rfl, rfl⟩ rfl rfl rfl rfl rfl (by kernel_rfl) Try.func11 (by kernel_rfl)
    (of_decide_eq_true (by kernel_rfl)) (by unfold Func.isWrapper; first | (rw [if_pos (by decide +kernel)]; kernel_rfl) | (rw [if_neg (by decide +kernel)]; exact ⟨rfl, rfl⟩))
    (fun os started H enc _ => lifted os started H enc)

/-- The statement. -/
theorem proved : Rows.RatNamesSaid := over
#print axioms proved
end Go.Proofs.Ytacihahipjlnpaa.ratNames
