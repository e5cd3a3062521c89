/- The law DbmNames: the limits' and the error's numbers, and the chapter's examples. No condition. -/
import Derived.Test.YtacihahipjlnpaaD20
import Derived.Test.YtacihahipjlnpaaD17
namespace Go.Proofs.Ytacihahipjlnpaa.dbmNames
open Go.ChangeShapes Go.WideShapes Go.ChangeAt Go.RowKit
set_option linter.unusedVariables false
set_option linter.unusedSimpArgs false
attribute [local go_sem] Nat.add_assoc Nat.add_lt_add_iff_left lit_lt_add

set_option maxRecDepth 10000 in
set_option maxHeartbeats 4000000 in
theorem walk (w : World) : Calls Try.prog 14 #[] w (Gives w (.bool true)) := by
  have H0 := Lib.hid alive4
  have F4 : Fits 4 (four 1 (-3) 9 1) := four_fits (by decide) (by decide) (by decide) (by decide)
  have K1 : Hid (∀ W B q, SlP W (some ⟨B, 0, none⟩) 4 (four 1 (-3) 9 1) → W.cell? ⟨q, 0, none⟩ = some (.int .i64 5) → W.cell? ⟨q, 1, none⟩ = some (.int .i64 2) → q < W.heap.size →
      Calls Try.prog 41 #[.agg #[.int .i64 2, .slice (some ⟨B, 0, none⟩) 4 4], .slice (some ⟨q, 0, none⟩) 1 1] W (Gives W (.tuple #[.bool true, .int .i64 0]))) := fun W B q h c0 c1 hq => by
    have := keepsD_any 2 4 (some ⟨B, 0, none⟩) 4 (four 1 (-3) 9 1) (some ⟨q, 0, none⟩) 1 1 (fun _ => (5, 2)) W (by decide) h F4 (by omega)
      (.inr ⟨q, 0, rfl, hq, fun x hx => by cases x with
        | zero => exact ⟨c0, c1⟩
        | succ x => omega⟩) (fun x hx => ⟨(by decide : fits64 5), (by decide : fits64 2)⟩) (by omega)
    rw [show keepsD 2 4 (four 1 (-3) 9 1) 1 (fun _ => (5, 2)) = (true, 0) by decide +kernel] at this
    exact this
  have K2 : Hid (∀ W B, SlP W (some ⟨B, 0, none⟩) 4 (four 1 (-3) 9 1) → Calls Try.prog 41 #[.agg #[.int .i64 2, .slice (some ⟨B, 0, none⟩) 4 4], .slice none 0 0] W (Gives W (.tuple #[.bool false, .int .i64 40]))) := fun W B h => by
    have := keepsD_any 2 4 (some ⟨B, 0, none⟩) 4 (four 1 (-3) 9 1) none 0 0 (fun _ => (5, 2)) W (by decide) h F4 (by omega) (.inl rfl) (fun x hx => by omega) (by omega)
    rw [show keepsD 2 4 (four 1 (-3) 9 1) 0 (fun _ => (5, 2)) = (false, 40) by decide +kernel] at this
    exact this
  have K3 : Hid (∀ W, Calls Try.prog 22 #[.agg #[.int .i64 0, .slice none 0 0]] W (closePost W 0 0 (none, 8))) := fun W => by
    have := close_any 0 none 0 0 (fun _ => 0) W (by decide) (.inl rfl) (fun x hx => by omega) (by omega)
    rwa [show closeR 0 0 (fun _ => 0) = (none, 8) from rfl] at this
  clear F4
  go_enter Try.func14, Try.ntmps14
  go_wp2_with (fail)
  refine (two_any _ _ _ _ _).mono ?_; rintro e w' ⟨B1, rfl, hA1, hB1, hH1, p1, rfl⟩
  have HH1 := Lib.hid hH1
  have HB1 := Lib.hid hB1
  clear hH1 hA1 hB1
  go_wp2_with (fail)
  refine (K1.out _ _ _ (slp_later HH1.out HB1.out ?_) ?_ ?_ ?_).mono ?_
  · (try simp only [Wov_Wov, Array.append_assoc]); (repeat' (first | (with_reducible assumption) | (with_reducible exact Below.refl _ _) | (with_reducible refine below_wov ?_ ?_ _) | (with_reducible refine below_drewN ?_ _) | (with_reducible refine Below.drew ?_) | (with_reducible refine Below.alloc ?_ ?_ _) | (with_reducible refine Below.setCell ?_ ?_ _) | (with_reducible exact Nat.le_refl _) | omega | (simp only [World.size_alloc, World.size_setCell, World.size_drew, Wov_size, World.heap_drewN]; omega)))
  · simp [go_sem]
  · simp [go_sem]
  · simp only [World.size_alloc, Wov_size]; omega
  rintro e w' ⟨rfl, p2, rfl⟩
  clear HH1 HB1
  go_wp2_with (fail)
  refine (two_any _ _ _ _ _).mono ?_; rintro e w' ⟨B2, rfl, hA2, hB2, hH2, p3, rfl⟩
  have HH2 := Lib.hid hH2
  have HB2 := Lib.hid hB2
  clear hH2 hA2 hB2
  go_wp2_with (fail)
  refine (K2.out _ _ (slp_later HH2.out HB2.out ?_)).mono ?_
  · (try simp only [Wov_Wov, Array.append_assoc]); (repeat' (first | (with_reducible assumption) | (with_reducible exact Below.refl _ _) | (with_reducible refine below_wov ?_ ?_ _) | (with_reducible refine below_drewN ?_ _) | (with_reducible refine Below.drew ?_) | (with_reducible refine Below.alloc ?_ ?_ _) | (with_reducible refine Below.setCell ?_ ?_ _) | (with_reducible exact Nat.le_refl _) | omega | (simp only [World.size_alloc, World.size_setCell, World.size_drew, Wov_size, World.heap_drewN]; omega)))
  rintro e w' ⟨rfl, p4, rfl⟩
  clear HH2 HB2
  go_wp2_with (fail)
  refine (K3.out _).mono ?_; rintro e w' ⟨rfl, p5, rfl⟩
  go_wp2_with (fail)
  refine (H0.out _).mono ?_; rintro e w' ⟨rfl, p6, rfl⟩
  go_wp2
  go_ret
  exact gives_bool (by simp) (by (repeat' (first | (with_reducible assumption) | (with_reducible exact Below.refl _ _) | (with_reducible refine below_wov ?_ ?_ _) | (with_reducible refine below_drewN ?_ _) | (with_reducible refine Below.drew ?_) | (with_reducible refine Below.alloc ?_ ?_ _) | (with_reducible refine Below.setCell ?_ ?_ _) | (with_reducible exact Nat.le_refl _) | omega | (simp only [World.size_alloc, World.size_setCell, World.size_drew, Wov_size, World.heap_drewN]; omega))))

set_option maxRecDepth 100000 in
theorem lifted (os : Os) (started : os.Started) (H : Type) (enc : TypeId × Value → H) :
    ReturnsInHanded {} Try.checked os 14 .any (Rows.dbmNamesSpec.pre6 enc Try.prog Try.f14 Rows.dbmNamesRow.domain false) (Rows.dbmNamesSpec.post enc Try.prog Try.f14 false true false false) := by
  refine returnsInHanded_of_change (C := Try.checked) own started (by kernel_rfl) Try.func14
    (ChangeSpec.witness6 (enc := enc) (C := Try.checked) false ⟨#[], #[], []⟩ 8 (by kernel_rfl) (by kernel_rfl) (by kernel_rfl) (by kernel_rfl)) ?_
  intro W base args ds gs before hval0 hW hcnd _
  have hval : ∀ (j : Nat) t v, Try.f14.params[j]? = some t → args[j]? = some v → Value.okWide Try.prog W .any base t v := hval0
  have hW' := hW
  obtain ⟨p, q, hA0, hV, hpq, hfz, hnd⟩ := hW
  have hA : DataW.TrodAll enc Try.prog W 0 (fun _ => true) true Try.f14.params.toList args.toList ds p := hA0
  rw [Try.params14] at hA hval
  obtain ⟨hargs, rfl, rfl⟩ := trodAll_nil hA
  obtain rfl : args = #[] := by cases args; simp_all
  obtain ⟨rfl, rfl⟩ := trodVars_none hV
  clear hA0 hval0
  refine (walk W).mono fun e W' ⟨he, hg⟩ => ?_
  subst he
  exact ⟨_, rfl, law_post (by kernel_rfl) rfl rfl hW' rfl rfl rfl hg⟩

theorem over : Rows.dbmNamesRow.holds Try.pinned (OpenSpec.ofChange Rows.dbmNamesSpec) :=
  OpenClaim.holds_of_wide 14 Try.f14 rfl rfl rfl rfl rfl rfl rfl ⟨rfl, rfl, rfl, rfl, rfl⟩ rfl rfl rfl rfl rfl (by kernel_rfl) Try.func14 (by kernel_rfl)
    (of_decide_eq_true (by kernel_rfl)) (by unfold Func.isWrapper; first | (rw [if_pos (by decide +kernel)]; kernel_rfl) | (rw [if_neg (by decide +kernel)]; exact ⟨rfl, rfl⟩))
    (fun os started H enc _ => lifted os started H enc)

/-- The statement. -/
theorem proved : Rows.DbmNamesSaid := over
#print axioms proved
end Go.Proofs.Ytacihahipjlnpaa.dbmNames
