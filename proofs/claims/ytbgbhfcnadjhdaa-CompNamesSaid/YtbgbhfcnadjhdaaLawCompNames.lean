/- The law CompNames: the chapter's examples. No condition. -/
import Derived.Test.YtbgbhfcnadjhdaaWkCompNames
import Derived.Test.YtbgbhfcnadjhdaaFacts
namespace Go.Proofs.Ytbgbhfcnadjhdaa.compNames
open Go.ChangeShapes Go.WideShapes Go.ChangeAt Go.RowKit
set_option linter.unusedVariables false
set_option linter.unusedSimpArgs false
set_option maxRecDepth 100000

theorem lifted (os : Os) (started : os.Started) (H : Type) (enc : TypeId × Value → H) :
    ReturnsInHanded {} Try.checked os 7 .any (Rows.compNamesSpec.pre6 enc Try.prog Try.f7 Rows.compNamesRow.domain false) (Rows.compNamesSpec.post enc Try.prog Try.f7 false true false false) := by
  refine returnsInHanded_of_change (C := Try.checked) own started (by kernel_rfl) Try.func7
    (ChangeSpec.witness6 (enc := enc) (C := Try.checked) false ⟨#[], #[], []⟩ 8 (by kernel_rfl) (by kernel_rfl) (by kernel_rfl) (by kernel_rfl)) ?_
  intro W base args ds gs before hval0 hW hcnd _
  have hval : ∀ (j : Nat) t v, Try.f7.params[j]? = some t → args[j]? = some v → Value.okWide Try.prog W .any base t v := hval0
  have hW' := hW
  obtain ⟨p, q, hA0, hV, hpq, hfz, hnd⟩ := hW
  have hA : DataW.TrodAll enc Try.prog W 0 (fun _ => true) true Try.f7.params.toList args.toList ds p := hA0
  rw [Try.params7] at hA hval
  obtain ⟨hargs, rfl, rfl⟩ := trodAll_nil hA
  obtain rfl : args = #[] := by cases args; simp_all
  obtain ⟨rfl, rfl⟩ := trodVars_none hV
  clear hA0 hval0
  refine (walk W).mono fun e W' ⟨he, hg⟩ => ?_
  subst he
  exact ⟨_, rfl, law_post (by kernel_rfl) rfl rfl hW' rfl rfl rfl hg⟩

theorem fact0 : (Rows.compNamesRow.inPlace == Try.prog.inPlace 7) = true := by kernel_rfl
theorem fact1 : (Rows.compNamesRow.unfollowed == Try.prog.unfollowed 7) = true := by kernel_rfl
theorem fact2 : (Rows.compNamesRow.recurses == Try.prog.recurses 7) = true := by kernel_rfl
theorem fact3 : (Rows.compNamesRow.named == Try.prog.varsNamed 7) = true := by kernel_rfl
theorem fact4 : (Rows.compNamesRow.plainKeys == Try.prog.plainKeys) = true := by kernel_rfl
theorem fact5 : Rows.compNamesRow.wf (OpenSpec.ofChange Rows.compNamesSpec) = true := by kernel_rfl
theorem fact9 : (Rows.compNamesRow.lifted == Try.prog.liftsFinal) = true := by rw [sfact11]; rfl
theorem fact10 : (Try.prog.make == some Rows.compNamesRow.make) = true := by rw [sfact12]; rfl
theorem closed : joinedFacts Try.prog 7 Try.f7 Rows.compNamesSpec Rows.compNamesRow = true := by
  unfold joinedFacts
  simp only [Bool.and_eq_true]
  repeat' apply And.intro
  all_goals first | with_reducible exact fact0 | with_reducible exact fact1 | with_reducible exact fact2 | with_reducible exact fact3 | with_reducible exact fact4 | with_reducible exact fact5 | with_reducible exact sfact6 | with_reducible exact sfact7 | with_reducible exact sfact8 | with_reducible exact sfact9 | with_reducible exact fact9 | with_reducible exact fact10 | kernel_rfl

theorem over : Rows.compNamesRow.holds Try.pinned (OpenSpec.ofChange Rows.compNamesSpec) :=
  OpenClaim.holds_of_wide 7 Try.f7 rfl rfl rfl rfl rfl rfl rfl ⟨rfl, rfl, rfl, rfl, rfl⟩ rfl rfl rfl rfl rfl (by kernel_rfl) Try.func7 closed
    (of_decide_eq_true (by kernel_rfl)) (by unfold Func.isWrapper; first | (rw [if_pos (by decide +kernel)]; kernel_rfl) | (rw [if_neg (by decide +kernel)]; exact ⟨rfl, rfl⟩))
    (fun os started H enc _ => lifted os started H enc)

/-- The statement. -/
theorem proved : Rows.CompNamesSaid := over
#print axioms proved
end Go.Proofs.Ytbgbhfcnadjhdaa.compNames
