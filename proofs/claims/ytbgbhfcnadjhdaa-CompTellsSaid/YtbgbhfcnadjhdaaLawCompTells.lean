/- The law CompTells: two zones composed, one the other way round, and its firsts, or the errors, are the document's. No condition. -/
import Derived.Test.YtbgbhfcnadjhdaaWkCompTells
import Derived.Test.YtbgbhfcnadjhdaaFacts
namespace Go.Proofs.Ytbgbhfcnadjhdaa.compTells
open Go.ChangeShapes Go.WideShapes Go.ChangeAt Go.RowKit
set_option linter.unusedVariables false
set_option linter.unusedSimpArgs false
set_option maxRecDepth 100000

theorem lifted (os : Os) (started : os.Started) (H : Type) (enc : TypeId × Value → H) :
    ReturnsInHanded {} Try.checked os 4 .any (Rows.compTellsSpec.pre6 enc Try.prog Try.f4 Rows.compTellsRow.domain false) (Rows.compTellsSpec.post enc Try.prog Try.f4 false true false false) := by
  refine returnsInHanded_of_change (C := Try.checked) own started (by kernel_rfl) Try.func4
    (ChangeSpec.witness6 (enc := enc) (C := Try.checked) false ⟨#[], #[.agg #[.int .i64 0, .int .i64 0, .int .i64 0, .int .i64 0, .int .i64 0, .int .i64 0], .agg #[.int .i64 0, .int .i64 0, .int .i64 0, .int .i64 0, .int .i64 0, .int .i64 0]], []⟩ 8 (by kernel_rfl) (by kernel_rfl) (by kernel_rfl) (by kernel_rfl)) ?_
  intro W base args ds gs before hval0 hW hcnd _
  have hval : ∀ (j : Nat) t v, Try.f4.params[j]? = some t → args[j]? = some v → Value.okWide Try.prog W .any base t v := hval0
  have hW' := hW
  obtain ⟨p, q, hA0, hV, hpq, hfz, hnd⟩ := hW
  have hA : DataW.TrodAll enc Try.prog W 0 (fun _ => true) true Try.f4.params.toList args.toList ds p := hA0
  rw [Try.params4] at hA hval
  obtain ⟨v0, vs0, d0, ds0, p0, q0, hargs, rfl, rfl, h0, r0⟩ := trodAll_cons hA
  obtain ⟨v1, vs1, d1, ds1, p1, q1, rfl, rfl, rfl, h1, r1⟩ := trodAll_cons r0
  obtain ⟨rfl, rfl, rfl⟩ := trodAll_nil r1
  obtain rfl : args = #[v0, v1] := by cases args; simp_all
  obtain ⟨rfl, rfl⟩ := trodVars_none hV
  obtain ⟨z0, rfl, wz0⟩ := open_zone (hval 0 24 v0 rfl rfl) h0
  obtain ⟨z1, rfl, wz1⟩ := open_zone (hval 1 24 v1 rfl rfl) h1
  clear hA0 hval0
  refine (walk z0 wz0 z1 wz1 W).mono fun e W' ⟨he, hg⟩ => ?_
  subst he
  exact ⟨_, rfl, law_post (by kernel_rfl) rfl rfl hW' rfl rfl rfl hg⟩

theorem fact0 : (Rows.compTellsRow.inPlace == Try.prog.inPlace 4) = true := by kernel_rfl
theorem fact1 : (Rows.compTellsRow.unfollowed == Try.prog.unfollowed 4) = true := by kernel_rfl
theorem fact2 : (Rows.compTellsRow.recurses == Try.prog.recurses 4) = true := by kernel_rfl
theorem fact3 : (Rows.compTellsRow.named == Try.prog.varsNamed 4) = true := by kernel_rfl
theorem fact4 : (Rows.compTellsRow.plainKeys == Try.prog.plainKeys) = true := by kernel_rfl
theorem fact5 : Rows.compTellsRow.wf (OpenSpec.ofChange Rows.compTellsSpec) = true := by kernel_rfl
theorem fact9 : (Rows.compTellsRow.lifted == Try.prog.liftsFinal) = true := by rw [sfact11]; rfl
theorem fact10 : (Try.prog.make == some Rows.compTellsRow.make) = true := by rw [sfact12]; rfl
theorem closed : joinedFacts Try.prog 4 Try.f4 Rows.compTellsSpec Rows.compTellsRow = true := by
  unfold joinedFacts
  simp only [Bool.and_eq_true]
  repeat' apply And.intro
  all_goals first | with_reducible exact fact0 | with_reducible exact fact1 | with_reducible exact fact2 | with_reducible exact fact3 | with_reducible exact fact4 | with_reducible exact fact5 | with_reducible exact sfact6 | with_reducible exact sfact7 | with_reducible exact sfact8 | with_reducible exact sfact9 | with_reducible exact fact9 | with_reducible exact fact10 | kernel_rfl

theorem over : Rows.compTellsRow.holds Try.pinned (OpenSpec.ofChange Rows.compTellsSpec) :=
  OpenClaim.holds_of_wide 4 Try.f4 rfl rfl rfl rfl rfl rfl rfl ⟨rfl, rfl, rfl, rfl, rfl⟩ rfl rfl rfl rfl rfl (by kernel_rfl) Try.func4 closed
    (of_decide_eq_true (by kernel_rfl)) (by unfold Func.isWrapper; first | (rw [if_pos (by decide +kernel)]; kernel_rfl) | (rw [if_neg (by decide +kernel)]; exact ⟨rfl, rfl⟩))
    (fun os started H enc _ => lifted os started H enc)

/-- The statement. -/
theorem proved : Rows.CompTellsSaid := over
#print axioms proved
end Go.Proofs.Ytbgbhfcnadjhdaa.compTells
