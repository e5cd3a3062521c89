/- The law InclPicks: times that are picked keep the matrix. No condition. -/
import Derived.Test.YtggjkibhffglbaaWkInclPicks
import Derived.Test.YtggjkibhffglbaaFacts
namespace Go.Proofs.Ytggjkibhffglbaa.inclPicks
open Go.ChangeShapes Go.WideShapes Go.ChangeAt Go.RowKit
set_option linter.unusedVariables false
set_option linter.unusedSimpArgs false
set_option maxRecDepth 100000

theorem lifted (os : Os) (started : os.Started) (H : Type) (enc : TypeId × Value → H) :
    ReturnsInHanded {} Try.checked os 8 .any (Rows.inclPicksSpec.pre6 enc Try.prog Try.f8 Rows.inclPicksRow.domain false) (Rows.inclPicksSpec.post enc Try.prog Try.f8 false true false false) := by
  refine returnsInHanded_of_change (C := Try.checked) own started (by kernel_rfl) Try.func8
    (ChangeSpec.witness6 (enc := enc) (C := Try.checked) false ⟨#[], #[.agg #[.int .i64 0, .slice none 0 0]], []⟩ 8 (by kernel_rfl) (by kernel_rfl) (by kernel_rfl) (by kernel_rfl)) ?_
  intro W base args ds gs before hval0 hW hcnd _
  have hval : ∀ (j : Nat) t v, Try.f8.params[j]? = some t → args[j]? = some v → Value.okWide Try.prog W .any base t v := hval0
  have hW' := hW
  obtain ⟨p, q, hA0, hV, hpq, hfz, hnd⟩ := hW
  have hA : DataW.TrodAll enc Try.prog W 0 (fun _ => true) true Try.f8.params.toList args.toList ds p := hA0
  rw [Try.params8] at hA hval
  obtain ⟨v0, vs0, d0, ds0, p0, q0, hargs, rfl, rfl, h0, r0⟩ := trodAll_cons hA
  obtain ⟨rfl, rfl, rfl⟩ := trodAll_nil r0
  obtain rfl : args = #[v0] := by cases args; simp_all
  obtain ⟨rfl, rfl⟩ := trodVars_none hV
  obtain ⟨n0, pp0, N0, cap0, f0, rfl, wn0, wS0, wF0, wN0⟩ := open_dbm (hval 0 24 v0 rfl rfl) h0
  clear hA0 hval0
  refine (walk n0 pp0 N0 cap0 f0 wn0 W wS0 wF0 wN0).mono fun e W' ⟨he, hg⟩ => ?_
  subst he
  exact ⟨_, rfl, law_post (by kernel_rfl) rfl rfl hW' rfl rfl rfl hg⟩

theorem fact0 : (Rows.inclPicksRow.inPlace == Try.prog.inPlace 8) = true := by kernel_rfl
theorem fact1 : (Rows.inclPicksRow.unfollowed == Try.prog.unfollowed 8) = true := by kernel_rfl
theorem fact2 : (Rows.inclPicksRow.recurses == Try.prog.recurses 8) = true := by kernel_rfl
theorem fact3 : (Rows.inclPicksRow.named == Try.prog.varsNamed 8) = true := by kernel_rfl
theorem fact4 : (Rows.inclPicksRow.plainKeys == Try.prog.plainKeys) = true := by kernel_rfl
theorem fact5 : Rows.inclPicksRow.wf (OpenSpec.ofChange Rows.inclPicksSpec) = true := by kernel_rfl
theorem fact9 : (Rows.inclPicksRow.lifted == Try.prog.liftsFinal) = true := by rw [sfact11]; rfl
theorem fact10 : (Try.prog.make == some Rows.inclPicksRow.make) = true := by rw [sfact12]; rfl
theorem closed : joinedFacts Try.prog 8 Try.f8 Rows.inclPicksSpec Rows.inclPicksRow = true := by
  unfold joinedFacts
  simp only [Bool.and_eq_true]
  repeat' apply And.intro
  all_goals first | with_reducible exact fact0 | with_reducible exact fact1 | with_reducible exact fact2 | with_reducible exact fact3 | with_reducible exact fact4 | with_reducible exact fact5 | with_reducible exact sfact6 | with_reducible exact sfact7 | with_reducible exact sfact8 | with_reducible exact sfact9 | with_reducible exact fact9 | with_reducible exact fact10 | kernel_rfl

theorem over : Rows.inclPicksRow.holds Try.pinned (OpenSpec.ofChange Rows.inclPicksSpec) :=
  OpenClaim.holds_of_wide 8 Try.f8 rfl rfl rfl rfl rfl rfl rfl ⟨rfl, rfl, rfl, rfl, rfl⟩ rfl rfl rfl rfl rfl (by kernel_rfl) Try.func8 closed
    (of_decide_eq_true (by kernel_rfl)) (by unfold Func.isWrapper; first | (rw [if_pos (by decide +kernel)]; kernel_rfl) | (rw [if_neg (by decide +kernel)]; exact ⟨rfl, rfl⟩))
    (fun os started H enc _ => lifted os started H enc)

/-- The statement. -/
theorem proved : Rows.InclPicksSaid := over
#print axioms proved
end Go.Proofs.Ytggjkibhffglbaa.inclPicks
