/- The law MinusTells: one zone less another one, and what is left of it by some, or the errors, are the document's; they stay. No condition. -/
import Derived.Test.YtbgbhfcnadjhdaaWkMinusTells
import Derived.Test.YtbgbhfcnadjhdaaFacts
namespace Go.Proofs.Ytbgbhfcnadjhdaa.minusTells
open Go.ChangeShapes Go.WideShapes Go.ChangeAt Go.RowKit
set_option linter.unusedVariables false
set_option linter.unusedSimpArgs false
set_option maxRecDepth 100000

theorem lifted (os : Os) (started : os.Started) (H : Type) (enc : TypeId × Value → H) :
    ReturnsInHanded {} Try.checked os 3 .any (Rows.minusTellsSpec.pre6 enc Try.prog Try.f3 Rows.minusTellsRow.domain false) (Rows.minusTellsSpec.post enc Try.prog Try.f3 false true false false) := by
  refine returnsInHanded_of_change (C := Try.checked) own started (by kernel_rfl) Try.func3
    (ChangeSpec.witness6 (enc := enc) (C := Try.checked) false ⟨#[], #[.agg #[.int .i64 0, .int .i64 0, .int .i64 0, .int .i64 0, .int .i64 0, .int .i64 0], .agg #[.int .i64 0, .int .i64 0, .int .i64 0, .int .i64 0, .int .i64 0, .int .i64 0], .slice none 0 0], []⟩ 8 (by kernel_rfl) (by kernel_rfl) (by kernel_rfl) (by kernel_rfl)) ?_
  intro W base args ds gs before hval0 hW hcnd _
  have hval : ∀ (j : Nat) t v, Try.f3.params[j]? = some t → args[j]? = some v → Value.okWide Try.prog W .any base t v := hval0
  have hW' := hW
  obtain ⟨p, q, hA0, hV, hpq, hfz, hnd⟩ := hW
  have hA : DataW.TrodAll enc Try.prog W 0 (fun _ => true) true Try.f3.params.toList args.toList ds p := hA0
  rw [Try.params3] at hA hval
  obtain ⟨v0, vs0, d0, ds0, p0, q0, hargs, rfl, rfl, h0, r0⟩ := trodAll_cons hA
  obtain ⟨v1, vs1, d1, ds1, p1, q1, rfl, rfl, rfl, h1, r1⟩ := trodAll_cons r0
  obtain ⟨v2, vs2, d2, ds2, p2, q2, rfl, rfl, rfl, h2, r2⟩ := trodAll_cons r1
  obtain ⟨rfl, rfl, rfl⟩ := trodAll_nil r2
  obtain rfl : args = #[v0, v1, v2] := by cases args; simp_all
  obtain ⟨rfl, rfl⟩ := trodVars_none hV
  obtain ⟨z0, rfl, wz0⟩ := open_zone (hval 0 24 v0 rfl rfl) h0
  obtain ⟨z1, rfl, wz1⟩ := open_zone (hval 1 24 v1 rfl rfl) h1
  obtain ⟨q2, cq2, L2, rfl, zS2, zF2, zN2⟩ := open_zones (hval 2 25 v2 rfl rfl) h2
  have zQ2 := open_zones_nil (hval 2 25 _ rfl rfl) h2
  clear hA0 hval0
  refine (walk z0 wz0 z1 wz1 q2 cq2 L2 W zS2 zF2 zN2 zQ2).mono fun e W' ⟨he, hg⟩ => ?_
  subst he
  exact ⟨_, rfl, law_post (by kernel_rfl) rfl rfl hW' rfl rfl rfl hg⟩

theorem fact0 : (Rows.minusTellsRow.inPlace == Try.prog.inPlace 3) = true := by kernel_rfl
theorem fact1 : (Rows.minusTellsRow.unfollowed == Try.prog.unfollowed 3) = true := by kernel_rfl
theorem fact2 : (Rows.minusTellsRow.recurses == Try.prog.recurses 3) = true := by kernel_rfl
theorem fact3 : (Rows.minusTellsRow.named == Try.prog.varsNamed 3) = true := by kernel_rfl
theorem fact4 : (Rows.minusTellsRow.plainKeys == Try.prog.plainKeys) = true := by kernel_rfl
theorem fact5 : Rows.minusTellsRow.wf (OpenSpec.ofChange Rows.minusTellsSpec) = true := by kernel_rfl
theorem fact9 : (Rows.minusTellsRow.lifted == Try.prog.liftsFinal) = true := by rw [sfact11]; rfl
theorem fact10 : (Try.prog.make == some Rows.minusTellsRow.make) = true := by rw [sfact12]; rfl
theorem closed : joinedFacts Try.prog 3 Try.f3 Rows.minusTellsSpec Rows.minusTellsRow = true := by
  unfold joinedFacts
  simp only [Bool.and_eq_true]
  repeat' apply And.intro
  all_goals first | with_reducible exact fact0 | with_reducible exact fact1 | with_reducible exact fact2 | with_reducible exact fact3 | with_reducible exact fact4 | with_reducible exact fact5 | with_reducible exact sfact6 | with_reducible exact sfact7 | with_reducible exact sfact8 | with_reducible exact sfact9 | with_reducible exact fact9 | with_reducible exact fact10 | kernel_rfl

theorem over : Rows.minusTellsRow.holds Try.pinned (OpenSpec.ofChange Rows.minusTellsSpec) :=
  OpenClaim.holds_of_wide 3 Try.f3 rfl rfl rfl rfl rfl rfl rfl ⟨rfl, rfl, rfl, rfl, rfl⟩ rfl rfl rfl rfl rfl (by kernel_rfl) Try.func3 closed
    (of_decide_eq_true (by kernel_rfl)) (by unfold Func.isWrapper; first | (rw [if_pos (by decide +kernel)]; kernel_rfl) | (rw [if_neg (by decide +kernel)]; exact ⟨rfl, rfl⟩))
    (fun os started H enc _ => lifted os started H enc)

/-- The statement. -/
theorem proved : Rows.MinusTellsSaid := over
#print axioms proved
end Go.Proofs.Ytbgbhfcnadjhdaa.minusTells
