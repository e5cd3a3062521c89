/- The law TightTells: a matrix with a bound more, what two have in common, one with a clock in a span, are the document's. No condition. -/
import Derived.Test.YtggjkibhffglbaaWkTightTells
import Derived.Test.YtggjkibhffglbaaFacts
namespace Go.Proofs.Ytggjkibhffglbaa.tightTells
open Go.ChangeShapes Go.WideShapes Go.ChangeAt Go.RowKit
set_option linter.unusedVariables false
set_option linter.unusedSimpArgs false
set_option maxRecDepth 100000

theorem lifted (os : Os) (started : os.Started) (H : Type) (enc : TypeId × Value → H) :
    ReturnsInHanded {} Try.checked os 3 .any (Rows.tightTellsSpec.pre6 enc Try.prog Try.f3 Rows.tightTellsRow.domain false) (Rows.tightTellsSpec.post enc Try.prog Try.f3 false true false false) := by
  refine returnsInHanded_of_change (C := Try.checked) own started (by kernel_rfl) Try.func3
    (ChangeSpec.witness6 (enc := enc) (C := Try.checked) false ⟨#[], #[.agg #[.int .i64 0, .slice none 0 0], .agg #[.int .i64 0, .slice none 0 0], .int .i64 0, .int .i64 0, .int .i64 0, .agg #[.int .i64 0, .bool false, .int .i64 0, .bool false, .bool false]], []⟩ 8 (by kernel_rfl) (by kernel_rfl) (by kernel_rfl) (by kernel_rfl)) ?_
  intro W base args ds gs before hval0 hW hcnd _
  have hval : ∀ (j : Nat) t v, Try.f3.params[j]? = some t → args[j]? = some v → Value.okWide Try.prog W .any base t v := hval0
  have hW' := hW
  obtain ⟨p, q, hA0, hV, hpq, hfz, hnd⟩ := hW
  have hA : DataW.TrodAll enc Try.prog W 0 (fun _ => true) true Try.f3.params.toList args.toList ds p := hA0
  rw [Try.params3] at hA hval
  obtain ⟨v0, vs0, d0, ds0, p0, q0, hargs, rfl, rfl, h0, r0⟩ := trodAll_cons hA
  obtain ⟨v1, vs1, d1, ds1, p1, q1, rfl, rfl, rfl, h1, r1⟩ := trodAll_cons r0
  obtain ⟨v2, vs2, d2, ds2, p2, q2, rfl, rfl, rfl, h2, r2⟩ := trodAll_cons r1
  obtain ⟨v3, vs3, d3, ds3, p3, q3, rfl, rfl, rfl, h3, r3⟩ := trodAll_cons r2
  obtain ⟨v4, vs4, d4, ds4, p4, q4, rfl, rfl, rfl, h4, r4⟩ := trodAll_cons r3
  obtain ⟨v5, vs5, d5, ds5, p5, q5, rfl, rfl, rfl, h5, r5⟩ := trodAll_cons r4
  obtain ⟨rfl, rfl, rfl⟩ := trodAll_nil r5
  obtain rfl : args = #[v0, v1, v2, v3, v4, v5] := by cases args; simp_all
  obtain ⟨rfl, rfl⟩ := trodVars_none hV
  obtain ⟨n0, pp0, N0, cap0, f0, rfl, wn0, wS0, wF0, wN0⟩ := open_dbm (hval 0 24 v0 rfl rfl) h0
  obtain ⟨n1, pp1, N1, cap1, f1, rfl, wn1, wS1, wF1, wN1⟩ := open_dbm (hval 1 24 v1 rfl rfl) h1
  obtain ⟨a2, rfl, rfl, rfl, w2⟩ := open_int Try.underlying3 (hval 2 3 v2 rfl rfl) h2
  obtain ⟨a3, rfl, rfl, rfl, w3⟩ := open_int Try.underlying3 (hval 3 3 v3 rfl rfl) h3
  obtain ⟨a4, rfl, rfl, rfl, w4⟩ := open_int Try.underlying25 (hval 4 25 v4 rfl rfl) h4
  obtain ⟨lo5, ls5, hi5, hs5, op5, rfl, wlo5, whi5⟩ := open_span (hval 5 27 v5 rfl rfl) h5
  clear hA0 hval0
  refine (walk n0 pp0 N0 cap0 f0 wn0 n1 pp1 N1 cap1 f1 wn1 a2 w2 a3 w3 a4 w4 lo5 ls5 hi5 hs5 op5 wlo5 whi5 W wS0 wF0 wN0 wS1 wF1 wN1).mono fun e W' ⟨he, hg⟩ => ?_
  subst he
  exact ⟨_, rfl, law_post (by kernel_rfl) rfl rfl hW' rfl rfl rfl hg⟩

theorem fact0 : (Rows.tightTellsRow.inPlace == Try.prog.inPlace 3) = true := by kernel_rfl
theorem fact1 : (Rows.tightTellsRow.unfollowed == Try.prog.unfollowed 3) = true := by kernel_rfl
theorem fact2 : (Rows.tightTellsRow.recurses == Try.prog.recurses 3) = true := by kernel_rfl
theorem fact3 : (Rows.tightTellsRow.named == Try.prog.varsNamed 3) = true := by kernel_rfl
theorem fact4 : (Rows.tightTellsRow.plainKeys == Try.prog.plainKeys) = true := by kernel_rfl
theorem fact5 : Rows.tightTellsRow.wf (OpenSpec.ofChange Rows.tightTellsSpec) = true := by kernel_rfl
theorem fact9 : (Rows.tightTellsRow.lifted == Try.prog.liftsFinal) = true := by rw [sfact11]; rfl
theorem fact10 : (Try.prog.make == some Rows.tightTellsRow.make) = true := by rw [sfact12]; rfl
theorem closed : joinedFacts Try.prog 3 Try.f3 Rows.tightTellsSpec Rows.tightTellsRow = true := by
  unfold joinedFacts
  simp only [Bool.and_eq_true]
  repeat' apply And.intro
  all_goals first | with_reducible exact fact0 | with_reducible exact fact1 | with_reducible exact fact2 | with_reducible exact fact3 | with_reducible exact fact4 | with_reducible exact fact5 | with_reducible exact sfact6 | with_reducible exact sfact7 | with_reducible exact sfact8 | with_reducible exact sfact9 | with_reducible exact fact9 | with_reducible exact fact10 | kernel_rfl

theorem over : Rows.tightTellsRow.holds Try.pinned (OpenSpec.ofChange Rows.tightTellsSpec) :=
  OpenClaim.holds_of_wide 3 Try.f3 rfl rfl rfl rfl rfl rfl rfl ⟨rfl, rfl, rfl, rfl, rfl⟩ rfl rfl rfl rfl rfl (by kernel_rfl) Try.func3 closed
    (of_decide_eq_true (by kernel_rfl)) (by unfold Func.isWrapper; first | (rw [if_pos (by decide +kernel)]; kernel_rfl) | (rw [if_neg (by decide +kernel)]; exact ⟨rfl, rfl⟩))
    (fun os started H enc _ => lifted os started H enc)

/-- The statement. -/
theorem proved : Rows.TightTellsSaid := over
#print axioms proved
end Go.Proofs.Ytggjkibhffglbaa.tightTells
