/- The law WinPoints: a pair is within a span just if it is in the zone, and its difference in the span; and in a window just if it is in the zone, and its end in the window. No condition. -/
import Derived.Test.YtbgbhfcnadjhdaaWkWinPoints
import Derived.Test.YtbgbhfcnadjhdaaFacts
namespace Go.Proofs.Ytbgbhfcnadjhdaa.winPoints
open Go.ChangeShapes Go.WideShapes Go.ChangeAt Go.RowKit
set_option linter.unusedVariables false
set_option linter.unusedSimpArgs false
set_option maxRecDepth 100000

theorem lifted (os : Os) (started : os.Started) (H : Type) (enc : TypeId × Value → H) :
    ReturnsInHanded {} Try.checked os 9 .any (Rows.winPointsSpec.pre6 enc Try.prog Try.f9 Rows.winPointsRow.domain false) (Rows.winPointsSpec.post enc Try.prog Try.f9 false true false false) := by
  refine returnsInHanded_of_change (C := Try.checked) own started (by kernel_rfl) Try.func9
    (ChangeSpec.witness6 (enc := enc) (C := Try.checked) false ⟨#[], #[.agg #[.int .i64 0, .int .i64 0, .int .i64 0, .int .i64 0, .int .i64 0, .int .i64 0], .agg #[.int .i64 0, .bool false, .int .i64 0, .bool false, .bool false], .int .i64 0, .int .i64 0, .agg #[.int .i64 0, .int .i64 0, .int .i64 0, .int .i64 0]], []⟩ 8 (by kernel_rfl) (by kernel_rfl) (by kernel_rfl) (by kernel_rfl)) ?_
  intro W base args ds gs before hval0 hW hcnd _
  have hval : ∀ (j : Nat) t v, Try.f9.params[j]? = some t → args[j]? = some v → Value.okWide Try.prog W .any base t v := hval0
  have hW' := hW
  obtain ⟨p, q, hA0, hV, hpq, hfz, hnd⟩ := hW
  have hA : DataW.TrodAll enc Try.prog W 0 (fun _ => true) true Try.f9.params.toList args.toList ds p := hA0
  rw [Try.params9] at hA hval
  obtain ⟨v0, vs0, d0, ds0, p0, q0, hargs, rfl, rfl, h0, r0⟩ := trodAll_cons hA
  obtain ⟨v1, vs1, d1, ds1, p1, q1, rfl, rfl, rfl, h1, r1⟩ := trodAll_cons r0
  obtain ⟨v2, vs2, d2, ds2, p2, q2, rfl, rfl, rfl, h2, r2⟩ := trodAll_cons r1
  obtain ⟨v3, vs3, d3, ds3, p3, q3, rfl, rfl, rfl, h3, r3⟩ := trodAll_cons r2
  obtain ⟨v4, vs4, d4, ds4, p4, q4, rfl, rfl, rfl, h4, r4⟩ := trodAll_cons r3
  obtain ⟨rfl, rfl, rfl⟩ := trodAll_nil r4
  obtain rfl : args = #[v0, v1, v2, v3, v4] := by cases args; simp_all
  obtain ⟨rfl, rfl⟩ := trodVars_none hV
  obtain ⟨z0, rfl, wz0⟩ := open_zone (hval 0 24 v0 rfl rfl) h0
  obtain ⟨lo1, ls1, hi1, hs1, op1, rfl, wlo1, whi1⟩ := open_span (hval 1 42 v1 rfl rfl) h1
  obtain ⟨a2, rfl, rfl, rfl, w2⟩ := open_int Try.underlying3 (hval 2 3 v2 rfl rfl) h2
  obtain ⟨a3, rfl, rfl, rfl, w3⟩ := open_int Try.underlying3 (hval 3 3 v3 rfl rfl) h3
  obtain ⟨pa4, pb4, pc4, pd4, rfl, wp4, wq4, wr4, ws4⟩ := open_point (hval 4 67 v4 rfl rfl) h4
  clear hA0 hval0
  refine (walk z0 wz0 lo1 ls1 hi1 hs1 op1 wlo1 whi1 a2 w2 a3 w3 pa4 pb4 pc4 pd4 wp4 wq4 wr4 ws4 W).mono fun e W' ⟨he, hg⟩ => ?_
  subst he
  exact ⟨_, rfl, law_post (by kernel_rfl) rfl rfl hW' rfl rfl rfl hg⟩

theorem fact0 : (Rows.winPointsRow.inPlace == Try.prog.inPlace 9) = true := by kernel_rfl
theorem fact1 : (Rows.winPointsRow.unfollowed == Try.prog.unfollowed 9) = true := by kernel_rfl
theorem fact2 : (Rows.winPointsRow.recurses == Try.prog.recurses 9) = true := by kernel_rfl
theorem fact3 : (Rows.winPointsRow.named == Try.prog.varsNamed 9) = true := by kernel_rfl
theorem fact4 : (Rows.winPointsRow.plainKeys == Try.prog.plainKeys) = true := by kernel_rfl
theorem fact5 : Rows.winPointsRow.wf (OpenSpec.ofChange Rows.winPointsSpec) = true := by kernel_rfl
theorem fact9 : (Rows.winPointsRow.lifted == Try.prog.liftsFinal) = true := by rw [sfact11]; rfl
theorem fact10 : (Try.prog.make == some Rows.winPointsRow.make) = true := by rw [sfact12]; rfl
theorem closed : joinedFacts Try.prog 9 Try.f9 Rows.winPointsSpec Rows.winPointsRow = true := by
  unfold joinedFacts
  simp only [Bool.and_eq_true]
  repeat' apply And.intro
  all_goals first | with_reducible exact fact0 | with_reducible exact fact1 | with_reducible exact fact2 | with_reducible exact fact3 | with_reducible exact fact4 | with_reducible exact fact5 | with_reducible exact sfact6 | with_reducible exact sfact7 | with_reducible exact sfact8 | with_reducible exact sfact9 | with_reducible exact fact9 | with_reducible exact fact10 | kernel_rfl

theorem over : Rows.winPointsRow.holds Try.pinned (OpenSpec.ofChange Rows.winPointsSpec) :=
  OpenClaim.holds_of_wide 9 Try.f9 rfl rfl rfl rfl rfl rfl rfl ⟨rfl, rfl, rfl, rfl, rfl⟩ rfl rfl rfl rfl rfl (by kernel_rfl) Try.func9 closed
    (of_decide_eq_true (by kernel_rfl)) (by unfold Func.isWrapper; first | (rw [if_pos (by decide +kernel)]; kernel_rfl) | (rw [if_neg (by decide +kernel)]; exact ⟨rfl, rfl⟩))
    (fun os started H enc _ => lifted os started H enc)

/-- The statement. -/
theorem proved : Rows.WinPointsSaid := over
#print axioms proved
end Go.Proofs.Ytbgbhfcnadjhdaa.winPoints
