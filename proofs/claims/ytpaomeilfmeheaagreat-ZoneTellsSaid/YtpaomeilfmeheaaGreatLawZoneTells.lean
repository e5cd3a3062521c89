/- The law ZoneTells: matrices of zones and zones of matrices, points, what lies in what, what two have in common, and a point of one, are the document's. No condition. -/
import Derived.Test.YtpaomeilfmeheaaGreatWkZoneTells
import Derived.Test.YtpaomeilfmeheaaGreatFacts
import Derived.Test.YtpaomeilfmeheaaGreatMC
namespace Go.Proofs.YtpaomeilfmeheaaGreat.zoneTells
open Go.ChangeShapes Go.WideShapes Go.ChangeAt Go.RowKit
set_option linter.unusedVariables false
set_option linter.unusedSimpArgs false
set_option maxRecDepth 100000

theorem lifted (os : Os) (started : os.Started) (H : Type) (enc : TypeId × Value → H) :
    ReturnsInHanded {} Tryz.checked os 3 .any (Rows.zoneTellsSpec.pre6 enc Tryz.prog Tryz.f3 Rows.zoneTellsRow.domain false) (Rows.zoneTellsSpec.post enc Tryz.prog Tryz.f3 false true false false) := by
  refine returnsInHanded_of_change (C := Tryz.checked) own started (by kernel_rfl) Tryz.func3
    (ChangeSpec.witness6 (enc := enc) (C := Tryz.checked) false ⟨#[], #[.agg #[.int .i64 0, .int .i64 0, .int .i64 0, .int .i64 0, .int .i64 0, .int .i64 0], .agg #[.int .i64 0, .int .i64 0, .int .i64 0, .int .i64 0, .int .i64 0, .int .i64 0], .agg #[.int .i64 0, .slice none 0 0], .agg #[.int .i64 0, .int .i64 0, .int .i64 0, .int .i64 0]], []⟩ 8 (by kernel_rfl) (by kernel_rfl) (by kernel_rfl) (by kernel_rfl)) ?_
  intro W base args ds gs before hval0 hW hcnd _
  have hval : ∀ (j : Nat) t v, Tryz.f3.params[j]? = some t → args[j]? = some v → Value.okWide Tryz.prog W .any base t v := hval0
  have hW' := hW
  obtain ⟨p, q, hA0, hV, hpq, hfz, hnd⟩ := hW
  have hA : DataW.TrodAll enc Tryz.prog W 0 (fun _ => true) true Tryz.f3.params.toList args.toList ds p := hA0
  rw [Tryz.params3] at hA hval
  obtain ⟨v0, vs0, d0, ds0, p0, q0, hargs, rfl, rfl, h0, r0⟩ := trodAll_cons hA
  obtain ⟨v1, vs1, d1, ds1, p1, q1, rfl, rfl, rfl, h1, r1⟩ := trodAll_cons r0
  obtain ⟨v2, vs2, d2, ds2, p2, q2, rfl, rfl, rfl, h2, r2⟩ := trodAll_cons r1
  obtain ⟨v3, vs3, d3, ds3, p3, q3, rfl, rfl, rfl, h3, r3⟩ := trodAll_cons r2
  obtain ⟨rfl, rfl, rfl⟩ := trodAll_nil r3
  obtain rfl : args = #[v0, v1, v2, v3] := by cases args; simp_all
  obtain ⟨rfl, rfl⟩ := trodVars_none hV
  obtain ⟨z0, rfl, wz0⟩ := open_zone (hval 0 24 v0 rfl rfl) h0
  obtain ⟨z1, rfl, wz1⟩ := open_zone (hval 1 24 v1 rfl rfl) h1
  obtain ⟨n2, pp2, N2, cap2, f2, rfl, wn2, wS2, wF2, wN2⟩ := open_dbm (hval 2 27 v2 rfl rfl) h2
  obtain ⟨pa3, pb3, pc3, pd3, rfl, wp3, wq3, wr3, ws3⟩ := open_point (hval 3 31 v3 rfl rfl) h3
  clear hA0 hval0
  refine (walk z0 wz0 z1 wz1 n2 pp2 N2 cap2 f2 wn2 pa3 pb3 pc3 pd3 wp3 wq3 wr3 ws3 W wS2 wF2 wN2).mono fun e W' ⟨he, hg⟩ => ?_
  subst he
  exact ⟨_, rfl, law_post (by kernel_rfl) rfl rfl hW' rfl rfl rfl hg⟩

theorem fact0 : (Rows.zoneTellsRow.inPlace == Tryz.prog.inPlace 3) = true := by kernel_rfl
theorem fact1 : (Rows.zoneTellsRow.unfollowed == Tryz.prog.unfollowed 3) = true := by kernel_rfl
theorem fact2 : (Rows.zoneTellsRow.recurses == Tryz.prog.recurses 3) = true := by kernel_rfl
theorem fact3 : (Rows.zoneTellsRow.named == Tryz.prog.varsNamed 3) = true := by kernel_rfl
theorem fact4 : (Rows.zoneTellsRow.plainKeys == Tryz.prog.plainKeys) = true := by kernel_rfl
theorem fact5 : Rows.zoneTellsRow.wf (OpenSpec.ofChange Rows.zoneTellsSpec) = true := by kernel_rfl
theorem fact9 : (Rows.zoneTellsRow.lifted == Tryz.prog.liftsFinal) = true := by rw [sfact11]; rfl
theorem fact10 : (Tryz.prog.make == some Rows.zoneTellsRow.make) = true := by rw [sfact12]; rfl
theorem closed : joinedFacts Tryz.prog 3 Tryz.f3 Rows.zoneTellsSpec Rows.zoneTellsRow = true := by
  unfold joinedFacts
  simp only [Bool.and_eq_true]
  repeat' apply And.intro
  all_goals first | with_reducible exact fact0 | with_reducible exact fact1 | with_reducible exact fact2 | with_reducible exact fact3 | with_reducible exact fact4 | with_reducible exact fact5 | with_reducible exact sfact6 | with_reducible exact sfact7 | with_reducible exact sfact8 | with_reducible exact sfact9 | with_reducible exact fact9 | with_reducible exact fact10 | kernel_rfl

theorem over : Rows.zoneTellsRow.holds Tryz.pinned (OpenSpec.ofChange Rows.zoneTellsSpec) :=
  OpenClaim.holds_of_wide 3 Tryz.f3 rfl rfl rfl rfl rfl rfl rfl ⟨rfl, rfl, rfl, rfl, rfl⟩ rfl rfl rfl rfl rfl (by kernel_rfl) Tryz.func3 closed
    (of_decide_eq_true (by kernel_rfl)) (by unfold Func.isWrapper; first | (rw [if_pos (by decide +kernel)]; kernel_rfl) | (rw [if_neg (by decide +kernel)]; exact ⟨rfl, rfl⟩))
    (fun os started H enc _ => lifted os started H enc)

/-- The statement. -/
theorem proved : Rows.ZoneTellsSaid := over
#print axioms proved
end Go.Proofs.YtpaomeilfmeheaaGreat.zoneTells
