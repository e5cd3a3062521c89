/- The law TightKept: times keep what has a bound more just if they keep both, and what two have in common just if they keep both. No condition. -/
import Derived.Test.YtlcbpckinjkfeaaWkTightKept
import Derived.Test.YtlcbpckinjkfeaaFacts
namespace Go.Proofs.Ytlcbpckinjkfeaa.tightKept
open Go.ChangeShapes Go.WideShapes Go.ChangeAt Go.RowKit
set_option linter.unusedVariables false
set_option linter.unusedSimpArgs false
set_option maxRecDepth 100000

theorem lifted (os : Os) (started : os.Started) (H : Type) (enc : TypeId × Value → H) :
    ReturnsInHanded {} Try.checked os 8 .any (Rows.tightKeptSpec.pre6 enc Try.prog Try.f8 Rows.tightKeptRow.domain false) (Rows.tightKeptSpec.post enc Try.prog Try.f8 false true false false) := by
  refine returnsInHanded_of_change (C := Try.checked) own started (by kernel_rfl) Try.func8
    (ChangeSpec.witness6 (enc := enc) (C := Try.checked) false ⟨#[], #[.agg #[.int .i64 0, .slice none 0 0], .agg #[.int .i64 0, .slice none 0 0], .int .i64 0, .int .i64 0, .int .i64 0, .slice none 0 0], []⟩ 8 (by kernel_rfl) (by kernel_rfl) (by kernel_rfl) (by kernel_rfl)) ?_
  intro W base args ds gs before hval0 hW hcnd _
  have hval : ∀ (j : Nat) t v, Try.f8.params[j]? = some t → args[j]? = some v → Value.okWide Try.prog W .any base t v := hval0
  have hW' := hW
  obtain ⟨p, q, hA0, hV, hpq, hfz, hnd⟩ := hW
  have hA : DataW.TrodAll enc Try.prog W 0 (fun _ => true) true Try.f8.params.toList args.toList ds p := hA0
  rw [Try.params8] at hA hval
  obtain ⟨v0, vs0, d0, ds0, p0, q0, hargs, rfl, rfl, h0, r0⟩ := trodAll_cons hA
  obtain ⟨v1, vs1, d1, ds1, p1, q1, rfl, rfl, rfl, h1, r1⟩ := trodAll_cons r0
  obtain ⟨v2, vs2, d2, ds2, p2, q2, rfl, rfl, rfl, h2, r2⟩ := trodAll_cons r1
  obtain ⟨v3, vs3, d3, ds3, p3, q3, rfl, rfl, rfl, h3, r3⟩ := trodAll_cons r2
  obtain ⟨v4, vs4, d4, ds4, p4, q4, rfl, rfl, rfl, h4, r4⟩ := trodAll_cons r3
  obtain ⟨v5, vs5, d5, ds5, p5, q5, rfl, rfl, rfl, h5, r5⟩ := trodAll_cons r4
  obtain ⟨rfl, rfl, rfl⟩ := trodAll_nil r5
  obtain rfl : args = #[v0, v1, v2, v3, v4, v5] := by cases args; simp_all
  obtain ⟨rfl, rfl⟩ := trodVars_none hV
  obtain ⟨n0, pp0, N0, cap0, f0, rfl, wn0, wS0, wF0, wN0⟩ := open_dbm (hval 0 39 v0 rfl rfl) h0
  obtain ⟨n1, pp1, N1, cap1, f1, rfl, wn1, wS1, wF1, wN1⟩ := open_dbm (hval 1 39 v1 rfl rfl) h1
  obtain ⟨a2, rfl, rfl, rfl, w2⟩ := open_int Try.underlying3 (hval 2 3 v2 rfl rfl) h2
  obtain ⟨a3, rfl, rfl, rfl, w3⟩ := open_int Try.underlying3 (hval 3 3 v3 rfl rfl) h3
  obtain ⟨a4, rfl, rfl, rfl, w4⟩ := open_int Try.underlying24 (hval 4 24 v4 rfl rfl) h4
  obtain ⟨q5, M5, cq5, T5, rfl, tS5, tF5, tM5⟩ := open_rats (hval 5 40 v5 rfl rfl) h5
  clear hA0 hval0
  refine (walk n0 pp0 N0 cap0 f0 wn0 n1 pp1 N1 cap1 f1 wn1 a2 w2 a3 w3 a4 w4 q5 M5 cq5 T5 W wS0 wF0 wN0 wS1 wF1 wN1 tS5 tF5 tM5).mono fun e W' ⟨he, hg⟩ => ?_
  subst he
  exact ⟨_, rfl, law_post (by kernel_rfl) rfl rfl hW' rfl rfl rfl hg⟩

theorem fact0 : (Rows.tightKeptRow.inPlace == Try.prog.inPlace 8) = true := by kernel_rfl
theorem fact1 : (Rows.tightKeptRow.unfollowed == Try.prog.unfollowed 8) = true := by kernel_rfl
theorem fact2 : (Rows.tightKeptRow.recurses == Try.prog.recurses 8) = true := by kernel_rfl
theorem fact3 : (Rows.tightKeptRow.named == Try.prog.varsNamed 8) = true := by kernel_rfl
theorem fact4 : (Rows.tightKeptRow.plainKeys == Try.prog.plainKeys) = true := by kernel_rfl
theorem fact5 : Rows.tightKeptRow.wf (OpenSpec.ofChange Rows.tightKeptSpec) = true := by kernel_rfl
theorem fact9 : (Rows.tightKeptRow.lifted == Try.prog.liftsFinal) = true := by rw [sfact11]; rfl
theorem fact10 : (Try.prog.make == some Rows.tightKeptRow.make) = true := by rw [sfact12]; rfl
theorem closed : joinedFacts Try.prog 8 Try.f8 Rows.tightKeptSpec Rows.tightKeptRow = true := by
  unfold joinedFacts
  simp only [Bool.and_eq_true]
  repeat' apply And.intro
  all_goals first | with_reducible exact fact0 | with_reducible exact fact1 | with_reducible exact fact2 | with_reducible exact fact3 | with_reducible exact fact4 | with_reducible exact fact5 | with_reducible exact sfact6 | with_reducible exact sfact7 | with_reducible exact sfact8 | with_reducible exact sfact9 | with_reducible exact fact9 | with_reducible exact fact10 | kernel_rfl

theorem over : Rows.tightKeptRow.holds Try.pinned (OpenSpec.ofChange Rows.tightKeptSpec) :=
  OpenClaim.holds_of_wide 8 Try.f8 rfl rfl rfl rfl rfl rfl rfl ⟨rfl, rfl, rfl, rfl, rfl⟩ rfl rfl rfl rfl rfl (by kernel_rfl) Try.func8 closed
    (of_decide_eq_true (by kernel_rfl)) (by unfold Func.isWrapper; first | (rw [if_pos (by decide +kernel)]; kernel_rfl) | (rw [if_neg (by decide +kernel)]; exact ⟨rfl, rfl⟩))
    (fun os started H enc _ => lifted os started H enc)

/-- The statement. -/
theorem proved : Rows.TightKeptSaid := over
#print axioms proved
end Go.Proofs.Ytlcbpckinjkfeaa.tightKept
