/- The law InclKept: times that keep one keep another one in which it lies, and none from which it is apart. No condition. -/
import Derived.Test.YtggjkibhffglbaaWkInclKept
import Derived.Test.YtggjkibhffglbaaFacts
namespace Go.Proofs.Ytggjkibhffglbaa.inclKept
open Go.ChangeShapes Go.WideShapes Go.ChangeAt Go.RowKit
set_option linter.unusedVariables false
set_option linter.unusedSimpArgs false
set_option maxRecDepth 100000

theorem lifted (os : Os) (started : os.Started) (H : Type) (enc : TypeId × Value → H) :
    ReturnsInHanded {} Try.checked os 11 .any (Rows.inclKeptSpec.pre6 enc Try.prog Try.f11 Rows.inclKeptRow.domain false) (Rows.inclKeptSpec.post enc Try.prog Try.f11 false true false false) := by
  refine returnsInHanded_of_change (C := Try.checked) own started (by kernel_rfl) Try.func11
    (ChangeSpec.witness6 (enc := enc) (C := Try.checked) false ⟨#[], #[.agg #[.int .i64 0, .slice none 0 0], .agg #[.int .i64 0, .slice none 0 0], .slice none 0 0], []⟩ 8 (by kernel_rfl) (by kernel_rfl) (by kernel_rfl) (by kernel_rfl)) ?_
  intro W base args ds gs before hval0 hW hcnd _
  have hval : ∀ (j : Nat) t v, Try.f11.params[j]? = some t → args[j]? = some v → Value.okWide Try.prog W .any base t v := hval0
  have hW' := hW
  obtain ⟨p, q, hA0, hV, hpq, hfz, hnd⟩ := hW
  have hA : DataW.TrodAll enc Try.prog W 0 (fun _ => true) true Try.f11.params.toList args.toList ds p := hA0
  rw [Try.params11] at hA hval
  obtain ⟨v0, vs0, d0, ds0, p0, q0, hargs, rfl, rfl, h0, r0⟩ := trodAll_cons hA
  obtain ⟨v1, vs1, d1, ds1, p1, q1, rfl, rfl, rfl, h1, r1⟩ := trodAll_cons r0
  obtain ⟨v2, vs2, d2, ds2, p2, q2, rfl, rfl, rfl, h2, r2⟩ := trodAll_cons r1
  obtain ⟨rfl, rfl, rfl⟩ := trodAll_nil r2
  obtain rfl : args = #[v0, v1, v2] := by cases args; simp_all
  obtain ⟨rfl, rfl⟩ := trodVars_none hV
  obtain ⟨n0, pp0, N0, cap0, f0, rfl, wn0, wS0, wF0, wN0⟩ := open_dbm (hval 0 24 v0 rfl rfl) h0
  obtain ⟨n1, pp1, N1, cap1, f1, rfl, wn1, wS1, wF1, wN1⟩ := open_dbm (hval 1 24 v1 rfl rfl) h1
  obtain ⟨q2, M2, cq2, T2, rfl, tS2, tF2, tM2⟩ := open_rats (hval 2 54 v2 rfl rfl) h2
  clear hA0 hval0
  refine (walk n0 pp0 N0 cap0 f0 wn0 n1 pp1 N1 cap1 f1 wn1 q2 M2 cq2 T2 W wS0 wF0 wN0 wS1 wF1 wN1 tS2 tF2 tM2).mono fun e W' ⟨he, hg⟩ => ?_
  subst he
  exact ⟨_, rfl, law_post (by kernel_rfl) rfl rfl hW' rfl rfl rfl hg⟩

theorem fact0 : (Rows.inclKeptRow.inPlace == Try.prog.inPlace 11) = true := by kernel_rfl
theorem fact1 : (Rows.inclKeptRow.unfollowed == Try.prog.unfollowed 11) = true := by kernel_rfl
theorem fact2 : (Rows.inclKeptRow.recurses == Try.prog.recurses 11) = true := by kernel_rfl
theorem fact3 : (Rows.inclKeptRow.named == Try.prog.varsNamed 11) = true := by kernel_rfl
theorem fact4 : (Rows.inclKeptRow.plainKeys == Try.prog.plainKeys) = true := by kernel_rfl
theorem fact5 : Rows.inclKeptRow.wf (OpenSpec.ofChange Rows.inclKeptSpec) = true := by kernel_rfl
theorem fact9 : (Rows.inclKeptRow.lifted == Try.prog.liftsFinal) = true := by rw [sfact11]; rfl
theorem fact10 : (Try.prog.make == some Rows.inclKeptRow.make) = true := by rw [sfact12]; rfl
theorem closed : joinedFacts Try.prog 11 Try.f11 Rows.inclKeptSpec Rows.inclKeptRow = true := by
  unfold joinedFacts
  simp only [Bool.and_eq_true]
  repeat' apply And.intro
  all_goals first | with_reducible exact fact0 | with_reducible exact fact1 | with_reducible exact fact2 | with_reducible exact fact3 | with_reducible exact fact4 | with_reducible exact fact5 | with_reducible exact sfact6 | with_reducible exact sfact7 | with_reducible exact sfact8 | with_reducible exact sfact9 | with_reducible exact fact9 | with_reducible exact fact10 | kernel_rfl

theorem over : Rows.inclKeptRow.holds Try.pinned (OpenSpec.ofChange Rows.inclKeptSpec) :=
  OpenClaim.holds_of_wide 11 Try.f11 rfl rfl rfl rfl rfl rfl rfl ⟨rfl, rfl, rfl, rfl, rfl⟩ rfl rfl rfl rfl rfl (by kernel_rfl) Try.func11 closed
    (of_decide_eq_true (by kernel_rfl)) (by unfold Func.isWrapper; first | (rw [if_pos (by decide +kernel)]; kernel_rfl) | (rw [if_neg (by decide +kernel)]; exact ⟨rfl, rfl⟩))
    (fun os started H enc _ => lifted os started H enc)

/-- The statement. -/
theorem proved : Rows.InclKeptSaid := over
#print axioms proved
end Go.Proofs.Ytggjkibhffglbaa.inclKept
