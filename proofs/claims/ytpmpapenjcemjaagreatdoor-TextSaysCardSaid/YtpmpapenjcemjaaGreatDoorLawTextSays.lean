/- The law TextSays, as a tied card: a zone's text has the times of its points. No condition. -/
import Derived.Test.YtpmpapenjcemjaaGreatDoorWkTextSays
import Derived.Test.YtpmpapenjcemjaaGreatDoorFacts
import Derived.Test.YtpmpapenjcemjaaGreatDoorDoor2
import Derived.Test.YtpmpapenjcemjaaGreatDoorCards
import Derived.Test.YtpmpapenjcemjaaGreatDoorTie
import Derived.Lay
import Derived.LaidOnce
import Derived.LaidMore
import Derived.SevenTiedAt
namespace Go.Proofs.YtpmpapenjcemjaaGreatDoor.textSays
open Go.ChangeShapes Go.WideShapes Go.ChangeAt Go.RowKit
set_option linter.unusedVariables false
set_option linter.unusedSimpArgs false
set_option maxRecDepth 100000

theorem lifted (os : Os) (started : os.Started) (H : Type) (enc : TypeId × Value → H) :
    ReturnsInHanded {} Tryz.checked os 8 .any (fun w args => (Rows.textSaysSpec.pre enc Tryz.prog Tryz.f8 [] false w args ∧ laidMetH Tryz.prog Rows.textSaysRow.laid w) ∧ sizedMet enc Tryz.prog Tryz.f8 (OpenSpec.ofChange Rows.textSaysSpec) false w args)
      (Rows.textSaysSpec.post enc Tryz.prog Tryz.f8 false true false false) := by
  refine returnsInHanded_of_change_and (C := Tryz.checked) (X := fun w _ => laidMetH Tryz.prog Rows.textSaysRow.laid w) (fun _ _ _ hh h => h.of_heap hh) own started (by kernel_rfl) Tryz.func8
    (ChangeSpec.witness_shaped (enc := enc) (C := Tryz.checked) (os := os) (X := fun w _ => laidMetH Tryz.prog Rows.textSaysRow.laid w) false (World.laidAll Tryz.prog os Rows.textSaysRow.laid) #[.agg #[.int .i64 0, .int .i64 0, .int .i64 0, .int .i64 0, .int .i64 0, .int .i64 0], .agg #[.int .i64 0, .int .i64 0, .int .i64 0, .int .i64 0]] 8 (World.laidAll_os _ _ _)
      (World.shaped_of_ZipB (by kernel_rfl) (by kernel_rfl)) (by kernel_rfl) (by kernel_rfl) (by kernel_rfl)
      (by rw [MakeChecks.laidMetH_plain _ _ _ (by kernel_rfl)]; exact laidMet_laidAll _ (by kernel_rfl) (by kernel_rfl))) ?_
  intro W base args ds gs before hval0 hW _ _ hL _
  have hval : ∀ (j : Nat) t v, Tryz.f8.params[j]? = some t → args[j]? = some v → Value.okWide Tryz.prog W .any base t v := hval0
  have hW' := hW
  obtain ⟨p, q, hA0, hV, hpq, hfz, hnd⟩ := hW
  rw [MakeChecks.laidMetH_plain _ _ _ (by kernel_rfl)] at hL
  have hA : DataW.TrodAll enc Tryz.prog W 0 (fun _ => true) true Tryz.f8.params.toList args.toList ds p := hA0
  rw [Tryz.params8] at hA hval
  obtain ⟨v0, vs0, d0, ds0, p0, q0, hargs, rfl, rfl, h0, r0⟩ := trodAll_cons hA
  obtain ⟨v1, vs1, d1, ds1, p1, q1, rfl, rfl, rfl, h1, r1⟩ := trodAll_cons r0
  obtain ⟨rfl, rfl, rfl⟩ := trodAll_nil r1
  obtain rfl : args = #[v0, v1] := by cases args; simp_all
  obtain ⟨rfl, rfl⟩ := trodVars_none hV
  obtain ⟨z0, rfl, wz0⟩ := open_zone (hval 0 49 v0 rfl rfl) h0
  obtain ⟨pa1, pb1, pc1, pd1, rfl, wp1, wq1, wr1, ws1⟩ := open_point (hval 1 53 v1 rfl rfl) h1
  clear hA0 hval0
  have hT : Tab W := tab_of_reads (by kernel_rfl) (Lib.laidMet.reads hL (n := _) (List.mem_of_getElem? (i := 2) rfl))
  have hE : ErrR W := err_of_reads (by kernel_rfl) (Lib.laidMet.reads hL (n := _) (List.mem_of_getElem? (i := 4) rfl))
  refine (walk z0 wz0 pa1 pb1 pc1 pd1 wp1 wq1 wr1 ws1 W hT hE).mono fun e W' ⟨he, hg⟩ => ?_
  subst he
  exact ⟨_, rfl, law_post (by kernel_rfl) rfl rfl hW' rfl rfl rfl hg⟩

theorem fact0 : (Rows.textSaysRow.inPlace == Tryz.prog.inPlace 8) = true := by kernel_rfl
theorem fact1 : (Rows.textSaysRow.unfollowed == Tryz.prog.unfollowed 8) = true := by kernel_rfl
theorem fact2 : (Rows.textSaysRow.recurses == Tryz.prog.recurses 8) = true := by kernel_rfl
theorem fact3 : (Rows.textSaysRow.named == Tryz.prog.varsNamed 8) = true := by kernel_rfl
theorem fact4 : (Rows.textSaysRow.plainKeys == Tryz.prog.plainKeys) = true := by kernel_rfl
theorem fact5 : Rows.textSaysRow.wf (OpenSpec.ofChange Rows.textSaysSpec) = true := by kernel_rfl
theorem fact9 : (Rows.textSaysRow.lifted == Tryz.prog.liftsFinal) = true := by rw [sfact11]; rfl
theorem fact10 : (Tryz.prog.make == some Rows.textSaysRow.make) = true := by rw [sfact12]; rfl
theorem closed : joinedFacts Tryz.prog 8 Tryz.f8 Rows.textSaysSpec Rows.textSaysRow = true := by
  unfold joinedFacts
  simp only [Bool.and_eq_true]
  repeat' apply And.intro
  all_goals first | with_reducible exact fact0 | with_reducible exact fact1 | with_reducible exact fact2 | with_reducible exact fact3 | with_reducible exact fact4 | with_reducible exact fact5 | with_reducible exact sfact6 | with_reducible exact sfact7 | with_reducible exact sfact8 | with_reducible exact sfact9 | with_reducible exact fact9 | with_reducible exact fact10 | kernel_rfl

theorem over : Rows.textSaysRow.holds Tryz.pinned (OpenSpec.ofChange Rows.textSaysSpec) :=
  OpenClaim.holds_of_wide 8 Tryz.f8 rfl rfl rfl rfl rfl rfl rfl ⟨rfl, rfl, rfl, rfl, rfl⟩ rfl rfl rfl rfl rfl (by kernel_rfl) Tryz.func8 closed
    (of_decide_eq_true (by kernel_rfl)) (by unfold Func.isWrapper; first | (rw [if_pos (by decide +kernel)]; kernel_rfl) | (rw [if_neg (by decide +kernel)]; exact ⟨rfl, rfl⟩))
    (fun os started H enc _ => lifted os started H enc)

/-- The row's tie is given; the card. -/
theorem proved : Rows.TextSaysCardSaid :=
  Claim7.holds_tied_plain_at .later [] [.data, .data, .data, .data, .sentinel, .sentinel, .pinned] true (true, "683c61b0a21aa4c4de52eff4d3bedab25f503b60dbe2f4295f6d9f96bf2cc1d9") true
    over (fun _ h => by cases h) (by kernel_rfl) (fun _ h => by cases h) textSays_row_tie rfl ⟨rfl, rfl⟩ (by kernel_rfl) rfl
    (fun f fn hf hfn => by
      obtain rfl : f = 8 := Option.some.inj ((show Tryz.prog.funcNamed Rows.textSaysRow.func = some 8 by kernel_rfl).symm.trans hf) |>.symm
      obtain rfl : fn = Tryz.f8 := (Option.some.inj (Tryz.func8.symm.trans hfn)).symm
      exact ⟨by kernel_rfl, fun j t ht => by
        have hm : t ∈ Tryz.f8.params.toList := by simpa using Array.mem_of_getElem? ht
        have hall : (Tryz.f8.params.toList.all fun u => !Tryz.prog.wantsStandIn u) = true := by kernel_rfl
        exact (show Tryz.prog.wantsStandIn t = false by simpa using List.all_eq_true.1 hall t hm)⟩)
    (by kernel_rfl)
#print axioms proved
end Go.Proofs.YtpmpapenjcemjaaGreatDoor.textSays
