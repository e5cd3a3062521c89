/- The law TextParses, as a tied card: a text's zones, or the error and its place, are the document's. No condition. -/
import Derived.Test.YtpmpapenjcemjaaGreatDoorWkTextParses
import Derived.Test.YtpmpapenjcemjaaGreatDoorFacts
import Derived.Test.YtpmpapenjcemjaaGreatDoorDoor2
import Derived.Test.YtpmpapenjcemjaaGreatDoorCards
import Derived.Test.YtpmpapenjcemjaaGreatDoorTie
import Derived.Lay
import Derived.LaidOnce
import Derived.LaidMore
import Derived.SevenTiedAt
namespace Go.Proofs.YtpmpapenjcemjaaGreatDoor.textParses
open Go.ChangeShapes Go.WideShapes Go.ChangeAt Go.RowKit
set_option linter.unusedVariables false
set_option linter.unusedSimpArgs false
set_option maxRecDepth 100000

theorem lifted (os : Os) (started : os.Started) (H : Type) (enc : TypeId × Value → H) :
    ReturnsInHanded {} Tryz.checked os 4 .any (fun w args => (Rows.textParsesSpec.pre enc Tryz.prog Tryz.f4 [] false w args ∧ laidMetH Tryz.prog Rows.textParsesRow.laid w) ∧ sizedMet enc Tryz.prog Tryz.f4 (OpenSpec.ofChange Rows.textParsesSpec) false w args)
      (Rows.textParsesSpec.post enc Tryz.prog Tryz.f4 false true false false) := by
  refine returnsInHanded_of_change_and (C := Tryz.checked) (X := fun w _ => laidMetH Tryz.prog Rows.textParsesRow.laid w) (fun _ _ _ hh h => h.of_heap hh) own started (by kernel_rfl) Tryz.func4
    (ChangeSpec.witness_shaped (enc := enc) (C := Tryz.checked) (os := os) (X := fun w _ => laidMetH Tryz.prog Rows.textParsesRow.laid w) false (World.laidAll Tryz.prog os Rows.textParsesRow.laid) #[.string ⟨#[]⟩] 8 (World.laidAll_os _ _ _)
      (World.shaped_of_ZipB (by kernel_rfl) (by kernel_rfl)) (by kernel_rfl) (by kernel_rfl) (by kernel_rfl)
      (by rw [MakeChecks.laidMetH_plain _ _ _ (by kernel_rfl)]; exact laidMet_laidAll _ (by kernel_rfl) (by kernel_rfl))) ?_
  intro W base args ds gs before hval0 hW _ _ hL _
  have hval : ∀ (j : Nat) t v, Tryz.f4.params[j]? = some t → args[j]? = some v → Value.okWide Tryz.prog W .any base t v := hval0
  have hW' := hW
  obtain ⟨p, q, hA0, hV, hpq, hfz, hnd⟩ := hW
  rw [MakeChecks.laidMetH_plain _ _ _ (by kernel_rfl)] at hL
  have hA : DataW.TrodAll enc Tryz.prog W 0 (fun _ => true) true Tryz.f4.params.toList args.toList ds p := hA0
  rw [Tryz.params4] at hA hval
  obtain ⟨v0, vs0, d0, ds0, p0, q0, hargs, rfl, rfl, h0, r0⟩ := trodAll_cons hA
  obtain ⟨rfl, rfl, rfl⟩ := trodAll_nil r0
  obtain rfl : args = #[v0] := by cases args; simp_all
  obtain ⟨rfl, rfl⟩ := trodVars_none hV
  obtain ⟨s0, rfl, rfl, rfl, sN0⟩ := open_str (hval 0 9 v0 rfl rfl) h0
  clear hA0 hval0
  have hT : Tab W := tab_of_reads (by kernel_rfl) (Lib.laidMet.reads hL (n := _) (List.mem_of_getElem? (i := 2) rfl))
  have hE : ErrR W := err_of_reads (by kernel_rfl) (Lib.laidMet.reads hL (n := _) (List.mem_of_getElem? (i := 4) rfl))
  refine (walk s0 W sN0 hT hE).mono fun e W' ⟨he, hg⟩ => ?_
  subst he
  exact ⟨_, rfl, law_post (by kernel_rfl) rfl rfl hW' rfl rfl rfl hg⟩

theorem fact0 : (Rows.textParsesRow.inPlace == Tryz.prog.inPlace 4) = true := by kernel_rfl
theorem fact1 : (Rows.textParsesRow.unfollowed == Tryz.prog.unfollowed 4) = true := by kernel_rfl
theorem fact2 : (Rows.textParsesRow.recurses == Tryz.prog.recurses 4) = true := by kernel_rfl
theorem fact3 : (Rows.textParsesRow.named == Tryz.prog.varsNamed 4) = true := by kernel_rfl
theorem fact4 : (Rows.textParsesRow.plainKeys == Tryz.prog.plainKeys) = true := by kernel_rfl
theorem fact5 : Rows.textParsesRow.wf (OpenSpec.ofChange Rows.textParsesSpec) = true := by kernel_rfl
theorem fact9 : (Rows.textParsesRow.lifted == Tryz.prog.liftsFinal) = true := by rw [sfact11]; rfl
theorem fact10 : (Tryz.prog.make == some Rows.textParsesRow.make) = true := by rw [sfact12]; rfl
theorem closed : joinedFacts Tryz.prog 4 Tryz.f4 Rows.textParsesSpec Rows.textParsesRow = true := by
  unfold joinedFacts
  simp only [Bool.and_eq_true]
  repeat' apply And.intro
  all_goals first | with_reducible exact fact0 | with_reducible exact fact1 | with_reducible exact fact2 | with_reducible exact fact3 | with_reducible exact fact4 | with_reducible exact fact5 | with_reducible exact sfact6 | with_reducible exact sfact7 | with_reducible exact sfact8 | with_reducible exact sfact9 | with_reducible exact fact9 | with_reducible exact fact10 | kernel_rfl

theorem over : Rows.textParsesRow.holds Tryz.pinned (OpenSpec.ofChange Rows.textParsesSpec) :=
  OpenClaim.holds_of_wide 4 Tryz.f4 rfl rfl rfl rfl rfl rfl rfl ⟨rfl, rfl, rfl, rfl, rfl⟩ rfl rfl rfl rfl rfl (by kernel_rfl) Tryz.func4 closed
    (of_decide_eq_true (by kernel_rfl)) (by unfold Func.isWrapper; first | (rw [if_pos (by decide +kernel)]; kernel_rfl) | (rw [if_neg (by decide +kernel)]; exact ⟨rfl, rfl⟩))
    (fun os started H enc _ => lifted os started H enc)

/-- The row's tie is given; the card. -/
theorem proved : Rows.TextParsesCardSaid :=
  Claim7.holds_tied_plain_at .later [] [.data, .data, .data, .data, .sentinel, .sentinel, .pinned] true (true, "683c61b0a21aa4c4de52eff4d3bedab25f503b60dbe2f4295f6d9f96bf2cc1d9") true
    over (fun _ h => by cases h) (by kernel_rfl) (fun _ h => by cases h) textParses_row_tie rfl ⟨rfl, rfl⟩ (by kernel_rfl) rfl
    (fun f fn hf hfn => by
      obtain rfl : f = 4 := Option.some.inj ((show Tryz.prog.funcNamed Rows.textParsesRow.func = some 4 by kernel_rfl).symm.trans hf) |>.symm
      obtain rfl : fn = Tryz.f4 := (Option.some.inj (Tryz.func4.symm.trans hfn)).symm
      exact ⟨by kernel_rfl, fun j t ht => by
        have hm : t ∈ Tryz.f4.params.toList := by simpa using Array.mem_of_getElem? ht
        have hall : (Tryz.f4.params.toList.all fun u => !Tryz.prog.wantsStandIn u) = true := by kernel_rfl
        exact (show Tryz.prog.wantsStandIn t = false by simpa using List.all_eq_true.1 hall t hm)⟩)
    (by kernel_rfl)
#print axioms proved
end Go.Proofs.YtpmpapenjcemjaaGreatDoor.textParses
