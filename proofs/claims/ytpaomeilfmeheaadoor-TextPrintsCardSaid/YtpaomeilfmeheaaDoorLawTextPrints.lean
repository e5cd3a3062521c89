/- The law TextPrints, as a tied card: zones' text, or the error, is the document's. No condition. -/
import Derived.Test.YtpaomeilfmeheaaDoorWkTextPrints
import Derived.Test.YtpaomeilfmeheaaDoorFacts
import Derived.Test.YtpaomeilfmeheaaDoorDoor
import Derived.Test.YtpaomeilfmeheaaDoorCards
import Derived.Test.YtpaomeilfmeheaaDoorTie
import Derived.Lay
import Derived.LaidOnce
import Derived.LaidMore
import Derived.SevenTiedAt
namespace Go.Proofs.YtpaomeilfmeheaaDoor.textPrints
open Go.ChangeShapes Go.WideShapes Go.ChangeAt Go.RowKit
set_option linter.unusedVariables false
set_option linter.unusedSimpArgs false
set_option maxRecDepth 100000

theorem lifted (os : Os) (started : os.Started) (H : Type) (enc : TypeId × Value → H) :
    ReturnsInHanded {} Tryd.checked os 3 .any (fun w args => (Rows.textPrintsSpec.pre enc Tryd.prog Tryd.f3 [] false w args ∧ laidMetH Tryd.prog Rows.textPrintsRow.laid w) ∧ sizedMet enc Tryd.prog Tryd.f3 (OpenSpec.ofChange Rows.textPrintsSpec) false w args)
      (Rows.textPrintsSpec.post enc Tryd.prog Tryd.f3 false true false false) := by
  refine returnsInHanded_of_change_and (C := Tryd.checked) (X := fun w _ => laidMetH Tryd.prog Rows.textPrintsRow.laid w) (fun _ _ _ hh h => h.of_heap hh) own started (by kernel_rfl) Tryd.func3
    (ChangeSpec.witness_shaped (enc := enc) (C := Tryd.checked) (os := os) (X := fun w _ => laidMetH Tryd.prog Rows.textPrintsRow.laid w) false (World.laidAll Tryd.prog os Rows.textPrintsRow.laid) #[.slice none 0 0] 8 (World.laidAll_os _ _ _)
      (World.shaped_of_ZipB (by kernel_rfl) (by kernel_rfl)) (by kernel_rfl) (by kernel_rfl) (by kernel_rfl)
      (by rw [MakeChecks.laidMetH_plain _ _ _ (by kernel_rfl)]; exact laidMet_laidAll _ (by kernel_rfl) (by kernel_rfl))) ?_
  intro W base args ds gs before hval0 hW _ _ hL _
  have hval : ∀ (j : Nat) t v, Tryd.f3.params[j]? = some t → args[j]? = some v → Value.okWide Tryd.prog W .any base t v := hval0
  have hW' := hW
  obtain ⟨p, q, hA0, hV, hpq, hfz, hnd⟩ := hW
  rw [MakeChecks.laidMetH_plain _ _ _ (by kernel_rfl)] at hL
  have hA : DataW.TrodAll enc Tryd.prog W 0 (fun _ => true) true Tryd.f3.params.toList args.toList ds p := hA0
  rw [Tryd.params3] at hA hval
  obtain ⟨v0, vs0, d0, ds0, p0, q0, hargs, rfl, rfl, h0, r0⟩ := trodAll_cons hA
  obtain ⟨rfl, rfl, rfl⟩ := trodAll_nil r0
  obtain rfl : args = #[v0] := by cases args; simp_all
  obtain ⟨rfl, rfl⟩ := trodVars_none hV
  obtain ⟨q0, cq0, L0, rfl, zS0, zF0, zN0⟩ := open_zones (hval 0 22 v0 rfl rfl) h0
  have zQ0 := open_zones_nil (hval 0 22 _ rfl rfl) h0
  clear hA0 hval0
  have hT : Tab W := tab_of_reads (by kernel_rfl) (Lib.laidMet.reads hL (n := _) (List.mem_of_getElem? (i := 2) rfl))
  refine (walk q0 cq0 L0 W zS0 zF0 zN0 zQ0 hT).mono fun e W' ⟨he, hg⟩ => ?_
  subst he
  exact ⟨_, rfl, law_post (by kernel_rfl) rfl rfl hW' rfl rfl rfl hg⟩

theorem fact0 : (Rows.textPrintsRow.inPlace == Tryd.prog.inPlace 3) = true := by kernel_rfl
theorem fact1 : (Rows.textPrintsRow.unfollowed == Tryd.prog.unfollowed 3) = true := by kernel_rfl
theorem fact2 : (Rows.textPrintsRow.recurses == Tryd.prog.recurses 3) = true := by kernel_rfl
theorem fact3 : (Rows.textPrintsRow.named == Tryd.prog.varsNamed 3) = true := by kernel_rfl
theorem fact4 : (Rows.textPrintsRow.plainKeys == Tryd.prog.plainKeys) = true := by kernel_rfl
theorem fact5 : Rows.textPrintsRow.wf (OpenSpec.ofChange Rows.textPrintsSpec) = true := by kernel_rfl
theorem fact9 : (Rows.textPrintsRow.lifted == Tryd.prog.liftsFinal) = true := by rw [sfact11]; rfl
theorem fact10 : (Tryd.prog.make == some Rows.textPrintsRow.make) = true := by rw [sfact12]; rfl
theorem closed : joinedFacts Tryd.prog 3 Tryd.f3 Rows.textPrintsSpec Rows.textPrintsRow = true := by
  unfold joinedFacts
  simp only [Bool.and_eq_true]
  repeat' apply And.intro
  all_goals first | with_reducible exact fact0 | with_reducible exact fact1 | with_reducible exact fact2 | with_reducible exact fact3 | with_reducible exact fact4 | with_reducible exact fact5 | with_reducible exact sfact6 | with_reducible exact sfact7 | with_reducible exact sfact8 | with_reducible exact sfact9 | with_reducible exact fact9 | with_reducible exact fact10 | kernel_rfl

theorem over : Rows.textPrintsRow.holds Tryd.pinned (OpenSpec.ofChange Rows.textPrintsSpec) :=
  OpenClaim.holds_of_wide 3 Tryd.f3 rfl rfl rfl rfl rfl rfl rfl ⟨rfl, rfl, rfl, rfl, rfl⟩ rfl rfl rfl rfl rfl (by kernel_rfl) Tryd.func3 closed
    (of_decide_eq_true (by kernel_rfl)) (by unfold Func.isWrapper; first | (rw [if_pos (by decide +kernel)]; kernel_rfl) | (rw [if_neg (by decide +kernel)]; exact ⟨rfl, rfl⟩))
    (fun os started H enc _ => lifted os started H enc)

/-- The row's tie is given; the card. -/
theorem proved : Rows.TextPrintsCardSaid :=
  Claim7.holds_tied_plain_at .later [] [.data, .data, .data] true (true, "1a466b8fcd001b41335d900687e4c6befb68f9aa60cab2b385168b927f180910") true
    over (fun _ h => by cases h) (by kernel_rfl) (fun _ h => by cases h) textPrints_row_tie rfl ⟨rfl, rfl⟩ (by kernel_rfl) rfl
    (fun f fn hf hfn => by
      obtain rfl : f = 3 := Option.some.inj ((show Tryd.prog.funcNamed Rows.textPrintsRow.func = some 3 by kernel_rfl).symm.trans hf) |>.symm
      obtain rfl : fn = Tryd.f3 := (Option.some.inj (Tryd.func3.symm.trans hfn)).symm
      exact ⟨by kernel_rfl, fun j t ht => by
        have hm : t ∈ Tryd.f3.params.toList := by simpa using Array.mem_of_getElem? ht
        have hall : (Tryd.f3.params.toList.all fun u => !Tryd.prog.wantsStandIn u) = true := by kernel_rfl
        exact (show Tryd.prog.wantsStandIn t = false by simpa using List.all_eq_true.1 hall t hm)⟩)
    (by kernel_rfl)
#print axioms proved
end Go.Proofs.YtpaomeilfmeheaaDoor.textPrints
