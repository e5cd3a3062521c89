/- The law TextJoins, as a tied card: the text of two lists is that of both. No condition. -/
import Derived.Test.YtpmpapenjcemjaaGreatDoorWkTextJoins
import Derived.Test.YtpmpapenjcemjaaGreatDoorFacts
import Derived.Test.YtpmpapenjcemjaaGreatDoorDoor2
import Derived.Test.YtpmpapenjcemjaaGreatDoorCards
import Derived.Test.YtpmpapenjcemjaaGreatDoorTie
import Derived.Lay
import Derived.LaidOnce
import Derived.LaidMore
import Derived.SevenTiedAt
namespace Go.Proofs.YtpmpapenjcemjaaGreatDoor.textJoins
open Go.ChangeShapes Go.WideShapes Go.ChangeAt Go.RowKit
set_option linter.unusedVariables false
set_option linter.unusedSimpArgs false
set_option maxRecDepth 100000

theorem lifted (os : Os) (started : os.Started) (H : Type) (enc : TypeId × Value → H) :
    ReturnsInHanded {} Tryz.checked os 7 .any (fun w args => (Rows.textJoinsSpec.pre enc Tryz.prog Tryz.f7 [] false w args ∧ laidMetH Tryz.prog Rows.textJoinsRow.laid w) ∧ sizedMet enc Tryz.prog Tryz.f7 (OpenSpec.ofChange Rows.textJoinsSpec) false w args)
      (Rows.textJoinsSpec.post enc Tryz.prog Tryz.f7 false true false false) := by
  refine returnsInHanded_of_change_and (C := Tryz.checked) (X := fun w _ => laidMetH Tryz.prog Rows.textJoinsRow.laid w) (fun _ _ _ hh h => h.of_heap hh) own started (by kernel_rfl) Tryz.func7
    (ChangeSpec.witness_shaped (enc := enc) (C := Tryz.checked) (os := os) (X := fun w _ => laidMetH Tryz.prog Rows.textJoinsRow.laid w) false (World.laidAll Tryz.prog os Rows.textJoinsRow.laid) #[.slice none 0 0, .slice none 0 0] 8 (World.laidAll_os _ _ _)
      (World.shaped_of_ZipB (by kernel_rfl) (by kernel_rfl)) (by kernel_rfl) (by kernel_rfl) (by kernel_rfl)
      (by rw [MakeChecks.laidMetH_plain _ _ _ (by kernel_rfl)]; exact laidMet_laidAll _ (by kernel_rfl) (by kernel_rfl))) ?_
  intro W base args ds gs before hval0 hW _ _ hL _
  have hval : ∀ (j : Nat) t v, Tryz.f7.params[j]? = some t → args[j]? = some v → Value.okWide Tryz.prog W .any base t v := hval0
  have hW' := hW
  obtain ⟨p, q, hA0, hV, hpq, hfz, hnd⟩ := hW
  rw [MakeChecks.laidMetH_plain _ _ _ (by kernel_rfl)] at hL
  have hA : DataW.TrodAll enc Tryz.prog W 0 (fun _ => true) true Tryz.f7.params.toList args.toList ds p := hA0
  rw [Tryz.params7] at hA hval
  obtain ⟨v0, vs0, d0, ds0, p0, q0, hargs, rfl, rfl, h0, r0⟩ := trodAll_cons hA
  obtain ⟨v1, vs1, d1, ds1, p1, q1, rfl, rfl, rfl, h1, r1⟩ := trodAll_cons r0
  obtain ⟨rfl, rfl, rfl⟩ := trodAll_nil r1
  obtain rfl : args = #[v0, v1] := by cases args; simp_all
  obtain ⟨rfl, rfl⟩ := trodVars_none hV
  obtain ⟨q0, cq0, L0, rfl, zS0, zF0, zN0⟩ := open_zones (hval 0 36 v0 rfl rfl) h0
  have zQ0 := open_zones_nil (hval 0 36 _ rfl rfl) h0
  obtain ⟨q1, cq1, L1, rfl, zS1, zF1, zN1⟩ := open_zones (hval 1 36 v1 rfl rfl) h1
  have zQ1 := open_zones_nil (hval 1 36 _ rfl rfl) h1
  clear hA0 hval0
  have hT : Tab W := tab_of_reads (by kernel_rfl) (Lib.laidMet.reads hL (n := _) (List.mem_of_getElem? (i := 2) rfl))
  have hE : ErrR W := err_of_reads (by kernel_rfl) (Lib.laidMet.reads hL (n := _) (List.mem_of_getElem? (i := 4) rfl))
  refine (walk q0 cq0 L0 q1 cq1 L1 W zS0 zF0 zN0 zQ0 zS1 zF1 zN1 zQ1 hT hE).mono fun e W' ⟨he, hg⟩ => ?_
  subst he
  exact ⟨_, rfl, law_post (by kernel_rfl) rfl rfl hW' rfl rfl rfl hg⟩

theorem fact0 : (Rows.textJoinsRow.inPlace == Tryz.prog.inPlace 7) = true := by kernel_rfl
theorem fact1 : (Rows.textJoinsRow.unfollowed == Tryz.prog.unfollowed 7) = true := by kernel_rfl
theorem fact2 : (Rows.textJoinsRow.recurses == Tryz.prog.recurses 7) = true := by kernel_rfl
theorem fact3 : (Rows.textJoinsRow.named == Tryz.prog.varsNamed 7) = true := by kernel_rfl
theorem fact4 : (Rows.textJoinsRow.plainKeys == Tryz.prog.plainKeys) = true := by kernel_rfl
theorem fact5 : Rows.textJoinsRow.wf (OpenSpec.ofChange Rows.textJoinsSpec) = true := by kernel_rfl
theorem fact9 : (Rows.textJoinsRow.lifted == Tryz.prog.liftsFinal) = true := by rw [sfact11]; rfl
theorem fact10 : (Tryz.prog.make == some Rows.textJoinsRow.make) = true := by rw [sfact12]; rfl
theorem closed : joinedFacts Tryz.prog 7 Tryz.f7 Rows.textJoinsSpec Rows.textJoinsRow = true := by
  unfold joinedFacts
  simp only [Bool.and_eq_true]
  repeat' apply And.intro
  all_goals first | with_reducible exact fact0 | with_reducible exact fact1 | with_reducible exact fact2 | with_reducible exact fact3 | with_reducible exact fact4 | with_reducible exact fact5 | with_reducible exact sfact6 | with_reducible exact sfact7 | with_reducible exact sfact8 | with_reducible exact sfact9 | with_reducible exact fact9 | with_reducible exact fact10 | kernel_rfl

theorem over : Rows.textJoinsRow.holds Tryz.pinned (OpenSpec.ofChange Rows.textJoinsSpec) :=
  OpenClaim.holds_of_wide 7 Tryz.f7 rfl rfl rfl rfl rfl rfl rfl ⟨rfl, rfl, rfl, rfl, rfl⟩ rfl rfl rfl rfl rfl (by kernel_rfl) Tryz.func7 closed
    (of_decide_eq_true (by kernel_rfl)) (by unfold Func.isWrapper; first | (rw [if_pos (by decide +kernel)]; kernel_rfl) | (rw [if_neg (by decide +kernel)]; exact ⟨rfl, rfl⟩))
    (fun os started H enc _ => lifted os started H enc)

/-- The row's tie is given; the card. -/
theorem proved : Rows.TextJoinsCardSaid :=
  Claim7.holds_tied_plain_at .later [] [.data, .data, .data, .data, .sentinel, .sentinel, .pinned] true (true, "683c61b0a21aa4c4de52eff4d3bedab25f503b60dbe2f4295f6d9f96bf2cc1d9") true
    over (fun _ h => by cases h) (by kernel_rfl) (fun _ h => by cases h) textJoins_row_tie rfl ⟨rfl, rfl⟩ (by kernel_rfl) rfl
    (fun f fn hf hfn => by
      obtain rfl : f = 7 := Option.some.inj ((show Tryz.prog.funcNamed Rows.textJoinsRow.func = some 7 by kernel_rfl).symm.trans hf) |>.symm
      obtain rfl : fn = Tryz.f7 := (Option.some.inj (Tryz.func7.symm.trans hfn)).symm
      exact ⟨by kernel_rfl, fun j t ht => by
        have hm : t ∈ Tryz.f7.params.toList := by simpa using Array.mem_of_getElem? ht
        have hall : (Tryz.f7.params.toList.all fun u => !Tryz.prog.wantsStandIn u) = true := by kernel_rfl
        exact (show Tryz.prog.wantsStandIn t = false by simpa using List.all_eq_true.1 hall t hm)⟩)
    (by kernel_rfl)
#print axioms proved
end Go.Proofs.YtpmpapenjcemjaaGreatDoor.textJoins
