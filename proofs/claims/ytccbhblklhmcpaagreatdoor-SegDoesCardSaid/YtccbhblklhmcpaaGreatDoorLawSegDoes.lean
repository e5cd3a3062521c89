/- The law SegDoes, as a tied card: signals are parsed and printed as the document says. No condition. -/
import Derived.Test.YtccbhblklhmcpaaGreatDoorR12
import Derived.Test.YtccbhblklhmcpaaGreatDoorFacts
import Derived.Test.YtccbhblklhmcpaaGreatDoorDoorQ
import Derived.Test.YtccbhblklhmcpaaGreatDoorCards
import Derived.Test.YtccbhblklhmcpaaGreatDoorTie
import Derived.Lay
import Derived.LaidOnce
import Derived.LaidMore
import Derived.SevenTiedAt
namespace Go.Proofs.YtccbhblklhmcpaaGreatDoor.segDoes
open Go.ChangeShapes Go.WideShapes Go.ChangeAt Go.RowKit
set_option linter.unusedVariables false
set_option linter.unusedSimpArgs false
set_option maxRecDepth 100000

theorem walk (q : Option Addr) (c : Nat) (N : List (List UInt8)) (S : List UInt8) (p : Option Addr) (cl : Nat) (L : List Sg) (W : World) (hQ : SlS W q N) (hq : ∀ A o, q = some ⟨A, o, none⟩ → A < W.heap.size) (hN : N.length ≤ 140737488355328) (hX : ∀ x, x ∈ N → x.length ≤ 140737488355328) (hSn : S.length ≤ 140737488355328) (hS : SlK sgD W p L) (h8 : ∀ s, s ∈ L → s.2 < 256) (hf : ∀ s, s ∈ L → -9223372036854775808 ≤ s.1 ∧ s.1 ≤ 9223372036854775807) (hLn : L.length ≤ 140737488355328) (hL : Laid W) :
    Calls Tryz.prog 3 #[.slice q N.length c, .string (bs S), .slice p L.length cl] W (Gives W (.bool true)) :=
  (segDoes_any W hL q p c cl N S L hQ hS hq hN hX hSn h8 hf hLn).mono fun e w h => gives_below h.1 h.2
theorem lifted (os : Os) (started : os.Started) (H : Type) (enc : TypeId × Value → H) :
    ReturnsInHanded {} Tryz.checked os 3 .any (fun w args => (Rows.segDoesSpec.pre enc Tryz.prog Tryz.f3 [] false w args ∧ laidMetH Tryz.prog Rows.segDoesRow.laid w) ∧ sizedMet enc Tryz.prog Tryz.f3 (OpenSpec.ofChange Rows.segDoesSpec) false w args)
      (Rows.segDoesSpec.post enc Tryz.prog Tryz.f3 false true false false) := by
  refine returns_laid_shaped (C := Tryz.checked) (X := fun w _ => laidMetH Tryz.prog Rows.segDoesRow.laid w) (fun _ _ _ hh h => h.of_heap hh) own started (by kernel_rfl) Tryz.func3
    (ChangeSpec.witness_shaped (enc := enc) (C := Tryz.checked) (os := os) (X := fun w _ => laidMetH Tryz.prog Rows.segDoesRow.laid w) false (World.laidAll Tryz.prog os Rows.segDoesRow.laid) #[.slice none 0 0, .string ⟨#[]⟩, .slice none 0 0] 8 (World.laidAll_os _ _ _)
      (World.shaped_of_ZipB (by kernel_rfl) (by kernel_rfl)) (by kernel_rfl) (by kernel_rfl) (by kernel_rfl)
      (by rw [MakeChecks.laidMetH_plain _ _ _ (by kernel_rfl)]; exact laidMet_laidAll _ (by kernel_rfl) (by kernel_rfl))) ?_
  intro W base args ds gs before hval0 hW _ hz hL hsh _
  have hval : ∀ (j : Nat) t v, Tryz.f3.params[j]? = some t → args[j]? = some v → Value.okWide Tryz.prog W .any base t v := hval0
  have hW' := hW
  obtain ⟨p, q, hA0, hV, hpq, hfz, hnd⟩ := hW
  rw [MakeChecks.laidMetH_plain _ _ _ (by kernel_rfl)] at hL
  have hA : DataW.TrodAll enc Tryz.prog W 0 (fun _ => true) true Tryz.f3.params.toList args.toList ds p := hA0
  rw [Tryz.params3] at hA hval
  obtain ⟨v0, vs0, d0, ds0, p0, q0, hargs, rfl, rfl, h0, r0⟩ := trodAll_cons hA
  obtain ⟨v1, vs1, d1, ds1, p1, q1, rfl, rfl, rfl, h1, r1⟩ := trodAll_cons r0
  obtain ⟨v2, vs2, d2, ds2, p2, q2, rfl, rfl, rfl, h2, r2⟩ := trodAll_cons r1
  obtain ⟨rfl, rfl, rfl⟩ := trodAll_nil r2
  obtain rfl : args = #[v0, v1, v2] := by cases args; simp_all
  obtain ⟨rfl, rfl⟩ := trodVars_none hV
  have wt0 : ∀ n ∈ d0.weights Tryz.prog 22, n ≤ reachBytes := fun n hn => by simpa using List.all_eq_true.1 hz n (DataW.weights_mem_each (j := 0) (t := 22) (d := d0) rfl rfl n hn)
  obtain ⟨qq0, c0, N0, rfl, sS0, sq0, sN0, sX0⟩ := open_strs (hval 0 22 v0 rfl rfl) h0 wt0
  have wt1 : ∀ n ∈ d1.weights Tryz.prog 9, n ≤ reachBytes := fun n hn => by simpa using List.all_eq_true.1 hz n (DataW.weights_mem_each (j := 1) (t := 9) (d := d1) rfl rfl n hn)
  obtain ⟨s1, rfl, rfl, rfl, sN1⟩ := open_strw (hval 1 9 v1 rfl rfl) h1 wt1
  have wt2 : ∀ n ∈ d2.weights Tryz.prog 23, n ≤ reachBytes := fun n hn => by simpa using List.all_eq_true.1 hz n (DataW.weights_mem_each (j := 2) (t := 23) (d := d2) rfl rfl n hn)
  obtain ⟨pp2, cl2, L2, rfl, gS2, g82, gf2, gN2⟩ := open_segs (hval 2 23 v2 rfl rfl) h2 wt2
  clear hA0 hval0
  have hLd : Laid W := laid_of_reads hsh (Lib.laidMet.reads hL (n := _) (List.mem_of_getElem? (i := 2) rfl)) (Lib.laidMet.reads hL (n := _) (List.mem_of_getElem? (i := 4) rfl)) (Lib.laidMet.reads hL (n := _) (List.mem_of_getElem? (i := 5) rfl))
  refine (walk qq0 c0 N0 s1 pp2 cl2 L2 W sS0 sq0 sN0 sX0 sN1 gS2 g82 gf2 gN2 hLd).mono fun e W' ⟨he, hg⟩ => ?_
  subst he
  exact ⟨_, rfl, law_post (by kernel_rfl) rfl rfl hW' rfl rfl rfl hg⟩

theorem fact0 : (Rows.segDoesRow.inPlace == Tryz.prog.inPlace 3) = true := by kernel_rfl
theorem fact1 : (Rows.segDoesRow.unfollowed == Tryz.prog.unfollowed 3) = true := by kernel_rfl
theorem fact2 : (Rows.segDoesRow.recurses == Tryz.prog.recurses 3) = true := by kernel_rfl
theorem fact3 : (Rows.segDoesRow.named == Tryz.prog.varsNamed 3) = true := by kernel_rfl
theorem fact4 : (Rows.segDoesRow.plainKeys == Tryz.prog.plainKeys) = true := by kernel_rfl
theorem fact5 : Rows.segDoesRow.wf (OpenSpec.ofChange Rows.segDoesSpec) = true := by kernel_rfl
theorem fact9 : (Rows.segDoesRow.lifted == Tryz.prog.liftsFinal) = true := by rw [sfact11]; rfl
theorem fact10 : (Tryz.prog.make == some Rows.segDoesRow.make) = true := by rw [sfact12]; rfl
theorem closed : joinedFacts Tryz.prog 3 Tryz.f3 Rows.segDoesSpec Rows.segDoesRow = true := by
  unfold joinedFacts
  simp only [Bool.and_eq_true]
  repeat' apply And.intro
  all_goals first | with_reducible exact fact0 | with_reducible exact fact1 | with_reducible exact fact2 | with_reducible exact fact3 | with_reducible exact fact4 | with_reducible exact fact5 | with_reducible exact sfact6 | with_reducible exact sfact7 | with_reducible exact sfact8 | with_reducible exact sfact9 | with_reducible exact fact9 | with_reducible exact fact10 | kernel_rfl

theorem over : Rows.segDoesRow.holds Tryz.pinned (OpenSpec.ofChange Rows.segDoesSpec) :=
  OpenClaim.holds_of_wide 3 Tryz.f3 rfl rfl rfl rfl rfl rfl rfl ⟨rfl, rfl, rfl, rfl, rfl⟩ rfl rfl rfl rfl rfl (by kernel_rfl) Tryz.func3 closed
    (of_decide_eq_true (by kernel_rfl)) (by unfold Func.isWrapper; first | (rw [if_pos (by decide +kernel)]; kernel_rfl) | (rw [if_neg (by decide +kernel)]; exact ⟨rfl, rfl⟩))
    (fun os started H enc _ => lifted os started H enc)

/-- The row's tie is given; the card. -/
theorem proved : Rows.SegDoesCardSaid :=
  Claim7.holds_tied_plain_at .later [] [.data, .data, .data, .data, .sentinel, .sentinel, .pinned] true (true, "0d91f4db876318a23274eab87454233e570c63133b6e13eab24fef789f3ed085") true
    over (fun _ h => by cases h) (by kernel_rfl) (fun _ h => by cases h) segDoes_row_tie rfl ⟨rfl, rfl⟩ (by kernel_rfl) rfl
    (fun f fn hf hfn => by
      obtain rfl : f = 3 := Option.some.inj ((show Tryz.prog.funcNamed Rows.segDoesRow.func = some 3 by kernel_rfl).symm.trans hf) |>.symm
      obtain rfl : fn = Tryz.f3 := (Option.some.inj (Tryz.func3.symm.trans hfn)).symm
      exact ⟨by kernel_rfl, fun j t ht => by
        have hm : t ∈ Tryz.f3.params.toList := by simpa using Array.mem_of_getElem? ht
        have hall : (Tryz.f3.params.toList.all fun u => !Tryz.prog.wantsStandIn u) = true := by kernel_rfl
        exact (show Tryz.prog.wantsStandIn t = false by simpa using List.all_eq_true.1 hall t hm)⟩)
    (by kernel_rfl)
#print axioms proved
end Go.Proofs.YtccbhblklhmcpaaGreatDoor.segDoes
