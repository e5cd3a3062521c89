/- The law SegBack, as a tied card: the text of a signal is parsed to it, unless it is too long. No condition. -/
import Derived.Test.YtccbhblklhmcpaaDoorQ37
import Derived.Test.YtccbhblklhmcpaaDoorFacts
import Derived.Test.YtccbhblklhmcpaaDoorDoorQ
import Derived.Test.YtccbhblklhmcpaaDoorCards
import Derived.Test.YtccbhblklhmcpaaDoorTie
import Derived.Lay
import Derived.LaidOnce
import Derived.LaidMore
import Derived.SevenTiedAt
namespace Go.Proofs.YtccbhblklhmcpaaDoor.segBack
open Go.ChangeShapes Go.WideShapes Go.ChangeAt Go.RowKit
set_option linter.unusedVariables false
set_option linter.unusedSimpArgs false
set_option maxRecDepth 100000

theorem walk (q : Option Addr) (c : Nat) (N : List (List UInt8)) (p : Option Addr) (cl : Nat) (L : List Sg) (W : World) (hQ : SlS W q N) (hq : ∀ A o, q = some ⟨A, o, none⟩ → A < W.heap.size) (hN : N.length ≤ 140737488355328) (hX : ∀ x, x ∈ N → x.length ≤ 140737488355328) (hS : SlK sgD W p L) (h8 : ∀ s, s ∈ L → s.2 < 256) (hf : ∀ s, s ∈ L → -9223372036854775808 ≤ s.1 ∧ s.1 ≤ 9223372036854775807) (hLn : L.length ≤ 140737488355328) (hL : Laid W) :
    Calls Tryd.prog 4 #[.slice q N.length c, .slice p L.length cl] W (Gives W (.bool true)) :=
  (segBack_any W hL q p c cl N L hQ hS hq hN hX h8 hf hLn).mono fun e w h => gives_below h.1 h.2
theorem lifted (os : Os) (started : os.Started) (H : Type) (enc : TypeId × Value → H) :
    ReturnsInHanded {} Tryd.checked os 4 .any (fun w args => (Rows.segBackSpec.pre enc Tryd.prog Tryd.f4 [] false w args ∧ laidMetH Tryd.prog Rows.segBackRow.laid w) ∧ sizedMet enc Tryd.prog Tryd.f4 (OpenSpec.ofChange Rows.segBackSpec) false w args)
      (Rows.segBackSpec.post enc Tryd.prog Tryd.f4 false true false false) := by
  refine returns_laid_shaped (C := Tryd.checked) (X := fun w _ => laidMetH Tryd.prog Rows.segBackRow.laid w) (fun _ _ _ hh h => h.of_heap hh) own started (by kernel_rfl) Tryd.func4
    (ChangeSpec.witness_shaped (enc := enc) (C := Tryd.checked) (os := os) (X := fun w _ => laidMetH Tryd.prog Rows.segBackRow.laid w) false (World.laidAll Tryd.prog os Rows.segBackRow.laid) #[.slice none 0 0, .slice none 0 0] 8 (World.laidAll_os _ _ _)
      (World.shaped_of_ZipB (by kernel_rfl) (by kernel_rfl)) (by kernel_rfl) (by kernel_rfl) (by kernel_rfl)
      (by rw [MakeChecks.laidMetH_plain _ _ _ (by kernel_rfl)]; exact laidMet_laidAll _ (by kernel_rfl) (by kernel_rfl))) ?_
  intro W base args ds gs before hval0 hW _ hz hL hsh _
  have hval : ∀ (j : Nat) t v, Tryd.f4.params[j]? = some t → args[j]? = some v → Value.okWide Tryd.prog W .any base t v := hval0
  have hW' := hW
  obtain ⟨p, q, hA0, hV, hpq, hfz, hnd⟩ := hW
  rw [MakeChecks.laidMetH_plain _ _ _ (by kernel_rfl)] at hL
  have hA : DataW.TrodAll enc Tryd.prog W 0 (fun _ => true) true Tryd.f4.params.toList args.toList ds p := hA0
  rw [Tryd.params4] at hA hval
  obtain ⟨v0, vs0, d0, ds0, p0, q0, hargs, rfl, rfl, h0, r0⟩ := trodAll_cons hA
  obtain ⟨v1, vs1, d1, ds1, p1, q1, rfl, rfl, rfl, h1, r1⟩ := trodAll_cons r0
  obtain ⟨rfl, rfl, rfl⟩ := trodAll_nil r1
  obtain rfl : args = #[v0, v1] := by cases args; simp_all
  obtain ⟨rfl, rfl⟩ := trodVars_none hV
  have wt0 : ∀ n ∈ d0.weights Tryd.prog 26, n ≤ reachBytes := fun n hn => by simpa using List.all_eq_true.1 hz n (DataW.weights_mem_each (j := 0) (t := 26) (d := d0) rfl rfl n hn)
  obtain ⟨qq0, c0, N0, rfl, sS0, sq0, sN0, sX0⟩ := open_strs (hval 0 26 v0 rfl rfl) h0 wt0
  have wt1 : ∀ n ∈ d1.weights Tryd.prog 22, n ≤ reachBytes := fun n hn => by simpa using List.all_eq_true.1 hz n (DataW.weights_mem_each (j := 1) (t := 22) (d := d1) rfl rfl n hn)
  obtain ⟨pp1, cl1, L1, rfl, gS1, g81, gf1, gN1⟩ := open_segs (hval 1 22 v1 rfl rfl) h1 wt1
  clear hA0 hval0
  have hLd : Laid W := laid_of_reads hsh (Lib.laidMet.reads hL (n := _) (List.mem_of_getElem? (i := 2) rfl)) (Lib.laidMet.reads hL (n := _) (List.mem_of_getElem? (i := 4) rfl)) (Lib.laidMet.reads hL (n := _) (List.mem_of_getElem? (i := 5) rfl))
  refine (walk qq0 c0 N0 pp1 cl1 L1 W sS0 sq0 sN0 sX0 gS1 g81 gf1 gN1 hLd).mono fun e W' ⟨he, hg⟩ => ?_
  subst he
  exact ⟨_, rfl, law_post (by kernel_rfl) rfl rfl hW' rfl rfl rfl hg⟩

theorem fact0 : (Rows.segBackRow.inPlace == Tryd.prog.inPlace 4) = true := by kernel_rfl
theorem fact1 : (Rows.segBackRow.unfollowed == Tryd.prog.unfollowed 4) = true := by kernel_rfl
theorem fact2 : (Rows.segBackRow.recurses == Tryd.prog.recurses 4) = true := by kernel_rfl
theorem fact3 : (Rows.segBackRow.named == Tryd.prog.varsNamed 4) = true := by kernel_rfl
theorem fact4 : (Rows.segBackRow.plainKeys == Tryd.prog.plainKeys) = true := by kernel_rfl
theorem fact5 : Rows.segBackRow.wf (OpenSpec.ofChange Rows.segBackSpec) = true := by kernel_rfl
theorem fact9 : (Rows.segBackRow.lifted == Tryd.prog.liftsFinal) = true := by rw [sfact11]; rfl
theorem fact10 : (Tryd.prog.make == some Rows.segBackRow.make) = true := by rw [sfact12]; rfl
theorem closed : joinedFacts Tryd.prog 4 Tryd.f4 Rows.segBackSpec Rows.segBackRow = true := by
  unfold joinedFacts
  simp only [Bool.and_eq_true]
  repeat' apply And.intro
  all_goals first | with_reducible exact fact0 | with_reducible exact fact1 | with_reducible exact fact2 | with_reducible exact fact3 | with_reducible exact fact4 | with_reducible exact fact5 | with_reducible exact sfact6 | with_reducible exact sfact7 | with_reducible exact sfact8 | with_reducible exact sfact9 | with_reducible exact fact9 | with_reducible exact fact10 | kernel_rfl

theorem over : Rows.segBackRow.holds Tryd.pinned (OpenSpec.ofChange Rows.segBackSpec) :=
  OpenClaim.holds_of_wide 4 Tryd.f4 rfl rfl rfl rfl rfl rfl rfl ⟨rfl, rfl, rfl, rfl, rfl⟩ rfl rfl rfl rfl rfl (by kernel_rfl) Tryd.func4 closed
    (of_decide_eq_true (by kernel_rfl)) (by unfold Func.isWrapper; first | (rw [if_pos (by decide +kernel)]; kernel_rfl) | (rw [if_neg (by decide +kernel)]; exact ⟨rfl, rfl⟩))
    (fun os started H enc _ => lifted os started H enc)

/-- The row's tie is given; the card. -/
theorem proved : Rows.SegBackCardSaid :=
  Claim7.holds_tied_plain_at .later [] [.data, .data, .data, .data, .sentinel, .sentinel, .pinned] true (true, "6cdf7b72ba3f8b4a6a5578aad5eb4d75b47d89af95387d8d3f4f98b796b5cc4f") true
    over (fun _ h => by cases h) (by kernel_rfl) (fun _ h => by cases h) segBack_row_tie rfl ⟨rfl, rfl⟩ (by kernel_rfl) rfl
    (fun f fn hf hfn => by
      obtain rfl : f = 4 := Option.some.inj ((show Tryd.prog.funcNamed Rows.segBackRow.func = some 4 by kernel_rfl).symm.trans hf) |>.symm
      obtain rfl : fn = Tryd.f4 := (Option.some.inj (Tryd.func4.symm.trans hfn)).symm
      exact ⟨by kernel_rfl, fun j t ht => by
        have hm : t ∈ Tryd.f4.params.toList := by simpa using Array.mem_of_getElem? ht
        have hall : (Tryd.f4.params.toList.all fun u => !Tryd.prog.wantsStandIn u) = true := by kernel_rfl
        exact (show Tryd.prog.wantsStandIn t = false by simpa using List.all_eq_true.1 hall t hm)⟩)
    (by kernel_rfl)
#print axioms proved
end Go.Proofs.YtccbhblklhmcpaaDoor.segBack
