/- Closed facts of this seat's program that every row asks. No condition. -/
import Derived.Test.YtccbhblklhmcpaaGreatDoorQF
namespace Go.Proofs.YtccbhblklhmcpaaGreatDoor
open Go.ChangeShapes Go.WideShapes Go.ChangeAt Go.RowKit
set_option maxRecDepth 100000
set_option linter.unusedSimpArgs false
set_option linter.unusedVariables false
theorem toList_of {s : String} {l : List Char} (h : s = String.ofList l) : s.toList = l := by rw [h]; exact String.toList_ofList
theorem words_app (r : List Char) : ∀ w : List Char, (w.all fun c => c != Char.ofNat 32) = true → wordsSigns (w ++ Char.ofNat 32 :: r) = w :: wordsSigns r
  | [], _ => rfl
  | c :: w, h => by
    simp only [List.all_cons, Bool.and_eq_true] at h
    have hc : c ≠ Char.ofNat 32 := by simpa using h.1
    have ih := words_app r w h.2
    show wordsSigns (c :: (w ++ Char.ofNat 32 :: r)) = _
    rw [wordsSigns, ih]
    exact fun e => hc e
theorem words_at (l : List Char) (k : Nat) (h : ((l.take k).all fun c => c != Char.ofNat 32) = true) (g : (l.drop k).head? = some (Char.ofNat 32)) : wordsSigns l = l.take k :: wordsSigns (l.drop (k + 1)) := by
  have e : l = l.take k ++ Char.ofNat 32 :: l.drop (k + 1) := by
    have h1 := (List.take_append_drop k l).symm
    cases hd : l.drop k with
    | nil => rw [hd] at g; cases g
    | cons c t =>
      rw [hd] at g h1
      simp only [List.head?_cons, Option.some.injEq] at g
      subst g
      have h2 : l.drop (k + 1) = t := by rw [← List.drop_drop, hd]; rfl
      rw [h2]; exact h1
  have := words_app (l.drop (k + 1)) (l.take k) h
  rw [← e] at this
  exact this
/-- The first three words: the mark of a harness, its sum, 'cut'. -/
theorem words3 (l : List Char) (a1 : ((l.take 7).all fun c => c != Char.ofNat 32) = true) (b1 : (l.drop 7).head? = some (Char.ofNat 32))
    (a2 : (((l.drop 8).take 64).all fun c => c != Char.ofNat 32) = true) (b2 : ((l.drop 8).drop 64).head? = some (Char.ofNat 32))
    (a3 : ((((l.drop 8).drop 65).take 3).all fun c => c != Char.ofNat 32) = true) (b3 : (((l.drop 8).drop 65).drop 3).head? = some (Char.ofNat 32)) :
    wordsSigns l = l.take 7 :: (l.drop 8).take 64 :: ((l.drop 8).drop 65).take 3 :: wordsSigns (((l.drop 8).drop 65).drop 4) := by
  rw [words_at l 7 a1 b1, words_at (l.drop 8) 64 a2 b2, words_at ((l.drop 8).drop 65) 3 a3 b3]
theorem sfact6 : laidOutB Tryz.prog = true := by kernel_rfl
theorem sfact7 : mapsRowed Tryz.prog = true := by kernel_rfl
theorem sfact8 : Tryz.prog.stopsHeard = true := by kernel_rfl
theorem c_gc : ("cut".toList == "gc".toList) = false := by rw [toList_of (s := "cut") (by with_unfolding_all rfl), toList_of (s := "gc") (by with_unfolding_all rfl)]; kernel_rfl
theorem c_spec : ("cut".toList == "spec".toList) = false := by rw [toList_of (s := "cut") (by with_unfolding_all rfl), toList_of (s := "spec") (by with_unfolding_all rfl)]; kernel_rfl
theorem c_carried : ("cut".toList == "carried".toList) = false := by rw [toList_of (s := "cut") (by with_unfolding_all rfl), toList_of (s := "carried") (by with_unfolding_all rfl)]; kernel_rfl
theorem io : ∃ l, Tryz.prog.initOrder.toList = l ∧ wordsSigns l = l.take 7 :: (l.drop 8).take 64 :: ((l.drop 8).drop 65).take 3 :: wordsSigns (((l.drop 8).drop 65).drop 4) ∧ (l.take 7 == "harness".toList) = true ∧ isSumSigns ((l.drop 8).take 64) = true ∧ ((l.drop 8).drop 65).take 3 = "cut".toList :=
  ⟨_, toList_of (s := Tryz.prog.initOrder) (by with_unfolding_all rfl), words3 _ (by kernel_rfl) (by kernel_rfl) (by kernel_rfl) (by kernel_rfl) (by kernel_rfl) (by kernel_rfl), by kernel_rfl, by kernel_rfl, by kernel_rfl⟩
theorem behind : ∃ r, behindMainWord (wordsSigns Tryz.prog.initOrder.toList) = "cut".toList :: r := by
  obtain ⟨l, h1, h2, h3, h4, h5⟩ := io
  refine ⟨wordsSigns (((l.drop 8).drop 65).drop 4), ?_⟩
  rw [h1, h2, h5, behindMainWord, h3, h4]
  rfl
theorem lifts_cut (r : List (List Char)) : stripLifts liftWords ("cut".toList :: r) = ([], "cut".toList :: r) := by kernel_rfl
theorem sfactA : Tryz.prog.laysLater = false := by kernel_rfl
theorem sfactB : Tryz.prog.bearsReflect = false := by kernel_rfl
theorem sfactC : Tryz.prog.doorFits [] = true := by kernel_rfl
theorem mayEnter_of {P : Program} {r : List (List Char)} (hr : behindMainWord (wordsSigns P.initOrder.toList) = "cut".toList :: r) (hA : P.laysLater = false) (hB : P.bearsReflect = false) (hC : P.doorFits [] = true) : P.mayEnter = true := by
  unfold Program.mayEnter
  rw [hr]
  simp only [lifts_cut, hA, hB, hC, c_gc, c_spec, c_carried, List.head?_cons, beq_self_eq_true, Bool.not_false, Bool.or_true, Bool.true_or, Bool.and_true, Bool.true_and, Bool.false_and, Bool.false_or, Bool.or_false, List.contains_nil]
theorem headL_of {P : Program} {r : List (List Char)} (hr : behindMainWord (wordsSigns P.initOrder.toList) = "cut".toList :: r) : P.headLifts = [] := by
  unfold Program.headLifts
  rw [hr, lifts_cut]
  rfl
theorem final_of {P : Program} {r : List (List Char)} (hr : behindMainWord (wordsSigns P.initOrder.toList) = "cut".toList :: r) : P.liftsFinal = false := by
  unfold Program.liftsFinal
  rw [headL_of hr, hr]
  simp only [List.head?_cons, Option.some_beq_some, c_carried, List.contains_nil, Bool.false_and, Bool.or_false]
theorem make_of {P : Program} {r : List (List Char)} (hr : behindMainWord (wordsSigns P.initOrder.toList) = "cut".toList :: r) : P.make = some .cut := by
  unfold Program.make
  rw [hr]
  simp only [c_gc, c_spec, beq_self_eq_true, Bool.or_false, Bool.true_or, if_true, Bool.false_eq_true, if_false]
theorem sfact9 : Tryz.prog.mayEnter = true := by
  obtain ⟨r, hr⟩ := behind
  exact mayEnter_of hr sfactA sfactB sfactC
theorem sfact11 : Tryz.prog.liftsFinal = false := by
  obtain ⟨r, hr⟩ := behind
  exact final_of hr
theorem sfact12 : Tryz.prog.make = some .cut := by
  obtain ⟨r, hr⟩ := behind
  exact make_of hr
end Go.Proofs.YtccbhblklhmcpaaGreatDoor
