/- The law ZoneTells (walk): matrices of zones and zones of matrices, points, and what two have in common, are the document's. No condition. -/
import Derived.Test.YtpaomeilfmeheaaGreatN1
import Derived.Test.YtpaomeilfmeheaaGreatN2
import Derived.Test.YtpaomeilfmeheaaGreatN3
import Derived.Test.YtpaomeilfmeheaaGreatH11
import Derived.Test.YtpaomeilfmeheaaGreatH13
import Derived.Test.YtpaomeilfmeheaaGreatFrame2
namespace Go.Proofs.YtpaomeilfmeheaaGreat
set_option linter.unusedSimpArgs false
set_option linter.unusedVariables false
open Go Go.RowKit Go.Shelf
/-- Are two points the same? -/
def eqP (a0 a1 a2 a3 b0 b1 b2 b3 : Int) : Bool := (a0 == b0 && a1 == b1) && (a2 == b2 && a3 == b3)
theorem eqP_refl (a0 a1 a2 a3 : Int) : eqP a0 a1 a2 a3 a0 a1 a2 a3 = true := by simp [eqP]
set_option maxRecDepth 10000 in
set_option maxHeartbeats 1000000 in
@[go_sem] theorem point_eql (a0 a1 a2 a3 b0 b1 b2 b3 : Int) (w : World) : (Op.equalIn 10000 31 (.agg #[.int .i64 a0, .int .i64 a1, .int .i64 a2, .int .i64 a3]) (.agg #[.int .i64 b0, .int .i64 b1, .int .i64 b2, .int .i64 b3])).run Tryz.prog w = .ok (eqP a0 a1 a2 a3 b0 b1 b2 b3) w := by
  have hu3 := Tryz.underlying3
  have ha3 := Tryz.isAgg3
  have hz3 := Tryz.sizeOf3
  have hu4 := Tryz.underlying29
  have ha4 := Tryz.isAgg29
  have hz4 := Tryz.sizeOf29
  rw [show (10000 : Nat) = 9998 + 1 + 1 from rfl, Op.equalIn]
  simp only [Sem.run_bind, run_underlying Tryz.underlying31, Result.andThen_ok]
  go_simp
  unfold eqP
  by_cases h0 : a0 = b0
  · by_cases h1 : a1 = b1
    · by_cases h2 : a2 = b2
      · by_cases h3 : a3 = b3 <;> simp [h0, h1, h2, h3]
      · simp [h0, h1, h2]
    · simp [h0, h1]
  · simp [h0]
end Go.Proofs.YtpaomeilfmeheaaGreat
namespace Go.Proofs.YtpaomeilfmeheaaGreat.zoneTells
open Go.ChangeShapes Go.WideShapes Go.ChangeAt Go.RowKit
set_option linter.unusedVariables false
set_option linter.unusedSimpArgs false
attribute [local go_sem] Nat.add_assoc Nat.add_lt_add_iff_left lit_lt_add

set_option maxRecDepth 100000 in
set_option maxHeartbeats 16000000 in
theorem walk (a : Nat → Int) (wa : FitsZ a) (b : Nat → Int) (wb : FitsZ b) (n : Int) (pp : Option Addr) (N cap : Nat) (f : Nat → Int) (wn : fits64 n) (pa pb pc pd : Int) (wpa : fits64 pa) (wpb : fits64 pb) (wpc : fits64 pc) (wpd : fits64 pd) (w : World) (hSa : SlP w pp N f) (hF : Fits N f) (hN : N ≤ maxLen) :
    Calls Tryz.prog 3 #[zoneV a, zoneV b, .agg #[.int .i64 n, .slice pp N cap], .agg #[.int .i64 pa, .int .i64 pb, .int .i64 pc, .int .i64 pd]] w (Gives w (.bool true)) := by
  unfold maxLen at hN
  by_cases hbig : 1000 < N
  · clear hSa hF
    unfold zoneV
    go_enter Tryz.func3, Tryz.ntmps3
    go_wp2
    all_goals
      go_ret
      exact gives_bool rfl (by (repeat' (first | (with_reducible assumption) | (with_reducible exact Below.refl _ _) | (with_reducible refine below_wov ?_ ?_ _) | (with_reducible refine below_drewN ?_ _) | (with_reducible refine Below.drew ?_) | (with_reducible refine Below.alloc ?_ ?_ _) | (with_reducible refine Below.setCell ?_ ?_ _) | (with_reducible exact Nat.le_refl _) | omega | (simp only [World.size_alloc, World.size_setCell, World.size_drew, Wov_size, World.heap_drewN]; omega))))
  have hN3 : N ≤ 1000 := by omega
  obtain ⟨⟨x1, X, g1, e1⟩, h1⟩ : ∃ r, r = matZ a := ⟨_, rfl⟩
  have hX : X ≤ 1000000 := by
    have : (matZ a).N ≤ 9 := by unfold matZ; split <;> simp [errM]
    rw [← h1] at this; simp only at this; omega
  have C1 : Hid (∀ w, Calls Tryz.prog 4 #[.agg #[.int .i64 (a 0), .int .i64 (a 1), .int .i64 (a 2), .int .i64 (a 3), .int .i64 (a 4), .int .i64 (a 5)]] w (matC w x1 X g1 e1)) := fun w => by
    have := zmatrix_any a w wa
    rw [← h1] at this; exact this
  have C2 : Hid (∀ w, Calls Tryz.prog 5 #[.agg #[.int .i64 (a 0), .int .i64 (a 1), .int .i64 (a 2), .int .i64 (a 3), .int .i64 (a 4), .int .i64 (a 5)]] w (matC w x1 X g1 e1)) := fun w => by
    have := rmatrix_any a w wa
    rw [← h1] at this; exact this
  obtain ⟨⟨r3, e3⟩, h3⟩ : ∃ r, r = ofZ n N f := ⟨_, rfl⟩
  have C3 : Hid (∀ w, SlP w pp N f → Calls Tryz.prog 6 #[.agg #[.int .i64 n, .slice pp N cap]] w (Gives w (.tuple #[.agg #[.int .i64 (r3 0), .int .i64 (r3 1), .int .i64 (r3 2), .int .i64 (r3 3), .int .i64 (r3 4), .int .i64 (r3 5)], .int .i64 e3]))) := fun w h => by
    have := zof_any n pp N cap f w wn h hF (by omega)
    rw [← h3] at this; exact this
  have C4 : Hid (∀ w, SlP w pp N f → Calls Tryz.prog 7 #[.agg #[.int .i64 n, .slice pp N cap]] w (Gives w (.tuple #[.agg #[.int .i64 (r3 0), .int .i64 (r3 1), .int .i64 (r3 2), .int .i64 (r3 3), .int .i64 (r3 4), .int .i64 (r3 5)], .int .i64 e3]))) := fun w h => by
    have := rof_any n pp N cap f w wn h hF (by omega)
    rw [← h3] at this; exact this
  obtain ⟨⟨b5, e5⟩, h5⟩ : ∃ r, r = hasZ a (pt pa pb pc pd) := ⟨_, rfl⟩
  have C5 : Hid (∀ w, Calls Tryz.prog 8 #[.agg #[.int .i64 (a 0), .int .i64 (a 1), .int .i64 (a 2), .int .i64 (a 3), .int .i64 (a 4), .int .i64 (a 5)], .agg #[.int .i64 pa, .int .i64 pb, .int .i64 pc, .int .i64 pd]] w (Gives w (.tuple #[.bool b5, .int .i64 e5]))) := fun w => by
    have := zhas_any a pa pb pc pd w wa wpa wpb wpc wpd
    rw [← h5] at this; exact this
  have C6 : Hid (∀ w, Calls Tryz.prog 9 #[.agg #[.int .i64 (a 0), .int .i64 (a 1), .int .i64 (a 2), .int .i64 (a 3), .int .i64 (a 4), .int .i64 (a 5)], .agg #[.int .i64 pa, .int .i64 pb, .int .i64 pc, .int .i64 pd]] w (Gives w (.tuple #[.bool b5, .int .i64 e5]))) := fun w => by
    have := rhas_any a pa pb pc pd w wa wpa wpb wpc wpd
    rw [← h5] at this; exact this
  obtain ⟨⟨b7, e7⟩, h7⟩ : ∃ r, r = inZ a b := ⟨_, rfl⟩
  have C7 : Hid (∀ w, Calls Tryz.prog 10 #[.agg #[.int .i64 (a 0), .int .i64 (a 1), .int .i64 (a 2), .int .i64 (a 3), .int .i64 (a 4), .int .i64 (a 5)], .agg #[.int .i64 (b 0), .int .i64 (b 1), .int .i64 (b 2), .int .i64 (b 3), .int .i64 (b 4), .int .i64 (b 5)]] w (Gives w (.tuple #[.bool b7, .int .i64 e7]))) := fun w => by
    have := zin_any a b w wa wb
    rw [← h7] at this; exact this
  have C8 : Hid (∀ w, Calls Tryz.prog 11 #[.agg #[.int .i64 (a 0), .int .i64 (a 1), .int .i64 (a 2), .int .i64 (a 3), .int .i64 (a 4), .int .i64 (a 5)], .agg #[.int .i64 (b 0), .int .i64 (b 1), .int .i64 (b 2), .int .i64 (b 3), .int .i64 (b 4), .int .i64 (b 5)]] w (Gives w (.tuple #[.bool b7, .int .i64 e7]))) := fun w => by
    have := rin_any a b w wa wb
    rw [← h7] at this; exact this
  obtain ⟨⟨r9, e9⟩, h9⟩ : ∃ r, r = meetZ a b := ⟨_, rfl⟩
  have C9 : Hid (∀ w, Calls Tryz.prog 12 #[.agg #[.int .i64 (a 0), .int .i64 (a 1), .int .i64 (a 2), .int .i64 (a 3), .int .i64 (a 4), .int .i64 (a 5)], .agg #[.int .i64 (b 0), .int .i64 (b 1), .int .i64 (b 2), .int .i64 (b 3), .int .i64 (b 4), .int .i64 (b 5)]] w (Gives w (.tuple #[.agg #[.int .i64 (r9 0), .int .i64 (r9 1), .int .i64 (r9 2), .int .i64 (r9 3), .int .i64 (r9 4), .int .i64 (r9 5)], .int .i64 e9]))) := fun w => by
    have := zmeet_any a b w wa wb
    rw [← h9] at this; exact this
  have C10 : Hid (∀ w, Calls Tryz.prog 13 #[.agg #[.int .i64 (a 0), .int .i64 (a 1), .int .i64 (a 2), .int .i64 (a 3), .int .i64 (a 4), .int .i64 (a 5)], .agg #[.int .i64 (b 0), .int .i64 (b 1), .int .i64 (b 2), .int .i64 (b 3), .int .i64 (b 4), .int .i64 (b 5)]] w (Gives w (.tuple #[.agg #[.int .i64 (r9 0), .int .i64 (r9 1), .int .i64 (r9 2), .int .i64 (r9 3), .int .i64 (r9 4), .int .i64 (r9 5)], .int .i64 e9]))) := fun w => by
    have := rmeet_any a b w wa wb
    rw [← h9] at this; exact this
  obtain ⟨⟨T, e11⟩, h11⟩ : ∃ r, r = pickZ a := ⟨_, rfl⟩
  have C11 : Hid (∀ w, Calls Tryz.prog 14 #[.agg #[.int .i64 (a 0), .int .i64 (a 1), .int .i64 (a 2), .int .i64 (a 3), .int .i64 (a 4), .int .i64 (a 5)]] w (Gives w (.tuple #[.agg #[.int .i64 (T 0).1, .int .i64 (T 0).2, .int .i64 (T 1).1, .int .i64 (T 1).2], .int .i64 e11]))) := fun w => by
    have := zpick_any a w wa
    rw [← h11] at this; exact this
  have C12 : Hid (∀ w, Calls Tryz.prog 15 #[.agg #[.int .i64 (a 0), .int .i64 (a 1), .int .i64 (a 2), .int .i64 (a 3), .int .i64 (a 4), .int .i64 (a 5)]] w (Gives w (.tuple #[.agg #[.int .i64 (T 0).1, .int .i64 (T 0).2, .int .i64 (T 1).1, .int .i64 (T 1).2], .int .i64 e11]))) := fun w => by
    have := rpick_any a w wa
    rw [← h11] at this; exact this
  obtain ⟨k13, h13⟩ : ∃ r, r = okZ a := ⟨_, rfl⟩
  have C13 : Hid (∀ w, Calls Tryz.prog 17 #[.agg #[.int .i64 (a 0), .int .i64 (a 1), .int .i64 (a 2), .int .i64 (a 3), .int .i64 (a 4), .int .i64 (a 5)]] w (Gives w (.int .i64 (rcode k13)))) := fun w => by
    have := zcheck_any a w wa
    rw [← h13] at this; exact this
  have C14 : Hid (∀ w, Calls Tryz.prog 18 #[.agg #[.int .i64 (a 0), .int .i64 (a 1), .int .i64 (a 2), .int .i64 (a 3), .int .i64 (a 4), .int .i64 (a 5)]] w (Gives w (.int .i64 (rcode k13)))) := fun w => by
    have := rzcheck_any a w wa
    rw [← h13] at this; exact this
  obtain ⟨k15, h15⟩ : ∃ r, r = cmpZ a b := ⟨_, rfl⟩
  have C15 : Hid (∀ w, Calls Tryz.prog 19 #[.agg #[.int .i64 (a 0), .int .i64 (a 1), .int .i64 (a 2), .int .i64 (a 3), .int .i64 (a 4), .int .i64 (a 5)], .agg #[.int .i64 (b 0), .int .i64 (b 1), .int .i64 (b 2), .int .i64 (b 3), .int .i64 (b 4), .int .i64 (b 5)]] w (Gives w (.int .i64 k15))) := fun w => by
    have := zcmp_any a b w
    rw [← h15] at this; exact this
  have C16 : Hid (∀ w, Calls Tryz.prog 20 #[.agg #[.int .i64 (a 0), .int .i64 (a 1), .int .i64 (a 2), .int .i64 (a 3), .int .i64 (a 4), .int .i64 (a 5)], .agg #[.int .i64 (b 0), .int .i64 (b 1), .int .i64 (b 2), .int .i64 (b 3), .int .i64 (b 4), .int .i64 (b 5)]] w (Gives w (.int .i64 k15))) := fun w => by
    have := rcmp_any a b w
    rw [← h15] at this; exact this
  have SM : Hid (∀ W p p' c d, SlP W p X g1 → SlP W p' X g1 → Calls Tryz.prog 16 #[.agg #[.int .i64 x1, .slice p X c], .agg #[.int .i64 x1, .slice p' X d]] W (Gives W (.bool true))) := fun W p p' c d h g => by
    have := refSame_any x1 x1 p p' X X c d g1 g1 W h g hX
    rwa [sameB_refl] at this
  have E3 : eq6 (r3 0) (r3 1) (r3 2) (r3 3) (r3 4) (r3 5) (r3 0) (r3 1) (r3 2) (r3 3) (r3 4) (r3 5) = true := (eq6_iff r3 r3).2 (fun _ _ => rfl)
  have E9 : eq6 (r9 0) (r9 1) (r9 2) (r9 3) (r9 4) (r9 5) (r9 0) (r9 1) (r9 2) (r9 3) (r9 4) (r9 5) = true := (eq6_iff r9 r9).2 (fun _ _ => rfl)
  have ET : eqP (T 0).1 (T 0).2 (T 1).1 (T 1).2 (T 0).1 (T 0).2 (T 1).1 (T 1).2 = true := eqP_refl _ _ _ _
  have SA := Lib.hid hSa
  clear h1 h3 h5 h7 h9 h11 h13 h15 wa wb hSa hF hX wn wpa wpb wpc wpd hbig
  unfold zoneV
  go_enter Tryz.func3, Tryz.ntmps3
  go_wp2_with (fail)
  refine calls_world (fun W => Below w.heap.size w W ∧ BoxZ W w.heap.size a ∧ BoxZ W (w.heap.size + 1) b ∧ BoxM W (w.heap.size + 2) n pp N cap f ∧ PtAt W (w.heap.size + 3) pa pb pc pd) ⟨by (repeat' (first | (with_reducible assumption) | (with_reducible exact Below.refl _ _) | (with_reducible refine below_wov ?_ ?_ _) | (with_reducible refine below_drewN ?_ _) | (with_reducible refine Below.drew ?_) | (with_reducible refine Below.alloc ?_ ?_ _) | (with_reducible refine Below.setCell ?_ ?_ _) | (with_reducible exact Nat.le_refl _) | omega | (simp only [World.size_alloc, World.size_setCell, World.size_drew, Wov_size, World.heap_drewN]; omega))), (BoxZ.new (W := w) (t := 24) (by simp)).below (by (repeat' (first | (with_reducible assumption) | (with_reducible exact Below.refl _ _) | (with_reducible refine below_wov ?_ ?_ _) | (with_reducible refine below_drewN ?_ _) | (with_reducible refine Below.drew ?_) | (with_reducible refine Below.alloc ?_ ?_ _) | (with_reducible refine Below.setCell ?_ ?_ _) | (with_reducible exact Nat.le_refl _) | omega | (simp only [World.size_alloc, World.size_setCell, World.size_drew, Wov_size, World.heap_drewN]; omega)))), (BoxZ.new (W := (World.alloc w (.cells #[.int .i64 (a 0), .int .i64 (a 1), .int .i64 (a 2), .int .i64 (a 3), .int .i64 (a 4), .int .i64 (a 5)] 24))) (t := 24) (by simp)).below (by (repeat' (first | (with_reducible assumption) | (with_reducible exact Below.refl _ _) | (with_reducible refine below_wov ?_ ?_ _) | (with_reducible refine below_drewN ?_ _) | (with_reducible refine Below.drew ?_) | (with_reducible refine Below.alloc ?_ ?_ _) | (with_reducible refine Below.setCell ?_ ?_ _) | (with_reducible exact Nat.le_refl _) | omega | (simp only [World.size_alloc, World.size_setCell, World.size_drew, Wov_size, World.heap_drewN]; omega)))), (BoxM.new (W := (World.alloc (World.alloc w (.cells #[.int .i64 (a 0), .int .i64 (a 1), .int .i64 (a 2), .int .i64 (a 3), .int .i64 (a 4), .int .i64 (a 5)] 24)) (.cells #[.int .i64 (b 0), .int .i64 (b 1), .int .i64 (b 2), .int .i64 (b 3), .int .i64 (b 4), .int .i64 (b 5)] 24))) (t := 27) (SA.out.below (by (repeat' (first | (with_reducible assumption) | (with_reducible exact Below.refl _ _) | (with_reducible refine below_wov ?_ ?_ _) | (with_reducible refine below_drewN ?_ _) | (with_reducible refine Below.drew ?_) | (with_reducible refine Below.alloc ?_ ?_ _) | (with_reducible refine Below.setCell ?_ ?_ _) | (with_reducible exact Nat.le_refl _) | omega | (simp only [World.size_alloc, World.size_setCell, World.size_drew, Wov_size, World.heap_drewN]; omega))))) (by simp)).below (by (repeat' (first | (with_reducible assumption) | (with_reducible exact Below.refl _ _) | (with_reducible refine below_wov ?_ ?_ _) | (with_reducible refine below_drewN ?_ _) | (with_reducible refine Below.drew ?_) | (with_reducible refine Below.alloc ?_ ?_ _) | (with_reducible refine Below.setCell ?_ ?_ _) | (with_reducible exact Nat.le_refl _) | omega | (simp only [World.size_alloc, World.size_setCell, World.size_drew, Wov_size, World.heap_drewN]; omega)))), (PtAt.new (W := (World.alloc (World.alloc (World.alloc w (.cells #[.int .i64 (a 0), .int .i64 (a 1), .int .i64 (a 2), .int .i64 (a 3), .int .i64 (a 4), .int .i64 (a 5)] 24)) (.cells #[.int .i64 (b 0), .int .i64 (b 1), .int .i64 (b 2), .int .i64 (b 3), .int .i64 (b 4), .int .i64 (b 5)] 24)) (.cells #[.int .i64 n, .slice pp N cap] 27))) (t := 31) (by simp)).below (by (repeat' (first | (with_reducible assumption) | (with_reducible exact Below.refl _ _) | (with_reducible refine below_wov ?_ ?_ _) | (with_reducible refine below_drewN ?_ _) | (with_reducible refine Below.drew ?_) | (with_reducible refine Below.alloc ?_ ?_ _) | (with_reducible refine Below.setCell ?_ ?_ _) | (with_reducible exact Nat.le_refl _) | omega | (simp only [World.size_alloc, World.size_setCell, World.size_drew, Wov_size, World.heap_drewN]; omega))))⟩ ?_
  rintro W1 ⟨hb1, m1_0, m1_1, m1_2, m1_3⟩
  have hs1 := hb1.size
  have f1_0_lt := m1_0.lt
  have f1_0_c0 := m1_0.c0
  have f1_0_c1 := m1_0.c1
  have f1_0_c2 := m1_0.c2
  have f1_0_c3 := m1_0.c3
  have f1_0_c4 := m1_0.c4
  have f1_0_c5 := m1_0.c5
  have f1_1_lt := m1_1.lt
  have f1_1_c0 := m1_1.c0
  have f1_1_c1 := m1_1.c1
  have f1_1_c2 := m1_1.c2
  have f1_1_c3 := m1_1.c3
  have f1_1_c4 := m1_1.c4
  have f1_1_c5 := m1_1.c5
  have f1_2_lt := m1_2.lt
  have f1_2_c0 := m1_2.c0
  have f1_2_c1 := m1_2.c1
  have f1_3_lt := m1_3.lt
  have f1_3_c0 := m1_3.c0
  have f1_3_c1 := m1_3.c1
  have f1_3_c2 := m1_3.c2
  have f1_3_c3 := m1_3.c3
  refine (C1.out _).mono ?_; rintro e w' ⟨⟨p1, c1, rfl, ho⟩, q1, rfl⟩
  have tp1 := ho.slp
  clear ho
  go_wp2_with (fail)
  obtain ⟨A1, hA1⟩ : ∃ A, W1.heap.size + q1.bl.size = A := ⟨_, rfl⟩
  rw [hA1]
  refine calls_world (fun W => Below w.heap.size w W ∧ BoxZ W w.heap.size a ∧ BoxZ W (w.heap.size + 1) b ∧ BoxM W (w.heap.size + 2) n pp N cap f ∧ PtAt W (w.heap.size + 3) pa pb pc pd ∧ BoxM W A1 x1 p1 X c1 g1) ⟨by (repeat' (first | (with_reducible assumption) | (with_reducible exact Below.refl _ _) | (with_reducible refine below_wov ?_ ?_ _) | (with_reducible refine below_drewN ?_ _) | (with_reducible refine Below.drew ?_) | (with_reducible refine Below.alloc ?_ ?_ _) | (with_reducible refine Below.setCell ?_ ?_ _) | (with_reducible exact Nat.le_refl _) | omega | (simp only [World.size_alloc, World.size_setCell, World.size_drew, Wov_size, World.heap_drewN]; omega))), m1_0.below (by (repeat' (first | (with_reducible assumption) | (with_reducible exact Below.refl _ _) | (with_reducible refine below_wov ?_ ?_ _) | (with_reducible refine below_drewN ?_ _) | (with_reducible refine Below.drew ?_) | (with_reducible refine Below.alloc ?_ ?_ _) | (with_reducible refine Below.setCell ?_ ?_ _) | (with_reducible exact Nat.le_refl _) | omega | (simp only [World.size_alloc, World.size_setCell, World.size_drew, Wov_size, World.heap_drewN]; omega)))), m1_1.below (by (repeat' (first | (with_reducible assumption) | (with_reducible exact Below.refl _ _) | (with_reducible refine below_wov ?_ ?_ _) | (with_reducible refine below_drewN ?_ _) | (with_reducible refine Below.drew ?_) | (with_reducible refine Below.alloc ?_ ?_ _) | (with_reducible refine Below.setCell ?_ ?_ _) | (with_reducible exact Nat.le_refl _) | omega | (simp only [World.size_alloc, World.size_setCell, World.size_drew, Wov_size, World.heap_drewN]; omega)))), m1_2.below (by (repeat' (first | (with_reducible assumption) | (with_reducible exact Below.refl _ _) | (with_reducible refine below_wov ?_ ?_ _) | (with_reducible refine below_drewN ?_ _) | (with_reducible refine Below.drew ?_) | (with_reducible refine Below.alloc ?_ ?_ _) | (with_reducible refine Below.setCell ?_ ?_ _) | (with_reducible exact Nat.le_refl _) | omega | (simp only [World.size_alloc, World.size_setCell, World.size_drew, Wov_size, World.heap_drewN]; omega)))), m1_3.below (by (repeat' (first | (with_reducible assumption) | (with_reducible exact Below.refl _ _) | (with_reducible refine below_wov ?_ ?_ _) | (with_reducible refine below_drewN ?_ _) | (with_reducible refine Below.drew ?_) | (with_reducible refine Below.alloc ?_ ?_ _) | (with_reducible refine Below.setCell ?_ ?_ _) | (with_reducible exact Nat.le_refl _) | omega | (simp only [World.size_alloc, World.size_setCell, World.size_drew, Wov_size, World.heap_drewN]; omega)))), BoxM.new (tp1) (by rw [← hA1]; (try simp only [Wov_size]))⟩ ?_
  rintro W2 ⟨hb2, m2_0, m2_1, m2_2, m2_3, m2_4⟩
  clear hb1 f1_0_lt f1_0_c0 f1_0_c1 f1_0_c2 f1_0_c3 f1_0_c4 f1_0_c5 f1_1_lt f1_1_c0 f1_1_c1 f1_1_c2 f1_1_c3 f1_1_c4 f1_1_c5 f1_2_lt f1_2_c0 f1_2_c1 f1_3_lt f1_3_c0 f1_3_c1 f1_3_c2 f1_3_c3 m1_0 m1_1 m1_2 m1_3 hs1
  have hs2 := hb2.size
  have f2_0_lt := m2_0.lt
  have f2_0_c0 := m2_0.c0
  have f2_0_c1 := m2_0.c1
  have f2_0_c2 := m2_0.c2
  have f2_0_c3 := m2_0.c3
  have f2_0_c4 := m2_0.c4
  have f2_0_c5 := m2_0.c5
  have f2_1_lt := m2_1.lt
  have f2_1_c0 := m2_1.c0
  have f2_1_c1 := m2_1.c1
  have f2_1_c2 := m2_1.c2
  have f2_1_c3 := m2_1.c3
  have f2_1_c4 := m2_1.c4
  have f2_1_c5 := m2_1.c5
  have f2_2_lt := m2_2.lt
  have f2_2_c0 := m2_2.c0
  have f2_2_c1 := m2_2.c1
  have f2_3_lt := m2_3.lt
  have f2_3_c0 := m2_3.c0
  have f2_3_c1 := m2_3.c1
  have f2_3_c2 := m2_3.c2
  have f2_3_c3 := m2_3.c3
  have f2_4_lt := m2_4.lt
  have f2_4_c0 := m2_4.c0
  have f2_4_c1 := m2_4.c1
  clear hA1 tp1 C1
  refine (C2.out _).mono ?_; rintro e w' ⟨⟨p2, c2, rfl, ho⟩, q2, rfl⟩
  have tp2 := ho.slp
  clear ho
  go_wp2_with (fail)
  obtain ⟨A2, hA2⟩ : ∃ A, W2.heap.size + q2.bl.size = A := ⟨_, rfl⟩
  rw [hA2]
  refine calls_world (fun W => Below w.heap.size w W ∧ BoxZ W w.heap.size a ∧ BoxZ W (w.heap.size + 1) b ∧ BoxM W (w.heap.size + 2) n pp N cap f ∧ PtAt W (w.heap.size + 3) pa pb pc pd ∧ BoxM W A1 x1 p1 X c1 g1 ∧ BoxM W A2 x1 p2 X c2 g1) ⟨by (repeat' (first | (with_reducible assumption) | (with_reducible exact Below.refl _ _) | (with_reducible refine below_wov ?_ ?_ _) | (with_reducible refine below_drewN ?_ _) | (with_reducible refine Below.drew ?_) | (with_reducible refine Below.alloc ?_ ?_ _) | (with_reducible refine Below.setCell ?_ ?_ _) | (with_reducible exact Nat.le_refl _) | omega | (simp only [World.size_alloc, World.size_setCell, World.size_drew, Wov_size, World.heap_drewN]; omega))), m2_0.below (by (repeat' (first | (with_reducible assumption) | (with_reducible exact Below.refl _ _) | (with_reducible refine below_wov ?_ ?_ _) | (with_reducible refine below_drewN ?_ _) | (with_reducible refine Below.drew ?_) | (with_reducible refine Below.alloc ?_ ?_ _) | (with_reducible refine Below.setCell ?_ ?_ _) | (with_reducible exact Nat.le_refl _) | omega | (simp only [World.size_alloc, World.size_setCell, World.size_drew, Wov_size, World.heap_drewN]; omega)))), m2_1.below (by (repeat' (first | (with_reducible assumption) | (with_reducible exact Below.refl _ _) | (with_reducible refine below_wov ?_ ?_ _) | (with_reducible refine below_drewN ?_ _) | (with_reducible refine Below.drew ?_) | (with_reducible refine Below.alloc ?_ ?_ _) | (with_reducible refine Below.setCell ?_ ?_ _) | (with_reducible exact Nat.le_refl _) | omega | (simp only [World.size_alloc, World.size_setCell, World.size_drew, Wov_size, World.heap_drewN]; omega)))), m2_2.below (by (repeat' (first | (with_reducible assumption) | (with_reducible exact Below.refl _ _) | (with_reducible refine below_wov ?_ ?_ _) | (with_reducible refine below_drewN ?_ _) | (with_reducible refine Below.drew ?_) | (with_reducible refine Below.alloc ?_ ?_ _) | (with_reducible refine Below.setCell ?_ ?_ _) | (with_reducible exact Nat.le_refl _) | omega | (simp only [World.size_alloc, World.size_setCell, World.size_drew, Wov_size, World.heap_drewN]; omega)))), m2_3.below (by (repeat' (first | (with_reducible assumption) | (with_reducible exact Below.refl _ _) | (with_reducible refine below_wov ?_ ?_ _) | (with_reducible refine below_drewN ?_ _) | (with_reducible refine Below.drew ?_) | (with_reducible refine Below.alloc ?_ ?_ _) | (with_reducible refine Below.setCell ?_ ?_ _) | (with_reducible exact Nat.le_refl _) | omega | (simp only [World.size_alloc, World.size_setCell, World.size_drew, Wov_size, World.heap_drewN]; omega)))), m2_4.below (by (repeat' (first | (with_reducible assumption) | (with_reducible exact Below.refl _ _) | (with_reducible refine below_wov ?_ ?_ _) | (with_reducible refine below_drewN ?_ _) | (with_reducible refine Below.drew ?_) | (with_reducible refine Below.alloc ?_ ?_ _) | (with_reducible refine Below.setCell ?_ ?_ _) | (with_reducible exact Nat.le_refl _) | omega | (simp only [World.size_alloc, World.size_setCell, World.size_drew, Wov_size, World.heap_drewN]; omega)))), BoxM.new (tp2) (by rw [← hA2]; (try simp only [Wov_size]))⟩ ?_
  rintro W3 ⟨hb3, m3_0, m3_1, m3_2, m3_3, m3_4, m3_5⟩
  clear hb2 f2_0_lt f2_0_c0 f2_0_c1 f2_0_c2 f2_0_c3 f2_0_c4 f2_0_c5 f2_1_lt f2_1_c0 f2_1_c1 f2_1_c2 f2_1_c3 f2_1_c4 f2_1_c5 f2_2_lt f2_2_c0 f2_2_c1 f2_3_lt f2_3_c0 f2_3_c1 f2_3_c2 f2_3_c3 f2_4_lt f2_4_c0 f2_4_c1 m2_0 m2_1 m2_2 m2_3 m2_4 hs2
  have hs3 := hb3.size
  have f3_0_lt := m3_0.lt
  have f3_0_c0 := m3_0.c0
  have f3_0_c1 := m3_0.c1
  have f3_0_c2 := m3_0.c2
  have f3_0_c3 := m3_0.c3
  have f3_0_c4 := m3_0.c4
  have f3_0_c5 := m3_0.c5
  have f3_1_lt := m3_1.lt
  have f3_1_c0 := m3_1.c0
  have f3_1_c1 := m3_1.c1
  have f3_1_c2 := m3_1.c2
  have f3_1_c3 := m3_1.c3
  have f3_1_c4 := m3_1.c4
  have f3_1_c5 := m3_1.c5
  have f3_2_lt := m3_2.lt
  have f3_2_c0 := m3_2.c0
  have f3_2_c1 := m3_2.c1
  have f3_3_lt := m3_3.lt
  have f3_3_c0 := m3_3.c0
  have f3_3_c1 := m3_3.c1
  have f3_3_c2 := m3_3.c2
  have f3_3_c3 := m3_3.c3
  have f3_4_lt := m3_4.lt
  have f3_4_c0 := m3_4.c0
  have f3_4_c1 := m3_4.c1
  have f3_5_lt := m3_5.lt
  have f3_5_c0 := m3_5.c0
  have f3_5_c1 := m3_5.c1
  clear hA2 tp2 C2
  refine (C3.out _ m3_2.sl).mono ?_; rintro e w' ⟨rfl, q3, rfl⟩
  go_wp2_with (fail)
  obtain ⟨A3, hA3⟩ : ∃ A, W3.heap.size + q3.bl.size = A := ⟨_, rfl⟩
  rw [hA3]
  refine calls_world (fun W => Below w.heap.size w W ∧ BoxZ W w.heap.size a ∧ BoxZ W (w.heap.size + 1) b ∧ BoxM W (w.heap.size + 2) n pp N cap f ∧ PtAt W (w.heap.size + 3) pa pb pc pd ∧ BoxM W A1 x1 p1 X c1 g1 ∧ BoxM W A2 x1 p2 X c2 g1 ∧ BoxZ W A3 r3) ⟨by (repeat' (first | (with_reducible assumption) | (with_reducible exact Below.refl _ _) | (with_reducible refine below_wov ?_ ?_ _) | (with_reducible refine below_drewN ?_ _) | (with_reducible refine Below.drew ?_) | (with_reducible refine Below.alloc ?_ ?_ _) | (with_reducible refine Below.setCell ?_ ?_ _) | (with_reducible exact Nat.le_refl _) | omega | (simp only [World.size_alloc, World.size_setCell, World.size_drew, Wov_size, World.heap_drewN]; omega))), m3_0.below (by (repeat' (first | (with_reducible assumption) | (with_reducible exact Below.refl _ _) | (with_reducible refine below_wov ?_ ?_ _) | (with_reducible refine below_drewN ?_ _) | (with_reducible refine Below.drew ?_) | (with_reducible refine Below.alloc ?_ ?_ _) | (with_reducible refine Below.setCell ?_ ?_ _) | (with_reducible exact Nat.le_refl _) | omega | (simp only [World.size_alloc, World.size_setCell, World.size_drew, Wov_size, World.heap_drewN]; omega)))), m3_1.below (by (repeat' (first | (with_reducible assumption) | (with_reducible exact Below.refl _ _) | (with_reducible refine below_wov ?_ ?_ _) | (with_reducible refine below_drewN ?_ _) | (with_reducible refine Below.drew ?_) | (with_reducible refine Below.alloc ?_ ?_ _) | (with_reducible refine Below.setCell ?_ ?_ _) | (with_reducible exact Nat.le_refl _) | omega | (simp only [World.size_alloc, World.size_setCell, World.size_drew, Wov_size, World.heap_drewN]; omega)))), m3_2.below (by (repeat' (first | (with_reducible assumption) | (with_reducible exact Below.refl _ _) | (with_reducible refine below_wov ?_ ?_ _) | (with_reducible refine below_drewN ?_ _) | (with_reducible refine Below.drew ?_) | (with_reducible refine Below.alloc ?_ ?_ _) | (with_reducible refine Below.setCell ?_ ?_ _) | (with_reducible exact Nat.le_refl _) | omega | (simp only [World.size_alloc, World.size_setCell, World.size_drew, Wov_size, World.heap_drewN]; omega)))), m3_3.below (by (repeat' (first | (with_reducible assumption) | (with_reducible exact Below.refl _ _) | (with_reducible refine below_wov ?_ ?_ _) | (with_reducible refine below_drewN ?_ _) | (with_reducible refine Below.drew ?_) | (with_reducible refine Below.alloc ?_ ?_ _) | (with_reducible refine Below.setCell ?_ ?_ _) | (with_reducible exact Nat.le_refl _) | omega | (simp only [World.size_alloc, World.size_setCell, World.size_drew, Wov_size, World.heap_drewN]; omega)))), m3_4.below (by (repeat' (first | (with_reducible assumption) | (with_reducible exact Below.refl _ _) | (with_reducible refine below_wov ?_ ?_ _) | (with_reducible refine below_drewN ?_ _) | (with_reducible refine Below.drew ?_) | (with_reducible refine Below.alloc ?_ ?_ _) | (with_reducible refine Below.setCell ?_ ?_ _) | (with_reducible exact Nat.le_refl _) | omega | (simp only [World.size_alloc, World.size_setCell, World.size_drew, Wov_size, World.heap_drewN]; omega)))), m3_5.below (by (repeat' (first | (with_reducible assumption) | (with_reducible exact Below.refl _ _) | (with_reducible refine below_wov ?_ ?_ _) | (with_reducible refine below_drewN ?_ _) | (with_reducible refine Below.drew ?_) | (with_reducible refine Below.alloc ?_ ?_ _) | (with_reducible refine Below.setCell ?_ ?_ _) | (with_reducible exact Nat.le_refl _) | omega | (simp only [World.size_alloc, World.size_setCell, World.size_drew, Wov_size, World.heap_drewN]; omega)))), BoxZ.new (by rw [← hA3]; (try simp only [Wov_size]))⟩ ?_
  rintro W4 ⟨hb4, m4_0, m4_1, m4_2, m4_3, m4_4, m4_5, m4_6⟩
  clear hb3 f3_0_lt f3_0_c0 f3_0_c1 f3_0_c2 f3_0_c3 f3_0_c4 f3_0_c5 f3_1_lt f3_1_c0 f3_1_c1 f3_1_c2 f3_1_c3 f3_1_c4 f3_1_c5 f3_2_lt f3_2_c0 f3_2_c1 f3_3_lt f3_3_c0 f3_3_c1 f3_3_c2 f3_3_c3 f3_4_lt f3_4_c0 f3_4_c1 f3_5_lt f3_5_c0 f3_5_c1 m3_0 m3_1 m3_2 m3_3 m3_4 m3_5 hs3
  have hs4 := hb4.size
  have f4_0_lt := m4_0.lt
  have f4_0_c0 := m4_0.c0
  have f4_0_c1 := m4_0.c1
  have f4_0_c2 := m4_0.c2
  have f4_0_c3 := m4_0.c3
  have f4_0_c4 := m4_0.c4
  have f4_0_c5 := m4_0.c5
  have f4_1_lt := m4_1.lt
  have f4_1_c0 := m4_1.c0
  have f4_1_c1 := m4_1.c1
  have f4_1_c2 := m4_1.c2
  have f4_1_c3 := m4_1.c3
  have f4_1_c4 := m4_1.c4
  have f4_1_c5 := m4_1.c5
  have f4_2_lt := m4_2.lt
  have f4_2_c0 := m4_2.c0
  have f4_2_c1 := m4_2.c1
  have f4_3_lt := m4_3.lt
  have f4_3_c0 := m4_3.c0
  have f4_3_c1 := m4_3.c1
  have f4_3_c2 := m4_3.c2
  have f4_3_c3 := m4_3.c3
  have f4_4_lt := m4_4.lt
  have f4_4_c0 := m4_4.c0
  have f4_4_c1 := m4_4.c1
  have f4_5_lt := m4_5.lt
  have f4_5_c0 := m4_5.c0
  have f4_5_c1 := m4_5.c1
  have f4_6_lt := m4_6.lt
  have f4_6_c0 := m4_6.c0
  have f4_6_c1 := m4_6.c1
  have f4_6_c2 := m4_6.c2
  have f4_6_c3 := m4_6.c3
  have f4_6_c4 := m4_6.c4
  have f4_6_c5 := m4_6.c5
  clear hA3 C3
  refine (C4.out _ m4_2.sl).mono ?_; rintro e w' ⟨rfl, q4, rfl⟩
  go_wp2_with (fail)
  obtain ⟨A4, hA4⟩ : ∃ A, W4.heap.size + q4.bl.size = A := ⟨_, rfl⟩
  rw [hA4]
  refine calls_world (fun W => Below w.heap.size w W ∧ BoxZ W w.heap.size a ∧ BoxZ W (w.heap.size + 1) b ∧ PtAt W (w.heap.size + 3) pa pb pc pd ∧ BoxM W A1 x1 p1 X c1 g1 ∧ BoxM W A2 x1 p2 X c2 g1 ∧ BoxZ W A3 r3 ∧ BoxZ W A4 r3) ⟨by (repeat' (first | (with_reducible assumption) | (with_reducible exact Below.refl _ _) | (with_reducible refine below_wov ?_ ?_ _) | (with_reducible refine below_drewN ?_ _) | (with_reducible refine Below.drew ?_) | (with_reducible refine Below.alloc ?_ ?_ _) | (with_reducible refine Below.setCell ?_ ?_ _) | (with_reducible exact Nat.le_refl _) | omega | (simp only [World.size_alloc, World.size_setCell, World.size_drew, Wov_size, World.heap_drewN]; omega))), m4_0.below (by (repeat' (first | (with_reducible assumption) | (with_reducible exact Below.refl _ _) | (with_reducible refine below_wov ?_ ?_ _) | (with_reducible refine below_drewN ?_ _) | (with_reducible refine Below.drew ?_) | (with_reducible refine Below.alloc ?_ ?_ _) | (with_reducible refine Below.setCell ?_ ?_ _) | (with_reducible exact Nat.le_refl _) | omega | (simp only [World.size_alloc, World.size_setCell, World.size_drew, Wov_size, World.heap_drewN]; omega)))), m4_1.below (by (repeat' (first | (with_reducible assumption) | (with_reducible exact Below.refl _ _) | (with_reducible refine below_wov ?_ ?_ _) | (with_reducible refine below_drewN ?_ _) | (with_reducible refine Below.drew ?_) | (with_reducible refine Below.alloc ?_ ?_ _) | (with_reducible refine Below.setCell ?_ ?_ _) | (with_reducible exact Nat.le_refl _) | omega | (simp only [World.size_alloc, World.size_setCell, World.size_drew, Wov_size, World.heap_drewN]; omega)))), m4_3.below (by (repeat' (first | (with_reducible assumption) | (with_reducible exact Below.refl _ _) | (with_reducible refine below_wov ?_ ?_ _) | (with_reducible refine below_drewN ?_ _) | (with_reducible refine Below.drew ?_) | (with_reducible refine Below.alloc ?_ ?_ _) | (with_reducible refine Below.setCell ?_ ?_ _) | (with_reducible exact Nat.le_refl _) | omega | (simp only [World.size_alloc, World.size_setCell, World.size_drew, Wov_size, World.heap_drewN]; omega)))), m4_4.below (by (repeat' (first | (with_reducible assumption) | (with_reducible exact Below.refl _ _) | (with_reducible refine below_wov ?_ ?_ _) | (with_reducible refine below_drewN ?_ _) | (with_reducible refine Below.drew ?_) | (with_reducible refine Below.alloc ?_ ?_ _) | (with_reducible refine Below.setCell ?_ ?_ _) | (with_reducible exact Nat.le_refl _) | omega | (simp only [World.size_alloc, World.size_setCell, World.size_drew, Wov_size, World.heap_drewN]; omega)))), m4_5.below (by (repeat' (first | (with_reducible assumption) | (with_reducible exact Below.refl _ _) | (with_reducible refine below_wov ?_ ?_ _) | (with_reducible refine below_drewN ?_ _) | (with_reducible refine Below.drew ?_) | (with_reducible refine Below.alloc ?_ ?_ _) | (with_reducible refine Below.setCell ?_ ?_ _) | (with_reducible exact Nat.le_refl _) | omega | (simp only [World.size_alloc, World.size_setCell, World.size_drew, Wov_size, World.heap_drewN]; omega)))), m4_6.below (by (repeat' (first | (with_reducible assumption) | (with_reducible exact Below.refl _ _) | (with_reducible refine below_wov ?_ ?_ _) | (with_reducible refine below_drewN ?_ _) | (with_reducible refine Below.drew ?_) | (with_reducible refine Below.alloc ?_ ?_ _) | (with_reducible refine Below.setCell ?_ ?_ _) | (with_reducible exact Nat.le_refl _) | omega | (simp only [World.size_alloc, World.size_setCell, World.size_drew, Wov_size, World.heap_drewN]; omega)))), BoxZ.new (by rw [← hA4]; (try simp only [Wov_size]))⟩ ?_
  rintro W5 ⟨hb5, m5_0, m5_1, m5_2, m5_3, m5_4, m5_5, m5_6⟩
  clear hb4 f4_0_lt f4_0_c0 f4_0_c1 f4_0_c2 f4_0_c3 f4_0_c4 f4_0_c5 f4_1_lt f4_1_c0 f4_1_c1 f4_1_c2 f4_1_c3 f4_1_c4 f4_1_c5 f4_2_lt f4_2_c0 f4_2_c1 f4_3_lt f4_3_c0 f4_3_c1 f4_3_c2 f4_3_c3 f4_4_lt f4_4_c0 f4_4_c1 f4_5_lt f4_5_c0 f4_5_c1 f4_6_lt f4_6_c0 f4_6_c1 f4_6_c2 f4_6_c3 f4_6_c4 f4_6_c5 m4_0 m4_1 m4_2 m4_3 m4_4 m4_5 m4_6 hs4
  have hs5 := hb5.size
  have f5_0_lt := m5_0.lt
  have f5_0_c0 := m5_0.c0
  have f5_0_c1 := m5_0.c1
  have f5_0_c2 := m5_0.c2
  have f5_0_c3 := m5_0.c3
  have f5_0_c4 := m5_0.c4
  have f5_0_c5 := m5_0.c5
  have f5_1_lt := m5_1.lt
  have f5_1_c0 := m5_1.c0
  have f5_1_c1 := m5_1.c1
  have f5_1_c2 := m5_1.c2
  have f5_1_c3 := m5_1.c3
  have f5_1_c4 := m5_1.c4
  have f5_1_c5 := m5_1.c5
  have f5_2_lt := m5_2.lt
  have f5_2_c0 := m5_2.c0
  have f5_2_c1 := m5_2.c1
  have f5_2_c2 := m5_2.c2
  have f5_2_c3 := m5_2.c3
  have f5_3_lt := m5_3.lt
  have f5_3_c0 := m5_3.c0
  have f5_3_c1 := m5_3.c1
  have f5_4_lt := m5_4.lt
  have f5_4_c0 := m5_4.c0
  have f5_4_c1 := m5_4.c1
  have f5_5_lt := m5_5.lt
  have f5_5_c0 := m5_5.c0
  have f5_5_c1 := m5_5.c1
  have f5_5_c2 := m5_5.c2
  have f5_5_c3 := m5_5.c3
  have f5_5_c4 := m5_5.c4
  have f5_5_c5 := m5_5.c5
  have f5_6_lt := m5_6.lt
  have f5_6_c0 := m5_6.c0
  have f5_6_c1 := m5_6.c1
  have f5_6_c2 := m5_6.c2
  have f5_6_c3 := m5_6.c3
  have f5_6_c4 := m5_6.c4
  have f5_6_c5 := m5_6.c5
  clear hA4 C4
  refine (C5.out _).mono ?_; rintro e w' ⟨rfl, q5, rfl⟩
  clear C5
  go_wp2_with (fail)
  refine calls_world (fun W => Below w.heap.size w W ∧ BoxZ W w.heap.size a ∧ BoxZ W (w.heap.size + 1) b ∧ PtAt W (w.heap.size + 3) pa pb pc pd ∧ BoxM W A1 x1 p1 X c1 g1 ∧ BoxM W A2 x1 p2 X c2 g1 ∧ BoxZ W A3 r3 ∧ BoxZ W A4 r3) ⟨by (repeat' (first | (with_reducible assumption) | (with_reducible exact Below.refl _ _) | (with_reducible refine below_wov ?_ ?_ _) | (with_reducible refine below_drewN ?_ _) | (with_reducible refine Below.drew ?_) | (with_reducible refine Below.alloc ?_ ?_ _) | (with_reducible refine Below.setCell ?_ ?_ _) | (with_reducible exact Nat.le_refl _) | omega | (simp only [World.size_alloc, World.size_setCell, World.size_drew, Wov_size, World.heap_drewN]; omega))), m5_0.below (by (repeat' (first | (with_reducible assumption) | (with_reducible exact Below.refl _ _) | (with_reducible refine below_wov ?_ ?_ _) | (with_reducible refine below_drewN ?_ _) | (with_reducible refine Below.drew ?_) | (with_reducible refine Below.alloc ?_ ?_ _) | (with_reducible refine Below.setCell ?_ ?_ _) | (with_reducible exact Nat.le_refl _) | omega | (simp only [World.size_alloc, World.size_setCell, World.size_drew, Wov_size, World.heap_drewN]; omega)))), m5_1.below (by (repeat' (first | (with_reducible assumption) | (with_reducible exact Below.refl _ _) | (with_reducible refine below_wov ?_ ?_ _) | (with_reducible refine below_drewN ?_ _) | (with_reducible refine Below.drew ?_) | (with_reducible refine Below.alloc ?_ ?_ _) | (with_reducible refine Below.setCell ?_ ?_ _) | (with_reducible exact Nat.le_refl _) | omega | (simp only [World.size_alloc, World.size_setCell, World.size_drew, Wov_size, World.heap_drewN]; omega)))), m5_2.below (by (repeat' (first | (with_reducible assumption) | (with_reducible exact Below.refl _ _) | (with_reducible refine below_wov ?_ ?_ _) | (with_reducible refine below_drewN ?_ _) | (with_reducible refine Below.drew ?_) | (with_reducible refine Below.alloc ?_ ?_ _) | (with_reducible refine Below.setCell ?_ ?_ _) | (with_reducible exact Nat.le_refl _) | omega | (simp only [World.size_alloc, World.size_setCell, World.size_drew, Wov_size, World.heap_drewN]; omega)))), m5_3.below (by (repeat' (first | (with_reducible assumption) | (with_reducible exact Below.refl _ _) | (with_reducible refine below_wov ?_ ?_ _) | (with_reducible refine below_drewN ?_ _) | (with_reducible refine Below.drew ?_) | (with_reducible refine Below.alloc ?_ ?_ _) | (with_reducible refine Below.setCell ?_ ?_ _) | (with_reducible exact Nat.le_refl _) | omega | (simp only [World.size_alloc, World.size_setCell, World.size_drew, Wov_size, World.heap_drewN]; omega)))), m5_4.below (by (repeat' (first | (with_reducible assumption) | (with_reducible exact Below.refl _ _) | (with_reducible refine below_wov ?_ ?_ _) | (with_reducible refine below_drewN ?_ _) | (with_reducible refine Below.drew ?_) | (with_reducible refine Below.alloc ?_ ?_ _) | (with_reducible refine Below.setCell ?_ ?_ _) | (with_reducible exact Nat.le_refl _) | omega | (simp only [World.size_alloc, World.size_setCell, World.size_drew, Wov_size, World.heap_drewN]; omega)))), m5_5.below (by (repeat' (first | (with_reducible assumption) | (with_reducible exact Below.refl _ _) | (with_reducible refine below_wov ?_ ?_ _) | (with_reducible refine below_drewN ?_ _) | (with_reducible refine Below.drew ?_) | (with_reducible refine Below.alloc ?_ ?_ _) | (with_reducible refine Below.setCell ?_ ?_ _) | (with_reducible exact Nat.le_refl _) | omega | (simp only [World.size_alloc, World.size_setCell, World.size_drew, Wov_size, World.heap_drewN]; omega)))), m5_6.below (by (repeat' (first | (with_reducible assumption) | (with_reducible exact Below.refl _ _) | (with_reducible refine below_wov ?_ ?_ _) | (with_reducible refine below_drewN ?_ _) | (with_reducible refine Below.drew ?_) | (with_reducible refine Below.alloc ?_ ?_ _) | (with_reducible refine Below.setCell ?_ ?_ _) | (with_reducible exact Nat.le_refl _) | omega | (simp only [World.size_alloc, World.size_setCell, World.size_drew, Wov_size, World.heap_drewN]; omega))))⟩ ?_
  rintro W6 ⟨hb6, m6_0, m6_1, m6_2, m6_3, m6_4, m6_5, m6_6⟩
  clear hb5 f5_0_lt f5_0_c0 f5_0_c1 f5_0_c2 f5_0_c3 f5_0_c4 f5_0_c5 f5_1_lt f5_1_c0 f5_1_c1 f5_1_c2 f5_1_c3 f5_1_c4 f5_1_c5 f5_2_lt f5_2_c0 f5_2_c1 f5_2_c2 f5_2_c3 f5_3_lt f5_3_c0 f5_3_c1 f5_4_lt f5_4_c0 f5_4_c1 f5_5_lt f5_5_c0 f5_5_c1 f5_5_c2 f5_5_c3 f5_5_c4 f5_5_c5 f5_6_lt f5_6_c0 f5_6_c1 f5_6_c2 f5_6_c3 f5_6_c4 f5_6_c5 m5_0 m5_1 m5_2 m5_3 m5_4 m5_5 m5_6 hs5
  have hs6 := hb6.size
  have f6_0_lt := m6_0.lt
  have f6_0_c0 := m6_0.c0
  have f6_0_c1 := m6_0.c1
  have f6_0_c2 := m6_0.c2
  have f6_0_c3 := m6_0.c3
  have f6_0_c4 := m6_0.c4
  have f6_0_c5 := m6_0.c5
  have f6_1_lt := m6_1.lt
  have f6_1_c0 := m6_1.c0
  have f6_1_c1 := m6_1.c1
  have f6_1_c2 := m6_1.c2
  have f6_1_c3 := m6_1.c3
  have f6_1_c4 := m6_1.c4
  have f6_1_c5 := m6_1.c5
  have f6_2_lt := m6_2.lt
  have f6_2_c0 := m6_2.c0
  have f6_2_c1 := m6_2.c1
  have f6_2_c2 := m6_2.c2
  have f6_2_c3 := m6_2.c3
  have f6_3_lt := m6_3.lt
  have f6_3_c0 := m6_3.c0
  have f6_3_c1 := m6_3.c1
  have f6_4_lt := m6_4.lt
  have f6_4_c0 := m6_4.c0
  have f6_4_c1 := m6_4.c1
  have f6_5_lt := m6_5.lt
  have f6_5_c0 := m6_5.c0
  have f6_5_c1 := m6_5.c1
  have f6_5_c2 := m6_5.c2
  have f6_5_c3 := m6_5.c3
  have f6_5_c4 := m6_5.c4
  have f6_5_c5 := m6_5.c5
  have f6_6_lt := m6_6.lt
  have f6_6_c0 := m6_6.c0
  have f6_6_c1 := m6_6.c1
  have f6_6_c2 := m6_6.c2
  have f6_6_c3 := m6_6.c3
  have f6_6_c4 := m6_6.c4
  have f6_6_c5 := m6_6.c5
  refine (C6.out _).mono ?_; rintro e w' ⟨rfl, q6, rfl⟩
  clear C6
  go_wp2_with (fail)
  refine calls_world (fun W => Below w.heap.size w W ∧ BoxZ W w.heap.size a ∧ BoxZ W (w.heap.size + 1) b ∧ BoxM W A1 x1 p1 X c1 g1 ∧ BoxM W A2 x1 p2 X c2 g1 ∧ BoxZ W A3 r3 ∧ BoxZ W A4 r3) ⟨by (repeat' (first | (with_reducible assumption) | (with_reducible exact Below.refl _ _) | (with_reducible refine below_wov ?_ ?_ _) | (with_reducible refine below_drewN ?_ _) | (with_reducible refine Below.drew ?_) | (with_reducible refine Below.alloc ?_ ?_ _) | (with_reducible refine Below.setCell ?_ ?_ _) | (with_reducible exact Nat.le_refl _) | omega | (simp only [World.size_alloc, World.size_setCell, World.size_drew, Wov_size, World.heap_drewN]; omega))), m6_0.below (by (repeat' (first | (with_reducible assumption) | (with_reducible exact Below.refl _ _) | (with_reducible refine below_wov ?_ ?_ _) | (with_reducible refine below_drewN ?_ _) | (with_reducible refine Below.drew ?_) | (with_reducible refine Below.alloc ?_ ?_ _) | (with_reducible refine Below.setCell ?_ ?_ _) | (with_reducible exact Nat.le_refl _) | omega | (simp only [World.size_alloc, World.size_setCell, World.size_drew, Wov_size, World.heap_drewN]; omega)))), m6_1.below (by (repeat' (first | (with_reducible assumption) | (with_reducible exact Below.refl _ _) | (with_reducible refine below_wov ?_ ?_ _) | (with_reducible refine below_drewN ?_ _) | (with_reducible refine Below.drew ?_) | (with_reducible refine Below.alloc ?_ ?_ _) | (with_reducible refine Below.setCell ?_ ?_ _) | (with_reducible exact Nat.le_refl _) | omega | (simp only [World.size_alloc, World.size_setCell, World.size_drew, Wov_size, World.heap_drewN]; omega)))), m6_3.below (by (repeat' (first | (with_reducible assumption) | (with_reducible exact Below.refl _ _) | (with_reducible refine below_wov ?_ ?_ _) | (with_reducible refine below_drewN ?_ _) | (with_reducible refine Below.drew ?_) | (with_reducible refine Below.alloc ?_ ?_ _) | (with_reducible refine Below.setCell ?_ ?_ _) | (with_reducible exact Nat.le_refl _) | omega | (simp only [World.size_alloc, World.size_setCell, World.size_drew, Wov_size, World.heap_drewN]; omega)))), m6_4.below (by (repeat' (first | (with_reducible assumption) | (with_reducible exact Below.refl _ _) | (with_reducible refine below_wov ?_ ?_ _) | (with_reducible refine below_drewN ?_ _) | (with_reducible refine Below.drew ?_) | (with_reducible refine Below.alloc ?_ ?_ _) | (with_reducible refine Below.setCell ?_ ?_ _) | (with_reducible exact Nat.le_refl _) | omega | (simp only [World.size_alloc, World.size_setCell, World.size_drew, Wov_size, World.heap_drewN]; omega)))), m6_5.below (by (repeat' (first | (with_reducible assumption) | (with_reducible exact Below.refl _ _) | (with_reducible refine below_wov ?_ ?_ _) | (with_reducible refine below_drewN ?_ _) | (with_reducible refine Below.drew ?_) | (with_reducible refine Below.alloc ?_ ?_ _) | (with_reducible refine Below.setCell ?_ ?_ _) | (with_reducible exact Nat.le_refl _) | omega | (simp only [World.size_alloc, World.size_setCell, World.size_drew, Wov_size, World.heap_drewN]; omega)))), m6_6.below (by (repeat' (first | (with_reducible assumption) | (with_reducible exact Below.refl _ _) | (with_reducible refine below_wov ?_ ?_ _) | (with_reducible refine below_drewN ?_ _) | (with_reducible refine Below.drew ?_) | (with_reducible refine Below.alloc ?_ ?_ _) | (with_reducible refine Below.setCell ?_ ?_ _) | (with_reducible exact Nat.le_refl _) | omega | (simp only [World.size_alloc, World.size_setCell, World.size_drew, Wov_size, World.heap_drewN]; omega))))⟩ ?_
  rintro W7 ⟨hb7, m7_0, m7_1, m7_2, m7_3, m7_4, m7_5⟩
  clear hb6 f6_0_lt f6_0_c0 f6_0_c1 f6_0_c2 f6_0_c3 f6_0_c4 f6_0_c5 f6_1_lt f6_1_c0 f6_1_c1 f6_1_c2 f6_1_c3 f6_1_c4 f6_1_c5 f6_2_lt f6_2_c0 f6_2_c1 f6_2_c2 f6_2_c3 f6_3_lt f6_3_c0 f6_3_c1 f6_4_lt f6_4_c0 f6_4_c1 f6_5_lt f6_5_c0 f6_5_c1 f6_5_c2 f6_5_c3 f6_5_c4 f6_5_c5 f6_6_lt f6_6_c0 f6_6_c1 f6_6_c2 f6_6_c3 f6_6_c4 f6_6_c5 m6_0 m6_1 m6_2 m6_3 m6_4 m6_5 m6_6 hs6
  have hs7 := hb7.size
  have f7_0_lt := m7_0.lt
  have f7_0_c0 := m7_0.c0
  have f7_0_c1 := m7_0.c1
  have f7_0_c2 := m7_0.c2
  have f7_0_c3 := m7_0.c3
  have f7_0_c4 := m7_0.c4
  have f7_0_c5 := m7_0.c5
  have f7_1_lt := m7_1.lt
  have f7_1_c0 := m7_1.c0
  have f7_1_c1 := m7_1.c1
  have f7_1_c2 := m7_1.c2
  have f7_1_c3 := m7_1.c3
  have f7_1_c4 := m7_1.c4
  have f7_1_c5 := m7_1.c5
  have f7_2_lt := m7_2.lt
  have f7_2_c0 := m7_2.c0
  have f7_2_c1 := m7_2.c1
  have f7_3_lt := m7_3.lt
  have f7_3_c0 := m7_3.c0
  have f7_3_c1 := m7_3.c1
  have f7_4_lt := m7_4.lt
  have f7_4_c0 := m7_4.c0
  have f7_4_c1 := m7_4.c1
  have f7_4_c2 := m7_4.c2
  have f7_4_c3 := m7_4.c3
  have f7_4_c4 := m7_4.c4
  have f7_4_c5 := m7_4.c5
  have f7_5_lt := m7_5.lt
  have f7_5_c0 := m7_5.c0
  have f7_5_c1 := m7_5.c1
  have f7_5_c2 := m7_5.c2
  have f7_5_c3 := m7_5.c3
  have f7_5_c4 := m7_5.c4
  have f7_5_c5 := m7_5.c5
  refine (C7.out _).mono ?_; rintro e w' ⟨rfl, q7, rfl⟩
  clear C7
  go_wp2_with (fail)
  refine calls_world (fun W => Below w.heap.size w W ∧ BoxZ W w.heap.size a ∧ BoxZ W (w.heap.size + 1) b ∧ BoxM W A1 x1 p1 X c1 g1 ∧ BoxM W A2 x1 p2 X c2 g1 ∧ BoxZ W A3 r3 ∧ BoxZ W A4 r3) ⟨by (repeat' (first | (with_reducible assumption) | (with_reducible exact Below.refl _ _) | (with_reducible refine below_wov ?_ ?_ _) | (with_reducible refine below_drewN ?_ _) | (with_reducible refine Below.drew ?_) | (with_reducible refine Below.alloc ?_ ?_ _) | (with_reducible refine Below.setCell ?_ ?_ _) | (with_reducible exact Nat.le_refl _) | omega | (simp only [World.size_alloc, World.size_setCell, World.size_drew, Wov_size, World.heap_drewN]; omega))), m7_0.below (by (repeat' (first | (with_reducible assumption) | (with_reducible exact Below.refl _ _) | (with_reducible refine below_wov ?_ ?_ _) | (with_reducible refine below_drewN ?_ _) | (with_reducible refine Below.drew ?_) | (with_reducible refine Below.alloc ?_ ?_ _) | (with_reducible refine Below.setCell ?_ ?_ _) | (with_reducible exact Nat.le_refl _) | omega | (simp only [World.size_alloc, World.size_setCell, World.size_drew, Wov_size, World.heap_drewN]; omega)))), m7_1.below (by (repeat' (first | (with_reducible assumption) | (with_reducible exact Below.refl _ _) | (with_reducible refine below_wov ?_ ?_ _) | (with_reducible refine below_drewN ?_ _) | (with_reducible refine Below.drew ?_) | (with_reducible refine Below.alloc ?_ ?_ _) | (with_reducible refine Below.setCell ?_ ?_ _) | (with_reducible exact Nat.le_refl _) | omega | (simp only [World.size_alloc, World.size_setCell, World.size_drew, Wov_size, World.heap_drewN]; omega)))), m7_2.below (by (repeat' (first | (with_reducible assumption) | (with_reducible exact Below.refl _ _) | (with_reducible refine below_wov ?_ ?_ _) | (with_reducible refine below_drewN ?_ _) | (with_reducible refine Below.drew ?_) | (with_reducible refine Below.alloc ?_ ?_ _) | (with_reducible refine Below.setCell ?_ ?_ _) | (with_reducible exact Nat.le_refl _) | omega | (simp only [World.size_alloc, World.size_setCell, World.size_drew, Wov_size, World.heap_drewN]; omega)))), m7_3.below (by (repeat' (first | (with_reducible assumption) | (with_reducible exact Below.refl _ _) | (with_reducible refine below_wov ?_ ?_ _) | (with_reducible refine below_drewN ?_ _) | (with_reducible refine Below.drew ?_) | (with_reducible refine Below.alloc ?_ ?_ _) | (with_reducible refine Below.setCell ?_ ?_ _) | (with_reducible exact Nat.le_refl _) | omega | (simp only [World.size_alloc, World.size_setCell, World.size_drew, Wov_size, World.heap_drewN]; omega)))), m7_4.below (by (repeat' (first | (with_reducible assumption) | (with_reducible exact Below.refl _ _) | (with_reducible refine below_wov ?_ ?_ _) | (with_reducible refine below_drewN ?_ _) | (with_reducible refine Below.drew ?_) | (with_reducible refine Below.alloc ?_ ?_ _) | (with_reducible refine Below.setCell ?_ ?_ _) | (with_reducible exact Nat.le_refl _) | omega | (simp only [World.size_alloc, World.size_setCell, World.size_drew, Wov_size, World.heap_drewN]; omega)))), m7_5.below (by (repeat' (first | (with_reducible assumption) | (with_reducible exact Below.refl _ _) | (with_reducible refine below_wov ?_ ?_ _) | (with_reducible refine below_drewN ?_ _) | (with_reducible refine Below.drew ?_) | (with_reducible refine Below.alloc ?_ ?_ _) | (with_reducible refine Below.setCell ?_ ?_ _) | (with_reducible exact Nat.le_refl _) | omega | (simp only [World.size_alloc, World.size_setCell, World.size_drew, Wov_size, World.heap_drewN]; omega))))⟩ ?_
  rintro W8 ⟨hb8, m8_0, m8_1, m8_2, m8_3, m8_4, m8_5⟩
  clear hb7 f7_0_lt f7_0_c0 f7_0_c1 f7_0_c2 f7_0_c3 f7_0_c4 f7_0_c5 f7_1_lt f7_1_c0 f7_1_c1 f7_1_c2 f7_1_c3 f7_1_c4 f7_1_c5 f7_2_lt f7_2_c0 f7_2_c1 f7_3_lt f7_3_c0 f7_3_c1 f7_4_lt f7_4_c0 f7_4_c1 f7_4_c2 f7_4_c3 f7_4_c4 f7_4_c5 f7_5_lt f7_5_c0 f7_5_c1 f7_5_c2 f7_5_c3 f7_5_c4 f7_5_c5 m7_0 m7_1 m7_2 m7_3 m7_4 m7_5 hs7
  have hs8 := hb8.size
  have f8_0_lt := m8_0.lt
  have f8_0_c0 := m8_0.c0
  have f8_0_c1 := m8_0.c1
  have f8_0_c2 := m8_0.c2
  have f8_0_c3 := m8_0.c3
  have f8_0_c4 := m8_0.c4
  have f8_0_c5 := m8_0.c5
  have f8_1_lt := m8_1.lt
  have f8_1_c0 := m8_1.c0
  have f8_1_c1 := m8_1.c1
  have f8_1_c2 := m8_1.c2
  have f8_1_c3 := m8_1.c3
  have f8_1_c4 := m8_1.c4
  have f8_1_c5 := m8_1.c5
  have f8_2_lt := m8_2.lt
  have f8_2_c0 := m8_2.c0
  have f8_2_c1 := m8_2.c1
  have f8_3_lt := m8_3.lt
  have f8_3_c0 := m8_3.c0
  have f8_3_c1 := m8_3.c1
  have f8_4_lt := m8_4.lt
  have f8_4_c0 := m8_4.c0
  have f8_4_c1 := m8_4.c1
  have f8_4_c2 := m8_4.c2
  have f8_4_c3 := m8_4.c3
  have f8_4_c4 := m8_4.c4
  have f8_4_c5 := m8_4.c5
  have f8_5_lt := m8_5.lt
  have f8_5_c0 := m8_5.c0
  have f8_5_c1 := m8_5.c1
  have f8_5_c2 := m8_5.c2
  have f8_5_c3 := m8_5.c3
  have f8_5_c4 := m8_5.c4
  have f8_5_c5 := m8_5.c5
  refine (C8.out _).mono ?_; rintro e w' ⟨rfl, q8, rfl⟩
  clear C8
  go_wp2_with (fail)
  refine calls_world (fun W => Below w.heap.size w W ∧ BoxZ W w.heap.size a ∧ BoxZ W (w.heap.size + 1) b ∧ BoxM W A1 x1 p1 X c1 g1 ∧ BoxM W A2 x1 p2 X c2 g1 ∧ BoxZ W A3 r3 ∧ BoxZ W A4 r3) ⟨by (repeat' (first | (with_reducible assumption) | (with_reducible exact Below.refl _ _) | (with_reducible refine below_wov ?_ ?_ _) | (with_reducible refine below_drewN ?_ _) | (with_reducible refine Below.drew ?_) | (with_reducible refine Below.alloc ?_ ?_ _) | (with_reducible refine Below.setCell ?_ ?_ _) | (with_reducible exact Nat.le_refl _) | omega | (simp only [World.size_alloc, World.size_setCell, World.size_drew, Wov_size, World.heap_drewN]; omega))), m8_0.below (by (repeat' (first | (with_reducible assumption) | (with_reducible exact Below.refl _ _) | (with_reducible refine below_wov ?_ ?_ _) | (with_reducible refine below_drewN ?_ _) | (with_reducible refine Below.drew ?_) | (with_reducible refine Below.alloc ?_ ?_ _) | (with_reducible refine Below.setCell ?_ ?_ _) | (with_reducible exact Nat.le_refl _) | omega | (simp only [World.size_alloc, World.size_setCell, World.size_drew, Wov_size, World.heap_drewN]; omega)))), m8_1.below (by (repeat' (first | (with_reducible assumption) | (with_reducible exact Below.refl _ _) | (with_reducible refine below_wov ?_ ?_ _) | (with_reducible refine below_drewN ?_ _) | (with_reducible refine Below.drew ?_) | (with_reducible refine Below.alloc ?_ ?_ _) | (with_reducible refine Below.setCell ?_ ?_ _) | (with_reducible exact Nat.le_refl _) | omega | (simp only [World.size_alloc, World.size_setCell, World.size_drew, Wov_size, World.heap_drewN]; omega)))), m8_2.below (by (repeat' (first | (with_reducible assumption) | (with_reducible exact Below.refl _ _) | (with_reducible refine below_wov ?_ ?_ _) | (with_reducible refine below_drewN ?_ _) | (with_reducible refine Below.drew ?_) | (with_reducible refine Below.alloc ?_ ?_ _) | (with_reducible refine Below.setCell ?_ ?_ _) | (with_reducible exact Nat.le_refl _) | omega | (simp only [World.size_alloc, World.size_setCell, World.size_drew, Wov_size, World.heap_drewN]; omega)))), m8_3.below (by (repeat' (first | (with_reducible assumption) | (with_reducible exact Below.refl _ _) | (with_reducible refine below_wov ?_ ?_ _) | (with_reducible refine below_drewN ?_ _) | (with_reducible refine Below.drew ?_) | (with_reducible refine Below.alloc ?_ ?_ _) | (with_reducible refine Below.setCell ?_ ?_ _) | (with_reducible exact Nat.le_refl _) | omega | (simp only [World.size_alloc, World.size_setCell, World.size_drew, Wov_size, World.heap_drewN]; omega)))), m8_4.below (by (repeat' (first | (with_reducible assumption) | (with_reducible exact Below.refl _ _) | (with_reducible refine below_wov ?_ ?_ _) | (with_reducible refine below_drewN ?_ _) | (with_reducible refine Below.drew ?_) | (with_reducible refine Below.alloc ?_ ?_ _) | (with_reducible refine Below.setCell ?_ ?_ _) | (with_reducible exact Nat.le_refl _) | omega | (simp only [World.size_alloc, World.size_setCell, World.size_drew, Wov_size, World.heap_drewN]; omega)))), m8_5.below (by (repeat' (first | (with_reducible assumption) | (with_reducible exact Below.refl _ _) | (with_reducible refine below_wov ?_ ?_ _) | (with_reducible refine below_drewN ?_ _) | (with_reducible refine Below.drew ?_) | (with_reducible refine Below.alloc ?_ ?_ _) | (with_reducible refine Below.setCell ?_ ?_ _) | (with_reducible exact Nat.le_refl _) | omega | (simp only [World.size_alloc, World.size_setCell, World.size_drew, Wov_size, World.heap_drewN]; omega))))⟩ ?_
  rintro W9 ⟨hb9, m9_0, m9_1, m9_2, m9_3, m9_4, m9_5⟩
  clear hb8 f8_0_lt f8_0_c0 f8_0_c1 f8_0_c2 f8_0_c3 f8_0_c4 f8_0_c5 f8_1_lt f8_1_c0 f8_1_c1 f8_1_c2 f8_1_c3 f8_1_c4 f8_1_c5 f8_2_lt f8_2_c0 f8_2_c1 f8_3_lt f8_3_c0 f8_3_c1 f8_4_lt f8_4_c0 f8_4_c1 f8_4_c2 f8_4_c3 f8_4_c4 f8_4_c5 f8_5_lt f8_5_c0 f8_5_c1 f8_5_c2 f8_5_c3 f8_5_c4 f8_5_c5 m8_0 m8_1 m8_2 m8_3 m8_4 m8_5 hs8
  have hs9 := hb9.size
  have f9_0_lt := m9_0.lt
  have f9_0_c0 := m9_0.c0
  have f9_0_c1 := m9_0.c1
  have f9_0_c2 := m9_0.c2
  have f9_0_c3 := m9_0.c3
  have f9_0_c4 := m9_0.c4
  have f9_0_c5 := m9_0.c5
  have f9_1_lt := m9_1.lt
  have f9_1_c0 := m9_1.c0
  have f9_1_c1 := m9_1.c1
  have f9_1_c2 := m9_1.c2
  have f9_1_c3 := m9_1.c3
  have f9_1_c4 := m9_1.c4
  have f9_1_c5 := m9_1.c5
  have f9_2_lt := m9_2.lt
  have f9_2_c0 := m9_2.c0
  have f9_2_c1 := m9_2.c1
  have f9_3_lt := m9_3.lt
  have f9_3_c0 := m9_3.c0
  have f9_3_c1 := m9_3.c1
  have f9_4_lt := m9_4.lt
  have f9_4_c0 := m9_4.c0
  have f9_4_c1 := m9_4.c1
  have f9_4_c2 := m9_4.c2
  have f9_4_c3 := m9_4.c3
  have f9_4_c4 := m9_4.c4
  have f9_4_c5 := m9_4.c5
  have f9_5_lt := m9_5.lt
  have f9_5_c0 := m9_5.c0
  have f9_5_c1 := m9_5.c1
  have f9_5_c2 := m9_5.c2
  have f9_5_c3 := m9_5.c3
  have f9_5_c4 := m9_5.c4
  have f9_5_c5 := m9_5.c5
  refine (C9.out _).mono ?_; rintro e w' ⟨rfl, q9, rfl⟩
  go_wp2_with (fail)
  obtain ⟨A9, hA9⟩ : ∃ A, W9.heap.size + q9.bl.size = A := ⟨_, rfl⟩
  rw [hA9]
  refine calls_world (fun W => Below w.heap.size w W ∧ BoxZ W w.heap.size a ∧ BoxZ W (w.heap.size + 1) b ∧ BoxM W A1 x1 p1 X c1 g1 ∧ BoxM W A2 x1 p2 X c2 g1 ∧ BoxZ W A3 r3 ∧ BoxZ W A4 r3 ∧ BoxZ W A9 r9) ⟨by (repeat' (first | (with_reducible assumption) | (with_reducible exact Below.refl _ _) | (with_reducible refine below_wov ?_ ?_ _) | (with_reducible refine below_drewN ?_ _) | (with_reducible refine Below.drew ?_) | (with_reducible refine Below.alloc ?_ ?_ _) | (with_reducible refine Below.setCell ?_ ?_ _) | (with_reducible exact Nat.le_refl _) | omega | (simp only [World.size_alloc, World.size_setCell, World.size_drew, Wov_size, World.heap_drewN]; omega))), m9_0.below (by (repeat' (first | (with_reducible assumption) | (with_reducible exact Below.refl _ _) | (with_reducible refine below_wov ?_ ?_ _) | (with_reducible refine below_drewN ?_ _) | (with_reducible refine Below.drew ?_) | (with_reducible refine Below.alloc ?_ ?_ _) | (with_reducible refine Below.setCell ?_ ?_ _) | (with_reducible exact Nat.le_refl _) | omega | (simp only [World.size_alloc, World.size_setCell, World.size_drew, Wov_size, World.heap_drewN]; omega)))), m9_1.below (by (repeat' (first | (with_reducible assumption) | (with_reducible exact Below.refl _ _) | (with_reducible refine below_wov ?_ ?_ _) | (with_reducible refine below_drewN ?_ _) | (with_reducible refine Below.drew ?_) | (with_reducible refine Below.alloc ?_ ?_ _) | (with_reducible refine Below.setCell ?_ ?_ _) | (with_reducible exact Nat.le_refl _) | omega | (simp only [World.size_alloc, World.size_setCell, World.size_drew, Wov_size, World.heap_drewN]; omega)))), m9_2.below (by (repeat' (first | (with_reducible assumption) | (with_reducible exact Below.refl _ _) | (with_reducible refine below_wov ?_ ?_ _) | (with_reducible refine below_drewN ?_ _) | (with_reducible refine Below.drew ?_) | (with_reducible refine Below.alloc ?_ ?_ _) | (with_reducible refine Below.setCell ?_ ?_ _) | (with_reducible exact Nat.le_refl _) | omega | (simp only [World.size_alloc, World.size_setCell, World.size_drew, Wov_size, World.heap_drewN]; omega)))), m9_3.below (by (repeat' (first | (with_reducible assumption) | (with_reducible exact Below.refl _ _) | (with_reducible refine below_wov ?_ ?_ _) | (with_reducible refine below_drewN ?_ _) | (with_reducible refine Below.drew ?_) | (with_reducible refine Below.alloc ?_ ?_ _) | (with_reducible refine Below.setCell ?_ ?_ _) | (with_reducible exact Nat.le_refl _) | omega | (simp only [World.size_alloc, World.size_setCell, World.size_drew, Wov_size, World.heap_drewN]; omega)))), m9_4.below (by (repeat' (first | (with_reducible assumption) | (with_reducible exact Below.refl _ _) | (with_reducible refine below_wov ?_ ?_ _) | (with_reducible refine below_drewN ?_ _) | (with_reducible refine Below.drew ?_) | (with_reducible refine Below.alloc ?_ ?_ _) | (with_reducible refine Below.setCell ?_ ?_ _) | (with_reducible exact Nat.le_refl _) | omega | (simp only [World.size_alloc, World.size_setCell, World.size_drew, Wov_size, World.heap_drewN]; omega)))), m9_5.below (by (repeat' (first | (with_reducible assumption) | (with_reducible exact Below.refl _ _) | (with_reducible refine below_wov ?_ ?_ _) | (with_reducible refine below_drewN ?_ _) | (with_reducible refine Below.drew ?_) | (with_reducible refine Below.alloc ?_ ?_ _) | (with_reducible refine Below.setCell ?_ ?_ _) | (with_reducible exact Nat.le_refl _) | omega | (simp only [World.size_alloc, World.size_setCell, World.size_drew, Wov_size, World.heap_drewN]; omega)))), BoxZ.new (by rw [← hA9]; (try simp only [Wov_size]))⟩ ?_
  rintro W10 ⟨hb10, m10_0, m10_1, m10_2, m10_3, m10_4, m10_5, m10_6⟩
  clear hb9 f9_0_lt f9_0_c0 f9_0_c1 f9_0_c2 f9_0_c3 f9_0_c4 f9_0_c5 f9_1_lt f9_1_c0 f9_1_c1 f9_1_c2 f9_1_c3 f9_1_c4 f9_1_c5 f9_2_lt f9_2_c0 f9_2_c1 f9_3_lt f9_3_c0 f9_3_c1 f9_4_lt f9_4_c0 f9_4_c1 f9_4_c2 f9_4_c3 f9_4_c4 f9_4_c5 f9_5_lt f9_5_c0 f9_5_c1 f9_5_c2 f9_5_c3 f9_5_c4 f9_5_c5 m9_0 m9_1 m9_2 m9_3 m9_4 m9_5 hs9
  have hs10 := hb10.size
  have f10_0_lt := m10_0.lt
  have f10_0_c0 := m10_0.c0
  have f10_0_c1 := m10_0.c1
  have f10_0_c2 := m10_0.c2
  have f10_0_c3 := m10_0.c3
  have f10_0_c4 := m10_0.c4
  have f10_0_c5 := m10_0.c5
  have f10_1_lt := m10_1.lt
  have f10_1_c0 := m10_1.c0
  have f10_1_c1 := m10_1.c1
  have f10_1_c2 := m10_1.c2
  have f10_1_c3 := m10_1.c3
  have f10_1_c4 := m10_1.c4
  have f10_1_c5 := m10_1.c5
  have f10_2_lt := m10_2.lt
  have f10_2_c0 := m10_2.c0
  have f10_2_c1 := m10_2.c1
  have f10_3_lt := m10_3.lt
  have f10_3_c0 := m10_3.c0
  have f10_3_c1 := m10_3.c1
  have f10_4_lt := m10_4.lt
  have f10_4_c0 := m10_4.c0
  have f10_4_c1 := m10_4.c1
  have f10_4_c2 := m10_4.c2
  have f10_4_c3 := m10_4.c3
  have f10_4_c4 := m10_4.c4
  have f10_4_c5 := m10_4.c5
  have f10_5_lt := m10_5.lt
  have f10_5_c0 := m10_5.c0
  have f10_5_c1 := m10_5.c1
  have f10_5_c2 := m10_5.c2
  have f10_5_c3 := m10_5.c3
  have f10_5_c4 := m10_5.c4
  have f10_5_c5 := m10_5.c5
  have f10_6_lt := m10_6.lt
  have f10_6_c0 := m10_6.c0
  have f10_6_c1 := m10_6.c1
  have f10_6_c2 := m10_6.c2
  have f10_6_c3 := m10_6.c3
  have f10_6_c4 := m10_6.c4
  have f10_6_c5 := m10_6.c5
  clear hA9 C9
  refine (C10.out _).mono ?_; rintro e w' ⟨rfl, q10, rfl⟩
  go_wp2_with (fail)
  obtain ⟨A10, hA10⟩ : ∃ A, W10.heap.size + q10.bl.size = A := ⟨_, rfl⟩
  rw [hA10]
  refine calls_world (fun W => Below w.heap.size w W ∧ BoxZ W w.heap.size a ∧ BoxZ W (w.heap.size + 1) b ∧ BoxM W A1 x1 p1 X c1 g1 ∧ BoxM W A2 x1 p2 X c2 g1 ∧ BoxZ W A3 r3 ∧ BoxZ W A4 r3 ∧ BoxZ W A9 r9 ∧ BoxZ W A10 r9) ⟨by (repeat' (first | (with_reducible assumption) | (with_reducible exact Below.refl _ _) | (with_reducible refine below_wov ?_ ?_ _) | (with_reducible refine below_drewN ?_ _) | (with_reducible refine Below.drew ?_) | (with_reducible refine Below.alloc ?_ ?_ _) | (with_reducible refine Below.setCell ?_ ?_ _) | (with_reducible exact Nat.le_refl _) | omega | (simp only [World.size_alloc, World.size_setCell, World.size_drew, Wov_size, World.heap_drewN]; omega))), m10_0.below (by (repeat' (first | (with_reducible assumption) | (with_reducible exact Below.refl _ _) | (with_reducible refine below_wov ?_ ?_ _) | (with_reducible refine below_drewN ?_ _) | (with_reducible refine Below.drew ?_) | (with_reducible refine Below.alloc ?_ ?_ _) | (with_reducible refine Below.setCell ?_ ?_ _) | (with_reducible exact Nat.le_refl _) | omega | (simp only [World.size_alloc, World.size_setCell, World.size_drew, Wov_size, World.heap_drewN]; omega)))), m10_1.below (by (repeat' (first | (with_reducible assumption) | (with_reducible exact Below.refl _ _) | (with_reducible refine below_wov ?_ ?_ _) | (with_reducible refine below_drewN ?_ _) | (with_reducible refine Below.drew ?_) | (with_reducible refine Below.alloc ?_ ?_ _) | (with_reducible refine Below.setCell ?_ ?_ _) | (with_reducible exact Nat.le_refl _) | omega | (simp only [World.size_alloc, World.size_setCell, World.size_drew, Wov_size, World.heap_drewN]; omega)))), m10_2.below (by (repeat' (first | (with_reducible assumption) | (with_reducible exact Below.refl _ _) | (with_reducible refine below_wov ?_ ?_ _) | (with_reducible refine below_drewN ?_ _) | (with_reducible refine Below.drew ?_) | (with_reducible refine Below.alloc ?_ ?_ _) | (with_reducible refine Below.setCell ?_ ?_ _) | (with_reducible exact Nat.le_refl _) | omega | (simp only [World.size_alloc, World.size_setCell, World.size_drew, Wov_size, World.heap_drewN]; omega)))), m10_3.below (by (repeat' (first | (with_reducible assumption) | (with_reducible exact Below.refl _ _) | (with_reducible refine below_wov ?_ ?_ _) | (with_reducible refine below_drewN ?_ _) | (with_reducible refine Below.drew ?_) | (with_reducible refine Below.alloc ?_ ?_ _) | (with_reducible refine Below.setCell ?_ ?_ _) | (with_reducible exact Nat.le_refl _) | omega | (simp only [World.size_alloc, World.size_setCell, World.size_drew, Wov_size, World.heap_drewN]; omega)))), m10_4.below (by (repeat' (first | (with_reducible assumption) | (with_reducible exact Below.refl _ _) | (with_reducible refine below_wov ?_ ?_ _) | (with_reducible refine below_drewN ?_ _) | (with_reducible refine Below.drew ?_) | (with_reducible refine Below.alloc ?_ ?_ _) | (with_reducible refine Below.setCell ?_ ?_ _) | (with_reducible exact Nat.le_refl _) | omega | (simp only [World.size_alloc, World.size_setCell, World.size_drew, Wov_size, World.heap_drewN]; omega)))), m10_5.below (by (repeat' (first | (with_reducible assumption) | (with_reducible exact Below.refl _ _) | (with_reducible refine below_wov ?_ ?_ _) | (with_reducible refine below_drewN ?_ _) | (with_reducible refine Below.drew ?_) | (with_reducible refine Below.alloc ?_ ?_ _) | (with_reducible refine Below.setCell ?_ ?_ _) | (with_reducible exact Nat.le_refl _) | omega | (simp only [World.size_alloc, World.size_setCell, World.size_drew, Wov_size, World.heap_drewN]; omega)))), m10_6.below (by (repeat' (first | (with_reducible assumption) | (with_reducible exact Below.refl _ _) | (with_reducible refine below_wov ?_ ?_ _) | (with_reducible refine below_drewN ?_ _) | (with_reducible refine Below.drew ?_) | (with_reducible refine Below.alloc ?_ ?_ _) | (with_reducible refine Below.setCell ?_ ?_ _) | (with_reducible exact Nat.le_refl _) | omega | (simp only [World.size_alloc, World.size_setCell, World.size_drew, Wov_size, World.heap_drewN]; omega)))), BoxZ.new (by rw [← hA10]; (try simp only [Wov_size]))⟩ ?_
  rintro W11 ⟨hb11, m11_0, m11_1, m11_2, m11_3, m11_4, m11_5, m11_6, m11_7⟩
  clear hb10 f10_0_lt f10_0_c0 f10_0_c1 f10_0_c2 f10_0_c3 f10_0_c4 f10_0_c5 f10_1_lt f10_1_c0 f10_1_c1 f10_1_c2 f10_1_c3 f10_1_c4 f10_1_c5 f10_2_lt f10_2_c0 f10_2_c1 f10_3_lt f10_3_c0 f10_3_c1 f10_4_lt f10_4_c0 f10_4_c1 f10_4_c2 f10_4_c3 f10_4_c4 f10_4_c5 f10_5_lt f10_5_c0 f10_5_c1 f10_5_c2 f10_5_c3 f10_5_c4 f10_5_c5 f10_6_lt f10_6_c0 f10_6_c1 f10_6_c2 f10_6_c3 f10_6_c4 f10_6_c5 m10_0 m10_1 m10_2 m10_3 m10_4 m10_5 m10_6 hs10
  have hs11 := hb11.size
  have f11_0_lt := m11_0.lt
  have f11_0_c0 := m11_0.c0
  have f11_0_c1 := m11_0.c1
  have f11_0_c2 := m11_0.c2
  have f11_0_c3 := m11_0.c3
  have f11_0_c4 := m11_0.c4
  have f11_0_c5 := m11_0.c5
  have f11_1_lt := m11_1.lt
  have f11_1_c0 := m11_1.c0
  have f11_1_c1 := m11_1.c1
  have f11_1_c2 := m11_1.c2
  have f11_1_c3 := m11_1.c3
  have f11_1_c4 := m11_1.c4
  have f11_1_c5 := m11_1.c5
  have f11_2_lt := m11_2.lt
  have f11_2_c0 := m11_2.c0
  have f11_2_c1 := m11_2.c1
  have f11_3_lt := m11_3.lt
  have f11_3_c0 := m11_3.c0
  have f11_3_c1 := m11_3.c1
  have f11_4_lt := m11_4.lt
  have f11_4_c0 := m11_4.c0
  have f11_4_c1 := m11_4.c1
  have f11_4_c2 := m11_4.c2
  have f11_4_c3 := m11_4.c3
  have f11_4_c4 := m11_4.c4
  have f11_4_c5 := m11_4.c5
  have f11_5_lt := m11_5.lt
  have f11_5_c0 := m11_5.c0
  have f11_5_c1 := m11_5.c1
  have f11_5_c2 := m11_5.c2
  have f11_5_c3 := m11_5.c3
  have f11_5_c4 := m11_5.c4
  have f11_5_c5 := m11_5.c5
  have f11_6_lt := m11_6.lt
  have f11_6_c0 := m11_6.c0
  have f11_6_c1 := m11_6.c1
  have f11_6_c2 := m11_6.c2
  have f11_6_c3 := m11_6.c3
  have f11_6_c4 := m11_6.c4
  have f11_6_c5 := m11_6.c5
  have f11_7_lt := m11_7.lt
  have f11_7_c0 := m11_7.c0
  have f11_7_c1 := m11_7.c1
  have f11_7_c2 := m11_7.c2
  have f11_7_c3 := m11_7.c3
  have f11_7_c4 := m11_7.c4
  have f11_7_c5 := m11_7.c5
  clear hA10 C10
  refine (C11.out _).mono ?_; rintro e w' ⟨rfl, q11, rfl⟩
  go_wp2_with (fail)
  obtain ⟨A11, hA11⟩ : ∃ A, W11.heap.size + q11.bl.size = A := ⟨_, rfl⟩
  rw [hA11]
  refine calls_world (fun W => Below w.heap.size w W ∧ BoxZ W w.heap.size a ∧ BoxZ W (w.heap.size + 1) b ∧ BoxM W A1 x1 p1 X c1 g1 ∧ BoxM W A2 x1 p2 X c2 g1 ∧ BoxZ W A3 r3 ∧ BoxZ W A4 r3 ∧ BoxZ W A9 r9 ∧ BoxZ W A10 r9 ∧ PtAt W A11 (T 0).1 (T 0).2 (T 1).1 (T 1).2) ⟨by (repeat' (first | (with_reducible assumption) | (with_reducible exact Below.refl _ _) | (with_reducible refine below_wov ?_ ?_ _) | (with_reducible refine below_drewN ?_ _) | (with_reducible refine Below.drew ?_) | (with_reducible refine Below.alloc ?_ ?_ _) | (with_reducible refine Below.setCell ?_ ?_ _) | (with_reducible exact Nat.le_refl _) | omega | (simp only [World.size_alloc, World.size_setCell, World.size_drew, Wov_size, World.heap_drewN]; omega))), m11_0.below (by (repeat' (first | (with_reducible assumption) | (with_reducible exact Below.refl _ _) | (with_reducible refine below_wov ?_ ?_ _) | (with_reducible refine below_drewN ?_ _) | (with_reducible refine Below.drew ?_) | (with_reducible refine Below.alloc ?_ ?_ _) | (with_reducible refine Below.setCell ?_ ?_ _) | (with_reducible exact Nat.le_refl _) | omega | (simp only [World.size_alloc, World.size_setCell, World.size_drew, Wov_size, World.heap_drewN]; omega)))), m11_1.below (by (repeat' (first | (with_reducible assumption) | (with_reducible exact Below.refl _ _) | (with_reducible refine below_wov ?_ ?_ _) | (with_reducible refine below_drewN ?_ _) | (with_reducible refine Below.drew ?_) | (with_reducible refine Below.alloc ?_ ?_ _) | (with_reducible refine Below.setCell ?_ ?_ _) | (with_reducible exact Nat.le_refl _) | omega | (simp only [World.size_alloc, World.size_setCell, World.size_drew, Wov_size, World.heap_drewN]; omega)))), m11_2.below (by (repeat' (first | (with_reducible assumption) | (with_reducible exact Below.refl _ _) | (with_reducible refine below_wov ?_ ?_ _) | (with_reducible refine below_drewN ?_ _) | (with_reducible refine Below.drew ?_) | (with_reducible refine Below.alloc ?_ ?_ _) | (with_reducible refine Below.setCell ?_ ?_ _) | (with_reducible exact Nat.le_refl _) | omega | (simp only [World.size_alloc, World.size_setCell, World.size_drew, Wov_size, World.heap_drewN]; omega)))), m11_3.below (by (repeat' (first | (with_reducible assumption) | (with_reducible exact Below.refl _ _) | (with_reducible refine below_wov ?_ ?_ _) | (with_reducible refine below_drewN ?_ _) | (with_reducible refine Below.drew ?_) | (with_reducible refine Below.alloc ?_ ?_ _) | (with_reducible refine Below.setCell ?_ ?_ _) | (with_reducible exact Nat.le_refl _) | omega | (simp only [World.size_alloc, World.size_setCell, World.size_drew, Wov_size, World.heap_drewN]; omega)))), m11_4.below (by (repeat' (first | (with_reducible assumption) | (with_reducible exact Below.refl _ _) | (with_reducible refine below_wov ?_ ?_ _) | (with_reducible refine below_drewN ?_ _) | (with_reducible refine Below.drew ?_) | (with_reducible refine Below.alloc ?_ ?_ _) | (with_reducible refine Below.setCell ?_ ?_ _) | (with_reducible exact Nat.le_refl _) | omega | (simp only [World.size_alloc, World.size_setCell, World.size_drew, Wov_size, World.heap_drewN]; omega)))), m11_5.below (by (repeat' (first | (with_reducible assumption) | (with_reducible exact Below.refl _ _) | (with_reducible refine below_wov ?_ ?_ _) | (with_reducible refine below_drewN ?_ _) | (with_reducible refine Below.drew ?_) | (with_reducible refine Below.alloc ?_ ?_ _) | (with_reducible refine Below.setCell ?_ ?_ _) | (with_reducible exact Nat.le_refl _) | omega | (simp only [World.size_alloc, World.size_setCell, World.size_drew, Wov_size, World.heap_drewN]; omega)))), m11_6.below (by (repeat' (first | (with_reducible assumption) | (with_reducible exact Below.refl _ _) | (with_reducible refine below_wov ?_ ?_ _) | (with_reducible refine below_drewN ?_ _) | (with_reducible refine Below.drew ?_) | (with_reducible refine Below.alloc ?_ ?_ _) | (with_reducible refine Below.setCell ?_ ?_ _) | (with_reducible exact Nat.le_refl _) | omega | (simp only [World.size_alloc, World.size_setCell, World.size_drew, Wov_size, World.heap_drewN]; omega)))), m11_7.below (by (repeat' (first | (with_reducible assumption) | (with_reducible exact Below.refl _ _) | (with_reducible refine below_wov ?_ ?_ _) | (with_reducible refine below_drewN ?_ _) | (with_reducible refine Below.drew ?_) | (with_reducible refine Below.alloc ?_ ?_ _) | (with_reducible refine Below.setCell ?_ ?_ _) | (with_reducible exact Nat.le_refl _) | omega | (simp only [World.size_alloc, World.size_setCell, World.size_drew, Wov_size, World.heap_drewN]; omega)))), PtAt.new (by rw [← hA11]; (try simp only [Wov_size]))⟩ ?_
  rintro W12 ⟨hb12, m12_0, m12_1, m12_2, m12_3, m12_4, m12_5, m12_6, m12_7, m12_8⟩
  clear hb11 f11_0_lt f11_0_c0 f11_0_c1 f11_0_c2 f11_0_c3 f11_0_c4 f11_0_c5 f11_1_lt f11_1_c0 f11_1_c1 f11_1_c2 f11_1_c3 f11_1_c4 f11_1_c5 f11_2_lt f11_2_c0 f11_2_c1 f11_3_lt f11_3_c0 f11_3_c1 f11_4_lt f11_4_c0 f11_4_c1 f11_4_c2 f11_4_c3 f11_4_c4 f11_4_c5 f11_5_lt f11_5_c0 f11_5_c1 f11_5_c2 f11_5_c3 f11_5_c4 f11_5_c5 f11_6_lt f11_6_c0 f11_6_c1 f11_6_c2 f11_6_c3 f11_6_c4 f11_6_c5 f11_7_lt f11_7_c0 f11_7_c1 f11_7_c2 f11_7_c3 f11_7_c4 f11_7_c5 m11_0 m11_1 m11_2 m11_3 m11_4 m11_5 m11_6 m11_7 hs11
  have hs12 := hb12.size
  have f12_0_lt := m12_0.lt
  have f12_0_c0 := m12_0.c0
  have f12_0_c1 := m12_0.c1
  have f12_0_c2 := m12_0.c2
  have f12_0_c3 := m12_0.c3
  have f12_0_c4 := m12_0.c4
  have f12_0_c5 := m12_0.c5
  have f12_1_lt := m12_1.lt
  have f12_1_c0 := m12_1.c0
  have f12_1_c1 := m12_1.c1
  have f12_1_c2 := m12_1.c2
  have f12_1_c3 := m12_1.c3
  have f12_1_c4 := m12_1.c4
  have f12_1_c5 := m12_1.c5
  have f12_2_lt := m12_2.lt
  have f12_2_c0 := m12_2.c0
  have f12_2_c1 := m12_2.c1
  have f12_3_lt := m12_3.lt
  have f12_3_c0 := m12_3.c0
  have f12_3_c1 := m12_3.c1
  have f12_4_lt := m12_4.lt
  have f12_4_c0 := m12_4.c0
  have f12_4_c1 := m12_4.c1
  have f12_4_c2 := m12_4.c2
  have f12_4_c3 := m12_4.c3
  have f12_4_c4 := m12_4.c4
  have f12_4_c5 := m12_4.c5
  have f12_5_lt := m12_5.lt
  have f12_5_c0 := m12_5.c0
  have f12_5_c1 := m12_5.c1
  have f12_5_c2 := m12_5.c2
  have f12_5_c3 := m12_5.c3
  have f12_5_c4 := m12_5.c4
  have f12_5_c5 := m12_5.c5
  have f12_6_lt := m12_6.lt
  have f12_6_c0 := m12_6.c0
  have f12_6_c1 := m12_6.c1
  have f12_6_c2 := m12_6.c2
  have f12_6_c3 := m12_6.c3
  have f12_6_c4 := m12_6.c4
  have f12_6_c5 := m12_6.c5
  have f12_7_lt := m12_7.lt
  have f12_7_c0 := m12_7.c0
  have f12_7_c1 := m12_7.c1
  have f12_7_c2 := m12_7.c2
  have f12_7_c3 := m12_7.c3
  have f12_7_c4 := m12_7.c4
  have f12_7_c5 := m12_7.c5
  have f12_8_lt := m12_8.lt
  have f12_8_c0 := m12_8.c0
  have f12_8_c1 := m12_8.c1
  have f12_8_c2 := m12_8.c2
  have f12_8_c3 := m12_8.c3
  clear hA11 C11
  refine (C12.out _).mono ?_; rintro e w' ⟨rfl, q12, rfl⟩
  go_wp2_with (fail)
  obtain ⟨A12, hA12⟩ : ∃ A, W12.heap.size + q12.bl.size = A := ⟨_, rfl⟩
  rw [hA12]
  refine calls_world (fun W => Below w.heap.size w W ∧ BoxZ W w.heap.size a ∧ BoxZ W (w.heap.size + 1) b ∧ BoxM W A1 x1 p1 X c1 g1 ∧ BoxM W A2 x1 p2 X c2 g1 ∧ BoxZ W A3 r3 ∧ BoxZ W A4 r3 ∧ BoxZ W A9 r9 ∧ BoxZ W A10 r9 ∧ PtAt W A11 (T 0).1 (T 0).2 (T 1).1 (T 1).2 ∧ PtAt W A12 (T 0).1 (T 0).2 (T 1).1 (T 1).2) ⟨by (repeat' (first | (with_reducible assumption) | (with_reducible exact Below.refl _ _) | (with_reducible refine below_wov ?_ ?_ _) | (with_reducible refine below_drewN ?_ _) | (with_reducible refine Below.drew ?_) | (with_reducible refine Below.alloc ?_ ?_ _) | (with_reducible refine Below.setCell ?_ ?_ _) | (with_reducible exact Nat.le_refl _) | omega | (simp only [World.size_alloc, World.size_setCell, World.size_drew, Wov_size, World.heap_drewN]; omega))), m12_0.below (by (repeat' (first | (with_reducible assumption) | (with_reducible exact Below.refl _ _) | (with_reducible refine below_wov ?_ ?_ _) | (with_reducible refine below_drewN ?_ _) | (with_reducible refine Below.drew ?_) | (with_reducible refine Below.alloc ?_ ?_ _) | (with_reducible refine Below.setCell ?_ ?_ _) | (with_reducible exact Nat.le_refl _) | omega | (simp only [World.size_alloc, World.size_setCell, World.size_drew, Wov_size, World.heap_drewN]; omega)))), m12_1.below (by (repeat' (first | (with_reducible assumption) | (with_reducible exact Below.refl _ _) | (with_reducible refine below_wov ?_ ?_ _) | (with_reducible refine below_drewN ?_ _) | (with_reducible refine Below.drew ?_) | (with_reducible refine Below.alloc ?_ ?_ _) | (with_reducible refine Below.setCell ?_ ?_ _) | (with_reducible exact Nat.le_refl _) | omega | (simp only [World.size_alloc, World.size_setCell, World.size_drew, Wov_size, World.heap_drewN]; omega)))), m12_2.below (by (repeat' (first | (with_reducible assumption) | (with_reducible exact Below.refl _ _) | (with_reducible refine below_wov ?_ ?_ _) | (with_reducible refine below_drewN ?_ _) | (with_reducible refine Below.drew ?_) | (with_reducible refine Below.alloc ?_ ?_ _) | (with_reducible refine Below.setCell ?_ ?_ _) | (with_reducible exact Nat.le_refl _) | omega | (simp only [World.size_alloc, World.size_setCell, World.size_drew, Wov_size, World.heap_drewN]; omega)))), m12_3.below (by (repeat' (first | (with_reducible assumption) | (with_reducible exact Below.refl _ _) | (with_reducible refine below_wov ?_ ?_ _) | (with_reducible refine below_drewN ?_ _) | (with_reducible refine Below.drew ?_) | (with_reducible refine Below.alloc ?_ ?_ _) | (with_reducible refine Below.setCell ?_ ?_ _) | (with_reducible exact Nat.le_refl _) | omega | (simp only [World.size_alloc, World.size_setCell, World.size_drew, Wov_size, World.heap_drewN]; omega)))), m12_4.below (by (repeat' (first | (with_reducible assumption) | (with_reducible exact Below.refl _ _) | (with_reducible refine below_wov ?_ ?_ _) | (with_reducible refine below_drewN ?_ _) | (with_reducible refine Below.drew ?_) | (with_reducible refine Below.alloc ?_ ?_ _) | (with_reducible refine Below.setCell ?_ ?_ _) | (with_reducible exact Nat.le_refl _) | omega | (simp only [World.size_alloc, World.size_setCell, World.size_drew, Wov_size, World.heap_drewN]; omega)))), m12_5.below (by (repeat' (first | (with_reducible assumption) | (with_reducible exact Below.refl _ _) | (with_reducible refine below_wov ?_ ?_ _) | (with_reducible refine below_drewN ?_ _) | (with_reducible refine Below.drew ?_) | (with_reducible refine Below.alloc ?_ ?_ _) | (with_reducible refine Below.setCell ?_ ?_ _) | (with_reducible exact Nat.le_refl _) | omega | (simp only [World.size_alloc, World.size_setCell, World.size_drew, Wov_size, World.heap_drewN]; omega)))), m12_6.below (by (repeat' (first | (with_reducible assumption) | (with_reducible exact Below.refl _ _) | (with_reducible refine below_wov ?_ ?_ _) | (with_reducible refine below_drewN ?_ _) | (with_reducible refine Below.drew ?_) | (with_reducible refine Below.alloc ?_ ?_ _) | (with_reducible refine Below.setCell ?_ ?_ _) | (with_reducible exact Nat.le_refl _) | omega | (simp only [World.size_alloc, World.size_setCell, World.size_drew, Wov_size, World.heap_drewN]; omega)))), m12_7.below (by (repeat' (first | (with_reducible assumption) | (with_reducible exact Below.refl _ _) | (with_reducible refine below_wov ?_ ?_ _) | (with_reducible refine below_drewN ?_ _) | (with_reducible refine Below.drew ?_) | (with_reducible refine Below.alloc ?_ ?_ _) | (with_reducible refine Below.setCell ?_ ?_ _) | (with_reducible exact Nat.le_refl _) | omega | (simp only [World.size_alloc, World.size_setCell, World.size_drew, Wov_size, World.heap_drewN]; omega)))), m12_8.below (by (repeat' (first | (with_reducible assumption) | (with_reducible exact Below.refl _ _) | (with_reducible refine below_wov ?_ ?_ _) | (with_reducible refine below_drewN ?_ _) | (with_reducible refine Below.drew ?_) | (with_reducible refine Below.alloc ?_ ?_ _) | (with_reducible refine Below.setCell ?_ ?_ _) | (with_reducible exact Nat.le_refl _) | omega | (simp only [World.size_alloc, World.size_setCell, World.size_drew, Wov_size, World.heap_drewN]; omega)))), PtAt.new (by rw [← hA12]; (try simp only [Wov_size]))⟩ ?_
  rintro W13 ⟨hb13, m13_0, m13_1, m13_2, m13_3, m13_4, m13_5, m13_6, m13_7, m13_8, m13_9⟩
  clear hb12 f12_0_lt f12_0_c0 f12_0_c1 f12_0_c2 f12_0_c3 f12_0_c4 f12_0_c5 f12_1_lt f12_1_c0 f12_1_c1 f12_1_c2 f12_1_c3 f12_1_c4 f12_1_c5 f12_2_lt f12_2_c0 f12_2_c1 f12_3_lt f12_3_c0 f12_3_c1 f12_4_lt f12_4_c0 f12_4_c1 f12_4_c2 f12_4_c3 f12_4_c4 f12_4_c5 f12_5_lt f12_5_c0 f12_5_c1 f12_5_c2 f12_5_c3 f12_5_c4 f12_5_c5 f12_6_lt f12_6_c0 f12_6_c1 f12_6_c2 f12_6_c3 f12_6_c4 f12_6_c5 f12_7_lt f12_7_c0 f12_7_c1 f12_7_c2 f12_7_c3 f12_7_c4 f12_7_c5 f12_8_lt f12_8_c0 f12_8_c1 f12_8_c2 f12_8_c3 m12_0 m12_1 m12_2 m12_3 m12_4 m12_5 m12_6 m12_7 m12_8 hs12
  have hs13 := hb13.size
  have f13_0_lt := m13_0.lt
  have f13_0_c0 := m13_0.c0
  have f13_0_c1 := m13_0.c1
  have f13_0_c2 := m13_0.c2
  have f13_0_c3 := m13_0.c3
  have f13_0_c4 := m13_0.c4
  have f13_0_c5 := m13_0.c5
  have f13_1_lt := m13_1.lt
  have f13_1_c0 := m13_1.c0
  have f13_1_c1 := m13_1.c1
  have f13_1_c2 := m13_1.c2
  have f13_1_c3 := m13_1.c3
  have f13_1_c4 := m13_1.c4
  have f13_1_c5 := m13_1.c5
  have f13_2_lt := m13_2.lt
  have f13_2_c0 := m13_2.c0
  have f13_2_c1 := m13_2.c1
  have f13_3_lt := m13_3.lt
  have f13_3_c0 := m13_3.c0
  have f13_3_c1 := m13_3.c1
  have f13_4_lt := m13_4.lt
  have f13_4_c0 := m13_4.c0
  have f13_4_c1 := m13_4.c1
  have f13_4_c2 := m13_4.c2
  have f13_4_c3 := m13_4.c3
  have f13_4_c4 := m13_4.c4
  have f13_4_c5 := m13_4.c5
  have f13_5_lt := m13_5.lt
  have f13_5_c0 := m13_5.c0
  have f13_5_c1 := m13_5.c1
  have f13_5_c2 := m13_5.c2
  have f13_5_c3 := m13_5.c3
  have f13_5_c4 := m13_5.c4
  have f13_5_c5 := m13_5.c5
  have f13_6_lt := m13_6.lt
  have f13_6_c0 := m13_6.c0
  have f13_6_c1 := m13_6.c1
  have f13_6_c2 := m13_6.c2
  have f13_6_c3 := m13_6.c3
  have f13_6_c4 := m13_6.c4
  have f13_6_c5 := m13_6.c5
  have f13_7_lt := m13_7.lt
  have f13_7_c0 := m13_7.c0
  have f13_7_c1 := m13_7.c1
  have f13_7_c2 := m13_7.c2
  have f13_7_c3 := m13_7.c3
  have f13_7_c4 := m13_7.c4
  have f13_7_c5 := m13_7.c5
  have f13_8_lt := m13_8.lt
  have f13_8_c0 := m13_8.c0
  have f13_8_c1 := m13_8.c1
  have f13_8_c2 := m13_8.c2
  have f13_8_c3 := m13_8.c3
  have f13_9_lt := m13_9.lt
  have f13_9_c0 := m13_9.c0
  have f13_9_c1 := m13_9.c1
  have f13_9_c2 := m13_9.c2
  have f13_9_c3 := m13_9.c3
  clear hA12 C12
  refine (SM.out _ _ _ _ _ m13_2.sl m13_3.sl).mono ?_; rintro e w' ⟨rfl, qs, rfl⟩
  clear SM
  go_wp2_with (fail)
  refine wp_world (fun W => Below w.heap.size w W ∧ BoxZ W w.heap.size a ∧ BoxZ W (w.heap.size + 1) b ∧ BoxZ W A9 r9 ∧ BoxZ W A10 r9 ∧ PtAt W A11 (T 0).1 (T 0).2 (T 1).1 (T 1).2 ∧ PtAt W A12 (T 0).1 (T 0).2 (T 1).1 (T 1).2) ⟨by (repeat' (first | (with_reducible assumption) | (with_reducible exact Below.refl _ _) | (with_reducible refine below_wov ?_ ?_ _) | (with_reducible refine below_drewN ?_ _) | (with_reducible refine Below.drew ?_) | (with_reducible refine Below.alloc ?_ ?_ _) | (with_reducible refine Below.setCell ?_ ?_ _) | (with_reducible exact Nat.le_refl _) | omega | (simp only [World.size_alloc, World.size_setCell, World.size_drew, Wov_size, World.heap_drewN]; omega))), m13_0.below (by (repeat' (first | (with_reducible assumption) | (with_reducible exact Below.refl _ _) | (with_reducible refine below_wov ?_ ?_ _) | (with_reducible refine below_drewN ?_ _) | (with_reducible refine Below.drew ?_) | (with_reducible refine Below.alloc ?_ ?_ _) | (with_reducible refine Below.setCell ?_ ?_ _) | (with_reducible exact Nat.le_refl _) | omega | (simp only [World.size_alloc, World.size_setCell, World.size_drew, Wov_size, World.heap_drewN]; omega)))), m13_1.below (by (repeat' (first | (with_reducible assumption) | (with_reducible exact Below.refl _ _) | (with_reducible refine below_wov ?_ ?_ _) | (with_reducible refine below_drewN ?_ _) | (with_reducible refine Below.drew ?_) | (with_reducible refine Below.alloc ?_ ?_ _) | (with_reducible refine Below.setCell ?_ ?_ _) | (with_reducible exact Nat.le_refl _) | omega | (simp only [World.size_alloc, World.size_setCell, World.size_drew, Wov_size, World.heap_drewN]; omega)))), m13_6.below (by (repeat' (first | (with_reducible assumption) | (with_reducible exact Below.refl _ _) | (with_reducible refine below_wov ?_ ?_ _) | (with_reducible refine below_drewN ?_ _) | (with_reducible refine Below.drew ?_) | (with_reducible refine Below.alloc ?_ ?_ _) | (with_reducible refine Below.setCell ?_ ?_ _) | (with_reducible exact Nat.le_refl _) | omega | (simp only [World.size_alloc, World.size_setCell, World.size_drew, Wov_size, World.heap_drewN]; omega)))), m13_7.below (by (repeat' (first | (with_reducible assumption) | (with_reducible exact Below.refl _ _) | (with_reducible refine below_wov ?_ ?_ _) | (with_reducible refine below_drewN ?_ _) | (with_reducible refine Below.drew ?_) | (with_reducible refine Below.alloc ?_ ?_ _) | (with_reducible refine Below.setCell ?_ ?_ _) | (with_reducible exact Nat.le_refl _) | omega | (simp only [World.size_alloc, World.size_setCell, World.size_drew, Wov_size, World.heap_drewN]; omega)))), m13_8.below (by (repeat' (first | (with_reducible assumption) | (with_reducible exact Below.refl _ _) | (with_reducible refine below_wov ?_ ?_ _) | (with_reducible refine below_drewN ?_ _) | (with_reducible refine Below.drew ?_) | (with_reducible refine Below.alloc ?_ ?_ _) | (with_reducible refine Below.setCell ?_ ?_ _) | (with_reducible exact Nat.le_refl _) | omega | (simp only [World.size_alloc, World.size_setCell, World.size_drew, Wov_size, World.heap_drewN]; omega)))), m13_9.below (by (repeat' (first | (with_reducible assumption) | (with_reducible exact Below.refl _ _) | (with_reducible refine below_wov ?_ ?_ _) | (with_reducible refine below_drewN ?_ _) | (with_reducible refine Below.drew ?_) | (with_reducible refine Below.alloc ?_ ?_ _) | (with_reducible refine Below.setCell ?_ ?_ _) | (with_reducible exact Nat.le_refl _) | omega | (simp only [World.size_alloc, World.size_setCell, World.size_drew, Wov_size, World.heap_drewN]; omega))))⟩ ?_
  rintro W14 ⟨hb14, m14_0, m14_1, m14_2, m14_3, m14_4, m14_5⟩
  clear hb13 f13_0_lt f13_0_c0 f13_0_c1 f13_0_c2 f13_0_c3 f13_0_c4 f13_0_c5 f13_1_lt f13_1_c0 f13_1_c1 f13_1_c2 f13_1_c3 f13_1_c4 f13_1_c5 f13_2_lt f13_2_c0 f13_2_c1 f13_3_lt f13_3_c0 f13_3_c1 f13_4_lt f13_4_c0 f13_4_c1 f13_4_c2 f13_4_c3 f13_4_c4 f13_4_c5 f13_5_lt f13_5_c0 f13_5_c1 f13_5_c2 f13_5_c3 f13_5_c4 f13_5_c5 f13_6_lt f13_6_c0 f13_6_c1 f13_6_c2 f13_6_c3 f13_6_c4 f13_6_c5 f13_7_lt f13_7_c0 f13_7_c1 f13_7_c2 f13_7_c3 f13_7_c4 f13_7_c5 f13_8_lt f13_8_c0 f13_8_c1 f13_8_c2 f13_8_c3 f13_9_lt f13_9_c0 f13_9_c1 f13_9_c2 f13_9_c3 m13_0 m13_1 m13_2 m13_3 m13_4 m13_5 m13_6 m13_7 m13_8 m13_9 hs13
  have hs14 := hb14.size
  have f14_0_lt := m14_0.lt
  have f14_0_c0 := m14_0.c0
  have f14_0_c1 := m14_0.c1
  have f14_0_c2 := m14_0.c2
  have f14_0_c3 := m14_0.c3
  have f14_0_c4 := m14_0.c4
  have f14_0_c5 := m14_0.c5
  have f14_1_lt := m14_1.lt
  have f14_1_c0 := m14_1.c0
  have f14_1_c1 := m14_1.c1
  have f14_1_c2 := m14_1.c2
  have f14_1_c3 := m14_1.c3
  have f14_1_c4 := m14_1.c4
  have f14_1_c5 := m14_1.c5
  have f14_2_lt := m14_2.lt
  have f14_2_c0 := m14_2.c0
  have f14_2_c1 := m14_2.c1
  have f14_2_c2 := m14_2.c2
  have f14_2_c3 := m14_2.c3
  have f14_2_c4 := m14_2.c4
  have f14_2_c5 := m14_2.c5
  have f14_3_lt := m14_3.lt
  have f14_3_c0 := m14_3.c0
  have f14_3_c1 := m14_3.c1
  have f14_3_c2 := m14_3.c2
  have f14_3_c3 := m14_3.c3
  have f14_3_c4 := m14_3.c4
  have f14_3_c5 := m14_3.c5
  have f14_4_lt := m14_4.lt
  have f14_4_c0 := m14_4.c0
  have f14_4_c1 := m14_4.c1
  have f14_4_c2 := m14_4.c2
  have f14_4_c3 := m14_4.c3
  have f14_5_lt := m14_5.lt
  have f14_5_c0 := m14_5.c0
  have f14_5_c1 := m14_5.c1
  have f14_5_c2 := m14_5.c2
  have f14_5_c3 := m14_5.c3
  have D13 := Lib.hid (gives_at (W := W14) (fun w' (_ : Below W14.heap.size W14 w') => C13.out w'))
  have D14 := Lib.hid (gives_at (W := W14) (fun w' (_ : Below W14.heap.size W14 w') => C14.out w'))
  have D15 := Lib.hid (gives_at (W := W14) (fun w' (_ : Below W14.heap.size W14 w') => C15.out w'))
  have D16 := Lib.hid (gives_at (W := W14) (fun w' (_ : Below W14.heap.size W14 w') => C16.out w'))
  clear C13 C14 C15 C16
  refine wp_region_wov (by kernel_rfl) (by kernel_rfl) ?_
  repeat (go_big_quiet_step (first | (go_at_call 17; exact D13.out _) | (go_at_call 18; exact D14.out _) | (go_at_call 19; exact D15.out _) | (go_at_call 20; exact D16.out _)))
  refine wpQuiet_nil ?_
  rintro _ ⟨pq, rfl⟩
  clear D13 D14 D15 D16
  go_wp2
  all_goals
    go_ret
    exact gives_bool (by simp) (by (repeat' (first | (with_reducible assumption) | (with_reducible exact Below.refl _ _) | (with_reducible refine below_wov ?_ ?_ _) | (with_reducible refine below_drewN ?_ _) | (with_reducible refine Below.drew ?_) | (with_reducible refine Below.alloc ?_ ?_ _) | (with_reducible refine Below.setCell ?_ ?_ _) | (with_reducible exact Nat.le_refl _) | omega | (simp only [World.size_alloc, World.size_setCell, World.size_drew, Wov_size, World.heap_drewN]; omega))))
end Go.Proofs.YtpaomeilfmeheaaGreat.zoneTells
