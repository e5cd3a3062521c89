/- The law CompNames (walk): the chapter's examples. No condition. -/
import Derived.Test.YtbgbhfcnadjhdaaL11
import Derived.Test.YtbgbhfcnadjhdaaL13
import Derived.Test.YtbgbhfcnadjhdaaH11
import Derived.Test.YtbgbhfcnadjhdaaFrame2
namespace Go.Proofs.Ytbgbhfcnadjhdaa.compNames
open Go.ChangeShapes Go.WideShapes Go.ChangeAt Go.RowKit
set_option linter.unusedVariables false
set_option linter.unusedSimpArgs false
attribute [local go_sem] Nat.add_assoc Nat.add_lt_add_iff_left lit_lt_add
set_option maxRecDepth 10000 in
theorem names_aa (w : World) : Calls Try.prog 18 #[.agg #[.int .i64 3, .int .i64 1, .int .i64 5, .int .i64 (-3), .int .i64 5, .int .i64 (-1)], .agg #[.int .i64 3, .int .i64 1, .int .i64 5, .int .i64 (-3), .int .i64 5, .int .i64 (-1)]] w (Gives w (.tuple #[.agg #[.int .i64 0, .int .i64 0, .int .i64 0, .int .i64 0, .int .i64 0, .int .i64 0], .int .i64 6])) := by
  have h : (compZ (row6 3 1 5 (-3) 5 (-1)) (row6 3 1 5 (-3) 5 (-1))).2 = 6 ∧ (compZ (row6 3 1 5 (-3) 5 (-1)) (row6 3 1 5 (-3) 5 (-1))).1 0 = 0 ∧ (compZ (row6 3 1 5 (-3) 5 (-1)) (row6 3 1 5 (-3) 5 (-1))).1 1 = 0 ∧ (compZ (row6 3 1 5 (-3) 5 (-1)) (row6 3 1 5 (-3) 5 (-1))).1 2 = 0 ∧ (compZ (row6 3 1 5 (-3) 5 (-1)) (row6 3 1 5 (-3) 5 (-1))).1 3 = 0 ∧ (compZ (row6 3 1 5 (-3) 5 (-1)) (row6 3 1 5 (-3) 5 (-1))).1 4 = 0 ∧ (compZ (row6 3 1 5 (-3) 5 (-1)) (row6 3 1 5 (-3) 5 (-1))).1 5 = 0 := by decide +kernel
  have f : FitsZ (row6 3 1 5 (-3) 5 (-1)) := fun i hi => by
    rcases six hi with rfl | rfl | rfl | rfl | rfl | rfl <;> decide
  have g : FitsZ (row6 3 1 5 (-3) 5 (-1)) := fun i hi => by
    rcases six hi with rfl | rfl | rfl | rfl | rfl | rfl <;> decide
  have := ccomp_any (row6 3 1 5 (-3) 5 (-1)) (row6 3 1 5 (-3) 5 (-1)) w f g
  unfold zoneR zoneV at this
  rw [h.1, h.2.1, h.2.2.1, h.2.2.2.1, h.2.2.2.2.1, h.2.2.2.2.2.1, h.2.2.2.2.2.2] at this
  exact this
set_option maxRecDepth 10000 in
theorem names_mk (w : World) : Calls Try.prog 26 #[.agg #[.int .i64 2, .bool false, .int .i64 2, .bool false, .bool false], .agg #[.int .i64 0, .bool false, .int .i64 1, .bool false, .bool false], .agg #[.int .i64 (-2), .bool false, .int .i64 (-1), .bool false, .bool false]] w (Gives w (.tuple #[.agg #[.int .i64 5, .int .i64 (-3), .int .i64 3, .int .i64 1, .int .i64 (-1), .int .i64 5], .int .i64 0])) := by
  have h : (makeZ (betwS 2 false 2 false false) (betwS 0 false 1 false false) (betwS (-2) false (-1) false false)).2 = 0 ∧ (makeZ (betwS 2 false 2 false false) (betwS 0 false 1 false false) (betwS (-2) false (-1) false false)).1 0 = 5 ∧ (makeZ (betwS 2 false 2 false false) (betwS 0 false 1 false false) (betwS (-2) false (-1) false false)).1 1 = (-3) ∧ (makeZ (betwS 2 false 2 false false) (betwS 0 false 1 false false) (betwS (-2) false (-1) false false)).1 2 = 3 ∧ (makeZ (betwS 2 false 2 false false) (betwS 0 false 1 false false) (betwS (-2) false (-1) false false)).1 3 = 1 ∧ (makeZ (betwS 2 false 2 false false) (betwS 0 false 1 false false) (betwS (-2) false (-1) false false)).1 4 = (-1) ∧ (makeZ (betwS 2 false 2 false false) (betwS 0 false 1 false false) (betwS (-2) false (-1) false false)).1 5 = 5 := by decide +kernel
  have := zmake_any 2 false 2 false false 0 false 1 false false (-2) false (-1) false false w (by decide) (by decide) (by decide) (by decide) (by decide) (by decide)
  unfold zoneR zoneV at this
  rw [h.1, h.2.1, h.2.2.1, h.2.2.2.1, h.2.2.2.2.1, h.2.2.2.2.2.1, h.2.2.2.2.2.2] at this
  exact this
set_option maxRecDepth 10000 in
theorem names_back (w : World) : Calls Try.prog 20 #[.agg #[.int .i64 3, .int .i64 1, .int .i64 5, .int .i64 (-3), .int .i64 5, .int .i64 (-1)]] w (Gives w (.tuple #[.agg #[.int .i64 5, .int .i64 (-3), .int .i64 3, .int .i64 1, .int .i64 (-1), .int .i64 5], .int .i64 0])) := by
  have k : okZ (row6 3 1 5 (-3) 5 (-1)) = true := by decide +kernel
  have := cback_any (row6 3 1 5 (-3) 5 (-1)) w (okZ_fits k)
  unfold backR at this
  rw [k] at this; exact this
set_option maxRecDepth 10000 in
theorem names_f1 (w : World) : Calls Try.prog 22 #[.agg #[.int .i64 3, .int .i64 1, .int .i64 5, .int .i64 (-3), .int .i64 5, .int .i64 (-1)]] w (Gives w (.tuple #[.agg #[.int .i64 0, .bool false, .int .i64 1, .bool false, .bool false], .int .i64 0])) := by
  have k : (firstsZ (row6 3 1 5 (-3) 5 (-1))).2 = 0 ∧ (firstsZ (row6 3 1 5 (-3) 5 (-1))).1.lo = 0 ∧ (firstsZ (row6 3 1 5 (-3) 5 (-1))).1.ls = false ∧ (firstsZ (row6 3 1 5 (-3) 5 (-1))).1.hi = 1 ∧ (firstsZ (row6 3 1 5 (-3) 5 (-1))).1.hs = false ∧ (firstsZ (row6 3 1 5 (-3) 5 (-1))).1.op = false := by decide +kernel
  have f : FitsZ (row6 3 1 5 (-3) 5 (-1)) := fun i hi => by
    rcases six hi with rfl | rfl | rfl | rfl | rfl | rfl <;> decide
  have := cfirsts_any (row6 3 1 5 (-3) 5 (-1)) w f
  unfold spR spV at this
  rw [k.1, k.2.1, k.2.2.1, k.2.2.2.1, k.2.2.2.2.1, k.2.2.2.2.2] at this; exact this
set_option maxRecDepth 10000 in
theorem names_f2 (w : World) : Calls Try.prog 22 #[.agg #[.int .i64 7, .int .i64 9223372036854775807, .int .i64 9223372036854775807, .int .i64 9223372036854775807, .int .i64 9223372036854775807, .int .i64 9223372036854775807]] w (Gives w (.tuple #[.agg #[.int .i64 0, .bool false, .int .i64 0, .bool false, .bool false], .int .i64 6])) := by
  have k : (firstsZ (row6 7 9223372036854775807 9223372036854775807 9223372036854775807 9223372036854775807 9223372036854775807)).2 = 6 ∧ (firstsZ (row6 7 9223372036854775807 9223372036854775807 9223372036854775807 9223372036854775807 9223372036854775807)).1.lo = 0 ∧ (firstsZ (row6 7 9223372036854775807 9223372036854775807 9223372036854775807 9223372036854775807 9223372036854775807)).1.ls = false ∧ (firstsZ (row6 7 9223372036854775807 9223372036854775807 9223372036854775807 9223372036854775807 9223372036854775807)).1.hi = 0 ∧ (firstsZ (row6 7 9223372036854775807 9223372036854775807 9223372036854775807 9223372036854775807 9223372036854775807)).1.hs = false ∧ (firstsZ (row6 7 9223372036854775807 9223372036854775807 9223372036854775807 9223372036854775807 9223372036854775807)).1.op = false := by decide +kernel
  have f : FitsZ (row6 7 9223372036854775807 9223372036854775807 9223372036854775807 9223372036854775807 9223372036854775807) := fun i hi => by
    rcases six hi with rfl | rfl | rfl | rfl | rfl | rfl <;> decide
  have := cfirsts_any (row6 7 9223372036854775807 9223372036854775807 9223372036854775807 9223372036854775807 9223372036854775807) w f
  unfold spR spV at this
  rw [k.1, k.2.1, k.2.2.1, k.2.2.2.1, k.2.2.2.2.1, k.2.2.2.2.2] at this; exact this
def nineN : Nat → Int := fun x => ([1, 9223372036854775807, 9223372036854775807, 7, 1, 9223372036854775807, 9223372036854775807, 9223372036854775807, 1] : List Int).getD x 0
set_option maxRecDepth 10000 in
theorem names_of (p : Option Addr) (w : World) (h : SlP w p 9 nineN) : Calls Try.prog 33 #[.agg #[.int .i64 3, .slice p 9 9]] w (Gives w (.tuple #[.agg #[.int .i64 7, .int .i64 9223372036854775807, .int .i64 9223372036854775807, .int .i64 9223372036854775807, .int .i64 9223372036854775807, .int .i64 9223372036854775807], .int .i64 0])) := by
  have h1 : (ofZ 3 9 nineN).2 = 0 ∧ (ofZ 3 9 nineN).1 0 = 7 ∧ (ofZ 3 9 nineN).1 1 = 9223372036854775807 ∧ (ofZ 3 9 nineN).1 2 = 9223372036854775807 ∧ (ofZ 3 9 nineN).1 3 = 9223372036854775807 ∧ (ofZ 3 9 nineN).1 4 = 9223372036854775807 ∧ (ofZ 3 9 nineN).1 5 = 9223372036854775807 := by decide +kernel
  have hF : Fits 9 nineN := fun x hx => by
    rcases nine hx with rfl | rfl | rfl | rfl | rfl | rfl | rfl | rfl | rfl <;> decide
  have := zof_any 3 p 9 9 nineN w (by decide) h hF (by omega)
  unfold zoneR zoneV at this
  rw [h1.1, h1.2.1, h1.2.2.1, h1.2.2.2.1, h1.2.2.2.2.1, h1.2.2.2.2.2.1, h1.2.2.2.2.2.2] at this
  exact this

set_option maxRecDepth 100000 in
set_option maxHeartbeats 16000000 in
theorem walk (w : World) :
    Calls Try.prog 7 #[] w (Gives w (.bool true)) := by
  obtain ⟨a, ha⟩ : ∃ z, z = (row6 3 1 5 (-3) 5 (-1)) := ⟨_, rfl⟩
  obtain ⟨b, hb⟩ : ∃ z, z = (row6 5 (-3) 3 1 (-1) 5) := ⟨_, rfl⟩
  obtain ⟨f, hf⟩ : ∃ z, z = (row6 7 9223372036854775807 9223372036854775807 9223372036854775807 9223372036854775807 9223372036854775807) := ⟨_, rfl⟩
  obtain ⟨y, hy⟩ : ∃ z, z = (row6 0 0 0 0 0 0) := ⟨_, rfl⟩
  have TO : Hid (∀ a b w, Calls Try.prog 32 #[.int .i64 a, .int .i64 b] w (Gives w (.agg #[.int .i64 a, .bool false, .int .i64 b, .bool false, .bool false]))) := fun a b w => to9_any a b w
  have HA : Hid (∀ w, Calls Try.prog 34 #[] w (Gives w (.bool true))) := fun w => alive9 w
  have OA : Hid (∀ w, Calls Try.prog 31 #[.agg #[.int .i64 0, .bool false, .int .i64 1, .bool false, .bool false], .agg #[.int .i64 2, .bool false, .int .i64 2, .bool false, .bool false]] w (Gives w (.agg #[.int .i64 (a 0), .int .i64 (a 1), .int .i64 (a 2), .int .i64 (a 3), .int .i64 (a 4), .int .i64 (a 5)]))) := fun w => by rw [ha]; exact of9_a w
  have CP : Hid (∀ w, Calls Try.prog 18 #[.agg #[.int .i64 (a 0), .int .i64 (a 1), .int .i64 (a 2), .int .i64 (a 3), .int .i64 (a 4), .int .i64 (a 5)], .agg #[.int .i64 (a 0), .int .i64 (a 1), .int .i64 (a 2), .int .i64 (a 3), .int .i64 (a 4), .int .i64 (a 5)]] w (Gives w (.tuple #[.agg #[.int .i64 (y 0), .int .i64 (y 1), .int .i64 (y 2), .int .i64 (y 3), .int .i64 (y 4), .int .i64 (y 5)], .int .i64 6]))) := fun w => by rw [ha, hy]; exact names_aa w
  have BK : Hid (∀ w, Calls Try.prog 20 #[.agg #[.int .i64 (a 0), .int .i64 (a 1), .int .i64 (a 2), .int .i64 (a 3), .int .i64 (a 4), .int .i64 (a 5)]] w (Gives w (.tuple #[.agg #[.int .i64 (b 0), .int .i64 (b 1), .int .i64 (b 2), .int .i64 (b 3), .int .i64 (b 4), .int .i64 (b 5)], .int .i64 0]))) := fun w => by rw [ha, hb]; exact names_back w
  have MK : Hid (∀ w, Calls Try.prog 26 #[.agg #[.int .i64 2, .bool false, .int .i64 2, .bool false, .bool false], .agg #[.int .i64 0, .bool false, .int .i64 1, .bool false, .bool false], .agg #[.int .i64 (-2), .bool false, .int .i64 (-1), .bool false, .bool false]] w (Gives w (.tuple #[.agg #[.int .i64 (b 0), .int .i64 (b 1), .int .i64 (b 2), .int .i64 (b 3), .int .i64 (b 4), .int .i64 (b 5)], .int .i64 0]))) := fun w => by rw [hb]; exact names_mk w
  have F1 : Hid (∀ w, Calls Try.prog 22 #[.agg #[.int .i64 (a 0), .int .i64 (a 1), .int .i64 (a 2), .int .i64 (a 3), .int .i64 (a 4), .int .i64 (a 5)]] w (Gives w (.tuple #[.agg #[.int .i64 0, .bool false, .int .i64 1, .bool false, .bool false], .int .i64 0]))) := fun w => by rw [ha]; exact names_f1 w
  have F2 : Hid (∀ w, Calls Try.prog 22 #[.agg #[.int .i64 (f 0), .int .i64 (f 1), .int .i64 (f 2), .int .i64 (f 3), .int .i64 (f 4), .int .i64 (f 5)]] w (Gives w (.tuple #[.agg #[.int .i64 0, .bool false, .int .i64 0, .bool false, .bool false], .int .i64 6]))) := fun w => by rw [hf]; exact names_f2 w
  have OF : Hid (∀ p w, SlP w p 9 nineN → Calls Try.prog 33 #[.agg #[.int .i64 3, .slice p 9 9]] w (Gives w (.tuple #[.agg #[.int .i64 (f 0), .int .i64 (f 1), .int .i64 (f 2), .int .i64 (f 3), .int .i64 (f 4), .int .i64 (f 5)], .int .i64 0]))) := fun p w h => by rw [hf]; exact names_of p w h
  have IS0 := is9_any (b 0) (b 1) (b 2) (b 3) (b 4) (b 5) (b 0) (b 1) (b 2) (b 3) (b 4) (b 5) ((eq6_iff b b).2 (fun _ _ => rfl))
  have IS : Hid (∀ w, Calls Try.prog 35 #[.agg #[.int .i64 (b 0), .int .i64 (b 1), .int .i64 (b 2), .int .i64 (b 3), .int .i64 (b 4), .int .i64 (b 5)], .int .i64 0, .agg #[.int .i64 (b 0), .int .i64 (b 1), .int .i64 (b 2), .int .i64 (b 3), .int .i64 (b 4), .int .i64 (b 5)]] w (Gives w (.bool true))) := fun w => IS0 w
  clear IS0
  have ES : eqS 0 false 1 false false 0 false 1 false false = true := by decide
  clear ha hb hf hy
  go_enter Try.func7, Try.ntmps7
  go_wp2_with (fail)
  refine (TO.out _ _ _).mono ?_; rintro e w' ⟨rfl, q0, rfl⟩
  go_wp2_with (fail)
  refine calls_world (fun W => Below w.heap.size w W) (by (repeat' (first | (with_reducible assumption) | (with_reducible exact Below.refl _ _) | (with_reducible refine below_wov ?_ ?_ _) | (with_reducible refine below_drewN ?_ _) | (with_reducible refine Below.drew ?_) | (with_reducible refine Below.alloc ?_ ?_ _) | (with_reducible refine Below.setCell ?_ ?_ _) | (with_reducible exact Nat.le_refl _) | omega | (simp only [World.size_alloc, World.size_setCell, World.size_drew, Wov_size, World.heap_drewN]; omega)))) ?_
  intro W1 hb1
  have hs1 := hb1.size
  refine (TO.out _ _ _).mono ?_; rintro e w' ⟨rfl, q1, rfl⟩
  go_wp2_with (fail)
  refine calls_world (fun W => Below w.heap.size w W) (by (repeat' (first | (with_reducible assumption) | (with_reducible exact Below.refl _ _) | (with_reducible refine below_wov ?_ ?_ _) | (with_reducible refine below_drewN ?_ _) | (with_reducible refine Below.drew ?_) | (with_reducible refine Below.alloc ?_ ?_ _) | (with_reducible refine Below.setCell ?_ ?_ _) | (with_reducible exact Nat.le_refl _) | omega | (simp only [World.size_alloc, World.size_setCell, World.size_drew, Wov_size, World.heap_drewN]; omega)))) ?_
  intro W2 hb2
  clear hb1 hs1
  have hs2 := hb2.size
  refine (OA.out _).mono ?_; rintro e w' ⟨rfl, q2, rfl⟩
  go_wp2_with (fail)
  obtain ⟨Aa, hAa⟩ : ∃ A, W2.heap.size + q2.bl.size = A := ⟨_, rfl⟩
  rw [hAa]
  refine calls_world (fun W => Below w.heap.size w W ∧ BoxZ W Aa a) ⟨by (repeat' (first | (with_reducible assumption) | (with_reducible exact Below.refl _ _) | (with_reducible refine below_wov ?_ ?_ _) | (with_reducible refine below_drewN ?_ _) | (with_reducible refine Below.drew ?_) | (with_reducible refine Below.alloc ?_ ?_ _) | (with_reducible refine Below.setCell ?_ ?_ _) | (with_reducible exact Nat.le_refl _) | omega | (simp only [World.size_alloc, World.size_setCell, World.size_drew, Wov_size, World.heap_drewN]; omega))), BoxZ.new (by rw [← hAa]; (try simp only [Wov_size]))⟩ ?_
  rintro W3 ⟨hb3, m3_0⟩
  clear hb2 hs2
  have hs3 := hb3.size
  have f3_0_lt := m3_0.lt
  have f3_0_c0 := m3_0.c0
  have f3_0_c1 := m3_0.c1
  have f3_0_c2 := m3_0.c2
  have f3_0_c3 := m3_0.c3
  have f3_0_c4 := m3_0.c4
  have f3_0_c5 := m3_0.c5
  clear hAa
  refine (CP.out _).mono ?_; rintro e w' ⟨rfl, q3, rfl⟩
  go_wp2_with (fail)
  refine calls_world (fun W => Below w.heap.size w W ∧ BoxZ W Aa a) ⟨by (repeat' (first | (with_reducible assumption) | (with_reducible exact Below.refl _ _) | (with_reducible refine below_wov ?_ ?_ _) | (with_reducible refine below_drewN ?_ _) | (with_reducible refine Below.drew ?_) | (with_reducible refine Below.alloc ?_ ?_ _) | (with_reducible refine Below.setCell ?_ ?_ _) | (with_reducible exact Nat.le_refl _) | omega | (simp only [World.size_alloc, World.size_setCell, World.size_drew, Wov_size, World.heap_drewN]; omega))), m3_0.below (by (repeat' (first | (with_reducible assumption) | (with_reducible exact Below.refl _ _) | (with_reducible refine below_wov ?_ ?_ _) | (with_reducible refine below_drewN ?_ _) | (with_reducible refine Below.drew ?_) | (with_reducible refine Below.alloc ?_ ?_ _) | (with_reducible refine Below.setCell ?_ ?_ _) | (with_reducible exact Nat.le_refl _) | omega | (simp only [World.size_alloc, World.size_setCell, World.size_drew, Wov_size, World.heap_drewN]; omega))))⟩ ?_
  rintro W4 ⟨hb4, m4_0⟩
  clear hb3 f3_0_lt f3_0_c0 f3_0_c1 f3_0_c2 f3_0_c3 f3_0_c4 f3_0_c5 m3_0 hs3
  have hs4 := hb4.size
  have f4_0_lt := m4_0.lt
  have f4_0_c0 := m4_0.c0
  have f4_0_c1 := m4_0.c1
  have f4_0_c2 := m4_0.c2
  have f4_0_c3 := m4_0.c3
  have f4_0_c4 := m4_0.c4
  have f4_0_c5 := m4_0.c5
  refine (BK.out _).mono ?_; rintro e w' ⟨rfl, q4, rfl⟩
  go_wp2_with (fail)
  obtain ⟨Ab, hAb⟩ : ∃ A, W4.heap.size + q4.bl.size = A := ⟨_, rfl⟩
  rw [hAb]
  refine calls_world (fun W => Below w.heap.size w W ∧ BoxZ W Aa a ∧ BoxZ W Ab b) ⟨by (repeat' (first | (with_reducible assumption) | (with_reducible exact Below.refl _ _) | (with_reducible refine below_wov ?_ ?_ _) | (with_reducible refine below_drewN ?_ _) | (with_reducible refine Below.drew ?_) | (with_reducible refine Below.alloc ?_ ?_ _) | (with_reducible refine Below.setCell ?_ ?_ _) | (with_reducible exact Nat.le_refl _) | omega | (simp only [World.size_alloc, World.size_setCell, World.size_drew, Wov_size, World.heap_drewN]; omega))), m4_0.below (by (repeat' (first | (with_reducible assumption) | (with_reducible exact Below.refl _ _) | (with_reducible refine below_wov ?_ ?_ _) | (with_reducible refine below_drewN ?_ _) | (with_reducible refine Below.drew ?_) | (with_reducible refine Below.alloc ?_ ?_ _) | (with_reducible refine Below.setCell ?_ ?_ _) | (with_reducible exact Nat.le_refl _) | omega | (simp only [World.size_alloc, World.size_setCell, World.size_drew, Wov_size, World.heap_drewN]; omega)))), BoxZ.new (by rw [← hAb]; (try simp only [Wov_size]))⟩ ?_
  rintro W5 ⟨hb5, m5_0, m5_1⟩
  clear hb4 f4_0_lt f4_0_c0 f4_0_c1 f4_0_c2 f4_0_c3 f4_0_c4 f4_0_c5 m4_0 hs4
  have hs5 := hb5.size
  have f5_0_lt := m5_0.lt
  have f5_0_c0 := m5_0.c0
  have f5_0_c1 := m5_0.c1
  have f5_0_c2 := m5_0.c2
  have f5_0_c3 := m5_0.c3
  have f5_0_c4 := m5_0.c4
  have f5_0_c5 := m5_0.c5
  have f5_1_lt := m5_1.lt
  have f5_1_c0 := m5_1.c0
  have f5_1_c1 := m5_1.c1
  have f5_1_c2 := m5_1.c2
  have f5_1_c3 := m5_1.c3
  have f5_1_c4 := m5_1.c4
  have f5_1_c5 := m5_1.c5
  clear hAb
  refine (TO.out _ _ _).mono ?_; rintro e w' ⟨rfl, q5, rfl⟩
  go_wp2_with (fail)
  refine calls_world (fun W => Below w.heap.size w W ∧ BoxZ W Aa a ∧ BoxZ W Ab b) ⟨by (repeat' (first | (with_reducible assumption) | (with_reducible exact Below.refl _ _) | (with_reducible refine below_wov ?_ ?_ _) | (with_reducible refine below_drewN ?_ _) | (with_reducible refine Below.drew ?_) | (with_reducible refine Below.alloc ?_ ?_ _) | (with_reducible refine Below.setCell ?_ ?_ _) | (with_reducible exact Nat.le_refl _) | omega | (simp only [World.size_alloc, World.size_setCell, World.size_drew, Wov_size, World.heap_drewN]; omega))), m5_0.below (by (repeat' (first | (with_reducible assumption) | (with_reducible exact Below.refl _ _) | (with_reducible refine below_wov ?_ ?_ _) | (with_reducible refine below_drewN ?_ _) | (with_reducible refine Below.drew ?_) | (with_reducible refine Below.alloc ?_ ?_ _) | (with_reducible refine Below.setCell ?_ ?_ _) | (with_reducible exact Nat.le_refl _) | omega | (simp only [World.size_alloc, World.size_setCell, World.size_drew, Wov_size, World.heap_drewN]; omega)))), m5_1.below (by (repeat' (first | (with_reducible assumption) | (with_reducible exact Below.refl _ _) | (with_reducible refine below_wov ?_ ?_ _) | (with_reducible refine below_drewN ?_ _) | (with_reducible refine Below.drew ?_) | (with_reducible refine Below.alloc ?_ ?_ _) | (with_reducible refine Below.setCell ?_ ?_ _) | (with_reducible exact Nat.le_refl _) | omega | (simp only [World.size_alloc, World.size_setCell, World.size_drew, Wov_size, World.heap_drewN]; omega))))⟩ ?_
  rintro W6 ⟨hb6, m6_0, m6_1⟩
  clear hb5 f5_0_lt f5_0_c0 f5_0_c1 f5_0_c2 f5_0_c3 f5_0_c4 f5_0_c5 f5_1_lt f5_1_c0 f5_1_c1 f5_1_c2 f5_1_c3 f5_1_c4 f5_1_c5 m5_0 m5_1 hs5
  have hs6 := hb6.size
  have f6_0_lt := m6_0.lt
  have f6_0_c0 := m6_0.c0
  have f6_0_c1 := m6_0.c1
  have f6_0_c2 := m6_0.c2
  have f6_0_c3 := m6_0.c3
  have f6_0_c4 := m6_0.c4
  have f6_0_c5 := m6_0.c5
  have f6_1_lt := m6_1.lt
  have f6_1_c0 := m6_1.c0
  have f6_1_c1 := m6_1.c1
  have f6_1_c2 := m6_1.c2
  have f6_1_c3 := m6_1.c3
  have f6_1_c4 := m6_1.c4
  have f6_1_c5 := m6_1.c5
  refine (TO.out _ _ _).mono ?_; rintro e w' ⟨rfl, q6, rfl⟩
  go_wp2_with (fail)
  refine calls_world (fun W => Below w.heap.size w W ∧ BoxZ W Aa a ∧ BoxZ W Ab b) ⟨by (repeat' (first | (with_reducible assumption) | (with_reducible exact Below.refl _ _) | (with_reducible refine below_wov ?_ ?_ _) | (with_reducible refine below_drewN ?_ _) | (with_reducible refine Below.drew ?_) | (with_reducible refine Below.alloc ?_ ?_ _) | (with_reducible refine Below.setCell ?_ ?_ _) | (with_reducible exact Nat.le_refl _) | omega | (simp only [World.size_alloc, World.size_setCell, World.size_drew, Wov_size, World.heap_drewN]; omega))), m6_0.below (by (repeat' (first | (with_reducible assumption) | (with_reducible exact Below.refl _ _) | (with_reducible refine below_wov ?_ ?_ _) | (with_reducible refine below_drewN ?_ _) | (with_reducible refine Below.drew ?_) | (with_reducible refine Below.alloc ?_ ?_ _) | (with_reducible refine Below.setCell ?_ ?_ _) | (with_reducible exact Nat.le_refl _) | omega | (simp only [World.size_alloc, World.size_setCell, World.size_drew, Wov_size, World.heap_drewN]; omega)))), m6_1.below (by (repeat' (first | (with_reducible assumption) | (with_reducible exact Below.refl _ _) | (with_reducible refine below_wov ?_ ?_ _) | (with_reducible refine below_drewN ?_ _) | (with_reducible refine Below.drew ?_) | (with_reducible refine Below.alloc ?_ ?_ _) | (with_reducible refine Below.setCell ?_ ?_ _) | (with_reducible exact Nat.le_refl _) | omega | (simp only [World.size_alloc, World.size_setCell, World.size_drew, Wov_size, World.heap_drewN]; omega))))⟩ ?_
  rintro W7 ⟨hb7, m7_0, m7_1⟩
  clear hb6 f6_0_lt f6_0_c0 f6_0_c1 f6_0_c2 f6_0_c3 f6_0_c4 f6_0_c5 f6_1_lt f6_1_c0 f6_1_c1 f6_1_c2 f6_1_c3 f6_1_c4 f6_1_c5 m6_0 m6_1 hs6
  have hs7 := hb7.size
  have f7_0_lt := m7_0.lt
  have f7_0_c0 := m7_0.c0
  have f7_0_c1 := m7_0.c1
  have f7_0_c2 := m7_0.c2
  have f7_0_c3 := m7_0.c3
  have f7_0_c4 := m7_0.c4
  have f7_0_c5 := m7_0.c5
  have f7_1_lt := m7_1.lt
  have f7_1_c0 := m7_1.c0
  have f7_1_c1 := m7_1.c1
  have f7_1_c2 := m7_1.c2
  have f7_1_c3 := m7_1.c3
  have f7_1_c4 := m7_1.c4
  have f7_1_c5 := m7_1.c5
  refine (MK.out _).mono ?_; rintro e w' ⟨rfl, q7, rfl⟩
  go_wp2_with (fail)
  obtain ⟨Ac, hAc⟩ : ∃ A, W7.heap.size + q7.bl.size = A := ⟨_, rfl⟩
  rw [hAc]
  refine calls_world (fun W => Below w.heap.size w W ∧ BoxZ W Aa a ∧ BoxZ W Ab b ∧ BoxZ W Ac b) ⟨by (repeat' (first | (with_reducible assumption) | (with_reducible exact Below.refl _ _) | (with_reducible refine below_wov ?_ ?_ _) | (with_reducible refine below_drewN ?_ _) | (with_reducible refine Below.drew ?_) | (with_reducible refine Below.alloc ?_ ?_ _) | (with_reducible refine Below.setCell ?_ ?_ _) | (with_reducible exact Nat.le_refl _) | omega | (simp only [World.size_alloc, World.size_setCell, World.size_drew, Wov_size, World.heap_drewN]; omega))), m7_0.below (by (repeat' (first | (with_reducible assumption) | (with_reducible exact Below.refl _ _) | (with_reducible refine below_wov ?_ ?_ _) | (with_reducible refine below_drewN ?_ _) | (with_reducible refine Below.drew ?_) | (with_reducible refine Below.alloc ?_ ?_ _) | (with_reducible refine Below.setCell ?_ ?_ _) | (with_reducible exact Nat.le_refl _) | omega | (simp only [World.size_alloc, World.size_setCell, World.size_drew, Wov_size, World.heap_drewN]; omega)))), m7_1.below (by (repeat' (first | (with_reducible assumption) | (with_reducible exact Below.refl _ _) | (with_reducible refine below_wov ?_ ?_ _) | (with_reducible refine below_drewN ?_ _) | (with_reducible refine Below.drew ?_) | (with_reducible refine Below.alloc ?_ ?_ _) | (with_reducible refine Below.setCell ?_ ?_ _) | (with_reducible exact Nat.le_refl _) | omega | (simp only [World.size_alloc, World.size_setCell, World.size_drew, Wov_size, World.heap_drewN]; omega)))), BoxZ.new (by rw [← hAc]; (try simp only [Wov_size]))⟩ ?_
  rintro W8 ⟨hb8, m8_0, m8_1, m8_2⟩
  clear hb7 f7_0_lt f7_0_c0 f7_0_c1 f7_0_c2 f7_0_c3 f7_0_c4 f7_0_c5 f7_1_lt f7_1_c0 f7_1_c1 f7_1_c2 f7_1_c3 f7_1_c4 f7_1_c5 m7_0 m7_1 hs7
  have hs8 := hb8.size
  have f8_0_lt := m8_0.lt
  have f8_0_c0 := m8_0.c0
  have f8_0_c1 := m8_0.c1
  have f8_0_c2 := m8_0.c2
  have f8_0_c3 := m8_0.c3
  have f8_0_c4 := m8_0.c4
  have f8_0_c5 := m8_0.c5
  have f8_1_lt := m8_1.lt
  have f8_1_c0 := m8_1.c0
  have f8_1_c1 := m8_1.c1
  have f8_1_c2 := m8_1.c2
  have f8_1_c3 := m8_1.c3
  have f8_1_c4 := m8_1.c4
  have f8_1_c5 := m8_1.c5
  have f8_2_lt := m8_2.lt
  have f8_2_c0 := m8_2.c0
  have f8_2_c1 := m8_2.c1
  have f8_2_c2 := m8_2.c2
  have f8_2_c3 := m8_2.c3
  have f8_2_c4 := m8_2.c4
  have f8_2_c5 := m8_2.c5
  clear hAc
  refine (F1.out _).mono ?_; rintro e w' ⟨rfl, q8, rfl⟩
  go_wp2_with (fail)
  obtain ⟨As, hAs⟩ : ∃ A, W8.heap.size + q8.bl.size = A := ⟨_, rfl⟩
  rw [hAs]
  obtain ⟨Bd, hBd⟩ : ∃ A, W8.heap.size + (q8.bl.size + 1) = A := ⟨_, rfl⟩
  rw [hBd]
  refine calls_world (fun W => Below w.heap.size w W ∧ BoxZ W Aa a ∧ BoxZ W Ab b ∧ BoxZ W Ac b ∧ BoxS W As 0 false 1 false false ∧ SlP W (some ⟨Bd, 0, none⟩) 9 nineN) ⟨by (repeat' (first | (with_reducible assumption) | (with_reducible exact Below.refl _ _) | (with_reducible refine below_wov ?_ ?_ _) | (with_reducible refine below_drewN ?_ _) | (with_reducible refine Below.drew ?_) | (with_reducible refine Below.alloc ?_ ?_ _) | (with_reducible refine Below.setCell ?_ ?_ _) | (with_reducible exact Nat.le_refl _) | omega | (simp only [World.size_alloc, World.size_setCell, World.size_drew, Wov_size, World.heap_drewN]; omega))), m8_0.below (by (repeat' (first | (with_reducible assumption) | (with_reducible exact Below.refl _ _) | (with_reducible refine below_wov ?_ ?_ _) | (with_reducible refine below_drewN ?_ _) | (with_reducible refine Below.drew ?_) | (with_reducible refine Below.alloc ?_ ?_ _) | (with_reducible refine Below.setCell ?_ ?_ _) | (with_reducible exact Nat.le_refl _) | omega | (simp only [World.size_alloc, World.size_setCell, World.size_drew, Wov_size, World.heap_drewN]; omega)))), m8_1.below (by (repeat' (first | (with_reducible assumption) | (with_reducible exact Below.refl _ _) | (with_reducible refine below_wov ?_ ?_ _) | (with_reducible refine below_drewN ?_ _) | (with_reducible refine Below.drew ?_) | (with_reducible refine Below.alloc ?_ ?_ _) | (with_reducible refine Below.setCell ?_ ?_ _) | (with_reducible exact Nat.le_refl _) | omega | (simp only [World.size_alloc, World.size_setCell, World.size_drew, Wov_size, World.heap_drewN]; omega)))), m8_2.below (by (repeat' (first | (with_reducible assumption) | (with_reducible exact Below.refl _ _) | (with_reducible refine below_wov ?_ ?_ _) | (with_reducible refine below_drewN ?_ _) | (with_reducible refine Below.drew ?_) | (with_reducible refine Below.alloc ?_ ?_ _) | (with_reducible refine Below.setCell ?_ ?_ _) | (with_reducible exact Nat.le_refl _) | omega | (simp only [World.size_alloc, World.size_setCell, World.size_drew, Wov_size, World.heap_drewN]; omega)))), (BoxS.new (t := 42) (W := Wov W8 q8) (by rw [← hAs]; (try simp only [Wov_size]))).below (by (repeat' (first | (with_reducible assumption) | (with_reducible exact Below.refl _ _) | (with_reducible refine below_wov ?_ ?_ _) | (with_reducible refine below_drewN ?_ _) | (with_reducible refine Below.drew ?_) | (with_reducible refine Below.alloc ?_ ?_ _) | (with_reducible refine Below.setCell ?_ ?_ _) | (with_reducible exact Nat.le_refl _) | omega | (simp only [World.size_alloc, World.size_setCell, World.size_drew, Wov_size, World.heap_drewN]; omega)))), .inr ⟨Bd, 0, rfl, by rw [← hBd]; (first | omega | ((simp only [World.size_alloc, World.size_setCell, World.size_drew, Wov_size, World.heap_drewN, Array.size_append]) <;> omega)), fun x hx => by rw [Nat.zero_add, ← hBd]; rcases nine hx with rfl | rfl | rfl | rfl | rfl | rfl | rfl | rfl | rfl <;> (simp [go_sem, nineN])⟩⟩ ?_
  rintro W9 ⟨hb9, m9_0, m9_1, m9_2, m9_3, m9_4⟩
  clear hb8 f8_0_lt f8_0_c0 f8_0_c1 f8_0_c2 f8_0_c3 f8_0_c4 f8_0_c5 f8_1_lt f8_1_c0 f8_1_c1 f8_1_c2 f8_1_c3 f8_1_c4 f8_1_c5 f8_2_lt f8_2_c0 f8_2_c1 f8_2_c2 f8_2_c3 f8_2_c4 f8_2_c5 m8_0 m8_1 m8_2 hs8
  have hs9 := hb9.size
  have f9_0_lt := m9_0.lt
  have f9_0_c0 := m9_0.c0
  have f9_0_c1 := m9_0.c1
  have f9_0_c2 := m9_0.c2
  have f9_0_c3 := m9_0.c3
  have f9_0_c4 := m9_0.c4
  have f9_0_c5 := m9_0.c5
  have f9_1_lt := m9_1.lt
  have f9_1_c0 := m9_1.c0
  have f9_1_c1 := m9_1.c1
  have f9_1_c2 := m9_1.c2
  have f9_1_c3 := m9_1.c3
  have f9_1_c4 := m9_1.c4
  have f9_1_c5 := m9_1.c5
  have f9_2_lt := m9_2.lt
  have f9_2_c0 := m9_2.c0
  have f9_2_c1 := m9_2.c1
  have f9_2_c2 := m9_2.c2
  have f9_2_c3 := m9_2.c3
  have f9_2_c4 := m9_2.c4
  have f9_2_c5 := m9_2.c5
  have f9_3_lt := m9_3.lt
  have f9_3_c0 := m9_3.c0
  have f9_3_c1 := m9_3.c1
  have f9_3_c2 := m9_3.c2
  have f9_3_c3 := m9_3.c3
  have f9_3_c4 := m9_3.c4
  clear hAs hBd OA CP BK MK F1
  refine (OF.out _ _ m9_4).mono ?_; rintro e w' ⟨rfl, q9, rfl⟩
  go_wp2_with (fail)
  obtain ⟨Af, hAf⟩ : ∃ A, W9.heap.size + q9.bl.size = A := ⟨_, rfl⟩
  rw [hAf]
  refine calls_world (fun W => Below w.heap.size w W ∧ BoxZ W Aa a ∧ BoxZ W Ab b ∧ BoxZ W Ac b ∧ BoxS W As 0 false 1 false false ∧ SlP W (some ⟨Bd, 0, none⟩) 9 nineN ∧ BoxZ W Af f) ⟨by (repeat' (first | (with_reducible assumption) | (with_reducible exact Below.refl _ _) | (with_reducible refine below_wov ?_ ?_ _) | (with_reducible refine below_drewN ?_ _) | (with_reducible refine Below.drew ?_) | (with_reducible refine Below.alloc ?_ ?_ _) | (with_reducible refine Below.setCell ?_ ?_ _) | (with_reducible exact Nat.le_refl _) | omega | (simp only [World.size_alloc, World.size_setCell, World.size_drew, Wov_size, World.heap_drewN]; omega))), m9_0.below (by (repeat' (first | (with_reducible assumption) | (with_reducible exact Below.refl _ _) | (with_reducible refine below_wov ?_ ?_ _) | (with_reducible refine below_drewN ?_ _) | (with_reducible refine Below.drew ?_) | (with_reducible refine Below.alloc ?_ ?_ _) | (with_reducible refine Below.setCell ?_ ?_ _) | (with_reducible exact Nat.le_refl _) | omega | (simp only [World.size_alloc, World.size_setCell, World.size_drew, Wov_size, World.heap_drewN]; omega)))), m9_1.below (by (repeat' (first | (with_reducible assumption) | (with_reducible exact Below.refl _ _) | (with_reducible refine below_wov ?_ ?_ _) | (with_reducible refine below_drewN ?_ _) | (with_reducible refine Below.drew ?_) | (with_reducible refine Below.alloc ?_ ?_ _) | (with_reducible refine Below.setCell ?_ ?_ _) | (with_reducible exact Nat.le_refl _) | omega | (simp only [World.size_alloc, World.size_setCell, World.size_drew, Wov_size, World.heap_drewN]; omega)))), m9_2.below (by (repeat' (first | (with_reducible assumption) | (with_reducible exact Below.refl _ _) | (with_reducible refine below_wov ?_ ?_ _) | (with_reducible refine below_drewN ?_ _) | (with_reducible refine Below.drew ?_) | (with_reducible refine Below.alloc ?_ ?_ _) | (with_reducible refine Below.setCell ?_ ?_ _) | (with_reducible exact Nat.le_refl _) | omega | (simp only [World.size_alloc, World.size_setCell, World.size_drew, Wov_size, World.heap_drewN]; omega)))), m9_3.below (by (repeat' (first | (with_reducible assumption) | (with_reducible exact Below.refl _ _) | (with_reducible refine below_wov ?_ ?_ _) | (with_reducible refine below_drewN ?_ _) | (with_reducible refine Below.drew ?_) | (with_reducible refine Below.alloc ?_ ?_ _) | (with_reducible refine Below.setCell ?_ ?_ _) | (with_reducible exact Nat.le_refl _) | omega | (simp only [World.size_alloc, World.size_setCell, World.size_drew, Wov_size, World.heap_drewN]; omega)))), m9_4.below (by (repeat' (first | (with_reducible assumption) | (with_reducible exact Below.refl _ _) | (with_reducible refine below_wov ?_ ?_ _) | (with_reducible refine below_drewN ?_ _) | (with_reducible refine Below.drew ?_) | (with_reducible refine Below.alloc ?_ ?_ _) | (with_reducible refine Below.setCell ?_ ?_ _) | (with_reducible exact Nat.le_refl _) | omega | (simp only [World.size_alloc, World.size_setCell, World.size_drew, Wov_size, World.heap_drewN]; omega)))), BoxZ.new (by rw [← hAf]; (try simp only [Wov_size]))⟩ ?_
  rintro W10 ⟨hb10, m10_0, m10_1, m10_2, m10_3, m10_4, m10_5⟩
  clear hb9 f9_0_lt f9_0_c0 f9_0_c1 f9_0_c2 f9_0_c3 f9_0_c4 f9_0_c5 f9_1_lt f9_1_c0 f9_1_c1 f9_1_c2 f9_1_c3 f9_1_c4 f9_1_c5 f9_2_lt f9_2_c0 f9_2_c1 f9_2_c2 f9_2_c3 f9_2_c4 f9_2_c5 f9_3_lt f9_3_c0 f9_3_c1 f9_3_c2 f9_3_c3 f9_3_c4 m9_0 m9_1 m9_2 m9_3 m9_4 hs9
  have hs10 := hb10.size
  have f10_0_lt := m10_0.lt
  have f10_0_c0 := m10_0.c0
  have f10_0_c1 := m10_0.c1
  have f10_0_c2 := m10_0.c2
  have f10_0_c3 := m10_0.c3
  have f10_0_c4 := m10_0.c4
  have f10_0_c5 := m10_0.c5
  have f10_1_lt := m10_1.lt
  have f10_1_c0 := m10_1.c0
  have f10_1_c1 := m10_1.c1
  have f10_1_c2 := m10_1.c2
  have f10_1_c3 := m10_1.c3
  have f10_1_c4 := m10_1.c4
  have f10_1_c5 := m10_1.c5
  have f10_2_lt := m10_2.lt
  have f10_2_c0 := m10_2.c0
  have f10_2_c1 := m10_2.c1
  have f10_2_c2 := m10_2.c2
  have f10_2_c3 := m10_2.c3
  have f10_2_c4 := m10_2.c4
  have f10_2_c5 := m10_2.c5
  have f10_3_lt := m10_3.lt
  have f10_3_c0 := m10_3.c0
  have f10_3_c1 := m10_3.c1
  have f10_3_c2 := m10_3.c2
  have f10_3_c3 := m10_3.c3
  have f10_3_c4 := m10_3.c4
  have f10_5_lt := m10_5.lt
  have f10_5_c0 := m10_5.c0
  have f10_5_c1 := m10_5.c1
  have f10_5_c2 := m10_5.c2
  have f10_5_c3 := m10_5.c3
  have f10_5_c4 := m10_5.c4
  have f10_5_c5 := m10_5.c5
  clear hAf
  refine (F2.out _).mono ?_; rintro e w' ⟨rfl, q10, rfl⟩
  go_wp2
  refine wp_world (fun W => Below w.heap.size w W ∧ BoxZ W Ab b ∧ BoxZ W Ac b ∧ BoxS W As 0 false 1 false false) ⟨by (repeat' (first | (with_reducible assumption) | (with_reducible exact Below.refl _ _) | (with_reducible refine below_wov ?_ ?_ _) | (with_reducible refine below_drewN ?_ _) | (with_reducible refine Below.drew ?_) | (with_reducible refine Below.alloc ?_ ?_ _) | (with_reducible refine Below.setCell ?_ ?_ _) | (with_reducible exact Nat.le_refl _) | omega | (simp only [World.size_alloc, World.size_setCell, World.size_drew, Wov_size, World.heap_drewN]; omega))), m10_1.below (by (repeat' (first | (with_reducible assumption) | (with_reducible exact Below.refl _ _) | (with_reducible refine below_wov ?_ ?_ _) | (with_reducible refine below_drewN ?_ _) | (with_reducible refine Below.drew ?_) | (with_reducible refine Below.alloc ?_ ?_ _) | (with_reducible refine Below.setCell ?_ ?_ _) | (with_reducible exact Nat.le_refl _) | omega | (simp only [World.size_alloc, World.size_setCell, World.size_drew, Wov_size, World.heap_drewN]; omega)))), m10_2.below (by (repeat' (first | (with_reducible assumption) | (with_reducible exact Below.refl _ _) | (with_reducible refine below_wov ?_ ?_ _) | (with_reducible refine below_drewN ?_ _) | (with_reducible refine Below.drew ?_) | (with_reducible refine Below.alloc ?_ ?_ _) | (with_reducible refine Below.setCell ?_ ?_ _) | (with_reducible exact Nat.le_refl _) | omega | (simp only [World.size_alloc, World.size_setCell, World.size_drew, Wov_size, World.heap_drewN]; omega)))), m10_3.below (by (repeat' (first | (with_reducible assumption) | (with_reducible exact Below.refl _ _) | (with_reducible refine below_wov ?_ ?_ _) | (with_reducible refine below_drewN ?_ _) | (with_reducible refine Below.drew ?_) | (with_reducible refine Below.alloc ?_ ?_ _) | (with_reducible refine Below.setCell ?_ ?_ _) | (with_reducible exact Nat.le_refl _) | omega | (simp only [World.size_alloc, World.size_setCell, World.size_drew, Wov_size, World.heap_drewN]; omega))))⟩ ?_
  rintro W11 ⟨hb11, m11_0, m11_1, m11_2⟩
  clear hb10 f10_0_lt f10_0_c0 f10_0_c1 f10_0_c2 f10_0_c3 f10_0_c4 f10_0_c5 f10_1_lt f10_1_c0 f10_1_c1 f10_1_c2 f10_1_c3 f10_1_c4 f10_1_c5 f10_2_lt f10_2_c0 f10_2_c1 f10_2_c2 f10_2_c3 f10_2_c4 f10_2_c5 f10_3_lt f10_3_c0 f10_3_c1 f10_3_c2 f10_3_c3 f10_3_c4 f10_5_lt f10_5_c0 f10_5_c1 f10_5_c2 f10_5_c3 f10_5_c4 f10_5_c5 m10_0 m10_1 m10_2 m10_3 m10_4 m10_5 hs10
  have hs11 := hb11.size
  have f11_0_lt := m11_0.lt
  have f11_0_c0 := m11_0.c0
  have f11_0_c1 := m11_0.c1
  have f11_0_c2 := m11_0.c2
  have f11_0_c3 := m11_0.c3
  have f11_0_c4 := m11_0.c4
  have f11_0_c5 := m11_0.c5
  have f11_1_lt := m11_1.lt
  have f11_1_c0 := m11_1.c0
  have f11_1_c1 := m11_1.c1
  have f11_1_c2 := m11_1.c2
  have f11_1_c3 := m11_1.c3
  have f11_1_c4 := m11_1.c4
  have f11_1_c5 := m11_1.c5
  have f11_2_lt := m11_2.lt
  have f11_2_c0 := m11_2.c0
  have f11_2_c1 := m11_2.c1
  have f11_2_c2 := m11_2.c2
  have f11_2_c3 := m11_2.c3
  have f11_2_c4 := m11_2.c4
  clear OF F2
  go_region_held3 (fun w' => w'.cell? ⟨Ab, 0, none⟩ = some (.int .i64 (b 0)) ∧ w'.cell? ⟨Ab, 1, none⟩ = some (.int .i64 (b 1)) ∧ w'.cell? ⟨Ab, 2, none⟩ = some (.int .i64 (b 2)) ∧ w'.cell? ⟨Ab, 3, none⟩ = some (.int .i64 (b 3)) ∧ w'.cell? ⟨Ab, 4, none⟩ = some (.int .i64 (b 4)) ∧ w'.cell? ⟨Ab, 5, none⟩ = some (.int .i64 (b 5)) ∧ w'.cell? ⟨Ac, 0, none⟩ = some (.int .i64 (b 0)) ∧ w'.cell? ⟨Ac, 1, none⟩ = some (.int .i64 (b 1)) ∧ w'.cell? ⟨Ac, 2, none⟩ = some (.int .i64 (b 2)) ∧ w'.cell? ⟨Ac, 3, none⟩ = some (.int .i64 (b 3)) ∧ w'.cell? ⟨Ac, 4, none⟩ = some (.int .i64 (b 4)) ∧ w'.cell? ⟨Ac, 5, none⟩ = some (.int .i64 (b 5)) ∧ w'.cell? ⟨As, 0, none⟩ = some (.int .i64 0) ∧ w'.cell? ⟨As, 1, none⟩ = some (.bool false) ∧ w'.cell? ⟨As, 2, none⟩ = some (.int .i64 1) ∧ w'.cell? ⟨As, 3, none⟩ = some (.bool false) ∧ w'.cell? ⟨As, 4, none⟩ = some (.bool false))
    ((simp [go_sem, *]))
    (first | (go_at_call 34; ((with_reducible refine (HA.out _).mono ?_); rintro e w' ⟨rfl, q, rfl⟩)) | (go_at_call 35; ((with_reducible refine (IS.out _).mono ?_); rintro e w' ⟨rfl, q, rfl⟩)) | (go_at_call 32; ((with_reducible refine (TO.out _ _ _).mono ?_); rintro e w' ⟨rfl, q, rfl⟩)))
  all_goals
    simp only [Exit.then]
    refine ‹∀ (a : Act) (w_1 : World), Code.wp Try.prog _ (bodyPost Try.prog _ _) a w_1 → _› _ _ ?_
    go_wp2
    go_ret
    exact gives_bool rfl (by (repeat' (first | (with_reducible assumption) | (with_reducible exact Below.refl _ _) | (with_reducible refine below_wov ?_ ?_ _) | (with_reducible refine below_drewN ?_ _) | (with_reducible refine Below.drew ?_) | (with_reducible refine Below.alloc ?_ ?_ _) | (with_reducible refine Below.setCell ?_ ?_ _) | (with_reducible exact Nat.le_refl _) | omega | (simp only [World.size_alloc, World.size_setCell, World.size_drew, Wov_size, World.heap_drewN]; omega))))
end Go.Proofs.Ytbgbhfcnadjhdaa.compNames
