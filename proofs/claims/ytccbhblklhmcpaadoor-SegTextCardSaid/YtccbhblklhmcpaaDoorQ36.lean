/- SegNames: the walk. No condition but on what some package variables hold. -/
import Derived.Test.YtccbhblklhmcpaaDoorQ35
namespace Go.Proofs.YtccbhblklhmcpaaDoor
set_option linter.unusedSimpArgs false
set_option linter.unusedVariables false
open Go Go.RowKit Go.Shelf
attribute [local go_sem] Nat.add_assoc Nat.add_lt_add_iff_left lit_lt_add

theorem parse1 : parseS pq [50, 58, 113, 44, 112] = ([], 4, 170) := by decide +kernel
theorem parse2 : parseS pq [49, 58, 112, 59] = ([], 4, 170) := by decide +kernel
theorem parse3 : parseS pq [49, 58, 114] = ([], 2, 161) := by decide +kernel
set_option maxRecDepth 10000 in
set_option maxHeartbeats 400000 in
theorem segNames_any (w : World) (hL : Laid w) : Calls Tryd.prog 3 #[] w (fun e w' => e = .returned (.bool true) ∧ Below w.heap.size w w') := by
  have PA : Hid (∀ W q S, Below w.heap.size w W → SlS W q pq → (∀ A o, q = some ⟨A, o, none⟩ → A < W.heap.size) → Calls Tryd.prog 6 #[.slice q 2 2, .string (bs S)] W (parseC W (parseS pq S))) := fun W q S h1 h2 h3 =>
    parse_any W q 2 pq S h2 (hL.below h1) (by decide) (by decide) h3
  have AL : Hid (∀ W, Below w.heap.size w W → Calls Tryd.prog 8 #[] W (fun e w' => e = .returned (.bool true) ∧ Below W.heap.size W w')) := fun W h => alive21_any W (hL.below h)
  clear hL
  go_enter Tryd.func3, Tryd.ntmps3
  go_wp2_with (fail)
  refine (names21_any _).mono ?_; rintro e w1 ⟨hb1, v, rfl, A1, rfl, ha1, ha2, hs1⟩
  have HB1 := Lib.hid hb1
  clear hb1
  go_wp2_with (fail)
  refine (PA.out _ _ [50, 58, 113, 44, 112] HB1.out hs1 (fun A o e => by injection e with e; injection e with e; rw [← e]; exact ha2)).mono ?_
  rintro e w2 ⟨hb2, lv1, rfl, hrow⟩
  have HB2 := Lib.hid (HB1.out.trans (hb2.mono HB1.out.size))
  rw [parse1]
  clear hrow hb2 hs1 ha1 ha2
  go_wp2_with (fail)
  refine (names21_any _).mono ?_; rintro e w3 ⟨hb3, v, rfl, A3, rfl, ha1, ha2, hs1⟩
  have HB3 := Lib.hid (HB2.out.trans (hb3.mono HB2.out.size))
  clear hb3
  go_wp2_with (fail)
  refine (PA.out _ _ [49, 58, 112, 59] HB3.out hs1 (fun A o e => by injection e with e; injection e with e; rw [← e]; exact ha2)).mono ?_
  rintro e w4 ⟨hb2, lv2, rfl, hrow⟩
  have HB4 := Lib.hid (HB3.out.trans (hb2.mono HB3.out.size))
  rw [parse2]
  clear hrow hb2 hs1 ha1 ha2
  go_wp2_with (fail)
  refine (names21_any _).mono ?_; rintro e w5 ⟨hb3, v, rfl, A5, rfl, ha1, ha2, hs1⟩
  have HB5 := Lib.hid (HB4.out.trans (hb3.mono HB4.out.size))
  clear hb3
  go_wp2_with (fail)
  refine (PA.out _ _ [49, 58, 114] HB5.out hs1 (fun A o e => by injection e with e; injection e with e; rw [← e]; exact ha2)).mono ?_
  rintro e w6 ⟨hb2, lv3, rfl, hrow⟩
  have HB6 := Lib.hid (HB5.out.trans (hb2.mono HB5.out.size))
  rw [parse3]
  clear hrow hb2 hs1 ha1 ha2
  go_wp2_with (fail)
  refine (AL.out _ HB6.out).mono ?_
  rintro e w7 ⟨rfl, hb7⟩
  have HB7 := Lib.hid (HB6.out.trans (hb7.mono HB6.out.size))
  clear hb7
  go_wp2_with (fail)
  go_ret
  exact ⟨rfl, HB7.out⟩
#print axioms segNames_any
end Go.Proofs.YtccbhblklhmcpaaDoor
