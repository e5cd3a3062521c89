/- law21: alive. No condition but on what some package variables hold. -/
import Derived.Test.YtccbhblklhmcpaaDoorQ34
namespace Go.Proofs.YtccbhblklhmcpaaDoor
set_option linter.unusedSimpArgs false
set_option linter.unusedVariables false
open Go Go.RowKit Go.Shelf
attribute [local go_sem] Nat.add_assoc Nat.add_lt_add_iff_left lit_lt_add

set_option maxRecDepth 10000 in
set_option maxHeartbeats 400000 in
theorem alive21_any (w : World) (hL : Laid w) : Calls Tryd.prog 8 #[] w (fun e w' => e = .returned (.bool true) ∧ Below w.heap.size w w') := by
  have PR : Hid (∀ W q p, Below w.heap.size w W → SlS W q pq → SlK sgD W p sig0 → Calls Tryd.prog 10 #[.slice q 2 2, .slice p 3 3] W (fun e W' => e = .returned (.tuple #[.string (bs txt0), .int .i64 0]) ∧ Below W.heap.size W W')) := fun W q p h1 h2 h3 => by
    have := print_any W q p 2 3 pq sig0 h2 h3 (hL.below h1) (by decide) (by decide) (by decide) (by decide) (by decide)
    rw [print0] at this
    exact this
  have PA : Hid (∀ W q, Below w.heap.size w W → SlS W q pq → (∀ A o, q = some ⟨A, o, none⟩ → A < W.heap.size) → Calls Tryd.prog 6 #[.slice q 2 2, .string (bs txt0)] W (parseC W (sig0, 0, 0))) := fun W q h1 h2 h3 => by
    have := parse_any W q 2 pq txt0 h2 (hL.below h1) (by decide) (by decide) h3
    rw [parse0] at this
    exact this
  have hLen : sig0.length = 3 := rfl
  clear hL
  go_enter Tryd.func8, Tryd.ntmps8
  go_wp2_with (fail)
  refine (names21_any _).mono ?_; rintro e w1 ⟨hb1, v, rfl, A1, rfl, ha1, ha2, hs1⟩
  go_wp2_with (fail)
  refine (PR.out _ _ _ (by (repeat' (first | (with_reducible assumption) | (with_reducible exact Below.refl _ _) | (with_reducible refine below_wov ?_ ?_ _) | (with_reducible refine below_drewN ?_ _) | (with_reducible refine Below.drew ?_) | (with_reducible refine Below.alloc ?_ ?_ _) | (with_reducible refine Below.setCell ?_ ?_ _) | (with_reducible exact Nat.le_refl _) | omega | (simp only [World.size_alloc, World.size_setCell, World.size_drew, Wov_size, World.heap_drewN]; omega)))) (hs1.below (by (repeat' (first | (with_reducible assumption) | (with_reducible exact Below.refl _ _) | (with_reducible refine below_wov ?_ ?_ _) | (with_reducible refine below_drewN ?_ _) | (with_reducible refine Below.drew ?_) | (with_reducible refine Below.alloc ?_ ?_ _) | (with_reducible refine Below.setCell ?_ ?_ _) | (with_reducible exact Nat.le_refl _) | omega | (simp only [World.size_alloc, World.size_setCell, World.size_drew, Wov_size, World.heap_drewN]; omega))))) (sig0_sl (by simp) (by simp [go_sem]) (by simp [go_sem]) (by simp [go_sem]) (by simp [go_sem]) (by simp [go_sem]) (by simp [go_sem]))).mono ?_
  rintro e w2 ⟨rfl, hb2⟩
  have HB2 : Hid (Below w.heap.size w w2) := Lib.hid (Below.trans (show Below w.heap.size w _ by (repeat' (first | (with_reducible assumption) | (with_reducible exact Below.refl _ _) | (with_reducible refine below_wov ?_ ?_ _) | (with_reducible refine below_drewN ?_ _) | (with_reducible refine Below.drew ?_) | (with_reducible refine Below.alloc ?_ ?_ _) | (with_reducible refine Below.setCell ?_ ?_ _) | (with_reducible exact Nat.le_refl _) | omega | (simp only [World.size_alloc, World.size_setCell, World.size_drew, Wov_size, World.heap_drewN]; omega)))) (hb2.mono (by (have := hb1.size); simp only [World.size_alloc]; omega)))
  obtain ⟨T, hT⟩ : ∃ T, T = bs txt0 := ⟨_, rfl⟩
  rw [← hT]
  have hst : (T.toList == [50, 58, 112, 44, 113, 59, 49, 58, 45, 59, 52, 58, 113]) = true := by rw [hT, Lib.toList_data, bs_list]; exact beq_self_eq_true _
  clear hT hb2 hs1 ha1 ha2
  go_wp2_with (fail)
  refine (names21_any _).mono ?_; rintro e w3 ⟨hb3, v, rfl, A3, rfl, ha1, ha2, hs3⟩
  have HB3 := Lib.hid (HB2.out.trans (hb3.mono HB2.out.size))
  clear hb3
  go_wp2_with (fail)
  refine (PA.out _ _ HB3.out hs3 (fun A o e => by injection e with e; injection e with e; rw [← e]; exact ha2)).mono ?_
  rintro e w4 ⟨hb4, lv, rfl, hrow⟩
  have HB4 := Lib.hid (HB3.out.trans (hb4.mono HB3.out.size))
  obtain ⟨p1, cp1, rfl, _, _, hsl⟩ := RowK.sl sgD_ok hrow
  obtain ⟨A, o, rfl, hA, hv⟩ := hsl.seg.resolve_left (fun h => by cases h)
  have cy0 := (hv 2 (4, 2) rfl).1
  have cy1 := (hv 2 (4, 2) rfl).2
  simp only [hLen]
  clear hv hsl hrow hb4 hs3 ha1 ha2
  go_wp2_with (fail)
  go_ret
  exact ⟨rfl, HB4.out⟩
#print axioms alive21_any
end Go.Proofs.YtccbhblklhmcpaaDoor
