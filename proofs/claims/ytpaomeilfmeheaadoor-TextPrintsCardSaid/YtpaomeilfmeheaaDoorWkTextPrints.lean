/- The law TextPrints (walk): zones' text, or the error, is the document's. No condition but that the table of powers lies as it is laid. -/
import Derived.Test.YtpaomeilfmeheaaDoorS9
import Derived.Test.YtpaomeilfmeheaaDoorS10
import Derived.Test.YtpaomeilfmeheaaDoorFrame2
namespace Go.Proofs.YtpaomeilfmeheaaDoor
open Go Go.RowKit
theorem row_grown0 {W V : World} (hg : W.grownBy V (Value.slice none 0 0).ownBlock) : Below W.heap.size W V := ⟨hg.os, hg.tape, hg.output, hg.size, fun k hk => hg.block k hk (fun e => by simp [Value.ownBlock] at e)⟩
end Go.Proofs.YtpaomeilfmeheaaDoor
namespace Go.Proofs.YtpaomeilfmeheaaDoor.textPrints
open Go.ChangeShapes Go.WideShapes Go.ChangeAt Go.RowKit
set_option linter.unusedVariables false
set_option linter.unusedSimpArgs false
attribute [local go_sem] Nat.add_assoc Nat.add_lt_add_iff_left lit_lt_add

set_option maxRecDepth 100000 in
set_option maxHeartbeats 4000000 in
theorem walk (q : Option Addr) (cq : Nat) (L : List (Nat → Int)) (w : World) (hS : SlZ w q L) (hF : ∀ z, z ∈ L → FitsZ z) (hN : L.length ≤ maxLen) (hQ : q = none → cq = 0) (ht : Tab w) :
    Calls Tryd.prog 3 #[.slice q L.length cq] w (Gives w (.bool true)) := by
  unfold maxLen at hN
  by_cases hbig : 5000 < L.length
  · obtain ⟨n, hn⟩ : ∃ n, n = L.length := ⟨_, rfl⟩
    rw [← hn] at hbig hN ⊢
    clear hS hF ht hn hQ
    go_enter Tryd.func3, Tryd.ntmps3
    go_wp2
    all_goals
      go_ret
      exact gives_bool rfl (by (repeat' (first | (with_reducible assumption) | (with_reducible exact Below.refl _ _) | (with_reducible refine below_wov ?_ ?_ _) | (with_reducible refine below_drewN ?_ _) | (with_reducible refine Below.drew ?_) | (with_reducible refine Below.alloc ?_ ?_ _) | (with_reducible refine Below.setCell ?_ ?_ _) | (with_reducible exact Nat.le_refl _) | omega | (simp only [World.size_alloc, World.size_setCell, World.size_drew, Wov_size, World.heap_drewN]; omega))))
  · have hL : L.length ≤ 5000 := by omega
    obtain ⟨r, hr⟩ : ∃ r, r = printT L := ⟨_, rfl⟩
    obtain ⟨b, e0⟩ := r
    have P1 : Hid (∀ w' p c, Below w.heap.size w w' → SlZ w' p L → Calls Tryd.prog 7 #[.slice p L.length c] w' (Gives w' (.tuple #[.string (bs b), .int .i64 e0]))) := fun w' p c hb h => by
      have := print_any p c L w' h hF (by omega) (ht.below hb)
      rw [← hr] at this; exact this
    have P2 : Hid (∀ w', Below w.heap.size w w' → Calls Tryd.prog 8 #[.slice q L.length cq] w' (Gives w' (.tuple #[.string (bs b), .int .i64 e0]))) := fun w' hb => by
      have := print31_any q cq L w' (hS.below hb) hF (by omega)
      rw [← hr] at this; exact this
    have SM : Hid (∀ w' p c, Below w.heap.size w w' → SlZ w' p L → Calls Tryd.prog 9 #[.slice p L.length c, .slice q L.length cq] w' (Gives w' (.bool true))) := fun w' p c hb h => by
      have := same31_any p q c cq L L w' h (hS.below hb) (by omega) (by omega)
      rwa [sameL_refl] at this
    have HS := Lib.hid hS
    have HQ := Lib.hid hQ
    have hbb : ((bs b).toList == (bs b).toList) = true := by simp
    obtain ⟨B, hB⟩ : ∃ B, B = bs b := ⟨_, rfl⟩
    rw [← hB] at P1 P2 hbb
    clear hS hF hQ ht hr hB
    go_enter Tryd.func3, Tryd.ntmps3
    go_wp2_with (at_builtin; refine wpList_appZ _ w.heap.size rfl (.const (.slice none 0 0)) (.tmp 11) rfl rfl (.slice none 0 0) [] L rfl (World.ownsRow_nil _ _ _ _) q cq rfl HQ.out HS.out (by simp; omega) (Nat.le_refl _) ?_; intro v1 w1 ho1 hg1; have hw1 : Below w.heap.size w w1 := row_grown0 hg1; rw [List.nil_append] at ho1; obtain ⟨p1, c1, rfl, _, ho⟩ := ownZ_of_row (w := w) ho1 (Nat.le_refl _); have s1 := ho.slz; have hs1 := hw1.size; clear ho1 hg1 ho)
    refine (P1.out _ p1 c1 (by (repeat' (first | (with_reducible assumption) | (with_reducible exact Below.refl _ _) | (with_reducible refine below_wov ?_ ?_ _) | (with_reducible refine below_drewN ?_ _) | (with_reducible refine Below.drew ?_) | (with_reducible refine Below.alloc ?_ ?_ _) | (with_reducible refine Below.setCell ?_ ?_ _) | (with_reducible exact Nat.le_refl _) | omega | (simp only [World.size_alloc, World.size_setCell, World.size_drew, Wov_size, World.heap_drewN]; omega)))) s1).mono ?_; rintro e w' ⟨rfl, q1, rfl⟩
    go_wp2_with (fail)
    refine (P2.out _ (by (repeat' (first | (with_reducible assumption) | (with_reducible exact Below.refl _ _) | (with_reducible refine below_wov ?_ ?_ _) | (with_reducible refine below_drewN ?_ _) | (with_reducible refine Below.drew ?_) | (with_reducible refine Below.alloc ?_ ?_ _) | (with_reducible refine Below.setCell ?_ ?_ _) | (with_reducible exact Nat.le_refl _) | omega | (simp only [World.size_alloc, World.size_setCell, World.size_drew, Wov_size, World.heap_drewN]; omega))))).mono ?_; rintro e w' ⟨rfl, q2, rfl⟩
    go_wp2_with (fail)
    refine (SM.out _ p1 c1 (by (repeat' (first | (with_reducible assumption) | (with_reducible exact Below.refl _ _) | (with_reducible refine below_wov ?_ ?_ _) | (with_reducible refine below_drewN ?_ _) | (with_reducible refine Below.drew ?_) | (with_reducible refine Below.alloc ?_ ?_ _) | (with_reducible refine Below.setCell ?_ ?_ _) | (with_reducible exact Nat.le_refl _) | omega | (simp only [World.size_alloc, World.size_setCell, World.size_drew, Wov_size, World.heap_drewN]; omega)))) (s1.below (by (repeat' (first | (with_reducible assumption) | (with_reducible exact Below.refl _ _) | (with_reducible refine below_wov ?_ ?_ _) | (with_reducible refine below_drewN ?_ _) | (with_reducible refine Below.drew ?_) | (with_reducible refine Below.alloc ?_ ?_ _) | (with_reducible refine Below.setCell ?_ ?_ _) | (with_reducible exact Nat.le_refl _) | omega | (simp only [World.size_alloc, World.size_setCell, World.size_drew, Wov_size, World.heap_drewN]; omega)))))).mono ?_; rintro e w' ⟨rfl, q3, rfl⟩
    go_wp2
    all_goals
      go_ret
      exact gives_bool (by simp) (by (repeat' (first | (with_reducible assumption) | (with_reducible exact Below.refl _ _) | (with_reducible refine below_wov ?_ ?_ _) | (with_reducible refine below_drewN ?_ _) | (with_reducible refine Below.drew ?_) | (with_reducible refine Below.alloc ?_ ?_ _) | (with_reducible refine Below.setCell ?_ ?_ _) | (with_reducible exact Nat.le_refl _) | omega | (simp only [World.size_alloc, World.size_setCell, World.size_drew, Wov_size, World.heap_drewN]; omega))))
#print axioms walk
end Go.Proofs.YtpaomeilfmeheaaDoor.textPrints
