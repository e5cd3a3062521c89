/- tree.Names: may names be declared? No condition but on sizes, and what some package variables hold. -/
import Derived.Test.YtccbhblklhmcpaaGreatDoorQ21
import Derived.StringKeys
namespace Go.Proofs.YtccbhblklhmcpaaGreatDoor
set_option linter.unusedSimpArgs false
set_option linter.unusedVariables false
open Go Go.RowKit Go.Shelf
attribute [local go_sem] Nat.add_assoc Nat.add_lt_add_iff_left lit_lt_add

theorem name_key (x : List UInt8) (hx : x.length ≤ 140737488355328) : keyOf Tryz.prog 9 (.string (bs x)) = some (.string x) := by
  rw [Go.WideMaps.keyOf_string_mk Tryz.underlying9 (by rw [bs_size]; unfold maxLen; omega), bs_list]
theorem below_grownBy {w W V : World} {b : Nat} (h : Below w.heap.size w W) (hb : w.heap.size ≤ b) (hg : W.grownBy V (some b)) : Below w.heap.size w V :=
  ⟨hg.os.trans h.os, hg.tape.trans h.tape, hg.output.trans h.output, Nat.le_trans h.size hg.size, fun j hj => (hg.block j (Nat.lt_of_lt_of_le hj h.size) (by intro e; injection e with e; omega)).trans (h.block j hj)⟩
/-- What the closure hands back. -/
def oddC (w : World) (b : Nat) (N : List (List UInt8)) (x : List UInt8) (e : Ending) (W' : World) : Prop := e = .returned (.bool (decide (x ∈ N) || !mayName x)) ∧ Below w.heap.size w W' ∧ MapI W' b (N ++ [x])
set_option maxRecDepth 10000 in
set_option maxHeartbeats 4000000 in
theorem odd_any (w W : World) (b : Nat) (N : List (List UInt8)) (x : List UInt8) (hM : MapI W b N) (hB : Below w.heap.size w W) (hb : w.heap.size ≤ b) (hL : Laid w) (hx : x.length ≤ 140737488355328) (hN : N.length ≤ 100000) :
    Calls Tryz.prog 19 #[.string (bs x), .pointer (some ⟨b + 1, 0, none⟩)] W (oddC w b N x) := by
  have hbox := hM.box
  have hlt := hM.lt
  have HM := Lib.hid hM
  have hkey := name_key x hx
  have LN : Hid (∀ w', Below w.heap.size w w' → Calls Tryz.prog 20 #[.string (bs x)] w' (Gives w' (.bool (mayName x)))) := fun w' h => lname_any x hx w' (hL.below h)
  have hat := known_at N x
  have hval : plainElem (H := Unit) Tryz.prog 3 (.int .i64 1) = some (.lit (.int .i64 1), []) := plainElem_int Tryz.underlying3 (by decide)
  have HK := Lib.hid hkey
  have HV := Lib.hid hval
  obtain ⟨S, hS⟩ : ∃ S, S = bs x := ⟨_, rfl⟩
  rw [← hS] at LN HK ⊢
  unfold oddC
  have hnn : N.length < maxLen := by unfold maxLen; omega
  have HNN := Lib.hid hnn
  clear hM hS hkey hval hL hx hN hnn
  by_cases hm : x ∈ N
  · rw [if_pos hm] at hat
    have HAT := Lib.hid hat
    rw [decide_eq_true hm, Bool.true_or]
    clear hm hat
    go_enter Tryz.func19, Tryz.ntmps19
    go_wp2_with (first
      | (at_lookup; refine wpList_lookup_own_int _ rfl _ _ _ rfl 9 3 .i64 (Go.Maps.string_keyed Tryz.underlying9) Tryz.underlying56 Tryz.underlying3 (Tryz.zeroValue3 _) b N.length (knownD N) rfl HM.out.own (.string S) (.string x) rfl HK.out ?_; intro c hc _; rw [HAT.out] at hc; injection hc with hc; injection hc with _ hc; subst hc)
      | (at_mapUpdate; refine wpList_mapUpdate_own _ rfl _ _ _ _ rfl 9 3 (Go.Maps.string_keyed Tryz.underlying9) Tryz.underlying56 (plainElem Tryz.prog 3) b N.length (knownD N) rfl HM.out.own HNN.out (.string S) (.int .i64 1) (.string x) rfl rfl HK.out (.lit (.int .i64 1)) [] HV.out ?_; intro w1 ho1 hg1; have hB1 := below_grownBy hB hb hg1; have hM1 : MapI w1 b (N ++ [x]) := (by rw [← known_app] at ho1; exact HM.out.put (by rw [List.length_append]; exact ho1) hg1); have HM1 := Lib.hid hM1; clear ho1 hg1 hM1))
    go_ret
    exact ⟨rfl, hB1, HM1.out⟩
  · rw [if_neg hm] at hat
    have HAT := Lib.hid hat
    rw [decide_eq_false hm, Bool.false_or]
    obtain ⟨m, hmm⟩ : ∃ m, m = mayName x := ⟨_, rfl⟩
    rw [← hmm] at LN ⊢
    clear hm hat hmm
    go_enter Tryz.func19, Tryz.ntmps19
    go_wp2_with (first
      | (at_lookup; refine wpList_lookup_own_int _ rfl _ _ _ rfl 9 3 .i64 (Go.Maps.string_keyed Tryz.underlying9) Tryz.underlying56 Tryz.underlying3 (Tryz.zeroValue3 _) b N.length (knownD N) rfl HM.out.own (.string S) (.string x) rfl HK.out ?_; intro c hc _; rw [HAT.out] at hc; injection hc with hc; injection hc with _ hc; subst hc)
      | (at_mapUpdate; refine wpList_mapUpdate_own _ rfl _ _ _ _ rfl 9 3 (Go.Maps.string_keyed Tryz.underlying9) Tryz.underlying56 (plainElem Tryz.prog 3) b N.length (knownD N) rfl HM.out.own HNN.out (.string S) (.int .i64 1) (.string x) rfl rfl HK.out (.lit (.int .i64 1)) [] HV.out ?_; intro w1 ho1 hg1; have hB1 := below_grownBy hB hb hg1; have hs1 := hB1.size; have hM1 : MapI w1 b (N ++ [x]) := (by rw [← known_app] at ho1; exact HM.out.put (by rw [List.length_append]; exact ho1) hg1); have HM1 := Lib.hid hM1; clear ho1 hg1 hM1))
    refine (LN.out _ (by (repeat' (first | (with_reducible assumption) | (with_reducible exact Below.refl _ _) | (with_reducible refine below_wov ?_ ?_ _) | (with_reducible refine below_drewN ?_ _) | (with_reducible refine Below.drew ?_) | (with_reducible refine Below.alloc ?_ ?_ _) | (with_reducible refine Below.setCell ?_ ?_ _) | (with_reducible exact Nat.le_refl _) | omega | (simp only [World.size_alloc, World.size_setCell, World.size_drew, Wov_size, World.heap_drewN]; omega))))).mono ?_; rintro e w' ⟨rfl, q2, rfl⟩
    go_wp2_with (fail)
    all_goals
      go_ret
      exact ⟨rfl, by (repeat' (first | (with_reducible assumption) | (with_reducible exact Below.refl _ _) | (with_reducible refine below_wov ?_ ?_ _) | (with_reducible refine below_drewN ?_ _) | (with_reducible refine Below.drew ?_) | (with_reducible refine Below.alloc ?_ ?_ _) | (with_reducible refine Below.setCell ?_ ?_ _) | (with_reducible exact Nat.le_refl _) | omega | (simp only [World.size_alloc, World.size_setCell, World.size_drew, Wov_size, World.heap_drewN]; omega))), HM1.out.below (below_Wov w1 q2)⟩
#print axioms odd_any
end Go.Proofs.YtccbhblklhmcpaaGreatDoor
