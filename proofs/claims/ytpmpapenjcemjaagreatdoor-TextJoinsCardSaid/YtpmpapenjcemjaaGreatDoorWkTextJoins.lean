/- The law TextJoins (walk): the text of two lists, one behind the other, is that of both. No condition but that the table of powers and strconv.ErrRange lie as they are laid. -/
import Derived.Test.YtpmpapenjcemjaaGreatDoorY1
import Derived.Test.YtpmpapenjcemjaaGreatDoorB3
import Derived.Test.YtpmpapenjcemjaaGreatDoorFrame2
namespace Go.Proofs.YtpmpapenjcemjaaGreatDoor.textJoins
open Go.ChangeShapes Go.WideShapes Go.ChangeAt Go.RowKit
set_option linter.unusedVariables false
set_option linter.unusedSimpArgs false
attribute [local go_sem] Nat.add_assoc Nat.add_lt_add_iff_left lit_lt_add

theorem row_grownJ {W V : World} (hg : W.grownBy V (Value.slice none 0 0).ownBlock) : Below W.heap.size W V := ⟨hg.os, hg.tape, hg.output, hg.size, fun k hk => hg.block k hk (fun e => by simp [Value.ownBlock] at e)⟩
set_option maxRecDepth 100000 in
set_option maxHeartbeats 4000000 in
theorem walk (q : Option Addr) (cq : Nat) (L : List (Nat → Int)) (p : Option Addr) (cp : Nat) (M : List (Nat → Int)) (w : World) (hS : SlZ w q L) (hF : ∀ z, z ∈ L → FitsZ z) (hN : L.length ≤ maxLen) (hQ : q = none → cq = 0) (hM : SlZ w p M) (hG : ∀ z, z ∈ M → FitsZ z) (hN2 : M.length ≤ maxLen) (hP : p = none → cp = 0) (ht : Tab w) (hv : ErrR w) :
    Calls Tryz.prog 7 #[.slice q L.length cq, .slice p M.length cp] w (Gives w (.bool true)) := by
  unfold maxLen at hN hN2
  have AL := Lib.hid (alive31 w ht hv)
  by_cases h1 : 2000 < L.length ∨ 2000 < M.length
  · obtain ⟨n, hn⟩ : ∃ n, n = L.length := ⟨_, rfl⟩
    obtain ⟨m, hm⟩ : ∃ n, n = M.length := ⟨_, rfl⟩
    rw [← hn, ← hm] at h1 ⊢
    clear hS hF hN hQ hM hG hN2 hP ht hv hn hm
    by_cases h2 : 2000 < n
    · have d1 : decide ((2000 : Int) < (n : Int)) = true := decide_eq_true (by omega)
      clear h1
      go_enter Tryz.func7, Tryz.ntmps7
      go_wp2_with (fail)
      refine AL.out.mono ?_; rintro e w' ⟨rfl, q1, rfl⟩
      go_wp2
      all_goals
        go_ret
        exact gives_bool rfl (by (repeat' (first | (with_reducible assumption) | (with_reducible exact Below.refl _ _) | (with_reducible refine below_wov ?_ ?_ _) | (with_reducible refine below_drewN ?_ _) | (with_reducible refine Below.drew ?_) | (with_reducible refine Below.alloc ?_ ?_ _) | (with_reducible refine Below.setCell ?_ ?_ _) | (with_reducible exact Nat.le_refl _) | omega | (simp only [World.size_alloc, World.size_setCell, World.size_drew, Wov_size, World.heap_drewN]; omega))))
    · have d1 : decide ((2000 : Int) < (n : Int)) = false := decide_eq_false (by omega)
      have d2 : decide ((2000 : Int) < (m : Int)) = true := decide_eq_true (by omega)
      clear h1
      go_enter Tryz.func7, Tryz.ntmps7
      go_wp2_with (fail)
      refine AL.out.mono ?_; rintro e w' ⟨rfl, q1, rfl⟩
      go_wp2
      all_goals
        go_ret
        exact gives_bool rfl (by (repeat' (first | (with_reducible assumption) | (with_reducible exact Below.refl _ _) | (with_reducible refine below_wov ?_ ?_ _) | (with_reducible refine below_drewN ?_ _) | (with_reducible refine Below.drew ?_) | (with_reducible refine Below.alloc ?_ ?_ _) | (with_reducible refine Below.setCell ?_ ?_ _) | (with_reducible exact Nat.le_refl _) | omega | (simp only [World.size_alloc, World.size_setCell, World.size_drew, Wov_size, World.heap_drewN]; omega))))
  · have hL : L.length ≤ 2000 := by omega
    have hL2 : M.length ≤ 2000 := by omega
    have d1 : decide ((2000 : Int) < (L.length : Int)) = false := decide_eq_false (by omega)
    have d2 : decide ((2000 : Int) < (M.length : Int)) = false := decide_eq_false (by omega)
    obtain ⟨r, hr⟩ : ∃ r, r = printT L := ⟨_, rfl⟩
    obtain ⟨b, e0⟩ := r
    obtain ⟨r2, hr2⟩ : ∃ r, r = printT M := ⟨_, rfl⟩
    obtain ⟨c, f0⟩ := r2
    obtain ⟨r3, hr3⟩ : ∃ r, r = printT (L ++ M) := ⟨_, rfl⟩
    obtain ⟨u, g0⟩ := r3
    have P1 : Hid (∀ w', Below w.heap.size w w' → Calls Tryz.prog 19 #[.slice q L.length cq] w' (Gives w' (.tuple #[.string (bs b), .int .i64 e0]))) := fun w' hb => by
      have := print_any q cq L w' (hS.below hb) hF (by omega) (ht.below hb)
      rw [← hr] at this; exact this
    have P2 : Hid (∀ w', Below w.heap.size w w' → Calls Tryz.prog 19 #[.slice p M.length cp] w' (Gives w' (.tuple #[.string (bs c), .int .i64 f0]))) := fun w' hb => by
      have := print_any p cp M w' (hM.below hb) hG (by omega) (ht.below hb)
      rw [← hr2] at this; exact this
    obtain ⟨C, hC⟩ : ∃ C, C = L ++ M := ⟨_, rfl⟩
    have HC : Hid (L ++ M = C) := hC.symm
    have P3 : Hid (∀ w' p2 c2, Below w.heap.size w w' → SlZ w' p2 C → Calls Tryz.prog 19 #[.slice p2 C.length c2] w' (Gives w' (.tuple #[.string (bs u), .int .i64 g0]))) := fun w' p2 c2 hb hp => by
      subst hC
      have := print_any p2 c2 (L ++ M) w' hp (fun z hz => by
        rcases List.mem_append.1 hz with hz | hz
        · exact hF z hz
        · exact hG z hz) (by rw [List.length_append]; omega) (ht.below hb)
      rw [← hr3] at this; exact this
    have SM : Hid (∀ w', Below w.heap.size w w' → Calls Tryz.prog 17 #[.slice q L.length cq, .slice p M.length cp] w' (Gives w' (.bool (sameL L M)))) := fun w' hb => same31_any q p cq cp L M w' (hS.below hb) (hM.below hb) (by omega) (by omega)
    have HS := Lib.hid hS
    have HM := Lib.hid hM
    have HQ := Lib.hid hQ
    have HP := Lib.hid hP
    by_cases hz : e0 = 0 ∧ f0 = 0
    · obtain ⟨rfl, rfl⟩ := hz
      have z1 : (printT L).2 = 0 := by rw [← hr]
      have z2 : (printT M).2 = 0 := by rw [← hr2]
      have hj := joins_ok hL hL2 z1 z2
      have ha := texts_apart z1 z2
      rw [← hr3, ← hr, ← hr2] at hj
      rw [← hr, ← hr2] at ha
      simp only [Prod.mk.injEq] at hj ha
      obtain ⟨hu, rfl⟩ := hj
      have zb : (bs b).size ≤ 600000 := by
        rw [bs_size]; have := print_len L; rw [← hr] at this; exact this
      have zc : (bs c).size ≤ 600000 := by
        rw [bs_size]; have := print_len M; rw [← hr2] at this; exact this
      have eq1 : ((bs b).toList == (bs c).toList) = sameL L M := by
        rw [Lib.toList_data, Lib.toList_data, bs_list, bs_list, Bool.eq_iff_iff, beq_iff_eq]; exact ha
      have eq3 : decide (bs b = bs c) = sameL L M := by
        rw [Bool.eq_iff_iff, decide_eq_true_eq]
        refine ⟨fun h => ha.1 ?_, fun h => by rw [ha.2 h]⟩
        have := congrArg (fun x : ByteArray => x.data.toList) h
        simpa using this
      have n1 : (0 : Int) ≤ (L.length : Int) := by omega
      by_cases hne : L = [] ∨ M = []
      · rw [if_pos hne] at hu
        have hub : bs u = bs b ++ bs c := by rw [bs_app, hu]
        have hd : decide ((0 : Int) < (L.length : Int)) = false ∨ (decide ((0 : Int) < (L.length : Int)) = true ∧ decide ((0 : Int) < (M.length : Int)) = false) := by
          rcases hne with rfl | rfl
          · exact .inl rfl
          · by_cases h : (0 : Int) < (L.length : Int)
            · exact .inr ⟨decide_eq_true h, rfl⟩
            · exact .inl (decide_eq_false h)
        rw [hub] at P3
        obtain ⟨X, hX⟩ : ∃ X, X = sameL L M := ⟨_, rfl⟩
        rw [← hX] at SM eq1 eq3
        obtain ⟨S, hSS⟩ : ∃ S, S = bs b := ⟨_, rfl⟩
        obtain ⟨T, hTT⟩ : ∃ T, T = bs c := ⟨_, rfl⟩
        rw [← hSS] at P1 P3 zb eq1 eq3
        rw [← hTT] at P2 P3 zc eq1 eq3
        have k1 : ¬ 9223372036854775807 < S.size + T.size := by omega
        clear hS hF hQ hM hG hP ht hv hr hr2 hr3 hC z1 z2 ha hu hne hub hX hSS hTT h1 hN hN2
        rcases hd with hd | ⟨hd, hd2⟩
        · have e1 : ¬ 0 < L.length := by have := of_decide_eq_false hd; omega
          have e2 : decide (0 < L.length) = false := decide_eq_false e1
          go_enter Tryz.func7, Tryz.ntmps7
          go_wp2_with (fail)
          refine AL.out.mono ?_; rintro e w' ⟨rfl, q1, rfl⟩
          go_wp2_with (fail)
          refine (P1.out _ (by (repeat' (first | (with_reducible assumption) | (with_reducible exact Below.refl _ _) | (with_reducible refine below_wov ?_ ?_ _) | (with_reducible refine below_drewN ?_ _) | (with_reducible refine Below.drew ?_) | (with_reducible refine Below.alloc ?_ ?_ _) | (with_reducible refine Below.setCell ?_ ?_ _) | (with_reducible exact Nat.le_refl _) | omega | (simp only [World.size_alloc, World.size_setCell, World.size_drew, Wov_size, World.heap_drewN]; omega))))).mono ?_; rintro e w' ⟨rfl, q2, rfl⟩
          go_wp2_with (fail)
          refine (P2.out _ (by (repeat' (first | (with_reducible assumption) | (with_reducible exact Below.refl _ _) | (with_reducible refine below_wov ?_ ?_ _) | (with_reducible refine below_drewN ?_ _) | (with_reducible refine Below.drew ?_) | (with_reducible refine Below.alloc ?_ ?_ _) | (with_reducible refine Below.setCell ?_ ?_ _) | (with_reducible exact Nat.le_refl _) | omega | (simp only [World.size_alloc, World.size_setCell, World.size_drew, Wov_size, World.heap_drewN]; omega))))).mono ?_; rintro e w' ⟨rfl, q3, rfl⟩
          go_wp2_with (first
            | (at_builtin; refine wpList_appZ _ w.heap.size rfl (.const (.slice none 0 0)) (.tmp 38) rfl rfl (.slice none 0 0) [] L rfl (World.ownsRow_nil _ _ _ _) q cq rfl HQ.out (HS.out.below (by (repeat' (first | (with_reducible assumption) | (with_reducible exact Below.refl _ _) | (with_reducible refine below_wov ?_ ?_ _) | (with_reducible refine below_drewN ?_ _) | (with_reducible refine Below.drew ?_) | (with_reducible refine Below.alloc ?_ ?_ _) | (with_reducible refine Below.setCell ?_ ?_ _) | (with_reducible exact Nat.le_refl _) | omega | (simp only [World.size_alloc, World.size_setCell, World.size_drew, Wov_size, World.heap_drewN]; omega))))) (by simp; omega) (by (first | omega | ((simp only [World.size_alloc, World.size_setCell, World.size_drew, Wov_size, World.heap_drewN, Array.size_append]) <;> omega))) ?_; intro v1 w1 ho1 hg1; have hx1 := rowS_grown (n := w.heap.size) (e := 49) (s := 6) (k := 0) (xs := []) (World.ownsRow_nil _ _ _ _) (Below.refl _ _) hg1 (by (first | omega | ((simp only [World.size_alloc, World.size_setCell, World.size_drew, Wov_size, World.heap_drewN, Array.size_append]) <;> omega))); have hw1 : Below w.heap.size w w1 := (by refine Below.trans ?_ hx1; (repeat' (first | (with_reducible assumption) | (with_reducible exact Below.refl _ _) | (with_reducible refine below_wov ?_ ?_ _) | (with_reducible refine below_drewN ?_ _) | (with_reducible refine Below.drew ?_) | (with_reducible refine Below.alloc ?_ ?_ _) | (with_reducible refine Below.setCell ?_ ?_ _) | (with_reducible exact Nat.le_refl _) | omega | (simp only [World.size_alloc, World.size_setCell, World.size_drew, Wov_size, World.heap_drewN]; omega)))); rw [List.nil_append] at ho1; have hs1 := hw1.size; have HO1 := Lib.hid ho1; clear ho1 hg1 hx1)
            | (at_builtin; refine wpList_appZ _ w.heap.size rfl (.tmp 39) (.tmp 40) rfl rfl v1 L M rfl (rowS_below HO1.out (by (repeat' (first | (with_reducible assumption) | (with_reducible exact Below.refl _ _) | (with_reducible refine below_wov ?_ ?_ _) | (with_reducible refine below_drewN ?_ _) | (with_reducible refine Below.drew ?_) | (with_reducible refine Below.alloc ?_ ?_ _) | (with_reducible refine Below.setCell ?_ ?_ _) | (with_reducible exact Nat.le_refl _) | omega | (simp only [World.size_alloc, World.size_setCell, World.size_drew, Wov_size, World.heap_drewN]; omega))))) p cp rfl HP.out (HM.out.below (by (repeat' (first | (with_reducible assumption) | (with_reducible exact Below.refl _ _) | (with_reducible refine below_wov ?_ ?_ _) | (with_reducible refine below_drewN ?_ _) | (with_reducible refine Below.drew ?_) | (with_reducible refine Below.alloc ?_ ?_ _) | (with_reducible refine Below.setCell ?_ ?_ _) | (with_reducible exact Nat.le_refl _) | omega | (simp only [World.size_alloc, World.size_setCell, World.size_drew, Wov_size, World.heap_drewN]; omega))))) (by omega) (by (first | omega | ((simp only [World.size_alloc, World.size_setCell, World.size_drew, Wov_size, World.heap_drewN, Array.size_append]) <;> omega))) ?_; intro v2 w2 ho2 hg2; rw [HC.out] at ho2; have hx2 := rowS_grown (n := w.heap.size) (rowS_below HO1.out (by (repeat' (first | (with_reducible assumption) | (with_reducible exact Below.refl _ _) | (with_reducible refine below_wov ?_ ?_ _) | (with_reducible refine below_drewN ?_ _) | (with_reducible refine Below.drew ?_) | (with_reducible refine Below.alloc ?_ ?_ _) | (with_reducible refine Below.setCell ?_ ?_ _) | (with_reducible exact Nat.le_refl _) | omega | (simp only [World.size_alloc, World.size_setCell, World.size_drew, Wov_size, World.heap_drewN]; omega))))) (Below.refl _ _) hg2 (by (first | omega | ((simp only [World.size_alloc, World.size_setCell, World.size_drew, Wov_size, World.heap_drewN, Array.size_append]) <;> omega))); have hw2 : Below w.heap.size w w2 := (by refine Below.trans ?_ hx2; (repeat' (first | (with_reducible assumption) | (with_reducible exact Below.refl _ _) | (with_reducible refine below_wov ?_ ?_ _) | (with_reducible refine below_drewN ?_ _) | (with_reducible refine Below.drew ?_) | (with_reducible refine Below.alloc ?_ ?_ _) | (with_reducible refine Below.setCell ?_ ?_ _) | (with_reducible exact Nat.le_refl _) | omega | (simp only [World.size_alloc, World.size_setCell, World.size_drew, Wov_size, World.heap_drewN]; omega)))); obtain ⟨p2, c2, rfl, _, ho⟩ := ownZ_of_row (w := w) ho2 (Nat.le_refl _); have s2 := ho.slz; have hs2 := hw2.size; clear ho2 hg2 hx2 ho))
          refine (P3.out _ p2 c2 (by (repeat' (first | (with_reducible assumption) | (with_reducible exact Below.refl _ _) | (with_reducible refine below_wov ?_ ?_ _) | (with_reducible refine below_drewN ?_ _) | (with_reducible refine Below.drew ?_) | (with_reducible refine Below.alloc ?_ ?_ _) | (with_reducible refine Below.setCell ?_ ?_ _) | (with_reducible exact Nat.le_refl _) | omega | (simp only [World.size_alloc, World.size_setCell, World.size_drew, Wov_size, World.heap_drewN]; omega)))) (s2.below (by (repeat' (first | (with_reducible assumption) | (with_reducible exact Below.refl _ _) | (with_reducible refine below_wov ?_ ?_ _) | (with_reducible refine below_drewN ?_ _) | (with_reducible refine Below.drew ?_) | (with_reducible refine Below.alloc ?_ ?_ _) | (with_reducible refine Below.setCell ?_ ?_ _) | (with_reducible exact Nat.le_refl _) | omega | (simp only [World.size_alloc, World.size_setCell, World.size_drew, Wov_size, World.heap_drewN]; omega)))))).mono ?_; rintro e w' ⟨rfl, q4, rfl⟩
          go_wp2_with (fail)
          refine (SM.out _ (by (repeat' (first | (with_reducible assumption) | (with_reducible exact Below.refl _ _) | (with_reducible refine below_wov ?_ ?_ _) | (with_reducible refine below_drewN ?_ _) | (with_reducible refine Below.drew ?_) | (with_reducible refine Below.alloc ?_ ?_ _) | (with_reducible refine Below.setCell ?_ ?_ _) | (with_reducible exact Nat.le_refl _) | omega | (simp only [World.size_alloc, World.size_setCell, World.size_drew, Wov_size, World.heap_drewN]; omega))))).mono ?_; rintro e w' ⟨rfl, q5, rfl⟩
          go_wp2
          all_goals
            go_ret
            exact gives_bool (by simp) (by (repeat' (first | (with_reducible assumption) | (with_reducible exact Below.refl _ _) | (with_reducible refine below_wov ?_ ?_ _) | (with_reducible refine below_drewN ?_ _) | (with_reducible refine Below.drew ?_) | (with_reducible refine Below.alloc ?_ ?_ _) | (with_reducible refine Below.setCell ?_ ?_ _) | (with_reducible exact Nat.le_refl _) | omega | (simp only [World.size_alloc, World.size_setCell, World.size_drew, Wov_size, World.heap_drewN]; omega))))
        · have e1 : 0 < L.length := by have := of_decide_eq_true hd; omega
          have e2 : decide (0 < L.length) = true := decide_eq_true e1
          have e3 : ¬ 0 < M.length := by have := of_decide_eq_false hd2; omega
          have e4 : decide (0 < M.length) = false := decide_eq_false e3
          go_enter Tryz.func7, Tryz.ntmps7
          go_wp2_with (fail)
          refine AL.out.mono ?_; rintro e w' ⟨rfl, q1, rfl⟩
          go_wp2_with (fail)
          refine (P1.out _ (by (repeat' (first | (with_reducible assumption) | (with_reducible exact Below.refl _ _) | (with_reducible refine below_wov ?_ ?_ _) | (with_reducible refine below_drewN ?_ _) | (with_reducible refine Below.drew ?_) | (with_reducible refine Below.alloc ?_ ?_ _) | (with_reducible refine Below.setCell ?_ ?_ _) | (with_reducible exact Nat.le_refl _) | omega | (simp only [World.size_alloc, World.size_setCell, World.size_drew, Wov_size, World.heap_drewN]; omega))))).mono ?_; rintro e w' ⟨rfl, q2, rfl⟩
          go_wp2_with (fail)
          refine (P2.out _ (by (repeat' (first | (with_reducible assumption) | (with_reducible exact Below.refl _ _) | (with_reducible refine below_wov ?_ ?_ _) | (with_reducible refine below_drewN ?_ _) | (with_reducible refine Below.drew ?_) | (with_reducible refine Below.alloc ?_ ?_ _) | (with_reducible refine Below.setCell ?_ ?_ _) | (with_reducible exact Nat.le_refl _) | omega | (simp only [World.size_alloc, World.size_setCell, World.size_drew, Wov_size, World.heap_drewN]; omega))))).mono ?_; rintro e w' ⟨rfl, q3, rfl⟩
          go_wp2_with (first
            | (at_builtin; refine wpList_appZ _ w.heap.size rfl (.const (.slice none 0 0)) (.tmp 38) rfl rfl (.slice none 0 0) [] L rfl (World.ownsRow_nil _ _ _ _) q cq rfl HQ.out (HS.out.below (by (repeat' (first | (with_reducible assumption) | (with_reducible exact Below.refl _ _) | (with_reducible refine below_wov ?_ ?_ _) | (with_reducible refine below_drewN ?_ _) | (with_reducible refine Below.drew ?_) | (with_reducible refine Below.alloc ?_ ?_ _) | (with_reducible refine Below.setCell ?_ ?_ _) | (with_reducible exact Nat.le_refl _) | omega | (simp only [World.size_alloc, World.size_setCell, World.size_drew, Wov_size, World.heap_drewN]; omega))))) (by simp; omega) (by (first | omega | ((simp only [World.size_alloc, World.size_setCell, World.size_drew, Wov_size, World.heap_drewN, Array.size_append]) <;> omega))) ?_; intro v1 w1 ho1 hg1; have hx1 := rowS_grown (n := w.heap.size) (e := 49) (s := 6) (k := 0) (xs := []) (World.ownsRow_nil _ _ _ _) (Below.refl _ _) hg1 (by (first | omega | ((simp only [World.size_alloc, World.size_setCell, World.size_drew, Wov_size, World.heap_drewN, Array.size_append]) <;> omega))); have hw1 : Below w.heap.size w w1 := (by refine Below.trans ?_ hx1; (repeat' (first | (with_reducible assumption) | (with_reducible exact Below.refl _ _) | (with_reducible refine below_wov ?_ ?_ _) | (with_reducible refine below_drewN ?_ _) | (with_reducible refine Below.drew ?_) | (with_reducible refine Below.alloc ?_ ?_ _) | (with_reducible refine Below.setCell ?_ ?_ _) | (with_reducible exact Nat.le_refl _) | omega | (simp only [World.size_alloc, World.size_setCell, World.size_drew, Wov_size, World.heap_drewN]; omega)))); rw [List.nil_append] at ho1; have hs1 := hw1.size; have HO1 := Lib.hid ho1; clear ho1 hg1 hx1)
            | (at_builtin; refine wpList_appZ _ w.heap.size rfl (.tmp 39) (.tmp 40) rfl rfl v1 L M rfl (rowS_below HO1.out (by (repeat' (first | (with_reducible assumption) | (with_reducible exact Below.refl _ _) | (with_reducible refine below_wov ?_ ?_ _) | (with_reducible refine below_drewN ?_ _) | (with_reducible refine Below.drew ?_) | (with_reducible refine Below.alloc ?_ ?_ _) | (with_reducible refine Below.setCell ?_ ?_ _) | (with_reducible exact Nat.le_refl _) | omega | (simp only [World.size_alloc, World.size_setCell, World.size_drew, Wov_size, World.heap_drewN]; omega))))) p cp rfl HP.out (HM.out.below (by (repeat' (first | (with_reducible assumption) | (with_reducible exact Below.refl _ _) | (with_reducible refine below_wov ?_ ?_ _) | (with_reducible refine below_drewN ?_ _) | (with_reducible refine Below.drew ?_) | (with_reducible refine Below.alloc ?_ ?_ _) | (with_reducible refine Below.setCell ?_ ?_ _) | (with_reducible exact Nat.le_refl _) | omega | (simp only [World.size_alloc, World.size_setCell, World.size_drew, Wov_size, World.heap_drewN]; omega))))) (by omega) (by (first | omega | ((simp only [World.size_alloc, World.size_setCell, World.size_drew, Wov_size, World.heap_drewN, Array.size_append]) <;> omega))) ?_; intro v2 w2 ho2 hg2; rw [HC.out] at ho2; have hx2 := rowS_grown (n := w.heap.size) (rowS_below HO1.out (by (repeat' (first | (with_reducible assumption) | (with_reducible exact Below.refl _ _) | (with_reducible refine below_wov ?_ ?_ _) | (with_reducible refine below_drewN ?_ _) | (with_reducible refine Below.drew ?_) | (with_reducible refine Below.alloc ?_ ?_ _) | (with_reducible refine Below.setCell ?_ ?_ _) | (with_reducible exact Nat.le_refl _) | omega | (simp only [World.size_alloc, World.size_setCell, World.size_drew, Wov_size, World.heap_drewN]; omega))))) (Below.refl _ _) hg2 (by (first | omega | ((simp only [World.size_alloc, World.size_setCell, World.size_drew, Wov_size, World.heap_drewN, Array.size_append]) <;> omega))); have hw2 : Below w.heap.size w w2 := (by refine Below.trans ?_ hx2; (repeat' (first | (with_reducible assumption) | (with_reducible exact Below.refl _ _) | (with_reducible refine below_wov ?_ ?_ _) | (with_reducible refine below_drewN ?_ _) | (with_reducible refine Below.drew ?_) | (with_reducible refine Below.alloc ?_ ?_ _) | (with_reducible refine Below.setCell ?_ ?_ _) | (with_reducible exact Nat.le_refl _) | omega | (simp only [World.size_alloc, World.size_setCell, World.size_drew, Wov_size, World.heap_drewN]; omega)))); obtain ⟨p2, c2, rfl, _, ho⟩ := ownZ_of_row (w := w) ho2 (Nat.le_refl _); have s2 := ho.slz; have hs2 := hw2.size; clear ho2 hg2 hx2 ho))
          refine (P3.out _ p2 c2 (by (repeat' (first | (with_reducible assumption) | (with_reducible exact Below.refl _ _) | (with_reducible refine below_wov ?_ ?_ _) | (with_reducible refine below_drewN ?_ _) | (with_reducible refine Below.drew ?_) | (with_reducible refine Below.alloc ?_ ?_ _) | (with_reducible refine Below.setCell ?_ ?_ _) | (with_reducible exact Nat.le_refl _) | omega | (simp only [World.size_alloc, World.size_setCell, World.size_drew, Wov_size, World.heap_drewN]; omega)))) (s2.below (by (repeat' (first | (with_reducible assumption) | (with_reducible exact Below.refl _ _) | (with_reducible refine below_wov ?_ ?_ _) | (with_reducible refine below_drewN ?_ _) | (with_reducible refine Below.drew ?_) | (with_reducible refine Below.alloc ?_ ?_ _) | (with_reducible refine Below.setCell ?_ ?_ _) | (with_reducible exact Nat.le_refl _) | omega | (simp only [World.size_alloc, World.size_setCell, World.size_drew, Wov_size, World.heap_drewN]; omega)))))).mono ?_; rintro e w' ⟨rfl, q4, rfl⟩
          go_wp2_with (fail)
          refine (SM.out _ (by (repeat' (first | (with_reducible assumption) | (with_reducible exact Below.refl _ _) | (with_reducible refine below_wov ?_ ?_ _) | (with_reducible refine below_drewN ?_ _) | (with_reducible refine Below.drew ?_) | (with_reducible refine Below.alloc ?_ ?_ _) | (with_reducible refine Below.setCell ?_ ?_ _) | (with_reducible exact Nat.le_refl _) | omega | (simp only [World.size_alloc, World.size_setCell, World.size_drew, Wov_size, World.heap_drewN]; omega))))).mono ?_; rintro e w' ⟨rfl, q5, rfl⟩
          go_wp2
          all_goals
            go_ret
            exact gives_bool (by simp) (by (repeat' (first | (with_reducible assumption) | (with_reducible exact Below.refl _ _) | (with_reducible refine below_wov ?_ ?_ _) | (with_reducible refine below_drewN ?_ _) | (with_reducible refine Below.drew ?_) | (with_reducible refine Below.alloc ?_ ?_ _) | (with_reducible refine Below.setCell ?_ ?_ _) | (with_reducible exact Nat.le_refl _) | omega | (simp only [World.size_alloc, World.size_setCell, World.size_drew, Wov_size, World.heap_drewN]; omega))))
      · rw [if_neg hne] at hu
        have hub : bs u = bs b ++ ⟨#[32]⟩ ++ bs c := by
          rw [hu, ← bs_app, ← bs_app]
        have pL : 0 < L.length := by
          cases L with
          | nil => exact absurd (.inl rfl) hne
          | cons => simp
        have pM : 0 < M.length := by
          cases M with
          | nil => exact absurd (.inr rfl) hne
          | cons => simp
        have hd : decide ((0 : Int) < (L.length : Int)) = true := decide_eq_true (by omega)
        have hd2 : decide ((0 : Int) < (M.length : Int)) = true := decide_eq_true (by omega)
        have e2 : decide (0 < L.length) = true := decide_eq_true pL
        have e4 : decide (0 < M.length) = true := decide_eq_true pM
        rw [hub] at P3
        obtain ⟨X, hX⟩ : ∃ X, X = sameL L M := ⟨_, rfl⟩
        rw [← hX] at SM eq1 eq3
        obtain ⟨S, hSS⟩ : ∃ S, S = bs b := ⟨_, rfl⟩
        obtain ⟨T, hTT⟩ : ∃ T, T = bs c := ⟨_, rfl⟩
        rw [← hSS] at P1 P3 zb eq1 eq3
        rw [← hTT] at P2 P3 zc eq1 eq3
        have z32 : (ByteArray.mk #[32]).size = 1 := rfl
        have k1 : ¬ 9223372036854775807 < S.size + T.size := by omega
        have k2 : ¬ 9223372036854775807 < S.size + (ByteArray.mk #[32]).size := by omega
        have k3 : ¬ 9223372036854775807 < (S ++ ByteArray.mk #[32]).size + T.size := by rw [ByteArray.size_append]; omega
        have k4 : ¬ 9223372036854775807 < S.size + 1 := by omega
        have k5 : ¬ 9223372036854775807 < S.size + (1 + T.size) := by omega
        clear hS hF hQ hM hG hP ht hv hr hr2 hr3 hC z1 z2 ha hu hne hub hX hSS hTT h1 hN hN2 z32
        · go_enter Tryz.func7, Tryz.ntmps7
          go_wp2_with (fail)
          refine AL.out.mono ?_; rintro e w' ⟨rfl, q1, rfl⟩
          go_wp2_with (fail)
          refine (P1.out _ (by (repeat' (first | (with_reducible assumption) | (with_reducible exact Below.refl _ _) | (with_reducible refine below_wov ?_ ?_ _) | (with_reducible refine below_drewN ?_ _) | (with_reducible refine Below.drew ?_) | (with_reducible refine Below.alloc ?_ ?_ _) | (with_reducible refine Below.setCell ?_ ?_ _) | (with_reducible exact Nat.le_refl _) | omega | (simp only [World.size_alloc, World.size_setCell, World.size_drew, Wov_size, World.heap_drewN]; omega))))).mono ?_; rintro e w' ⟨rfl, q2, rfl⟩
          go_wp2_with (fail)
          refine (P2.out _ (by (repeat' (first | (with_reducible assumption) | (with_reducible exact Below.refl _ _) | (with_reducible refine below_wov ?_ ?_ _) | (with_reducible refine below_drewN ?_ _) | (with_reducible refine Below.drew ?_) | (with_reducible refine Below.alloc ?_ ?_ _) | (with_reducible refine Below.setCell ?_ ?_ _) | (with_reducible exact Nat.le_refl _) | omega | (simp only [World.size_alloc, World.size_setCell, World.size_drew, Wov_size, World.heap_drewN]; omega))))).mono ?_; rintro e w' ⟨rfl, q3, rfl⟩
          go_wp2_with (first
            | (at_builtin; refine wpList_appZ _ w.heap.size rfl (.const (.slice none 0 0)) (.tmp 38) rfl rfl (.slice none 0 0) [] L rfl (World.ownsRow_nil _ _ _ _) q cq rfl HQ.out (HS.out.below (by (repeat' (first | (with_reducible assumption) | (with_reducible exact Below.refl _ _) | (with_reducible refine below_wov ?_ ?_ _) | (with_reducible refine below_drewN ?_ _) | (with_reducible refine Below.drew ?_) | (with_reducible refine Below.alloc ?_ ?_ _) | (with_reducible refine Below.setCell ?_ ?_ _) | (with_reducible exact Nat.le_refl _) | omega | (simp only [World.size_alloc, World.size_setCell, World.size_drew, Wov_size, World.heap_drewN]; omega))))) (by simp; omega) (by (first | omega | ((simp only [World.size_alloc, World.size_setCell, World.size_drew, Wov_size, World.heap_drewN, Array.size_append]) <;> omega))) ?_; intro v1 w1 ho1 hg1; have hx1 := rowS_grown (n := w.heap.size) (e := 49) (s := 6) (k := 0) (xs := []) (World.ownsRow_nil _ _ _ _) (Below.refl _ _) hg1 (by (first | omega | ((simp only [World.size_alloc, World.size_setCell, World.size_drew, Wov_size, World.heap_drewN, Array.size_append]) <;> omega))); have hw1 : Below w.heap.size w w1 := (by refine Below.trans ?_ hx1; (repeat' (first | (with_reducible assumption) | (with_reducible exact Below.refl _ _) | (with_reducible refine below_wov ?_ ?_ _) | (with_reducible refine below_drewN ?_ _) | (with_reducible refine Below.drew ?_) | (with_reducible refine Below.alloc ?_ ?_ _) | (with_reducible refine Below.setCell ?_ ?_ _) | (with_reducible exact Nat.le_refl _) | omega | (simp only [World.size_alloc, World.size_setCell, World.size_drew, Wov_size, World.heap_drewN]; omega)))); rw [List.nil_append] at ho1; have hs1 := hw1.size; have HO1 := Lib.hid ho1; clear ho1 hg1 hx1)
            | (at_builtin; refine wpList_appZ _ w.heap.size rfl (.tmp 39) (.tmp 40) rfl rfl v1 L M rfl (rowS_below HO1.out (by (repeat' (first | (with_reducible assumption) | (with_reducible exact Below.refl _ _) | (with_reducible refine below_wov ?_ ?_ _) | (with_reducible refine below_drewN ?_ _) | (with_reducible refine Below.drew ?_) | (with_reducible refine Below.alloc ?_ ?_ _) | (with_reducible refine Below.setCell ?_ ?_ _) | (with_reducible exact Nat.le_refl _) | omega | (simp only [World.size_alloc, World.size_setCell, World.size_drew, Wov_size, World.heap_drewN]; omega))))) p cp rfl HP.out (HM.out.below (by (repeat' (first | (with_reducible assumption) | (with_reducible exact Below.refl _ _) | (with_reducible refine below_wov ?_ ?_ _) | (with_reducible refine below_drewN ?_ _) | (with_reducible refine Below.drew ?_) | (with_reducible refine Below.alloc ?_ ?_ _) | (with_reducible refine Below.setCell ?_ ?_ _) | (with_reducible exact Nat.le_refl _) | omega | (simp only [World.size_alloc, World.size_setCell, World.size_drew, Wov_size, World.heap_drewN]; omega))))) (by omega) (by (first | omega | ((simp only [World.size_alloc, World.size_setCell, World.size_drew, Wov_size, World.heap_drewN, Array.size_append]) <;> omega))) ?_; intro v2 w2 ho2 hg2; rw [HC.out] at ho2; have hx2 := rowS_grown (n := w.heap.size) (rowS_below HO1.out (by (repeat' (first | (with_reducible assumption) | (with_reducible exact Below.refl _ _) | (with_reducible refine below_wov ?_ ?_ _) | (with_reducible refine below_drewN ?_ _) | (with_reducible refine Below.drew ?_) | (with_reducible refine Below.alloc ?_ ?_ _) | (with_reducible refine Below.setCell ?_ ?_ _) | (with_reducible exact Nat.le_refl _) | omega | (simp only [World.size_alloc, World.size_setCell, World.size_drew, Wov_size, World.heap_drewN]; omega))))) (Below.refl _ _) hg2 (by (first | omega | ((simp only [World.size_alloc, World.size_setCell, World.size_drew, Wov_size, World.heap_drewN, Array.size_append]) <;> omega))); have hw2 : Below w.heap.size w w2 := (by refine Below.trans ?_ hx2; (repeat' (first | (with_reducible assumption) | (with_reducible exact Below.refl _ _) | (with_reducible refine below_wov ?_ ?_ _) | (with_reducible refine below_drewN ?_ _) | (with_reducible refine Below.drew ?_) | (with_reducible refine Below.alloc ?_ ?_ _) | (with_reducible refine Below.setCell ?_ ?_ _) | (with_reducible exact Nat.le_refl _) | omega | (simp only [World.size_alloc, World.size_setCell, World.size_drew, Wov_size, World.heap_drewN]; omega)))); obtain ⟨p2, c2, rfl, _, ho⟩ := ownZ_of_row (w := w) ho2 (Nat.le_refl _); have s2 := ho.slz; have hs2 := hw2.size; clear ho2 hg2 hx2 ho))
          refine (P3.out _ p2 c2 (by (repeat' (first | (with_reducible assumption) | (with_reducible exact Below.refl _ _) | (with_reducible refine below_wov ?_ ?_ _) | (with_reducible refine below_drewN ?_ _) | (with_reducible refine Below.drew ?_) | (with_reducible refine Below.alloc ?_ ?_ _) | (with_reducible refine Below.setCell ?_ ?_ _) | (with_reducible exact Nat.le_refl _) | omega | (simp only [World.size_alloc, World.size_setCell, World.size_drew, Wov_size, World.heap_drewN]; omega)))) (s2.below (by (repeat' (first | (with_reducible assumption) | (with_reducible exact Below.refl _ _) | (with_reducible refine below_wov ?_ ?_ _) | (with_reducible refine below_drewN ?_ _) | (with_reducible refine Below.drew ?_) | (with_reducible refine Below.alloc ?_ ?_ _) | (with_reducible refine Below.setCell ?_ ?_ _) | (with_reducible exact Nat.le_refl _) | omega | (simp only [World.size_alloc, World.size_setCell, World.size_drew, Wov_size, World.heap_drewN]; omega)))))).mono ?_; rintro e w' ⟨rfl, q4, rfl⟩
          go_wp2_with (fail)
          refine (SM.out _ (by (repeat' (first | (with_reducible assumption) | (with_reducible exact Below.refl _ _) | (with_reducible refine below_wov ?_ ?_ _) | (with_reducible refine below_drewN ?_ _) | (with_reducible refine Below.drew ?_) | (with_reducible refine Below.alloc ?_ ?_ _) | (with_reducible refine Below.setCell ?_ ?_ _) | (with_reducible exact Nat.le_refl _) | omega | (simp only [World.size_alloc, World.size_setCell, World.size_drew, Wov_size, World.heap_drewN]; omega))))).mono ?_; rintro e w' ⟨rfl, q5, rfl⟩
          go_wp2
          all_goals
            go_ret
            exact gives_bool (by simp) (by (repeat' (first | (with_reducible assumption) | (with_reducible exact Below.refl _ _) | (with_reducible refine below_wov ?_ ?_ _) | (with_reducible refine below_drewN ?_ _) | (with_reducible refine Below.drew ?_) | (with_reducible refine Below.alloc ?_ ?_ _) | (with_reducible refine Below.setCell ?_ ?_ _) | (with_reducible exact Nat.le_refl _) | omega | (simp only [World.size_alloc, World.size_setCell, World.size_drew, Wov_size, World.heap_drewN]; omega))))
    · have hb := joins_bad hL hL2 (by
        by_cases h : e0 = 0
        · right
          rw [← hr2]
          exact fun h' => hz ⟨h, h'⟩
        · left
          rw [← hr]; exact h)
      rw [← hr3] at hb
      simp only [Prod.mk.injEq] at hb
      obtain ⟨rfl, rfl⟩ := hb
      have hem : (bs []).toList.isEmpty = true := by rw [Lib.toList_data, bs_list]; rfl
      have hd : (e0 != 0) = true ∨ ((e0 != 0) = false ∧ (f0 != 0) = true) := by
        by_cases h : e0 = 0
        · right
          exact ⟨by rw [bne_eq_false_iff_eq]; exact h, by rw [bne_iff_ne]; exact fun h' => hz ⟨h, h'⟩⟩
        · left; rw [bne_iff_ne]; exact h
      clear hS hF hQ hM hG hP ht hv hr hr2 hr3 hC h1 hN hN2 hz SM
      rcases hd with hd | ⟨hd, hd2⟩
      · go_enter Tryz.func7, Tryz.ntmps7
        go_wp2_with (fail)
        refine AL.out.mono ?_; rintro e w' ⟨rfl, q1, rfl⟩
        go_wp2_with (fail)
        refine (P1.out _ (by (repeat' (first | (with_reducible assumption) | (with_reducible exact Below.refl _ _) | (with_reducible refine below_wov ?_ ?_ _) | (with_reducible refine below_drewN ?_ _) | (with_reducible refine Below.drew ?_) | (with_reducible refine Below.alloc ?_ ?_ _) | (with_reducible refine Below.setCell ?_ ?_ _) | (with_reducible exact Nat.le_refl _) | omega | (simp only [World.size_alloc, World.size_setCell, World.size_drew, Wov_size, World.heap_drewN]; omega))))).mono ?_; rintro e w' ⟨rfl, q2, rfl⟩
        go_wp2_with (fail)
        refine (P2.out _ (by (repeat' (first | (with_reducible assumption) | (with_reducible exact Below.refl _ _) | (with_reducible refine below_wov ?_ ?_ _) | (with_reducible refine below_drewN ?_ _) | (with_reducible refine Below.drew ?_) | (with_reducible refine Below.alloc ?_ ?_ _) | (with_reducible refine Below.setCell ?_ ?_ _) | (with_reducible exact Nat.le_refl _) | omega | (simp only [World.size_alloc, World.size_setCell, World.size_drew, Wov_size, World.heap_drewN]; omega))))).mono ?_; rintro e w' ⟨rfl, q3, rfl⟩
        go_wp2_with (first
          | (at_builtin; refine wpList_appZ _ w.heap.size rfl (.const (.slice none 0 0)) (.tmp 38) rfl rfl (.slice none 0 0) [] L rfl (World.ownsRow_nil _ _ _ _) q cq rfl HQ.out (HS.out.below (by (repeat' (first | (with_reducible assumption) | (with_reducible exact Below.refl _ _) | (with_reducible refine below_wov ?_ ?_ _) | (with_reducible refine below_drewN ?_ _) | (with_reducible refine Below.drew ?_) | (with_reducible refine Below.alloc ?_ ?_ _) | (with_reducible refine Below.setCell ?_ ?_ _) | (with_reducible exact Nat.le_refl _) | omega | (simp only [World.size_alloc, World.size_setCell, World.size_drew, Wov_size, World.heap_drewN]; omega))))) (by simp; omega) (by (first | omega | ((simp only [World.size_alloc, World.size_setCell, World.size_drew, Wov_size, World.heap_drewN, Array.size_append]) <;> omega))) ?_; intro v1 w1 ho1 hg1; have hx1 := rowS_grown (n := w.heap.size) (e := 49) (s := 6) (k := 0) (xs := []) (World.ownsRow_nil _ _ _ _) (Below.refl _ _) hg1 (by (first | omega | ((simp only [World.size_alloc, World.size_setCell, World.size_drew, Wov_size, World.heap_drewN, Array.size_append]) <;> omega))); have hw1 : Below w.heap.size w w1 := (by refine Below.trans ?_ hx1; (repeat' (first | (with_reducible assumption) | (with_reducible exact Below.refl _ _) | (with_reducible refine below_wov ?_ ?_ _) | (with_reducible refine below_drewN ?_ _) | (with_reducible refine Below.drew ?_) | (with_reducible refine Below.alloc ?_ ?_ _) | (with_reducible refine Below.setCell ?_ ?_ _) | (with_reducible exact Nat.le_refl _) | omega | (simp only [World.size_alloc, World.size_setCell, World.size_drew, Wov_size, World.heap_drewN]; omega)))); rw [List.nil_append] at ho1; have hs1 := hw1.size; have HO1 := Lib.hid ho1; clear ho1 hg1 hx1)
          | (at_builtin; refine wpList_appZ _ w.heap.size rfl (.tmp 39) (.tmp 40) rfl rfl v1 L M rfl (rowS_below HO1.out (by (repeat' (first | (with_reducible assumption) | (with_reducible exact Below.refl _ _) | (with_reducible refine below_wov ?_ ?_ _) | (with_reducible refine below_drewN ?_ _) | (with_reducible refine Below.drew ?_) | (with_reducible refine Below.alloc ?_ ?_ _) | (with_reducible refine Below.setCell ?_ ?_ _) | (with_reducible exact Nat.le_refl _) | omega | (simp only [World.size_alloc, World.size_setCell, World.size_drew, Wov_size, World.heap_drewN]; omega))))) p cp rfl HP.out (HM.out.below (by (repeat' (first | (with_reducible assumption) | (with_reducible exact Below.refl _ _) | (with_reducible refine below_wov ?_ ?_ _) | (with_reducible refine below_drewN ?_ _) | (with_reducible refine Below.drew ?_) | (with_reducible refine Below.alloc ?_ ?_ _) | (with_reducible refine Below.setCell ?_ ?_ _) | (with_reducible exact Nat.le_refl _) | omega | (simp only [World.size_alloc, World.size_setCell, World.size_drew, Wov_size, World.heap_drewN]; omega))))) (by omega) (by (first | omega | ((simp only [World.size_alloc, World.size_setCell, World.size_drew, Wov_size, World.heap_drewN, Array.size_append]) <;> omega))) ?_; intro v2 w2 ho2 hg2; rw [HC.out] at ho2; have hx2 := rowS_grown (n := w.heap.size) (rowS_below HO1.out (by (repeat' (first | (with_reducible assumption) | (with_reducible exact Below.refl _ _) | (with_reducible refine below_wov ?_ ?_ _) | (with_reducible refine below_drewN ?_ _) | (with_reducible refine Below.drew ?_) | (with_reducible refine Below.alloc ?_ ?_ _) | (with_reducible refine Below.setCell ?_ ?_ _) | (with_reducible exact Nat.le_refl _) | omega | (simp only [World.size_alloc, World.size_setCell, World.size_drew, Wov_size, World.heap_drewN]; omega))))) (Below.refl _ _) hg2 (by (first | omega | ((simp only [World.size_alloc, World.size_setCell, World.size_drew, Wov_size, World.heap_drewN, Array.size_append]) <;> omega))); have hw2 : Below w.heap.size w w2 := (by refine Below.trans ?_ hx2; (repeat' (first | (with_reducible assumption) | (with_reducible exact Below.refl _ _) | (with_reducible refine below_wov ?_ ?_ _) | (with_reducible refine below_drewN ?_ _) | (with_reducible refine Below.drew ?_) | (with_reducible refine Below.alloc ?_ ?_ _) | (with_reducible refine Below.setCell ?_ ?_ _) | (with_reducible exact Nat.le_refl _) | omega | (simp only [World.size_alloc, World.size_setCell, World.size_drew, Wov_size, World.heap_drewN]; omega)))); obtain ⟨p2, c2, rfl, _, ho⟩ := ownZ_of_row (w := w) ho2 (Nat.le_refl _); have s2 := ho.slz; have hs2 := hw2.size; clear ho2 hg2 hx2 ho))
        refine (P3.out _ p2 c2 (by (repeat' (first | (with_reducible assumption) | (with_reducible exact Below.refl _ _) | (with_reducible refine below_wov ?_ ?_ _) | (with_reducible refine below_drewN ?_ _) | (with_reducible refine Below.drew ?_) | (with_reducible refine Below.alloc ?_ ?_ _) | (with_reducible refine Below.setCell ?_ ?_ _) | (with_reducible exact Nat.le_refl _) | omega | (simp only [World.size_alloc, World.size_setCell, World.size_drew, Wov_size, World.heap_drewN]; omega)))) (s2.below (by (repeat' (first | (with_reducible assumption) | (with_reducible exact Below.refl _ _) | (with_reducible refine below_wov ?_ ?_ _) | (with_reducible refine below_drewN ?_ _) | (with_reducible refine Below.drew ?_) | (with_reducible refine Below.alloc ?_ ?_ _) | (with_reducible refine Below.setCell ?_ ?_ _) | (with_reducible exact Nat.le_refl _) | omega | (simp only [World.size_alloc, World.size_setCell, World.size_drew, Wov_size, World.heap_drewN]; omega)))))).mono ?_; rintro e w' ⟨rfl, q4, rfl⟩
        go_wp2
        all_goals
          go_ret
          exact gives_bool (by simp) (by (repeat' (first | (with_reducible assumption) | (with_reducible exact Below.refl _ _) | (with_reducible refine below_wov ?_ ?_ _) | (with_reducible refine below_drewN ?_ _) | (with_reducible refine Below.drew ?_) | (with_reducible refine Below.alloc ?_ ?_ _) | (with_reducible refine Below.setCell ?_ ?_ _) | (with_reducible exact Nat.le_refl _) | omega | (simp only [World.size_alloc, World.size_setCell, World.size_drew, Wov_size, World.heap_drewN]; omega))))
      · go_enter Tryz.func7, Tryz.ntmps7
        go_wp2_with (fail)
        refine AL.out.mono ?_; rintro e w' ⟨rfl, q1, rfl⟩
        go_wp2_with (fail)
        refine (P1.out _ (by (repeat' (first | (with_reducible assumption) | (with_reducible exact Below.refl _ _) | (with_reducible refine below_wov ?_ ?_ _) | (with_reducible refine below_drewN ?_ _) | (with_reducible refine Below.drew ?_) | (with_reducible refine Below.alloc ?_ ?_ _) | (with_reducible refine Below.setCell ?_ ?_ _) | (with_reducible exact Nat.le_refl _) | omega | (simp only [World.size_alloc, World.size_setCell, World.size_drew, Wov_size, World.heap_drewN]; omega))))).mono ?_; rintro e w' ⟨rfl, q2, rfl⟩
        go_wp2_with (fail)
        refine (P2.out _ (by (repeat' (first | (with_reducible assumption) | (with_reducible exact Below.refl _ _) | (with_reducible refine below_wov ?_ ?_ _) | (with_reducible refine below_drewN ?_ _) | (with_reducible refine Below.drew ?_) | (with_reducible refine Below.alloc ?_ ?_ _) | (with_reducible refine Below.setCell ?_ ?_ _) | (with_reducible exact Nat.le_refl _) | omega | (simp only [World.size_alloc, World.size_setCell, World.size_drew, Wov_size, World.heap_drewN]; omega))))).mono ?_; rintro e w' ⟨rfl, q3, rfl⟩
        go_wp2_with (first
          | (at_builtin; refine wpList_appZ _ w.heap.size rfl (.const (.slice none 0 0)) (.tmp 38) rfl rfl (.slice none 0 0) [] L rfl (World.ownsRow_nil _ _ _ _) q cq rfl HQ.out (HS.out.below (by (repeat' (first | (with_reducible assumption) | (with_reducible exact Below.refl _ _) | (with_reducible refine below_wov ?_ ?_ _) | (with_reducible refine below_drewN ?_ _) | (with_reducible refine Below.drew ?_) | (with_reducible refine Below.alloc ?_ ?_ _) | (with_reducible refine Below.setCell ?_ ?_ _) | (with_reducible exact Nat.le_refl _) | omega | (simp only [World.size_alloc, World.size_setCell, World.size_drew, Wov_size, World.heap_drewN]; omega))))) (by simp; omega) (by (first | omega | ((simp only [World.size_alloc, World.size_setCell, World.size_drew, Wov_size, World.heap_drewN, Array.size_append]) <;> omega))) ?_; intro v1 w1 ho1 hg1; have hx1 := rowS_grown (n := w.heap.size) (e := 49) (s := 6) (k := 0) (xs := []) (World.ownsRow_nil _ _ _ _) (Below.refl _ _) hg1 (by (first | omega | ((simp only [World.size_alloc, World.size_setCell, World.size_drew, Wov_size, World.heap_drewN, Array.size_append]) <;> omega))); have hw1 : Below w.heap.size w w1 := (by refine Below.trans ?_ hx1; (repeat' (first | (with_reducible assumption) | (with_reducible exact Below.refl _ _) | (with_reducible refine below_wov ?_ ?_ _) | (with_reducible refine below_drewN ?_ _) | (with_reducible refine Below.drew ?_) | (with_reducible refine Below.alloc ?_ ?_ _) | (with_reducible refine Below.setCell ?_ ?_ _) | (with_reducible exact Nat.le_refl _) | omega | (simp only [World.size_alloc, World.size_setCell, World.size_drew, Wov_size, World.heap_drewN]; omega)))); rw [List.nil_append] at ho1; have hs1 := hw1.size; have HO1 := Lib.hid ho1; clear ho1 hg1 hx1)
          | (at_builtin; refine wpList_appZ _ w.heap.size rfl (.tmp 39) (.tmp 40) rfl rfl v1 L M rfl (rowS_below HO1.out (by (repeat' (first | (with_reducible assumption) | (with_reducible exact Below.refl _ _) | (with_reducible refine below_wov ?_ ?_ _) | (with_reducible refine below_drewN ?_ _) | (with_reducible refine Below.drew ?_) | (with_reducible refine Below.alloc ?_ ?_ _) | (with_reducible refine Below.setCell ?_ ?_ _) | (with_reducible exact Nat.le_refl _) | omega | (simp only [World.size_alloc, World.size_setCell, World.size_drew, Wov_size, World.heap_drewN]; omega))))) p cp rfl HP.out (HM.out.below (by (repeat' (first | (with_reducible assumption) | (with_reducible exact Below.refl _ _) | (with_reducible refine below_wov ?_ ?_ _) | (with_reducible refine below_drewN ?_ _) | (with_reducible refine Below.drew ?_) | (with_reducible refine Below.alloc ?_ ?_ _) | (with_reducible refine Below.setCell ?_ ?_ _) | (with_reducible exact Nat.le_refl _) | omega | (simp only [World.size_alloc, World.size_setCell, World.size_drew, Wov_size, World.heap_drewN]; omega))))) (by omega) (by (first | omega | ((simp only [World.size_alloc, World.size_setCell, World.size_drew, Wov_size, World.heap_drewN, Array.size_append]) <;> omega))) ?_; intro v2 w2 ho2 hg2; rw [HC.out] at ho2; have hx2 := rowS_grown (n := w.heap.size) (rowS_below HO1.out (by (repeat' (first | (with_reducible assumption) | (with_reducible exact Below.refl _ _) | (with_reducible refine below_wov ?_ ?_ _) | (with_reducible refine below_drewN ?_ _) | (with_reducible refine Below.drew ?_) | (with_reducible refine Below.alloc ?_ ?_ _) | (with_reducible refine Below.setCell ?_ ?_ _) | (with_reducible exact Nat.le_refl _) | omega | (simp only [World.size_alloc, World.size_setCell, World.size_drew, Wov_size, World.heap_drewN]; omega))))) (Below.refl _ _) hg2 (by (first | omega | ((simp only [World.size_alloc, World.size_setCell, World.size_drew, Wov_size, World.heap_drewN, Array.size_append]) <;> omega))); have hw2 : Below w.heap.size w w2 := (by refine Below.trans ?_ hx2; (repeat' (first | (with_reducible assumption) | (with_reducible exact Below.refl _ _) | (with_reducible refine below_wov ?_ ?_ _) | (with_reducible refine below_drewN ?_ _) | (with_reducible refine Below.drew ?_) | (with_reducible refine Below.alloc ?_ ?_ _) | (with_reducible refine Below.setCell ?_ ?_ _) | (with_reducible exact Nat.le_refl _) | omega | (simp only [World.size_alloc, World.size_setCell, World.size_drew, Wov_size, World.heap_drewN]; omega)))); obtain ⟨p2, c2, rfl, _, ho⟩ := ownZ_of_row (w := w) ho2 (Nat.le_refl _); have s2 := ho.slz; have hs2 := hw2.size; clear ho2 hg2 hx2 ho))
        refine (P3.out _ p2 c2 (by (repeat' (first | (with_reducible assumption) | (with_reducible exact Below.refl _ _) | (with_reducible refine below_wov ?_ ?_ _) | (with_reducible refine below_drewN ?_ _) | (with_reducible refine Below.drew ?_) | (with_reducible refine Below.alloc ?_ ?_ _) | (with_reducible refine Below.setCell ?_ ?_ _) | (with_reducible exact Nat.le_refl _) | omega | (simp only [World.size_alloc, World.size_setCell, World.size_drew, Wov_size, World.heap_drewN]; omega)))) (s2.below (by (repeat' (first | (with_reducible assumption) | (with_reducible exact Below.refl _ _) | (with_reducible refine below_wov ?_ ?_ _) | (with_reducible refine below_drewN ?_ _) | (with_reducible refine Below.drew ?_) | (with_reducible refine Below.alloc ?_ ?_ _) | (with_reducible refine Below.setCell ?_ ?_ _) | (with_reducible exact Nat.le_refl _) | omega | (simp only [World.size_alloc, World.size_setCell, World.size_drew, Wov_size, World.heap_drewN]; omega)))))).mono ?_; rintro e w' ⟨rfl, q4, rfl⟩
        go_wp2
        all_goals
          go_ret
          exact gives_bool (by simp) (by (repeat' (first | (with_reducible assumption) | (with_reducible exact Below.refl _ _) | (with_reducible refine below_wov ?_ ?_ _) | (with_reducible refine below_drewN ?_ _) | (with_reducible refine Below.drew ?_) | (with_reducible refine Below.alloc ?_ ?_ _) | (with_reducible refine Below.setCell ?_ ?_ _) | (with_reducible exact Nat.le_refl _) | omega | (simp only [World.size_alloc, World.size_setCell, World.size_drew, Wov_size, World.heap_drewN]; omega))))
#print axioms walk
end Go.Proofs.YtpmpapenjcemjaaGreatDoor.textJoins
