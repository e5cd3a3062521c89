/- The law DbmTells (walk): closed matrices, whether times keep one, copies, are the document's. No condition. -/
import Derived.Test.YtlcbpckinjkfeaaMP
import Derived.Test.YtlcbpckinjkfeaaD20
import Derived.Test.YtlcbpckinjkfeaaD22
namespace Go.Proofs.Ytlcbpckinjkfeaa.dbmTells
open Go.ChangeShapes Go.WideShapes Go.ChangeAt Go.RowKit
set_option linter.unusedVariables false
set_option linter.unusedSimpArgs false
attribute [local go_sem] Nat.add_assoc Nat.add_lt_add_iff_left lit_lt_add

set_option maxRecDepth 100000 in
set_option maxHeartbeats 4000000 in
theorem walk (n : Int) (pp : Option Addr) (N cap : Nat) (f : Nat → Int) (wn : fits64 n) (q : Option Addr) (M cq : Nat) (T : Nat → Int × Int) (w : World) (hSa : SlP w pp N f) (hF : Fits N f) (hN : N ≤ maxLen) (hST : SlR w q M T) (hFT : FitsR M T) (hM : M ≤ maxLen) :
    Calls Try.prog 4 #[.agg #[.int .i64 n, .slice pp N cap], .slice q M cq] w (Gives w (.bool true)) := by
  unfold maxLen at hN hM
  by_cases hbig : 1000 < N ∨ 100 < M
  · clear hSa hF hST hFT
    by_cases hb1 : 1000 < N
    · go_enter Try.func4, Try.ntmps4
      go_wp2
      all_goals
        go_ret
        exact gives_bool rfl (by (repeat' (first | (with_reducible assumption) | (with_reducible exact Below.refl _ _) | (with_reducible refine below_wov ?_ ?_ _) | (with_reducible refine below_drewN ?_ _) | (with_reducible refine Below.drew ?_) | (with_reducible refine Below.alloc ?_ ?_ _) | (with_reducible refine Below.setCell ?_ ?_ _) | (with_reducible exact Nat.le_refl _) | omega | (simp only [World.size_alloc, World.size_setCell, World.size_drew, Wov_size, World.heap_drewN]; omega))))
    · have hb3 : 100 < M := by omega
      go_enter Try.func4, Try.ntmps4
      go_wp2
      all_goals
        go_ret
        exact gives_bool rfl (by (repeat' (first | (with_reducible assumption) | (with_reducible exact Below.refl _ _) | (with_reducible refine below_wov ?_ ?_ _) | (with_reducible refine below_drewN ?_ _) | (with_reducible refine Below.drew ?_) | (with_reducible refine Below.alloc ?_ ?_ _) | (with_reducible refine Below.setCell ?_ ?_ _) | (with_reducible exact Nat.le_refl _) | omega | (simp only [World.size_alloc, World.size_setCell, World.size_drew, Wov_size, World.heap_drewN]; omega))))
  · have hN3 : N ≤ 1000 := by omega
    have hM3 : M ≤ 100 := by omega
    obtain ⟨⟨b0, e0⟩, h_0⟩ : ∃ r, r = keepsD n N f M T := ⟨_, rfl⟩
    obtain ⟨⟨x1, Z, g1, e1⟩, h_1⟩ : ∃ r, r = closeM n N f := ⟨_, rfl⟩
    have o1 : MRok ⟨x1, Z, g1, e1⟩ := by rw [h_1]; exact closeM_ok _ _ _
    have hZ : Z ≤ 1000000 := by have := o1.N; simp only at this; omega
    obtain ⟨sa, hsa⟩ : ∃ s, s = sameB n N f x1 Z g1 := ⟨_, rfl⟩
    obtain ⟨s0, hs0⟩ : ∃ s, s = okD n N f := ⟨_, rfl⟩
    have TW : Hid (∀ W, SlP W pp N f → Calls Try.prog 28 #[.agg #[.int .i64 n, .slice pp N cap]] W (copyPost W n N f)) := fun W h => refTwin_any n pp N cap f W (by omega) h
    have TC : Hid (∀ W p c, InS W p N c f → Calls Try.prog 33 #[.agg #[.int .i64 n, .slice p N c]] W (fun e W' => ∃ p2 cap2, e = .returned (.agg #[.int .i64 n, .slice p2 N cap2]) ∧ OwnP W W' p2 N f ∧ ∃ q, W' = Wov W q)) := fun W p c h => twinC_any n p N c f W (by omega) h
    have CL : Hid (∀ W p c, SlP W p N f → Calls Try.prog 29 #[.agg #[.int .i64 n, .slice p N c]] W (matC W x1 Z g1 e1)) := fun W p c h => by
      have := closeM_any n p N c f W wn h hF (by omega)
      rwa [← h_1] at this
    have RC : Hid (∀ W, SlP W pp N f → Calls Try.prog 30 #[.agg #[.int .i64 n, .slice pp N cap]] W (matC W x1 Z g1 e1)) := fun W h => by
      have := refClose_any n pp N cap f W wn h hF (by omega)
      rwa [← h_1] at this
    have KE : Hid (∀ W p c, SlP W p N f → SlR W q M T → Calls Try.prog 31 #[.agg #[.int .i64 n, .slice p N c], .slice q M cq] W (Gives W (.tuple #[.bool b0, .int .i64 e0]))) := fun W p c h g => by
      have := keepsD_any n N p c f q M cq T W wn h hF (by omega) g hFT (by omega)
      rw [← h_0] at this; exact this
    have RK : Hid (∀ W, SlP W pp N f → SlR W q M T → Calls Try.prog 32 #[.agg #[.int .i64 n, .slice pp N cap], .slice q M cq] W (Gives W (.tuple #[.bool b0, .int .i64 e0]))) := fun W h g => by
      have := refKeepsD_any n pp N cap f q M cq T W wn h hF (by omega) g hFT (by omega)
      rw [← h_0] at this; exact this
    have CK : Hid (∀ W p c, SlP W p N f → Calls Try.prog 35 #[.agg #[.int .i64 n, .slice p N c]] W (Gives W (.int .i64 (rcode s0)))) := fun W p c h => by
      have := dbmCheck_any n p N c f W wn h hF (by omega)
      rwa [← hs0] at this
    have RCK : Hid (∀ W p c, SlP W p N f → Calls Try.prog 36 #[.agg #[.int .i64 n, .slice p N c]] W (Gives W (.int .i64 (rcode s0)))) := fun W p c h => by
      have := refCheckD_any n p N c f W wn h hF (by omega)
      rwa [← hs0] at this
    have SM1 : Hid (∀ W p p' c d, SlP W p Z g1 → SlP W p' Z g1 → Calls Try.prog 34 #[.agg #[.int .i64 x1, .slice p Z c], .agg #[.int .i64 x1, .slice p' Z d]] W (Gives W (.bool true))) := fun W p p' c d h g => by
      have := refSame_any x1 x1 p p' Z Z c d g1 g1 W h g hZ
      rwa [sameB_refl] at this
    have SM2 : Hid (∀ W p p' c d, SlP W p N f → SlP W p' N f → Calls Try.prog 34 #[.agg #[.int .i64 n, .slice p N c], .agg #[.int .i64 n, .slice p' N d]] W (Gives W (.bool true))) := fun W p p' c d h g => by
      have := refSame_any n n p p' N N c d f f W h g (by omega)
      rwa [sameB_refl] at this
    have SM3 : Hid (∀ W p p' c d, SlP W p N f → SlP W p' Z g1 → Calls Try.prog 34 #[.agg #[.int .i64 n, .slice p N c], .agg #[.int .i64 x1, .slice p' Z d]] W (Gives W (.bool sa))) := fun W p p' c d h g => by
      have := refSame_any n x1 p p' N Z c d f g1 W h g (by omega)
      rwa [← hsa] at this
    have DS : Hid (∀ W p p' c d, SlP W p N f → SlP W p' Z g1 → Calls Try.prog 37 #[.agg #[.int .i64 n, .slice p N c], .agg #[.int .i64 x1, .slice p' Z d]] W (Gives W (.bool sa))) := fun W p p' c d h g => by
      have := same_any n x1 p p' N Z c d f g1 W h g (by omega)
      rwa [← hsa] at this
    have SA := Lib.hid hSa
    have ST := Lib.hid hST
    clear h_0 h_1 hsa hs0 o1 hSa hF hST hFT hbig wn
    go_enter Try.func4, Try.ntmps4
    go_wp2_with (fail)
    refine calls_world (fun W => Below w.heap.size w W ∧ BoxM W w.heap.size n pp N cap f ∧ SlR W q M T) ⟨by (repeat' (first | (with_reducible assumption) | (with_reducible exact Below.refl _ _) | (with_reducible refine below_wov ?_ ?_ _) | (with_reducible refine below_drewN ?_ _) | (with_reducible refine Below.drew ?_) | (with_reducible refine Below.alloc ?_ ?_ _) | (with_reducible refine Below.setCell ?_ ?_ _) | (with_reducible exact Nat.le_refl _) | omega | (simp only [World.size_alloc, World.size_setCell, World.size_drew, Wov_size, World.heap_drewN]; omega))), (BoxM.new (W := w) (t := 39) (SA.out) (by simp)).below (by (repeat' (first | (with_reducible assumption) | (with_reducible exact Below.refl _ _) | (with_reducible refine below_wov ?_ ?_ _) | (with_reducible refine below_drewN ?_ _) | (with_reducible refine Below.drew ?_) | (with_reducible refine Below.alloc ?_ ?_ _) | (with_reducible refine Below.setCell ?_ ?_ _) | (with_reducible exact Nat.le_refl _) | omega | (simp only [World.size_alloc, World.size_setCell, World.size_drew, Wov_size, World.heap_drewN]; omega)))), ST.out.below (by (repeat' (first | (with_reducible assumption) | (with_reducible exact Below.refl _ _) | (with_reducible refine below_wov ?_ ?_ _) | (with_reducible refine below_drewN ?_ _) | (with_reducible refine Below.drew ?_) | (with_reducible refine Below.alloc ?_ ?_ _) | (with_reducible refine Below.setCell ?_ ?_ _) | (with_reducible exact Nat.le_refl _) | omega | (simp only [World.size_alloc, World.size_setCell, World.size_drew, Wov_size, World.heap_drewN]; omega))))⟩ ?_
    rintro W1 ⟨hb1, m1_0, m1_1⟩
    have f1_0_lt := m1_0.lt
    have f1_0_c0 := m1_0.c0
    have f1_0_c1 := m1_0.c1
    refine (TW.out _ m1_0.sl).mono ?_; rintro e w' ⟨p1, c1, rfl, ti, ho1, q1, rfl⟩
    have t1 := ho1.slp
    clear ho1
    go_wp2_with (fail)
    obtain ⟨A1, hA1⟩ : ∃ A, W1.heap.size + q1.bl.size = A := ⟨_, rfl⟩
    rw [hA1]
    refine calls_world (fun W => Below w.heap.size w W ∧ BoxM W w.heap.size n pp N cap f ∧ SlR W q M T ∧ BoxM W A1 n p1 N c1 f ∧ InS W p1 N c1 f) ⟨by (repeat' (first | (with_reducible assumption) | (with_reducible exact Below.refl _ _) | (with_reducible refine below_wov ?_ ?_ _) | (with_reducible refine below_drewN ?_ _) | (with_reducible refine Below.drew ?_) | (with_reducible refine Below.alloc ?_ ?_ _) | (with_reducible refine Below.setCell ?_ ?_ _) | (with_reducible exact Nat.le_refl _) | omega | (simp only [World.size_alloc, World.size_setCell, World.size_drew, Wov_size, World.heap_drewN]; omega))), m1_0.below (by (repeat' (first | (with_reducible assumption) | (with_reducible exact Below.refl _ _) | (with_reducible refine below_wov ?_ ?_ _) | (with_reducible refine below_drewN ?_ _) | (with_reducible refine Below.drew ?_) | (with_reducible refine Below.alloc ?_ ?_ _) | (with_reducible refine Below.setCell ?_ ?_ _) | (with_reducible exact Nat.le_refl _) | omega | (simp only [World.size_alloc, World.size_setCell, World.size_drew, Wov_size, World.heap_drewN]; omega)))), m1_1.below (by (repeat' (first | (with_reducible assumption) | (with_reducible exact Below.refl _ _) | (with_reducible refine below_wov ?_ ?_ _) | (with_reducible refine below_drewN ?_ _) | (with_reducible refine Below.drew ?_) | (with_reducible refine Below.alloc ?_ ?_ _) | (with_reducible refine Below.setCell ?_ ?_ _) | (with_reducible exact Nat.le_refl _) | omega | (simp only [World.size_alloc, World.size_setCell, World.size_drew, Wov_size, World.heap_drewN]; omega)))), BoxM.new (t1) (by rw [← hA1]; (try simp only [Wov_size])), ti.below (by (repeat' (first | (with_reducible assumption) | (with_reducible exact Below.refl _ _) | (with_reducible refine below_wov ?_ ?_ _) | (with_reducible refine below_drewN ?_ _) | (with_reducible refine Below.drew ?_) | (with_reducible refine Below.alloc ?_ ?_ _) | (with_reducible refine Below.setCell ?_ ?_ _) | (with_reducible exact Nat.le_refl _) | omega | (simp only [World.size_alloc, World.size_setCell, World.size_drew, Wov_size, World.heap_drewN]; omega))))⟩ ?_
    rintro W2 ⟨hb2, m2_0, m2_1, m2_2, m2_3⟩
    clear hb1 f1_0_lt f1_0_c0 f1_0_c1 m1_0 m1_1
    have f2_0_lt := m2_0.lt
    have f2_0_c0 := m2_0.c0
    have f2_0_c1 := m2_0.c1
    have f2_2_lt := m2_2.lt
    have f2_2_c0 := m2_2.c0
    have f2_2_c1 := m2_2.c1
    clear t1 ti hA1
    have D2 := Lib.hid m2_0
    have O2 := Lib.hid m2_2
    have HB2 := Lib.hid hb2
    have K2 : Hid (From W2 W2) := Below.refl _ _
    refine (CL.out _ _ _ m2_2.sl).mono ?_; rintro e w' ⟨⟨pa, ca, rfl, ho⟩, q2, rfl⟩
    have tpa := ho.slp
    obtain ⟨Ba, hBa, oa⟩ := ho.blk
    have hAa : 0 < Z → Ba < W2.heap.size + q2.bl.size := fun h => by have := (oa.at_ h).2; rw [Wov_size] at this; exact this
    clear ho
    go_wp2_with (fail)
    obtain ⟨A2, hA2⟩ : ∃ A, W2.heap.size + q2.bl.size = A := ⟨_, rfl⟩
    rw [hA2]
    rw [hA2] at hAa
    refine calls_world (fun W => Below w.heap.size w W ∧ BoxM W w.heap.size n pp N cap f ∧ SlR W q M T ∧ BoxM W A1 n p1 N c1 f ∧ InS W p1 N c1 f ∧ BoxM W A2 x1 pa Z ca g1 ∧ From W W2 ∧ OwnAt W Ba pa Z g1) ⟨by (repeat' (first | (with_reducible assumption) | (with_reducible exact Below.refl _ _) | (with_reducible refine below_wov ?_ ?_ _) | (with_reducible refine below_drewN ?_ _) | (with_reducible refine Below.drew ?_) | (with_reducible refine Below.alloc ?_ ?_ _) | (with_reducible refine Below.setCell ?_ ?_ _) | (with_reducible exact Nat.le_refl _) | omega | (simp only [World.size_alloc, World.size_setCell, World.size_drew, Wov_size, World.heap_drewN]; omega))), m2_0.below (by (repeat' (first | (with_reducible assumption) | (with_reducible exact Below.refl _ _) | (with_reducible refine below_wov ?_ ?_ _) | (with_reducible refine below_drewN ?_ _) | (with_reducible refine Below.drew ?_) | (with_reducible refine Below.alloc ?_ ?_ _) | (with_reducible refine Below.setCell ?_ ?_ _) | (with_reducible exact Nat.le_refl _) | omega | (simp only [World.size_alloc, World.size_setCell, World.size_drew, Wov_size, World.heap_drewN]; omega)))), m2_1.below (by (repeat' (first | (with_reducible assumption) | (with_reducible exact Below.refl _ _) | (with_reducible refine below_wov ?_ ?_ _) | (with_reducible refine below_drewN ?_ _) | (with_reducible refine Below.drew ?_) | (with_reducible refine Below.alloc ?_ ?_ _) | (with_reducible refine Below.setCell ?_ ?_ _) | (with_reducible exact Nat.le_refl _) | omega | (simp only [World.size_alloc, World.size_setCell, World.size_drew, Wov_size, World.heap_drewN]; omega)))), m2_2.below (by (repeat' (first | (with_reducible assumption) | (with_reducible exact Below.refl _ _) | (with_reducible refine below_wov ?_ ?_ _) | (with_reducible refine below_drewN ?_ _) | (with_reducible refine Below.drew ?_) | (with_reducible refine Below.alloc ?_ ?_ _) | (with_reducible refine Below.setCell ?_ ?_ _) | (with_reducible exact Nat.le_refl _) | omega | (simp only [World.size_alloc, World.size_setCell, World.size_drew, Wov_size, World.heap_drewN]; omega)))), m2_3.below (by (repeat' (first | (with_reducible assumption) | (with_reducible exact Below.refl _ _) | (with_reducible refine below_wov ?_ ?_ _) | (with_reducible refine below_drewN ?_ _) | (with_reducible refine Below.drew ?_) | (with_reducible refine Below.alloc ?_ ?_ _) | (with_reducible refine Below.setCell ?_ ?_ _) | (with_reducible exact Nat.le_refl _) | omega | (simp only [World.size_alloc, World.size_setCell, World.size_drew, Wov_size, World.heap_drewN]; omega)))), BoxM.new (tpa) (by rw [← hA2]; (try simp only [Wov_size])), K2.out.below (by (repeat' (first | (with_reducible assumption) | (with_reducible exact Below.refl _ _) | (with_reducible refine below_wov ?_ ?_ _) | (with_reducible refine below_drewN ?_ _) | (with_reducible refine Below.drew ?_) | (with_reducible refine Below.alloc ?_ ?_ _) | (with_reducible refine Below.setCell ?_ ?_ _) | (with_reducible exact Nat.le_refl _) | omega | (simp only [World.size_alloc, World.size_setCell, World.size_drew, Wov_size, World.heap_drewN]; omega)))), oa.below (by (repeat' (first | (with_reducible assumption) | (with_reducible exact Below.refl _ _) | (with_reducible refine below_wov ?_ ?_ _) | (with_reducible refine below_drewN ?_ _) | (with_reducible refine Below.drew ?_) | (with_reducible refine Below.alloc ?_ ?_ _) | (with_reducible refine Below.setCell ?_ ?_ _) | (with_reducible exact Nat.le_refl _) | omega | (simp only [World.size_alloc, World.size_setCell, World.size_drew, Wov_size, World.heap_drewN]; omega))))⟩ ?_
    rintro W3 ⟨hb3, m3_0, m3_1, m3_2, m3_3, m3_4, m3_5, m3_6⟩
    clear hb2 f2_0_lt f2_0_c0 f2_0_c1 f2_2_lt f2_2_c0 f2_2_c1 m2_0 m2_1 m2_2 m2_3
    have f3_0_lt := m3_0.lt
    have f3_0_c0 := m3_0.c0
    have f3_0_c1 := m3_0.c1
    have f3_2_lt := m3_2.lt
    have f3_2_c0 := m3_2.c0
    have f3_2_c1 := m3_2.c1
    have f3_4_lt := m3_4.lt
    have f3_4_c0 := m3_4.c0
    have f3_4_c1 := m3_4.c1
    clear tpa oa hA2 K2
    have HAA := Lib.hid hAa
    clear hAa
    refine (RC.out _ m3_0.sl).mono ?_; rintro e w' ⟨⟨pb, cb, rfl, ho⟩, q3, rfl⟩
    have tpb := ho.slp
    clear ho
    go_wp2_with (fail)
    obtain ⟨A3, hA3⟩ : ∃ A, W3.heap.size + q3.bl.size = A := ⟨_, rfl⟩
    rw [hA3]
    refine calls_world (fun W => Below w.heap.size w W ∧ BoxM W w.heap.size n pp N cap f ∧ SlR W q M T ∧ BoxM W A1 n p1 N c1 f ∧ InS W p1 N c1 f ∧ BoxM W A2 x1 pa Z ca g1 ∧ From W W2 ∧ OwnAt W Ba pa Z g1 ∧ BoxM W A3 x1 pb Z cb g1) ⟨by (repeat' (first | (with_reducible assumption) | (with_reducible exact Below.refl _ _) | (with_reducible refine below_wov ?_ ?_ _) | (with_reducible refine below_drewN ?_ _) | (with_reducible refine Below.drew ?_) | (with_reducible refine Below.alloc ?_ ?_ _) | (with_reducible refine Below.setCell ?_ ?_ _) | (with_reducible exact Nat.le_refl _) | omega | (simp only [World.size_alloc, World.size_setCell, World.size_drew, Wov_size, World.heap_drewN]; omega))), m3_0.below (by (repeat' (first | (with_reducible assumption) | (with_reducible exact Below.refl _ _) | (with_reducible refine below_wov ?_ ?_ _) | (with_reducible refine below_drewN ?_ _) | (with_reducible refine Below.drew ?_) | (with_reducible refine Below.alloc ?_ ?_ _) | (with_reducible refine Below.setCell ?_ ?_ _) | (with_reducible exact Nat.le_refl _) | omega | (simp only [World.size_alloc, World.size_setCell, World.size_drew, Wov_size, World.heap_drewN]; omega)))), m3_1.below (by (repeat' (first | (with_reducible assumption) | (with_reducible exact Below.refl _ _) | (with_reducible refine below_wov ?_ ?_ _) | (with_reducible refine below_drewN ?_ _) | (with_reducible refine Below.drew ?_) | (with_reducible refine Below.alloc ?_ ?_ _) | (with_reducible refine Below.setCell ?_ ?_ _) | (with_reducible exact Nat.le_refl _) | omega | (simp only [World.size_alloc, World.size_setCell, World.size_drew, Wov_size, World.heap_drewN]; omega)))), m3_2.below (by (repeat' (first | (with_reducible assumption) | (with_reducible exact Below.refl _ _) | (with_reducible refine below_wov ?_ ?_ _) | (with_reducible refine below_drewN ?_ _) | (with_reducible refine Below.drew ?_) | (with_reducible refine Below.alloc ?_ ?_ _) | (with_reducible refine Below.setCell ?_ ?_ _) | (with_reducible exact Nat.le_refl _) | omega | (simp only [World.size_alloc, World.size_setCell, World.size_drew, Wov_size, World.heap_drewN]; omega)))), m3_3.below (by (repeat' (first | (with_reducible assumption) | (with_reducible exact Below.refl _ _) | (with_reducible refine below_wov ?_ ?_ _) | (with_reducible refine below_drewN ?_ _) | (with_reducible refine Below.drew ?_) | (with_reducible refine Below.alloc ?_ ?_ _) | (with_reducible refine Below.setCell ?_ ?_ _) | (with_reducible exact Nat.le_refl _) | omega | (simp only [World.size_alloc, World.size_setCell, World.size_drew, Wov_size, World.heap_drewN]; omega)))), m3_4.below (by (repeat' (first | (with_reducible assumption) | (with_reducible exact Below.refl _ _) | (with_reducible refine below_wov ?_ ?_ _) | (with_reducible refine below_drewN ?_ _) | (with_reducible refine Below.drew ?_) | (with_reducible refine Below.alloc ?_ ?_ _) | (with_reducible refine Below.setCell ?_ ?_ _) | (with_reducible exact Nat.le_refl _) | omega | (simp only [World.size_alloc, World.size_setCell, World.size_drew, Wov_size, World.heap_drewN]; omega)))), m3_5.below (by (repeat' (first | (with_reducible assumption) | (with_reducible exact Below.refl _ _) | (with_reducible refine below_wov ?_ ?_ _) | (with_reducible refine below_drewN ?_ _) | (with_reducible refine Below.drew ?_) | (with_reducible refine Below.alloc ?_ ?_ _) | (with_reducible refine Below.setCell ?_ ?_ _) | (with_reducible exact Nat.le_refl _) | omega | (simp only [World.size_alloc, World.size_setCell, World.size_drew, Wov_size, World.heap_drewN]; omega)))), m3_6.below (by (repeat' (first | (with_reducible assumption) | (with_reducible exact Below.refl _ _) | (with_reducible refine below_wov ?_ ?_ _) | (with_reducible refine below_drewN ?_ _) | (with_reducible refine Below.drew ?_) | (with_reducible refine Below.alloc ?_ ?_ _) | (with_reducible refine Below.setCell ?_ ?_ _) | (with_reducible exact Nat.le_refl _) | omega | (simp only [World.size_alloc, World.size_setCell, World.size_drew, Wov_size, World.heap_drewN]; omega)))), BoxM.new (tpb) (by rw [← hA3]; (try simp only [Wov_size]))⟩ ?_
    rintro W4 ⟨hb4, m4_0, m4_1, m4_2, m4_3, m4_4, m4_5, m4_6, m4_7⟩
    clear hb3 f3_0_lt f3_0_c0 f3_0_c1 f3_2_lt f3_2_c0 f3_2_c1 f3_4_lt f3_4_c0 f3_4_c1 m3_0 m3_1 m3_2 m3_3 m3_4 m3_5 m3_6
    have f4_0_lt := m4_0.lt
    have f4_0_c0 := m4_0.c0
    have f4_0_c1 := m4_0.c1
    have f4_2_lt := m4_2.lt
    have f4_2_c0 := m4_2.c0
    have f4_2_c1 := m4_2.c1
    have f4_4_lt := m4_4.lt
    have f4_4_c0 := m4_4.c0
    have f4_4_c1 := m4_4.c1
    have f4_7_lt := m4_7.lt
    have f4_7_c0 := m4_7.c0
    have f4_7_c1 := m4_7.c1
    clear tpb hA3
    refine (KE.out _ _ _ m4_2.sl m4_1).mono ?_; rintro e w' ⟨rfl, q4, rfl⟩
    go_wp2_with (fail)
    refine calls_world (fun W => Below w.heap.size w W ∧ BoxM W w.heap.size n pp N cap f ∧ SlR W q M T ∧ BoxM W A1 n p1 N c1 f ∧ InS W p1 N c1 f ∧ BoxM W A2 x1 pa Z ca g1 ∧ From W W2 ∧ OwnAt W Ba pa Z g1 ∧ BoxM W A3 x1 pb Z cb g1) ⟨by (repeat' (first | (with_reducible assumption) | (with_reducible exact Below.refl _ _) | (with_reducible refine below_wov ?_ ?_ _) | (with_reducible refine below_drewN ?_ _) | (with_reducible refine Below.drew ?_) | (with_reducible refine Below.alloc ?_ ?_ _) | (with_reducible refine Below.setCell ?_ ?_ _) | (with_reducible exact Nat.le_refl _) | omega | (simp only [World.size_alloc, World.size_setCell, World.size_drew, Wov_size, World.heap_drewN]; omega))), m4_0.below (by (repeat' (first | (with_reducible assumption) | (with_reducible exact Below.refl _ _) | (with_reducible refine below_wov ?_ ?_ _) | (with_reducible refine below_drewN ?_ _) | (with_reducible refine Below.drew ?_) | (with_reducible refine Below.alloc ?_ ?_ _) | (with_reducible refine Below.setCell ?_ ?_ _) | (with_reducible exact Nat.le_refl _) | omega | (simp only [World.size_alloc, World.size_setCell, World.size_drew, Wov_size, World.heap_drewN]; omega)))), m4_1.below (by (repeat' (first | (with_reducible assumption) | (with_reducible exact Below.refl _ _) | (with_reducible refine below_wov ?_ ?_ _) | (with_reducible refine below_drewN ?_ _) | (with_reducible refine Below.drew ?_) | (with_reducible refine Below.alloc ?_ ?_ _) | (with_reducible refine Below.setCell ?_ ?_ _) | (with_reducible exact Nat.le_refl _) | omega | (simp only [World.size_alloc, World.size_setCell, World.size_drew, Wov_size, World.heap_drewN]; omega)))), m4_2.below (by (repeat' (first | (with_reducible assumption) | (with_reducible exact Below.refl _ _) | (with_reducible refine below_wov ?_ ?_ _) | (with_reducible refine below_drewN ?_ _) | (with_reducible refine Below.drew ?_) | (with_reducible refine Below.alloc ?_ ?_ _) | (with_reducible refine Below.setCell ?_ ?_ _) | (with_reducible exact Nat.le_refl _) | omega | (simp only [World.size_alloc, World.size_setCell, World.size_drew, Wov_size, World.heap_drewN]; omega)))), m4_3.below (by (repeat' (first | (with_reducible assumption) | (with_reducible exact Below.refl _ _) | (with_reducible refine below_wov ?_ ?_ _) | (with_reducible refine below_drewN ?_ _) | (with_reducible refine Below.drew ?_) | (with_reducible refine Below.alloc ?_ ?_ _) | (with_reducible refine Below.setCell ?_ ?_ _) | (with_reducible exact Nat.le_refl _) | omega | (simp only [World.size_alloc, World.size_setCell, World.size_drew, Wov_size, World.heap_drewN]; omega)))), m4_4.below (by (repeat' (first | (with_reducible assumption) | (with_reducible exact Below.refl _ _) | (with_reducible refine below_wov ?_ ?_ _) | (with_reducible refine below_drewN ?_ _) | (with_reducible refine Below.drew ?_) | (with_reducible refine Below.alloc ?_ ?_ _) | (with_reducible refine Below.setCell ?_ ?_ _) | (with_reducible exact Nat.le_refl _) | omega | (simp only [World.size_alloc, World.size_setCell, World.size_drew, Wov_size, World.heap_drewN]; omega)))), m4_5.below (by (repeat' (first | (with_reducible assumption) | (with_reducible exact Below.refl _ _) | (with_reducible refine below_wov ?_ ?_ _) | (with_reducible refine below_drewN ?_ _) | (with_reducible refine Below.drew ?_) | (with_reducible refine Below.alloc ?_ ?_ _) | (with_reducible refine Below.setCell ?_ ?_ _) | (with_reducible exact Nat.le_refl _) | omega | (simp only [World.size_alloc, World.size_setCell, World.size_drew, Wov_size, World.heap_drewN]; omega)))), m4_6.below (by (repeat' (first | (with_reducible assumption) | (with_reducible exact Below.refl _ _) | (with_reducible refine below_wov ?_ ?_ _) | (with_reducible refine below_drewN ?_ _) | (with_reducible refine Below.drew ?_) | (with_reducible refine Below.alloc ?_ ?_ _) | (with_reducible refine Below.setCell ?_ ?_ _) | (with_reducible exact Nat.le_refl _) | omega | (simp only [World.size_alloc, World.size_setCell, World.size_drew, Wov_size, World.heap_drewN]; omega)))), m4_7.below (by (repeat' (first | (with_reducible assumption) | (with_reducible exact Below.refl _ _) | (with_reducible refine below_wov ?_ ?_ _) | (with_reducible refine below_drewN ?_ _) | (with_reducible refine Below.drew ?_) | (with_reducible refine Below.alloc ?_ ?_ _) | (with_reducible refine Below.setCell ?_ ?_ _) | (with_reducible exact Nat.le_refl _) | omega | (simp only [World.size_alloc, World.size_setCell, World.size_drew, Wov_size, World.heap_drewN]; omega))))⟩ ?_
    rintro W5 ⟨hb5, m5_0, m5_1, m5_2, m5_3, m5_4, m5_5, m5_6, m5_7⟩
    clear hb4 f4_0_lt f4_0_c0 f4_0_c1 f4_2_lt f4_2_c0 f4_2_c1 f4_4_lt f4_4_c0 f4_4_c1 f4_7_lt f4_7_c0 f4_7_c1 m4_0 m4_1 m4_2 m4_3 m4_4 m4_5 m4_6 m4_7
    have f5_0_lt := m5_0.lt
    have f5_0_c0 := m5_0.c0
    have f5_0_c1 := m5_0.c1
    have f5_2_lt := m5_2.lt
    have f5_2_c0 := m5_2.c0
    have f5_2_c1 := m5_2.c1
    have f5_4_lt := m5_4.lt
    have f5_4_c0 := m5_4.c0
    have f5_4_c1 := m5_4.c1
    have f5_7_lt := m5_7.lt
    have f5_7_c0 := m5_7.c0
    have f5_7_c1 := m5_7.c1
    refine (RK.out _ m5_0.sl m5_1).mono ?_; rintro e w' ⟨rfl, q5, rfl⟩
    go_wp2_with (fail)
    refine calls_world (fun W => Below w.heap.size w W ∧ BoxM W w.heap.size n pp N cap f ∧ SlR W q M T ∧ BoxM W A1 n p1 N c1 f ∧ InS W p1 N c1 f ∧ BoxM W A2 x1 pa Z ca g1 ∧ From W W2 ∧ OwnAt W Ba pa Z g1 ∧ BoxM W A3 x1 pb Z cb g1) ⟨by (repeat' (first | (with_reducible assumption) | (with_reducible exact Below.refl _ _) | (with_reducible refine below_wov ?_ ?_ _) | (with_reducible refine below_drewN ?_ _) | (with_reducible refine Below.drew ?_) | (with_reducible refine Below.alloc ?_ ?_ _) | (with_reducible refine Below.setCell ?_ ?_ _) | (with_reducible exact Nat.le_refl _) | omega | (simp only [World.size_alloc, World.size_setCell, World.size_drew, Wov_size, World.heap_drewN]; omega))), m5_0.below (by (repeat' (first | (with_reducible assumption) | (with_reducible exact Below.refl _ _) | (with_reducible refine below_wov ?_ ?_ _) | (with_reducible refine below_drewN ?_ _) | (with_reducible refine Below.drew ?_) | (with_reducible refine Below.alloc ?_ ?_ _) | (with_reducible refine Below.setCell ?_ ?_ _) | (with_reducible exact Nat.le_refl _) | omega | (simp only [World.size_alloc, World.size_setCell, World.size_drew, Wov_size, World.heap_drewN]; omega)))), m5_1.below (by (repeat' (first | (with_reducible assumption) | (with_reducible exact Below.refl _ _) | (with_reducible refine below_wov ?_ ?_ _) | (with_reducible refine below_drewN ?_ _) | (with_reducible refine Below.drew ?_) | (with_reducible refine Below.alloc ?_ ?_ _) | (with_reducible refine Below.setCell ?_ ?_ _) | (with_reducible exact Nat.le_refl _) | omega | (simp only [World.size_alloc, World.size_setCell, World.size_drew, Wov_size, World.heap_drewN]; omega)))), m5_2.below (by (repeat' (first | (with_reducible assumption) | (with_reducible exact Below.refl _ _) | (with_reducible refine below_wov ?_ ?_ _) | (with_reducible refine below_drewN ?_ _) | (with_reducible refine Below.drew ?_) | (with_reducible refine Below.alloc ?_ ?_ _) | (with_reducible refine Below.setCell ?_ ?_ _) | (with_reducible exact Nat.le_refl _) | omega | (simp only [World.size_alloc, World.size_setCell, World.size_drew, Wov_size, World.heap_drewN]; omega)))), m5_3.below (by (repeat' (first | (with_reducible assumption) | (with_reducible exact Below.refl _ _) | (with_reducible refine below_wov ?_ ?_ _) | (with_reducible refine below_drewN ?_ _) | (with_reducible refine Below.drew ?_) | (with_reducible refine Below.alloc ?_ ?_ _) | (with_reducible refine Below.setCell ?_ ?_ _) | (with_reducible exact Nat.le_refl _) | omega | (simp only [World.size_alloc, World.size_setCell, World.size_drew, Wov_size, World.heap_drewN]; omega)))), m5_4.below (by (repeat' (first | (with_reducible assumption) | (with_reducible exact Below.refl _ _) | (with_reducible refine below_wov ?_ ?_ _) | (with_reducible refine below_drewN ?_ _) | (with_reducible refine Below.drew ?_) | (with_reducible refine Below.alloc ?_ ?_ _) | (with_reducible refine Below.setCell ?_ ?_ _) | (with_reducible exact Nat.le_refl _) | omega | (simp only [World.size_alloc, World.size_setCell, World.size_drew, Wov_size, World.heap_drewN]; omega)))), m5_5.below (by (repeat' (first | (with_reducible assumption) | (with_reducible exact Below.refl _ _) | (with_reducible refine below_wov ?_ ?_ _) | (with_reducible refine below_drewN ?_ _) | (with_reducible refine Below.drew ?_) | (with_reducible refine Below.alloc ?_ ?_ _) | (with_reducible refine Below.setCell ?_ ?_ _) | (with_reducible exact Nat.le_refl _) | omega | (simp only [World.size_alloc, World.size_setCell, World.size_drew, Wov_size, World.heap_drewN]; omega)))), m5_6.below (by (repeat' (first | (with_reducible assumption) | (with_reducible exact Below.refl _ _) | (with_reducible refine below_wov ?_ ?_ _) | (with_reducible refine below_drewN ?_ _) | (with_reducible refine Below.drew ?_) | (with_reducible refine Below.alloc ?_ ?_ _) | (with_reducible refine Below.setCell ?_ ?_ _) | (with_reducible exact Nat.le_refl _) | omega | (simp only [World.size_alloc, World.size_setCell, World.size_drew, Wov_size, World.heap_drewN]; omega)))), m5_7.below (by (repeat' (first | (with_reducible assumption) | (with_reducible exact Below.refl _ _) | (with_reducible refine below_wov ?_ ?_ _) | (with_reducible refine below_drewN ?_ _) | (with_reducible refine Below.drew ?_) | (with_reducible refine Below.alloc ?_ ?_ _) | (with_reducible refine Below.setCell ?_ ?_ _) | (with_reducible exact Nat.le_refl _) | omega | (simp only [World.size_alloc, World.size_setCell, World.size_drew, Wov_size, World.heap_drewN]; omega))))⟩ ?_
    rintro W6 ⟨hb6, m6_0, m6_1, m6_2, m6_3, m6_4, m6_5, m6_6, m6_7⟩
    clear hb5 f5_0_lt f5_0_c0 f5_0_c1 f5_2_lt f5_2_c0 f5_2_c1 f5_4_lt f5_4_c0 f5_4_c1 f5_7_lt f5_7_c0 f5_7_c1 m5_0 m5_1 m5_2 m5_3 m5_4 m5_5 m5_6 m5_7
    have f6_0_lt := m6_0.lt
    have f6_0_c0 := m6_0.c0
    have f6_0_c1 := m6_0.c1
    have f6_2_lt := m6_2.lt
    have f6_2_c0 := m6_2.c0
    have f6_2_c1 := m6_2.c1
    have f6_4_lt := m6_4.lt
    have f6_4_c0 := m6_4.c0
    have f6_4_c1 := m6_4.c1
    have f6_7_lt := m6_7.lt
    have f6_7_c0 := m6_7.c0
    have f6_7_c1 := m6_7.c1
    have AB6 := Lib.hid m6_4
    have OA6 := Lib.hid m6_6
    have F6 := Lib.hid m6_5
    have K6 : Hid (From W6 W6) := Below.refl _ _
    refine (TC.out _ _ _ m6_3).mono ?_; rintro e w' ⟨pt, ct, rfl, ho, q6, rfl⟩
    have tpt := ho.slp
    obtain ⟨Bt, hBt, ot⟩ := ho.blk
    have hAt : 0 < N → Bt < W6.heap.size + q6.bl.size := fun h => by have := (ot.at_ h).2; rw [Wov_size] at this; exact this
    clear ho
    go_wp2_with (fail)
    obtain ⟨A4, hA4⟩ : ∃ A, W6.heap.size + q6.bl.size = A := ⟨_, rfl⟩
    rw [hA4]
    rw [hA4] at hAt
    refine wp_world (fun W => Below w.heap.size w W ∧ BoxM W w.heap.size n pp N cap f ∧ SlR W q M T ∧ BoxM W A1 n p1 N c1 f ∧ InS W p1 N c1 f ∧ BoxM W A2 x1 pa Z ca g1 ∧ From W W2 ∧ OwnAt W Ba pa Z g1 ∧ BoxM W A3 x1 pb Z cb g1 ∧ BoxM W A4 n pt N ct f ∧ From W W6 ∧ OwnAt W Bt pt N f) ⟨by (repeat' (first | (with_reducible assumption) | (with_reducible exact Below.refl _ _) | (with_reducible refine below_wov ?_ ?_ _) | (with_reducible refine below_drewN ?_ _) | (with_reducible refine Below.drew ?_) | (with_reducible refine Below.alloc ?_ ?_ _) | (with_reducible refine Below.setCell ?_ ?_ _) | (with_reducible exact Nat.le_refl _) | omega | (simp only [World.size_alloc, World.size_setCell, World.size_drew, Wov_size, World.heap_drewN]; omega))), m6_0.below (by (repeat' (first | (with_reducible assumption) | (with_reducible exact Below.refl _ _) | (with_reducible refine below_wov ?_ ?_ _) | (with_reducible refine below_drewN ?_ _) | (with_reducible refine Below.drew ?_) | (with_reducible refine Below.alloc ?_ ?_ _) | (with_reducible refine Below.setCell ?_ ?_ _) | (with_reducible exact Nat.le_refl _) | omega | (simp only [World.size_alloc, World.size_setCell, World.size_drew, Wov_size, World.heap_drewN]; omega)))), m6_1.below (by (repeat' (first | (with_reducible assumption) | (with_reducible exact Below.refl _ _) | (with_reducible refine below_wov ?_ ?_ _) | (with_reducible refine below_drewN ?_ _) | (with_reducible refine Below.drew ?_) | (with_reducible refine Below.alloc ?_ ?_ _) | (with_reducible refine Below.setCell ?_ ?_ _) | (with_reducible exact Nat.le_refl _) | omega | (simp only [World.size_alloc, World.size_setCell, World.size_drew, Wov_size, World.heap_drewN]; omega)))), m6_2.below (by (repeat' (first | (with_reducible assumption) | (with_reducible exact Below.refl _ _) | (with_reducible refine below_wov ?_ ?_ _) | (with_reducible refine below_drewN ?_ _) | (with_reducible refine Below.drew ?_) | (with_reducible refine Below.alloc ?_ ?_ _) | (with_reducible refine Below.setCell ?_ ?_ _) | (with_reducible exact Nat.le_refl _) | omega | (simp only [World.size_alloc, World.size_setCell, World.size_drew, Wov_size, World.heap_drewN]; omega)))), m6_3.below (by (repeat' (first | (with_reducible assumption) | (with_reducible exact Below.refl _ _) | (with_reducible refine below_wov ?_ ?_ _) | (with_reducible refine below_drewN ?_ _) | (with_reducible refine Below.drew ?_) | (with_reducible refine Below.alloc ?_ ?_ _) | (with_reducible refine Below.setCell ?_ ?_ _) | (with_reducible exact Nat.le_refl _) | omega | (simp only [World.size_alloc, World.size_setCell, World.size_drew, Wov_size, World.heap_drewN]; omega)))), m6_4.below (by (repeat' (first | (with_reducible assumption) | (with_reducible exact Below.refl _ _) | (with_reducible refine below_wov ?_ ?_ _) | (with_reducible refine below_drewN ?_ _) | (with_reducible refine Below.drew ?_) | (with_reducible refine Below.alloc ?_ ?_ _) | (with_reducible refine Below.setCell ?_ ?_ _) | (with_reducible exact Nat.le_refl _) | omega | (simp only [World.size_alloc, World.size_setCell, World.size_drew, Wov_size, World.heap_drewN]; omega)))), m6_5.below (by (repeat' (first | (with_reducible assumption) | (with_reducible exact Below.refl _ _) | (with_reducible refine below_wov ?_ ?_ _) | (with_reducible refine below_drewN ?_ _) | (with_reducible refine Below.drew ?_) | (with_reducible refine Below.alloc ?_ ?_ _) | (with_reducible refine Below.setCell ?_ ?_ _) | (with_reducible exact Nat.le_refl _) | omega | (simp only [World.size_alloc, World.size_setCell, World.size_drew, Wov_size, World.heap_drewN]; omega)))), m6_6.below (by (repeat' (first | (with_reducible assumption) | (with_reducible exact Below.refl _ _) | (with_reducible refine below_wov ?_ ?_ _) | (with_reducible refine below_drewN ?_ _) | (with_reducible refine Below.drew ?_) | (with_reducible refine Below.alloc ?_ ?_ _) | (with_reducible refine Below.setCell ?_ ?_ _) | (with_reducible exact Nat.le_refl _) | omega | (simp only [World.size_alloc, World.size_setCell, World.size_drew, Wov_size, World.heap_drewN]; omega)))), m6_7.below (by (repeat' (first | (with_reducible assumption) | (with_reducible exact Below.refl _ _) | (with_reducible refine below_wov ?_ ?_ _) | (with_reducible refine below_drewN ?_ _) | (with_reducible refine Below.drew ?_) | (with_reducible refine Below.alloc ?_ ?_ _) | (with_reducible refine Below.setCell ?_ ?_ _) | (with_reducible exact Nat.le_refl _) | omega | (simp only [World.size_alloc, World.size_setCell, World.size_drew, Wov_size, World.heap_drewN]; omega)))), BoxM.new (tpt) (by rw [← hA4]; (try simp only [Wov_size])), K6.out.below (by (repeat' (first | (with_reducible assumption) | (with_reducible exact Below.refl _ _) | (with_reducible refine below_wov ?_ ?_ _) | (with_reducible refine below_drewN ?_ _) | (with_reducible refine Below.drew ?_) | (with_reducible refine Below.alloc ?_ ?_ _) | (with_reducible refine Below.setCell ?_ ?_ _) | (with_reducible exact Nat.le_refl _) | omega | (simp only [World.size_alloc, World.size_setCell, World.size_drew, Wov_size, World.heap_drewN]; omega)))), ot.below (by (repeat' (first | (with_reducible assumption) | (with_reducible exact Below.refl _ _) | (with_reducible refine below_wov ?_ ?_ _) | (with_reducible refine below_drewN ?_ _) | (with_reducible refine Below.drew ?_) | (with_reducible refine Below.alloc ?_ ?_ _) | (with_reducible refine Below.setCell ?_ ?_ _) | (with_reducible exact Nat.le_refl _) | omega | (simp only [World.size_alloc, World.size_setCell, World.size_drew, Wov_size, World.heap_drewN]; omega))))⟩ ?_
    rintro W7 ⟨hb7, m7_0, m7_1, m7_2, m7_3, m7_4, m7_5, m7_6, m7_7, m7_8, m7_9, m7_10⟩
    clear hb6 f6_0_lt f6_0_c0 f6_0_c1 f6_2_lt f6_2_c0 f6_2_c1 f6_4_lt f6_4_c0 f6_4_c1 f6_7_lt f6_7_c0 f6_7_c1 m6_0 m6_1 m6_2 m6_3 m6_4 m6_5 m6_6 m6_7
    have f7_0_lt := m7_0.lt
    have f7_0_c0 := m7_0.c0
    have f7_0_c1 := m7_0.c1
    have f7_2_lt := m7_2.lt
    have f7_2_c0 := m7_2.c0
    have f7_2_c1 := m7_2.c1
    have f7_4_lt := m7_4.lt
    have f7_4_c0 := m7_4.c0
    have f7_4_c1 := m7_4.c1
    have f7_7_lt := m7_7.lt
    have f7_7_c0 := m7_7.c0
    have f7_7_c1 := m7_7.c1
    have f7_8_lt := m7_8.lt
    have f7_8_c0 := m7_8.c0
    have f7_8_c1 := m7_8.c1
    clear tpt ot hA4 K6
    have HAT := Lib.hid hAt
    clear hAt
    have SMab := Lib.hid (gives_at (W := W7) (fun w' (hb : Below W7.heap.size W7 w') => SM1.out w' pa pb ca cb (m7_4.sl.below hb) (m7_7.sl.below hb)))
    have SMtd := Lib.hid (gives_at (W := W7) (fun w' (hb : Below W7.heap.size W7 w') => SM2.out w' pt pp ct cap (m7_8.sl.below hb) (m7_0.sl.below hb)))
    have SMda := Lib.hid (gives_at (W := W7) (fun w' (hb : Below W7.heap.size W7 w') => SM3.out w' pp pa cap ca (m7_0.sl.below hb) (m7_4.sl.below hb)))
    have DSoa := Lib.hid (gives_at (W := W7) (fun w' (hb : Below W7.heap.size W7 w') => DS.out w' p1 pa c1 ca (m7_2.sl.below hb) (m7_4.sl.below hb)))
    have CKo := Lib.hid (gives_at (W := W7) (fun w' (hb : Below W7.heap.size W7 w') => CK.out w' p1 c1 (m7_2.sl.below hb)))
    have RCd := Lib.hid (gives_at (W := W7) (fun w' (hb : Below W7.heap.size W7 w') => RCK.out w' pp cap (m7_0.sl.below hb)))
    refine wp_region_wov (by kernel_rfl) (by kernel_rfl) ?_
    repeat (go_big_quiet_step (first | (go_at_call_of 34 (Value.agg #[Value.int IntKind.i64 x1, Value.slice pb Z cb]); exact SMab.out _) | (go_at_call_of 34 (Value.agg #[Value.int IntKind.i64 n, Value.slice pt N ct]); exact SMtd.out _) | (go_at_call 34; exact SMda.out _) | (go_at_call 35; exact CKo.out _) | (go_at_call 36; exact RCd.out _) | (go_at_call 37; exact DSoa.out _)))
    refine wpQuiet_nil ?_
    rintro _ ⟨pq, rfl⟩
    clear SMab SMtd SMda DSoa CKo RCd
    go_wp2
    refine wp_world (fun W => Below w.heap.size w W ∧ BoxM W w.heap.size n pp N cap f ∧ SlR W q M T ∧ BoxM W A1 n p1 N c1 f ∧ InS W p1 N c1 f ∧ BoxM W A2 x1 pa Z ca g1 ∧ From W W2 ∧ OwnAt W Ba pa Z g1 ∧ BoxM W A3 x1 pb Z cb g1 ∧ BoxM W A4 n pt N ct f ∧ From W W6 ∧ OwnAt W Bt pt N f) ⟨by (repeat' (first | (with_reducible assumption) | (with_reducible exact Below.refl _ _) | (with_reducible refine below_wov ?_ ?_ _) | (with_reducible refine below_drewN ?_ _) | (with_reducible refine Below.drew ?_) | (with_reducible refine Below.alloc ?_ ?_ _) | (with_reducible refine Below.setCell ?_ ?_ _) | (with_reducible exact Nat.le_refl _) | omega | (simp only [World.size_alloc, World.size_setCell, World.size_drew, Wov_size, World.heap_drewN]; omega))), m7_0.below (by (repeat' (first | (with_reducible assumption) | (with_reducible exact Below.refl _ _) | (with_reducible refine below_wov ?_ ?_ _) | (with_reducible refine below_drewN ?_ _) | (with_reducible refine Below.drew ?_) | (with_reducible refine Below.alloc ?_ ?_ _) | (with_reducible refine Below.setCell ?_ ?_ _) | (with_reducible exact Nat.le_refl _) | omega | (simp only [World.size_alloc, World.size_setCell, World.size_drew, Wov_size, World.heap_drewN]; omega)))), m7_1.below (by (repeat' (first | (with_reducible assumption) | (with_reducible exact Below.refl _ _) | (with_reducible refine below_wov ?_ ?_ _) | (with_reducible refine below_drewN ?_ _) | (with_reducible refine Below.drew ?_) | (with_reducible refine Below.alloc ?_ ?_ _) | (with_reducible refine Below.setCell ?_ ?_ _) | (with_reducible exact Nat.le_refl _) | omega | (simp only [World.size_alloc, World.size_setCell, World.size_drew, Wov_size, World.heap_drewN]; omega)))), m7_2.below (by (repeat' (first | (with_reducible assumption) | (with_reducible exact Below.refl _ _) | (with_reducible refine below_wov ?_ ?_ _) | (with_reducible refine below_drewN ?_ _) | (with_reducible refine Below.drew ?_) | (with_reducible refine Below.alloc ?_ ?_ _) | (with_reducible refine Below.setCell ?_ ?_ _) | (with_reducible exact Nat.le_refl _) | omega | (simp only [World.size_alloc, World.size_setCell, World.size_drew, Wov_size, World.heap_drewN]; omega)))), m7_3.below (by (repeat' (first | (with_reducible assumption) | (with_reducible exact Below.refl _ _) | (with_reducible refine below_wov ?_ ?_ _) | (with_reducible refine below_drewN ?_ _) | (with_reducible refine Below.drew ?_) | (with_reducible refine Below.alloc ?_ ?_ _) | (with_reducible refine Below.setCell ?_ ?_ _) | (with_reducible exact Nat.le_refl _) | omega | (simp only [World.size_alloc, World.size_setCell, World.size_drew, Wov_size, World.heap_drewN]; omega)))), m7_4.below (by (repeat' (first | (with_reducible assumption) | (with_reducible exact Below.refl _ _) | (with_reducible refine below_wov ?_ ?_ _) | (with_reducible refine below_drewN ?_ _) | (with_reducible refine Below.drew ?_) | (with_reducible refine Below.alloc ?_ ?_ _) | (with_reducible refine Below.setCell ?_ ?_ _) | (with_reducible exact Nat.le_refl _) | omega | (simp only [World.size_alloc, World.size_setCell, World.size_drew, Wov_size, World.heap_drewN]; omega)))), m7_5.below (by (repeat' (first | (with_reducible assumption) | (with_reducible exact Below.refl _ _) | (with_reducible refine below_wov ?_ ?_ _) | (with_reducible refine below_drewN ?_ _) | (with_reducible refine Below.drew ?_) | (with_reducible refine Below.alloc ?_ ?_ _) | (with_reducible refine Below.setCell ?_ ?_ _) | (with_reducible exact Nat.le_refl _) | omega | (simp only [World.size_alloc, World.size_setCell, World.size_drew, Wov_size, World.heap_drewN]; omega)))), m7_6.below (by (repeat' (first | (with_reducible assumption) | (with_reducible exact Below.refl _ _) | (with_reducible refine below_wov ?_ ?_ _) | (with_reducible refine below_drewN ?_ _) | (with_reducible refine Below.drew ?_) | (with_reducible refine Below.alloc ?_ ?_ _) | (with_reducible refine Below.setCell ?_ ?_ _) | (with_reducible exact Nat.le_refl _) | omega | (simp only [World.size_alloc, World.size_setCell, World.size_drew, Wov_size, World.heap_drewN]; omega)))), m7_7.below (by (repeat' (first | (with_reducible assumption) | (with_reducible exact Below.refl _ _) | (with_reducible refine below_wov ?_ ?_ _) | (with_reducible refine below_drewN ?_ _) | (with_reducible refine Below.drew ?_) | (with_reducible refine Below.alloc ?_ ?_ _) | (with_reducible refine Below.setCell ?_ ?_ _) | (with_reducible exact Nat.le_refl _) | omega | (simp only [World.size_alloc, World.size_setCell, World.size_drew, Wov_size, World.heap_drewN]; omega)))), m7_8.below (by (repeat' (first | (with_reducible assumption) | (with_reducible exact Below.refl _ _) | (with_reducible refine below_wov ?_ ?_ _) | (with_reducible refine below_drewN ?_ _) | (with_reducible refine Below.drew ?_) | (with_reducible refine Below.alloc ?_ ?_ _) | (with_reducible refine Below.setCell ?_ ?_ _) | (with_reducible exact Nat.le_refl _) | omega | (simp only [World.size_alloc, World.size_setCell, World.size_drew, Wov_size, World.heap_drewN]; omega)))), m7_9.below (by (repeat' (first | (with_reducible assumption) | (with_reducible exact Below.refl _ _) | (with_reducible refine below_wov ?_ ?_ _) | (with_reducible refine below_drewN ?_ _) | (with_reducible refine Below.drew ?_) | (with_reducible refine Below.alloc ?_ ?_ _) | (with_reducible refine Below.setCell ?_ ?_ _) | (with_reducible exact Nat.le_refl _) | omega | (simp only [World.size_alloc, World.size_setCell, World.size_drew, Wov_size, World.heap_drewN]; omega)))), m7_10.below (by (repeat' (first | (with_reducible assumption) | (with_reducible exact Below.refl _ _) | (with_reducible refine below_wov ?_ ?_ _) | (with_reducible refine below_drewN ?_ _) | (with_reducible refine Below.drew ?_) | (with_reducible refine Below.alloc ?_ ?_ _) | (with_reducible refine Below.setCell ?_ ?_ _) | (with_reducible exact Nat.le_refl _) | omega | (simp only [World.size_alloc, World.size_setCell, World.size_drew, Wov_size, World.heap_drewN]; omega))))⟩ ?_
    rintro W8 ⟨hb8, m8_0, m8_1, m8_2, m8_3, m8_4, m8_5, m8_6, m8_7, m8_8, m8_9, m8_10⟩
    clear hb7 f7_0_lt f7_0_c0 f7_0_c1 f7_2_lt f7_2_c0 f7_2_c1 f7_4_lt f7_4_c0 f7_4_c1 f7_7_lt f7_7_c0 f7_7_c1 f7_8_lt f7_8_c0 f7_8_c1 m7_0 m7_1 m7_2 m7_3 m7_4 m7_5 m7_6 m7_7 m7_8 m7_9 m7_10
    have f8_0_lt := m8_0.lt
    have f8_0_c0 := m8_0.c0
    have f8_0_c1 := m8_0.c1
    have f8_2_lt := m8_2.lt
    have f8_2_c0 := m8_2.c0
    have f8_2_c1 := m8_2.c1
    have f8_4_lt := m8_4.lt
    have f8_4_c0 := m8_4.c0
    have f8_4_c1 := m8_4.c1
    have f8_7_lt := m8_7.lt
    have f8_7_c0 := m8_7.c0
    have f8_7_c1 := m8_7.c1
    have f8_8_lt := m8_8.lt
    have f8_8_c0 := m8_8.c0
    have f8_8_c1 := m8_8.c1
    have hA4B : 0 < N → A4 ≠ Bt := fun h e => by have := HAT.out h; omega
    have hsz68 := (show Below W6.heap.size W6 W8 from m8_9).size
    have F86 := Lib.hid m8_9
    have OT8 := Lib.hid m8_10
    clear m8_0 m8_1 m8_2 m8_3 m8_4 m8_5 m8_6 m8_7 m8_9 m8_10 f8_0_lt f8_0_c0 f8_0_c1 f8_2_lt f8_2_c0 f8_2_c1 f8_4_lt f8_4_c0 f8_4_c1 f8_7_lt f8_7_c0 f8_7_c1
    have b8_0 := f8_8_c0
    have b8_1 := f8_8_c1
    clear f8_8_c0 f8_8_c1
    go_loopw [16] (fun i wr => ∃ t : Nat, t ≤ N ∧ i = .int .i64 t ∧ Chg W8 Bt wr ∧ (N = 0 → wr = W8) ∧ Hid (∀ x, t ≤ x → x < N → wr.cell? ⟨Bt, x, none⟩ = some (.int .i64 (f x)) ∧ wr.frozen? ⟨Bt, x, none⟩ = false))
      (fun i _ => N - (intOf i).toNat)
    case atStart => exact ⟨0, Nat.zero_le _, rfl, Chg.refl _ _, fun _ => rfl, fun x _ hx => OT8.out.holds x hx⟩
    case round =>
      obtain ⟨t, ht, rfl, hc, h0, hh⟩ := hrel
      have e0 := (chg_cell0 (x := 0) hA4B h0 hc f8_8_lt).trans b8_0
      have e1 := (chg_cell0 (x := 1) hA4B h0 hc f8_8_lt).trans b8_1
      have hszr := hc.size
      by_cases hlt : t < N
      · obtain ⟨ept, hBt8⟩ := OT8.out.at_ (by omega)
        obtain ⟨k0, k1⟩ := hh.out t (Nat.le_refl _) hlt
        obtain ⟨v, hv⟩ : ∃ v, v = f t := ⟨_, rfl⟩
        rw [← hv] at k0
        rw [ept] at e1
        have u1 : (0 : Int) ≤ (t : Int) := by omega
        have u2 : (t : Int) < (N : Int) := by omega
        have zB : Bt < wr.heap.size := by omega
        have zA : A4 < wr.heap.size := by omega
        have H0 := Lib.hid h0
        have HE := Lib.hid ept
        clear b8_0 b8_1 hv h0 ept
        go_wp2
        go_roundw
        case rel =>
          refine ⟨t + 1, hlt, by go_num, hc.trans (Chg.set _ _ _ _), fun h => by omega, fun x hx hxN => ⟨?_, ?_⟩⟩
          · rw [World.cell?_setCell_other _ _ _ _ (fun e => by have := congrArg Addr.off e; simp at this; omega)]; exact (hh.out x (by omega) hxN).1
          · rw [World.frozen?_setCell]; exact (hh.out x (by omega) hxN).2
        case measure => simp [intOf]; omega
      · have e : t = N := by omega
        subst e
        obtain ⟨wo, rfl⟩ : ∃ wo : World, wo = wr := ⟨_, rfl⟩
        have b69 : Below W6.heap.size W6 wo := Below.trans F86.out (hc.belowAt hBt hsz68)
        have BA := AB6.out.below b69
        have OA := Lib.hid (OA6.out.below b69)
        have F2 : Hid (From wo W2) := F6.out.below b69
        have a0 := BA.c0
        have a1 := BA.c1
        have zl := BA.lt
        have hA2B : 0 < Z → A2 ≠ Ba := fun h e => by have := HAA.out h; omega
        have hsz2 := (show Below W2.heap.size W2 wo from F2.out).size
        clear hc h0 hh b8_0 b8_1 f8_8_lt m8_8 BA b69 OT8 F86
        go_wp2
        go_loopw [17] (fun i wr => ∃ s : Nat, s ≤ Z ∧ i = .int .i64 s ∧ Chg wo Ba wr ∧ (Z = 0 → wr = wo) ∧ Hid (∀ x, s ≤ x → x < Z → wr.cell? ⟨Ba, x, none⟩ = some (.int .i64 (g1 x)) ∧ wr.frozen? ⟨Ba, x, none⟩ = false))
          (fun i _ => Z - (intOf i).toNat)
        case atStart => exact ⟨0, Nat.zero_le _, rfl, Chg.refl _ _, fun _ => rfl, fun x _ hx => OA.out.holds x hx⟩
        case round =>
          clear e0 e1
          obtain ⟨s, hs, hsi, hc, h0, hh⟩ := hrel
          subst hsi
          have e0 := (chg_cell0 (x := 0) hA2B h0 hc zl).trans a0
          have e1 := (chg_cell0 (x := 1) hA2B h0 hc zl).trans a1
          have hszr2 := hc.size
          by_cases hlt2 : s < Z
          · obtain ⟨ept, hBa8⟩ := OA.out.at_ (by omega)
            obtain ⟨k0, k1⟩ := hh.out s (Nat.le_refl _) hlt2
            obtain ⟨v, hv⟩ : ∃ v, v = g1 s := ⟨_, rfl⟩
            rw [← hv] at k0
            rw [ept] at e1
            have u1 : (0 : Int) ≤ (s : Int) := by omega
            have u2 : (s : Int) < (Z : Int) := by omega
            have zB : Ba < wr.heap.size := by omega
            have zA : A2 < wr.heap.size := by omega
            have H0 := Lib.hid h0
            have HE := Lib.hid ept
            clear a0 a1 hv h0 ept
            go_wp2
            go_roundw
            case rel =>
              refine ⟨s + 1, hlt2, by go_num, hc.trans (Chg.set _ _ _ _), fun h => by omega, fun x hx hxN => ⟨?_, ?_⟩⟩
              · rw [World.cell?_setCell_other _ _ _ _ (fun e => by have := congrArg Addr.off e; simp at this; omega)]; exact (hh.out x (by omega) hxN).1
              · rw [World.frozen?_setCell]; exact (hh.out x (by omega) hxN).2
            case measure => simp [intOf]; omega
          · have e : s = Z := by omega
            subst e
            have b2 : Below W2.heap.size W2 wr := Below.trans F2.out (hc.belowAt hBa hsz2)
            have bw : Below w.heap.size w wr := HB2.out.trans (b2.mono HB2.out.size)
            have DD := D2.out.below b2
            have OO := O2.out.below b2
            have j0 := DD.c0
            have j1 := DD.c1
            have j2 := DD.lt
            have j3 := OO.c0
            have j4 := OO.c1
            have j5 := OO.lt
            have SMo := Lib.hid (SM2.out wr p1 pp c1 cap OO.sl DD.sl)
            clear hc h0 hh a0 a1 DD OO D2 O2
            go_wp2_with (fail)
            refine SMo.out.mono ?_; rintro e w' ⟨rfl, qz, rfl⟩
            go_wp2
            all_goals
              go_ret
              exact gives_bool (by simp) (below_wov bw (by have := bw.size; omega) _)
end Go.Proofs.Ytlcbpckinjkfeaa.dbmTells
