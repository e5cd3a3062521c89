/- The law MinusOrder (walk): what is left by none is the zone; that by some, and one more, is what is left, less that one. No condition. -/
import Derived.Test.YtbgbhfcnadjhdaaJ7
import Derived.Test.YtbgbhfcnadjhdaaJ13
import Derived.Deep.Cut
namespace Go.Proofs.Ytbgbhfcnadjhdaa.minusOrder
open Go.ChangeShapes Go.WideShapes Go.ChangeAt Go.RowKit
set_option linter.unusedVariables false
set_option linter.unusedSimpArgs false
attribute [local go_sem] Nat.add_assoc Nat.add_lt_add_iff_left lit_lt_add

set_option maxRecDepth 100000 in
set_option maxHeartbeats 16000000 in
theorem walk (a : Nat → Int) (wa : FitsZ a) (q : Option Addr) (cq : Nat) (l : List (Nat → Int)) (b : Nat → Int) (wb : FitsZ b) (w : World) (hS : SlZ w q l) (hF : ∀ z, z ∈ l → FitsZ z) (hN : l.length ≤ maxLen) (hQ : q = none → cq = 0) :
    Calls Try.prog 6 #[zoneV a, .slice q l.length cq, zoneV b] w (Gives w (.bool true)) := by
  have HA := Lib.hid alive11
  unfold maxLen at hN
  by_cases hbig : 4 < l.length
  · clear hS hF hQ wa wb
    unfold zoneV
    go_enter Try.func6, Try.ntmps6
    go_wp2_with (fail)
    refine (HA.out _).mono ?_; rintro e w' ⟨rfl, q0, rfl⟩
    go_wp2
    all_goals
      go_ret
      exact gives_bool (by simp) (by (repeat' (first | (with_reducible assumption) | (with_reducible exact Below.refl _ _) | (with_reducible refine below_wov ?_ ?_ _) | (with_reducible refine below_drewN ?_ _) | (with_reducible refine Below.drew ?_) | (with_reducible refine Below.alloc ?_ ?_ _) | (with_reducible refine Below.setCell ?_ ?_ _) | (with_reducible exact Nat.le_refl _) | omega | (simp only [World.size_alloc, World.size_setCell, World.size_drew, Wov_size, World.heap_drewN]; omega))))
  · have hl4 : l.length ≤ 4 := by omega
    obtain ⟨⟨m, e⟩, hm⟩ : ∃ r, r = leftZ a l := ⟨_, rfl⟩
    obtain ⟨LB, hLB⟩ : ∃ LB, LB = l ++ [b] := ⟨_, rfl⟩
    have HLB := Lib.hid hLB
    obtain ⟨⟨al, f⟩, hal⟩ : ∃ r, r = leftZ a LB := ⟨_, rfl⟩
    have L1 : Hid (∀ W, SlZ W q l → Calls Try.prog 15 #[.agg #[.int .i64 (a 0), .int .i64 (a 1), .int .i64 (a 2), .int .i64 (a 3), .int .i64 (a 4), .int .i64 (a 5)], .slice q l.length cq] W (zlC W (m, e))) := fun W h => by
      rw [hm]; exact left_any a q cq l W wa hF h (by omega)
    have L2 : Hid (∀ p c W, SlZ W p LB → Calls Try.prog 15 #[.agg #[.int .i64 (a 0), .int .i64 (a 1), .int .i64 (a 2), .int .i64 (a 3), .int .i64 (a 4), .int .i64 (a 5)], .slice p LB.length c] W (zlC W (al, f))) := fun p c W h => by
      rw [hal]; exact left_any a p c LB W wa (fun z hz => by
        rw [hLB] at hz
        rcases List.mem_append.1 hz with h | h
        · exact hF z h
        · rw [List.mem_singleton] at h; rw [h]; exact wb) h (by rw [hLB]; simp; omega)
    unfold zlC at L1 L2
    dsimp only at L1 L2
    have HM := Lib.hid hm
    have HAL := Lib.hid hal
    have SL := Lib.hid hS
    have HQ := Lib.hid hQ
    have HWA := Lib.hid wa
    have HWB := Lib.hid wb
    clear hm hal hS hF hQ wa wb hLB
    unfold zoneV
    go_enter Try.func6, Try.ntmps6
    go_wp2_with (fail)
    refine calls_world (fun W => Below w.heap.size w W ∧ BoxZ W w.heap.size a ∧ BoxZ W (w.heap.size + 1) b) ⟨by (repeat' (first | (with_reducible assumption) | (with_reducible exact Below.refl _ _) | (with_reducible refine below_wov ?_ ?_ _) | (with_reducible refine below_drewN ?_ _) | (with_reducible refine Below.drew ?_) | (with_reducible refine Below.alloc ?_ ?_ _) | (with_reducible refine Below.setCell ?_ ?_ _) | (with_reducible exact Nat.le_refl _) | omega | (simp only [World.size_alloc, World.size_setCell, World.size_drew, Wov_size, World.heap_drewN]; omega))), (BoxZ.new (W := w) (t := 24) rfl).below (by (repeat' (first | (with_reducible assumption) | (with_reducible exact Below.refl _ _) | (with_reducible refine below_wov ?_ ?_ _) | (with_reducible refine below_drewN ?_ _) | (with_reducible refine Below.drew ?_) | (with_reducible refine Below.alloc ?_ ?_ _) | (with_reducible refine Below.setCell ?_ ?_ _) | (with_reducible exact Nat.le_refl _) | omega | (simp only [World.size_alloc, World.size_setCell, World.size_drew, Wov_size, World.heap_drewN]; omega)))), BoxZ.new (W := World.alloc w (.cells #[.int .i64 (a 0), .int .i64 (a 1), .int .i64 (a 2), .int .i64 (a 3), .int .i64 (a 4), .int .i64 (a 5)] 24)) (z := b) (t := 24) (by simp)⟩ ?_
    rintro W1 ⟨hb1, m1, m2⟩
    have hs1 := hb1.size
    refine (HA.out _).mono ?_; rintro e w' ⟨rfl, q0, rfl⟩
    have a0 := m1.c0
    have a1 := m1.c1
    have a2 := m1.c2
    have a3 := m1.c3
    have a4 := m1.c4
    have a5 := m1.c5
    have la := m1.lt
    go_wp2_with (fail)
    refine (L1.out _ (SL.out.below (by (repeat' (first | (with_reducible assumption) | (with_reducible exact Below.refl _ _) | (with_reducible refine below_wov ?_ ?_ _) | (with_reducible refine below_drewN ?_ _) | (with_reducible refine Below.drew ?_) | (with_reducible refine Below.alloc ?_ ?_ _) | (with_reducible refine Below.setCell ?_ ?_ _) | (with_reducible exact Nat.le_refl _) | omega | (simp only [World.size_alloc, World.size_setCell, World.size_drew, Wov_size, World.heap_drewN]; omega)))))).mono ?_; rintro e w' ⟨⟨p1, c1, rfl, _, ho1⟩, q1, rfl⟩
    have s1 := ho1.slz
    clear ho1 a0 a1 a2 a3 a4 a5 la L1
    go_wp2
    have s2 := s1
    simp only [Wov_Wov] at s2
    refine wp_world (fun W => Below w.heap.size w W ∧ BoxZ W w.heap.size a ∧ BoxZ W (w.heap.size + 1) b ∧ SlZ W p1 m) ⟨by (repeat' (first | (with_reducible assumption) | (with_reducible exact Below.refl _ _) | (with_reducible refine below_wov ?_ ?_ _) | (with_reducible refine below_drewN ?_ _) | (with_reducible refine Below.drew ?_) | (with_reducible refine Below.alloc ?_ ?_ _) | (with_reducible refine Below.setCell ?_ ?_ _) | (with_reducible exact Nat.le_refl _) | omega | (simp only [World.size_alloc, World.size_setCell, World.size_drew, Wov_size, World.heap_drewN]; omega))), m1.below (by (repeat' (first | (with_reducible assumption) | (with_reducible exact Below.refl _ _) | (with_reducible refine below_wov ?_ ?_ _) | (with_reducible refine below_drewN ?_ _) | (with_reducible refine Below.drew ?_) | (with_reducible refine Below.alloc ?_ ?_ _) | (with_reducible refine Below.setCell ?_ ?_ _) | (with_reducible exact Nat.le_refl _) | omega | (simp only [World.size_alloc, World.size_setCell, World.size_drew, Wov_size, World.heap_drewN]; omega)))), m2.below (by (repeat' (first | (with_reducible assumption) | (with_reducible exact Below.refl _ _) | (with_reducible refine below_wov ?_ ?_ _) | (with_reducible refine below_drewN ?_ _) | (with_reducible refine Below.drew ?_) | (with_reducible refine Below.alloc ?_ ?_ _) | (with_reducible refine Below.setCell ?_ ?_ _) | (with_reducible exact Nat.le_refl _) | omega | (simp only [World.size_alloc, World.size_setCell, World.size_drew, Wov_size, World.heap_drewN]; omega)))), s2.below (by (repeat' (first | (with_reducible assumption) | (with_reducible exact Below.refl _ _) | (with_reducible refine below_wov ?_ ?_ _) | (with_reducible refine below_drewN ?_ _) | (with_reducible refine Below.drew ?_) | (with_reducible refine Below.alloc ?_ ?_ _) | (with_reducible refine Below.setCell ?_ ?_ _) | (with_reducible exact Nat.le_refl _) | omega | (simp only [World.size_alloc, World.size_setCell, World.size_drew, Wov_size, World.heap_drewN]; omega))))⟩ ?_
    rintro W2 ⟨hb2, n1, n2, n3⟩
    have hs2 := hb2.size
    have lb2 := n2.lt
    have a0 := n1.c0
    have a1 := n1.c1
    have a2 := n1.c2
    have a3 := n1.c3
    have a4 := n1.c4
    have a5 := n1.c5
    have b0 := n2.c0
    have b1 := n2.c1
    have b2 := n2.c2
    have b3 := n2.c3
    have b4 := n2.c4
    have b5 := n2.c5
    have N1 := Lib.hid n1
    have N2 := Lib.hid n2
    have N3 := Lib.hid n3
    have SL2 := Lib.hid (SL.out.below hb2)
    clear hb1 m1 m2 s1 s2 n1 n2 n3 SL hs1
    go_cut [10, 11] from 93 (fun s10 s11 V => ∃ (p : Option Addr) (c : Nat), s10 = .slice p al.length c ∧ s11 = .int .i64 f ∧ Below W2.heap.size W2 V ∧ SlZ V p al)
    case first =>
      go_region_held3 (fun w' => w'.cell? ⟨w.heap.size, 0, none⟩ = some (.int .i64 (a 0)) ∧ w'.cell? ⟨w.heap.size, 1, none⟩ = some (.int .i64 (a 1)) ∧ w'.cell? ⟨w.heap.size, 2, none⟩ = some (.int .i64 (a 2)) ∧ w'.cell? ⟨w.heap.size, 3, none⟩ = some (.int .i64 (a 3)) ∧ w'.cell? ⟨w.heap.size, 4, none⟩ = some (.int .i64 (a 4)) ∧ w'.cell? ⟨w.heap.size, 5, none⟩ = some (.int .i64 (a 5)) ∧ w'.cell? ⟨w.heap.size + 1, 0, none⟩ = some (.int .i64 (b 0)) ∧ w'.cell? ⟨w.heap.size + 1, 1, none⟩ = some (.int .i64 (b 1)) ∧ w'.cell? ⟨w.heap.size + 1, 2, none⟩ = some (.int .i64 (b 2)) ∧ w'.cell? ⟨w.heap.size + 1, 3, none⟩ = some (.int .i64 (b 3)) ∧ w'.cell? ⟨w.heap.size + 1, 4, none⟩ = some (.int .i64 (b 4)) ∧ w'.cell? ⟨w.heap.size + 1, 5, none⟩ = some (.int .i64 (b 5)))
        ((simp [go_sem, *]))
        (first
        | (go_at_call 15; (refine (L2.out p2 c2 _ (HO2.out.below (by (repeat' (first | (with_reducible assumption) | (with_reducible exact Below.refl _ _) | (with_reducible refine below_wov ?_ ?_ _) | (with_reducible refine below_drewN ?_ _) | (with_reducible refine Below.drew ?_) | (with_reducible refine Below.alloc ?_ ?_ _) | (with_reducible refine Below.setCell ?_ ?_ _) | (with_reducible exact Nat.le_refl _) | omega | (simp only [World.size_alloc, World.size_setCell, World.size_drew, Wov_size, World.heap_drewN]; omega)))))).mono ?_); rintro e w' ⟨⟨p3, c3, rfl, _, ho3⟩, q3, rfl⟩; have s3 := Lib.hid ho3.slz; clear ho3)
        | (refine step_appZ _ _ rfl (.const (.slice none 0 0)) (.tmp 35) rfl rfl (.slice none 0 0) [] l rfl (World.ownsRow_nil _ _ _ _) q cq rfl HQ.out (SL2.out.below (by (repeat' (first | (with_reducible assumption) | (with_reducible exact Below.refl _ _) | (with_reducible refine below_wov ?_ ?_ _) | (with_reducible refine below_drewN ?_ _) | (with_reducible refine Below.drew ?_) | (with_reducible refine Below.alloc ?_ ?_ _) | (with_reducible refine Below.setCell ?_ ?_ _) | (with_reducible exact Nat.le_refl _) | omega | (simp only [World.size_alloc, World.size_setCell, World.size_drew, Wov_size, World.heap_drewN]; omega))))) (by simp; omega) (Nat.le_refl _) ?_; intro v1 w1 ho1 hg1; have hx1 := row_grown (e := 24) (World.ownsRow_nil _ _ _ _) (Below.refl _ _) hg1 (Nat.le_refl _); have hw1 : Below W2.heap.size W2 w1 := Below.trans (by (repeat' (first | (with_reducible assumption) | (with_reducible exact Below.refl _ _) | (with_reducible refine below_wov ?_ ?_ _) | (with_reducible refine below_drewN ?_ _) | (with_reducible refine Below.drew ?_) | (with_reducible refine Below.alloc ?_ ?_ _) | (with_reducible refine Below.setCell ?_ ?_ _) | (with_reducible exact Nat.le_refl _) | omega | (simp only [World.size_alloc, World.size_setCell, World.size_drew, Wov_size, World.heap_drewN]; omega)))) (hx1.mono (by (first | omega | ((simp only [World.size_alloc, World.size_setCell, World.size_drew, Wov_size, World.heap_drewN, Array.size_append]) <;> omega)))); have ka := N1.out.below hw1; have kb := N2.out.below hw1; have k0 := ka.c0; have k1 := ka.c1; have k2 := ka.c2; have k3 := ka.c3; have k4 := ka.c4; have k5 := ka.c5; have l0 := kb.c0; have l1 := kb.c1; have l2 := kb.c2; have l3 := kb.c3; have l4 := kb.c4; have l5 := kb.c5; clear ka kb; have hz1 := hx1.size; (try simp only [World.size_alloc, World.size_drew] at hz1); have hy1 := hw1.size; rw [List.nil_append] at ho1; obtain ⟨p', c', hv', _, _⟩ := ownZ_of_row (w := w) ho1 (by (first | omega | ((simp only [World.size_alloc, World.size_setCell, World.size_drew, Wov_size, World.heap_drewN, Array.size_append]) <;> omega))); subst hv'; have HO1 := Lib.hid ho1; have HX1 := Lib.hid hx1; clear ho1 hg1 hx1)
        | (refine step_appZ _ _ rfl (.tmp 36) (.tmp 38) rfl rfl (.slice p' l.length c') l [b] rfl (row_below HO1.out (by (repeat' (first | (with_reducible assumption) | (with_reducible exact Below.refl _ _) | (with_reducible refine below_wov ?_ ?_ _) | (with_reducible refine below_drewN ?_ _) | (with_reducible refine Below.drew ?_) | (with_reducible refine Below.alloc ?_ ?_ _) | (with_reducible refine Below.setCell ?_ ?_ _) | (with_reducible exact Nat.le_refl _) | omega | (simp only [World.size_alloc, World.size_setCell, World.size_drew, Wov_size, World.heap_drewN]; omega))))) (some ⟨_, 0, none⟩) 1 rfl (fun h => by cases h) ?slz (by simp; omega) (by (first | omega | ((simp only [World.size_alloc, World.size_setCell, World.size_drew, Wov_size, World.heap_drewN, Array.size_append]) <;> omega))) ?_; (case slz => (first | (exact slz_one) | (refine SlZ.below (slz_one (t := 24)) ?_; (repeat' (first | (with_reducible assumption) | (with_reducible exact Below.refl _ _) | (with_reducible refine below_wov ?_ ?_ _) | (with_reducible refine below_drewN ?_ _) | (with_reducible refine Below.drew ?_) | (with_reducible refine Below.alloc ?_ ?_ _) | (with_reducible refine Below.setCell ?_ ?_ _) | (with_reducible exact Nat.le_refl _) | omega | (simp only [World.size_alloc, World.size_setCell, World.size_drew, Wov_size, World.heap_drewN]; omega))); done) | (refine SlZ.below (SlZ.below (SlZ.below (slz_one (X := W2) (t := 24)) ?_) HX1.out) ?_ <;> (repeat' (first | (with_reducible assumption) | (with_reducible exact Below.refl _ _) | (with_reducible refine below_wov ?_ ?_ _) | (with_reducible refine below_drewN ?_ _) | (with_reducible refine Below.drew ?_) | (with_reducible refine Below.alloc ?_ ?_ _) | (with_reducible refine Below.setCell ?_ ?_ _) | (with_reducible exact Nat.le_refl _) | omega | (simp only [World.size_alloc, World.size_setCell, World.size_drew, Wov_size, World.heap_drewN]; omega)))))); rw [← HLB.out]; intro v2 w2 ho2 hg2; have hx2 := row_grown (row_below HO1.out (by (repeat' (first | (with_reducible assumption) | (with_reducible exact Below.refl _ _) | (with_reducible refine below_wov ?_ ?_ _) | (with_reducible refine below_drewN ?_ _) | (with_reducible refine Below.drew ?_) | (with_reducible refine Below.alloc ?_ ?_ _) | (with_reducible refine Below.setCell ?_ ?_ _) | (with_reducible exact Nat.le_refl _) | omega | (simp only [World.size_alloc, World.size_setCell, World.size_drew, Wov_size, World.heap_drewN]; omega))))) (Below.refl _ _) hg2 (by (first | omega | ((simp only [World.size_alloc, World.size_setCell, World.size_drew, Wov_size, World.heap_drewN, Array.size_append]) <;> omega))); have hw2 : Below W2.heap.size W2 w2 := Below.trans (by (repeat' (first | (with_reducible assumption) | (with_reducible exact Below.refl _ _) | (with_reducible refine below_wov ?_ ?_ _) | (with_reducible refine below_drewN ?_ _) | (with_reducible refine Below.drew ?_) | (with_reducible refine Below.alloc ?_ ?_ _) | (with_reducible refine Below.setCell ?_ ?_ _) | (with_reducible exact Nat.le_refl _) | omega | (simp only [World.size_alloc, World.size_setCell, World.size_drew, Wov_size, World.heap_drewN]; omega)))) (hx2.mono (by (first | omega | ((simp only [World.size_alloc, World.size_setCell, World.size_drew, Wov_size, World.heap_drewN, Array.size_append]) <;> omega)))); have ka := N1.out.below hw2; have kb := N2.out.below hw2; have g0 := ka.c0; have g1 := ka.c1; have g2 := ka.c2; have g3 := ka.c3; have g4 := ka.c4; have g5 := ka.c5; have j0 := kb.c0; have j1 := kb.c1; have j2 := kb.c2; have j3 := kb.c3; have j4 := kb.c4; have j5 := kb.c5; clear ka kb; have hz2 := hw2.size; obtain ⟨p2, c2, hv2, _, ho9⟩ := ownZ_of_row (w := w) ho2 (by (first | omega | ((simp only [World.size_alloc, World.size_setCell, World.size_drew, Wov_size, World.heap_drewN, Array.size_append]) <;> omega))); subst hv2; have HO2 := Lib.hid ho9.slz; clear ho2 ho9 hg2 hx2))
      all_goals go_wp2_with (fail)
      all_goals go_meet
      all_goals exact ⟨p3, c3, rfl, rfl, by (repeat' (first | (with_reducible assumption) | (with_reducible exact Below.refl _ _) | (with_reducible refine below_wov ?_ ?_ _) | (with_reducible refine below_drewN ?_ _) | (with_reducible refine Below.drew ?_) | (with_reducible refine Below.alloc ?_ ?_ _) | (with_reducible refine Below.setCell ?_ ?_ _) | (with_reducible exact Nat.le_refl _) | omega | (simp only [World.size_alloc, World.size_setCell, World.size_drew, Wov_size, World.heap_drewN]; omega))), s3.out.below (by (repeat' (first | (with_reducible assumption) | (with_reducible exact Below.refl _ _) | (with_reducible refine below_wov ?_ ?_ _) | (with_reducible refine below_drewN ?_ _) | (with_reducible refine Below.drew ?_) | (with_reducible refine Below.alloc ?_ ?_ _) | (with_reducible refine Below.setCell ?_ ?_ _) | (with_reducible exact Nat.le_refl _) | omega | (simp only [World.size_alloc, World.size_setCell, World.size_drew, Wov_size, World.heap_drewN]; omega))))⟩
    case rest =>
      obtain ⟨p9, c9, rfl, rfl, hb9, h9⟩ := hcut
      have hz9 := hb9.size
      clear a0 a1 a2 a3 a4 a5 b0 b1 b2 b3 b4 b5
      by_cases he : e = 0
      · by_cases hf : f = 0
        · subst he hf
          have q1 := HM.out.symm
          have q2 : leftZ a (l ++ [b]) = (al, 0) := by rw [← HLB.out]; exact HAL.out.symm
          obtain ⟨hfl, hmz⟩ := order_law q1 q2
          have okb : okZ b = true := (left_ok q2).2.1 b (by simp)
          have oka : okZ a = true := (left_ok q1).1
          have okm := (points_law q1).2.2.1
          have lm := left_len q1
          have lal := left_len q2
          have MM : Hid (∀ t, t < m.length → ∀ M, M = (minusZ (nthZ m t) b).1 → ∀ W, Calls Try.prog 13 #[.agg #[.int .i64 (nthZ m t 0), .int .i64 (nthZ m t 1), .int .i64 (nthZ m t 2), .int .i64 (nthZ m t 3), .int .i64 (nthZ m t 4), .int .i64 (nthZ m t 5)], .agg #[.int .i64 (b 0), .int .i64 (b 1), .int .i64 (b 2), .int .i64 (b 3), .int .i64 (b 4), .int .i64 (b 5)]] W (zlC W (M, 0))) := fun t ht M hM W => by
            have h1 := minus_any (nthZ m t) b (okZ_fits (okm _ (nthZ_mem ht))) (okZ_fits okb) W
            rw [show minusZ (nthZ m t) b = (M, 0) from Prod.ext hM.symm (hmz _ (nthZ_mem ht))] at h1
            exact h1
          have LN : Hid (∀ W, Calls Try.prog 15 #[.agg #[.int .i64 (a 0), .int .i64 (a 1), .int .i64 (a 2), .int .i64 (a 3), .int .i64 (a 4), .int .i64 (a 5)], .slice none 0 0] W (zlC W ([a], 0))) := fun W => by
            have h1 := left_any a none 0 [] W (okZ_fits oka) (fun z hz => by cases hz) (.inl rfl) (by simp)
            rw [left_none oka] at h1
            exact h1
          have SM : Hid (∀ p c q d W, SlZ W p al → SlZ W q al → Calls Try.prog 17 #[.slice p al.length c, .slice q al.length d] W (Gives W (.bool true))) := fun p c q d W h1 h2 => by
            have h3 := same11_any p q c d al al W h1 h2 (by omega) (by omega)
            rw [sameL_refl] at h3
            exact h3
          have E1 : eq6 (a 0) (a 1) (a 2) (a 3) (a 4) (a 5) (a 0) (a 1) (a 2) (a 3) (a 4) (a 5) = true := by simp [eq6]
          unfold zlC at MM LN
          dsimp only at MM LN
          have KA := Lib.hid (N1.out.below hb9)
          have KB := Lib.hid (N2.out.below hb9)
          have KM := Lib.hid (N3.out.below hb9)
          have H9 := Lib.hid h9
          have HFL := Lib.hid hfl
          have HB9 := Lib.hid (hb2.trans (hb9.mono hs2))
          clear q1 q2 hfl hmz okb oka okm h9 HM HAL HLB L2 HQ HWA HWB N1 N2 N3 SL2 HA
          go_wp2_with (fail)
          go_loopw [12, 13] (fun v i X => ∃ (t : Nat) (K : List (Nat → Int)) (pK : Option Addr) (cK : Nat), t ≤ m.length ∧ i = .int .i64 t ∧ v = .slice pK K.length cK ∧ Below wc.heap.size wc X ∧ K.length ≤ 6 * t ∧ Hid (X.ownsRow wc.heap.size 24 6 (.slice pK K.length cK) K.length (cellsZ K)) ∧ Hid (K = flatZ b (m.take t)))
            (fun _ i _ => m.length - (intOf i).toNat)
          case atStart => exact ⟨0, [], none, 0, by omega, rfl, rfl, Below.refl _ _, by simp, World.ownsRow_nil _ _ _ _, rfl⟩
          case round =>
            obtain ⟨t, K, pK, cK, ht, rfl, rfl, hB, hK6, hrow, hKe⟩ := hrel
            have szr := hB.size
            by_cases hlt : t < m.length
            · obtain ⟨A, o, rfl, hA, hv⟩ := KM.out.resolve_left (fun h => by rw [h] at hlt; simp at hlt)
              have hlA : A < wr.heap.size := Nat.lt_of_lt_of_le hA szr
              obtain ⟨g0, g1, g2, g3, g4, g5⟩ := slz_cells (W := wr) (fun i j hi hj => (hB.cell (p := ⟨A, o + (i * 6 + j), none⟩) hA).trans (hv i j hi hj)) hlt
              have kb := KB.out.below hB
              have b0 := kb.c0
              have b1 := kb.c1
              have b2 := kb.c2
              have b3 := kb.c3
              have b4 := kb.c4
              have b5 := kb.c5
              have lb := kb.lt
              obtain ⟨M, hM⟩ : ∃ M, M = (minusZ (nthZ m t) b).1 := ⟨_, rfl⟩
              have hM6 : M.length ≤ 6 := by rw [hM]; exact minus_len _ _
              have MN := MM.out t hlt M hM
              have hKe2 : Hid (K ++ M = flatZ b (m.take (t + 1))) := by
                show _ = _
                rw [flat_take hlt, ← hKe.out, hM]
              obtain ⟨KM2, hKM⟩ : ∃ KM, KM = K ++ M := ⟨_, rfl⟩
              have hlen : KM2.length = K.length + M.length := by rw [hKM, List.length_append]
              rw [← hKM] at hKe2
              have HKM := Lib.hid hKM
              obtain ⟨z, hz⟩ : ∃ z, z = nthZ m t := ⟨_, rfl⟩
              rw [← hz] at g0 g1 g2 g3 g4 g5 MN
              have MNH := Lib.hid MN
              have t0 : (0 : Int) ≤ (t : Int) := by omega
              have t1 : (t : Int) < (m.length : Int) := by omega
              clear hM hKM MN hz hv kb hKe MM KM KA LN SM
              go_wp2_with (fail)
              go_region_held3 (fun w' => w'.cell? ⟨A, o + t * 6, none⟩ = some (.int .i64 (z 0)) ∧ w'.cell? ⟨A, o + (t * 6 + 1), none⟩ = some (.int .i64 (z 1)) ∧ w'.cell? ⟨A, o + (t * 6 + 2), none⟩ = some (.int .i64 (z 2)) ∧ w'.cell? ⟨A, o + (t * 6 + 3), none⟩ = some (.int .i64 (z 3)) ∧ w'.cell? ⟨A, o + (t * 6 + 4), none⟩ = some (.int .i64 (z 4)) ∧ w'.cell? ⟨A, o + (t * 6 + 5), none⟩ = some (.int .i64 (z 5)) ∧ w'.cell? ⟨w.heap.size + 1, 0, none⟩ = some (.int .i64 (b 0)) ∧ w'.cell? ⟨w.heap.size + 1, 1, none⟩ = some (.int .i64 (b 1)) ∧ w'.cell? ⟨w.heap.size + 1, 2, none⟩ = some (.int .i64 (b 2)) ∧ w'.cell? ⟨w.heap.size + 1, 3, none⟩ = some (.int .i64 (b 3)) ∧ w'.cell? ⟨w.heap.size + 1, 4, none⟩ = some (.int .i64 (b 4)) ∧ w'.cell? ⟨w.heap.size + 1, 5, none⟩ = some (.int .i64 (b 5)))
                ((simp [go_sem, *]))
                ((go_at_call 13; (refine (MNH.out _).mono ?_); rintro e w' ⟨⟨pM, cM, rfl, hpc, hoM⟩, qm, rfl⟩; have hsM := Lib.hid hoM.slz; clear hoM))
              go_wp2_with (at_builtin; refine wpList_appZ _ wc.heap.size rfl _ _ rfl rfl _ K M rfl (row_below hrow.out (by (repeat' (first | (with_reducible assumption) | (with_reducible exact Below.refl _ _) | (with_reducible refine below_wov ?_ ?_ _) | (with_reducible refine below_drewN ?_ _) | (with_reducible refine Below.drew ?_) | (with_reducible refine Below.alloc ?_ ?_ _) | (with_reducible refine Below.setCell ?_ ?_ _) | (with_reducible exact Nat.le_refl _) | omega | (simp only [World.size_alloc, World.size_setCell, World.size_drew, Wov_size, World.heap_drewN]; omega))))) pM cM rfl hpc hsM.out (by omega) (by (first | omega | ((simp only [World.size_alloc, World.size_setCell, World.size_drew, Wov_size, World.heap_drewN, Array.size_append]) <;> omega))) ?_; (intro v' w1 ho hg; have hgx := Lib.hid (row_grown (row_below hrow.out (by (repeat' (first | (with_reducible assumption) | (with_reducible exact Below.refl _ _) | (with_reducible refine below_wov ?_ ?_ _) | (with_reducible refine below_drewN ?_ _) | (with_reducible refine Below.drew ?_) | (with_reducible refine Below.alloc ?_ ?_ _) | (with_reducible refine Below.setCell ?_ ?_ _) | (with_reducible exact Nat.le_refl _) | omega | (simp only [World.size_alloc, World.size_setCell, World.size_drew, Wov_size, World.heap_drewN]; omega))))) (show Below wc.heap.size wc _ from by (repeat' (first | (with_reducible assumption) | (with_reducible exact Below.refl _ _) | (with_reducible refine below_wov ?_ ?_ _) | (with_reducible refine below_drewN ?_ _) | (with_reducible refine Below.drew ?_) | (with_reducible refine Below.alloc ?_ ?_ _) | (with_reducible refine Below.setCell ?_ ?_ _) | (with_reducible exact Nat.le_refl _) | omega | (simp only [World.size_alloc, World.size_setCell, World.size_drew, Wov_size, World.heap_drewN]; omega)))) hg (by (first | omega | ((simp only [World.size_alloc, World.size_setCell, World.size_drew, Wov_size, World.heap_drewN, Array.size_append]) <;> omega)))); obtain ⟨p', c', hv', hpc', _⟩ := ownZ_of_row (w := wc) ho (Nat.le_refl _); subst hv'; rw [← HKM.out] at ho ⊢; have HO9 := Lib.hid ho; clear ho hg))
              go_roundw
              case rel => exact ⟨t + 1, KM2, p', c', by omega, by go_num, by rw [hlen], hgx.out, by omega, HO9.out, hKe2.out⟩
              case measure => simp [intOf]; omega
            · obtain rfl : t = m.length := by omega
              have hKe2 := hKe.out
              rw [List.take_length, ← HFL.out] at hKe2
              subst hKe2
              obtain ⟨p', c', hv', hpc', hok⟩ := ownZ_of_row (w := w) hrow.out (by (first | omega | ((simp only [World.size_alloc, World.size_setCell, World.size_drew, Wov_size, World.heap_drewN, Array.size_append]) <;> omega)))
              simp only [Value.slice.injEq] at hv'
              obtain ⟨rfl, _, rfl⟩ := hv'
              have OK := Lib.hid hok.slz
              have ka := KA.out.below hB
              have a0 := ka.c0
              have a1 := ka.c1
              have a2 := ka.c2
              have a3 := ka.c3
              have a4 := ka.c4
              have a5 := ka.c5
              have la := ka.lt
              have HBr := Lib.hid (HB9.out.trans (hB.mono (by (first | omega | ((simp only [World.size_alloc, World.size_setCell, World.size_drew, Wov_size, World.heap_drewN, Array.size_append]) <;> omega)))))
              have H9r := Lib.hid (H9.out.below hB)
              have ka' := Lib.hid ka
              clear hok hrow hKe MM KM ka
              go_wp2_with (fail)
              refine (LN.out _).mono ?_; rintro e w' ⟨⟨p5, c5, rfl, _, ho5⟩, q5, rfl⟩
              go_wp2_with (fail)
              refine wp_world (fun W => Below w.heap.size w W ∧ BoxZ W w.heap.size a ∧ SlZ W p5 [a] ∧ SlZ W p9 K ∧ SlZ W pK K) ⟨HBr.out.trans (by (repeat' (first | (with_reducible assumption) | (with_reducible exact Below.refl _ _) | (with_reducible refine below_wov ?_ ?_ _) | (with_reducible refine below_drewN ?_ _) | (with_reducible refine Below.drew ?_) | (with_reducible refine Below.alloc ?_ ?_ _) | (with_reducible refine Below.setCell ?_ ?_ _) | (with_reducible exact Nat.le_refl _) | omega | (simp only [World.size_alloc, World.size_setCell, World.size_drew, Wov_size, World.heap_drewN]; omega)))), ka'.out.below (by (repeat' (first | (with_reducible assumption) | (with_reducible exact Below.refl _ _) | (with_reducible refine below_wov ?_ ?_ _) | (with_reducible refine below_drewN ?_ _) | (with_reducible refine Below.drew ?_) | (with_reducible refine Below.alloc ?_ ?_ _) | (with_reducible refine Below.setCell ?_ ?_ _) | (with_reducible exact Nat.le_refl _) | omega | (simp only [World.size_alloc, World.size_setCell, World.size_drew, Wov_size, World.heap_drewN]; omega)))), ho5.slz, H9r.out.below (by (repeat' (first | (with_reducible assumption) | (with_reducible exact Below.refl _ _) | (with_reducible refine below_wov ?_ ?_ _) | (with_reducible refine below_drewN ?_ _) | (with_reducible refine Below.drew ?_) | (with_reducible refine Below.alloc ?_ ?_ _) | (with_reducible refine Below.setCell ?_ ?_ _) | (with_reducible exact Nat.le_refl _) | omega | (simp only [World.size_alloc, World.size_setCell, World.size_drew, Wov_size, World.heap_drewN]; omega)))), OK.out.below (by (repeat' (first | (with_reducible assumption) | (with_reducible exact Below.refl _ _) | (with_reducible refine below_wov ?_ ?_ _) | (with_reducible refine below_drewN ?_ _) | (with_reducible refine Below.drew ?_) | (with_reducible refine Below.alloc ?_ ?_ _) | (with_reducible refine Below.setCell ?_ ?_ _) | (with_reducible exact Nat.le_refl _) | omega | (simp only [World.size_alloc, World.size_setCell, World.size_drew, Wov_size, World.heap_drewN]; omega))))⟩ ?_
              rintro X ⟨hbx, hx1, hx2, hx3, hx4⟩
              clear a0 a1 a2 a3 a4 a5 la ho5 ka'
              obtain ⟨A5, o5, rfl, hA5, hv5⟩ := hx2.resolve_left (by simp)
              have b0 : X.cell? ⟨A5, o5, none⟩ = some (.int .i64 (a 0)) := hv5 0 0 (by simp) (by omega)
              have b1 : X.cell? ⟨A5, o5 + 1, none⟩ = some (.int .i64 (a 1)) := hv5 0 1 (by simp) (by omega)
              have b2 : X.cell? ⟨A5, o5 + 2, none⟩ = some (.int .i64 (a 2)) := hv5 0 2 (by simp) (by omega)
              have b3 : X.cell? ⟨A5, o5 + 3, none⟩ = some (.int .i64 (a 3)) := hv5 0 3 (by simp) (by omega)
              have b4 : X.cell? ⟨A5, o5 + 4, none⟩ = some (.int .i64 (a 4)) := hv5 0 4 (by simp) (by omega)
              have b5 : X.cell? ⟨A5, o5 + 5, none⟩ = some (.int .i64 (a 5)) := hv5 0 5 (by simp) (by omega)
              have a0 := hx1.c0
              have a1 := hx1.c1
              have a2 := hx1.c2
              have a3 := hx1.c3
              have a4 := hx1.c4
              have a5 := hx1.c5
              have la := hx1.lt
              have SM2 : Hid (∀ W, Below X.heap.size X W → Calls Try.prog 17 #[.slice p9 K.length c9, .slice pK K.length cK] W (Gives W (.bool true))) := fun W h => SM.out _ _ _ _ _ (hx3.below h) (hx4.below h)
              clear hv5 hx1 hx2 hx3 hx4 HBr H9r OK SM
              go_region_held3 (fun w' => w'.cell? ⟨w.heap.size, 0, none⟩ = some (.int .i64 (a 0)) ∧ w'.cell? ⟨w.heap.size, 1, none⟩ = some (.int .i64 (a 1)) ∧ w'.cell? ⟨w.heap.size, 2, none⟩ = some (.int .i64 (a 2)) ∧ w'.cell? ⟨w.heap.size, 3, none⟩ = some (.int .i64 (a 3)) ∧ w'.cell? ⟨w.heap.size, 4, none⟩ = some (.int .i64 (a 4)) ∧ w'.cell? ⟨w.heap.size, 5, none⟩ = some (.int .i64 (a 5)) ∧ w'.cell? ⟨A5, o5, none⟩ = some (.int .i64 (a 0)) ∧ w'.cell? ⟨A5, o5 + 1, none⟩ = some (.int .i64 (a 1)) ∧ w'.cell? ⟨A5, o5 + 2, none⟩ = some (.int .i64 (a 2)) ∧ w'.cell? ⟨A5, o5 + 3, none⟩ = some (.int .i64 (a 3)) ∧ w'.cell? ⟨A5, o5 + 4, none⟩ = some (.int .i64 (a 4)) ∧ w'.cell? ⟨A5, o5 + 5, none⟩ = some (.int .i64 (a 5)))
                ((simp [go_sem, *]))
                ((go_at_call 17; (refine (SM2.out _ (by (repeat' (first | (with_reducible assumption) | (with_reducible exact Below.refl _ _) | (with_reducible refine below_wov ?_ ?_ _) | (with_reducible refine below_drewN ?_ _) | (with_reducible refine Below.drew ?_) | (with_reducible refine Below.alloc ?_ ?_ _) | (with_reducible refine Below.setCell ?_ ?_ _) | (with_reducible exact Nat.le_refl _) | omega | (simp only [World.size_alloc, World.size_setCell, World.size_drew, Wov_size, World.heap_drewN]; omega))))).mono ?_); rintro e w' ⟨rfl, qm, rfl⟩))
              all_goals go_wp2_with (fail)
              all_goals go_ret
              all_goals exact gives_bool (by simp) (by (repeat' (first | (with_reducible assumption) | (with_reducible exact Below.refl _ _) | (with_reducible refine below_wov ?_ ?_ _) | (with_reducible refine below_drewN ?_ _) | (with_reducible refine Below.drew ?_) | (with_reducible refine Below.alloc ?_ ?_ _) | (with_reducible refine Below.setCell ?_ ?_ _) | (with_reducible exact Nat.le_refl _) | omega | (simp only [World.size_alloc, World.size_setCell, World.size_drew, Wov_size, World.heap_drewN]; omega))))
        · have hbf : (f != 0) = true := by rw [bne_iff_ne]; exact hf
          subst he
          have HB9 := Lib.hid (hb2.trans (hb9.mono hs2))
          clear HM HAL HLB L2 HQ HWA HWB N1 N2 N3 SL2 HA h9
          have hB9 := HB9.out
          go_wp2
          all_goals go_ret
          all_goals exact gives_bool (by simp) (by (repeat' (first | (with_reducible assumption) | (with_reducible exact Below.refl _ _) | (with_reducible refine below_wov ?_ ?_ _) | (with_reducible refine below_drewN ?_ _) | (with_reducible refine Below.drew ?_) | (with_reducible refine Below.alloc ?_ ?_ _) | (with_reducible refine Below.setCell ?_ ?_ _) | (with_reducible exact Nat.le_refl _) | omega | (simp only [World.size_alloc, World.size_setCell, World.size_drew, Wov_size, World.heap_drewN]; omega))))
      · have hbe : (e != 0) = true := by rw [bne_iff_ne]; exact he
        have HB9 := Lib.hid (hb2.trans (hb9.mono hs2))
        clear HM HAL HLB L2 HQ HWA HWB N1 N2 N3 SL2 HA h9
        have hB9 := HB9.out
        go_wp2
        all_goals go_ret
        all_goals exact gives_bool (by simp) (by (repeat' (first | (with_reducible assumption) | (with_reducible exact Below.refl _ _) | (with_reducible refine below_wov ?_ ?_ _) | (with_reducible refine below_drewN ?_ _) | (with_reducible refine Below.drew ?_) | (with_reducible refine Below.alloc ?_ ?_ _) | (with_reducible refine Below.setCell ?_ ?_ _) | (with_reducible exact Nat.le_refl _) | omega | (simp only [World.size_alloc, World.size_setCell, World.size_drew, Wov_size, World.heap_drewN]; omega))))
end Go.Proofs.Ytbgbhfcnadjhdaa.minusOrder
