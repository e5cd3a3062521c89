/- The law MinusTells (walk): one zone less another one, and what is left of it by some, or the errors, are the document's; they stay. No condition. -/
import Derived.Test.YtbgbhfcnadjhdaaJ13
import Derived.Test.YtbgbhfcnadjhdaaJ17
import Derived.Deep.Cut
namespace Go.Proofs.Ytbgbhfcnadjhdaa.minusTells
open Go.ChangeShapes Go.WideShapes Go.ChangeAt Go.RowKit
set_option linter.unusedVariables false
set_option linter.unusedSimpArgs false
attribute [local go_sem] Nat.add_assoc Nat.add_lt_add_iff_left lit_lt_add

theorem rest_err : ∀ (l out : List (Nat → Int)), (restZ l out).2 ≠ 0 → (restZ l out).1 = []
  | [], out, h => absurd rfl h
  | b :: l, out, h => by
    rw [rest_cons] at h ⊢
    by_cases h1 : (nextZ b out []).2 ≠ 0
    · rw [if_pos h1]
    · rw [if_neg h1] at h ⊢
      exact rest_err l _ h
theorem left_short (a : Nat → Int) (l : List (Nat → Int)) : (leftZ a l).1.length ≤ 4096 := by
  by_cases h : (leftZ a l).2 = 0
  · exact left_len (Prod.ext rfl h : leftZ a l = ((leftZ a l).1, 0))
  · unfold leftZ at h ⊢
    split at h
    · next hk => rw [if_pos hk, rest_err l [a] h]; simp
    · next hk => rw [if_neg hk]; simp
theorem slz_turn {Y X V : World} {G : Nat} {p : Option Addr} {l : List (Nat → Int)} (h : SlZ Y p l) (hb : Below Y.heap.size Y X) (hc : Chg X G V) (hG : Y.heap.size ≤ G) : SlZ V p l := by
  rcases h with h | ⟨A, o, rfl, h1, h2⟩
  · exact .inl h
  · exact .inr ⟨A, o, rfl, Nat.lt_of_lt_of_le h1 (Nat.le_trans hb.size hc.size), fun i j hi hj => (hc.cell (Nat.lt_of_lt_of_le h1 hb.size) (by omega)).trans ((hb.cell (p := ⟨A, o + (i * 6 + j), none⟩) h1).trans (h2 i j hi hj))⟩
set_option maxRecDepth 100000 in
set_option maxHeartbeats 16000000 in
theorem walk (a : Nat → Int) (wa : FitsZ a) (b : Nat → Int) (wb : FitsZ b) (q : Option Addr) (cq : Nat) (l : List (Nat → Int)) (w : World) (hS : SlZ w q l) (hF : ∀ z, z ∈ l → FitsZ z) (hN : l.length ≤ maxLen) (hQ : q = none → cq = 0) :
    Calls Try.prog 3 #[zoneV a, zoneV b, .slice q l.length cq] w (Gives w (.bool true)) := by
  unfold maxLen at hN
  by_cases hbig : 5 < l.length
  · clear hS hF hQ wa wb
    unfold zoneV
    go_enter Try.func3, Try.ntmps3
    go_wp2
    all_goals
      go_ret
      exact gives_bool (by simp) (by (repeat' (first | (with_reducible assumption) | (with_reducible exact Below.refl _ _) | (with_reducible refine below_wov ?_ ?_ _) | (with_reducible refine below_drewN ?_ _) | (with_reducible refine Below.drew ?_) | (with_reducible refine Below.alloc ?_ ?_ _) | (with_reducible refine Below.setCell ?_ ?_ _) | (with_reducible exact Nat.le_refl _) | omega | (simp only [World.size_alloc, World.size_setCell, World.size_drew, Wov_size, World.heap_drewN]; omega))))
  · have hl5 : l.length ≤ 5 := by omega
    have MM : Hid (∀ r, minusZ a b = r → ∀ W, Calls Try.prog 13 #[.agg #[.int .i64 (a 0), .int .i64 (a 1), .int .i64 (a 2), .int .i64 (a 3), .int .i64 (a 4), .int .i64 (a 5)], .agg #[.int .i64 (b 0), .int .i64 (b 1), .int .i64 (b 2), .int .i64 (b 3), .int .i64 (b 4), .int .i64 (b 5)]] W (zlC W r)) := fun r h W => by rw [← h]; exact minus_any a b wa wb W
    have MD : Hid (∀ r, minusZ a b = r → ∀ W, Calls Try.prog 14 #[.agg #[.int .i64 (a 0), .int .i64 (a 1), .int .i64 (a 2), .int .i64 (a 3), .int .i64 (a 4), .int .i64 (a 5)], .agg #[.int .i64 (b 0), .int .i64 (b 1), .int .i64 (b 2), .int .i64 (b 3), .int .i64 (b 4), .int .i64 (b 5)]] W (zlC W r)) := fun r h W => by rw [← h]; exact minusD_any a b W wa wb
    have LM : Hid (∀ r, leftZ a l = r → ∀ p c W, SlZ W p l → Calls Try.prog 15 #[.agg #[.int .i64 (a 0), .int .i64 (a 1), .int .i64 (a 2), .int .i64 (a 3), .int .i64 (a 4), .int .i64 (a 5)], .slice p l.length c] W (zlC W r)) := fun r h p c W hs => by rw [← h]; exact left_any a p c l W wa hF hs (by omega)
    have LD : Hid (∀ r, leftZ a l = r → ∀ p c W, SlZ W p l → Calls Try.prog 16 #[.agg #[.int .i64 (a 0), .int .i64 (a 1), .int .i64 (a 2), .int .i64 (a 3), .int .i64 (a 4), .int .i64 (a 5)], .slice p l.length c] W (zlC W r)) := fun r h p c W hs => by rw [← h]; exact leftD_any a p c l W wa hF hs (by omega)
    have SM : Hid (∀ K : List (Nat → Int), K.length ≤ 1000000 → ∀ p c q d W, SlZ W p K → SlZ W q K → Calls Try.prog 17 #[.slice p K.length c, .slice q K.length d] W (Gives W (.bool true))) := fun K hK p c q d W h1 h2 => by
      have h3 := same11_any p q c d K K W h1 h2 hK hK
      rw [sameL_refl] at h3
      exact h3
    have hM6 := minus_len a b
    have hL4 := left_short a l
    obtain ⟨⟨M, e⟩, hM⟩ : ∃ r, minusZ a b = r := ⟨_, rfl⟩
    obtain ⟨⟨L, f⟩, hL⟩ : ∃ r, leftZ a l = r := ⟨_, rfl⟩
    have M1 := Lib.hid (MM.out _ hM)
    have M2 := Lib.hid (MD.out _ hM)
    have L1 := Lib.hid (LM.out _ hL)
    have L2 := Lib.hid (LD.out _ hL)
    rw [hM] at hM6
    rw [hL] at hL4
    unfold zlC at M1 M2 L1 L2
    dsimp only at M1 M2 L1 L2 hM6 hL4
    have S1 := Lib.hid (SM.out M (by omega))
    have S2 := Lib.hid (SM.out L (by omega))
    have S3 := Lib.hid (SM.out l (by omega))
    have HS := Lib.hid hS
    have HQ := Lib.hid hQ
    clear MM MD LM LD SM hM hL wa wb hF hS hQ
    unfold zoneV
    go_enter Try.func3, Try.ntmps3
    go_wp2_with (at_builtin; refine wpList_appZ _ (w.heap.size + 2) rfl _ _ rfl rfl (.slice none 0 0) [] l rfl (World.ownsRow_nil _ _ _ _) q cq rfl HQ.out (HS.out.below (by (repeat' (first | (with_reducible assumption) | (with_reducible exact Below.refl _ _) | (with_reducible refine below_wov ?_ ?_ _) | (with_reducible refine below_drewN ?_ _) | (with_reducible refine Below.drew ?_) | (with_reducible refine Below.alloc ?_ ?_ _) | (with_reducible refine Below.setCell ?_ ?_ _) | (with_reducible exact Nat.le_refl _) | omega | (simp only [World.size_alloc, World.size_setCell, World.size_drew, Wov_size, World.heap_drewN]; omega))))) (by simp; omega) (by (first | omega | ((simp only [World.size_alloc, World.size_setCell, World.size_drew, Wov_size, World.heap_drewN, Array.size_append]) <;> omega))) ?_; (intro v1 w1 ho1 hg1; have hx1 := row_grown (e := 24) (World.ownsRow_nil _ _ _ _) (Below.refl (w.heap.size + 2) _) hg1 (by (first | omega | ((simp only [World.size_alloc, World.size_setCell, World.size_drew, Wov_size, World.heap_drewN, Array.size_append]) <;> omega))); have bw1 : Below w.heap.size w w1 := Below.trans (by (repeat' (first | (with_reducible assumption) | (with_reducible exact Below.refl _ _) | (with_reducible refine below_wov ?_ ?_ _) | (with_reducible refine below_drewN ?_ _) | (with_reducible refine Below.drew ?_) | (with_reducible refine Below.alloc ?_ ?_ _) | (with_reducible refine Below.setCell ?_ ?_ _) | (with_reducible exact Nat.le_refl _) | omega | (simp only [World.size_alloc, World.size_setCell, World.size_drew, Wov_size, World.heap_drewN]; omega)))) (hx1.mono (by omega)); have ka := BoxZ.below ((BoxZ.new (W := w) (z := a) (t := 24) rfl).below (by (repeat' (first | (with_reducible assumption) | (with_reducible exact Below.refl _ _) | (with_reducible refine below_wov ?_ ?_ _) | (with_reducible refine below_drewN ?_ _) | (with_reducible refine Below.drew ?_) | (with_reducible refine Below.alloc ?_ ?_ _) | (with_reducible refine Below.setCell ?_ ?_ _) | (with_reducible exact Nat.le_refl _) | omega | (simp only [World.size_alloc, World.size_setCell, World.size_drew, Wov_size, World.heap_drewN]; omega))))) (hx1.mono (by (first | omega | ((simp only [World.size_alloc, World.size_setCell, World.size_drew, Wov_size, World.heap_drewN, Array.size_append]) <;> omega)))); have kb := BoxZ.below ((BoxZ.new (W := World.alloc w (.cells #[.int .i64 (a 0), .int .i64 (a 1), .int .i64 (a 2), .int .i64 (a 3), .int .i64 (a 4), .int .i64 (a 5)] 24)) (A := w.heap.size + 1) (z := b) (t := 24) (by simp)).below (by (repeat' (first | (with_reducible assumption) | (with_reducible exact Below.refl _ _) | (with_reducible refine below_wov ?_ ?_ _) | (with_reducible refine below_drewN ?_ _) | (with_reducible refine Below.drew ?_) | (with_reducible refine Below.alloc ?_ ?_ _) | (with_reducible refine Below.setCell ?_ ?_ _) | (with_reducible exact Nat.le_refl _) | omega | (simp only [World.size_alloc, World.size_setCell, World.size_drew, Wov_size, World.heap_drewN]; omega))))) (hx1.mono (by (first | omega | ((simp only [World.size_alloc, World.size_setCell, World.size_drew, Wov_size, World.heap_drewN, Array.size_append]) <;> omega)))); rw [List.nil_append] at ho1; obtain ⟨p', c', hv', _, ho⟩ := ownZ_of_row (w := w) ho1 (by omega); subst hv'; have HO1 := Lib.hid ho.slz; have HKA := Lib.hid ka; have HKB := Lib.hid kb; have HBW1 := Lib.hid bw1; have a0 := ka.c0; have b0 := kb.c0; have a1 := ka.c1; have b1 := kb.c1; have a2 := ka.c2; have b2 := kb.c2; have a3 := ka.c3; have b3 := kb.c3; have a4 := ka.c4; have b4 := kb.c4; have a5 := ka.c5; have b5 := kb.c5; have la := ka.lt; have lb := kb.lt; have hs1 := bw1.size; clear ho1 hg1 hx1 ho ka kb bw1))
    refine (M1.out _).mono ?_; rintro e w' ⟨⟨p1, c1, rfl, _, ho1⟩, q1, rfl⟩
    have s1 := Lib.hid ho1.slz
    clear ho1
    go_wp2_with (fail)
    refine calls_world (fun W => Below w.heap.size w W ∧ BoxZ W w.heap.size a ∧ SlZ W p1 M ∧ SlZ W p' l) ⟨HBW1.out.trans (by (repeat' (first | (with_reducible assumption) | (with_reducible exact Below.refl _ _) | (with_reducible refine below_wov ?_ ?_ _) | (with_reducible refine below_drewN ?_ _) | (with_reducible refine Below.drew ?_) | (with_reducible refine Below.alloc ?_ ?_ _) | (with_reducible refine Below.setCell ?_ ?_ _) | (with_reducible exact Nat.le_refl _) | omega | (simp only [World.size_alloc, World.size_setCell, World.size_drew, Wov_size, World.heap_drewN]; omega)))), HKA.out.below (by (repeat' (first | (with_reducible assumption) | (with_reducible exact Below.refl _ _) | (with_reducible refine below_wov ?_ ?_ _) | (with_reducible refine below_drewN ?_ _) | (with_reducible refine Below.drew ?_) | (with_reducible refine Below.alloc ?_ ?_ _) | (with_reducible refine Below.setCell ?_ ?_ _) | (with_reducible exact Nat.le_refl _) | omega | (simp only [World.size_alloc, World.size_setCell, World.size_drew, Wov_size, World.heap_drewN]; omega)))), s1.out, HO1.out.below (by (repeat' (first | (with_reducible assumption) | (with_reducible exact Below.refl _ _) | (with_reducible refine below_wov ?_ ?_ _) | (with_reducible refine below_drewN ?_ _) | (with_reducible refine Below.drew ?_) | (with_reducible refine Below.alloc ?_ ?_ _) | (with_reducible refine Below.setCell ?_ ?_ _) | (with_reducible exact Nat.le_refl _) | omega | (simp only [World.size_alloc, World.size_setCell, World.size_drew, Wov_size, World.heap_drewN]; omega))))⟩ ?_
    rintro Y1 ⟨d1, d2, d3, d4⟩
    have D1 := Lib.hid d1
    have D2 := Lib.hid d2
    have D3 := Lib.hid d3
    have D4 := Lib.hid d4
    clear a0 a1 a2 a3 a4 a5 b0 b1 b2 b3 b4 b5 la lb HBW1 HKA HKB HO1 s1 hs1 M1
    have a0 := d2.c0
    have a1 := d2.c1
    have a2 := d2.c2
    have a3 := d2.c3
    have a4 := d2.c4
    have a5 := d2.c5
    have la := d2.lt
    have hs1 := d1.size
    clear d1 d2 d3 d4
    refine (M2.out _).mono ?_; rintro e w' ⟨⟨p2, c2, rfl, _, ho2⟩, q2, rfl⟩
    have s2 := Lib.hid ho2.slz
    clear ho2
    go_wp2_with (fail)
    refine calls_world (fun W => Below w.heap.size w W ∧ BoxZ W w.heap.size a ∧ SlZ W p1 M ∧ SlZ W p2 M ∧ SlZ W p' l) ⟨D1.out.trans (by (repeat' (first | (with_reducible assumption) | (with_reducible exact Below.refl _ _) | (with_reducible refine below_wov ?_ ?_ _) | (with_reducible refine below_drewN ?_ _) | (with_reducible refine Below.drew ?_) | (with_reducible refine Below.alloc ?_ ?_ _) | (with_reducible refine Below.setCell ?_ ?_ _) | (with_reducible exact Nat.le_refl _) | omega | (simp only [World.size_alloc, World.size_setCell, World.size_drew, Wov_size, World.heap_drewN]; omega)))), D2.out.below (by (repeat' (first | (with_reducible assumption) | (with_reducible exact Below.refl _ _) | (with_reducible refine below_wov ?_ ?_ _) | (with_reducible refine below_drewN ?_ _) | (with_reducible refine Below.drew ?_) | (with_reducible refine Below.alloc ?_ ?_ _) | (with_reducible refine Below.setCell ?_ ?_ _) | (with_reducible exact Nat.le_refl _) | omega | (simp only [World.size_alloc, World.size_setCell, World.size_drew, Wov_size, World.heap_drewN]; omega)))), D3.out.below (by (repeat' (first | (with_reducible assumption) | (with_reducible exact Below.refl _ _) | (with_reducible refine below_wov ?_ ?_ _) | (with_reducible refine below_drewN ?_ _) | (with_reducible refine Below.drew ?_) | (with_reducible refine Below.alloc ?_ ?_ _) | (with_reducible refine Below.setCell ?_ ?_ _) | (with_reducible exact Nat.le_refl _) | omega | (simp only [World.size_alloc, World.size_setCell, World.size_drew, Wov_size, World.heap_drewN]; omega)))), s2.out, D4.out.below (by (repeat' (first | (with_reducible assumption) | (with_reducible exact Below.refl _ _) | (with_reducible refine below_wov ?_ ?_ _) | (with_reducible refine below_drewN ?_ _) | (with_reducible refine Below.drew ?_) | (with_reducible refine Below.alloc ?_ ?_ _) | (with_reducible refine Below.setCell ?_ ?_ _) | (with_reducible exact Nat.le_refl _) | omega | (simp only [World.size_alloc, World.size_setCell, World.size_drew, Wov_size, World.heap_drewN]; omega))))⟩ ?_
    rintro Y2 ⟨d1, d2, d3, d5, d4⟩
    clear a0 a1 a2 a3 a4 a5 la D1 D2 D3 D4 s2 hs1 M2
    have D1 := Lib.hid d1
    have D3 := Lib.hid d3
    have D4 := Lib.hid d4
    have D5 := Lib.hid d5
    have a0 := d2.c0
    have a1 := d2.c1
    have a2 := d2.c2
    have a3 := d2.c3
    have a4 := d2.c4
    have a5 := d2.c5
    have la := d2.lt
    have hs2 := d1.size
    clear d1 d2 d3 d4 d5
    refine (L1.out _ _ _ D4.out).mono ?_; rintro e w' ⟨⟨p3, c3, rfl, _, ho3⟩, q3, rfl⟩
    have s3 := Lib.hid ho3
    clear ho3
    go_wp2_with (fail)
    refine calls_world (fun W => Below Y2.heap.size Y2 W ∧ OwnZ Y2 W p3 L) ⟨by (repeat' (first | (with_reducible assumption) | (with_reducible exact Below.refl _ _) | (with_reducible refine below_wov ?_ ?_ _) | (with_reducible refine below_drewN ?_ _) | (with_reducible refine Below.drew ?_) | (with_reducible refine Below.alloc ?_ ?_ _) | (with_reducible refine Below.setCell ?_ ?_ _) | (with_reducible exact Nat.le_refl _) | omega | (simp only [World.size_alloc, World.size_setCell, World.size_drew, Wov_size, World.heap_drewN]; omega))), s3.out⟩ ?_
    rintro Y3 ⟨f1, f2⟩
    clear a0 a1 a2 a3 a4 a5 la s3 L1
    have F1 := Lib.hid f1
    have F2 := Lib.hid f2
    have hs3 := f1.size
    clear f1 f2
    refine (L2.out _ _ _ (HS.out.below (D1.out.trans (F1.out.mono hs2)))).mono ?_; rintro e w' ⟨⟨p4, c4, rfl, _, ho4⟩, q4, rfl⟩
    have s4 := Lib.hid ho4.slz
    clear ho4
    go_wp2_with (fail)
    refine calls_world (fun W => Below Y2.heap.size Y2 W ∧ OwnZ Y2 W p3 L ∧ SlZ W p4 L) ⟨F1.out.trans (by (repeat' (first | (with_reducible assumption) | (with_reducible exact Below.refl _ _) | (with_reducible refine below_wov ?_ ?_ _) | (with_reducible refine below_drewN ?_ _) | (with_reducible refine Below.drew ?_) | (with_reducible refine Below.alloc ?_ ?_ _) | (with_reducible refine Below.setCell ?_ ?_ _) | (with_reducible exact Nat.le_refl _) | omega | (simp only [World.size_alloc, World.size_setCell, World.size_drew, Wov_size, World.heap_drewN]; omega)))), F2.out.below (by (repeat' (first | (with_reducible assumption) | (with_reducible exact Below.refl _ _) | (with_reducible refine below_wov ?_ ?_ _) | (with_reducible refine below_drewN ?_ _) | (with_reducible refine Below.drew ?_) | (with_reducible refine Below.alloc ?_ ?_ _) | (with_reducible refine Below.setCell ?_ ?_ _) | (with_reducible exact Nat.le_refl _) | omega | (simp only [World.size_alloc, World.size_setCell, World.size_drew, Wov_size, World.heap_drewN]; omega)))), s4.out⟩ ?_
    rintro Y4 ⟨f1, f2, f3⟩
    clear s4 L2 F1 F2 hs3
    have F1 := Lib.hid f1
    have F2 := Lib.hid f2
    have F3 := Lib.hid f3
    have hs4 := f1.size
    clear f1 f2 f3
    refine (S1.out _ _ _ _ _ (D3.out.below F1.out) (D5.out.below F1.out)).mono ?_; rintro e w' ⟨rfl, q5, rfl⟩
    clear S1
    go_wp2_with (fail)
    refine (S2.out _ _ _ _ _ (F2.out.slz.below (by (repeat' (first | (with_reducible assumption) | (with_reducible exact Below.refl _ _) | (with_reducible refine below_wov ?_ ?_ _) | (with_reducible refine below_drewN ?_ _) | (with_reducible refine Below.drew ?_) | (with_reducible refine Below.alloc ?_ ?_ _) | (with_reducible refine Below.setCell ?_ ?_ _) | (with_reducible exact Nat.le_refl _) | omega | (simp only [World.size_alloc, World.size_setCell, World.size_drew, Wov_size, World.heap_drewN]; omega))))) (F3.out.below (by (repeat' (first | (with_reducible assumption) | (with_reducible exact Below.refl _ _) | (with_reducible refine below_wov ?_ ?_ _) | (with_reducible refine below_drewN ?_ _) | (with_reducible refine Below.drew ?_) | (with_reducible refine Below.alloc ?_ ?_ _) | (with_reducible refine Below.setCell ?_ ?_ _) | (with_reducible exact Nat.le_refl _) | omega | (simp only [World.size_alloc, World.size_setCell, World.size_drew, Wov_size, World.heap_drewN]; omega)))))).mono ?_; rintro e w' ⟨rfl, q6, rfl⟩
    clear S2
    go_wp2_with (fail)
    refine wp_world (fun W => Below Y2.heap.size Y2 W ∧ OwnZ Y2 W p3 L) ⟨F1.out.trans (by (repeat' (first | (with_reducible assumption) | (with_reducible exact Below.refl _ _) | (with_reducible refine below_wov ?_ ?_ _) | (with_reducible refine below_drewN ?_ _) | (with_reducible refine Below.drew ?_) | (with_reducible refine Below.alloc ?_ ?_ _) | (with_reducible refine Below.setCell ?_ ?_ _) | (with_reducible exact Nat.le_refl _) | omega | (simp only [World.size_alloc, World.size_setCell, World.size_drew, Wov_size, World.heap_drewN]; omega)))), F2.out.below (by (repeat' (first | (with_reducible assumption) | (with_reducible exact Below.refl _ _) | (with_reducible refine below_wov ?_ ?_ _) | (with_reducible refine below_drewN ?_ _) | (with_reducible refine Below.drew ?_) | (with_reducible refine Below.alloc ?_ ?_ _) | (with_reducible refine Below.setCell ?_ ?_ _) | (with_reducible exact Nat.le_refl _) | omega | (simp only [World.size_alloc, World.size_setCell, World.size_drew, Wov_size, World.heap_drewN]; omega))))⟩ ?_
    rintro X ⟨f1, f2⟩
    obtain ⟨G, hG1, hG2⟩ : ∃ G, Y2.heap.size ≤ G ∧ (0 < L.length → p3 = some ⟨G, 0, none⟩ ∧ G < X.heap.size ∧ ∀ i j, i < L.length → j < 6 → X.cell? ⟨G, i * 6 + j, none⟩ = some (.int .i64 (nthZ L i j)) ∧ X.frozen? ⟨G, i * 6 + j, none⟩ = false) := by
      rcases f2 with h | ⟨B, h1, h2, h3, h4⟩
      · exact ⟨_, Nat.le_refl _, fun h' => by rw [h] at h'; simp at h'⟩
      · exact ⟨B, h2, fun _ => ⟨h1, h3, h4⟩⟩
    clear F1 F2 F3 D3 D5 hs4 f2
    have F1 := Lib.hid f1
    have HG2 := Lib.hid hG2
    clear f1 hG2
    go_loopw [17] (fun i V => ∃ t : Nat, t ≤ L.length ∧ i = .int .i64 t ∧ Chg X G V ∧ Hid (∀ i, i < L.length → ∃ x : Int, V.cell? ⟨G, i * 6, none⟩ = some (.int .i64 x) ∧ V.frozen? ⟨G, i * 6, none⟩ = false))
      (fun i _ => L.length - (intOf i).toNat)
    case atStart => exact ⟨0, by omega, rfl, Chg.refl _ _, fun i hi => ⟨nthZ L i 0, (HG2.out (by omega)).2.2 i 0 hi (by omega)⟩⟩
    case round =>
      obtain ⟨t, ht, rfl, hc, hI⟩ := hrel
      have HC := Lib.hid hc
      have szr := hc.size
      clear hc
      by_cases hlt : t < L.length
      · obtain ⟨hp, hGX, _⟩ := HG2.out (by omega)
        subst hp
        obtain ⟨x, hx, hf⟩ := hI.out t hlt
        have t0 : (0 : Int) ≤ (t : Int) := by omega
        have t1 : (t : Int) < (L.length : Int) := by omega
        have lG : G < wr.heap.size := by omega
        go_wp2
        go_region
        go_wp2
        go_roundw
        case rel =>
          refine ⟨t + 1, by omega, by go_num, HC.out.trans (Chg.trans (Chg.set _ _ _ _) (Chg.drew _ _)), fun i hi => ?_⟩
          obtain ⟨y, h1, h2⟩ := hI.out i hi
          by_cases e : i = t
          · subst e
            refine ⟨wrap64 (x + 1), ?_, ?_⟩
            · show (World.setCell wr _ _).cell? _ = _
              rw [setCell_cell_self, h1]; rfl
            · show (World.setCell wr _ _).frozen? _ = _
              rw [World.frozen?_setCell]; exact h2
          · refine ⟨y, ?_, ?_⟩
            · show (World.setCell wr _ _).cell? _ = _
              exact (World.cell?_setCell_other _ _ _ _ (fun e' => e (by have h := congrArg Addr.off e'; dsimp only at h; omega))).trans h1
            · show (World.setCell wr _ _).frozen? _ = _
              rw [World.frozen?_setCell]; exact h2
        case measure => simp [intOf]; omega
      · obtain rfl : t = L.length := by omega
        have g1 := Lib.hid (slz_turn D4.out F1.out HC.out hG1)
        have g2 := Lib.hid (slz_turn (HS.out.below D1.out) F1.out HC.out hG1)
        have gb : Hid (Below w.heap.size w wr) := (((Chg.of_below (D1.out.trans (F1.out.mono hs2))).trans HC.out).below (by omega))
        clear HC hI HG2
        go_wp2_with (fail)
        refine (S3.out _ _ _ _ _ g1.out g2.out).mono ?_; rintro e w' ⟨rfl, q7, rfl⟩
        have hgb := gb.out
        have hgs := hgb.size
        go_wp2
        go_ret
        exact gives_bool (by simp) (by (repeat' (first | (with_reducible assumption) | (with_reducible exact Below.refl _ _) | (with_reducible refine below_wov ?_ ?_ _) | (with_reducible refine below_drewN ?_ _) | (with_reducible refine Below.drew ?_) | (with_reducible refine Below.alloc ?_ ?_ _) | (with_reducible refine Below.setCell ?_ ?_ _) | (with_reducible exact Nat.le_refl _) | omega | (simp only [World.size_alloc, World.size_setCell, World.size_drew, Wov_size, World.heap_drewN]; omega))))
end Go.Proofs.Ytbgbhfcnadjhdaa.minusTells
