/- The law MinusPoints (walk): a point is in just one of the zones that are left, or in none. No condition. -/
import Derived.Test.YtnjhjgkekmjmdaaJ7
import Derived.Test.YtnjhjgkekmjmdaaJ10
import Derived.Test.YtnjhjgkekmjmdaaJ11
import Derived.Test.YtnjhjgkekmjmdaaH8
namespace Go.Proofs.Ytnjhjgkekmjmdaa.minusPoints
open Go.ChangeShapes Go.WideShapes Go.ChangeAt Go.RowKit
set_option linter.unusedVariables false
set_option linter.unusedSimpArgs false
attribute [local go_sem] Nat.add_assoc Nat.add_lt_add_iff_left lit_lt_add
theorem rest_len : ∀ (l out n : List (Nat → Int)), restZ l out = (n, 0) → out.length ≤ 4096 → n.length ≤ 4096
  | [], out, n, h, ho => by
    simp only [restZ, Prod.mk.injEq, and_true] at h
    rw [← h]; exact ho
  | b :: l, out, n, h, ho => by
    rw [rest_cons] at h
    by_cases h1 : (nextZ b out []).2 ≠ 0
    · rw [if_pos h1] at h
      simp only [Prod.mk.injEq] at h
      exact absurd h.2 h1
    · rw [if_neg h1] at h
      refine rest_len l _ n h ?_
      obtain ⟨g1, _, g3⟩ := next_ok out [] _ (Prod.ext rfl (by omega) : nextZ b out [] = ((nextZ b out []).1, 0))
      cases out with
      | nil => rw [g1]; simp [flatZ]
      | cons y ys => exact g3 (by simp)
theorem left_len {a : Nat → Int} {l L : List (Nat → Int)} (h : leftZ a l = (L, 0)) : L.length ≤ 4096 := rest_len l [a] L (left_ok h).2.2 (by simp)

set_option maxRecDepth 100000 in
set_option maxHeartbeats 16000000 in
theorem walk (a : Nat → Int) (wa : FitsZ a) (q : Option Addr) (cq : Nat) (l : List (Nat → Int)) (pa pb pc pd : Int) (wpa : fits64 pa) (wpb : fits64 pb) (wpc : fits64 pc) (wpd : fits64 pd) (w : World) (hS : SlZ w q l) (hF : ∀ z, z ∈ l → FitsZ z) (hN : l.length ≤ maxLen) :
    Calls Try.prog 16 #[zoneV a, .slice q l.length cq, .agg #[.int .i64 pa, .int .i64 pb, .int .i64 pc, .int .i64 pd]] w (Gives w (.bool true)) := by
  have HA := Lib.hid alive11
  unfold maxLen at hN
  by_cases hbig : 5 < l.length
  · skip
    have SL := Lib.hid hS
    clear hS hF wa
    unfold zoneV
    go_enter Try.func16, Try.ntmps16
    go_wp2_with (fail)
    refine calls_world (fun W => Below w.heap.size w W ∧ BoxZ W w.heap.size a ∧ PtAt W (w.heap.size + 1) pa pb pc pd ∧ SlZ W q l) ⟨by (repeat' (first | (with_reducible assumption) | (with_reducible exact Below.refl _ _) | (with_reducible refine below_wov ?_ ?_ _) | (with_reducible refine below_drewN ?_ _) | (with_reducible refine Below.drew ?_) | (with_reducible refine Below.alloc ?_ ?_ _) | (with_reducible refine Below.setCell ?_ ?_ _) | (with_reducible exact Nat.le_refl _) | omega | (simp only [World.size_alloc, World.size_setCell, World.size_drew, Wov_size, World.heap_drewN]; omega))), (BoxZ.new (W := w) (t := 26) (by simp)).below (by (repeat' (first | (with_reducible assumption) | (with_reducible exact Below.refl _ _) | (with_reducible refine below_wov ?_ ?_ _) | (with_reducible refine below_drewN ?_ _) | (with_reducible refine Below.drew ?_) | (with_reducible refine Below.alloc ?_ ?_ _) | (with_reducible refine Below.setCell ?_ ?_ _) | (with_reducible exact Nat.le_refl _) | omega | (simp only [World.size_alloc, World.size_setCell, World.size_drew, Wov_size, World.heap_drewN]; omega)))), (PtAt.new (W := (World.alloc w (.cells #[.int .i64 (a 0), .int .i64 (a 1), .int .i64 (a 2), .int .i64 (a 3), .int .i64 (a 4), .int .i64 (a 5)] 26))) (t := 79) (by simp)).below (by (repeat' (first | (with_reducible assumption) | (with_reducible exact Below.refl _ _) | (with_reducible refine below_wov ?_ ?_ _) | (with_reducible refine below_drewN ?_ _) | (with_reducible refine Below.drew ?_) | (with_reducible refine Below.alloc ?_ ?_ _) | (with_reducible refine Below.setCell ?_ ?_ _) | (with_reducible exact Nat.le_refl _) | omega | (simp only [World.size_alloc, World.size_setCell, World.size_drew, Wov_size, World.heap_drewN]; omega)))), SL.out.below (by (repeat' (first | (with_reducible assumption) | (with_reducible exact Below.refl _ _) | (with_reducible refine below_wov ?_ ?_ _) | (with_reducible refine below_drewN ?_ _) | (with_reducible refine Below.drew ?_) | (with_reducible refine Below.alloc ?_ ?_ _) | (with_reducible refine Below.setCell ?_ ?_ _) | (with_reducible exact Nat.le_refl _) | omega | (simp only [World.size_alloc, World.size_setCell, World.size_drew, Wov_size, World.heap_drewN]; omega))))⟩ ?_
    rintro W1 ⟨hb1, m1_0, m1_1, m1_2⟩
    have hs1 := hb1.size
    have f1_0_lt := m1_0.lt
    have f1_0_c0 := m1_0.c0
    have f1_0_c1 := m1_0.c1
    have f1_0_c2 := m1_0.c2
    have f1_0_c3 := m1_0.c3
    have f1_0_c4 := m1_0.c4
    have f1_0_c5 := m1_0.c5
    have f1_1_lt := m1_1.lt
    have f1_1_c0 := m1_1.c0
    have f1_1_c1 := m1_1.c1
    have f1_1_c2 := m1_1.c2
    have f1_1_c3 := m1_1.c3
    refine (HA.out _).mono ?_; rintro e w' ⟨rfl, q0, rfl⟩
    go_wp2
    all_goals
      go_ret
      exact gives_bool (by simp) (by (repeat' (first | (with_reducible assumption) | (with_reducible exact Below.refl _ _) | (with_reducible refine below_wov ?_ ?_ _) | (with_reducible refine below_drewN ?_ _) | (with_reducible refine Below.drew ?_) | (with_reducible refine Below.alloc ?_ ?_ _) | (with_reducible refine Below.setCell ?_ ?_ _) | (with_reducible exact Nat.le_refl _) | omega | (simp only [World.size_alloc, World.size_setCell, World.size_drew, Wov_size, World.heap_drewN]; omega))))
  · skip
    have hs5 : l.length ≤ 5 := by omega
    have LF : Hid (∀ r, leftZ a l = r → ∀ W, SlZ W q l → Calls Try.prog 28 #[.agg #[.int .i64 (a 0), .int .i64 (a 1), .int .i64 (a 2), .int .i64 (a 3), .int .i64 (a 4), .int .i64 (a 5)], .slice q l.length cq] W (zlC W r)) := fun r hr W h => by rw [← hr]; exact left_any a q cq l W wa hF h (by omega)
    have HH : Hid (∀ r, hasZ a (pt pa pb pc pd) = r → ∀ W, Calls Try.prog 59 #[.agg #[.int .i64 (a 0), .int .i64 (a 1), .int .i64 (a 2), .int .i64 (a 3), .int .i64 (a 4), .int .i64 (a 5)], .agg #[.int .i64 pa, .int .i64 pb, .int .i64 pc, .int .i64 pd]] W (Gives W (.tuple #[.bool r.1, .int .i64 r.2]))) := fun r hr W => by rw [← hr]; exact zhas_any a pa pb pc pd W wa wpa wpb wpc wpd
    have CN : Hid (okRat pa pb = true → okRat pc pd = true → ∀ W p c (M : List (Nat → Int)), SlZ W p M → M.length ≤ 4096 → (∀ z, z ∈ M → okZ z = true) → Calls Try.prog 60 #[.slice p M.length c, .agg #[.int .i64 pa, .int .i64 pb, .int .i64 pc, .int .i64 pd]] W (Gives W (.tuple #[.int .i64 (countZ M (pt pa pb pc pd)), .bool true]))) := fun o1 o2 W p c M h hl hk => count_any p c M pa pb pc pd W h (by omega) hk wpa wpb wpc wpd o1 o2
    have SL := Lib.hid hS
    clear hS wa wpa wpb wpc wpd hF
    obtain ⟨⟨ML, e⟩, hL⟩ : ∃ r, leftZ a l = r := ⟨_, rfl⟩
    obtain ⟨⟨x, f⟩, hx⟩ : ∃ r, hasZ a (pt pa pb pc pd) = r := ⟨_, rfl⟩
    have L1 := Lib.hid (LF.out _ hL)
    have H1 := Lib.hid (HH.out _ hx)
    clear LF HH
    unfold zlC at L1
    dsimp only at L1 H1
    by_cases he : e = 0
    · skip
      subst he
      by_cases hf : f = 0
      · skip
        subst hf
        obtain ⟨oka, okl, okm, hcount⟩ := points_law hL
        obtain ⟨_, har, hxk⟩ := hasZ_ok hx
        have hlen := left_len hL
        rw [rat2] at har
        simp only [Bool.and_eq_true] at har
        have cc := hcount (pt pa pb pc pd) (fun i hi => tm_pos (M := 2) (by rw [rat2]; simp only [Bool.and_eq_true]; exact har) i (by omega))
        rw [← hxk] at cc
        have C1 := Lib.hid (fun W p c h => CN.out har.1 har.2 W p c l h (by omega) okl)
        have C2 := Lib.hid (fun W p c h => CN.out har.1 har.2 W p c ML h hlen okm)
        obtain ⟨n1, hn1⟩ : ∃ n, n = countZ l (pt pa pb pc pd) := ⟨_, rfl⟩
        obtain ⟨n2, hn2⟩ : ∃ n, n = countZ ML (pt pa pb pc pd) := ⟨_, rfl⟩
        rw [← hn1] at C1 cc
        rw [← hn2] at C2 cc
        clear CN okl okm hcount har hlen hn1 hn2 oka hxk hL hx
        have key : (x = true ∧ n1 = 0 ∧ n2 = 1) ∨ (x = true ∧ 0 < n1 ∧ n2 = 0) ∨ (x = false ∧ n2 = 0) := by
          rw [cc]
          cases x
          · exact .inr (.inr ⟨rfl, by simp⟩)
          · rcases Nat.eq_zero_or_pos n1 with h | h
            · exact .inl ⟨rfl, h, by simp [h]⟩
            · exact .inr (.inl ⟨rfl, h, by simp; omega⟩)
        clear cc
        rcases key with ⟨rfl, rfl, rfl⟩ | ⟨rfl, hn, rfl⟩ | ⟨rfl, rfl⟩
        · skip
          unfold zoneV
          go_enter Try.func16, Try.ntmps16
          go_wp2_with (fail)
          refine calls_world (fun W => Below w.heap.size w W ∧ BoxZ W w.heap.size a ∧ PtAt W (w.heap.size + 1) pa pb pc pd ∧ SlZ W q l) ⟨by (repeat' (first | (with_reducible assumption) | (with_reducible exact Below.refl _ _) | (with_reducible refine below_wov ?_ ?_ _) | (with_reducible refine below_drewN ?_ _) | (with_reducible refine Below.drew ?_) | (with_reducible refine Below.alloc ?_ ?_ _) | (with_reducible refine Below.setCell ?_ ?_ _) | (with_reducible exact Nat.le_refl _) | omega | (simp only [World.size_alloc, World.size_setCell, World.size_drew, Wov_size, World.heap_drewN]; omega))), (BoxZ.new (W := w) (t := 26) (by simp)).below (by (repeat' (first | (with_reducible assumption) | (with_reducible exact Below.refl _ _) | (with_reducible refine below_wov ?_ ?_ _) | (with_reducible refine below_drewN ?_ _) | (with_reducible refine Below.drew ?_) | (with_reducible refine Below.alloc ?_ ?_ _) | (with_reducible refine Below.setCell ?_ ?_ _) | (with_reducible exact Nat.le_refl _) | omega | (simp only [World.size_alloc, World.size_setCell, World.size_drew, Wov_size, World.heap_drewN]; omega)))), (PtAt.new (W := (World.alloc w (.cells #[.int .i64 (a 0), .int .i64 (a 1), .int .i64 (a 2), .int .i64 (a 3), .int .i64 (a 4), .int .i64 (a 5)] 26))) (t := 79) (by simp)).below (by (repeat' (first | (with_reducible assumption) | (with_reducible exact Below.refl _ _) | (with_reducible refine below_wov ?_ ?_ _) | (with_reducible refine below_drewN ?_ _) | (with_reducible refine Below.drew ?_) | (with_reducible refine Below.alloc ?_ ?_ _) | (with_reducible refine Below.setCell ?_ ?_ _) | (with_reducible exact Nat.le_refl _) | omega | (simp only [World.size_alloc, World.size_setCell, World.size_drew, Wov_size, World.heap_drewN]; omega)))), SL.out.below (by (repeat' (first | (with_reducible assumption) | (with_reducible exact Below.refl _ _) | (with_reducible refine below_wov ?_ ?_ _) | (with_reducible refine below_drewN ?_ _) | (with_reducible refine Below.drew ?_) | (with_reducible refine Below.alloc ?_ ?_ _) | (with_reducible refine Below.setCell ?_ ?_ _) | (with_reducible exact Nat.le_refl _) | omega | (simp only [World.size_alloc, World.size_setCell, World.size_drew, Wov_size, World.heap_drewN]; omega))))⟩ ?_
          rintro W1 ⟨hb1, m1_0, m1_1, m1_2⟩
          have hs1 := hb1.size
          have f1_0_lt := m1_0.lt
          have f1_0_c0 := m1_0.c0
          have f1_0_c1 := m1_0.c1
          have f1_0_c2 := m1_0.c2
          have f1_0_c3 := m1_0.c3
          have f1_0_c4 := m1_0.c4
          have f1_0_c5 := m1_0.c5
          have f1_1_lt := m1_1.lt
          have f1_1_c0 := m1_1.c0
          have f1_1_c1 := m1_1.c1
          have f1_1_c2 := m1_1.c2
          have f1_1_c3 := m1_1.c3
          refine (HA.out _).mono ?_; rintro e w' ⟨rfl, q0, rfl⟩
          go_wp2_with (fail)
          refine calls_world (fun W => Below w.heap.size w W ∧ BoxZ W w.heap.size a ∧ PtAt W (w.heap.size + 1) pa pb pc pd ∧ SlZ W q l) ⟨by (repeat' (first | (with_reducible assumption) | (with_reducible exact Below.refl _ _) | (with_reducible refine below_wov ?_ ?_ _) | (with_reducible refine below_drewN ?_ _) | (with_reducible refine Below.drew ?_) | (with_reducible refine Below.alloc ?_ ?_ _) | (with_reducible refine Below.setCell ?_ ?_ _) | (with_reducible exact Nat.le_refl _) | omega | (simp only [World.size_alloc, World.size_setCell, World.size_drew, Wov_size, World.heap_drewN]; omega))), m1_0.below (by (repeat' (first | (with_reducible assumption) | (with_reducible exact Below.refl _ _) | (with_reducible refine below_wov ?_ ?_ _) | (with_reducible refine below_drewN ?_ _) | (with_reducible refine Below.drew ?_) | (with_reducible refine Below.alloc ?_ ?_ _) | (with_reducible refine Below.setCell ?_ ?_ _) | (with_reducible exact Nat.le_refl _) | omega | (simp only [World.size_alloc, World.size_setCell, World.size_drew, Wov_size, World.heap_drewN]; omega)))), m1_1.below (by (repeat' (first | (with_reducible assumption) | (with_reducible exact Below.refl _ _) | (with_reducible refine below_wov ?_ ?_ _) | (with_reducible refine below_drewN ?_ _) | (with_reducible refine Below.drew ?_) | (with_reducible refine Below.alloc ?_ ?_ _) | (with_reducible refine Below.setCell ?_ ?_ _) | (with_reducible exact Nat.le_refl _) | omega | (simp only [World.size_alloc, World.size_setCell, World.size_drew, Wov_size, World.heap_drewN]; omega)))), m1_2.below (by (repeat' (first | (with_reducible assumption) | (with_reducible exact Below.refl _ _) | (with_reducible refine below_wov ?_ ?_ _) | (with_reducible refine below_drewN ?_ _) | (with_reducible refine Below.drew ?_) | (with_reducible refine Below.alloc ?_ ?_ _) | (with_reducible refine Below.setCell ?_ ?_ _) | (with_reducible exact Nat.le_refl _) | omega | (simp only [World.size_alloc, World.size_setCell, World.size_drew, Wov_size, World.heap_drewN]; omega))))⟩ ?_
          rintro W2 ⟨hb2, m2_0, m2_1, m2_2⟩
          clear hb1 f1_0_lt f1_0_c0 f1_0_c1 f1_0_c2 f1_0_c3 f1_0_c4 f1_0_c5 f1_1_lt f1_1_c0 f1_1_c1 f1_1_c2 f1_1_c3 m1_0 m1_1 m1_2 hs1
          have hs2 := hb2.size
          have f2_0_lt := m2_0.lt
          have f2_0_c0 := m2_0.c0
          have f2_0_c1 := m2_0.c1
          have f2_0_c2 := m2_0.c2
          have f2_0_c3 := m2_0.c3
          have f2_0_c4 := m2_0.c4
          have f2_0_c5 := m2_0.c5
          have f2_1_lt := m2_1.lt
          have f2_1_c0 := m2_1.c0
          have f2_1_c1 := m2_1.c1
          have f2_1_c2 := m2_1.c2
          have f2_1_c3 := m2_1.c3
          refine (L1.out _ m2_2).mono ?_; rintro e w' ⟨⟨p1, c1, rfl, _, ho1⟩, q1, rfl⟩
          have hs1 := ho1.slz
          clear ho1
          go_wp2_with (fail)
          refine calls_world (fun W => Below w.heap.size w W ∧ BoxZ W w.heap.size a ∧ PtAt W (w.heap.size + 1) pa pb pc pd ∧ SlZ W q l ∧ SlZ W p1 ML) ⟨by (repeat' (first | (with_reducible assumption) | (with_reducible exact Below.refl _ _) | (with_reducible refine below_wov ?_ ?_ _) | (with_reducible refine below_drewN ?_ _) | (with_reducible refine Below.drew ?_) | (with_reducible refine Below.alloc ?_ ?_ _) | (with_reducible refine Below.setCell ?_ ?_ _) | (with_reducible exact Nat.le_refl _) | omega | (simp only [World.size_alloc, World.size_setCell, World.size_drew, Wov_size, World.heap_drewN]; omega))), m2_0.below (by (repeat' (first | (with_reducible assumption) | (with_reducible exact Below.refl _ _) | (with_reducible refine below_wov ?_ ?_ _) | (with_reducible refine below_drewN ?_ _) | (with_reducible refine Below.drew ?_) | (with_reducible refine Below.alloc ?_ ?_ _) | (with_reducible refine Below.setCell ?_ ?_ _) | (with_reducible exact Nat.le_refl _) | omega | (simp only [World.size_alloc, World.size_setCell, World.size_drew, Wov_size, World.heap_drewN]; omega)))), m2_1.below (by (repeat' (first | (with_reducible assumption) | (with_reducible exact Below.refl _ _) | (with_reducible refine below_wov ?_ ?_ _) | (with_reducible refine below_drewN ?_ _) | (with_reducible refine Below.drew ?_) | (with_reducible refine Below.alloc ?_ ?_ _) | (with_reducible refine Below.setCell ?_ ?_ _) | (with_reducible exact Nat.le_refl _) | omega | (simp only [World.size_alloc, World.size_setCell, World.size_drew, Wov_size, World.heap_drewN]; omega)))), m2_2.below (by (repeat' (first | (with_reducible assumption) | (with_reducible exact Below.refl _ _) | (with_reducible refine below_wov ?_ ?_ _) | (with_reducible refine below_drewN ?_ _) | (with_reducible refine Below.drew ?_) | (with_reducible refine Below.alloc ?_ ?_ _) | (with_reducible refine Below.setCell ?_ ?_ _) | (with_reducible exact Nat.le_refl _) | omega | (simp only [World.size_alloc, World.size_setCell, World.size_drew, Wov_size, World.heap_drewN]; omega)))), hs1.below (by (repeat' (first | (with_reducible assumption) | (with_reducible exact Below.refl _ _) | (with_reducible refine below_wov ?_ ?_ _) | (with_reducible refine below_drewN ?_ _) | (with_reducible refine Below.drew ?_) | (with_reducible refine Below.alloc ?_ ?_ _) | (with_reducible refine Below.setCell ?_ ?_ _) | (with_reducible exact Nat.le_refl _) | omega | (simp only [World.size_alloc, World.size_setCell, World.size_drew, Wov_size, World.heap_drewN]; omega))))⟩ ?_
          rintro W3 ⟨hb3, m3_0, m3_1, m3_2, m3_3⟩
          clear hb2 f2_0_lt f2_0_c0 f2_0_c1 f2_0_c2 f2_0_c3 f2_0_c4 f2_0_c5 f2_1_lt f2_1_c0 f2_1_c1 f2_1_c2 f2_1_c3 m2_0 m2_1 m2_2 hs2
          have hs3 := hb3.size
          have f3_0_lt := m3_0.lt
          have f3_0_c0 := m3_0.c0
          have f3_0_c1 := m3_0.c1
          have f3_0_c2 := m3_0.c2
          have f3_0_c3 := m3_0.c3
          have f3_0_c4 := m3_0.c4
          have f3_0_c5 := m3_0.c5
          have f3_1_lt := m3_1.lt
          have f3_1_c0 := m3_1.c0
          have f3_1_c1 := m3_1.c1
          have f3_1_c2 := m3_1.c2
          have f3_1_c3 := m3_1.c3
          clear hs1
          refine (H1.out _).mono ?_; rintro e w' ⟨rfl, q2, rfl⟩
          go_wp2_with (fail)
          refine calls_world (fun W => Below w.heap.size w W ∧ BoxZ W w.heap.size a ∧ PtAt W (w.heap.size + 1) pa pb pc pd ∧ SlZ W q l ∧ SlZ W p1 ML) ⟨by (repeat' (first | (with_reducible assumption) | (with_reducible exact Below.refl _ _) | (with_reducible refine below_wov ?_ ?_ _) | (with_reducible refine below_drewN ?_ _) | (with_reducible refine Below.drew ?_) | (with_reducible refine Below.alloc ?_ ?_ _) | (with_reducible refine Below.setCell ?_ ?_ _) | (with_reducible exact Nat.le_refl _) | omega | (simp only [World.size_alloc, World.size_setCell, World.size_drew, Wov_size, World.heap_drewN]; omega))), m3_0.below (by (repeat' (first | (with_reducible assumption) | (with_reducible exact Below.refl _ _) | (with_reducible refine below_wov ?_ ?_ _) | (with_reducible refine below_drewN ?_ _) | (with_reducible refine Below.drew ?_) | (with_reducible refine Below.alloc ?_ ?_ _) | (with_reducible refine Below.setCell ?_ ?_ _) | (with_reducible exact Nat.le_refl _) | omega | (simp only [World.size_alloc, World.size_setCell, World.size_drew, Wov_size, World.heap_drewN]; omega)))), m3_1.below (by (repeat' (first | (with_reducible assumption) | (with_reducible exact Below.refl _ _) | (with_reducible refine below_wov ?_ ?_ _) | (with_reducible refine below_drewN ?_ _) | (with_reducible refine Below.drew ?_) | (with_reducible refine Below.alloc ?_ ?_ _) | (with_reducible refine Below.setCell ?_ ?_ _) | (with_reducible exact Nat.le_refl _) | omega | (simp only [World.size_alloc, World.size_setCell, World.size_drew, Wov_size, World.heap_drewN]; omega)))), m3_2.below (by (repeat' (first | (with_reducible assumption) | (with_reducible exact Below.refl _ _) | (with_reducible refine below_wov ?_ ?_ _) | (with_reducible refine below_drewN ?_ _) | (with_reducible refine Below.drew ?_) | (with_reducible refine Below.alloc ?_ ?_ _) | (with_reducible refine Below.setCell ?_ ?_ _) | (with_reducible exact Nat.le_refl _) | omega | (simp only [World.size_alloc, World.size_setCell, World.size_drew, Wov_size, World.heap_drewN]; omega)))), m3_3.below (by (repeat' (first | (with_reducible assumption) | (with_reducible exact Below.refl _ _) | (with_reducible refine below_wov ?_ ?_ _) | (with_reducible refine below_drewN ?_ _) | (with_reducible refine Below.drew ?_) | (with_reducible refine Below.alloc ?_ ?_ _) | (with_reducible refine Below.setCell ?_ ?_ _) | (with_reducible exact Nat.le_refl _) | omega | (simp only [World.size_alloc, World.size_setCell, World.size_drew, Wov_size, World.heap_drewN]; omega))))⟩ ?_
          rintro W4 ⟨hb4, m4_0, m4_1, m4_2, m4_3⟩
          clear hb3 f3_0_lt f3_0_c0 f3_0_c1 f3_0_c2 f3_0_c3 f3_0_c4 f3_0_c5 f3_1_lt f3_1_c0 f3_1_c1 f3_1_c2 f3_1_c3 m3_0 m3_1 m3_2 m3_3 hs3
          have hs4 := hb4.size
          have f4_0_lt := m4_0.lt
          have f4_0_c0 := m4_0.c0
          have f4_0_c1 := m4_0.c1
          have f4_0_c2 := m4_0.c2
          have f4_0_c3 := m4_0.c3
          have f4_0_c4 := m4_0.c4
          have f4_0_c5 := m4_0.c5
          have f4_1_lt := m4_1.lt
          have f4_1_c0 := m4_1.c0
          have f4_1_c1 := m4_1.c1
          have f4_1_c2 := m4_1.c2
          have f4_1_c3 := m4_1.c3
          refine (C1.out _ _ _ m4_2).mono ?_; rintro e w' ⟨rfl, q3, rfl⟩
          go_wp2_with (fail)
          refine calls_world (fun W => Below w.heap.size w W ∧ BoxZ W w.heap.size a ∧ PtAt W (w.heap.size + 1) pa pb pc pd ∧ SlZ W q l ∧ SlZ W p1 ML) ⟨by (repeat' (first | (with_reducible assumption) | (with_reducible exact Below.refl _ _) | (with_reducible refine below_wov ?_ ?_ _) | (with_reducible refine below_drewN ?_ _) | (with_reducible refine Below.drew ?_) | (with_reducible refine Below.alloc ?_ ?_ _) | (with_reducible refine Below.setCell ?_ ?_ _) | (with_reducible exact Nat.le_refl _) | omega | (simp only [World.size_alloc, World.size_setCell, World.size_drew, Wov_size, World.heap_drewN]; omega))), m4_0.below (by (repeat' (first | (with_reducible assumption) | (with_reducible exact Below.refl _ _) | (with_reducible refine below_wov ?_ ?_ _) | (with_reducible refine below_drewN ?_ _) | (with_reducible refine Below.drew ?_) | (with_reducible refine Below.alloc ?_ ?_ _) | (with_reducible refine Below.setCell ?_ ?_ _) | (with_reducible exact Nat.le_refl _) | omega | (simp only [World.size_alloc, World.size_setCell, World.size_drew, Wov_size, World.heap_drewN]; omega)))), m4_1.below (by (repeat' (first | (with_reducible assumption) | (with_reducible exact Below.refl _ _) | (with_reducible refine below_wov ?_ ?_ _) | (with_reducible refine below_drewN ?_ _) | (with_reducible refine Below.drew ?_) | (with_reducible refine Below.alloc ?_ ?_ _) | (with_reducible refine Below.setCell ?_ ?_ _) | (with_reducible exact Nat.le_refl _) | omega | (simp only [World.size_alloc, World.size_setCell, World.size_drew, Wov_size, World.heap_drewN]; omega)))), m4_2.below (by (repeat' (first | (with_reducible assumption) | (with_reducible exact Below.refl _ _) | (with_reducible refine below_wov ?_ ?_ _) | (with_reducible refine below_drewN ?_ _) | (with_reducible refine Below.drew ?_) | (with_reducible refine Below.alloc ?_ ?_ _) | (with_reducible refine Below.setCell ?_ ?_ _) | (with_reducible exact Nat.le_refl _) | omega | (simp only [World.size_alloc, World.size_setCell, World.size_drew, Wov_size, World.heap_drewN]; omega)))), m4_3.below (by (repeat' (first | (with_reducible assumption) | (with_reducible exact Below.refl _ _) | (with_reducible refine below_wov ?_ ?_ _) | (with_reducible refine below_drewN ?_ _) | (with_reducible refine Below.drew ?_) | (with_reducible refine Below.alloc ?_ ?_ _) | (with_reducible refine Below.setCell ?_ ?_ _) | (with_reducible exact Nat.le_refl _) | omega | (simp only [World.size_alloc, World.size_setCell, World.size_drew, Wov_size, World.heap_drewN]; omega))))⟩ ?_
          rintro W5 ⟨hb5, m5_0, m5_1, m5_2, m5_3⟩
          clear hb4 f4_0_lt f4_0_c0 f4_0_c1 f4_0_c2 f4_0_c3 f4_0_c4 f4_0_c5 f4_1_lt f4_1_c0 f4_1_c1 f4_1_c2 f4_1_c3 m4_0 m4_1 m4_2 m4_3 hs4
          have hs5 := hb5.size
          have f5_0_lt := m5_0.lt
          have f5_0_c0 := m5_0.c0
          have f5_0_c1 := m5_0.c1
          have f5_0_c2 := m5_0.c2
          have f5_0_c3 := m5_0.c3
          have f5_0_c4 := m5_0.c4
          have f5_0_c5 := m5_0.c5
          have f5_1_lt := m5_1.lt
          have f5_1_c0 := m5_1.c0
          have f5_1_c1 := m5_1.c1
          have f5_1_c2 := m5_1.c2
          have f5_1_c3 := m5_1.c3
          refine (C2.out _ _ _ m5_3).mono ?_; rintro e w' ⟨rfl, q4, rfl⟩
          clear C1 C2 L1 H1 HA
          go_wp2
          all_goals
            go_ret
            exact gives_bool (by simp) (by (repeat' (first | (with_reducible assumption) | (with_reducible exact Below.refl _ _) | (with_reducible refine below_wov ?_ ?_ _) | (with_reducible refine below_drewN ?_ _) | (with_reducible refine Below.drew ?_) | (with_reducible refine Below.alloc ?_ ?_ _) | (with_reducible refine Below.setCell ?_ ?_ _) | (with_reducible exact Nat.le_refl _) | omega | (simp only [World.size_alloc, World.size_setCell, World.size_drew, Wov_size, World.heap_drewN]; omega))))
        · skip
          have hq1 : ((n1 : Int) == 0) = false := by rw [beq_eq_false_iff_ne]; omega
          have hq2 : decide ((0 : Int) < (n1 : Int)) = true := by simp; omega
          unfold zoneV
          go_enter Try.func16, Try.ntmps16
          go_wp2_with (fail)
          refine calls_world (fun W => Below w.heap.size w W ∧ BoxZ W w.heap.size a ∧ PtAt W (w.heap.size + 1) pa pb pc pd ∧ SlZ W q l) ⟨by (repeat' (first | (with_reducible assumption) | (with_reducible exact Below.refl _ _) | (with_reducible refine below_wov ?_ ?_ _) | (with_reducible refine below_drewN ?_ _) | (with_reducible refine Below.drew ?_) | (with_reducible refine Below.alloc ?_ ?_ _) | (with_reducible refine Below.setCell ?_ ?_ _) | (with_reducible exact Nat.le_refl _) | omega | (simp only [World.size_alloc, World.size_setCell, World.size_drew, Wov_size, World.heap_drewN]; omega))), (BoxZ.new (W := w) (t := 26) (by simp)).below (by (repeat' (first | (with_reducible assumption) | (with_reducible exact Below.refl _ _) | (with_reducible refine below_wov ?_ ?_ _) | (with_reducible refine below_drewN ?_ _) | (with_reducible refine Below.drew ?_) | (with_reducible refine Below.alloc ?_ ?_ _) | (with_reducible refine Below.setCell ?_ ?_ _) | (with_reducible exact Nat.le_refl _) | omega | (simp only [World.size_alloc, World.size_setCell, World.size_drew, Wov_size, World.heap_drewN]; omega)))), (PtAt.new (W := (World.alloc w (.cells #[.int .i64 (a 0), .int .i64 (a 1), .int .i64 (a 2), .int .i64 (a 3), .int .i64 (a 4), .int .i64 (a 5)] 26))) (t := 79) (by simp)).below (by (repeat' (first | (with_reducible assumption) | (with_reducible exact Below.refl _ _) | (with_reducible refine below_wov ?_ ?_ _) | (with_reducible refine below_drewN ?_ _) | (with_reducible refine Below.drew ?_) | (with_reducible refine Below.alloc ?_ ?_ _) | (with_reducible refine Below.setCell ?_ ?_ _) | (with_reducible exact Nat.le_refl _) | omega | (simp only [World.size_alloc, World.size_setCell, World.size_drew, Wov_size, World.heap_drewN]; omega)))), SL.out.below (by (repeat' (first | (with_reducible assumption) | (with_reducible exact Below.refl _ _) | (with_reducible refine below_wov ?_ ?_ _) | (with_reducible refine below_drewN ?_ _) | (with_reducible refine Below.drew ?_) | (with_reducible refine Below.alloc ?_ ?_ _) | (with_reducible refine Below.setCell ?_ ?_ _) | (with_reducible exact Nat.le_refl _) | omega | (simp only [World.size_alloc, World.size_setCell, World.size_drew, Wov_size, World.heap_drewN]; omega))))⟩ ?_
          rintro W1 ⟨hb1, m1_0, m1_1, m1_2⟩
          have hs1 := hb1.size
          have f1_0_lt := m1_0.lt
          have f1_0_c0 := m1_0.c0
          have f1_0_c1 := m1_0.c1
          have f1_0_c2 := m1_0.c2
          have f1_0_c3 := m1_0.c3
          have f1_0_c4 := m1_0.c4
          have f1_0_c5 := m1_0.c5
          have f1_1_lt := m1_1.lt
          have f1_1_c0 := m1_1.c0
          have f1_1_c1 := m1_1.c1
          have f1_1_c2 := m1_1.c2
          have f1_1_c3 := m1_1.c3
          refine (HA.out _).mono ?_; rintro e w' ⟨rfl, q0, rfl⟩
          go_wp2_with (fail)
          refine calls_world (fun W => Below w.heap.size w W ∧ BoxZ W w.heap.size a ∧ PtAt W (w.heap.size + 1) pa pb pc pd ∧ SlZ W q l) ⟨by (repeat' (first | (with_reducible assumption) | (with_reducible exact Below.refl _ _) | (with_reducible refine below_wov ?_ ?_ _) | (with_reducible refine below_drewN ?_ _) | (with_reducible refine Below.drew ?_) | (with_reducible refine Below.alloc ?_ ?_ _) | (with_reducible refine Below.setCell ?_ ?_ _) | (with_reducible exact Nat.le_refl _) | omega | (simp only [World.size_alloc, World.size_setCell, World.size_drew, Wov_size, World.heap_drewN]; omega))), m1_0.below (by (repeat' (first | (with_reducible assumption) | (with_reducible exact Below.refl _ _) | (with_reducible refine below_wov ?_ ?_ _) | (with_reducible refine below_drewN ?_ _) | (with_reducible refine Below.drew ?_) | (with_reducible refine Below.alloc ?_ ?_ _) | (with_reducible refine Below.setCell ?_ ?_ _) | (with_reducible exact Nat.le_refl _) | omega | (simp only [World.size_alloc, World.size_setCell, World.size_drew, Wov_size, World.heap_drewN]; omega)))), m1_1.below (by (repeat' (first | (with_reducible assumption) | (with_reducible exact Below.refl _ _) | (with_reducible refine below_wov ?_ ?_ _) | (with_reducible refine below_drewN ?_ _) | (with_reducible refine Below.drew ?_) | (with_reducible refine Below.alloc ?_ ?_ _) | (with_reducible refine Below.setCell ?_ ?_ _) | (with_reducible exact Nat.le_refl _) | omega | (simp only [World.size_alloc, World.size_setCell, World.size_drew, Wov_size, World.heap_drewN]; omega)))), m1_2.below (by (repeat' (first | (with_reducible assumption) | (with_reducible exact Below.refl _ _) | (with_reducible refine below_wov ?_ ?_ _) | (with_reducible refine below_drewN ?_ _) | (with_reducible refine Below.drew ?_) | (with_reducible refine Below.alloc ?_ ?_ _) | (with_reducible refine Below.setCell ?_ ?_ _) | (with_reducible exact Nat.le_refl _) | omega | (simp only [World.size_alloc, World.size_setCell, World.size_drew, Wov_size, World.heap_drewN]; omega))))⟩ ?_
          rintro W2 ⟨hb2, m2_0, m2_1, m2_2⟩
          clear hb1 f1_0_lt f1_0_c0 f1_0_c1 f1_0_c2 f1_0_c3 f1_0_c4 f1_0_c5 f1_1_lt f1_1_c0 f1_1_c1 f1_1_c2 f1_1_c3 m1_0 m1_1 m1_2 hs1
          have hs2 := hb2.size
          have f2_0_lt := m2_0.lt
          have f2_0_c0 := m2_0.c0
          have f2_0_c1 := m2_0.c1
          have f2_0_c2 := m2_0.c2
          have f2_0_c3 := m2_0.c3
          have f2_0_c4 := m2_0.c4
          have f2_0_c5 := m2_0.c5
          have f2_1_lt := m2_1.lt
          have f2_1_c0 := m2_1.c0
          have f2_1_c1 := m2_1.c1
          have f2_1_c2 := m2_1.c2
          have f2_1_c3 := m2_1.c3
          refine (L1.out _ m2_2).mono ?_; rintro e w' ⟨⟨p1, c1, rfl, _, ho1⟩, q1, rfl⟩
          have hs1 := ho1.slz
          clear ho1
          go_wp2_with (fail)
          refine calls_world (fun W => Below w.heap.size w W ∧ BoxZ W w.heap.size a ∧ PtAt W (w.heap.size + 1) pa pb pc pd ∧ SlZ W q l ∧ SlZ W p1 ML) ⟨by (repeat' (first | (with_reducible assumption) | (with_reducible exact Below.refl _ _) | (with_reducible refine below_wov ?_ ?_ _) | (with_reducible refine below_drewN ?_ _) | (with_reducible refine Below.drew ?_) | (with_reducible refine Below.alloc ?_ ?_ _) | (with_reducible refine Below.setCell ?_ ?_ _) | (with_reducible exact Nat.le_refl _) | omega | (simp only [World.size_alloc, World.size_setCell, World.size_drew, Wov_size, World.heap_drewN]; omega))), m2_0.below (by (repeat' (first | (with_reducible assumption) | (with_reducible exact Below.refl _ _) | (with_reducible refine below_wov ?_ ?_ _) | (with_reducible refine below_drewN ?_ _) | (with_reducible refine Below.drew ?_) | (with_reducible refine Below.alloc ?_ ?_ _) | (with_reducible refine Below.setCell ?_ ?_ _) | (with_reducible exact Nat.le_refl _) | omega | (simp only [World.size_alloc, World.size_setCell, World.size_drew, Wov_size, World.heap_drewN]; omega)))), m2_1.below (by (repeat' (first | (with_reducible assumption) | (with_reducible exact Below.refl _ _) | (with_reducible refine below_wov ?_ ?_ _) | (with_reducible refine below_drewN ?_ _) | (with_reducible refine Below.drew ?_) | (with_reducible refine Below.alloc ?_ ?_ _) | (with_reducible refine Below.setCell ?_ ?_ _) | (with_reducible exact Nat.le_refl _) | omega | (simp only [World.size_alloc, World.size_setCell, World.size_drew, Wov_size, World.heap_drewN]; omega)))), m2_2.below (by (repeat' (first | (with_reducible assumption) | (with_reducible exact Below.refl _ _) | (with_reducible refine below_wov ?_ ?_ _) | (with_reducible refine below_drewN ?_ _) | (with_reducible refine Below.drew ?_) | (with_reducible refine Below.alloc ?_ ?_ _) | (with_reducible refine Below.setCell ?_ ?_ _) | (with_reducible exact Nat.le_refl _) | omega | (simp only [World.size_alloc, World.size_setCell, World.size_drew, Wov_size, World.heap_drewN]; omega)))), hs1.below (by (repeat' (first | (with_reducible assumption) | (with_reducible exact Below.refl _ _) | (with_reducible refine below_wov ?_ ?_ _) | (with_reducible refine below_drewN ?_ _) | (with_reducible refine Below.drew ?_) | (with_reducible refine Below.alloc ?_ ?_ _) | (with_reducible refine Below.setCell ?_ ?_ _) | (with_reducible exact Nat.le_refl _) | omega | (simp only [World.size_alloc, World.size_setCell, World.size_drew, Wov_size, World.heap_drewN]; omega))))⟩ ?_
          rintro W3 ⟨hb3, m3_0, m3_1, m3_2, m3_3⟩
          clear hb2 f2_0_lt f2_0_c0 f2_0_c1 f2_0_c2 f2_0_c3 f2_0_c4 f2_0_c5 f2_1_lt f2_1_c0 f2_1_c1 f2_1_c2 f2_1_c3 m2_0 m2_1 m2_2 hs2
          have hs3 := hb3.size
          have f3_0_lt := m3_0.lt
          have f3_0_c0 := m3_0.c0
          have f3_0_c1 := m3_0.c1
          have f3_0_c2 := m3_0.c2
          have f3_0_c3 := m3_0.c3
          have f3_0_c4 := m3_0.c4
          have f3_0_c5 := m3_0.c5
          have f3_1_lt := m3_1.lt
          have f3_1_c0 := m3_1.c0
          have f3_1_c1 := m3_1.c1
          have f3_1_c2 := m3_1.c2
          have f3_1_c3 := m3_1.c3
          clear hs1
          refine (H1.out _).mono ?_; rintro e w' ⟨rfl, q2, rfl⟩
          go_wp2_with (fail)
          refine calls_world (fun W => Below w.heap.size w W ∧ BoxZ W w.heap.size a ∧ PtAt W (w.heap.size + 1) pa pb pc pd ∧ SlZ W q l ∧ SlZ W p1 ML) ⟨by (repeat' (first | (with_reducible assumption) | (with_reducible exact Below.refl _ _) | (with_reducible refine below_wov ?_ ?_ _) | (with_reducible refine below_drewN ?_ _) | (with_reducible refine Below.drew ?_) | (with_reducible refine Below.alloc ?_ ?_ _) | (with_reducible refine Below.setCell ?_ ?_ _) | (with_reducible exact Nat.le_refl _) | omega | (simp only [World.size_alloc, World.size_setCell, World.size_drew, Wov_size, World.heap_drewN]; omega))), m3_0.below (by (repeat' (first | (with_reducible assumption) | (with_reducible exact Below.refl _ _) | (with_reducible refine below_wov ?_ ?_ _) | (with_reducible refine below_drewN ?_ _) | (with_reducible refine Below.drew ?_) | (with_reducible refine Below.alloc ?_ ?_ _) | (with_reducible refine Below.setCell ?_ ?_ _) | (with_reducible exact Nat.le_refl _) | omega | (simp only [World.size_alloc, World.size_setCell, World.size_drew, Wov_size, World.heap_drewN]; omega)))), m3_1.below (by (repeat' (first | (with_reducible assumption) | (with_reducible exact Below.refl _ _) | (with_reducible refine below_wov ?_ ?_ _) | (with_reducible refine below_drewN ?_ _) | (with_reducible refine Below.drew ?_) | (with_reducible refine Below.alloc ?_ ?_ _) | (with_reducible refine Below.setCell ?_ ?_ _) | (with_reducible exact Nat.le_refl _) | omega | (simp only [World.size_alloc, World.size_setCell, World.size_drew, Wov_size, World.heap_drewN]; omega)))), m3_2.below (by (repeat' (first | (with_reducible assumption) | (with_reducible exact Below.refl _ _) | (with_reducible refine below_wov ?_ ?_ _) | (with_reducible refine below_drewN ?_ _) | (with_reducible refine Below.drew ?_) | (with_reducible refine Below.alloc ?_ ?_ _) | (with_reducible refine Below.setCell ?_ ?_ _) | (with_reducible exact Nat.le_refl _) | omega | (simp only [World.size_alloc, World.size_setCell, World.size_drew, Wov_size, World.heap_drewN]; omega)))), m3_3.below (by (repeat' (first | (with_reducible assumption) | (with_reducible exact Below.refl _ _) | (with_reducible refine below_wov ?_ ?_ _) | (with_reducible refine below_drewN ?_ _) | (with_reducible refine Below.drew ?_) | (with_reducible refine Below.alloc ?_ ?_ _) | (with_reducible refine Below.setCell ?_ ?_ _) | (with_reducible exact Nat.le_refl _) | omega | (simp only [World.size_alloc, World.size_setCell, World.size_drew, Wov_size, World.heap_drewN]; omega))))⟩ ?_
          rintro W4 ⟨hb4, m4_0, m4_1, m4_2, m4_3⟩
          clear hb3 f3_0_lt f3_0_c0 f3_0_c1 f3_0_c2 f3_0_c3 f3_0_c4 f3_0_c5 f3_1_lt f3_1_c0 f3_1_c1 f3_1_c2 f3_1_c3 m3_0 m3_1 m3_2 m3_3 hs3
          have hs4 := hb4.size
          have f4_0_lt := m4_0.lt
          have f4_0_c0 := m4_0.c0
          have f4_0_c1 := m4_0.c1
          have f4_0_c2 := m4_0.c2
          have f4_0_c3 := m4_0.c3
          have f4_0_c4 := m4_0.c4
          have f4_0_c5 := m4_0.c5
          have f4_1_lt := m4_1.lt
          have f4_1_c0 := m4_1.c0
          have f4_1_c1 := m4_1.c1
          have f4_1_c2 := m4_1.c2
          have f4_1_c3 := m4_1.c3
          refine (C1.out _ _ _ m4_2).mono ?_; rintro e w' ⟨rfl, q3, rfl⟩
          go_wp2_with (fail)
          refine calls_world (fun W => Below w.heap.size w W ∧ BoxZ W w.heap.size a ∧ PtAt W (w.heap.size + 1) pa pb pc pd ∧ SlZ W q l ∧ SlZ W p1 ML) ⟨by (repeat' (first | (with_reducible assumption) | (with_reducible exact Below.refl _ _) | (with_reducible refine below_wov ?_ ?_ _) | (with_reducible refine below_drewN ?_ _) | (with_reducible refine Below.drew ?_) | (with_reducible refine Below.alloc ?_ ?_ _) | (with_reducible refine Below.setCell ?_ ?_ _) | (with_reducible exact Nat.le_refl _) | omega | (simp only [World.size_alloc, World.size_setCell, World.size_drew, Wov_size, World.heap_drewN]; omega))), m4_0.below (by (repeat' (first | (with_reducible assumption) | (with_reducible exact Below.refl _ _) | (with_reducible refine below_wov ?_ ?_ _) | (with_reducible refine below_drewN ?_ _) | (with_reducible refine Below.drew ?_) | (with_reducible refine Below.alloc ?_ ?_ _) | (with_reducible refine Below.setCell ?_ ?_ _) | (with_reducible exact Nat.le_refl _) | omega | (simp only [World.size_alloc, World.size_setCell, World.size_drew, Wov_size, World.heap_drewN]; omega)))), m4_1.below (by (repeat' (first | (with_reducible assumption) | (with_reducible exact Below.refl _ _) | (with_reducible refine below_wov ?_ ?_ _) | (with_reducible refine below_drewN ?_ _) | (with_reducible refine Below.drew ?_) | (with_reducible refine Below.alloc ?_ ?_ _) | (with_reducible refine Below.setCell ?_ ?_ _) | (with_reducible exact Nat.le_refl _) | omega | (simp only [World.size_alloc, World.size_setCell, World.size_drew, Wov_size, World.heap_drewN]; omega)))), m4_2.below (by (repeat' (first | (with_reducible assumption) | (with_reducible exact Below.refl _ _) | (with_reducible refine below_wov ?_ ?_ _) | (with_reducible refine below_drewN ?_ _) | (with_reducible refine Below.drew ?_) | (with_reducible refine Below.alloc ?_ ?_ _) | (with_reducible refine Below.setCell ?_ ?_ _) | (with_reducible exact Nat.le_refl _) | omega | (simp only [World.size_alloc, World.size_setCell, World.size_drew, Wov_size, World.heap_drewN]; omega)))), m4_3.below (by (repeat' (first | (with_reducible assumption) | (with_reducible exact Below.refl _ _) | (with_reducible refine below_wov ?_ ?_ _) | (with_reducible refine below_drewN ?_ _) | (with_reducible refine Below.drew ?_) | (with_reducible refine Below.alloc ?_ ?_ _) | (with_reducible refine Below.setCell ?_ ?_ _) | (with_reducible exact Nat.le_refl _) | omega | (simp only [World.size_alloc, World.size_setCell, World.size_drew, Wov_size, World.heap_drewN]; omega))))⟩ ?_
          rintro W5 ⟨hb5, m5_0, m5_1, m5_2, m5_3⟩
          clear hb4 f4_0_lt f4_0_c0 f4_0_c1 f4_0_c2 f4_0_c3 f4_0_c4 f4_0_c5 f4_1_lt f4_1_c0 f4_1_c1 f4_1_c2 f4_1_c3 m4_0 m4_1 m4_2 m4_3 hs4
          have hs5 := hb5.size
          have f5_0_lt := m5_0.lt
          have f5_0_c0 := m5_0.c0
          have f5_0_c1 := m5_0.c1
          have f5_0_c2 := m5_0.c2
          have f5_0_c3 := m5_0.c3
          have f5_0_c4 := m5_0.c4
          have f5_0_c5 := m5_0.c5
          have f5_1_lt := m5_1.lt
          have f5_1_c0 := m5_1.c0
          have f5_1_c1 := m5_1.c1
          have f5_1_c2 := m5_1.c2
          have f5_1_c3 := m5_1.c3
          refine (C2.out _ _ _ m5_3).mono ?_; rintro e w' ⟨rfl, q4, rfl⟩
          clear C1 C2 L1 H1 HA
          go_wp2
          all_goals
            go_ret
            exact gives_bool (by simp) (by (repeat' (first | (with_reducible assumption) | (with_reducible exact Below.refl _ _) | (with_reducible refine below_wov ?_ ?_ _) | (with_reducible refine below_drewN ?_ _) | (with_reducible refine Below.drew ?_) | (with_reducible refine Below.alloc ?_ ?_ _) | (with_reducible refine Below.setCell ?_ ?_ _) | (with_reducible exact Nat.le_refl _) | omega | (simp only [World.size_alloc, World.size_setCell, World.size_drew, Wov_size, World.heap_drewN]; omega))))
        · skip
          unfold zoneV
          go_enter Try.func16, Try.ntmps16
          go_wp2_with (fail)
          refine calls_world (fun W => Below w.heap.size w W ∧ BoxZ W w.heap.size a ∧ PtAt W (w.heap.size + 1) pa pb pc pd ∧ SlZ W q l) ⟨by (repeat' (first | (with_reducible assumption) | (with_reducible exact Below.refl _ _) | (with_reducible refine below_wov ?_ ?_ _) | (with_reducible refine below_drewN ?_ _) | (with_reducible refine Below.drew ?_) | (with_reducible refine Below.alloc ?_ ?_ _) | (with_reducible refine Below.setCell ?_ ?_ _) | (with_reducible exact Nat.le_refl _) | omega | (simp only [World.size_alloc, World.size_setCell, World.size_drew, Wov_size, World.heap_drewN]; omega))), (BoxZ.new (W := w) (t := 26) (by simp)).below (by (repeat' (first | (with_reducible assumption) | (with_reducible exact Below.refl _ _) | (with_reducible refine below_wov ?_ ?_ _) | (with_reducible refine below_drewN ?_ _) | (with_reducible refine Below.drew ?_) | (with_reducible refine Below.alloc ?_ ?_ _) | (with_reducible refine Below.setCell ?_ ?_ _) | (with_reducible exact Nat.le_refl _) | omega | (simp only [World.size_alloc, World.size_setCell, World.size_drew, Wov_size, World.heap_drewN]; omega)))), (PtAt.new (W := (World.alloc w (.cells #[.int .i64 (a 0), .int .i64 (a 1), .int .i64 (a 2), .int .i64 (a 3), .int .i64 (a 4), .int .i64 (a 5)] 26))) (t := 79) (by simp)).below (by (repeat' (first | (with_reducible assumption) | (with_reducible exact Below.refl _ _) | (with_reducible refine below_wov ?_ ?_ _) | (with_reducible refine below_drewN ?_ _) | (with_reducible refine Below.drew ?_) | (with_reducible refine Below.alloc ?_ ?_ _) | (with_reducible refine Below.setCell ?_ ?_ _) | (with_reducible exact Nat.le_refl _) | omega | (simp only [World.size_alloc, World.size_setCell, World.size_drew, Wov_size, World.heap_drewN]; omega)))), SL.out.below (by (repeat' (first | (with_reducible assumption) | (with_reducible exact Below.refl _ _) | (with_reducible refine below_wov ?_ ?_ _) | (with_reducible refine below_drewN ?_ _) | (with_reducible refine Below.drew ?_) | (with_reducible refine Below.alloc ?_ ?_ _) | (with_reducible refine Below.setCell ?_ ?_ _) | (with_reducible exact Nat.le_refl _) | omega | (simp only [World.size_alloc, World.size_setCell, World.size_drew, Wov_size, World.heap_drewN]; omega))))⟩ ?_
          rintro W1 ⟨hb1, m1_0, m1_1, m1_2⟩
          have hs1 := hb1.size
          have f1_0_lt := m1_0.lt
          have f1_0_c0 := m1_0.c0
          have f1_0_c1 := m1_0.c1
          have f1_0_c2 := m1_0.c2
          have f1_0_c3 := m1_0.c3
          have f1_0_c4 := m1_0.c4
          have f1_0_c5 := m1_0.c5
          have f1_1_lt := m1_1.lt
          have f1_1_c0 := m1_1.c0
          have f1_1_c1 := m1_1.c1
          have f1_1_c2 := m1_1.c2
          have f1_1_c3 := m1_1.c3
          refine (HA.out _).mono ?_; rintro e w' ⟨rfl, q0, rfl⟩
          go_wp2_with (fail)
          refine calls_world (fun W => Below w.heap.size w W ∧ BoxZ W w.heap.size a ∧ PtAt W (w.heap.size + 1) pa pb pc pd ∧ SlZ W q l) ⟨by (repeat' (first | (with_reducible assumption) | (with_reducible exact Below.refl _ _) | (with_reducible refine below_wov ?_ ?_ _) | (with_reducible refine below_drewN ?_ _) | (with_reducible refine Below.drew ?_) | (with_reducible refine Below.alloc ?_ ?_ _) | (with_reducible refine Below.setCell ?_ ?_ _) | (with_reducible exact Nat.le_refl _) | omega | (simp only [World.size_alloc, World.size_setCell, World.size_drew, Wov_size, World.heap_drewN]; omega))), m1_0.below (by (repeat' (first | (with_reducible assumption) | (with_reducible exact Below.refl _ _) | (with_reducible refine below_wov ?_ ?_ _) | (with_reducible refine below_drewN ?_ _) | (with_reducible refine Below.drew ?_) | (with_reducible refine Below.alloc ?_ ?_ _) | (with_reducible refine Below.setCell ?_ ?_ _) | (with_reducible exact Nat.le_refl _) | omega | (simp only [World.size_alloc, World.size_setCell, World.size_drew, Wov_size, World.heap_drewN]; omega)))), m1_1.below (by (repeat' (first | (with_reducible assumption) | (with_reducible exact Below.refl _ _) | (with_reducible refine below_wov ?_ ?_ _) | (with_reducible refine below_drewN ?_ _) | (with_reducible refine Below.drew ?_) | (with_reducible refine Below.alloc ?_ ?_ _) | (with_reducible refine Below.setCell ?_ ?_ _) | (with_reducible exact Nat.le_refl _) | omega | (simp only [World.size_alloc, World.size_setCell, World.size_drew, Wov_size, World.heap_drewN]; omega)))), m1_2.below (by (repeat' (first | (with_reducible assumption) | (with_reducible exact Below.refl _ _) | (with_reducible refine below_wov ?_ ?_ _) | (with_reducible refine below_drewN ?_ _) | (with_reducible refine Below.drew ?_) | (with_reducible refine Below.alloc ?_ ?_ _) | (with_reducible refine Below.setCell ?_ ?_ _) | (with_reducible exact Nat.le_refl _) | omega | (simp only [World.size_alloc, World.size_setCell, World.size_drew, Wov_size, World.heap_drewN]; omega))))⟩ ?_
          rintro W2 ⟨hb2, m2_0, m2_1, m2_2⟩
          clear hb1 f1_0_lt f1_0_c0 f1_0_c1 f1_0_c2 f1_0_c3 f1_0_c4 f1_0_c5 f1_1_lt f1_1_c0 f1_1_c1 f1_1_c2 f1_1_c3 m1_0 m1_1 m1_2 hs1
          have hs2 := hb2.size
          have f2_0_lt := m2_0.lt
          have f2_0_c0 := m2_0.c0
          have f2_0_c1 := m2_0.c1
          have f2_0_c2 := m2_0.c2
          have f2_0_c3 := m2_0.c3
          have f2_0_c4 := m2_0.c4
          have f2_0_c5 := m2_0.c5
          have f2_1_lt := m2_1.lt
          have f2_1_c0 := m2_1.c0
          have f2_1_c1 := m2_1.c1
          have f2_1_c2 := m2_1.c2
          have f2_1_c3 := m2_1.c3
          refine (L1.out _ m2_2).mono ?_; rintro e w' ⟨⟨p1, c1, rfl, _, ho1⟩, q1, rfl⟩
          have hs1 := ho1.slz
          clear ho1
          go_wp2_with (fail)
          refine calls_world (fun W => Below w.heap.size w W ∧ BoxZ W w.heap.size a ∧ PtAt W (w.heap.size + 1) pa pb pc pd ∧ SlZ W q l ∧ SlZ W p1 ML) ⟨by (repeat' (first | (with_reducible assumption) | (with_reducible exact Below.refl _ _) | (with_reducible refine below_wov ?_ ?_ _) | (with_reducible refine below_drewN ?_ _) | (with_reducible refine Below.drew ?_) | (with_reducible refine Below.alloc ?_ ?_ _) | (with_reducible refine Below.setCell ?_ ?_ _) | (with_reducible exact Nat.le_refl _) | omega | (simp only [World.size_alloc, World.size_setCell, World.size_drew, Wov_size, World.heap_drewN]; omega))), m2_0.below (by (repeat' (first | (with_reducible assumption) | (with_reducible exact Below.refl _ _) | (with_reducible refine below_wov ?_ ?_ _) | (with_reducible refine below_drewN ?_ _) | (with_reducible refine Below.drew ?_) | (with_reducible refine Below.alloc ?_ ?_ _) | (with_reducible refine Below.setCell ?_ ?_ _) | (with_reducible exact Nat.le_refl _) | omega | (simp only [World.size_alloc, World.size_setCell, World.size_drew, Wov_size, World.heap_drewN]; omega)))), m2_1.below (by (repeat' (first | (with_reducible assumption) | (with_reducible exact Below.refl _ _) | (with_reducible refine below_wov ?_ ?_ _) | (with_reducible refine below_drewN ?_ _) | (with_reducible refine Below.drew ?_) | (with_reducible refine Below.alloc ?_ ?_ _) | (with_reducible refine Below.setCell ?_ ?_ _) | (with_reducible exact Nat.le_refl _) | omega | (simp only [World.size_alloc, World.size_setCell, World.size_drew, Wov_size, World.heap_drewN]; omega)))), m2_2.below (by (repeat' (first | (with_reducible assumption) | (with_reducible exact Below.refl _ _) | (with_reducible refine below_wov ?_ ?_ _) | (with_reducible refine below_drewN ?_ _) | (with_reducible refine Below.drew ?_) | (with_reducible refine Below.alloc ?_ ?_ _) | (with_reducible refine Below.setCell ?_ ?_ _) | (with_reducible exact Nat.le_refl _) | omega | (simp only [World.size_alloc, World.size_setCell, World.size_drew, Wov_size, World.heap_drewN]; omega)))), hs1.below (by (repeat' (first | (with_reducible assumption) | (with_reducible exact Below.refl _ _) | (with_reducible refine below_wov ?_ ?_ _) | (with_reducible refine below_drewN ?_ _) | (with_reducible refine Below.drew ?_) | (with_reducible refine Below.alloc ?_ ?_ _) | (with_reducible refine Below.setCell ?_ ?_ _) | (with_reducible exact Nat.le_refl _) | omega | (simp only [World.size_alloc, World.size_setCell, World.size_drew, Wov_size, World.heap_drewN]; omega))))⟩ ?_
          rintro W3 ⟨hb3, m3_0, m3_1, m3_2, m3_3⟩
          clear hb2 f2_0_lt f2_0_c0 f2_0_c1 f2_0_c2 f2_0_c3 f2_0_c4 f2_0_c5 f2_1_lt f2_1_c0 f2_1_c1 f2_1_c2 f2_1_c3 m2_0 m2_1 m2_2 hs2
          have hs3 := hb3.size
          have f3_0_lt := m3_0.lt
          have f3_0_c0 := m3_0.c0
          have f3_0_c1 := m3_0.c1
          have f3_0_c2 := m3_0.c2
          have f3_0_c3 := m3_0.c3
          have f3_0_c4 := m3_0.c4
          have f3_0_c5 := m3_0.c5
          have f3_1_lt := m3_1.lt
          have f3_1_c0 := m3_1.c0
          have f3_1_c1 := m3_1.c1
          have f3_1_c2 := m3_1.c2
          have f3_1_c3 := m3_1.c3
          clear hs1
          refine (H1.out _).mono ?_; rintro e w' ⟨rfl, q2, rfl⟩
          go_wp2_with (fail)
          refine calls_world (fun W => Below w.heap.size w W ∧ BoxZ W w.heap.size a ∧ PtAt W (w.heap.size + 1) pa pb pc pd ∧ SlZ W q l ∧ SlZ W p1 ML) ⟨by (repeat' (first | (with_reducible assumption) | (with_reducible exact Below.refl _ _) | (with_reducible refine below_wov ?_ ?_ _) | (with_reducible refine below_drewN ?_ _) | (with_reducible refine Below.drew ?_) | (with_reducible refine Below.alloc ?_ ?_ _) | (with_reducible refine Below.setCell ?_ ?_ _) | (with_reducible exact Nat.le_refl _) | omega | (simp only [World.size_alloc, World.size_setCell, World.size_drew, Wov_size, World.heap_drewN]; omega))), m3_0.below (by (repeat' (first | (with_reducible assumption) | (with_reducible exact Below.refl _ _) | (with_reducible refine below_wov ?_ ?_ _) | (with_reducible refine below_drewN ?_ _) | (with_reducible refine Below.drew ?_) | (with_reducible refine Below.alloc ?_ ?_ _) | (with_reducible refine Below.setCell ?_ ?_ _) | (with_reducible exact Nat.le_refl _) | omega | (simp only [World.size_alloc, World.size_setCell, World.size_drew, Wov_size, World.heap_drewN]; omega)))), m3_1.below (by (repeat' (first | (with_reducible assumption) | (with_reducible exact Below.refl _ _) | (with_reducible refine below_wov ?_ ?_ _) | (with_reducible refine below_drewN ?_ _) | (with_reducible refine Below.drew ?_) | (with_reducible refine Below.alloc ?_ ?_ _) | (with_reducible refine Below.setCell ?_ ?_ _) | (with_reducible exact Nat.le_refl _) | omega | (simp only [World.size_alloc, World.size_setCell, World.size_drew, Wov_size, World.heap_drewN]; omega)))), m3_2.below (by (repeat' (first | (with_reducible assumption) | (with_reducible exact Below.refl _ _) | (with_reducible refine below_wov ?_ ?_ _) | (with_reducible refine below_drewN ?_ _) | (with_reducible refine Below.drew ?_) | (with_reducible refine Below.alloc ?_ ?_ _) | (with_reducible refine Below.setCell ?_ ?_ _) | (with_reducible exact Nat.le_refl _) | omega | (simp only [World.size_alloc, World.size_setCell, World.size_drew, Wov_size, World.heap_drewN]; omega)))), m3_3.below (by (repeat' (first | (with_reducible assumption) | (with_reducible exact Below.refl _ _) | (with_reducible refine below_wov ?_ ?_ _) | (with_reducible refine below_drewN ?_ _) | (with_reducible refine Below.drew ?_) | (with_reducible refine Below.alloc ?_ ?_ _) | (with_reducible refine Below.setCell ?_ ?_ _) | (with_reducible exact Nat.le_refl _) | omega | (simp only [World.size_alloc, World.size_setCell, World.size_drew, Wov_size, World.heap_drewN]; omega))))⟩ ?_
          rintro W4 ⟨hb4, m4_0, m4_1, m4_2, m4_3⟩
          clear hb3 f3_0_lt f3_0_c0 f3_0_c1 f3_0_c2 f3_0_c3 f3_0_c4 f3_0_c5 f3_1_lt f3_1_c0 f3_1_c1 f3_1_c2 f3_1_c3 m3_0 m3_1 m3_2 m3_3 hs3
          have hs4 := hb4.size
          have f4_0_lt := m4_0.lt
          have f4_0_c0 := m4_0.c0
          have f4_0_c1 := m4_0.c1
          have f4_0_c2 := m4_0.c2
          have f4_0_c3 := m4_0.c3
          have f4_0_c4 := m4_0.c4
          have f4_0_c5 := m4_0.c5
          have f4_1_lt := m4_1.lt
          have f4_1_c0 := m4_1.c0
          have f4_1_c1 := m4_1.c1
          have f4_1_c2 := m4_1.c2
          have f4_1_c3 := m4_1.c3
          refine (C1.out _ _ _ m4_2).mono ?_; rintro e w' ⟨rfl, q3, rfl⟩
          go_wp2_with (fail)
          refine calls_world (fun W => Below w.heap.size w W ∧ BoxZ W w.heap.size a ∧ PtAt W (w.heap.size + 1) pa pb pc pd ∧ SlZ W q l ∧ SlZ W p1 ML) ⟨by (repeat' (first | (with_reducible assumption) | (with_reducible exact Below.refl _ _) | (with_reducible refine below_wov ?_ ?_ _) | (with_reducible refine below_drewN ?_ _) | (with_reducible refine Below.drew ?_) | (with_reducible refine Below.alloc ?_ ?_ _) | (with_reducible refine Below.setCell ?_ ?_ _) | (with_reducible exact Nat.le_refl _) | omega | (simp only [World.size_alloc, World.size_setCell, World.size_drew, Wov_size, World.heap_drewN]; omega))), m4_0.below (by (repeat' (first | (with_reducible assumption) | (with_reducible exact Below.refl _ _) | (with_reducible refine below_wov ?_ ?_ _) | (with_reducible refine below_drewN ?_ _) | (with_reducible refine Below.drew ?_) | (with_reducible refine Below.alloc ?_ ?_ _) | (with_reducible refine Below.setCell ?_ ?_ _) | (with_reducible exact Nat.le_refl _) | omega | (simp only [World.size_alloc, World.size_setCell, World.size_drew, Wov_size, World.heap_drewN]; omega)))), m4_1.below (by (repeat' (first | (with_reducible assumption) | (with_reducible exact Below.refl _ _) | (with_reducible refine below_wov ?_ ?_ _) | (with_reducible refine below_drewN ?_ _) | (with_reducible refine Below.drew ?_) | (with_reducible refine Below.alloc ?_ ?_ _) | (with_reducible refine Below.setCell ?_ ?_ _) | (with_reducible exact Nat.le_refl _) | omega | (simp only [World.size_alloc, World.size_setCell, World.size_drew, Wov_size, World.heap_drewN]; omega)))), m4_2.below (by (repeat' (first | (with_reducible assumption) | (with_reducible exact Below.refl _ _) | (with_reducible refine below_wov ?_ ?_ _) | (with_reducible refine below_drewN ?_ _) | (with_reducible refine Below.drew ?_) | (with_reducible refine Below.alloc ?_ ?_ _) | (with_reducible refine Below.setCell ?_ ?_ _) | (with_reducible exact Nat.le_refl _) | omega | (simp only [World.size_alloc, World.size_setCell, World.size_drew, Wov_size, World.heap_drewN]; omega)))), m4_3.below (by (repeat' (first | (with_reducible assumption) | (with_reducible exact Below.refl _ _) | (with_reducible refine below_wov ?_ ?_ _) | (with_reducible refine below_drewN ?_ _) | (with_reducible refine Below.drew ?_) | (with_reducible refine Below.alloc ?_ ?_ _) | (with_reducible refine Below.setCell ?_ ?_ _) | (with_reducible exact Nat.le_refl _) | omega | (simp only [World.size_alloc, World.size_setCell, World.size_drew, Wov_size, World.heap_drewN]; omega))))⟩ ?_
          rintro W5 ⟨hb5, m5_0, m5_1, m5_2, m5_3⟩
          clear hb4 f4_0_lt f4_0_c0 f4_0_c1 f4_0_c2 f4_0_c3 f4_0_c4 f4_0_c5 f4_1_lt f4_1_c0 f4_1_c1 f4_1_c2 f4_1_c3 m4_0 m4_1 m4_2 m4_3 hs4
          have hs5 := hb5.size
          have f5_0_lt := m5_0.lt
          have f5_0_c0 := m5_0.c0
          have f5_0_c1 := m5_0.c1
          have f5_0_c2 := m5_0.c2
          have f5_0_c3 := m5_0.c3
          have f5_0_c4 := m5_0.c4
          have f5_0_c5 := m5_0.c5
          have f5_1_lt := m5_1.lt
          have f5_1_c0 := m5_1.c0
          have f5_1_c1 := m5_1.c1
          have f5_1_c2 := m5_1.c2
          have f5_1_c3 := m5_1.c3
          refine (C2.out _ _ _ m5_3).mono ?_; rintro e w' ⟨rfl, q4, rfl⟩
          clear C1 C2 L1 H1 HA
          by_cases hn : n1 = 0
          · skip
            subst hn
            go_wp2
            all_goals
              go_ret
              exact gives_bool (by simp) (by (repeat' (first | (with_reducible assumption) | (with_reducible exact Below.refl _ _) | (with_reducible refine below_wov ?_ ?_ _) | (with_reducible refine below_drewN ?_ _) | (with_reducible refine Below.drew ?_) | (with_reducible refine Below.alloc ?_ ?_ _) | (with_reducible refine Below.setCell ?_ ?_ _) | (with_reducible exact Nat.le_refl _) | omega | (simp only [World.size_alloc, World.size_setCell, World.size_drew, Wov_size, World.heap_drewN]; omega))))
          · skip
            have hq1 : ((n1 : Int) == 0) = false := by rw [beq_eq_false_iff_ne]; omega
            have hq2 : decide ((0 : Int) < (n1 : Int)) = true := by simp; omega
            go_wp2
            all_goals
              go_ret
              exact gives_bool (by simp) (by (repeat' (first | (with_reducible assumption) | (with_reducible exact Below.refl _ _) | (with_reducible refine below_wov ?_ ?_ _) | (with_reducible refine below_drewN ?_ _) | (with_reducible refine Below.drew ?_) | (with_reducible refine Below.alloc ?_ ?_ _) | (with_reducible refine Below.setCell ?_ ?_ _) | (with_reducible exact Nat.le_refl _) | omega | (simp only [World.size_alloc, World.size_setCell, World.size_drew, Wov_size, World.heap_drewN]; omega))))
      · skip
        have hbf : (f != 0) = true := by rw [bne_iff_ne]; exact hf
        clear CN hL hx hf
        unfold zoneV
        go_enter Try.func16, Try.ntmps16
        go_wp2_with (fail)
        refine calls_world (fun W => Below w.heap.size w W ∧ BoxZ W w.heap.size a ∧ PtAt W (w.heap.size + 1) pa pb pc pd ∧ SlZ W q l) ⟨by (repeat' (first | (with_reducible assumption) | (with_reducible exact Below.refl _ _) | (with_reducible refine below_wov ?_ ?_ _) | (with_reducible refine below_drewN ?_ _) | (with_reducible refine Below.drew ?_) | (with_reducible refine Below.alloc ?_ ?_ _) | (with_reducible refine Below.setCell ?_ ?_ _) | (with_reducible exact Nat.le_refl _) | omega | (simp only [World.size_alloc, World.size_setCell, World.size_drew, Wov_size, World.heap_drewN]; omega))), (BoxZ.new (W := w) (t := 26) (by simp)).below (by (repeat' (first | (with_reducible assumption) | (with_reducible exact Below.refl _ _) | (with_reducible refine below_wov ?_ ?_ _) | (with_reducible refine below_drewN ?_ _) | (with_reducible refine Below.drew ?_) | (with_reducible refine Below.alloc ?_ ?_ _) | (with_reducible refine Below.setCell ?_ ?_ _) | (with_reducible exact Nat.le_refl _) | omega | (simp only [World.size_alloc, World.size_setCell, World.size_drew, Wov_size, World.heap_drewN]; omega)))), (PtAt.new (W := (World.alloc w (.cells #[.int .i64 (a 0), .int .i64 (a 1), .int .i64 (a 2), .int .i64 (a 3), .int .i64 (a 4), .int .i64 (a 5)] 26))) (t := 79) (by simp)).below (by (repeat' (first | (with_reducible assumption) | (with_reducible exact Below.refl _ _) | (with_reducible refine below_wov ?_ ?_ _) | (with_reducible refine below_drewN ?_ _) | (with_reducible refine Below.drew ?_) | (with_reducible refine Below.alloc ?_ ?_ _) | (with_reducible refine Below.setCell ?_ ?_ _) | (with_reducible exact Nat.le_refl _) | omega | (simp only [World.size_alloc, World.size_setCell, World.size_drew, Wov_size, World.heap_drewN]; omega)))), SL.out.below (by (repeat' (first | (with_reducible assumption) | (with_reducible exact Below.refl _ _) | (with_reducible refine below_wov ?_ ?_ _) | (with_reducible refine below_drewN ?_ _) | (with_reducible refine Below.drew ?_) | (with_reducible refine Below.alloc ?_ ?_ _) | (with_reducible refine Below.setCell ?_ ?_ _) | (with_reducible exact Nat.le_refl _) | omega | (simp only [World.size_alloc, World.size_setCell, World.size_drew, Wov_size, World.heap_drewN]; omega))))⟩ ?_
        rintro W1 ⟨hb1, m1_0, m1_1, m1_2⟩
        have hs1 := hb1.size
        have f1_0_lt := m1_0.lt
        have f1_0_c0 := m1_0.c0
        have f1_0_c1 := m1_0.c1
        have f1_0_c2 := m1_0.c2
        have f1_0_c3 := m1_0.c3
        have f1_0_c4 := m1_0.c4
        have f1_0_c5 := m1_0.c5
        have f1_1_lt := m1_1.lt
        have f1_1_c0 := m1_1.c0
        have f1_1_c1 := m1_1.c1
        have f1_1_c2 := m1_1.c2
        have f1_1_c3 := m1_1.c3
        refine (HA.out _).mono ?_; rintro e w' ⟨rfl, q0, rfl⟩
        go_wp2_with (fail)
        refine calls_world (fun W => Below w.heap.size w W ∧ BoxZ W w.heap.size a ∧ PtAt W (w.heap.size + 1) pa pb pc pd ∧ SlZ W q l) ⟨by (repeat' (first | (with_reducible assumption) | (with_reducible exact Below.refl _ _) | (with_reducible refine below_wov ?_ ?_ _) | (with_reducible refine below_drewN ?_ _) | (with_reducible refine Below.drew ?_) | (with_reducible refine Below.alloc ?_ ?_ _) | (with_reducible refine Below.setCell ?_ ?_ _) | (with_reducible exact Nat.le_refl _) | omega | (simp only [World.size_alloc, World.size_setCell, World.size_drew, Wov_size, World.heap_drewN]; omega))), m1_0.below (by (repeat' (first | (with_reducible assumption) | (with_reducible exact Below.refl _ _) | (with_reducible refine below_wov ?_ ?_ _) | (with_reducible refine below_drewN ?_ _) | (with_reducible refine Below.drew ?_) | (with_reducible refine Below.alloc ?_ ?_ _) | (with_reducible refine Below.setCell ?_ ?_ _) | (with_reducible exact Nat.le_refl _) | omega | (simp only [World.size_alloc, World.size_setCell, World.size_drew, Wov_size, World.heap_drewN]; omega)))), m1_1.below (by (repeat' (first | (with_reducible assumption) | (with_reducible exact Below.refl _ _) | (with_reducible refine below_wov ?_ ?_ _) | (with_reducible refine below_drewN ?_ _) | (with_reducible refine Below.drew ?_) | (with_reducible refine Below.alloc ?_ ?_ _) | (with_reducible refine Below.setCell ?_ ?_ _) | (with_reducible exact Nat.le_refl _) | omega | (simp only [World.size_alloc, World.size_setCell, World.size_drew, Wov_size, World.heap_drewN]; omega)))), m1_2.below (by (repeat' (first | (with_reducible assumption) | (with_reducible exact Below.refl _ _) | (with_reducible refine below_wov ?_ ?_ _) | (with_reducible refine below_drewN ?_ _) | (with_reducible refine Below.drew ?_) | (with_reducible refine Below.alloc ?_ ?_ _) | (with_reducible refine Below.setCell ?_ ?_ _) | (with_reducible exact Nat.le_refl _) | omega | (simp only [World.size_alloc, World.size_setCell, World.size_drew, Wov_size, World.heap_drewN]; omega))))⟩ ?_
        rintro W2 ⟨hb2, m2_0, m2_1, m2_2⟩
        clear hb1 f1_0_lt f1_0_c0 f1_0_c1 f1_0_c2 f1_0_c3 f1_0_c4 f1_0_c5 f1_1_lt f1_1_c0 f1_1_c1 f1_1_c2 f1_1_c3 m1_0 m1_1 m1_2 hs1
        have hs2 := hb2.size
        have f2_0_lt := m2_0.lt
        have f2_0_c0 := m2_0.c0
        have f2_0_c1 := m2_0.c1
        have f2_0_c2 := m2_0.c2
        have f2_0_c3 := m2_0.c3
        have f2_0_c4 := m2_0.c4
        have f2_0_c5 := m2_0.c5
        have f2_1_lt := m2_1.lt
        have f2_1_c0 := m2_1.c0
        have f2_1_c1 := m2_1.c1
        have f2_1_c2 := m2_1.c2
        have f2_1_c3 := m2_1.c3
        refine (L1.out _ m2_2).mono ?_; rintro e w' ⟨⟨p1, c1, rfl, _, ho1⟩, q1, rfl⟩
        have hs1 := ho1.slz
        clear ho1
        go_wp2_with (fail)
        refine calls_world (fun W => Below w.heap.size w W ∧ BoxZ W w.heap.size a ∧ PtAt W (w.heap.size + 1) pa pb pc pd ∧ SlZ W q l ∧ SlZ W p1 ML) ⟨by (repeat' (first | (with_reducible assumption) | (with_reducible exact Below.refl _ _) | (with_reducible refine below_wov ?_ ?_ _) | (with_reducible refine below_drewN ?_ _) | (with_reducible refine Below.drew ?_) | (with_reducible refine Below.alloc ?_ ?_ _) | (with_reducible refine Below.setCell ?_ ?_ _) | (with_reducible exact Nat.le_refl _) | omega | (simp only [World.size_alloc, World.size_setCell, World.size_drew, Wov_size, World.heap_drewN]; omega))), m2_0.below (by (repeat' (first | (with_reducible assumption) | (with_reducible exact Below.refl _ _) | (with_reducible refine below_wov ?_ ?_ _) | (with_reducible refine below_drewN ?_ _) | (with_reducible refine Below.drew ?_) | (with_reducible refine Below.alloc ?_ ?_ _) | (with_reducible refine Below.setCell ?_ ?_ _) | (with_reducible exact Nat.le_refl _) | omega | (simp only [World.size_alloc, World.size_setCell, World.size_drew, Wov_size, World.heap_drewN]; omega)))), m2_1.below (by (repeat' (first | (with_reducible assumption) | (with_reducible exact Below.refl _ _) | (with_reducible refine below_wov ?_ ?_ _) | (with_reducible refine below_drewN ?_ _) | (with_reducible refine Below.drew ?_) | (with_reducible refine Below.alloc ?_ ?_ _) | (with_reducible refine Below.setCell ?_ ?_ _) | (with_reducible exact Nat.le_refl _) | omega | (simp only [World.size_alloc, World.size_setCell, World.size_drew, Wov_size, World.heap_drewN]; omega)))), m2_2.below (by (repeat' (first | (with_reducible assumption) | (with_reducible exact Below.refl _ _) | (with_reducible refine below_wov ?_ ?_ _) | (with_reducible refine below_drewN ?_ _) | (with_reducible refine Below.drew ?_) | (with_reducible refine Below.alloc ?_ ?_ _) | (with_reducible refine Below.setCell ?_ ?_ _) | (with_reducible exact Nat.le_refl _) | omega | (simp only [World.size_alloc, World.size_setCell, World.size_drew, Wov_size, World.heap_drewN]; omega)))), hs1.below (by (repeat' (first | (with_reducible assumption) | (with_reducible exact Below.refl _ _) | (with_reducible refine below_wov ?_ ?_ _) | (with_reducible refine below_drewN ?_ _) | (with_reducible refine Below.drew ?_) | (with_reducible refine Below.alloc ?_ ?_ _) | (with_reducible refine Below.setCell ?_ ?_ _) | (with_reducible exact Nat.le_refl _) | omega | (simp only [World.size_alloc, World.size_setCell, World.size_drew, Wov_size, World.heap_drewN]; omega))))⟩ ?_
        rintro W3 ⟨hb3, m3_0, m3_1, m3_2, m3_3⟩
        clear hb2 f2_0_lt f2_0_c0 f2_0_c1 f2_0_c2 f2_0_c3 f2_0_c4 f2_0_c5 f2_1_lt f2_1_c0 f2_1_c1 f2_1_c2 f2_1_c3 m2_0 m2_1 m2_2 hs2
        have hs3 := hb3.size
        have f3_0_lt := m3_0.lt
        have f3_0_c0 := m3_0.c0
        have f3_0_c1 := m3_0.c1
        have f3_0_c2 := m3_0.c2
        have f3_0_c3 := m3_0.c3
        have f3_0_c4 := m3_0.c4
        have f3_0_c5 := m3_0.c5
        have f3_1_lt := m3_1.lt
        have f3_1_c0 := m3_1.c0
        have f3_1_c1 := m3_1.c1
        have f3_1_c2 := m3_1.c2
        have f3_1_c3 := m3_1.c3
        clear hs1
        refine (H1.out _).mono ?_; rintro e w' ⟨rfl, q2, rfl⟩
        go_wp2
        all_goals
          go_ret
          exact gives_bool (by simp) (by (repeat' (first | (with_reducible assumption) | (with_reducible exact Below.refl _ _) | (with_reducible refine below_wov ?_ ?_ _) | (with_reducible refine below_drewN ?_ _) | (with_reducible refine Below.drew ?_) | (with_reducible refine Below.alloc ?_ ?_ _) | (with_reducible refine Below.setCell ?_ ?_ _) | (with_reducible exact Nat.le_refl _) | omega | (simp only [World.size_alloc, World.size_setCell, World.size_drew, Wov_size, World.heap_drewN]; omega))))
    · skip
      have hbe : (e != 0) = true := by rw [bne_iff_ne]; exact he
      clear CN hL hx he
      unfold zoneV
      go_enter Try.func16, Try.ntmps16
      go_wp2_with (fail)
      refine calls_world (fun W => Below w.heap.size w W ∧ BoxZ W w.heap.size a ∧ PtAt W (w.heap.size + 1) pa pb pc pd ∧ SlZ W q l) ⟨by (repeat' (first | (with_reducible assumption) | (with_reducible exact Below.refl _ _) | (with_reducible refine below_wov ?_ ?_ _) | (with_reducible refine below_drewN ?_ _) | (with_reducible refine Below.drew ?_) | (with_reducible refine Below.alloc ?_ ?_ _) | (with_reducible refine Below.setCell ?_ ?_ _) | (with_reducible exact Nat.le_refl _) | omega | (simp only [World.size_alloc, World.size_setCell, World.size_drew, Wov_size, World.heap_drewN]; omega))), (BoxZ.new (W := w) (t := 26) (by simp)).below (by (repeat' (first | (with_reducible assumption) | (with_reducible exact Below.refl _ _) | (with_reducible refine below_wov ?_ ?_ _) | (with_reducible refine below_drewN ?_ _) | (with_reducible refine Below.drew ?_) | (with_reducible refine Below.alloc ?_ ?_ _) | (with_reducible refine Below.setCell ?_ ?_ _) | (with_reducible exact Nat.le_refl _) | omega | (simp only [World.size_alloc, World.size_setCell, World.size_drew, Wov_size, World.heap_drewN]; omega)))), (PtAt.new (W := (World.alloc w (.cells #[.int .i64 (a 0), .int .i64 (a 1), .int .i64 (a 2), .int .i64 (a 3), .int .i64 (a 4), .int .i64 (a 5)] 26))) (t := 79) (by simp)).below (by (repeat' (first | (with_reducible assumption) | (with_reducible exact Below.refl _ _) | (with_reducible refine below_wov ?_ ?_ _) | (with_reducible refine below_drewN ?_ _) | (with_reducible refine Below.drew ?_) | (with_reducible refine Below.alloc ?_ ?_ _) | (with_reducible refine Below.setCell ?_ ?_ _) | (with_reducible exact Nat.le_refl _) | omega | (simp only [World.size_alloc, World.size_setCell, World.size_drew, Wov_size, World.heap_drewN]; omega)))), SL.out.below (by (repeat' (first | (with_reducible assumption) | (with_reducible exact Below.refl _ _) | (with_reducible refine below_wov ?_ ?_ _) | (with_reducible refine below_drewN ?_ _) | (with_reducible refine Below.drew ?_) | (with_reducible refine Below.alloc ?_ ?_ _) | (with_reducible refine Below.setCell ?_ ?_ _) | (with_reducible exact Nat.le_refl _) | omega | (simp only [World.size_alloc, World.size_setCell, World.size_drew, Wov_size, World.heap_drewN]; omega))))⟩ ?_
      rintro W1 ⟨hb1, m1_0, m1_1, m1_2⟩
      have hs1 := hb1.size
      have f1_0_lt := m1_0.lt
      have f1_0_c0 := m1_0.c0
      have f1_0_c1 := m1_0.c1
      have f1_0_c2 := m1_0.c2
      have f1_0_c3 := m1_0.c3
      have f1_0_c4 := m1_0.c4
      have f1_0_c5 := m1_0.c5
      have f1_1_lt := m1_1.lt
      have f1_1_c0 := m1_1.c0
      have f1_1_c1 := m1_1.c1
      have f1_1_c2 := m1_1.c2
      have f1_1_c3 := m1_1.c3
      refine (HA.out _).mono ?_; rintro e w' ⟨rfl, q0, rfl⟩
      go_wp2_with (fail)
      refine calls_world (fun W => Below w.heap.size w W ∧ BoxZ W w.heap.size a ∧ PtAt W (w.heap.size + 1) pa pb pc pd ∧ SlZ W q l) ⟨by (repeat' (first | (with_reducible assumption) | (with_reducible exact Below.refl _ _) | (with_reducible refine below_wov ?_ ?_ _) | (with_reducible refine below_drewN ?_ _) | (with_reducible refine Below.drew ?_) | (with_reducible refine Below.alloc ?_ ?_ _) | (with_reducible refine Below.setCell ?_ ?_ _) | (with_reducible exact Nat.le_refl _) | omega | (simp only [World.size_alloc, World.size_setCell, World.size_drew, Wov_size, World.heap_drewN]; omega))), m1_0.below (by (repeat' (first | (with_reducible assumption) | (with_reducible exact Below.refl _ _) | (with_reducible refine below_wov ?_ ?_ _) | (with_reducible refine below_drewN ?_ _) | (with_reducible refine Below.drew ?_) | (with_reducible refine Below.alloc ?_ ?_ _) | (with_reducible refine Below.setCell ?_ ?_ _) | (with_reducible exact Nat.le_refl _) | omega | (simp only [World.size_alloc, World.size_setCell, World.size_drew, Wov_size, World.heap_drewN]; omega)))), m1_1.below (by (repeat' (first | (with_reducible assumption) | (with_reducible exact Below.refl _ _) | (with_reducible refine below_wov ?_ ?_ _) | (with_reducible refine below_drewN ?_ _) | (with_reducible refine Below.drew ?_) | (with_reducible refine Below.alloc ?_ ?_ _) | (with_reducible refine Below.setCell ?_ ?_ _) | (with_reducible exact Nat.le_refl _) | omega | (simp only [World.size_alloc, World.size_setCell, World.size_drew, Wov_size, World.heap_drewN]; omega)))), m1_2.below (by (repeat' (first | (with_reducible assumption) | (with_reducible exact Below.refl _ _) | (with_reducible refine below_wov ?_ ?_ _) | (with_reducible refine below_drewN ?_ _) | (with_reducible refine Below.drew ?_) | (with_reducible refine Below.alloc ?_ ?_ _) | (with_reducible refine Below.setCell ?_ ?_ _) | (with_reducible exact Nat.le_refl _) | omega | (simp only [World.size_alloc, World.size_setCell, World.size_drew, Wov_size, World.heap_drewN]; omega))))⟩ ?_
      rintro W2 ⟨hb2, m2_0, m2_1, m2_2⟩
      clear hb1 f1_0_lt f1_0_c0 f1_0_c1 f1_0_c2 f1_0_c3 f1_0_c4 f1_0_c5 f1_1_lt f1_1_c0 f1_1_c1 f1_1_c2 f1_1_c3 m1_0 m1_1 m1_2 hs1
      have hs2 := hb2.size
      have f2_0_lt := m2_0.lt
      have f2_0_c0 := m2_0.c0
      have f2_0_c1 := m2_0.c1
      have f2_0_c2 := m2_0.c2
      have f2_0_c3 := m2_0.c3
      have f2_0_c4 := m2_0.c4
      have f2_0_c5 := m2_0.c5
      have f2_1_lt := m2_1.lt
      have f2_1_c0 := m2_1.c0
      have f2_1_c1 := m2_1.c1
      have f2_1_c2 := m2_1.c2
      have f2_1_c3 := m2_1.c3
      refine (L1.out _ m2_2).mono ?_; rintro e w' ⟨⟨p1, c1, rfl, _, ho1⟩, q1, rfl⟩
      have hs1 := ho1.slz
      clear ho1
      go_wp2_with (fail)
      refine calls_world (fun W => Below w.heap.size w W ∧ BoxZ W w.heap.size a ∧ PtAt W (w.heap.size + 1) pa pb pc pd ∧ SlZ W q l ∧ SlZ W p1 ML) ⟨by (repeat' (first | (with_reducible assumption) | (with_reducible exact Below.refl _ _) | (with_reducible refine below_wov ?_ ?_ _) | (with_reducible refine below_drewN ?_ _) | (with_reducible refine Below.drew ?_) | (with_reducible refine Below.alloc ?_ ?_ _) | (with_reducible refine Below.setCell ?_ ?_ _) | (with_reducible exact Nat.le_refl _) | omega | (simp only [World.size_alloc, World.size_setCell, World.size_drew, Wov_size, World.heap_drewN]; omega))), m2_0.below (by (repeat' (first | (with_reducible assumption) | (with_reducible exact Below.refl _ _) | (with_reducible refine below_wov ?_ ?_ _) | (with_reducible refine below_drewN ?_ _) | (with_reducible refine Below.drew ?_) | (with_reducible refine Below.alloc ?_ ?_ _) | (with_reducible refine Below.setCell ?_ ?_ _) | (with_reducible exact Nat.le_refl _) | omega | (simp only [World.size_alloc, World.size_setCell, World.size_drew, Wov_size, World.heap_drewN]; omega)))), m2_1.below (by (repeat' (first | (with_reducible assumption) | (with_reducible exact Below.refl _ _) | (with_reducible refine below_wov ?_ ?_ _) | (with_reducible refine below_drewN ?_ _) | (with_reducible refine Below.drew ?_) | (with_reducible refine Below.alloc ?_ ?_ _) | (with_reducible refine Below.setCell ?_ ?_ _) | (with_reducible exact Nat.le_refl _) | omega | (simp only [World.size_alloc, World.size_setCell, World.size_drew, Wov_size, World.heap_drewN]; omega)))), m2_2.below (by (repeat' (first | (with_reducible assumption) | (with_reducible exact Below.refl _ _) | (with_reducible refine below_wov ?_ ?_ _) | (with_reducible refine below_drewN ?_ _) | (with_reducible refine Below.drew ?_) | (with_reducible refine Below.alloc ?_ ?_ _) | (with_reducible refine Below.setCell ?_ ?_ _) | (with_reducible exact Nat.le_refl _) | omega | (simp only [World.size_alloc, World.size_setCell, World.size_drew, Wov_size, World.heap_drewN]; omega)))), hs1.below (by (repeat' (first | (with_reducible assumption) | (with_reducible exact Below.refl _ _) | (with_reducible refine below_wov ?_ ?_ _) | (with_reducible refine below_drewN ?_ _) | (with_reducible refine Below.drew ?_) | (with_reducible refine Below.alloc ?_ ?_ _) | (with_reducible refine Below.setCell ?_ ?_ _) | (with_reducible exact Nat.le_refl _) | omega | (simp only [World.size_alloc, World.size_setCell, World.size_drew, Wov_size, World.heap_drewN]; omega))))⟩ ?_
      rintro W3 ⟨hb3, m3_0, m3_1, m3_2, m3_3⟩
      clear hb2 f2_0_lt f2_0_c0 f2_0_c1 f2_0_c2 f2_0_c3 f2_0_c4 f2_0_c5 f2_1_lt f2_1_c0 f2_1_c1 f2_1_c2 f2_1_c3 m2_0 m2_1 m2_2 hs2
      have hs3 := hb3.size
      have f3_0_lt := m3_0.lt
      have f3_0_c0 := m3_0.c0
      have f3_0_c1 := m3_0.c1
      have f3_0_c2 := m3_0.c2
      have f3_0_c3 := m3_0.c3
      have f3_0_c4 := m3_0.c4
      have f3_0_c5 := m3_0.c5
      have f3_1_lt := m3_1.lt
      have f3_1_c0 := m3_1.c0
      have f3_1_c1 := m3_1.c1
      have f3_1_c2 := m3_1.c2
      have f3_1_c3 := m3_1.c3
      clear hs1
      refine (H1.out _).mono ?_; rintro e w' ⟨rfl, q2, rfl⟩
      go_wp2
      all_goals
        go_ret
        exact gives_bool (by simp) (by (repeat' (first | (with_reducible assumption) | (with_reducible exact Below.refl _ _) | (with_reducible refine below_wov ?_ ?_ _) | (with_reducible refine below_drewN ?_ _) | (with_reducible refine Below.drew ?_) | (with_reducible refine Below.alloc ?_ ?_ _) | (with_reducible refine Below.setCell ?_ ?_ _) | (with_reducible exact Nat.le_refl _) | omega | (simp only [World.size_alloc, World.size_setCell, World.size_drew, Wov_size, World.heap_drewN]; omega))))
end Go.Proofs.Ytnjhjgkekmjmdaa.minusPoints
