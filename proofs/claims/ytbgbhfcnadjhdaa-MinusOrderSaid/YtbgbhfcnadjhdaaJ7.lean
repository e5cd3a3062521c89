/- law11: its helper of, and its alive. No condition. -/
import Derived.Test.YtbgbhfcnadjhdaaJ6
import Derived.Test.YtbgbhfcnadjhdaaH4
import Derived.Test.YtbgbhfcnadjhdaaH13
import Derived.Test.YtbgbhfcnadjhdaaH11
namespace Go.Proofs.Ytbgbhfcnadjhdaa
set_option linter.unusedSimpArgs false
set_option linter.unusedVariables false
open Go Go.RowKit Go.Shelf
attribute [local go_sem] Nat.add_assoc Nat.add_lt_add_iff_left lit_lt_add

theorem zF_fun {a b : Nat → Int} (h : ∀ i, i < 6 → a i = b i) : zF a = zF b := by
  have h0 := h 0 (by omega)
  have h1 := h 1 (by omega)
  have h2 := h 2 (by omega)
  have h3 := h 3 (by omega)
  have h4 := h 4 (by omega)
  have h5 := h 5 (by omega)
  unfold zF mF
  simp only [mF, h0, h1, h2, h3, h4, h5]
theorem withZ_congr {a b : Nat → Int} (h : ∀ i, i < 6 → a i = b i) {t : Nat} (ht : t < 6) (x : Int) : withZ a t x = withZ b t x := by
  unfold withZ
  rw [zF_fun (a := upd a t (min (a t) x)) (b := upd b t (min (b t) x)) fun i hi => by
    unfold upd
    split
    · rw [h t ht]
    · exact h i hi]
theorem less_congr {b : Nat → Int} : ∀ (k t : Nat) (a a' : Nat → Int) (acc : List (Nat → Int)), t + k = 6 → (∀ i, i < 6 → a i = a' i) → lessZ k t a b acc = lessZ k t a' b acc
  | 0, _, _, _, _, _, _ => rfl
  | k + 1, t, a, a', acc, e, h => by
    have e1 := withZ_congr h (othZ_lt t) (otherB (b t))
    have e2 := withZ_congr h (t := t) (by omega) (b t)
    unfold lessZ
    rw [e1, e2, less_congr k (t + 1) a a' acc (by omega) h]
theorem less_both {k t : Nat} {a b y x : Nat → Int} {acc : List (Nat → Int)} (hn : b t ≠ noneB) (h1 : withZ a (othZ t) (otherB (b t)) = (y, 0)) (h2 : withZ a t (b t) = (x, 0)) : lessZ (k + 1) t a b acc = lessZ k (t + 1) x b (acc ++ [y]) := by
  show (if b t = noneB then _ else _) = _
  rw [if_neg hn, h1, h2, if_neg (by simp), if_neg (by simp), if_neg (by simp)]; rfl
theorem less_left {k t : Nat} {a b x : Nat → Int} {acc : List (Nat → Int)} (hn : b t ≠ noneB) (h1 : (withZ a (othZ t) (otherB (b t))).2 = 6) (h2 : withZ a t (b t) = (x, 0)) : lessZ (k + 1) t a b acc = lessZ k (t + 1) x b acc := by
  show (if b t = noneB then _ else _) = _
  rw [if_neg hn, h1, h2, if_neg (by simp), if_neg (by simp), if_neg (by simp)]; rfl
theorem six_of {f : Nat → Int} {a b c d e g : Int} (h : f 0 = a ∧ f 1 = b ∧ f 2 = c ∧ f 3 = d ∧ f 4 = e ∧ f 5 = g) : ∀ i, i < 6 → f i = row6 a b c d e g i := by
  obtain ⟨h0, h1, h2, h3, h4, h5⟩ := h
  intro i hi
  rcases six hi with rfl | rfl | rfl | rfl | rfl | rfl
  · exact h0
  · exact h1
  · exact h2
  · exact h3
  · exact h4
  · exact h5
theorem pair_of {p : (Nat → Int) × Int} (h : p.2 = 0) : p = (p.1, 0) := Prod.ext rfl h
set_option maxRecDepth 10000 in
theorem less11 : ∃ y1 y2 : Nat → Int, lessZ 6 0 (row6 8 1 9 0 9 0) (row6 5 (-1) 9 (-2) 7 0) [] = ([y1, y2], 0) ∧ (y1 0 = 8 ∧ y1 1 = (-4) ∧ y1 2 = 9 ∧ y1 3 = (-4) ∧ y1 4 = 4 ∧ y1 5 = 0) ∧ (y2 0 = 2 ∧ y2 1 = 1 ∧ y2 2 = 9 ∧ y2 3 = 0 ∧ y2 4 = 9 ∧ y2 5 = 0) := by
  have l0 : (withZ (row6 8 1 9 0 9 0) 0 ((row6 5 (-1) 9 (-2) 7 0) 0)).2 = 0 ∧ (withZ (row6 8 1 9 0 9 0) 0 ((row6 5 (-1) 9 (-2) 7 0) 0)).1 0 = 5 ∧ (withZ (row6 8 1 9 0 9 0) 0 ((row6 5 (-1) 9 (-2) 7 0) 0)).1 1 = 1 ∧ (withZ (row6 8 1 9 0 9 0) 0 ((row6 5 (-1) 9 (-2) 7 0) 0)).1 2 = 9 ∧ (withZ (row6 8 1 9 0 9 0) 0 ((row6 5 (-1) 9 (-2) 7 0) 0)).1 3 = 0 ∧ (withZ (row6 8 1 9 0 9 0) 0 ((row6 5 (-1) 9 (-2) 7 0) 0)).1 4 = 9 ∧ (withZ (row6 8 1 9 0 9 0) 0 ((row6 5 (-1) 9 (-2) 7 0) 0)).1 5 = 0 := by decide +kernel
  have o0 : (withZ (row6 8 1 9 0 9 0) (othZ 0) (otherB ((row6 5 (-1) 9 (-2) 7 0) 0))).2 = 0 ∧ (withZ (row6 8 1 9 0 9 0) (othZ 0) (otherB ((row6 5 (-1) 9 (-2) 7 0) 0))).1 0 = 8 ∧ (withZ (row6 8 1 9 0 9 0) (othZ 0) (otherB ((row6 5 (-1) 9 (-2) 7 0) 0))).1 1 = (-4) ∧ (withZ (row6 8 1 9 0 9 0) (othZ 0) (otherB ((row6 5 (-1) 9 (-2) 7 0) 0))).1 2 = 9 ∧ (withZ (row6 8 1 9 0 9 0) (othZ 0) (otherB ((row6 5 (-1) 9 (-2) 7 0) 0))).1 3 = (-4) ∧ (withZ (row6 8 1 9 0 9 0) (othZ 0) (otherB ((row6 5 (-1) 9 (-2) 7 0) 0))).1 4 = 4 ∧ (withZ (row6 8 1 9 0 9 0) (othZ 0) (otherB ((row6 5 (-1) 9 (-2) 7 0) 0))).1 5 = 0 := by decide +kernel
  have s0 := fun acc => less_both (k := 5) (t := 0) (a := (row6 8 1 9 0 9 0)) (b := (row6 5 (-1) 9 (-2) 7 0)) (acc := acc) (by decide) (pair_of o0.1) (pair_of l0.1)
  have c0 := fun acc => less_congr (b := (row6 5 (-1) 9 (-2) 7 0)) 5 1 _ _ acc (by omega) (six_of l0.2)
  have l1 : (withZ (row6 5 1 9 0 9 0) 1 ((row6 5 (-1) 9 (-2) 7 0) 1)).2 = 0 ∧ (withZ (row6 5 1 9 0 9 0) 1 ((row6 5 (-1) 9 (-2) 7 0) 1)).1 0 = 5 ∧ (withZ (row6 5 1 9 0 9 0) 1 ((row6 5 (-1) 9 (-2) 7 0) 1)).1 1 = (-1) ∧ (withZ (row6 5 1 9 0 9 0) 1 ((row6 5 (-1) 9 (-2) 7 0) 1)).1 2 = 9 ∧ (withZ (row6 5 1 9 0 9 0) 1 ((row6 5 (-1) 9 (-2) 7 0) 1)).1 3 = (-2) ∧ (withZ (row6 5 1 9 0 9 0) 1 ((row6 5 (-1) 9 (-2) 7 0) 1)).1 4 = 7 ∧ (withZ (row6 5 1 9 0 9 0) 1 ((row6 5 (-1) 9 (-2) 7 0) 1)).1 5 = 0 := by decide +kernel
  have o1 : (withZ (row6 5 1 9 0 9 0) (othZ 1) (otherB ((row6 5 (-1) 9 (-2) 7 0) 1))).2 = 0 ∧ (withZ (row6 5 1 9 0 9 0) (othZ 1) (otherB ((row6 5 (-1) 9 (-2) 7 0) 1))).1 0 = 2 ∧ (withZ (row6 5 1 9 0 9 0) (othZ 1) (otherB ((row6 5 (-1) 9 (-2) 7 0) 1))).1 1 = 1 ∧ (withZ (row6 5 1 9 0 9 0) (othZ 1) (otherB ((row6 5 (-1) 9 (-2) 7 0) 1))).1 2 = 9 ∧ (withZ (row6 5 1 9 0 9 0) (othZ 1) (otherB ((row6 5 (-1) 9 (-2) 7 0) 1))).1 3 = 0 ∧ (withZ (row6 5 1 9 0 9 0) (othZ 1) (otherB ((row6 5 (-1) 9 (-2) 7 0) 1))).1 4 = 9 ∧ (withZ (row6 5 1 9 0 9 0) (othZ 1) (otherB ((row6 5 (-1) 9 (-2) 7 0) 1))).1 5 = 0 := by decide +kernel
  have s1 := fun acc => less_both (k := 4) (t := 1) (a := (row6 5 1 9 0 9 0)) (b := (row6 5 (-1) 9 (-2) 7 0)) (acc := acc) (by decide) (pair_of o1.1) (pair_of l1.1)
  have c1 := fun acc => less_congr (b := (row6 5 (-1) 9 (-2) 7 0)) 4 2 _ _ acc (by omega) (six_of l1.2)
  have l2 : (withZ (row6 5 (-1) 9 (-2) 7 0) 2 ((row6 5 (-1) 9 (-2) 7 0) 2)).2 = 0 ∧ (withZ (row6 5 (-1) 9 (-2) 7 0) 2 ((row6 5 (-1) 9 (-2) 7 0) 2)).1 0 = 5 ∧ (withZ (row6 5 (-1) 9 (-2) 7 0) 2 ((row6 5 (-1) 9 (-2) 7 0) 2)).1 1 = (-1) ∧ (withZ (row6 5 (-1) 9 (-2) 7 0) 2 ((row6 5 (-1) 9 (-2) 7 0) 2)).1 2 = 9 ∧ (withZ (row6 5 (-1) 9 (-2) 7 0) 2 ((row6 5 (-1) 9 (-2) 7 0) 2)).1 3 = (-2) ∧ (withZ (row6 5 (-1) 9 (-2) 7 0) 2 ((row6 5 (-1) 9 (-2) 7 0) 2)).1 4 = 7 ∧ (withZ (row6 5 (-1) 9 (-2) 7 0) 2 ((row6 5 (-1) 9 (-2) 7 0) 2)).1 5 = 0 := by decide +kernel
  have o2 : (withZ (row6 5 (-1) 9 (-2) 7 0) (othZ 2) (otherB ((row6 5 (-1) 9 (-2) 7 0) 2))).2 = 6 := by decide +kernel
  have s2 := fun acc => less_left (k := 3) (t := 2) (a := (row6 5 (-1) 9 (-2) 7 0)) (b := (row6 5 (-1) 9 (-2) 7 0)) (acc := acc) (by decide) o2 (pair_of l2.1)
  have c2 := fun acc => less_congr (b := (row6 5 (-1) 9 (-2) 7 0)) 3 3 _ _ acc (by omega) (six_of l2.2)
  have l3 : (withZ (row6 5 (-1) 9 (-2) 7 0) 3 ((row6 5 (-1) 9 (-2) 7 0) 3)).2 = 0 ∧ (withZ (row6 5 (-1) 9 (-2) 7 0) 3 ((row6 5 (-1) 9 (-2) 7 0) 3)).1 0 = 5 ∧ (withZ (row6 5 (-1) 9 (-2) 7 0) 3 ((row6 5 (-1) 9 (-2) 7 0) 3)).1 1 = (-1) ∧ (withZ (row6 5 (-1) 9 (-2) 7 0) 3 ((row6 5 (-1) 9 (-2) 7 0) 3)).1 2 = 9 ∧ (withZ (row6 5 (-1) 9 (-2) 7 0) 3 ((row6 5 (-1) 9 (-2) 7 0) 3)).1 3 = (-2) ∧ (withZ (row6 5 (-1) 9 (-2) 7 0) 3 ((row6 5 (-1) 9 (-2) 7 0) 3)).1 4 = 7 ∧ (withZ (row6 5 (-1) 9 (-2) 7 0) 3 ((row6 5 (-1) 9 (-2) 7 0) 3)).1 5 = 0 := by decide +kernel
  have o3 : (withZ (row6 5 (-1) 9 (-2) 7 0) (othZ 3) (otherB ((row6 5 (-1) 9 (-2) 7 0) 3))).2 = 6 := by decide +kernel
  have s3 := fun acc => less_left (k := 2) (t := 3) (a := (row6 5 (-1) 9 (-2) 7 0)) (b := (row6 5 (-1) 9 (-2) 7 0)) (acc := acc) (by decide) o3 (pair_of l3.1)
  have c3 := fun acc => less_congr (b := (row6 5 (-1) 9 (-2) 7 0)) 2 4 _ _ acc (by omega) (six_of l3.2)
  have l4 : (withZ (row6 5 (-1) 9 (-2) 7 0) 4 ((row6 5 (-1) 9 (-2) 7 0) 4)).2 = 0 ∧ (withZ (row6 5 (-1) 9 (-2) 7 0) 4 ((row6 5 (-1) 9 (-2) 7 0) 4)).1 0 = 5 ∧ (withZ (row6 5 (-1) 9 (-2) 7 0) 4 ((row6 5 (-1) 9 (-2) 7 0) 4)).1 1 = (-1) ∧ (withZ (row6 5 (-1) 9 (-2) 7 0) 4 ((row6 5 (-1) 9 (-2) 7 0) 4)).1 2 = 9 ∧ (withZ (row6 5 (-1) 9 (-2) 7 0) 4 ((row6 5 (-1) 9 (-2) 7 0) 4)).1 3 = (-2) ∧ (withZ (row6 5 (-1) 9 (-2) 7 0) 4 ((row6 5 (-1) 9 (-2) 7 0) 4)).1 4 = 7 ∧ (withZ (row6 5 (-1) 9 (-2) 7 0) 4 ((row6 5 (-1) 9 (-2) 7 0) 4)).1 5 = 0 := by decide +kernel
  have o4 : (withZ (row6 5 (-1) 9 (-2) 7 0) (othZ 4) (otherB ((row6 5 (-1) 9 (-2) 7 0) 4))).2 = 6 := by decide +kernel
  have s4 := fun acc => less_left (k := 1) (t := 4) (a := (row6 5 (-1) 9 (-2) 7 0)) (b := (row6 5 (-1) 9 (-2) 7 0)) (acc := acc) (by decide) o4 (pair_of l4.1)
  have c4 := fun acc => less_congr (b := (row6 5 (-1) 9 (-2) 7 0)) 1 5 _ _ acc (by omega) (six_of l4.2)
  have l5 : (withZ (row6 5 (-1) 9 (-2) 7 0) 5 ((row6 5 (-1) 9 (-2) 7 0) 5)).2 = 0 ∧ (withZ (row6 5 (-1) 9 (-2) 7 0) 5 ((row6 5 (-1) 9 (-2) 7 0) 5)).1 0 = 5 ∧ (withZ (row6 5 (-1) 9 (-2) 7 0) 5 ((row6 5 (-1) 9 (-2) 7 0) 5)).1 1 = (-1) ∧ (withZ (row6 5 (-1) 9 (-2) 7 0) 5 ((row6 5 (-1) 9 (-2) 7 0) 5)).1 2 = 9 ∧ (withZ (row6 5 (-1) 9 (-2) 7 0) 5 ((row6 5 (-1) 9 (-2) 7 0) 5)).1 3 = (-2) ∧ (withZ (row6 5 (-1) 9 (-2) 7 0) 5 ((row6 5 (-1) 9 (-2) 7 0) 5)).1 4 = 7 ∧ (withZ (row6 5 (-1) 9 (-2) 7 0) 5 ((row6 5 (-1) 9 (-2) 7 0) 5)).1 5 = 0 := by decide +kernel
  have o5 : (withZ (row6 5 (-1) 9 (-2) 7 0) (othZ 5) (otherB ((row6 5 (-1) 9 (-2) 7 0) 5))).2 = 6 := by decide +kernel
  have s5 := fun acc => less_left (k := 0) (t := 5) (a := (row6 5 (-1) 9 (-2) 7 0)) (b := (row6 5 (-1) 9 (-2) 7 0)) (acc := acc) (by decide) o5 (pair_of l5.1)
  have c5 := fun acc => less_congr (b := (row6 5 (-1) 9 (-2) 7 0)) 0 6 _ _ acc (by omega) (six_of l5.2)
  refine ⟨_, _, ?_, o0.2, o1.2⟩
  rw [s0, c0, s1, c1, s2, c2, s3, c3, s4, c4, s5, c5]
  rfl

set_option maxRecDepth 10000 in
set_option maxHeartbeats 2000000 in
theorem of11_any {lo hi : Int} {ls hs op : Bool} {a b c d e f : Int} (f1 : fits64 lo) (f2 : fits64 hi)
    (h : (makeZ (betwS lo ls hi hs op) (betwS 0 false 4 false false) (betwS 0 true 0 false true)).1 0 = a ∧ (makeZ (betwS lo ls hi hs op) (betwS 0 false 4 false false) (betwS 0 true 0 false true)).1 1 = b ∧ (makeZ (betwS lo ls hi hs op) (betwS 0 false 4 false false) (betwS 0 true 0 false true)).1 2 = c ∧ (makeZ (betwS lo ls hi hs op) (betwS 0 false 4 false false) (betwS 0 true 0 false true)).1 3 = d ∧ (makeZ (betwS lo ls hi hs op) (betwS 0 false 4 false false) (betwS 0 true 0 false true)).1 4 = e ∧ (makeZ (betwS lo ls hi hs op) (betwS 0 false 4 false false) (betwS 0 true 0 false true)).1 5 = f) :
    Pure Try.prog 73 #[.agg #[.int .i64 lo, .bool ls, .int .i64 hi, .bool hs, .bool op]] (.agg #[.int .i64 a, .int .i64 b, .int .i64 c, .int .i64 d, .int .i64 e, .int .i64 f]) := by
  intro w
  obtain ⟨e0, he0⟩ : ∃ x, x = (makeZ (betwS lo ls hi hs op) (betwS 0 false 4 false false) (betwS 0 true 0 false true)).2 := ⟨_, rfl⟩
  have MK : Hid (∀ w, Calls Try.prog 26 #[.agg #[.int .i64 lo, .bool ls, .int .i64 hi, .bool hs, .bool op], .agg #[.int .i64 0, .bool false, .int .i64 4, .bool false, .bool false], .agg #[.int .i64 0, .bool true, .int .i64 0, .bool false, .bool true]] w (Gives w (.tuple #[.agg #[.int .i64 a, .int .i64 b, .int .i64 c, .int .i64 d, .int .i64 e, .int .i64 f], .int .i64 e0]))) := fun w => by
    have := zmake_any lo ls hi hs op 0 false 4 false false 0 true 0 false true w f1 f2 (by decide) (by decide) (by decide) (by decide)
    unfold zoneR zoneV at this
    rw [h.1, h.2.1, h.2.2.1, h.2.2.2.1, h.2.2.2.2.1, h.2.2.2.2.2, ← he0] at this
    exact this
  clear h he0 f1 f2
  go_enter Try.func73, Try.ntmps73
  go_wp2_with (fail)
  refine (MK.out _).mono ?_; rintro e w' ⟨rfl, q1, rfl⟩
  clear MK
  go_wp2
  go_returns
  exact gives_end rfl (by (repeat' (first | (with_reducible assumption) | (with_reducible exact Below.refl _ _) | (with_reducible refine below_wov ?_ ?_ _) | (with_reducible refine below_drewN ?_ _) | (with_reducible refine Below.drew ?_) | (with_reducible refine Below.alloc ?_ ?_ _) | (with_reducible refine Below.setCell ?_ ?_ _) | (with_reducible exact Nat.le_refl _) | omega | (simp only [World.size_alloc, World.size_setCell, World.size_drew, Wov_size, World.heap_drewN]; omega))))

set_option maxRecDepth 100000 in
set_option maxHeartbeats 8000000 in
theorem alive11 : Pure Try.prog 30 #[] (.bool true) := by
  intro w
  have O1 : Hid (Pure Try.prog 73 #[.agg #[.int .i64 0, .bool false, .int .i64 4, .bool false, .bool false]] (.agg #[.int .i64 8, .int .i64 1, .int .i64 9, .int .i64 0, .int .i64 9, .int .i64 0])) := of11_any (by decide) (by decide) (by decide +kernel)
  have O2 : Hid (Pure Try.prog 73 #[.agg #[.int .i64 1, .bool false, .int .i64 2, .bool false, .bool false]] (.agg #[.int .i64 5, .int .i64 (-1), .int .i64 9, .int .i64 (-2), .int .i64 7, .int .i64 0])) := of11_any (by decide) (by decide) (by decide +kernel)
  have O3 : Hid (Pure Try.prog 73 #[.agg #[.int .i64 2, .bool true, .int .i64 4, .bool false, .bool false]] (.agg #[.int .i64 8, .int .i64 (-4), .int .i64 9, .int .i64 (-4), .int .i64 4, .int .i64 0])) := of11_any (by decide) (by decide) (by decide +kernel)
  have O4 : Hid (Pure Try.prog 73 #[.agg #[.int .i64 0, .bool false, .int .i64 1, .bool true, .bool false]] (.agg #[.int .i64 2, .int .i64 1, .int .i64 9, .int .i64 0, .int .i64 9, .int .i64 0])) := of11_any (by decide) (by decide) (by decide +kernel)
  have ka : okZ (row6 8 1 9 0 9 0) = true := by decide +kernel
  have kb : okZ (row6 5 (-1) 9 (-2) 7 0) = true := by decide +kernel
  have kc : okZ (row6 8 (-4) 9 (-4) 4 0) = true := by decide +kernel
  have fc : FitsZ (row6 8 (-4) 9 (-4) 4 0) := okZ_fits kc
  obtain ⟨y1, y2, hL, h1, h2⟩ := less11
  have MN : Hid (∀ w, Calls Try.prog 13 #[.agg #[.int .i64 8, .int .i64 1, .int .i64 9, .int .i64 0, .int .i64 9, .int .i64 0], .agg #[.int .i64 5, .int .i64 (-1), .int .i64 9, .int .i64 (-2), .int .i64 7, .int .i64 0]] w (zlC w ([y1, y2], 0))) := fun w => by
    have := minus_any (row6 8 1 9 0 9 0) (row6 5 (-1) 9 (-2) 7 0) (okZ_fits ka) (okZ_fits kb) w
    unfold minusZ at this
    rw [ka, kb] at this
    simp only [Bool.and_self, if_true] at this
    rw [hL] at this
    exact this
  have CK : Hid (∀ w, Calls Try.prog 45 #[.agg #[.int .i64 8, .int .i64 (-4), .int .i64 9, .int .i64 (-4), .int .i64 4, .int .i64 0]] w (Gives w (.int .i64 0))) := fun w => by
    have := zcheck_any (row6 8 (-4) 9 (-4) 4 0) w fc
    rw [kc] at this; exact this
  have E1 : eq6 8 (-4) 9 (-4) 4 0 8 (-4) 9 (-4) 4 0 = true := by decide
  have E2 : eq6 2 1 9 0 9 0 2 1 9 0 9 0 = true := by decide
  clear ka kb kc fc hL
  go_enter Try.func30, Try.ntmps30
  go_wp2_with (fail)
  refine (O1.out _).mono ?_; rintro e w' ⟨rfl, q1, rfl⟩
  go_wp2_with (fail)
  refine (O2.out _).mono ?_; rintro e w' ⟨rfl, q2, rfl⟩
  go_wp2_with (fail)
  refine (MN.out _).mono ?_; rintro e w' ⟨⟨p, c, rfl, _, ho⟩, q3, rfl⟩
  obtain ⟨Bz, rfl, _, hB, hc⟩ := ho.resolve_left (by simp)
  have g0 : _ = some (Value.int .i64 8) := (hc 0 0 (by simp) (by omega)).1.trans (congrArg (fun x => some (Value.int .i64 x)) (show nthZ [y1, y2] 0 0 = _ from h1.1))
  have g1 : _ = some (Value.int .i64 (-4)) := (hc 0 1 (by simp) (by omega)).1.trans (congrArg (fun x => some (Value.int .i64 x)) (show nthZ [y1, y2] 0 1 = _ from h1.2.1))
  have g2 : _ = some (Value.int .i64 9) := (hc 0 2 (by simp) (by omega)).1.trans (congrArg (fun x => some (Value.int .i64 x)) (show nthZ [y1, y2] 0 2 = _ from h1.2.2.1))
  have g3 : _ = some (Value.int .i64 (-4)) := (hc 0 3 (by simp) (by omega)).1.trans (congrArg (fun x => some (Value.int .i64 x)) (show nthZ [y1, y2] 0 3 = _ from h1.2.2.2.1))
  have g4 : _ = some (Value.int .i64 4) := (hc 0 4 (by simp) (by omega)).1.trans (congrArg (fun x => some (Value.int .i64 x)) (show nthZ [y1, y2] 0 4 = _ from h1.2.2.2.2.1))
  have g5 : _ = some (Value.int .i64 0) := (hc 0 5 (by simp) (by omega)).1.trans (congrArg (fun x => some (Value.int .i64 x)) (show nthZ [y1, y2] 0 5 = _ from h1.2.2.2.2.2))
  have g6 : _ = some (Value.int .i64 2) := (hc 1 0 (by simp) (by omega)).1.trans (congrArg (fun x => some (Value.int .i64 x)) (show nthZ [y1, y2] 1 0 = _ from h2.1))
  have g7 : _ = some (Value.int .i64 1) := (hc 1 1 (by simp) (by omega)).1.trans (congrArg (fun x => some (Value.int .i64 x)) (show nthZ [y1, y2] 1 1 = _ from h2.2.1))
  have g8 : _ = some (Value.int .i64 9) := (hc 1 2 (by simp) (by omega)).1.trans (congrArg (fun x => some (Value.int .i64 x)) (show nthZ [y1, y2] 1 2 = _ from h2.2.2.1))
  have g9 : _ = some (Value.int .i64 0) := (hc 1 3 (by simp) (by omega)).1.trans (congrArg (fun x => some (Value.int .i64 x)) (show nthZ [y1, y2] 1 3 = _ from h2.2.2.2.1))
  have g10 : _ = some (Value.int .i64 9) := (hc 1 4 (by simp) (by omega)).1.trans (congrArg (fun x => some (Value.int .i64 x)) (show nthZ [y1, y2] 1 4 = _ from h2.2.2.2.2.1))
  have g11 : _ = some (Value.int .i64 0) := (hc 1 5 (by simp) (by omega)).1.trans (congrArg (fun x => some (Value.int .i64 x)) (show nthZ [y1, y2] 1 5 = _ from h2.2.2.2.2.2))
  simp only [drew_Wov, Wov_Wov, Array.append_assoc] at hB g0 g1 g2 g3 g4 g5 g6 g7 g8 g9 g10 g11
  go_wp2_with (fail)
  refine wp_world (fun W => Below w.heap.size w W ∧ Bz < W.heap.size ∧ W.cell? ⟨Bz, 0, none⟩ = some (.int .i64 8) ∧ W.cell? ⟨Bz, 1, none⟩ = some (.int .i64 (-4)) ∧ W.cell? ⟨Bz, 2, none⟩ = some (.int .i64 9) ∧ W.cell? ⟨Bz, 3, none⟩ = some (.int .i64 (-4)) ∧ W.cell? ⟨Bz, 4, none⟩ = some (.int .i64 4) ∧ W.cell? ⟨Bz, 5, none⟩ = some (.int .i64 0) ∧ W.cell? ⟨Bz, 6, none⟩ = some (.int .i64 2) ∧ W.cell? ⟨Bz, 7, none⟩ = some (.int .i64 1) ∧ W.cell? ⟨Bz, 8, none⟩ = some (.int .i64 9) ∧ W.cell? ⟨Bz, 9, none⟩ = some (.int .i64 0) ∧ W.cell? ⟨Bz, 10, none⟩ = some (.int .i64 9) ∧ W.cell? ⟨Bz, 11, none⟩ = some (.int .i64 0)) ⟨by (repeat' (first | (with_reducible assumption) | (with_reducible exact Below.refl _ _) | (with_reducible refine below_wov ?_ ?_ _) | (with_reducible refine below_drewN ?_ _) | (with_reducible refine Below.drew ?_) | (with_reducible refine Below.alloc ?_ ?_ _) | (with_reducible refine Below.setCell ?_ ?_ _) | (with_reducible exact Nat.le_refl _) | omega | (simp only [World.size_alloc, World.size_setCell, World.size_drew, Wov_size, World.heap_drewN]; omega))), hB, g0, g1, g2, g3, g4, g5, g6, g7, g8, g9, g10, g11⟩ ?_
  rintro W ⟨hbW, lB, c0, c1, c2, c3, c4, c5, c6, c7, c8, c9, c10, c11⟩
  have hsW := hbW.size
  clear hc hB h1 h2 O1 O2 MN
  go_region_held3 (fun w' => w'.cell? ⟨Bz, 0, none⟩ = some (.int .i64 8) ∧ w'.cell? ⟨Bz, 1, none⟩ = some (.int .i64 (-4)) ∧ w'.cell? ⟨Bz, 2, none⟩ = some (.int .i64 9) ∧ w'.cell? ⟨Bz, 3, none⟩ = some (.int .i64 (-4)) ∧ w'.cell? ⟨Bz, 4, none⟩ = some (.int .i64 4) ∧ w'.cell? ⟨Bz, 5, none⟩ = some (.int .i64 0) ∧ w'.cell? ⟨Bz, 6, none⟩ = some (.int .i64 2) ∧ w'.cell? ⟨Bz, 7, none⟩ = some (.int .i64 1) ∧ w'.cell? ⟨Bz, 8, none⟩ = some (.int .i64 9) ∧ w'.cell? ⟨Bz, 9, none⟩ = some (.int .i64 0) ∧ w'.cell? ⟨Bz, 10, none⟩ = some (.int .i64 9) ∧ w'.cell? ⟨Bz, 11, none⟩ = some (.int .i64 0))
    ((simp [go_sem, *]))
    (first
    | (go_at_call_of 73 (Value.int IntKind.i64 4); (refine (O3.out _).mono ?_; rintro e w' ⟨rfl, qa, rfl⟩))
    | (go_at_call_of 73 (Value.int IntKind.i64 1); (refine (O4.out _).mono ?_; rintro e w' ⟨rfl, qb, rfl⟩))
    | (go_at_call 45; (refine (CK.out _).mono ?_; rintro e w' ⟨rfl, qc, rfl⟩)))
  simp only [Exit.then]
  refine ‹∀ (a : Act) (w_1 : World), Code.wp Try.prog _ (bodyPost Try.prog _ _) a w_1 → _› _ _ ?_
  go_wp2
  go_ret
  exact gives_bool rfl (by (repeat' (first | (with_reducible assumption) | (with_reducible exact Below.refl _ _) | (with_reducible refine below_wov ?_ ?_ _) | (with_reducible refine below_drewN ?_ _) | (with_reducible refine Below.drew ?_) | (with_reducible refine Below.alloc ?_ ?_ _) | (with_reducible refine Below.setCell ?_ ?_ _) | (with_reducible exact Nat.le_refl _) | omega | (simp only [World.size_alloc, World.size_setCell, World.size_drew, Wov_size, World.heap_drewN]; omega))))
#print axioms alive11
end Go.Proofs.Ytbgbhfcnadjhdaa
