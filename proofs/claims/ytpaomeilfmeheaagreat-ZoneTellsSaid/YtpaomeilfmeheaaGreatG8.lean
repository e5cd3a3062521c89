/- Contracts of incl.shift, of the closure that puts ends together, of incl.pick and incl.Pick. -/
import Derived.Test.YtpaomeilfmeheaaGreatG7
namespace Go.Proofs.YtpaomeilfmeheaaGreat
set_option linter.unusedSimpArgs false
set_option linter.unusedVariables false
open Go Go.RowKit Go.Shelf
attribute [local go_sem] Nat.add_assoc Nat.add_lt_add_iff_left lit_lt_add

theorem ofR_one {n : Int} (h : ok8 (8 * n)) : ofR n 1 = (n, 1, 0) := by
  have hk := q8_ok h
  rw [q8_whole] at hk
  unfold ofR
  rw [if_neg (by omega), lowR_one (by simp), if_pos hk]
theorem ok8_fits {n : Int} (h : ok8 (8 * n)) : fits64 n := by
  have := q8_fits h
  rwa [q8_whole] at this

set_option maxRecDepth 10000 in
set_option maxHeartbeats 1000000 in
theorem shift_any (t n : Int) (ht : ok8 t) (hn : ok8 (8 * n)) (hr : ok8 (t + 8 * n)) :
    Pure Tryz.prog 98 #[.agg #[.int .i64 (q8 t).1, .int .i64 (q8 t).2], .int .i64 n] (.agg #[.int .i64 (q8 (t + 8 * n)).1, .int .i64 (q8 (t + 8 * n)).2]) := by
  intro w
  have hfn := ok8_fits hn
  have hft := q8_fits ht
  have K1 : Hid (Pure Tryz.prog 110 #[.int .i64 n, .int .i64 1] (.tuple #[.agg #[.int .i64 n, .int .i64 1], .int .i64 0])) := by
    have := of_any n 1 hfn.1 hfn.2 (by omega)
    rw [ofR_one hn] at this; exact this
  have K2 : Hid (Pure Tryz.prog 111 #[.agg #[.int .i64 (q8 t).1, .int .i64 (q8 t).2], .agg #[.int .i64 n, .int .i64 1]] (.tuple #[.agg #[.int .i64 (q8 (t + 8 * n)).1, .int .i64 (q8 (t + 8 * n)).2], .int .i64 0])) := by
    have := ratAdd_any (q8 t).1 (q8 t).2 n 1 hft hfn
    rw [add8 ht hn hr] at this; exact this
  generalize (q8 t).1 = a at *
  generalize (q8 t).2 = b at *
  generalize (q8 (t + 8 * n)).1 = c at *
  generalize (q8 (t + 8 * n)).2 = d at *
  clear ht hn hr hft hfn
  go_enter Tryz.func98, Tryz.ntmps98
  go_wp2_with (fail)
  refine (K1.out _).mono ?_; rintro e w' ⟨rfl, q1, rfl⟩
  go_wp2_with (fail)
  refine (K2.out _).mono ?_; rintro e w' ⟨rfl, q2, rfl⟩
  go_wp2
  go_returns
  exact gives_end rfl (by (repeat' (first | (with_reducible assumption) | (with_reducible exact Below.refl _ _) | (with_reducible refine below_wov ?_ ?_ _) | (with_reducible refine below_drewN ?_ _) | (with_reducible refine Below.drew ?_) | (with_reducible refine Below.alloc ?_ ?_ _) | (with_reducible refine Below.setCell ?_ ?_ _) | (with_reducible exact Nat.le_refl _) | omega | (simp only [World.size_alloc, World.size_setCell, World.size_drew, Wov_size, World.heap_drewN]; omega))))

/-- An end as a value: whether there is one, where, whether it is strict. -/
def endV (i : Bool) (r : Int × Int) (s : Bool) : Value := .agg #[.bool i, .int .i64 r.1, .int .i64 r.2, .bool s]

set_option maxRecDepth 10000 in
set_option maxHeartbeats 1000000 in
theorem near_skip (i : Bool) (a d : Int) (s : Bool) (p q sg : Int) :
    Pure Tryz.prog 97 #[.agg #[.bool i, .int .i64 a, .int .i64 d, .bool s], .int .i64 9223372036854775807, .agg #[.int .i64 p, .int .i64 q], .int .i64 sg] (.agg #[.bool i, .int .i64 a, .int .i64 d, .bool s]) := by
  intro w
  have K := Lib.hid value_none
  go_enter Tryz.func97, Tryz.ntmps97
  go_wp2_with (fail)
  refine (K.out _).mono ?_; rintro e w' ⟨rfl, q1, rfl⟩
  go_wp2
  go_returns
  exact gives_end rfl (by (repeat' (first | (with_reducible assumption) | (with_reducible exact Below.refl _ _) | (with_reducible refine below_wov ?_ ?_ _) | (with_reducible refine below_drewN ?_ _) | (with_reducible refine Below.drew ?_) | (with_reducible refine Below.alloc ?_ ?_ _) | (with_reducible refine Below.setCell ?_ ?_ _) | (with_reducible exact Nat.le_refl _) | omega | (simp only [World.size_alloc, World.size_setCell, World.size_drew, Wov_size, World.heap_drewN]; omega))))

set_option maxRecDepth 10000 in
set_option maxHeartbeats 1000000 in
theorem near_first (a d : Int) (s : Bool) (b c : Int) (st : Bool) (p q x y sg ng nc l0 e0 : Int) (w : World)
    (K : Hid (Pure Tryz.prog 76 #[.int .i64 b] (.tuple #[.int .i64 c, .bool st, .int .i64 0])))
    (SH : Hid (Pure Tryz.prog 98 #[.agg #[.int .i64 p, .int .i64 q], .int .i64 nc] (.agg #[.int .i64 x, .int .i64 y])))
    (CM : Hid (Pure Tryz.prog 99 #[.agg #[.int .i64 x, .int .i64 y], .agg #[.int .i64 a, .int .i64 d]] (.tuple #[.int .i64 l0, .int .i64 e0])))
    (w1 : IntKind.i64.wrap (-sg) = ng) (w2 : IntKind.i64.wrap (ng * c) = nc) :
    Calls Tryz.prog 97 #[.agg #[.bool false, .int .i64 a, .int .i64 d, .bool s], .int .i64 b, .agg #[.int .i64 p, .int .i64 q], .int .i64 sg] w (Gives w (.agg #[.bool true, .int .i64 x, .int .i64 y, .bool st])) := by
  go_enter Tryz.func97, Tryz.ntmps97
  go_wp2_with (fail)
  refine (K.out _).mono ?_; rintro e w' ⟨rfl, q1, rfl⟩
  go_wp2_with (fail)
  refine (SH.out _).mono ?_; rintro e w' ⟨rfl, q2, rfl⟩
  go_wp2_with (fail)
  refine (CM.out _).mono ?_; rintro e w' ⟨rfl, q3, rfl⟩
  go_wp2
  go_returns
  exact gives_end rfl (by (repeat' (first | (with_reducible assumption) | (with_reducible exact Below.refl _ _) | (with_reducible refine below_wov ?_ ?_ _) | (with_reducible refine below_drewN ?_ _) | (with_reducible refine Below.drew ?_) | (with_reducible refine Below.alloc ?_ ?_ _) | (with_reducible refine Below.setCell ?_ ?_ _) | (with_reducible exact Nat.le_refl _) | omega | (simp only [World.size_alloc, World.size_setCell, World.size_drew, Wov_size, World.heap_drewN]; omega))))

set_option maxRecDepth 10000 in
set_option maxHeartbeats 1000000 in
theorem near_more (a d : Int) (s : Bool) (b c : Int) (st : Bool) (p q x y sg ng nc l0 ls : Int) (w : World)
    (K : Hid (Pure Tryz.prog 76 #[.int .i64 b] (.tuple #[.int .i64 c, .bool st, .int .i64 0])))
    (SH : Hid (Pure Tryz.prog 98 #[.agg #[.int .i64 p, .int .i64 q], .int .i64 nc] (.agg #[.int .i64 x, .int .i64 y])))
    (CM : Hid (Pure Tryz.prog 99 #[.agg #[.int .i64 x, .int .i64 y], .agg #[.int .i64 a, .int .i64 d]] (.tuple #[.int .i64 l0, .int .i64 0])))
    (w1 : IntKind.i64.wrap (-sg) = ng) (w2 : IntKind.i64.wrap (ng * c) = nc) (w3 : IntKind.i64.wrap (l0 * sg) = ls) (hp : 0 < ls) (hd : decide (0 < ls) = true) :
    Calls Tryz.prog 97 #[.agg #[.bool true, .int .i64 a, .int .i64 d, .bool s], .int .i64 b, .agg #[.int .i64 p, .int .i64 q], .int .i64 sg] w (Gives w (.agg #[.bool true, .int .i64 x, .int .i64 y, .bool st])) := by
  go_enter Tryz.func97, Tryz.ntmps97
  go_wp2_with (fail)
  refine (K.out _).mono ?_; rintro e w' ⟨rfl, q1, rfl⟩
  go_wp2_with (fail)
  refine (SH.out _).mono ?_; rintro e w' ⟨rfl, q2, rfl⟩
  go_wp2_with (fail)
  refine (CM.out _).mono ?_; rintro e w' ⟨rfl, q3, rfl⟩
  clear hp
  go_wp2
  go_returns
  exact gives_end rfl (by (repeat' (first | (with_reducible assumption) | (with_reducible exact Below.refl _ _) | (with_reducible refine below_wov ?_ ?_ _) | (with_reducible refine below_drewN ?_ _) | (with_reducible refine Below.drew ?_) | (with_reducible refine Below.alloc ?_ ?_ _) | (with_reducible refine Below.setCell ?_ ?_ _) | (with_reducible exact Nat.le_refl _) | omega | (simp only [World.size_alloc, World.size_setCell, World.size_drew, Wov_size, World.heap_drewN]; omega))))

set_option maxRecDepth 10000 in
set_option maxHeartbeats 1000000 in
theorem near_less (a d : Int) (s : Bool) (b c : Int) (st : Bool) (p q x y sg ng nc l0 ls : Int) (w : World)
    (K : Hid (Pure Tryz.prog 76 #[.int .i64 b] (.tuple #[.int .i64 c, .bool st, .int .i64 0])))
    (SH : Hid (Pure Tryz.prog 98 #[.agg #[.int .i64 p, .int .i64 q], .int .i64 nc] (.agg #[.int .i64 x, .int .i64 y])))
    (CM : Hid (Pure Tryz.prog 99 #[.agg #[.int .i64 x, .int .i64 y], .agg #[.int .i64 a, .int .i64 d]] (.tuple #[.int .i64 l0, .int .i64 0])))
    (w1 : IntKind.i64.wrap (-sg) = ng) (w2 : IntKind.i64.wrap (ng * c) = nc) (w3 : IntKind.i64.wrap (l0 * sg) = ls) (hd : decide (0 < ls) = false) (hz : (l0 == 0) = false) :
    Calls Tryz.prog 97 #[.agg #[.bool true, .int .i64 a, .int .i64 d, .bool s], .int .i64 b, .agg #[.int .i64 p, .int .i64 q], .int .i64 sg] w (Gives w (.agg #[.bool true, .int .i64 a, .int .i64 d, .bool s])) := by
  go_enter Tryz.func97, Tryz.ntmps97
  go_wp2_with (fail)
  refine (K.out _).mono ?_; rintro e w' ⟨rfl, q1, rfl⟩
  go_wp2_with (fail)
  refine (SH.out _).mono ?_; rintro e w' ⟨rfl, q2, rfl⟩
  go_wp2_with (fail)
  refine (CM.out _).mono ?_; rintro e w' ⟨rfl, q3, rfl⟩
  go_wp2
  go_returns
  exact gives_end rfl (by (repeat' (first | (with_reducible assumption) | (with_reducible exact Below.refl _ _) | (with_reducible refine below_wov ?_ ?_ _) | (with_reducible refine below_drewN ?_ _) | (with_reducible refine Below.drew ?_) | (with_reducible refine Below.alloc ?_ ?_ _) | (with_reducible refine Below.setCell ?_ ?_ _) | (with_reducible exact Nat.le_refl _) | omega | (simp only [World.size_alloc, World.size_setCell, World.size_drew, Wov_size, World.heap_drewN]; omega))))

set_option maxRecDepth 10000 in
set_option maxHeartbeats 1000000 in
theorem near_same (a d : Int) (s : Bool) (b c : Int) (st : Bool) (p q x y sg ng nc : Int) (w : World)
    (K : Hid (Pure Tryz.prog 76 #[.int .i64 b] (.tuple #[.int .i64 c, .bool st, .int .i64 0])))
    (SH : Hid (Pure Tryz.prog 98 #[.agg #[.int .i64 p, .int .i64 q], .int .i64 nc] (.agg #[.int .i64 x, .int .i64 y])))
    (CM : Hid (Pure Tryz.prog 99 #[.agg #[.int .i64 x, .int .i64 y], .agg #[.int .i64 a, .int .i64 d]] (.tuple #[.int .i64 0, .int .i64 0])))
    (w1 : IntKind.i64.wrap (-sg) = ng) (w2 : IntKind.i64.wrap (ng * c) = nc) :
    Calls Tryz.prog 97 #[.agg #[.bool true, .int .i64 a, .int .i64 d, .bool s], .int .i64 b, .agg #[.int .i64 p, .int .i64 q], .int .i64 sg] w (Gives w (.agg #[.bool true, .int .i64 a, .int .i64 d, .bool (s || st)])) := by
  cases s with
  | true =>
    go_enter Tryz.func97, Tryz.ntmps97
    go_wp2_with (fail)
    refine (K.out _).mono ?_; rintro e w' ⟨rfl, q1, rfl⟩
    go_wp2_with (fail)
    refine (SH.out _).mono ?_; rintro e w' ⟨rfl, q2, rfl⟩
    go_wp2_with (fail)
    refine (CM.out _).mono ?_; rintro e w' ⟨rfl, q3, rfl⟩
    go_wp2
    go_returns
    exact gives_end rfl (by (repeat' (first | (with_reducible assumption) | (with_reducible exact Below.refl _ _) | (with_reducible refine below_wov ?_ ?_ _) | (with_reducible refine below_drewN ?_ _) | (with_reducible refine Below.drew ?_) | (with_reducible refine Below.alloc ?_ ?_ _) | (with_reducible refine Below.setCell ?_ ?_ _) | (with_reducible exact Nat.le_refl _) | omega | (simp only [World.size_alloc, World.size_setCell, World.size_drew, Wov_size, World.heap_drewN]; omega))))
  | false =>
    go_enter Tryz.func97, Tryz.ntmps97
    go_wp2_with (fail)
    refine (K.out _).mono ?_; rintro e w' ⟨rfl, q1, rfl⟩
    go_wp2_with (fail)
    refine (SH.out _).mono ?_; rintro e w' ⟨rfl, q2, rfl⟩
    go_wp2_with (fail)
    refine (CM.out _).mono ?_; rintro e w' ⟨rfl, q3, rfl⟩
    go_wp2
    go_returns
    exact gives_end rfl (by (repeat' (first | (with_reducible assumption) | (with_reducible exact Below.refl _ _) | (with_reducible refine below_wov ?_ ?_ _) | (with_reducible refine below_drewN ?_ _) | (with_reducible refine Below.drew ?_) | (with_reducible refine Below.alloc ?_ ?_ _) | (with_reducible refine Below.setCell ?_ ?_ _) | (with_reducible exact Nat.le_refl _) | omega | (simp only [World.size_alloc, World.size_setCell, World.size_drew, Wov_size, World.heap_drewN]; omega))))

def endL : EndE → Value
  | none => .agg #[.bool false, .int .i64 0, .int .i64 0, .bool false]
  | some (y, s) => .agg #[.bool true, .int .i64 (q8 y).1, .int .i64 (q8 y).2, .bool s]
def endH : EndE → Value
  | none => .agg #[.bool false, .int .i64 0, .int .i64 0, .bool false]
  | some (y, s) => .agg #[.bool true, .int .i64 (q8 (-y)).1, .int .i64 (q8 (-y)).2, .bool s]
def EOK (x : EndE) : Prop := ∀ y s, x = some (y, s) → ok8 y

theorem cmpPR_zero {a : Int} (ha : ok8 a) : cmpPR (q8 a).1 (q8 a).2 0 0 = (0, 8) := by
  unfold cmpPR; rw [q8_ok ha]; rfl
theorem cmpPR_q8 {a b : Int} (ha : ok8 a) (hb : ok8 b) : cmpPR (q8 a).1 (q8 a).2 (q8 b).1 (q8 b).2 = (sgn3 a b 0, 0) := by
  unfold cmpPR; rw [q8_ok ha, q8_ok hb, cmp8]; rfl
theorem cmp_q8_any {a b : Int} (ha : ok8 a) (hb : ok8 b) : Pure Tryz.prog 99 #[.agg #[.int .i64 (q8 a).1, .int .i64 (q8 a).2], .agg #[.int .i64 (q8 b).1, .int .i64 (q8 b).2]] (.tuple #[.int .i64 (sgn3 a b 0), .int .i64 0]) := by
  have h1 := q8_fits ha
  have h2 := q8_fits hb
  have h3 := q8_fits2 a
  have h4 := q8_fits2 b
  have := ratCmp_any (q8 a).1 (q8 a).2 (q8 b).1 (q8 b).2 h1.1 h1.2 h3.1 h3.2 h2.1 h2.2 h4.1 h4.2
  rw [cmpPR_q8 ha hb] at this
  exact this
theorem cmp_q8_zero {a : Int} (ha : ok8 a) : Pure Tryz.prog 99 #[.agg #[.int .i64 (q8 a).1, .int .i64 (q8 a).2], .agg #[.int .i64 0, .int .i64 0]] (.tuple #[.int .i64 0, .int .i64 8]) := by
  have h1 := q8_fits ha
  have h3 := q8_fits2 a
  have := ratCmp_any (q8 a).1 (q8 a).2 0 0 h1.1 h1.2 h3.1 h3.2 (by omega) (by omega) (by omega) (by omega)
  rw [cmpPR_zero ha] at this
  exact this
theorem bd_fits64 {b : Int} (h : bd 864691128455135232 b) : fits64 b := by
  rcases h with h | h
  · rw [h]; unfold noneB fits64; omega
  · unfold bnum at h; unfold fits64; omega
theorem value_bd {b : Int} (h : bd 864691128455135232 b) (hn : b ≠ noneB) : Pure Tryz.prog 76 #[.int .i64 b] (.tuple #[.int .i64 (b / 2), .bool (bstr b), .int .i64 0]) :=
  value_ok (bd_fits64 h).1 (bd_fits64 h).2 (bd_okB h (by omega)) hn

theorem near_low (x : EndE) (b t : Int) (w : World) (hx : EOK x) (hb : bd 864691128455135232 b) (ht : ok8 t) (h1 : b ≠ noneB → ok8 (8 * (b / 2)) ∧ ok8 (t - 8 * (b / 2))) :
    Calls Tryz.prog 97 #[endL x, .int .i64 b, .agg #[.int .i64 (q8 t).1, .int .i64 (q8 t).2], .int .i64 1] w (Gives w (endL (lowE x b t))) := by
  unfold lowE
  by_cases hn : b = noneB
  · rw [if_pos hn, hn]
    cases x with
    | none => exact near_skip false 0 0 false _ _ _ w
    | some v => obtain ⟨y, s⟩ := v; exact near_skip true _ _ s _ _ _ w
  · rw [if_neg hn]
    obtain ⟨h1, h2⟩ := h1 hn
    have hv := value_bd hb hn
    have w1 : IntKind.i64.wrap (-1) = -1 := by decide
    have hbb := hb.resolve_left hn
    unfold bnum at hbb
    have w2 : IntKind.i64.wrap (-1 * (b / 2)) = -(b / 2) := by rw [IntWalk.i64_in _ (by omega)]; omega
    have hs := shift_any t (-(b / 2)) ht (by have := h1.neg; rwa [← Int.mul_neg] at this) (by rw [Int.mul_neg]; exact h2)
    rw [show t + 8 * -(b / 2) = t - 8 * (b / 2) from by omega] at hs
    obtain ⟨u, hu⟩ : ∃ u, u = t - 8 * (b / 2) := ⟨_, rfl⟩
    rw [← hu] at hs h2 ⊢
    cases x with
    | none => exact near_first 0 0 false b (b / 2) (bstr b) _ _ _ _ 1 (-1) _ 0 8 w hv hs (cmp_q8_zero h2) w1 w2
    | some v =>
      obtain ⟨y, s⟩ := v
      have hc := cmp_q8_any h2 (hx y s rfl)
      simp only
      by_cases g1 : y < u
      · rw [if_pos g1]
        rw [show sgn3 u y 0 = 1 from by unfold sgn3; rw [if_neg (by omega), if_pos g1]] at hc
        exact near_more _ _ s b (b / 2) (bstr b) _ _ _ _ 1 (-1) _ 1 1 w hv hs hc w1 w2 (by decide) (by decide) (by decide)
      · rw [if_neg g1]
        by_cases g2 : u = y
        · rw [if_pos g2]
          rw [show sgn3 u y 0 = 0 from by unfold sgn3; rw [if_neg (by omega), if_neg (by omega)]] at hc
          exact near_same _ _ s b (b / 2) (bstr b) _ _ _ _ 1 (-1) _ w hv hs hc w1 w2
        · rw [if_neg g2]
          rw [show sgn3 u y 0 = -1 from by unfold sgn3; rw [if_pos (by omega)]] at hc
          exact near_less _ _ s b (b / 2) (bstr b) _ _ _ _ 1 (-1) _ (-1) (-1) w hv hs hc w1 w2 (by decide) (by decide) (by decide)
theorem near_high (x : EndE) (b t : Int) (w : World) (hx : EOK x) (hb : bd 864691128455135232 b) (ht : ok8 t) (h1 : b ≠ noneB → ok8 (8 * (b / 2)) ∧ ok8 (t + 8 * (b / 2))) :
    Calls Tryz.prog 97 #[endH x, .int .i64 b, .agg #[.int .i64 (q8 t).1, .int .i64 (q8 t).2], .int .i64 (-1)] w (Gives w (endH (lowE x b (-t)))) := by
  unfold lowE
  by_cases hn : b = noneB
  · rw [if_pos hn, hn]
    cases x with
    | none => exact near_skip false 0 0 false _ _ _ w
    | some v => obtain ⟨y, s⟩ := v; exact near_skip true _ _ s _ _ _ w
  · rw [if_neg hn]
    obtain ⟨h1, h2⟩ := h1 hn
    have hv := value_bd hb hn
    have w1 : IntKind.i64.wrap (-(-1)) = 1 := by decide
    have hbb := hb.resolve_left hn
    unfold bnum at hbb
    have w2 : IntKind.i64.wrap (1 * (b / 2)) = b / 2 := by rw [IntWalk.i64_in _ (by omega)]; omega
    have hs := shift_any t (b / 2) ht h1 h2
    obtain ⟨u, hu⟩ : ∃ u, u = t + 8 * (b / 2) := ⟨_, rfl⟩
    rw [← hu] at hs h2
    have hu2 : -t - 8 * (b / 2) = -u := by omega
    rw [hu2]
    cases x with
    | none =>
      simp only [endH]
      rw [show -(-u) = u from by omega]
      exact near_first 0 0 false b (b / 2) (bstr b) _ _ _ _ (-1) 1 _ 0 8 w hv hs (cmp_q8_zero h2) w1 w2
    | some v =>
      obtain ⟨y, s⟩ := v
      have hc := cmp_q8_any h2 (hx y s rfl).neg
      simp only
      by_cases g1 : y < -u
      · rw [if_pos g1]
        rw [show sgn3 u (-y) 0 = -1 from by unfold sgn3; rw [if_pos (by omega)]] at hc
        simp only [endH]
        rw [show -(-u) = u from by omega]
        exact near_more _ _ s b (b / 2) (bstr b) _ _ _ _ (-1) 1 _ (-1) 1 w hv hs hc w1 w2 (by decide) (by decide) (by decide)
      · rw [if_neg g1]
        by_cases g2 : -u = y
        · rw [if_pos g2]
          rw [show sgn3 u (-y) 0 = 0 from by unfold sgn3; rw [if_neg (by omega), if_neg (by omega)]] at hc
          exact near_same _ _ s b (b / 2) (bstr b) _ _ _ _ (-1) 1 _ w hv hs hc w1 w2
        · rw [if_neg g2]
          rw [show sgn3 u (-y) 0 = 1 from by unfold sgn3; rw [if_neg (by omega), if_pos (by omega)]] at hc
          exact near_less _ _ s b (b / 2) (bstr b) _ _ _ _ (-1) 1 _ 1 (-1) w hv hs hc w1 w2 (by decide) (by decide) (by decide)
#print axioms near_high
end Go.Proofs.YtpaomeilfmeheaaGreat
