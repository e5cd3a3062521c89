/- law09: its helpers small, end, fits. No condition but that bounds are small numbers. -/
import Derived.Test.YtbgbhfcnadjhdaaL4
import Derived.Test.YtbgbhfcnadjhdaaH8
import Derived.Test.YtbgbhfcnadjhdaaG8
namespace Go.Proofs.Ytbgbhfcnadjhdaa
set_option linter.unusedSimpArgs false
set_option linter.unusedVariables false
open Go Go.RowKit Go.Shelf
attribute [local go_sem] Nat.add_assoc Nat.add_lt_add_iff_left lit_lt_add

/-- Is a bound a small number? -/
def smB (x : Int) : Bool := !(x == 9223372036854775807) && (!(decide (1099511627776 < x)) && !(decide (x < -1099511627776)))
theorem smB_iff {x : Int} : smB x = true ↔ smallB x := by
  unfold smB smallB noneB
  simp
  intro _
  exact And.comm
def smallZ (z : Nat → Int) : Bool := (List.range 6).all fun i => smB (z i)
theorem smallZ_iff {z : Nat → Int} : smallZ z = true ↔ ∀ i, i < 6 → smallB (z i) := by
  unfold smallZ
  rw [List.all_eq_true]
  exact ⟨fun h i hi => smB_iff.1 (h i (by simpa using hi)), fun h i hi => smB_iff.2 (h i (by simpa using hi))⟩
theorem smallZ_no {z : Nat → Int} {t : Nat} (ht : t < 6) (h : smB (z t) = false) : smallZ z = false := by
  unfold smallZ
  rw [List.all_eq_false]
  exact ⟨t, by simpa using ht, by simp [h]⟩
theorem smallZ_yes {z : Nat → Int} (h : ∀ i, i < 6 → smB (z i) = true) : smallZ z = true := by
  unfold smallZ
  rw [List.all_eq_true]
  exact fun i hi => h i (by simpa using hi)
theorem idx6c (z : Nat → Int) (w : World) : ∀ t, t < 6 → (Instr.index 24 (.agg #[.int .i64 (z 0), .int .i64 (z 1), .int .i64 (z 2), .int .i64 (z 3), .int .i64 (z 4), .int .i64 (z 5)]) (.int .i64 (t : Nat))).run Try.prog w = .ok (.int .i64 (z t)) w := by
  intro t ht
  rcases six ht with rfl | rfl | rfl | rfl | rfl | rfl <;> kernel_rfl
set_option maxRecDepth 10000 in
set_option maxHeartbeats 2000000 in
theorem small9_any (z : Nat → Int) (w : World) : Calls Try.prog 44 #[zoneV z] w (Gives w (.bool (smallZ z))) := by
  have JX := Lib.hid (fun t ht w => idx6c z w t ht)
  have HNO : Hid (∀ t, t < 6 → smB (z t) = false → smallZ z = false) := fun t ht h => smallZ_no ht h
  have HY : Hid ((∀ i, i < 6 → smB (z i) = true) → smallZ z = true) := fun h => smallZ_yes h
  obtain ⟨R, hR⟩ : ∃ R, R = smallZ z := ⟨_, rfl⟩
  rw [← hR] at HNO HY ⊢
  clear hR
  unfold zoneV
  go_enter Try.func44, Try.ntmps44
  go_wp2
  go_loopw [6] (fun i wr => ∃ t : Nat, t ≤ 6 ∧ i = .int .i64 (t : Int) ∧ Below w.heap.size w wr ∧ Hid (∀ i, i < t → smB (z i) = true))
    (fun i _ => 6 - (intOf i).toNat)
  case atStart => exact ⟨0, by omega, rfl, by (repeat' (first | (with_reducible assumption) | (with_reducible exact Below.refl _ _) | (with_reducible refine below_wov ?_ ?_ _) | (with_reducible refine below_drewN ?_ _) | (with_reducible refine Below.drew ?_) | (with_reducible refine Below.alloc ?_ ?_ _) | (with_reducible refine Below.setCell ?_ ?_ _) | (with_reducible exact Nat.le_refl _) | omega | (simp only [World.size_alloc, World.size_setCell, World.size_drew, Wov_size, World.heap_drewN]; omega))), fun i hi => by omega⟩
  case round =>
    obtain ⟨t, ht, rfl, hb, hI⟩ := hrel
    have hsr := hb.size
    by_cases hlt : t < 6
    · have jx := JX.out t hlt
      have hno := Lib.hid (HNO.out t hlt)
      obtain ⟨x, hx⟩ : ∃ x, x = z t := ⟨_, rfl⟩
      rw [← hx] at jx hno
      have HX := Lib.hid hx
      clear hx JX HNO HY
      by_cases h1 : x = 9223372036854775807
      · have b1 : (x == 9223372036854775807) = true := by rw [h1]; rfl
        have HF : Hid (R = false) := hno.out (by unfold smB; rw [b1]; rfl)
        clear h1 hno
        go_wp2
        go_ret
        exact gives_bool (by rw [HF.out]) (by (repeat' (first | (with_reducible assumption) | (with_reducible exact Below.refl _ _) | (with_reducible refine below_wov ?_ ?_ _) | (with_reducible refine below_drewN ?_ _) | (with_reducible refine Below.drew ?_) | (with_reducible refine Below.alloc ?_ ?_ _) | (with_reducible refine Below.setCell ?_ ?_ _) | (with_reducible exact Nat.le_refl _) | omega | (simp only [World.size_alloc, World.size_setCell, World.size_drew, Wov_size, World.heap_drewN]; omega))))
      · have b1 : (x == 9223372036854775807) = false := by rw [beq_eq_false_iff_ne]; exact h1
        by_cases h2 : 1099511627776 < x
        · have b2 : decide (1099511627776 < x) = true := decide_eq_true h2
          have HF : Hid (R = false) := hno.out (by unfold smB; rw [b2]; simp)
          clear h1 hno
          go_wp2
          go_ret
          exact gives_bool (by rw [HF.out]) (by (repeat' (first | (with_reducible assumption) | (with_reducible exact Below.refl _ _) | (with_reducible refine below_wov ?_ ?_ _) | (with_reducible refine below_drewN ?_ _) | (with_reducible refine Below.drew ?_) | (with_reducible refine Below.alloc ?_ ?_ _) | (with_reducible refine Below.setCell ?_ ?_ _) | (with_reducible exact Nat.le_refl _) | omega | (simp only [World.size_alloc, World.size_setCell, World.size_drew, Wov_size, World.heap_drewN]; omega))))
        · have b2 : decide (1099511627776 < x) = false := decide_eq_false h2
          by_cases h3 : x < -1099511627776
          · have b3 : decide (x < -1099511627776) = true := decide_eq_true h3
            have HF : Hid (R = false) := hno.out (by unfold smB; rw [b3]; simp)
            clear h1 hno
            go_wp2
            go_ret
            exact gives_bool (by rw [HF.out]) (by (repeat' (first | (with_reducible assumption) | (with_reducible exact Below.refl _ _) | (with_reducible refine below_wov ?_ ?_ _) | (with_reducible refine below_drewN ?_ _) | (with_reducible refine Below.drew ?_) | (with_reducible refine Below.alloc ?_ ?_ _) | (with_reducible refine Below.setCell ?_ ?_ _) | (with_reducible exact Nat.le_refl _) | omega | (simp only [World.size_alloc, World.size_setCell, World.size_drew, Wov_size, World.heap_drewN]; omega))))
          · have b3 : decide (x < -1099511627776) = false := decide_eq_false h3
            have hI2 : Hid (∀ i, i < t + 1 → smB (z i) = true) := fun i hi => by
              by_cases e : i = t
              · subst e; rw [← HX.out]; unfold smB; rw [b1, b2, b3]; rfl
              · exact hI.out i (by omega)
            clear h1 hno hI
            go_wp2
            go_roundw
            case rel => exact ⟨t + 1, by omega, by go_num, by (repeat' (first | (with_reducible assumption) | (with_reducible exact Below.refl _ _) | (with_reducible refine below_wov ?_ ?_ _) | (with_reducible refine below_drewN ?_ _) | (with_reducible refine Below.drew ?_) | (with_reducible refine Below.alloc ?_ ?_ _) | (with_reducible refine Below.setCell ?_ ?_ _) | (with_reducible exact Nat.le_refl _) | omega | (simp only [World.size_alloc, World.size_setCell, World.size_drew, Wov_size, World.heap_drewN]; omega))), hI2⟩
            case measure => simp [intOf]; omega
    · obtain rfl : t = 6 := by omega
      have HF : Hid (R = true) := HY.out hI.out
      clear hI JX HNO HY
      go_wp2
      go_ret
      exact gives_bool (by rw [HF.out]) (by (repeat' (first | (with_reducible assumption) | (with_reducible exact Below.refl _ _) | (with_reducible refine below_wov ?_ ?_ _) | (with_reducible refine below_drewN ?_ _) | (with_reducible refine Below.drew ?_) | (with_reducible refine Below.alloc ?_ ?_ _) | (with_reducible refine Below.setCell ?_ ?_ _) | (with_reducible exact Nat.le_refl _) | omega | (simp only [World.size_alloc, World.size_setCell, World.size_drew, Wov_size, World.heap_drewN]; omega))))

set_option maxRecDepth 10000 in
set_option maxHeartbeats 2000000 in
theorem end9_any (n m b s : Int) (w : World) (wn : fits64 n) (hb : smallB b) (hs : s = 1 ∨ s = -1) : Calls Try.prog 86 #[.agg #[.int .i64 n, .int .i64 m], .int .i64 b, .int .i64 s] w (Gives w (.tuple #[.agg #[.int .i64 (endE (n, m) b s).1, .int .i64 (endE (n, m) b s).2.1], .bool (decide ((endE (n, m) b s).2.2 = 0))])) := by
  have hbn := bnum_small hb
  obtain ⟨k, hk⟩ : ∃ k, k = bnum b := ⟨_, rfl⟩
  obtain ⟨c, hc⟩ : ∃ c, c = s * bnum b := ⟨_, rfl⟩
  have hcb : -549755813888 ≤ c ∧ c ≤ 549755813888 := by
    rcases hs with rfl | rfl
    · rw [hc]; omega
    · rw [hc]; omega
  have h8 : ok8 (8 * c) := by unfold ok8; omega
  have OL : Hid (∀ w, Calls Try.prog 42 #[.int .i64 c, .int .i64 1] w (Gives w (.tuple #[.agg #[.int .i64 c, .int .i64 1], .int .i64 0]))) := fun w => by
    have := of_any c 1 (by omega) (by omega) (by decide) w
    rw [ofR_one h8] at this; exact this
  unfold endE
  rw [← hc]
  dsimp only
  obtain ⟨⟨x, y, e0⟩, hr⟩ : ∃ r, r = addPR n m c 1 1 := ⟨_, rfl⟩
  have AD : Hid (∀ w, Calls Try.prog 43 #[.agg #[.int .i64 n, .int .i64 m], .agg #[.int .i64 c, .int .i64 1]] w (Gives w (.tuple #[.agg #[.int .i64 x, .int .i64 y], .int .i64 e0]))) := fun w => by
    have := ratAdd_any n m c 1 wn (by unfold fits64; omega) w
    rw [← hr] at this; exact this
  rw [← hr]
  have h1 : (b >>> 1 : Int) = k := by rw [hk]; unfold bnum; exact Int.shiftRight_eq_div_pow b 1
  have h2 : (b / 2 : Int) = k := by rw [hk]; rfl
  have h3 : IntKind.i64.wrap (s * k) = c := by rw [hk, ← hc, IntKind.wrap_i64]; omega
  have h4 : IntKind.i64.wrap k = k := by rw [IntKind.wrap_i64]; omega
  have e : decide (e0 = 0) = (e0 == 0) := rfl
  clear hr hb hs hbn hk hc hcb h8 wn
  dsimp only
  rw [e]
  go_enter Try.func86, Try.ntmps86
  go_wp2_with (fail)
  refine (OL.out _).mono ?_; rintro e w' ⟨rfl, q1, rfl⟩
  go_wp2_with (fail)
  refine (AD.out _).mono ?_; rintro e w' ⟨rfl, q2, rfl⟩
  go_wp2
  go_returns
  exact gives_end rfl (by (repeat' (first | (with_reducible assumption) | (with_reducible exact Below.refl _ _) | (with_reducible refine below_wov ?_ ?_ _) | (with_reducible refine below_drewN ?_ _) | (with_reducible refine Below.drew ?_) | (with_reducible refine Below.alloc ?_ ?_ _) | (with_reducible refine Below.setCell ?_ ?_ _) | (with_reducible exact Nat.le_refl _) | omega | (simp only [World.size_alloc, World.size_setCell, World.size_drew, Wov_size, World.heap_drewN]; omega))))

set_option maxRecDepth 10000 in
set_option maxHeartbeats 2000000 in
theorem fits9_any (a b : Nat → Int) (p0 p1 p2 p3 m n : Int) (w : World) (fa : FitsZ a) (fb : FitsZ b) (w0 : fits64 p0) (w1 : fits64 p1) (w2 : fits64 p2) (w3 : fits64 p3) (wm : fits64 m) (wn : fits64 n) : Calls Try.prog 88 #[zoneV a, zoneV b, .agg #[.int .i64 p0, .int .i64 p1, .int .i64 p2, .int .i64 p3], .agg #[.int .i64 m, .int .i64 n]] w (Gives w (.bool (fitsE a b (p0, p1) (p2, p3) (m, n)))) := by
  unfold fitsE
  dsimp only
  obtain ⟨⟨x, e⟩, hx⟩ : ∃ r, r = hasZ a (pt p0 p1 m n) := ⟨_, rfl⟩
  obtain ⟨⟨y, f⟩, hy⟩ : ∃ r, r = hasZ b (pt m n p2 p3) := ⟨_, rfl⟩
  have C1 : Hid (∀ w, Calls Try.prog 38 #[.agg #[.int .i64 (a 0), .int .i64 (a 1), .int .i64 (a 2), .int .i64 (a 3), .int .i64 (a 4), .int .i64 (a 5)], .agg #[.int .i64 p0, .int .i64 p1, .int .i64 m, .int .i64 n]] w (Gives w (.tuple #[.bool x, .int .i64 e]))) := fun w => by
    have := zhas_any a p0 p1 m n w fa w0 w1 wm wn
    rw [← hx] at this; exact this
  have C2 : Hid (∀ w, Calls Try.prog 38 #[.agg #[.int .i64 (b 0), .int .i64 (b 1), .int .i64 (b 2), .int .i64 (b 3), .int .i64 (b 4), .int .i64 (b 5)], .agg #[.int .i64 m, .int .i64 n, .int .i64 p2, .int .i64 p3]] w (Gives w (.tuple #[.bool y, .int .i64 f]))) := fun w => by
    have := zhas_any b m n p2 p3 w fb wm wn w2 w3
    rw [← hy] at this; exact this
  rw [← hx, ← hy]
  dsimp only
  clear hx hy fa fb w0 w1 w2 w3 wm wn
  unfold zoneV
  by_cases he : e = 0
  · subst he
    by_cases hf : f = 0
    · subst hf
      cases x <;> cases y
      all_goals
        go_enter Try.func88, Try.ntmps88
        go_wp2_with (fail)
        refine (C1.out _).mono ?_; rintro e w' ⟨rfl, q1, rfl⟩
        go_wp2_with (fail)
        refine (C2.out _).mono ?_; rintro e w' ⟨rfl, q2, rfl⟩
        go_wp2
        go_ret
        exact gives_bool (by simp) (by (repeat' (first | (with_reducible assumption) | (with_reducible exact Below.refl _ _) | (with_reducible refine below_wov ?_ ?_ _) | (with_reducible refine below_drewN ?_ _) | (with_reducible refine Below.drew ?_) | (with_reducible refine Below.alloc ?_ ?_ _) | (with_reducible refine Below.setCell ?_ ?_ _) | (with_reducible exact Nat.le_refl _) | omega | (simp only [World.size_alloc, World.size_setCell, World.size_drew, Wov_size, World.heap_drewN]; omega))))
    · have bf : (f == 0) = false := by rw [beq_eq_false_iff_ne]; exact hf
      rw [decide_eq_false hf]
      clear hf
      cases x <;> cases y
      all_goals
        go_enter Try.func88, Try.ntmps88
        go_wp2_with (fail)
        refine (C1.out _).mono ?_; rintro e w' ⟨rfl, q1, rfl⟩
        go_wp2_with (fail)
        refine (C2.out _).mono ?_; rintro e w' ⟨rfl, q2, rfl⟩
        go_wp2
        go_ret
        exact gives_bool (by simp) (by (repeat' (first | (with_reducible assumption) | (with_reducible exact Below.refl _ _) | (with_reducible refine below_wov ?_ ?_ _) | (with_reducible refine below_drewN ?_ _) | (with_reducible refine Below.drew ?_) | (with_reducible refine Below.alloc ?_ ?_ _) | (with_reducible refine Below.setCell ?_ ?_ _) | (with_reducible exact Nat.le_refl _) | omega | (simp only [World.size_alloc, World.size_setCell, World.size_drew, Wov_size, World.heap_drewN]; omega))))
  · have be : (e == 0) = false := by rw [beq_eq_false_iff_ne]; exact he
    rw [decide_eq_false he]
    clear he
    cases x <;> cases y
    all_goals
      go_enter Try.func88, Try.ntmps88
      go_wp2_with (fail)
      refine (C1.out _).mono ?_; rintro e w' ⟨rfl, q1, rfl⟩
      go_wp2_with (fail)
      refine (C2.out _).mono ?_; rintro e w' ⟨rfl, q2, rfl⟩
      go_wp2
      go_ret
      exact gives_bool (by simp) (by (repeat' (first | (with_reducible assumption) | (with_reducible exact Below.refl _ _) | (with_reducible refine below_wov ?_ ?_ _) | (with_reducible refine below_drewN ?_ _) | (with_reducible refine Below.drew ?_) | (with_reducible refine Below.alloc ?_ ?_ _) | (with_reducible refine Below.setCell ?_ ?_ _) | (with_reducible exact Nat.le_refl _) | omega | (simp only [World.size_alloc, World.size_setCell, World.size_drew, Wov_size, World.heap_drewN]; omega))))
end Go.Proofs.Ytbgbhfcnadjhdaa
