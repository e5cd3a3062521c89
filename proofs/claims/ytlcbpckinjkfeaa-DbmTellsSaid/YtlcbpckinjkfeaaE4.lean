/- Contracts of tight's fits, clock and Set. -/
import Derived.Test.YtlcbpckinjkfeaaE3
namespace Go.Proofs.Ytlcbpckinjkfeaa
set_option linter.unusedSimpArgs false
set_option linter.unusedVariables false
open Go Go.RowKit Go.Shelf
attribute [local go_sem] Nat.add_assoc Nat.add_lt_add_iff_left lit_lt_add

set_option maxRecDepth 10000 in
set_option maxHeartbeats 1000000 in
theorem clock_any (n i : Int) (p : Option Addr) (N cap : Nat) (w : World) :
    Calls Try.prog 99 #[.agg #[.int .i64 n, .slice p N cap], .int .i64 i] w (Gives w (.bool (decide (0 ≤ i ∧ i < n)))) := by
  by_cases h1 : 0 ≤ i
  · by_cases h2 : i < n
    · have R : Hid (decide (0 ≤ i ∧ i < n) = true) := by show _ = _; simp [h1, h2]
      go_enter Try.func99, Try.ntmps99
      go_wp2
      go_ret
      exact gives_bool (by first | rfl | exact R.out.symm) (by (repeat' (first | (with_reducible assumption) | (with_reducible exact Below.refl _ _) | (with_reducible refine below_wov ?_ ?_ _) | (with_reducible refine below_drewN ?_ _) | (with_reducible refine Below.drew ?_) | (with_reducible refine Below.alloc ?_ ?_ _) | (with_reducible refine Below.setCell ?_ ?_ _) | (with_reducible exact Nat.le_refl _) | omega | (simp only [World.size_alloc, World.size_setCell, World.size_drew, Wov_size, World.heap_drewN]; omega))))
    · have R : Hid (decide (0 ≤ i ∧ i < n) = false) := by show _ = _; simp [h2]
      have e2 : decide (i < n) = false := by simp; omega
      go_enter Try.func99, Try.ntmps99
      go_wp2
      go_ret
      exact gives_bool (by first | rfl | exact R.out.symm) (by (repeat' (first | (with_reducible assumption) | (with_reducible exact Below.refl _ _) | (with_reducible refine below_wov ?_ ?_ _) | (with_reducible refine below_drewN ?_ _) | (with_reducible refine Below.drew ?_) | (with_reducible refine Below.alloc ?_ ?_ _) | (with_reducible refine Below.setCell ?_ ?_ _) | (with_reducible exact Nat.le_refl _) | omega | (simp only [World.size_alloc, World.size_setCell, World.size_drew, Wov_size, World.heap_drewN]; omega))))
  · have R : Hid (decide (0 ≤ i ∧ i < n) = false) := by show _ = _; simp [h1]
    have e1 : decide (0 ≤ i) = false := by simp; omega
    go_enter Try.func99, Try.ntmps99
    go_wp2
    all_goals
      go_ret
      exact gives_bool (by first | rfl | exact R.out.symm) (by (repeat' (first | (with_reducible assumption) | (with_reducible exact Below.refl _ _) | (with_reducible refine below_wov ?_ ?_ _) | (with_reducible refine below_drewN ?_ _) | (with_reducible refine Below.drew ?_) | (with_reducible refine Below.alloc ?_ ?_ _) | (with_reducible refine Below.setCell ?_ ?_ _) | (with_reducible exact Nat.le_refl _) | omega | (simp only [World.size_alloc, World.size_setCell, World.size_drew, Wov_size, World.heap_drewN]; omega))))

theorem okD_one (b : Int) : okD 1 1 (fun _ => b) = mayB b := by simp [okD, allMay]

set_option maxRecDepth 10000 in
set_option maxHeartbeats 1000000 in
theorem tfits_any (b : Int) (hb : fits64 b) (w : World) : Calls Try.prog 100 #[.int .i64 b] w (Gives w (.bool (mayB b))) := by
  have CK : Hid (∀ W B, W.cell? ⟨B, 0, none⟩ = some (.int .i64 b) → B < W.heap.size → Calls Try.prog 35 #[.agg #[.int .i64 1, .slice (some ⟨B, 0, none⟩) 1 1]] W (Gives W (.int .i64 (rcode (mayB b))))) := fun W B h hB => by
    have hs : SlP W (some ⟨B, 0, none⟩) 1 (fun _ => b) := .inr ⟨B, 0, rfl, hB, fun x hx => by
      obtain rfl : x = 0 := by omega
      exact h⟩
    have := dbmCheck_any 1 (some ⟨B, 0, none⟩) 1 1 (fun _ => b) W (by decide) hs (fun x hx => hb) (by omega)
    rwa [okD_one] at this
  obtain ⟨s, hs⟩ : ∃ s, s = mayB b := ⟨_, rfl⟩
  rw [← hs] at CK ⊢
  clear hs hb
  cases s
  all_goals
    simp only [rcode, if_true, Bool.false_eq_true, if_false] at CK
    go_enter Try.func100, Try.ntmps100
    go_wp2_with (fail)
    refine (CK.out _ _ (by simp [go_sem]) (by simp)).mono ?_; rintro e w' ⟨rfl, p, rfl⟩
    go_wp2
    go_ret
    exact gives_bool rfl (by (repeat' (first | (with_reducible assumption) | (with_reducible exact Below.refl _ _) | (with_reducible refine below_wov ?_ ?_ _) | (with_reducible refine below_drewN ?_ _) | (with_reducible refine Below.drew ?_) | (with_reducible refine Below.alloc ?_ ?_ _) | (with_reducible refine Below.setCell ?_ ?_ _) | (with_reducible exact Nat.le_refl _) | omega | (simp only [World.size_alloc, World.size_setCell, World.size_drew, Wov_size, World.heap_drewN]; omega))))

set_option maxRecDepth 10000 in
set_option maxHeartbeats 4000000 in
theorem set_any (n : Int) (p : Option Addr) (N cap : Nat) (f : Nat → Int) (i j b : Int) (w : World) (hn : fits64 n) (hS : SlP w p N f) (hF : Fits N f) (hN : N ≤ 1000000) (hb : fits64 b) :
    Calls Try.prog 39 #[.agg #[.int .i64 n, .slice p N cap], .int .i64 i, .int .i64 j, .int .i64 b] w (matC w (setM n N f i j b).n (setM n N f i j b).N (setM n N f i j b).f (setM n N f i j b).e) := by
  have CK : Hid (∀ w', Below w.heap.size w w' → Calls Try.prog 35 #[.agg #[.int .i64 n, .slice p N cap]] w' (Gives w' (.int .i64 (rcode (okD n N f))))) := fun w' hb =>
    dbmCheck_any n p N cap f w' hn (hS.below hb) hF (by omega)
  have KI := Lib.hid (fun w' => clock_any n i p N cap w')
  have KJ := Lib.hid (fun w' => clock_any n j p N cap w')
  have FT := Lib.hid (fun w' => tfits_any b hb w')
  obtain ⟨r, hr⟩ : ∃ r, r = setM n N f i j b := ⟨_, rfl⟩
  rw [← hr]
  unfold setM at hr
  cases hok : okD n N f
  · have R : Hid (r = errM 8) := by show _ = _; rw [hr, hok]; rfl
    rw [hok] at CK
    simp only [rcode, if_true, Bool.false_eq_true, if_false] at CK
    clear hr hok hS hF KI KJ FT
    go_enter Try.func39, Try.ntmps39
    go_wp2_with (fail)
    refine (CK.out _ (by (repeat' (first | (with_reducible assumption) | (with_reducible exact Below.refl _ _) | (with_reducible refine below_wov ?_ ?_ _) | (with_reducible refine below_drewN ?_ _) | (with_reducible refine Below.drew ?_) | (with_reducible refine Below.alloc ?_ ?_ _) | (with_reducible refine Below.setCell ?_ ?_ _) | (with_reducible exact Nat.le_refl _) | omega | (simp only [World.size_alloc, World.size_setCell, World.size_drew, Wov_size, World.heap_drewN]; omega))))).mono ?_; rintro e w' ⟨rfl, p1, rfl⟩
    go_wp2
    go_returns
    rw [R.out]
    exact matC_err rfl (by (repeat' (first | (with_reducible assumption) | (with_reducible exact Below.refl _ _) | (with_reducible refine below_wov ?_ ?_ _) | (with_reducible refine below_drewN ?_ _) | (with_reducible refine Below.drew ?_) | (with_reducible refine Below.alloc ?_ ?_ _) | (with_reducible refine Below.setCell ?_ ?_ _) | (with_reducible exact Nat.le_refl _) | omega | (simp only [World.size_alloc, World.size_setCell, World.size_drew, Wov_size, World.heap_drewN]; omega))))
  · rw [hok] at CK
    rw [hok, if_pos rfl] at hr
    simp only [rcode, if_true, Bool.false_eq_true, if_false] at CK
    by_cases hi : 0 ≤ i ∧ i < n
    · rw [decide_eq_true hi] at KI
      by_cases hj : 0 ≤ j ∧ j < n
      · rw [decide_eq_true hj] at KJ
        rw [if_pos ⟨hi.1, hi.2, hj.1, hj.2⟩] at hr
        cases hm : mayB b
        · have R : Hid (r = errM 8) := by show _ = _; rw [hr, hm]; rfl
          rw [hm] at FT
          clear hr hok hS hF hm hi hj
          go_enter Try.func39, Try.ntmps39
          go_wp2_with (fail)
          refine (CK.out _ (by (repeat' (first | (with_reducible assumption) | (with_reducible exact Below.refl _ _) | (with_reducible refine below_wov ?_ ?_ _) | (with_reducible refine below_drewN ?_ _) | (with_reducible refine Below.drew ?_) | (with_reducible refine Below.alloc ?_ ?_ _) | (with_reducible refine Below.setCell ?_ ?_ _) | (with_reducible exact Nat.le_refl _) | omega | (simp only [World.size_alloc, World.size_setCell, World.size_drew, Wov_size, World.heap_drewN]; omega))))).mono ?_; rintro e w' ⟨rfl, p1, rfl⟩
          go_wp2_with (fail)
          refine (KI.out _).mono ?_; rintro e w' ⟨rfl, p2, rfl⟩
          go_wp2_with (fail)
          refine (KJ.out _).mono ?_; rintro e w' ⟨rfl, p3, rfl⟩
          go_wp2_with (fail)
          refine (FT.out _).mono ?_; rintro e w' ⟨rfl, p4, rfl⟩
          go_wp2
          go_returns
          rw [R.out]
          exact matC_err rfl (by (repeat' (first | (with_reducible assumption) | (with_reducible exact Below.refl _ _) | (with_reducible refine below_wov ?_ ?_ _) | (with_reducible refine below_drewN ?_ _) | (with_reducible refine Below.drew ?_) | (with_reducible refine Below.alloc ?_ ?_ _) | (with_reducible refine Below.setCell ?_ ?_ _) | (with_reducible exact Nat.le_refl _) | omega | (simp only [World.size_alloc, World.size_setCell, World.size_drew, Wov_size, World.heap_drewN]; omega))))
        · rw [hm, if_pos rfl] at hr
          rw [hm] at FT
          obtain ⟨m, rfl, rfl, hm0, hm4⟩ := okD_form hok
          obtain ⟨a, rfl⟩ : ∃ a : Nat, i = (a : Int) := ⟨i.toNat, by omega⟩
          obtain ⟨c, rfl⟩ : ∃ c : Nat, j = (c : Int) := ⟨j.toNat, by omega⟩
          have hlt := place_lt (n := m) (i := a) (j := c) (by omega) (by omega)
          have hmm : m * m ≤ 4 * 4 := Nat.mul_le_mul hm4 hm4
          obtain ⟨q, hq⟩ : ∃ q : Nat, q = a * m := ⟨_, rfl⟩
          have hqm : (a : Int) * (m : Int) = (q : Int) := by rw [hq]; push_cast; rfl
          have hnat : ((a : Int) * (m : Int) + (c : Int)).toNat = q + c := by rw [hqm]; omega
          rw [hnat] at hr
          rw [← hq] at hlt
          have h2 : IntKind.i64.wrap ((q : Int) + (c : Int)) = (q : Int) + (c : Int) := by rw [IntKind.wrap_i64]; omega
          have h3 : IntKind.i64.wrap (q : Int) = (q : Int) := by rw [IntKind.wrap_i64]; omega
          have h4 : (q : Int) + (c : Int) = ((q + c : Nat) : Int) := by push_cast; rfl
          have WT : Hid (∀ W B, Below w.heap.size w W → W.cell? ⟨B, 0, none⟩ = some (.int .i64 ((q : Int) + (c : Int))) → W.cell? ⟨B, 1, none⟩ = some (.int .i64 b) → B < W.heap.size →
              Calls Try.prog 101 #[.agg #[.int .i64 m, .slice p (m * m) cap], .slice (some ⟨B, 0, none⟩) 1 1] W (matC W r.n r.N r.f r.e)) := fun W B hbw k0 k1 hB => by
            rw [hr]
            refine with_any m p (m * m) cap f (some ⟨B, 0, none⟩) 1 1 (fun _ => ((q : Int) + (c : Int), b)) _ W hn (hS.below hbw) hF (by omega) (by omega) (.inr ⟨B, 0, rfl, hB, fun x hx => by
                obtain rfl : x = 0 := by omega
                exact ⟨k0, k1⟩⟩) (by omega) (fun k hk => ⟨q + c, h4, hlt⟩) (fun x hx => ?_) (fun x hx => ?_)
            · show moreAt f ((q : Int) + (c : Int)).toNat b x = _
              rw [h4]; rfl
            · unfold moreAt upd
              split
              · rename_i e; subst e; exact fits_min (hF _ hlt) hb
              · exact hF x hx
          clear hr hok hS hF hm hi hj hnat h4 hq
          go_enter Try.func39, Try.ntmps39
          go_wp2_with (fail)
          refine (CK.out _ (by (repeat' (first | (with_reducible assumption) | (with_reducible exact Below.refl _ _) | (with_reducible refine below_wov ?_ ?_ _) | (with_reducible refine below_drewN ?_ _) | (with_reducible refine Below.drew ?_) | (with_reducible refine Below.alloc ?_ ?_ _) | (with_reducible refine Below.setCell ?_ ?_ _) | (with_reducible exact Nat.le_refl _) | omega | (simp only [World.size_alloc, World.size_setCell, World.size_drew, Wov_size, World.heap_drewN]; omega))))).mono ?_; rintro e w' ⟨rfl, p1, rfl⟩
          go_wp2_with (fail)
          refine (KI.out _).mono ?_; rintro e w' ⟨rfl, p2, rfl⟩
          go_wp2_with (fail)
          refine (KJ.out _).mono ?_; rintro e w' ⟨rfl, p3, rfl⟩
          go_wp2_with (fail)
          refine (FT.out _).mono ?_; rintro e w' ⟨rfl, p4, rfl⟩
          go_wp2_with (fail)
          refine (WT.out _ _ (by (repeat' (first | (with_reducible assumption) | (with_reducible exact Below.refl _ _) | (with_reducible refine below_wov ?_ ?_ _) | (with_reducible refine below_drewN ?_ _) | (with_reducible refine Below.drew ?_) | (with_reducible refine Below.alloc ?_ ?_ _) | (with_reducible refine Below.setCell ?_ ?_ _) | (with_reducible exact Nat.le_refl _) | omega | (simp only [World.size_alloc, World.size_setCell, World.size_drew, Wov_size, World.heap_drewN]; omega)))) (by simp [go_sem]) (by simp [go_sem]) (by simp only [World.size_alloc, World.size_setCell, Wov_size, Array.size_append]; omega)).mono ?_; rintro e w' ⟨⟨p5, cap5, rfl, ho⟩, q5, rfl⟩
          have HO := Lib.hid ho
          clear ho
          go_wp2
          go_returns
          refine ⟨⟨p5, cap5, rfl, ?_⟩, Wov_of_below (by (repeat' (first | (with_reducible assumption) | (with_reducible exact Below.refl _ _) | (with_reducible refine below_wov ?_ ?_ _) | (with_reducible refine below_drewN ?_ _) | (with_reducible refine Below.drew ?_) | (with_reducible refine Below.alloc ?_ ?_ _) | (with_reducible refine Below.setCell ?_ ?_ _) | (with_reducible exact Nat.le_refl _) | omega | (simp only [World.size_alloc, World.size_setCell, World.size_drew, Wov_size, World.heap_drewN]; omega))))⟩
          exact (HO.out.chg (B := w.heap.size + 1) (by simp only [World.size_alloc, World.size_setCell, Wov_size, Array.size_append]; omega) ((Chg.set _ _ _ _).trans (Chg.set _ _ _ _))).later (by simp only [World.size_alloc, World.size_setCell, Wov_size, Array.size_append]; omega)
      · have R : Hid (r = errM 2) := by show _ = _; rw [hr, if_neg (fun h => hj ⟨h.2.2.1, h.2.2.2⟩)]
        rw [decide_eq_false hj] at KJ
        clear hr hok hS hF hi hj FT
        go_enter Try.func39, Try.ntmps39
        go_wp2_with (fail)
        refine (CK.out _ (by (repeat' (first | (with_reducible assumption) | (with_reducible exact Below.refl _ _) | (with_reducible refine below_wov ?_ ?_ _) | (with_reducible refine below_drewN ?_ _) | (with_reducible refine Below.drew ?_) | (with_reducible refine Below.alloc ?_ ?_ _) | (with_reducible refine Below.setCell ?_ ?_ _) | (with_reducible exact Nat.le_refl _) | omega | (simp only [World.size_alloc, World.size_setCell, World.size_drew, Wov_size, World.heap_drewN]; omega))))).mono ?_; rintro e w' ⟨rfl, p1, rfl⟩
        go_wp2_with (fail)
        refine (KI.out _).mono ?_; rintro e w' ⟨rfl, p2, rfl⟩
        go_wp2_with (fail)
        refine (KJ.out _).mono ?_; rintro e w' ⟨rfl, p3, rfl⟩
        go_wp2
        go_returns
        rw [R.out]
        exact matC_err rfl (by (repeat' (first | (with_reducible assumption) | (with_reducible exact Below.refl _ _) | (with_reducible refine below_wov ?_ ?_ _) | (with_reducible refine below_drewN ?_ _) | (with_reducible refine Below.drew ?_) | (with_reducible refine Below.alloc ?_ ?_ _) | (with_reducible refine Below.setCell ?_ ?_ _) | (with_reducible exact Nat.le_refl _) | omega | (simp only [World.size_alloc, World.size_setCell, World.size_drew, Wov_size, World.heap_drewN]; omega))))
    · have R : Hid (r = errM 2) := by show _ = _; rw [hr, if_neg (fun h => hi ⟨h.1, h.2.1⟩)]
      rw [decide_eq_false hi] at KI
      clear hr hok hS hF hi FT KJ
      go_enter Try.func39, Try.ntmps39
      go_wp2_with (fail)
      refine (CK.out _ (by (repeat' (first | (with_reducible assumption) | (with_reducible exact Below.refl _ _) | (with_reducible refine below_wov ?_ ?_ _) | (with_reducible refine below_drewN ?_ _) | (with_reducible refine Below.drew ?_) | (with_reducible refine Below.alloc ?_ ?_ _) | (with_reducible refine Below.setCell ?_ ?_ _) | (with_reducible exact Nat.le_refl _) | omega | (simp only [World.size_alloc, World.size_setCell, World.size_drew, Wov_size, World.heap_drewN]; omega))))).mono ?_; rintro e w' ⟨rfl, p1, rfl⟩
      go_wp2_with (fail)
      refine (KI.out _).mono ?_; rintro e w' ⟨rfl, p2, rfl⟩
      go_wp2
      go_returns
      rw [R.out]
      exact matC_err rfl (by (repeat' (first | (with_reducible assumption) | (with_reducible exact Below.refl _ _) | (with_reducible refine below_wov ?_ ?_ _) | (with_reducible refine below_drewN ?_ _) | (with_reducible refine Below.drew ?_) | (with_reducible refine Below.alloc ?_ ?_ _) | (with_reducible refine Below.setCell ?_ ?_ _) | (with_reducible exact Nat.le_refl _) | omega | (simp only [World.size_alloc, World.size_setCell, World.size_drew, Wov_size, World.heap_drewN]; omega))))
#print axioms set_any
end Go.Proofs.Ytlcbpckinjkfeaa
