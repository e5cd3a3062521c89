/- Contracts of minus.other and minus.with. No condition but that numbers are of their kind. -/
import Derived.Test.YtbgbhfcnadjhdaaJ1
import Derived.Test.YtbgbhfcnadjhdaaH8
namespace Go.Proofs.Ytbgbhfcnadjhdaa
set_option linter.unusedSimpArgs false
set_option linter.unusedVariables false
open Go Go.RowKit Go.Shelf
attribute [local go_sem] Nat.add_assoc Nat.add_lt_add_iff_left lit_lt_add

set_option maxHeartbeats 1000000 in
theorem mother_any {t : Nat} (ht : t < 6) : Pure Try.prog 109 #[.int .i64 t] (.int .i64 (othZ t)) := by
  intro w
  rcases six ht with rfl | rfl | rfl | rfl | rfl | rfl
  all_goals
    go_enter Try.func109, Try.ntmps109
    go_wp2
    go_ret
    exact gives_int (by rfl) (by (repeat' (first | (with_reducible assumption) | (with_reducible exact Below.refl _ _) | (with_reducible refine below_wov ?_ ?_ _) | (with_reducible refine below_drewN ?_ _) | (with_reducible refine Below.drew ?_) | (with_reducible refine Below.alloc ?_ ?_ _) | (with_reducible refine Below.setCell ?_ ?_ _) | (with_reducible exact Nat.le_refl _) | omega | (simp only [World.size_alloc, World.size_setCell, World.size_drew, Wov_size, World.heap_drewN]; omega))))
theorem fits_with {z : Nat → Int} (hz : FitsZ z) (t : Nat) {b : Int} (hb : fits64 b) : FitsZ (upd z t (min (z t) b)) := by
  intro i hi
  unfold upd
  split
  · next e => subst e; have := hz i hi; unfold fits64 at *; omega
  · exact hz i hi

set_option maxRecDepth 10000 in
set_option maxHeartbeats 4000000 in
theorem mwith_any (z : Nat → Int) (t : Nat) (b : Int) (w : World) (ht : t < 6) (hz : FitsZ z) (hb : fits64 b) : Calls Try.prog 108 #[zoneV z, .int .i64 t, .int .i64 b] w (Gives w (zoneR (withZ z t b).1 (withZ z t b).2)) := by
  obtain ⟨y, hy⟩ : ∃ y, y = upd z t (min (z t) b) := ⟨_, rfl⟩
  have fy : FitsZ y := by rw [hy]; exact fits_with hz t hb
  have MX : Hid (∀ w, Calls Try.prog 47 #[.agg #[.int .i64 (y 0), .int .i64 (y 1), .int .i64 (y 2), .int .i64 (y 3), .int .i64 (y 4), .int .i64 (y 5)]] w (matC w (matZ y).n (matZ y).N (matZ y).f (matZ y).e)) := fun w => zmatrix_any y w fy
  have OF : Hid (∀ w p c, SlP w p 9 (zF y) → Calls Try.prog 33 #[.agg #[.int .i64 3, .slice p 9 c]] w (Gives w (zoneR (ofZ 3 9 (zF y)).1 (ofZ 3 9 (zF y)).2))) := fun w p c h => zof_any 3 p 9 c _ w (by decide) h (zF_fits fy) (by omega)
  have HW : withZ z t b = ofZ 3 9 (zF y) := by rw [hy]; rfl
  rw [HW]
  have HY : Hid (∀ i, y i = upd z t (min (z t) b) i) := fun i => by rw [hy]
  unfold zoneR zoneV at OF ⊢
  unfold matZ at MX
  clear hy fy hz hb HW
  obtain ⟨⟨r, e0⟩, hr⟩ : ∃ r, r = ofZ 3 9 (zF y) := ⟨_, rfl⟩
  have HK : Hid (okD 3 9 (zF y) = false → r = (fun _ => 0) ∧ e0 = 8) := fun h => by
    unfold ofZ at hr
    rw [h] at hr
    simpa using hr
  rw [← hr] at OF ⊢
  obtain ⟨F, hF⟩ : ∃ F, F = zF y := ⟨_, rfl⟩
  rw [← hF] at MX OF HK
  obtain ⟨k, hk⟩ : ∃ k, k = okD 3 9 F := ⟨_, rfl⟩
  rw [← hk] at MX HK
  clear hr hF hk
  by_cases hm : z t ≤ b
  · rcases six ht with rfl | rfl | rfl | rfl | rfl | rfl
    · skip
      have ee0 : y 0 = z 0 := by rw [HY.out 0]; show min (z 0) b = _; omega
      have e1 : y 1 = z 1 := HY.out 1
      have e2 : y 2 = z 2 := HY.out 2
      have e3 : y 3 = z 3 := HY.out 3
      have e4 : y 4 = z 4 := HY.out 4
      have e5 : y 5 = z 5 := HY.out 5
      rw [ee0, e1, e2, e3, e4, e5] at MX
      clear HY ee0 e1 e2 e3 e4 e5
      cases k
      · obtain ⟨rfl, rfl⟩ := HK.out rfl
        clear HK OF
        simp only [Bool.false_eq_true, if_false] at MX
        go_enter Try.func108, Try.ntmps108
        go_wp2_with (fail)
        all_goals
          refine (MX.out _).mono ?_; rintro e w' ⟨⟨p1, c1, rfl, ho⟩, q1, rfl⟩
          clear ho MX
          go_wp2
          go_returns
          exact gives_end rfl (by (repeat' (first | (with_reducible assumption) | (with_reducible exact Below.refl _ _) | (with_reducible refine below_wov ?_ ?_ _) | (with_reducible refine below_drewN ?_ _) | (with_reducible refine Below.drew ?_) | (with_reducible refine Below.alloc ?_ ?_ _) | (with_reducible refine Below.setCell ?_ ?_ _) | (with_reducible exact Nat.le_refl _) | omega | (simp only [World.size_alloc, World.size_setCell, World.size_drew, Wov_size, World.heap_drewN]; omega))))
      · clear HK
        simp only [if_true] at MX
        go_enter Try.func108, Try.ntmps108
        go_wp2_with (fail)
        all_goals
          refine (MX.out _).mono ?_; rintro e w' ⟨⟨p1, c1, rfl, ho⟩, q1, rfl⟩
          have t1 := ho.slp
          clear ho MX
          go_wp2_with (fail)
          refine (OF.out _ _ _ (t1.below (by (repeat' (first | (with_reducible assumption) | (with_reducible exact Below.refl _ _) | (with_reducible refine below_wov ?_ ?_ _) | (with_reducible refine below_drewN ?_ _) | (with_reducible refine Below.drew ?_) | (with_reducible refine Below.alloc ?_ ?_ _) | (with_reducible refine Below.setCell ?_ ?_ _) | (with_reducible exact Nat.le_refl _) | omega | (simp only [World.size_alloc, World.size_setCell, World.size_drew, Wov_size, World.heap_drewN]; omega)))))).mono ?_; rintro e w' ⟨rfl, q2, rfl⟩
          clear t1 OF
          go_wp2
          go_returns
          exact gives_end rfl (by (repeat' (first | (with_reducible assumption) | (with_reducible exact Below.refl _ _) | (with_reducible refine below_wov ?_ ?_ _) | (with_reducible refine below_drewN ?_ _) | (with_reducible refine Below.drew ?_) | (with_reducible refine Below.alloc ?_ ?_ _) | (with_reducible refine Below.setCell ?_ ?_ _) | (with_reducible exact Nat.le_refl _) | omega | (simp only [World.size_alloc, World.size_setCell, World.size_drew, Wov_size, World.heap_drewN]; omega))))
    · skip
      have ee0 : y 0 = z 0 := HY.out 0
      have e1 : y 1 = z 1 := by rw [HY.out 1]; show min (z 1) b = _; omega
      have e2 : y 2 = z 2 := HY.out 2
      have e3 : y 3 = z 3 := HY.out 3
      have e4 : y 4 = z 4 := HY.out 4
      have e5 : y 5 = z 5 := HY.out 5
      rw [ee0, e1, e2, e3, e4, e5] at MX
      clear HY ee0 e1 e2 e3 e4 e5
      cases k
      · obtain ⟨rfl, rfl⟩ := HK.out rfl
        clear HK OF
        simp only [Bool.false_eq_true, if_false] at MX
        go_enter Try.func108, Try.ntmps108
        go_wp2_with (fail)
        all_goals
          refine (MX.out _).mono ?_; rintro e w' ⟨⟨p1, c1, rfl, ho⟩, q1, rfl⟩
          clear ho MX
          go_wp2
          go_returns
          exact gives_end rfl (by (repeat' (first | (with_reducible assumption) | (with_reducible exact Below.refl _ _) | (with_reducible refine below_wov ?_ ?_ _) | (with_reducible refine below_drewN ?_ _) | (with_reducible refine Below.drew ?_) | (with_reducible refine Below.alloc ?_ ?_ _) | (with_reducible refine Below.setCell ?_ ?_ _) | (with_reducible exact Nat.le_refl _) | omega | (simp only [World.size_alloc, World.size_setCell, World.size_drew, Wov_size, World.heap_drewN]; omega))))
      · clear HK
        simp only [if_true] at MX
        go_enter Try.func108, Try.ntmps108
        go_wp2_with (fail)
        all_goals
          refine (MX.out _).mono ?_; rintro e w' ⟨⟨p1, c1, rfl, ho⟩, q1, rfl⟩
          have t1 := ho.slp
          clear ho MX
          go_wp2_with (fail)
          refine (OF.out _ _ _ (t1.below (by (repeat' (first | (with_reducible assumption) | (with_reducible exact Below.refl _ _) | (with_reducible refine below_wov ?_ ?_ _) | (with_reducible refine below_drewN ?_ _) | (with_reducible refine Below.drew ?_) | (with_reducible refine Below.alloc ?_ ?_ _) | (with_reducible refine Below.setCell ?_ ?_ _) | (with_reducible exact Nat.le_refl _) | omega | (simp only [World.size_alloc, World.size_setCell, World.size_drew, Wov_size, World.heap_drewN]; omega)))))).mono ?_; rintro e w' ⟨rfl, q2, rfl⟩
          clear t1 OF
          go_wp2
          go_returns
          exact gives_end rfl (by (repeat' (first | (with_reducible assumption) | (with_reducible exact Below.refl _ _) | (with_reducible refine below_wov ?_ ?_ _) | (with_reducible refine below_drewN ?_ _) | (with_reducible refine Below.drew ?_) | (with_reducible refine Below.alloc ?_ ?_ _) | (with_reducible refine Below.setCell ?_ ?_ _) | (with_reducible exact Nat.le_refl _) | omega | (simp only [World.size_alloc, World.size_setCell, World.size_drew, Wov_size, World.heap_drewN]; omega))))
    · skip
      have ee0 : y 0 = z 0 := HY.out 0
      have e1 : y 1 = z 1 := HY.out 1
      have e2 : y 2 = z 2 := by rw [HY.out 2]; show min (z 2) b = _; omega
      have e3 : y 3 = z 3 := HY.out 3
      have e4 : y 4 = z 4 := HY.out 4
      have e5 : y 5 = z 5 := HY.out 5
      rw [ee0, e1, e2, e3, e4, e5] at MX
      clear HY ee0 e1 e2 e3 e4 e5
      cases k
      · obtain ⟨rfl, rfl⟩ := HK.out rfl
        clear HK OF
        simp only [Bool.false_eq_true, if_false] at MX
        go_enter Try.func108, Try.ntmps108
        go_wp2_with (fail)
        all_goals
          refine (MX.out _).mono ?_; rintro e w' ⟨⟨p1, c1, rfl, ho⟩, q1, rfl⟩
          clear ho MX
          go_wp2
          go_returns
          exact gives_end rfl (by (repeat' (first | (with_reducible assumption) | (with_reducible exact Below.refl _ _) | (with_reducible refine below_wov ?_ ?_ _) | (with_reducible refine below_drewN ?_ _) | (with_reducible refine Below.drew ?_) | (with_reducible refine Below.alloc ?_ ?_ _) | (with_reducible refine Below.setCell ?_ ?_ _) | (with_reducible exact Nat.le_refl _) | omega | (simp only [World.size_alloc, World.size_setCell, World.size_drew, Wov_size, World.heap_drewN]; omega))))
      · clear HK
        simp only [if_true] at MX
        go_enter Try.func108, Try.ntmps108
        go_wp2_with (fail)
        all_goals
          refine (MX.out _).mono ?_; rintro e w' ⟨⟨p1, c1, rfl, ho⟩, q1, rfl⟩
          have t1 := ho.slp
          clear ho MX
          go_wp2_with (fail)
          refine (OF.out _ _ _ (t1.below (by (repeat' (first | (with_reducible assumption) | (with_reducible exact Below.refl _ _) | (with_reducible refine below_wov ?_ ?_ _) | (with_reducible refine below_drewN ?_ _) | (with_reducible refine Below.drew ?_) | (with_reducible refine Below.alloc ?_ ?_ _) | (with_reducible refine Below.setCell ?_ ?_ _) | (with_reducible exact Nat.le_refl _) | omega | (simp only [World.size_alloc, World.size_setCell, World.size_drew, Wov_size, World.heap_drewN]; omega)))))).mono ?_; rintro e w' ⟨rfl, q2, rfl⟩
          clear t1 OF
          go_wp2
          go_returns
          exact gives_end rfl (by (repeat' (first | (with_reducible assumption) | (with_reducible exact Below.refl _ _) | (with_reducible refine below_wov ?_ ?_ _) | (with_reducible refine below_drewN ?_ _) | (with_reducible refine Below.drew ?_) | (with_reducible refine Below.alloc ?_ ?_ _) | (with_reducible refine Below.setCell ?_ ?_ _) | (with_reducible exact Nat.le_refl _) | omega | (simp only [World.size_alloc, World.size_setCell, World.size_drew, Wov_size, World.heap_drewN]; omega))))
    · skip
      have ee0 : y 0 = z 0 := HY.out 0
      have e1 : y 1 = z 1 := HY.out 1
      have e2 : y 2 = z 2 := HY.out 2
      have e3 : y 3 = z 3 := by rw [HY.out 3]; show min (z 3) b = _; omega
      have e4 : y 4 = z 4 := HY.out 4
      have e5 : y 5 = z 5 := HY.out 5
      rw [ee0, e1, e2, e3, e4, e5] at MX
      clear HY ee0 e1 e2 e3 e4 e5
      cases k
      · obtain ⟨rfl, rfl⟩ := HK.out rfl
        clear HK OF
        simp only [Bool.false_eq_true, if_false] at MX
        go_enter Try.func108, Try.ntmps108
        go_wp2_with (fail)
        all_goals
          refine (MX.out _).mono ?_; rintro e w' ⟨⟨p1, c1, rfl, ho⟩, q1, rfl⟩
          clear ho MX
          go_wp2
          go_returns
          exact gives_end rfl (by (repeat' (first | (with_reducible assumption) | (with_reducible exact Below.refl _ _) | (with_reducible refine below_wov ?_ ?_ _) | (with_reducible refine below_drewN ?_ _) | (with_reducible refine Below.drew ?_) | (with_reducible refine Below.alloc ?_ ?_ _) | (with_reducible refine Below.setCell ?_ ?_ _) | (with_reducible exact Nat.le_refl _) | omega | (simp only [World.size_alloc, World.size_setCell, World.size_drew, Wov_size, World.heap_drewN]; omega))))
      · clear HK
        simp only [if_true] at MX
        go_enter Try.func108, Try.ntmps108
        go_wp2_with (fail)
        all_goals
          refine (MX.out _).mono ?_; rintro e w' ⟨⟨p1, c1, rfl, ho⟩, q1, rfl⟩
          have t1 := ho.slp
          clear ho MX
          go_wp2_with (fail)
          refine (OF.out _ _ _ (t1.below (by (repeat' (first | (with_reducible assumption) | (with_reducible exact Below.refl _ _) | (with_reducible refine below_wov ?_ ?_ _) | (with_reducible refine below_drewN ?_ _) | (with_reducible refine Below.drew ?_) | (with_reducible refine Below.alloc ?_ ?_ _) | (with_reducible refine Below.setCell ?_ ?_ _) | (with_reducible exact Nat.le_refl _) | omega | (simp only [World.size_alloc, World.size_setCell, World.size_drew, Wov_size, World.heap_drewN]; omega)))))).mono ?_; rintro e w' ⟨rfl, q2, rfl⟩
          clear t1 OF
          go_wp2
          go_returns
          exact gives_end rfl (by (repeat' (first | (with_reducible assumption) | (with_reducible exact Below.refl _ _) | (with_reducible refine below_wov ?_ ?_ _) | (with_reducible refine below_drewN ?_ _) | (with_reducible refine Below.drew ?_) | (with_reducible refine Below.alloc ?_ ?_ _) | (with_reducible refine Below.setCell ?_ ?_ _) | (with_reducible exact Nat.le_refl _) | omega | (simp only [World.size_alloc, World.size_setCell, World.size_drew, Wov_size, World.heap_drewN]; omega))))
    · skip
      have ee0 : y 0 = z 0 := HY.out 0
      have e1 : y 1 = z 1 := HY.out 1
      have e2 : y 2 = z 2 := HY.out 2
      have e3 : y 3 = z 3 := HY.out 3
      have e4 : y 4 = z 4 := by rw [HY.out 4]; show min (z 4) b = _; omega
      have e5 : y 5 = z 5 := HY.out 5
      rw [ee0, e1, e2, e3, e4, e5] at MX
      clear HY ee0 e1 e2 e3 e4 e5
      cases k
      · obtain ⟨rfl, rfl⟩ := HK.out rfl
        clear HK OF
        simp only [Bool.false_eq_true, if_false] at MX
        go_enter Try.func108, Try.ntmps108
        go_wp2_with (fail)
        all_goals
          refine (MX.out _).mono ?_; rintro e w' ⟨⟨p1, c1, rfl, ho⟩, q1, rfl⟩
          clear ho MX
          go_wp2
          go_returns
          exact gives_end rfl (by (repeat' (first | (with_reducible assumption) | (with_reducible exact Below.refl _ _) | (with_reducible refine below_wov ?_ ?_ _) | (with_reducible refine below_drewN ?_ _) | (with_reducible refine Below.drew ?_) | (with_reducible refine Below.alloc ?_ ?_ _) | (with_reducible refine Below.setCell ?_ ?_ _) | (with_reducible exact Nat.le_refl _) | omega | (simp only [World.size_alloc, World.size_setCell, World.size_drew, Wov_size, World.heap_drewN]; omega))))
      · clear HK
        simp only [if_true] at MX
        go_enter Try.func108, Try.ntmps108
        go_wp2_with (fail)
        all_goals
          refine (MX.out _).mono ?_; rintro e w' ⟨⟨p1, c1, rfl, ho⟩, q1, rfl⟩
          have t1 := ho.slp
          clear ho MX
          go_wp2_with (fail)
          refine (OF.out _ _ _ (t1.below (by (repeat' (first | (with_reducible assumption) | (with_reducible exact Below.refl _ _) | (with_reducible refine below_wov ?_ ?_ _) | (with_reducible refine below_drewN ?_ _) | (with_reducible refine Below.drew ?_) | (with_reducible refine Below.alloc ?_ ?_ _) | (with_reducible refine Below.setCell ?_ ?_ _) | (with_reducible exact Nat.le_refl _) | omega | (simp only [World.size_alloc, World.size_setCell, World.size_drew, Wov_size, World.heap_drewN]; omega)))))).mono ?_; rintro e w' ⟨rfl, q2, rfl⟩
          clear t1 OF
          go_wp2
          go_returns
          exact gives_end rfl (by (repeat' (first | (with_reducible assumption) | (with_reducible exact Below.refl _ _) | (with_reducible refine below_wov ?_ ?_ _) | (with_reducible refine below_drewN ?_ _) | (with_reducible refine Below.drew ?_) | (with_reducible refine Below.alloc ?_ ?_ _) | (with_reducible refine Below.setCell ?_ ?_ _) | (with_reducible exact Nat.le_refl _) | omega | (simp only [World.size_alloc, World.size_setCell, World.size_drew, Wov_size, World.heap_drewN]; omega))))
    · skip
      have ee0 : y 0 = z 0 := HY.out 0
      have e1 : y 1 = z 1 := HY.out 1
      have e2 : y 2 = z 2 := HY.out 2
      have e3 : y 3 = z 3 := HY.out 3
      have e4 : y 4 = z 4 := HY.out 4
      have e5 : y 5 = z 5 := by rw [HY.out 5]; show min (z 5) b = _; omega
      rw [ee0, e1, e2, e3, e4, e5] at MX
      clear HY ee0 e1 e2 e3 e4 e5
      cases k
      · obtain ⟨rfl, rfl⟩ := HK.out rfl
        clear HK OF
        simp only [Bool.false_eq_true, if_false] at MX
        go_enter Try.func108, Try.ntmps108
        go_wp2_with (fail)
        all_goals
          refine (MX.out _).mono ?_; rintro e w' ⟨⟨p1, c1, rfl, ho⟩, q1, rfl⟩
          clear ho MX
          go_wp2
          go_returns
          exact gives_end rfl (by (repeat' (first | (with_reducible assumption) | (with_reducible exact Below.refl _ _) | (with_reducible refine below_wov ?_ ?_ _) | (with_reducible refine below_drewN ?_ _) | (with_reducible refine Below.drew ?_) | (with_reducible refine Below.alloc ?_ ?_ _) | (with_reducible refine Below.setCell ?_ ?_ _) | (with_reducible exact Nat.le_refl _) | omega | (simp only [World.size_alloc, World.size_setCell, World.size_drew, Wov_size, World.heap_drewN]; omega))))
      · clear HK
        simp only [if_true] at MX
        go_enter Try.func108, Try.ntmps108
        go_wp2_with (fail)
        all_goals
          refine (MX.out _).mono ?_; rintro e w' ⟨⟨p1, c1, rfl, ho⟩, q1, rfl⟩
          have t1 := ho.slp
          clear ho MX
          go_wp2_with (fail)
          refine (OF.out _ _ _ (t1.below (by (repeat' (first | (with_reducible assumption) | (with_reducible exact Below.refl _ _) | (with_reducible refine below_wov ?_ ?_ _) | (with_reducible refine below_drewN ?_ _) | (with_reducible refine Below.drew ?_) | (with_reducible refine Below.alloc ?_ ?_ _) | (with_reducible refine Below.setCell ?_ ?_ _) | (with_reducible exact Nat.le_refl _) | omega | (simp only [World.size_alloc, World.size_setCell, World.size_drew, Wov_size, World.heap_drewN]; omega)))))).mono ?_; rintro e w' ⟨rfl, q2, rfl⟩
          clear t1 OF
          go_wp2
          go_returns
          exact gives_end rfl (by (repeat' (first | (with_reducible assumption) | (with_reducible exact Below.refl _ _) | (with_reducible refine below_wov ?_ ?_ _) | (with_reducible refine below_drewN ?_ _) | (with_reducible refine Below.drew ?_) | (with_reducible refine Below.alloc ?_ ?_ _) | (with_reducible refine Below.setCell ?_ ?_ _) | (with_reducible exact Nat.le_refl _) | omega | (simp only [World.size_alloc, World.size_setCell, World.size_drew, Wov_size, World.heap_drewN]; omega))))
  · rcases six ht with rfl | rfl | rfl | rfl | rfl | rfl
    · skip
      have ee0 : y 0 = b := by rw [HY.out 0]; show min (z 0) b = _; omega
      have e1 : y 1 = z 1 := HY.out 1
      have e2 : y 2 = z 2 := HY.out 2
      have e3 : y 3 = z 3 := HY.out 3
      have e4 : y 4 = z 4 := HY.out 4
      have e5 : y 5 = z 5 := HY.out 5
      rw [ee0, e1, e2, e3, e4, e5] at MX
      clear HY ee0 e1 e2 e3 e4 e5
      cases k
      · obtain ⟨rfl, rfl⟩ := HK.out rfl
        clear HK OF
        simp only [Bool.false_eq_true, if_false] at MX
        go_enter Try.func108, Try.ntmps108
        go_wp2_with (fail)
        all_goals
          refine (MX.out _).mono ?_; rintro e w' ⟨⟨p1, c1, rfl, ho⟩, q1, rfl⟩
          clear ho MX
          go_wp2
          go_returns
          exact gives_end rfl (by (repeat' (first | (with_reducible assumption) | (with_reducible exact Below.refl _ _) | (with_reducible refine below_wov ?_ ?_ _) | (with_reducible refine below_drewN ?_ _) | (with_reducible refine Below.drew ?_) | (with_reducible refine Below.alloc ?_ ?_ _) | (with_reducible refine Below.setCell ?_ ?_ _) | (with_reducible exact Nat.le_refl _) | omega | (simp only [World.size_alloc, World.size_setCell, World.size_drew, Wov_size, World.heap_drewN]; omega))))
      · clear HK
        simp only [if_true] at MX
        go_enter Try.func108, Try.ntmps108
        go_wp2_with (fail)
        all_goals
          refine (MX.out _).mono ?_; rintro e w' ⟨⟨p1, c1, rfl, ho⟩, q1, rfl⟩
          have t1 := ho.slp
          clear ho MX
          go_wp2_with (fail)
          refine (OF.out _ _ _ (t1.below (by (repeat' (first | (with_reducible assumption) | (with_reducible exact Below.refl _ _) | (with_reducible refine below_wov ?_ ?_ _) | (with_reducible refine below_drewN ?_ _) | (with_reducible refine Below.drew ?_) | (with_reducible refine Below.alloc ?_ ?_ _) | (with_reducible refine Below.setCell ?_ ?_ _) | (with_reducible exact Nat.le_refl _) | omega | (simp only [World.size_alloc, World.size_setCell, World.size_drew, Wov_size, World.heap_drewN]; omega)))))).mono ?_; rintro e w' ⟨rfl, q2, rfl⟩
          clear t1 OF
          go_wp2
          go_returns
          exact gives_end rfl (by (repeat' (first | (with_reducible assumption) | (with_reducible exact Below.refl _ _) | (with_reducible refine below_wov ?_ ?_ _) | (with_reducible refine below_drewN ?_ _) | (with_reducible refine Below.drew ?_) | (with_reducible refine Below.alloc ?_ ?_ _) | (with_reducible refine Below.setCell ?_ ?_ _) | (with_reducible exact Nat.le_refl _) | omega | (simp only [World.size_alloc, World.size_setCell, World.size_drew, Wov_size, World.heap_drewN]; omega))))
    · skip
      have ee0 : y 0 = z 0 := HY.out 0
      have e1 : y 1 = b := by rw [HY.out 1]; show min (z 1) b = _; omega
      have e2 : y 2 = z 2 := HY.out 2
      have e3 : y 3 = z 3 := HY.out 3
      have e4 : y 4 = z 4 := HY.out 4
      have e5 : y 5 = z 5 := HY.out 5
      rw [ee0, e1, e2, e3, e4, e5] at MX
      clear HY ee0 e1 e2 e3 e4 e5
      cases k
      · obtain ⟨rfl, rfl⟩ := HK.out rfl
        clear HK OF
        simp only [Bool.false_eq_true, if_false] at MX
        go_enter Try.func108, Try.ntmps108
        go_wp2_with (fail)
        all_goals
          refine (MX.out _).mono ?_; rintro e w' ⟨⟨p1, c1, rfl, ho⟩, q1, rfl⟩
          clear ho MX
          go_wp2
          go_returns
          exact gives_end rfl (by (repeat' (first | (with_reducible assumption) | (with_reducible exact Below.refl _ _) | (with_reducible refine below_wov ?_ ?_ _) | (with_reducible refine below_drewN ?_ _) | (with_reducible refine Below.drew ?_) | (with_reducible refine Below.alloc ?_ ?_ _) | (with_reducible refine Below.setCell ?_ ?_ _) | (with_reducible exact Nat.le_refl _) | omega | (simp only [World.size_alloc, World.size_setCell, World.size_drew, Wov_size, World.heap_drewN]; omega))))
      · clear HK
        simp only [if_true] at MX
        go_enter Try.func108, Try.ntmps108
        go_wp2_with (fail)
        all_goals
          refine (MX.out _).mono ?_; rintro e w' ⟨⟨p1, c1, rfl, ho⟩, q1, rfl⟩
          have t1 := ho.slp
          clear ho MX
          go_wp2_with (fail)
          refine (OF.out _ _ _ (t1.below (by (repeat' (first | (with_reducible assumption) | (with_reducible exact Below.refl _ _) | (with_reducible refine below_wov ?_ ?_ _) | (with_reducible refine below_drewN ?_ _) | (with_reducible refine Below.drew ?_) | (with_reducible refine Below.alloc ?_ ?_ _) | (with_reducible refine Below.setCell ?_ ?_ _) | (with_reducible exact Nat.le_refl _) | omega | (simp only [World.size_alloc, World.size_setCell, World.size_drew, Wov_size, World.heap_drewN]; omega)))))).mono ?_; rintro e w' ⟨rfl, q2, rfl⟩
          clear t1 OF
          go_wp2
          go_returns
          exact gives_end rfl (by (repeat' (first | (with_reducible assumption) | (with_reducible exact Below.refl _ _) | (with_reducible refine below_wov ?_ ?_ _) | (with_reducible refine below_drewN ?_ _) | (with_reducible refine Below.drew ?_) | (with_reducible refine Below.alloc ?_ ?_ _) | (with_reducible refine Below.setCell ?_ ?_ _) | (with_reducible exact Nat.le_refl _) | omega | (simp only [World.size_alloc, World.size_setCell, World.size_drew, Wov_size, World.heap_drewN]; omega))))
    · skip
      have ee0 : y 0 = z 0 := HY.out 0
      have e1 : y 1 = z 1 := HY.out 1
      have e2 : y 2 = b := by rw [HY.out 2]; show min (z 2) b = _; omega
      have e3 : y 3 = z 3 := HY.out 3
      have e4 : y 4 = z 4 := HY.out 4
      have e5 : y 5 = z 5 := HY.out 5
      rw [ee0, e1, e2, e3, e4, e5] at MX
      clear HY ee0 e1 e2 e3 e4 e5
      cases k
      · obtain ⟨rfl, rfl⟩ := HK.out rfl
        clear HK OF
        simp only [Bool.false_eq_true, if_false] at MX
        go_enter Try.func108, Try.ntmps108
        go_wp2_with (fail)
        all_goals
          refine (MX.out _).mono ?_; rintro e w' ⟨⟨p1, c1, rfl, ho⟩, q1, rfl⟩
          clear ho MX
          go_wp2
          go_returns
          exact gives_end rfl (by (repeat' (first | (with_reducible assumption) | (with_reducible exact Below.refl _ _) | (with_reducible refine below_wov ?_ ?_ _) | (with_reducible refine below_drewN ?_ _) | (with_reducible refine Below.drew ?_) | (with_reducible refine Below.alloc ?_ ?_ _) | (with_reducible refine Below.setCell ?_ ?_ _) | (with_reducible exact Nat.le_refl _) | omega | (simp only [World.size_alloc, World.size_setCell, World.size_drew, Wov_size, World.heap_drewN]; omega))))
      · clear HK
        simp only [if_true] at MX
        go_enter Try.func108, Try.ntmps108
        go_wp2_with (fail)
        all_goals
          refine (MX.out _).mono ?_; rintro e w' ⟨⟨p1, c1, rfl, ho⟩, q1, rfl⟩
          have t1 := ho.slp
          clear ho MX
          go_wp2_with (fail)
          refine (OF.out _ _ _ (t1.below (by (repeat' (first | (with_reducible assumption) | (with_reducible exact Below.refl _ _) | (with_reducible refine below_wov ?_ ?_ _) | (with_reducible refine below_drewN ?_ _) | (with_reducible refine Below.drew ?_) | (with_reducible refine Below.alloc ?_ ?_ _) | (with_reducible refine Below.setCell ?_ ?_ _) | (with_reducible exact Nat.le_refl _) | omega | (simp only [World.size_alloc, World.size_setCell, World.size_drew, Wov_size, World.heap_drewN]; omega)))))).mono ?_; rintro e w' ⟨rfl, q2, rfl⟩
          clear t1 OF
          go_wp2
          go_returns
          exact gives_end rfl (by (repeat' (first | (with_reducible assumption) | (with_reducible exact Below.refl _ _) | (with_reducible refine below_wov ?_ ?_ _) | (with_reducible refine below_drewN ?_ _) | (with_reducible refine Below.drew ?_) | (with_reducible refine Below.alloc ?_ ?_ _) | (with_reducible refine Below.setCell ?_ ?_ _) | (with_reducible exact Nat.le_refl _) | omega | (simp only [World.size_alloc, World.size_setCell, World.size_drew, Wov_size, World.heap_drewN]; omega))))
    · skip
      have ee0 : y 0 = z 0 := HY.out 0
      have e1 : y 1 = z 1 := HY.out 1
      have e2 : y 2 = z 2 := HY.out 2
      have e3 : y 3 = b := by rw [HY.out 3]; show min (z 3) b = _; omega
      have e4 : y 4 = z 4 := HY.out 4
      have e5 : y 5 = z 5 := HY.out 5
      rw [ee0, e1, e2, e3, e4, e5] at MX
      clear HY ee0 e1 e2 e3 e4 e5
      cases k
      · obtain ⟨rfl, rfl⟩ := HK.out rfl
        clear HK OF
        simp only [Bool.false_eq_true, if_false] at MX
        go_enter Try.func108, Try.ntmps108
        go_wp2_with (fail)
        all_goals
          refine (MX.out _).mono ?_; rintro e w' ⟨⟨p1, c1, rfl, ho⟩, q1, rfl⟩
          clear ho MX
          go_wp2
          go_returns
          exact gives_end rfl (by (repeat' (first | (with_reducible assumption) | (with_reducible exact Below.refl _ _) | (with_reducible refine below_wov ?_ ?_ _) | (with_reducible refine below_drewN ?_ _) | (with_reducible refine Below.drew ?_) | (with_reducible refine Below.alloc ?_ ?_ _) | (with_reducible refine Below.setCell ?_ ?_ _) | (with_reducible exact Nat.le_refl _) | omega | (simp only [World.size_alloc, World.size_setCell, World.size_drew, Wov_size, World.heap_drewN]; omega))))
      · clear HK
        simp only [if_true] at MX
        go_enter Try.func108, Try.ntmps108
        go_wp2_with (fail)
        all_goals
          refine (MX.out _).mono ?_; rintro e w' ⟨⟨p1, c1, rfl, ho⟩, q1, rfl⟩
          have t1 := ho.slp
          clear ho MX
          go_wp2_with (fail)
          refine (OF.out _ _ _ (t1.below (by (repeat' (first | (with_reducible assumption) | (with_reducible exact Below.refl _ _) | (with_reducible refine below_wov ?_ ?_ _) | (with_reducible refine below_drewN ?_ _) | (with_reducible refine Below.drew ?_) | (with_reducible refine Below.alloc ?_ ?_ _) | (with_reducible refine Below.setCell ?_ ?_ _) | (with_reducible exact Nat.le_refl _) | omega | (simp only [World.size_alloc, World.size_setCell, World.size_drew, Wov_size, World.heap_drewN]; omega)))))).mono ?_; rintro e w' ⟨rfl, q2, rfl⟩
          clear t1 OF
          go_wp2
          go_returns
          exact gives_end rfl (by (repeat' (first | (with_reducible assumption) | (with_reducible exact Below.refl _ _) | (with_reducible refine below_wov ?_ ?_ _) | (with_reducible refine below_drewN ?_ _) | (with_reducible refine Below.drew ?_) | (with_reducible refine Below.alloc ?_ ?_ _) | (with_reducible refine Below.setCell ?_ ?_ _) | (with_reducible exact Nat.le_refl _) | omega | (simp only [World.size_alloc, World.size_setCell, World.size_drew, Wov_size, World.heap_drewN]; omega))))
    · skip
      have ee0 : y 0 = z 0 := HY.out 0
      have e1 : y 1 = z 1 := HY.out 1
      have e2 : y 2 = z 2 := HY.out 2
      have e3 : y 3 = z 3 := HY.out 3
      have e4 : y 4 = b := by rw [HY.out 4]; show min (z 4) b = _; omega
      have e5 : y 5 = z 5 := HY.out 5
      rw [ee0, e1, e2, e3, e4, e5] at MX
      clear HY ee0 e1 e2 e3 e4 e5
      cases k
      · obtain ⟨rfl, rfl⟩ := HK.out rfl
        clear HK OF
        simp only [Bool.false_eq_true, if_false] at MX
        go_enter Try.func108, Try.ntmps108
        go_wp2_with (fail)
        all_goals
          refine (MX.out _).mono ?_; rintro e w' ⟨⟨p1, c1, rfl, ho⟩, q1, rfl⟩
          clear ho MX
          go_wp2
          go_returns
          exact gives_end rfl (by (repeat' (first | (with_reducible assumption) | (with_reducible exact Below.refl _ _) | (with_reducible refine below_wov ?_ ?_ _) | (with_reducible refine below_drewN ?_ _) | (with_reducible refine Below.drew ?_) | (with_reducible refine Below.alloc ?_ ?_ _) | (with_reducible refine Below.setCell ?_ ?_ _) | (with_reducible exact Nat.le_refl _) | omega | (simp only [World.size_alloc, World.size_setCell, World.size_drew, Wov_size, World.heap_drewN]; omega))))
      · clear HK
        simp only [if_true] at MX
        go_enter Try.func108, Try.ntmps108
        go_wp2_with (fail)
        all_goals
          refine (MX.out _).mono ?_; rintro e w' ⟨⟨p1, c1, rfl, ho⟩, q1, rfl⟩
          have t1 := ho.slp
          clear ho MX
          go_wp2_with (fail)
          refine (OF.out _ _ _ (t1.below (by (repeat' (first | (with_reducible assumption) | (with_reducible exact Below.refl _ _) | (with_reducible refine below_wov ?_ ?_ _) | (with_reducible refine below_drewN ?_ _) | (with_reducible refine Below.drew ?_) | (with_reducible refine Below.alloc ?_ ?_ _) | (with_reducible refine Below.setCell ?_ ?_ _) | (with_reducible exact Nat.le_refl _) | omega | (simp only [World.size_alloc, World.size_setCell, World.size_drew, Wov_size, World.heap_drewN]; omega)))))).mono ?_; rintro e w' ⟨rfl, q2, rfl⟩
          clear t1 OF
          go_wp2
          go_returns
          exact gives_end rfl (by (repeat' (first | (with_reducible assumption) | (with_reducible exact Below.refl _ _) | (with_reducible refine below_wov ?_ ?_ _) | (with_reducible refine below_drewN ?_ _) | (with_reducible refine Below.drew ?_) | (with_reducible refine Below.alloc ?_ ?_ _) | (with_reducible refine Below.setCell ?_ ?_ _) | (with_reducible exact Nat.le_refl _) | omega | (simp only [World.size_alloc, World.size_setCell, World.size_drew, Wov_size, World.heap_drewN]; omega))))
    · skip
      have ee0 : y 0 = z 0 := HY.out 0
      have e1 : y 1 = z 1 := HY.out 1
      have e2 : y 2 = z 2 := HY.out 2
      have e3 : y 3 = z 3 := HY.out 3
      have e4 : y 4 = z 4 := HY.out 4
      have e5 : y 5 = b := by rw [HY.out 5]; show min (z 5) b = _; omega
      rw [ee0, e1, e2, e3, e4, e5] at MX
      clear HY ee0 e1 e2 e3 e4 e5
      cases k
      · obtain ⟨rfl, rfl⟩ := HK.out rfl
        clear HK OF
        simp only [Bool.false_eq_true, if_false] at MX
        go_enter Try.func108, Try.ntmps108
        go_wp2_with (fail)
        all_goals
          refine (MX.out _).mono ?_; rintro e w' ⟨⟨p1, c1, rfl, ho⟩, q1, rfl⟩
          clear ho MX
          go_wp2
          go_returns
          exact gives_end rfl (by (repeat' (first | (with_reducible assumption) | (with_reducible exact Below.refl _ _) | (with_reducible refine below_wov ?_ ?_ _) | (with_reducible refine below_drewN ?_ _) | (with_reducible refine Below.drew ?_) | (with_reducible refine Below.alloc ?_ ?_ _) | (with_reducible refine Below.setCell ?_ ?_ _) | (with_reducible exact Nat.le_refl _) | omega | (simp only [World.size_alloc, World.size_setCell, World.size_drew, Wov_size, World.heap_drewN]; omega))))
      · clear HK
        simp only [if_true] at MX
        go_enter Try.func108, Try.ntmps108
        go_wp2_with (fail)
        all_goals
          refine (MX.out _).mono ?_; rintro e w' ⟨⟨p1, c1, rfl, ho⟩, q1, rfl⟩
          have t1 := ho.slp
          clear ho MX
          go_wp2_with (fail)
          refine (OF.out _ _ _ (t1.below (by (repeat' (first | (with_reducible assumption) | (with_reducible exact Below.refl _ _) | (with_reducible refine below_wov ?_ ?_ _) | (with_reducible refine below_drewN ?_ _) | (with_reducible refine Below.drew ?_) | (with_reducible refine Below.alloc ?_ ?_ _) | (with_reducible refine Below.setCell ?_ ?_ _) | (with_reducible exact Nat.le_refl _) | omega | (simp only [World.size_alloc, World.size_setCell, World.size_drew, Wov_size, World.heap_drewN]; omega)))))).mono ?_; rintro e w' ⟨rfl, q2, rfl⟩
          clear t1 OF
          go_wp2
          go_returns
          exact gives_end rfl (by (repeat' (first | (with_reducible assumption) | (with_reducible exact Below.refl _ _) | (with_reducible refine below_wov ?_ ?_ _) | (with_reducible refine below_drewN ?_ _) | (with_reducible refine Below.drew ?_) | (with_reducible refine Below.alloc ?_ ?_ _) | (with_reducible refine Below.setCell ?_ ?_ _) | (with_reducible exact Nat.le_refl _) | omega | (simp only [World.size_alloc, World.size_setCell, World.size_drew, Wov_size, World.heap_drewN]; omega))))
end Go.Proofs.Ytbgbhfcnadjhdaa
