/- The law RatSides: a difference keeps a bound just if the other way round it does not keep not the bound; whole numbers as chapter 2 has it. No condition. -/
import Derived.Test.YtlcbpckinjkfeaaLaw3
import Derived.Test.YtlcbpckinjkfeaaM6
import Derived.Test.YtlcbpckinjkfeaaRatS
namespace Go.Proofs.Ytlcbpckinjkfeaa.ratSides
open Go.ChangeShapes Go.WideShapes Go.ChangeAt Go.RowKit
set_option linter.unusedVariables false
set_option linter.unusedSimpArgs false
attribute [local go_sem] Nat.add_assoc Nat.add_lt_add_iff_left lit_lt_add

theorem bne0_t {e : Int} (h : e ≠ 0) : (e != 0) = true := by simp; omega

theorem not_ok {x : Int} (ox : okB x = true) (hx : x ≠ noneB) :
    notR x = (mkB (-(bnum x)) (!bstr x), 0) ∧ fits64 (mkB (-(bnum x)) (!bstr x)) ∧ okB (mkB (-(bnum x)) (!bstr x)) = true ∧ mkB (-(bnum x)) (!bstr x) ≠ noneB := by
  have hb := okB_num ox hx
  have e1 : bnum (mkB (-(bnum x)) (!bstr x)) = -(bnum x) := by unfold mkB bnum bstr; split <;> omega
  have ok : okN (-(bnum x)) = true := by unfold okN; simp; omega
  have hr : -4611686018427387904 ≤ mkB (-(bnum x)) (!bstr x) ∧ mkB (-(bnum x)) (!bstr x) ≤ 4611686018427387905 := by unfold mkB; split <;> omega
  refine ⟨by rw [notR, ox]; simp [hx, madeR, ok], by unfold fits64; omega, by unfold okB; rw [e1, ok, Bool.or_true], by unfold noneB; omega⟩

set_option maxRecDepth 10000 in
set_option maxHeartbeats 8000000 in
theorem walk (n1 d1 : Int) (wn1 : fits64 n1) (wd1 : fits64 d1) (n2 d2 : Int) (wn2 : fits64 n2) (wd2 : fits64 d2) (x : Int) (wx : (Lit.int .i64 x).wf = true) (w : World) :
    Calls Try.prog 3 #[.agg #[.int .i64 n1, .int .i64 d1], .agg #[.int .i64 n2, .int .i64 d2], .int .i64 x] w (Gives w (.bool true)) := by
  have wx := fits_of_wf wx
  have HA := Lib.hid alive3
  have C1 := Lib.hid (ratCmp_any n1 d1 n2 d2 wn1.1 wn1.2 wd1.1 wd1.2 wn2.1 wn2.2 wd2.1 wd2.2)
  have KX := Lib.hid (ratKeeps_any n1 d1 n2 d2 x wn1 wn2 wx)
  cases ho : (okRat n1 d1 && okRat n2 d2)
  · have c1 : cmpPR n1 d1 n2 d2 = (0, 8) := by rw [cmpPR, ho]; rfl
    have kx : keepsPR n1 d1 n2 d2 x = (false, 8) := by rw [keepsPR, ho]; rfl
    rw [c1] at C1
    rw [kx] at KX
    simp only [pair2, bpair] at C1 KX
    clear ho c1 kx wn1 wd1 wn2 wd2 wx
    go_enter Try.func3, Try.ntmps3
    go_wp2_with (fail)
    refine (HA.out _).mono ?_; rintro e w' ⟨rfl, p1, rfl⟩
    go_wp2_with (fail)
    refine (C1.out _).mono ?_; rintro e w' ⟨rfl, p2, rfl⟩
    go_wp2_with (fail)
    refine (KX.out _).mono ?_; rintro e w' ⟨rfl, p3, rfl⟩
    go_wp2
    go_ret
    exact gives_bool (by simp) (by (repeat' (first | (with_reducible assumption) | (with_reducible exact Below.refl _ _) | (with_reducible refine below_wov ?_ ?_ _) | (with_reducible refine below_drewN ?_ _) | (with_reducible refine Below.drew ?_) | (with_reducible refine Below.alloc ?_ ?_ _) | (with_reducible refine Below.setCell ?_ ?_ _) | (with_reducible exact Nat.le_refl _) | omega | (simp only [World.size_alloc, World.size_setCell, World.size_drew, Wov_size, World.heap_drewN]; omega))))
  · have o1 : okRat n1 d1 = true := by simp at ho; exact ho.1
    have o2 : okRat n2 d2 = true := by simp at ho; exact ho.2
    have c1 : cmpPR n1 d1 n2 d2 = (cmpR n1 d1 n2 d2, 0) := by rw [cmpPR, ho]; rfl
    have K1 := Lib.hid (ratKeeps_any n1 d1 n2 d2 1 wn1 wn2 (by unfold fits64; omega))
    have K0 := Lib.hid (ratKeeps_any n1 d1 n2 d2 0 wn1 wn2 (by unfold fits64; omega))
    rw [show keepsPR n1 d1 n2 d2 1 = (decide (cmpR n1 d1 n2 d2 ≤ 0), 0) from by rw [keepsPR, ho, keptB_one]; rfl] at K1
    rw [show keepsPR n1 d1 n2 d2 0 = (decide (cmpR n1 d1 n2 d2 < 0), 0) from by rw [keepsPR, ho, keptB_zero]; rfl] at K0
    have hc : cmpR n1 d1 n2 d2 = -1 ∨ cmpR n1 d1 n2 d2 = 0 ∨ cmpR n1 d1 n2 d2 = 1 := by unfold cmpR sgn3; (repeat' split) <;> simp
    have NX := Lib.hid (not_any x wx.1 wx.2)
    rw [c1] at C1
    obtain ⟨c, hcc⟩ : ∃ c, c = cmpR n1 d1 n2 d2 := ⟨_, rfl⟩
    rw [← hcc] at C1 K1 K0 hc
    cases ox : okB x
    · rw [show keepsPR n1 d1 n2 d2 x = (false, 8) from by rw [keepsPR, ho, ox]; rfl] at KX
      rw [show notR x = (0, 8) from by rw [notR, ox]; rfl] at NX
      simp only [pair2, bpair] at C1 KX K1 K0 NX
      clear ho c1 hcc ox o1 o2 wn1 wd1 wn2 wd2 wx
      rcases hc with rfl | rfl | rfl
      all_goals
        simp only [show decide ((-1 : Int) ≤ 0) = true from rfl, show decide ((-1 : Int) < 0) = true from rfl, show decide ((0 : Int) ≤ 0) = true from rfl, show decide ((0 : Int) < 0) = false from rfl, show decide ((1 : Int) ≤ 0) = false from rfl, show decide ((1 : Int) < 0) = false from rfl] at K1 K0
      all_goals
            go_enter Try.func3, Try.ntmps3
            go_wp2_with (fail)
            refine (HA.out _).mono ?_; rintro e w' ⟨rfl, p1, rfl⟩
            go_wp2_with (fail)
            refine (C1.out _).mono ?_; rintro e w' ⟨rfl, p2, rfl⟩
            go_wp2_with (fail)
            refine (K1.out _).mono ?_; rintro e w' ⟨rfl, p3, rfl⟩
            go_wp2_with (fail)
            refine (K0.out _).mono ?_; rintro e w' ⟨rfl, p4, rfl⟩
            go_wp2_with (fail)
            refine (KX.out _).mono ?_; rintro e w' ⟨rfl, p5, rfl⟩
            go_wp2_with (fail)
            refine (NX.out _).mono ?_; rintro e w' ⟨rfl, p6, rfl⟩
            go_wp2
            go_ret
            exact gives_bool (by simp) (by (repeat' (first | (with_reducible assumption) | (with_reducible exact Below.refl _ _) | (with_reducible refine below_wov ?_ ?_ _) | (with_reducible refine below_drewN ?_ _) | (with_reducible refine Below.drew ?_) | (with_reducible refine Below.alloc ?_ ?_ _) | (with_reducible refine Below.setCell ?_ ?_ _) | (with_reducible exact Nat.le_refl _) | omega | (simp only [World.size_alloc, World.size_setCell, World.size_drew, Wov_size, World.heap_drewN]; omega))))
    · by_cases hx : x = noneB
      · rw [show keepsPR n1 d1 n2 d2 x = (true, 0) from by rw [keepsPR, ho, ox, keptB, decide_eq_true hx]; rfl] at KX
        rw [show notR x = (0, 6) from by rw [notR, ox, if_pos rfl, if_pos hx]] at NX
        simp only [pair2, bpair] at C1 KX K1 K0 NX
        clear ho c1 hcc ox o1 o2 wn1 wd1 wn2 wd2 wx hx
        rcases hc with rfl | rfl | rfl
        all_goals
          simp only [show decide ((-1 : Int) ≤ 0) = true from rfl, show decide ((-1 : Int) < 0) = true from rfl, show decide ((0 : Int) ≤ 0) = true from rfl, show decide ((0 : Int) < 0) = false from rfl, show decide ((1 : Int) ≤ 0) = false from rfl, show decide ((1 : Int) < 0) = false from rfl] at K1 K0
        all_goals
            go_enter Try.func3, Try.ntmps3
            go_wp2_with (fail)
            refine (HA.out _).mono ?_; rintro e w' ⟨rfl, p1, rfl⟩
            go_wp2_with (fail)
            refine (C1.out _).mono ?_; rintro e w' ⟨rfl, p2, rfl⟩
            go_wp2_with (fail)
            refine (K1.out _).mono ?_; rintro e w' ⟨rfl, p3, rfl⟩
            go_wp2_with (fail)
            refine (K0.out _).mono ?_; rintro e w' ⟨rfl, p4, rfl⟩
            go_wp2_with (fail)
            refine (KX.out _).mono ?_; rintro e w' ⟨rfl, p5, rfl⟩
            go_wp2_with (fail)
            refine (NX.out _).mono ?_; rintro e w' ⟨rfl, p6, rfl⟩
            go_wp2
            go_ret
            exact gives_bool (by simp) (by (repeat' (first | (with_reducible assumption) | (with_reducible exact Below.refl _ _) | (with_reducible refine below_wov ?_ ?_ _) | (with_reducible refine below_drewN ?_ _) | (with_reducible refine Below.drew ?_) | (with_reducible refine Below.alloc ?_ ?_ _) | (with_reducible refine Below.setCell ?_ ?_ _) | (with_reducible exact Nat.le_refl _) | omega | (simp only [World.size_alloc, World.size_setCell, World.size_drew, Wov_size, World.heap_drewN]; omega))))
      · obtain ⟨nr, fn, on, hn⟩ := not_ok ox hx
        have kn := keptB_not (n1 := n1) (d1 := d1) (n2 := n2) (d2 := d2) hx hn
        rw [nr] at NX
        obtain ⟨nx, hnx⟩ : ∃ nx, nx = mkB (-(bnum x)) (!bstr x) := ⟨_, rfl⟩
        rw [← hnx] at NX kn on fn
        have KN := Lib.hid (ratKeeps_any n2 d2 n1 d1 nx wn2 wn1 fn)
        rw [show keepsPR n2 d2 n1 d1 nx = (!keptB n1 d1 n2 d2 x, 0) from by rw [keepsPR, o1, o2, on, kn]; rfl] at KN
        rw [show keepsPR n1 d1 n2 d2 x = (keptB n1 d1 n2 d2 x, 0) from by rw [keepsPR, ho, ox]; rfl] at KX
        have F1 := Lib.hid (ratFloor_any n1 d1 wn1)
        have F2 := Lib.hid (ratFloor_any n2 d2 wn2)
        rw [show floorPR n1 d1 = (n1 / d1, decide (n1 % d1 = 0), 0) from by rw [floorPR, o1]; rfl] at F1
        rw [show floorPR n2 d2 = (n2 / d2, decide (n2 % d2 = 0), 0) from by rw [floorPR, o2]; rfl] at F2
        have q1 := within_fd o1
        have q2 := within_fd o2
        have WR : Hid (wrap64 (n1 / d1 - n2 / d2) = n1 / d1 - n2 / d2) := wrap64_id (by omega) (by omega)
        have KB : Hid (decide (n1 % d1 = 0) = true → decide (n2 % d2 = 0) = true → ∃ own k, Pure Try.prog 27 #[.int .i64 (n1 / d1 - n2 / d2), .int .i64 x] (.tuple #[.bool own, .int .i64 k]) ∧ (k ≠ 0 ∨ own = keptB n1 d1 n2 d2 x)) := by
          intro a1 a2
          have a1 : n1 % d1 = 0 := by simpa using a1
          have a2 : n2 % d2 = 0 := by simpa using a2
          have b1 := okRat_bd o1
          have b2 := okRat_bd o2
          have kw := keptB_whole (p := n1 / d1) (q := n2 / d2) (d1 := d1) (d2 := d2) (x := x) (by omega) (by omega) hx
          rw [Int.ediv_mul_cancel (Int.dvd_of_emod_eq_zero a1), Int.ediv_mul_cancel (Int.dvd_of_emod_eq_zero a2)] at kw
          have B := bkeeps_any (n1 / d1 - n2 / d2) x (by omega) (by omega) wx.1 wx.2
          refine ⟨(keepsR (n1 / d1 - n2 / d2) x).1, (keepsR (n1 / d1 - n2 / d2) x).2, B, ?_⟩
          unfold keepsR
          cases okN (n1 / d1 - n2 / d2)
          · left; simp
          · right; rw [ox, kw]; rfl
        obtain ⟨p, hp⟩ : ∃ p, p = n1 / d1 := ⟨_, rfl⟩
        obtain ⟨q, hq⟩ : ∃ q, q = n2 / d2 := ⟨_, rfl⟩
        obtain ⟨u1, hu1⟩ : ∃ u, u = decide (n1 % d1 = 0) := ⟨_, rfl⟩
        obtain ⟨u2, hu2⟩ : ∃ u, u = decide (n2 % d2 = 0) := ⟨_, rfl⟩
        obtain ⟨is, his⟩ : ∃ s, s = keptB n1 d1 n2 d2 x := ⟨_, rfl⟩
        rw [← hp, ← hu1] at F1
        rw [← hq, ← hu2] at F2
        rw [← hp, ← hq] at WR
        rw [← hp, ← hq, ← hu1, ← hu2, ← his] at KB
        rw [← his] at KN KX
        simp only [pair2, bpair, trip] at C1 KX K1 K0 NX KN F1 F2
        clear ho c1 hcc ox o1 o2 wn1 wd1 wn2 wd2 wx hx nr fn on hn kn hnx q1 q2 hp hq hu1 hu2 his
        rcases hc with rfl | rfl | rfl
        all_goals
          simp only [show decide ((-1 : Int) ≤ 0) = true from rfl, show decide ((-1 : Int) < 0) = true from rfl, show decide ((0 : Int) ≤ 0) = true from rfl, show decide ((0 : Int) < 0) = false from rfl, show decide ((1 : Int) ≤ 0) = false from rfl, show decide ((1 : Int) < 0) = false from rfl] at K1 K0
          cases is
        all_goals
          simp only [Bool.not_true, Bool.not_false] at KN
          cases u1 <;> cases u2
        all_goals
            go_enter Try.func3, Try.ntmps3
            go_wp2_with (fail)
            refine (HA.out _).mono ?_; rintro e w' ⟨rfl, p1, rfl⟩
            go_wp2_with (fail)
            refine (C1.out _).mono ?_; rintro e w' ⟨rfl, p2, rfl⟩
            go_wp2_with (fail)
            refine (K1.out _).mono ?_; rintro e w' ⟨rfl, p3, rfl⟩
            go_wp2_with (fail)
            refine (K0.out _).mono ?_; rintro e w' ⟨rfl, p4, rfl⟩
            go_wp2_with (fail)
            refine (KX.out _).mono ?_; rintro e w' ⟨rfl, p5, rfl⟩
            go_wp2_with (fail)
            refine (NX.out _).mono ?_; rintro e w' ⟨rfl, p6, rfl⟩
            go_wp2_with (fail)
            refine (KN.out _).mono ?_; rintro e w' ⟨rfl, p7, rfl⟩
            go_wp2_with (fail)
            refine (F1.out _).mono ?_; rintro e w' ⟨rfl, p8, rfl⟩
            go_wp2_with (fail)
            refine (F2.out _).mono ?_; rintro e w' ⟨rfl, p9, rfl⟩
            go_wp2_with (fail)
            all_goals first
              | (go_ret; exact gives_bool rfl (by (repeat' (first | (with_reducible assumption) | (with_reducible exact Below.refl _ _) | (with_reducible refine below_wov ?_ ?_ _) | (with_reducible refine below_drewN ?_ _) | (with_reducible refine Below.drew ?_) | (with_reducible refine Below.alloc ?_ ?_ _) | (with_reducible refine Below.setCell ?_ ?_ _) | (with_reducible exact Nat.le_refl _) | omega | (simp only [World.size_alloc, World.size_setCell, World.size_drew, Wov_size, World.heap_drewN]; omega)))))
              | (obtain ⟨own, k, BK, hk⟩ := KB.out (by first | exact trivial | assumption) (by first | exact trivial | assumption)
                 rw [WR.out]
                 refine (BK _).mono ?_; rintro e w' ⟨rfl, pA, rfl⟩
                 go_wp2
                 all_goals
                   go_ret
                   refine gives_bool ?_ (by (repeat' (first | (with_reducible assumption) | (with_reducible exact Below.refl _ _) | (with_reducible refine below_wov ?_ ?_ _) | (with_reducible refine below_drewN ?_ _) | (with_reducible refine Below.drew ?_) | (with_reducible refine Below.alloc ?_ ?_ _) | (with_reducible refine Below.setCell ?_ ?_ _) | (with_reducible exact Nat.le_refl _) | omega | (simp only [World.size_alloc, World.size_setCell, World.size_drew, Wov_size, World.heap_drewN]; omega))))
                   rcases hk with hk | hk <;> simp_all)

end Go.Proofs.Ytlcbpckinjkfeaa.ratSides
