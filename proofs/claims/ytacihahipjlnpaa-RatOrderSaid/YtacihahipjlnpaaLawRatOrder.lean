/- The law RatOrder: which fraction is less is kept by sums, and is the other way round the other way round; two are the same just if neither is less; what is less than one that is less is less. No condition. -/
import Derived.Test.YtacihahipjlnpaaLaw3
import Derived.Test.YtacihahipjlnpaaM5
namespace Go.Proofs.Ytacihahipjlnpaa.ratOrder
open Go.ChangeShapes Go.WideShapes Go.ChangeAt Go.RowKit
set_option linter.unusedVariables false
set_option linter.unusedSimpArgs false
attribute [local go_sem] Nat.add_assoc Nat.add_lt_add_iff_left lit_lt_add

theorem of_bne0 {e : Int} (h : (e != 0) = false) : e = 0 := by simpa using h
theorem bne0_t {e : Int} (h : e ≠ 0) : (e != 0) = true := by simp; omega

set_option maxRecDepth 10000 in
set_option maxHeartbeats 8000000 in
theorem walk (n1 d1 : Int) (wn1 : fits64 n1) (wd1 : fits64 d1) (n2 d2 : Int) (wn2 : fits64 n2) (wd2 : fits64 d2) (n3 d3 : Int) (wn3 : fits64 n3) (wd3 : fits64 d3) (w : World) :
    Calls Try.prog 7 #[.agg #[.int .i64 n1, .int .i64 d1], .agg #[.int .i64 n2, .int .i64 d2], .agg #[.int .i64 n3, .int .i64 d3]] w (Gives w (.bool true)) := by
  have HA := Lib.hid alive3
  have C12 := Lib.hid (ratCmp_any n1 d1 n2 d2 wn1.1 wn1.2 wd1.1 wd1.2 wn2.1 wn2.2 wd2.1 wd2.2)
  have C21 := Lib.hid (ratCmp_any n2 d2 n1 d1 wn2.1 wn2.2 wd2.1 wd2.2 wn1.1 wn1.2 wd1.1 wd1.2)
  have C23 := Lib.hid (ratCmp_any n2 d2 n3 d3 wn2.1 wn2.2 wd2.1 wd2.2 wn3.1 wn3.2 wd3.1 wd3.2)
  have C13 := Lib.hid (ratCmp_any n1 d1 n3 d3 wn1.1 wn1.2 wd1.1 wd1.2 wn3.1 wn3.2 wd3.1 wd3.2)
  have A13 := Lib.hid (ratAdd_any n1 d1 n3 d3 wn1 wn3)
  have A23 := Lib.hid (ratAdd_any n2 d2 n3 d3 wn2 wn3)
  cases ho : okRat n1 d1 && okRat n2 d2
  · have c12 : cmpPR n1 d1 n2 d2 = (0, 8) := by rw [cmpPR, ho]; rfl
    have c21 : cmpPR n2 d2 n1 d1 = (0, 8) := by rw [cmpPR, Bool.and_comm, ho]; rfl
    rw [c12] at C12
    rw [c21] at C21
    obtain ⟨⟨k, g⟩, hk⟩ : ∃ r, r = cmpPR n2 d2 n3 d3 := ⟨_, rfl⟩
    obtain ⟨⟨j, h⟩, hj⟩ : ∃ r, r = cmpPR n1 d1 n3 d3 := ⟨_, rfl⟩
    rw [← hk] at C23
    rw [← hj] at C13
    simp only [pair2] at C12 C21 C23 C13
    clear c12 c21 hk hj ho A13 A23 wn1 wd1 wn2 wd2 wn3 wd3
    go_enter Try.func7, Try.ntmps7
    go_wp2_with (fail)
    refine (HA.out _).mono ?_; rintro e w' ⟨rfl, p1, rfl⟩
    go_wp2_with (fail)
    refine (C12.out _).mono ?_; rintro e w' ⟨rfl, p2, rfl⟩
    go_wp2_with (fail)
    refine (C21.out _).mono ?_; rintro e w' ⟨rfl, p3, rfl⟩
    go_wp2_with (fail)
    refine (C23.out _).mono ?_; rintro e w' ⟨rfl, p4, rfl⟩
    go_wp2_with (fail)
    refine (C13.out _).mono ?_; rintro e w' ⟨rfl, p5, rfl⟩
    go_wp2
    go_ret
    exact gives_bool rfl (by (repeat' (first | (with_reducible assumption) | (with_reducible exact Below.refl _ _) | (with_reducible refine below_wov ?_ ?_ _) | (with_reducible refine below_drewN ?_ _) | (with_reducible refine Below.drew ?_) | (with_reducible refine Below.alloc ?_ ?_ _) | (with_reducible refine Below.setCell ?_ ?_ _) | (with_reducible exact Nat.le_refl _) | omega | (simp only [World.size_alloc, World.size_setCell, World.size_drew, Wov_size, World.heap_drewN]; omega))))
  · have oo : okRat n1 d1 = true ∧ okRat n2 d2 = true := by simpa using ho
    have c12 : cmpPR n1 d1 n2 d2 = (cmpR n1 d1 n2 d2, 0) := by rw [cmpPR, ho]; rfl
    have c21 : cmpPR n2 d2 n1 d1 = (-(cmpR n1 d1 n2 d2), 0) := by rw [cmpPR, Bool.and_comm, ho, cmp_anti]; rfl
    rw [c12] at C12
    rw [c21] at C21
    have hz := cmp_zero oo.1 oo.2
    have hr : -1 ≤ cmpR n1 d1 n2 d2 ∧ cmpR n1 d1 n2 d2 ≤ 1 := by unfold cmpR sgn3; (repeat split) <;> omega
    have p1 := (okRat_bd oo.1).1
    have p2 := (okRat_bd oo.2).1
    obtain ⟨c, hc⟩ : ∃ c, c = cmpR n1 d1 n2 d2 := ⟨_, rfl⟩
    rw [← hc] at C12 C21 hz hr
    obtain ⟨r1, r2⟩ := hr
    have key : ∀ (N2 D2 : Int), True := fun _ _ => trivial
    clear key
    cases o3 : okRat n3 d3
    · have c23 : cmpPR n2 d2 n3 d3 = (0, 8) := by rw [cmpPR, o3, Bool.and_false]; rfl
      have c13 : cmpPR n1 d1 n3 d3 = (0, 8) := by rw [cmpPR, o3, Bool.and_false]; rfl
      rw [c23] at C23
      rw [c13] at C13
      simp only [pair2] at C12 C21 C23 C13
      have P : (n1 = n2 ∧ d1 = d2 ∧ c = 0) ∨ (n1 = n2 ∧ d1 ≠ d2 ∧ c ≠ 0) ∨ (n1 ≠ n2 ∧ c ≠ 0) := by
        by_cases a : n1 = n2
        · by_cases b : d1 = d2
          · exact .inl ⟨a, b, hz.2 ⟨a, b⟩⟩
          · exact .inr (.inl ⟨a, b, fun h => b (hz.1 h).2⟩)
        · exact .inr (.inr ⟨a, fun h => a (hz.1 h).1⟩)
      clear c12 c21 c23 c13 ho oo o3 hz hc A13 A23 wn1 wd1 wn2 wd2 wn3 wd3 p1 p2
      rcases P with ⟨rfl, rfl, rfl⟩ | ⟨rfl, hd, h0⟩ | ⟨hn, h0⟩
      · try (have h1 : (c == 0) = false := by simpa using h0)
        go_enter Try.func7, Try.ntmps7
        go_wp2_with (fail)
        refine (HA.out _).mono ?_; rintro e w' ⟨rfl, p1, rfl⟩
        go_wp2_with (fail)
        refine (C12.out _).mono ?_; rintro e w' ⟨rfl, p2, rfl⟩
        go_wp2_with (fail)
        refine (C21.out _).mono ?_; rintro e w' ⟨rfl, p3, rfl⟩
        go_wp2_with (fail)
        refine (C23.out _).mono ?_; rintro e w' ⟨rfl, p4, rfl⟩
        go_wp2_with (fail)
        refine (C13.out _).mono ?_; rintro e w' ⟨rfl, p5, rfl⟩
        go_wp2
        go_ret
        exact gives_bool rfl (by (repeat' (first | (with_reducible assumption) | (with_reducible exact Below.refl _ _) | (with_reducible refine below_wov ?_ ?_ _) | (with_reducible refine below_drewN ?_ _) | (with_reducible refine Below.drew ?_) | (with_reducible refine Below.alloc ?_ ?_ _) | (with_reducible refine Below.setCell ?_ ?_ _) | (with_reducible exact Nat.le_refl _) | omega | (simp only [World.size_alloc, World.size_setCell, World.size_drew, Wov_size, World.heap_drewN]; omega))))
      · try (have h1 : (c == 0) = false := by simpa using h0)
        go_enter Try.func7, Try.ntmps7
        go_wp2_with (fail)
        refine (HA.out _).mono ?_; rintro e w' ⟨rfl, p1, rfl⟩
        go_wp2_with (fail)
        refine (C12.out _).mono ?_; rintro e w' ⟨rfl, p2, rfl⟩
        go_wp2_with (fail)
        refine (C21.out _).mono ?_; rintro e w' ⟨rfl, p3, rfl⟩
        go_wp2_with (fail)
        refine (C23.out _).mono ?_; rintro e w' ⟨rfl, p4, rfl⟩
        go_wp2_with (fail)
        refine (C13.out _).mono ?_; rintro e w' ⟨rfl, p5, rfl⟩
        go_wp2
        go_ret
        exact gives_bool rfl (by (repeat' (first | (with_reducible assumption) | (with_reducible exact Below.refl _ _) | (with_reducible refine below_wov ?_ ?_ _) | (with_reducible refine below_drewN ?_ _) | (with_reducible refine Below.drew ?_) | (with_reducible refine Below.alloc ?_ ?_ _) | (with_reducible refine Below.setCell ?_ ?_ _) | (with_reducible exact Nat.le_refl _) | omega | (simp only [World.size_alloc, World.size_setCell, World.size_drew, Wov_size, World.heap_drewN]; omega))))
      · try (have h1 : (c == 0) = false := by simpa using h0)
        go_enter Try.func7, Try.ntmps7
        go_wp2_with (fail)
        refine (HA.out _).mono ?_; rintro e w' ⟨rfl, p1, rfl⟩
        go_wp2_with (fail)
        refine (C12.out _).mono ?_; rintro e w' ⟨rfl, p2, rfl⟩
        go_wp2_with (fail)
        refine (C21.out _).mono ?_; rintro e w' ⟨rfl, p3, rfl⟩
        go_wp2_with (fail)
        refine (C23.out _).mono ?_; rintro e w' ⟨rfl, p4, rfl⟩
        go_wp2_with (fail)
        refine (C13.out _).mono ?_; rintro e w' ⟨rfl, p5, rfl⟩
        go_wp2
        go_ret
        exact gives_bool rfl (by (repeat' (first | (with_reducible assumption) | (with_reducible exact Below.refl _ _) | (with_reducible refine below_wov ?_ ?_ _) | (with_reducible refine below_drewN ?_ _) | (with_reducible refine Below.drew ?_) | (with_reducible refine Below.alloc ?_ ?_ _) | (with_reducible refine Below.setCell ?_ ?_ _) | (with_reducible exact Nat.le_refl _) | omega | (simp only [World.size_alloc, World.size_setCell, World.size_drew, Wov_size, World.heap_drewN]; omega))))
    · have q3 := (okRat_bd o3).1
      have c23 : cmpPR n2 d2 n3 d3 = (cmpR n2 d2 n3 d3, 0) := by rw [cmpPR, oo.2, o3]; rfl
      have c13 : cmpPR n1 d1 n3 d3 = (cmpR n1 d1 n3 d3, 0) := by rw [cmpPR, oo.1, o3]; rfl
      rw [c23] at C23
      rw [c13] at C13
      have ht := cmp_trans (n1 := n1) (d1 := d1) (n2 := n2) (d2 := d2) (n3 := n3) (d3 := d3) (by omega) (by omega) (by omega)
      rw [← hc] at ht
      have hrk : -1 ≤ cmpR n2 d2 n3 d3 ∧ cmpR n2 d2 n3 d3 ≤ 1 := by unfold cmpR sgn3; (repeat split) <;> omega
      have hrj : -1 ≤ cmpR n1 d1 n3 d3 ∧ cmpR n1 d1 n3 d3 ≤ 1 := by unfold cmpR sgn3; (repeat split) <;> omega
      obtain ⟨k, hk⟩ : ∃ k, k = cmpR n2 d2 n3 d3 := ⟨_, rfl⟩
      obtain ⟨j, hj⟩ : ∃ j, j = cmpR n1 d1 n3 d3 := ⟨_, rfl⟩
      rw [← hk] at C23 ht hrk
      rw [← hj] at C13 ht hrj
      have HT := Lib.hid ht
      obtain ⟨⟨x1, x2, i⟩, hx⟩ : ∃ r, r = addPR n1 d1 n3 d3 1 := ⟨_, rfl⟩
      obtain ⟨⟨y1, y2, l⟩, hy⟩ : ∃ r, r = addPR n2 d2 n3 d3 1 := ⟨_, rfl⟩
      rw [← hx] at A13
      rw [← hy] at A23
      have FIN : Hid (i = 0 → l = 0 → Pure Try.prog 27 #[.agg #[.int .i64 x1, .int .i64 x2], .agg #[.int .i64 y1, .int .i64 y2]] (.tuple #[.int .i64 c, .int .i64 0])) := by
        intro hi hl
        subst hi; subst hl
        rcases addPR_spec (by omega) hx.symm with ⟨_, _, _, fx, ox, ex, hx2, _, _⟩ | ⟨h, _⟩
        · rcases addPR_spec (by omega) hy.symm with ⟨_, _, _, fy, oy, ey, hy2, _, _⟩ | ⟨h, _⟩
          · have b1 := okRat_bd ox
            have b2 := okRat_bd oy
            have cc := ratCmp_any x1 x2 y1 y2 fx.1 fx.2 (by omega) (by omega) fy.1 fy.2 (by omega) (by omega)
            rw [cmpPR, ox, oy, sum_cmp (n1 := n1) (n2 := n2) (n3 := n3) (by omega) (by omega) (by omega) hx2 hy2 ex ey, ← hc] at cc
            exact cc
          · exact (h rfl).elim
        · exact (h rfl).elim
      simp only [pair2, rat3] at C12 C21 C23 C13 A13 A23
      have P : (n1 = n2 ∧ d1 = d2 ∧ c = 0) ∨ (n1 = n2 ∧ d1 ≠ d2 ∧ c ≠ 0) ∨ (n1 ≠ n2 ∧ c ≠ 0) := by
        by_cases a : n1 = n2
        · by_cases b : d1 = d2
          · exact .inl ⟨a, b, hz.2 ⟨a, b⟩⟩
          · exact .inr (.inl ⟨a, b, fun h => b (hz.1 h).2⟩)
        · exact .inr (.inr ⟨a, fun h => a (hz.1 h).1⟩)
      clear c12 c21 c23 c13 ho oo o3 hz hc ht hk hj hx hy wn1 wd1 wn2 wd2 wn3 wd3 p1 p2 q3
      have CK : (c = 1) ∨ (c = -1 ∧ (k = 1 ∨ (k = 0 ∧ j = -1) ∨ (k = -1 ∧ j = -1))) ∨ (c = 0 ∧ (k = 1 ∨ (k = 0 ∧ j = 0) ∨ (k = 0 ∧ j = -1) ∨ (k = -1 ∧ j = -1))) := by
        have hT := HT.out
        by_cases h1 : c ≤ 0
        · by_cases h2 : k ≤ 0
          · have ⟨a, b⟩ := hT h1 h2
            by_cases h3 : j = 0
            · have b2 := b h3
              omega
            · omega
          · omega
        · omega
      clear HT hrk hrj
      rcases CK with hc1 | ⟨hc1, hk1 | ⟨hk1, hj1⟩ | ⟨hk1, hj1⟩⟩ | ⟨hc1, hk1 | ⟨hk1, hj1⟩ | ⟨hk1, hj1⟩ | ⟨hk1, hj1⟩⟩
      · rcases P with ⟨_, _, h0⟩ | ⟨ha, hd, h0⟩ | ⟨hn, h0⟩
        · exact absurd (h0.symm.trans hc1) (by decide)
        · subst ha; subst hc1
          clear h0
          go_enter Try.func7, Try.ntmps7
          go_wp2_with (fail)
          refine (HA.out _).mono ?_; rintro e w' ⟨rfl, p1, rfl⟩
          go_wp2_with (fail)
          refine (C12.out _).mono ?_; rintro e w' ⟨rfl, p2, rfl⟩
          go_wp2_with (fail)
          refine (C21.out _).mono ?_; rintro e w' ⟨rfl, p3, rfl⟩
          go_wp2_with (fail)
          refine (C23.out _).mono ?_; rintro e w' ⟨rfl, p4, rfl⟩
          go_wp2_with (fail)
          refine (C13.out _).mono ?_; rintro e w' ⟨rfl, p5, rfl⟩
          go_wp2_with (fail)
          refine (A13.out _).mono ?_; rintro e w' ⟨rfl, p6, rfl⟩
          go_wp2_with (fail)
          refine (A23.out _).mono ?_; rintro e w' ⟨rfl, p7, rfl⟩
          go_wp2_with (fail)
          all_goals first
            | (go_ret; exact gives_bool rfl (by (repeat' (first | (with_reducible assumption) | (with_reducible exact Below.refl _ _) | (with_reducible refine below_wov ?_ ?_ _) | (with_reducible refine below_drewN ?_ _) | (with_reducible refine Below.drew ?_) | (with_reducible refine Below.alloc ?_ ?_ _) | (with_reducible refine Below.setCell ?_ ?_ _) | (with_reducible exact Nat.le_refl _) | omega | (simp only [World.size_alloc, World.size_setCell, World.size_drew, Wov_size, World.heap_drewN]; omega)))))
            | (refine ((FIN.out (by assumption) (of_bne0 (by assumption))) _).mono ?_; rintro e w' ⟨rfl, p8, rfl⟩
               go_wp2
               go_ret
               exact gives_bool rfl (by (repeat' (first | (with_reducible assumption) | (with_reducible exact Below.refl _ _) | (with_reducible refine below_wov ?_ ?_ _) | (with_reducible refine below_drewN ?_ _) | (with_reducible refine Below.drew ?_) | (with_reducible refine Below.alloc ?_ ?_ _) | (with_reducible refine Below.setCell ?_ ?_ _) | (with_reducible exact Nat.le_refl _) | omega | (simp only [World.size_alloc, World.size_setCell, World.size_drew, Wov_size, World.heap_drewN]; omega)))))
        · subst hc1
          clear h0
          go_enter Try.func7, Try.ntmps7
          go_wp2_with (fail)
          refine (HA.out _).mono ?_; rintro e w' ⟨rfl, p1, rfl⟩
          go_wp2_with (fail)
          refine (C12.out _).mono ?_; rintro e w' ⟨rfl, p2, rfl⟩
          go_wp2_with (fail)
          refine (C21.out _).mono ?_; rintro e w' ⟨rfl, p3, rfl⟩
          go_wp2_with (fail)
          refine (C23.out _).mono ?_; rintro e w' ⟨rfl, p4, rfl⟩
          go_wp2_with (fail)
          refine (C13.out _).mono ?_; rintro e w' ⟨rfl, p5, rfl⟩
          go_wp2_with (fail)
          refine (A13.out _).mono ?_; rintro e w' ⟨rfl, p6, rfl⟩
          go_wp2_with (fail)
          refine (A23.out _).mono ?_; rintro e w' ⟨rfl, p7, rfl⟩
          go_wp2_with (fail)
          all_goals first
            | (go_ret; exact gives_bool rfl (by (repeat' (first | (with_reducible assumption) | (with_reducible exact Below.refl _ _) | (with_reducible refine below_wov ?_ ?_ _) | (with_reducible refine below_drewN ?_ _) | (with_reducible refine Below.drew ?_) | (with_reducible refine Below.alloc ?_ ?_ _) | (with_reducible refine Below.setCell ?_ ?_ _) | (with_reducible exact Nat.le_refl _) | omega | (simp only [World.size_alloc, World.size_setCell, World.size_drew, Wov_size, World.heap_drewN]; omega)))))
            | (refine ((FIN.out (by assumption) (of_bne0 (by assumption))) _).mono ?_; rintro e w' ⟨rfl, p8, rfl⟩
               go_wp2
               go_ret
               exact gives_bool rfl (by (repeat' (first | (with_reducible assumption) | (with_reducible exact Below.refl _ _) | (with_reducible refine below_wov ?_ ?_ _) | (with_reducible refine below_drewN ?_ _) | (with_reducible refine Below.drew ?_) | (with_reducible refine Below.alloc ?_ ?_ _) | (with_reducible refine Below.setCell ?_ ?_ _) | (with_reducible exact Nat.le_refl _) | omega | (simp only [World.size_alloc, World.size_setCell, World.size_drew, Wov_size, World.heap_drewN]; omega)))))
      · rcases P with ⟨_, _, h0⟩ | ⟨ha, hd, h0⟩ | ⟨hn, h0⟩
        · exact absurd (h0.symm.trans hc1) (by decide)
        · subst ha; subst hc1; subst hk1
          clear h0
          go_enter Try.func7, Try.ntmps7
          go_wp2_with (fail)
          refine (HA.out _).mono ?_; rintro e w' ⟨rfl, p1, rfl⟩
          go_wp2_with (fail)
          refine (C12.out _).mono ?_; rintro e w' ⟨rfl, p2, rfl⟩
          go_wp2_with (fail)
          refine (C21.out _).mono ?_; rintro e w' ⟨rfl, p3, rfl⟩
          go_wp2_with (fail)
          refine (C23.out _).mono ?_; rintro e w' ⟨rfl, p4, rfl⟩
          go_wp2_with (fail)
          refine (C13.out _).mono ?_; rintro e w' ⟨rfl, p5, rfl⟩
          go_wp2_with (fail)
          refine (A13.out _).mono ?_; rintro e w' ⟨rfl, p6, rfl⟩
          go_wp2_with (fail)
          refine (A23.out _).mono ?_; rintro e w' ⟨rfl, p7, rfl⟩
          go_wp2_with (fail)
          all_goals first
            | (go_ret; exact gives_bool rfl (by (repeat' (first | (with_reducible assumption) | (with_reducible exact Below.refl _ _) | (with_reducible refine below_wov ?_ ?_ _) | (with_reducible refine below_drewN ?_ _) | (with_reducible refine Below.drew ?_) | (with_reducible refine Below.alloc ?_ ?_ _) | (with_reducible refine Below.setCell ?_ ?_ _) | (with_reducible exact Nat.le_refl _) | omega | (simp only [World.size_alloc, World.size_setCell, World.size_drew, Wov_size, World.heap_drewN]; omega)))))
            | (refine ((FIN.out (by assumption) (of_bne0 (by assumption))) _).mono ?_; rintro e w' ⟨rfl, p8, rfl⟩
               go_wp2
               go_ret
               exact gives_bool rfl (by (repeat' (first | (with_reducible assumption) | (with_reducible exact Below.refl _ _) | (with_reducible refine below_wov ?_ ?_ _) | (with_reducible refine below_drewN ?_ _) | (with_reducible refine Below.drew ?_) | (with_reducible refine Below.alloc ?_ ?_ _) | (with_reducible refine Below.setCell ?_ ?_ _) | (with_reducible exact Nat.le_refl _) | omega | (simp only [World.size_alloc, World.size_setCell, World.size_drew, Wov_size, World.heap_drewN]; omega)))))
        · subst hc1; subst hk1
          clear h0
          go_enter Try.func7, Try.ntmps7
          go_wp2_with (fail)
          refine (HA.out _).mono ?_; rintro e w' ⟨rfl, p1, rfl⟩
          go_wp2_with (fail)
          refine (C12.out _).mono ?_; rintro e w' ⟨rfl, p2, rfl⟩
          go_wp2_with (fail)
          refine (C21.out _).mono ?_; rintro e w' ⟨rfl, p3, rfl⟩
          go_wp2_with (fail)
          refine (C23.out _).mono ?_; rintro e w' ⟨rfl, p4, rfl⟩
          go_wp2_with (fail)
          refine (C13.out _).mono ?_; rintro e w' ⟨rfl, p5, rfl⟩
          go_wp2_with (fail)
          refine (A13.out _).mono ?_; rintro e w' ⟨rfl, p6, rfl⟩
          go_wp2_with (fail)
          refine (A23.out _).mono ?_; rintro e w' ⟨rfl, p7, rfl⟩
          go_wp2_with (fail)
          all_goals first
            | (go_ret; exact gives_bool rfl (by (repeat' (first | (with_reducible assumption) | (with_reducible exact Below.refl _ _) | (with_reducible refine below_wov ?_ ?_ _) | (with_reducible refine below_drewN ?_ _) | (with_reducible refine Below.drew ?_) | (with_reducible refine Below.alloc ?_ ?_ _) | (with_reducible refine Below.setCell ?_ ?_ _) | (with_reducible exact Nat.le_refl _) | omega | (simp only [World.size_alloc, World.size_setCell, World.size_drew, Wov_size, World.heap_drewN]; omega)))))
            | (refine ((FIN.out (by assumption) (of_bne0 (by assumption))) _).mono ?_; rintro e w' ⟨rfl, p8, rfl⟩
               go_wp2
               go_ret
               exact gives_bool rfl (by (repeat' (first | (with_reducible assumption) | (with_reducible exact Below.refl _ _) | (with_reducible refine below_wov ?_ ?_ _) | (with_reducible refine below_drewN ?_ _) | (with_reducible refine Below.drew ?_) | (with_reducible refine Below.alloc ?_ ?_ _) | (with_reducible refine Below.setCell ?_ ?_ _) | (with_reducible exact Nat.le_refl _) | omega | (simp only [World.size_alloc, World.size_setCell, World.size_drew, Wov_size, World.heap_drewN]; omega)))))
      · rcases P with ⟨_, _, h0⟩ | ⟨ha, hd, h0⟩ | ⟨hn, h0⟩
        · exact absurd (h0.symm.trans hc1) (by decide)
        · subst ha; subst hc1; subst hk1; subst hj1
          clear h0
          go_enter Try.func7, Try.ntmps7
          go_wp2_with (fail)
          refine (HA.out _).mono ?_; rintro e w' ⟨rfl, p1, rfl⟩
          go_wp2_with (fail)
          refine (C12.out _).mono ?_; rintro e w' ⟨rfl, p2, rfl⟩
          go_wp2_with (fail)
          refine (C21.out _).mono ?_; rintro e w' ⟨rfl, p3, rfl⟩
          go_wp2_with (fail)
          refine (C23.out _).mono ?_; rintro e w' ⟨rfl, p4, rfl⟩
          go_wp2_with (fail)
          refine (C13.out _).mono ?_; rintro e w' ⟨rfl, p5, rfl⟩
          go_wp2_with (fail)
          refine (A13.out _).mono ?_; rintro e w' ⟨rfl, p6, rfl⟩
          go_wp2_with (fail)
          refine (A23.out _).mono ?_; rintro e w' ⟨rfl, p7, rfl⟩
          go_wp2_with (fail)
          all_goals first
            | (go_ret; exact gives_bool rfl (by (repeat' (first | (with_reducible assumption) | (with_reducible exact Below.refl _ _) | (with_reducible refine below_wov ?_ ?_ _) | (with_reducible refine below_drewN ?_ _) | (with_reducible refine Below.drew ?_) | (with_reducible refine Below.alloc ?_ ?_ _) | (with_reducible refine Below.setCell ?_ ?_ _) | (with_reducible exact Nat.le_refl _) | omega | (simp only [World.size_alloc, World.size_setCell, World.size_drew, Wov_size, World.heap_drewN]; omega)))))
            | (refine ((FIN.out (by assumption) (of_bne0 (by assumption))) _).mono ?_; rintro e w' ⟨rfl, p8, rfl⟩
               go_wp2
               go_ret
               exact gives_bool rfl (by (repeat' (first | (with_reducible assumption) | (with_reducible exact Below.refl _ _) | (with_reducible refine below_wov ?_ ?_ _) | (with_reducible refine below_drewN ?_ _) | (with_reducible refine Below.drew ?_) | (with_reducible refine Below.alloc ?_ ?_ _) | (with_reducible refine Below.setCell ?_ ?_ _) | (with_reducible exact Nat.le_refl _) | omega | (simp only [World.size_alloc, World.size_setCell, World.size_drew, Wov_size, World.heap_drewN]; omega)))))
        · subst hc1; subst hk1; subst hj1
          clear h0
          go_enter Try.func7, Try.ntmps7
          go_wp2_with (fail)
          refine (HA.out _).mono ?_; rintro e w' ⟨rfl, p1, rfl⟩
          go_wp2_with (fail)
          refine (C12.out _).mono ?_; rintro e w' ⟨rfl, p2, rfl⟩
          go_wp2_with (fail)
          refine (C21.out _).mono ?_; rintro e w' ⟨rfl, p3, rfl⟩
          go_wp2_with (fail)
          refine (C23.out _).mono ?_; rintro e w' ⟨rfl, p4, rfl⟩
          go_wp2_with (fail)
          refine (C13.out _).mono ?_; rintro e w' ⟨rfl, p5, rfl⟩
          go_wp2_with (fail)
          refine (A13.out _).mono ?_; rintro e w' ⟨rfl, p6, rfl⟩
          go_wp2_with (fail)
          refine (A23.out _).mono ?_; rintro e w' ⟨rfl, p7, rfl⟩
          go_wp2_with (fail)
          all_goals first
            | (go_ret; exact gives_bool rfl (by (repeat' (first | (with_reducible assumption) | (with_reducible exact Below.refl _ _) | (with_reducible refine below_wov ?_ ?_ _) | (with_reducible refine below_drewN ?_ _) | (with_reducible refine Below.drew ?_) | (with_reducible refine Below.alloc ?_ ?_ _) | (with_reducible refine Below.setCell ?_ ?_ _) | (with_reducible exact Nat.le_refl _) | omega | (simp only [World.size_alloc, World.size_setCell, World.size_drew, Wov_size, World.heap_drewN]; omega)))))
            | (refine ((FIN.out (by assumption) (of_bne0 (by assumption))) _).mono ?_; rintro e w' ⟨rfl, p8, rfl⟩
               go_wp2
               go_ret
               exact gives_bool rfl (by (repeat' (first | (with_reducible assumption) | (with_reducible exact Below.refl _ _) | (with_reducible refine below_wov ?_ ?_ _) | (with_reducible refine below_drewN ?_ _) | (with_reducible refine Below.drew ?_) | (with_reducible refine Below.alloc ?_ ?_ _) | (with_reducible refine Below.setCell ?_ ?_ _) | (with_reducible exact Nat.le_refl _) | omega | (simp only [World.size_alloc, World.size_setCell, World.size_drew, Wov_size, World.heap_drewN]; omega)))))
      · rcases P with ⟨_, _, h0⟩ | ⟨ha, hd, h0⟩ | ⟨hn, h0⟩
        · exact absurd (h0.symm.trans hc1) (by decide)
        · subst ha; subst hc1; subst hk1; subst hj1
          clear h0
          go_enter Try.func7, Try.ntmps7
          go_wp2_with (fail)
          refine (HA.out _).mono ?_; rintro e w' ⟨rfl, p1, rfl⟩
          go_wp2_with (fail)
          refine (C12.out _).mono ?_; rintro e w' ⟨rfl, p2, rfl⟩
          go_wp2_with (fail)
          refine (C21.out _).mono ?_; rintro e w' ⟨rfl, p3, rfl⟩
          go_wp2_with (fail)
          refine (C23.out _).mono ?_; rintro e w' ⟨rfl, p4, rfl⟩
          go_wp2_with (fail)
          refine (C13.out _).mono ?_; rintro e w' ⟨rfl, p5, rfl⟩
          go_wp2_with (fail)
          refine (A13.out _).mono ?_; rintro e w' ⟨rfl, p6, rfl⟩
          go_wp2_with (fail)
          refine (A23.out _).mono ?_; rintro e w' ⟨rfl, p7, rfl⟩
          go_wp2_with (fail)
          all_goals first
            | (go_ret; exact gives_bool rfl (by (repeat' (first | (with_reducible assumption) | (with_reducible exact Below.refl _ _) | (with_reducible refine below_wov ?_ ?_ _) | (with_reducible refine below_drewN ?_ _) | (with_reducible refine Below.drew ?_) | (with_reducible refine Below.alloc ?_ ?_ _) | (with_reducible refine Below.setCell ?_ ?_ _) | (with_reducible exact Nat.le_refl _) | omega | (simp only [World.size_alloc, World.size_setCell, World.size_drew, Wov_size, World.heap_drewN]; omega)))))
            | (refine ((FIN.out (by assumption) (of_bne0 (by assumption))) _).mono ?_; rintro e w' ⟨rfl, p8, rfl⟩
               go_wp2
               go_ret
               exact gives_bool rfl (by (repeat' (first | (with_reducible assumption) | (with_reducible exact Below.refl _ _) | (with_reducible refine below_wov ?_ ?_ _) | (with_reducible refine below_drewN ?_ _) | (with_reducible refine Below.drew ?_) | (with_reducible refine Below.alloc ?_ ?_ _) | (with_reducible refine Below.setCell ?_ ?_ _) | (with_reducible exact Nat.le_refl _) | omega | (simp only [World.size_alloc, World.size_setCell, World.size_drew, Wov_size, World.heap_drewN]; omega)))))
        · subst hc1; subst hk1; subst hj1
          clear h0
          go_enter Try.func7, Try.ntmps7
          go_wp2_with (fail)
          refine (HA.out _).mono ?_; rintro e w' ⟨rfl, p1, rfl⟩
          go_wp2_with (fail)
          refine (C12.out _).mono ?_; rintro e w' ⟨rfl, p2, rfl⟩
          go_wp2_with (fail)
          refine (C21.out _).mono ?_; rintro e w' ⟨rfl, p3, rfl⟩
          go_wp2_with (fail)
          refine (C23.out _).mono ?_; rintro e w' ⟨rfl, p4, rfl⟩
          go_wp2_with (fail)
          refine (C13.out _).mono ?_; rintro e w' ⟨rfl, p5, rfl⟩
          go_wp2_with (fail)
          refine (A13.out _).mono ?_; rintro e w' ⟨rfl, p6, rfl⟩
          go_wp2_with (fail)
          refine (A23.out _).mono ?_; rintro e w' ⟨rfl, p7, rfl⟩
          go_wp2_with (fail)
          all_goals first
            | (go_ret; exact gives_bool rfl (by (repeat' (first | (with_reducible assumption) | (with_reducible exact Below.refl _ _) | (with_reducible refine below_wov ?_ ?_ _) | (with_reducible refine below_drewN ?_ _) | (with_reducible refine Below.drew ?_) | (with_reducible refine Below.alloc ?_ ?_ _) | (with_reducible refine Below.setCell ?_ ?_ _) | (with_reducible exact Nat.le_refl _) | omega | (simp only [World.size_alloc, World.size_setCell, World.size_drew, Wov_size, World.heap_drewN]; omega)))))
            | (refine ((FIN.out (by assumption) (of_bne0 (by assumption))) _).mono ?_; rintro e w' ⟨rfl, p8, rfl⟩
               go_wp2
               go_ret
               exact gives_bool rfl (by (repeat' (first | (with_reducible assumption) | (with_reducible exact Below.refl _ _) | (with_reducible refine below_wov ?_ ?_ _) | (with_reducible refine below_drewN ?_ _) | (with_reducible refine Below.drew ?_) | (with_reducible refine Below.alloc ?_ ?_ _) | (with_reducible refine Below.setCell ?_ ?_ _) | (with_reducible exact Nat.le_refl _) | omega | (simp only [World.size_alloc, World.size_setCell, World.size_drew, Wov_size, World.heap_drewN]; omega)))))
      · rcases P with ⟨ha, hb, h0⟩ | ⟨_, _, h0⟩ | ⟨_, h0⟩
        · subst ha; subst hb; subst hc1; subst hk1
          clear h0
          go_enter Try.func7, Try.ntmps7
          go_wp2_with (fail)
          refine (HA.out _).mono ?_; rintro e w' ⟨rfl, p1, rfl⟩
          go_wp2_with (fail)
          refine (C12.out _).mono ?_; rintro e w' ⟨rfl, p2, rfl⟩
          go_wp2_with (fail)
          refine (C21.out _).mono ?_; rintro e w' ⟨rfl, p3, rfl⟩
          go_wp2_with (fail)
          refine (C23.out _).mono ?_; rintro e w' ⟨rfl, p4, rfl⟩
          go_wp2_with (fail)
          refine (C13.out _).mono ?_; rintro e w' ⟨rfl, p5, rfl⟩
          go_wp2_with (fail)
          refine (A13.out _).mono ?_; rintro e w' ⟨rfl, p6, rfl⟩
          go_wp2_with (fail)
          refine (A23.out _).mono ?_; rintro e w' ⟨rfl, p7, rfl⟩
          go_wp2_with (fail)
          all_goals first
            | (go_ret; exact gives_bool rfl (by (repeat' (first | (with_reducible assumption) | (with_reducible exact Below.refl _ _) | (with_reducible refine below_wov ?_ ?_ _) | (with_reducible refine below_drewN ?_ _) | (with_reducible refine Below.drew ?_) | (with_reducible refine Below.alloc ?_ ?_ _) | (with_reducible refine Below.setCell ?_ ?_ _) | (with_reducible exact Nat.le_refl _) | omega | (simp only [World.size_alloc, World.size_setCell, World.size_drew, Wov_size, World.heap_drewN]; omega)))))
            | (refine ((FIN.out (by assumption) (of_bne0 (by assumption))) _).mono ?_; rintro e w' ⟨rfl, p8, rfl⟩
               go_wp2
               go_ret
               exact gives_bool rfl (by (repeat' (first | (with_reducible assumption) | (with_reducible exact Below.refl _ _) | (with_reducible refine below_wov ?_ ?_ _) | (with_reducible refine below_drewN ?_ _) | (with_reducible refine Below.drew ?_) | (with_reducible refine Below.alloc ?_ ?_ _) | (with_reducible refine Below.setCell ?_ ?_ _) | (with_reducible exact Nat.le_refl _) | omega | (simp only [World.size_alloc, World.size_setCell, World.size_drew, Wov_size, World.heap_drewN]; omega)))))
        · exact absurd hc1 h0
        · exact absurd hc1 h0
      · rcases P with ⟨ha, hb, h0⟩ | ⟨_, _, h0⟩ | ⟨_, h0⟩
        · subst ha; subst hb; subst hc1; subst hk1; subst hj1
          clear h0
          go_enter Try.func7, Try.ntmps7
          go_wp2_with (fail)
          refine (HA.out _).mono ?_; rintro e w' ⟨rfl, p1, rfl⟩
          go_wp2_with (fail)
          refine (C12.out _).mono ?_; rintro e w' ⟨rfl, p2, rfl⟩
          go_wp2_with (fail)
          refine (C21.out _).mono ?_; rintro e w' ⟨rfl, p3, rfl⟩
          go_wp2_with (fail)
          refine (C23.out _).mono ?_; rintro e w' ⟨rfl, p4, rfl⟩
          go_wp2_with (fail)
          refine (C13.out _).mono ?_; rintro e w' ⟨rfl, p5, rfl⟩
          go_wp2_with (fail)
          refine (A13.out _).mono ?_; rintro e w' ⟨rfl, p6, rfl⟩
          go_wp2_with (fail)
          refine (A23.out _).mono ?_; rintro e w' ⟨rfl, p7, rfl⟩
          go_wp2_with (fail)
          all_goals first
            | (go_ret; exact gives_bool rfl (by (repeat' (first | (with_reducible assumption) | (with_reducible exact Below.refl _ _) | (with_reducible refine below_wov ?_ ?_ _) | (with_reducible refine below_drewN ?_ _) | (with_reducible refine Below.drew ?_) | (with_reducible refine Below.alloc ?_ ?_ _) | (with_reducible refine Below.setCell ?_ ?_ _) | (with_reducible exact Nat.le_refl _) | omega | (simp only [World.size_alloc, World.size_setCell, World.size_drew, Wov_size, World.heap_drewN]; omega)))))
            | (refine ((FIN.out (by assumption) (of_bne0 (by assumption))) _).mono ?_; rintro e w' ⟨rfl, p8, rfl⟩
               go_wp2
               go_ret
               exact gives_bool rfl (by (repeat' (first | (with_reducible assumption) | (with_reducible exact Below.refl _ _) | (with_reducible refine below_wov ?_ ?_ _) | (with_reducible refine below_drewN ?_ _) | (with_reducible refine Below.drew ?_) | (with_reducible refine Below.alloc ?_ ?_ _) | (with_reducible refine Below.setCell ?_ ?_ _) | (with_reducible exact Nat.le_refl _) | omega | (simp only [World.size_alloc, World.size_setCell, World.size_drew, Wov_size, World.heap_drewN]; omega)))))
        · exact absurd hc1 h0
        · exact absurd hc1 h0
      · rcases P with ⟨ha, hb, h0⟩ | ⟨_, _, h0⟩ | ⟨_, h0⟩
        · subst ha; subst hb; subst hc1; subst hk1; subst hj1
          clear h0
          go_enter Try.func7, Try.ntmps7
          go_wp2_with (fail)
          refine (HA.out _).mono ?_; rintro e w' ⟨rfl, p1, rfl⟩
          go_wp2_with (fail)
          refine (C12.out _).mono ?_; rintro e w' ⟨rfl, p2, rfl⟩
          go_wp2_with (fail)
          refine (C21.out _).mono ?_; rintro e w' ⟨rfl, p3, rfl⟩
          go_wp2_with (fail)
          refine (C23.out _).mono ?_; rintro e w' ⟨rfl, p4, rfl⟩
          go_wp2_with (fail)
          refine (C13.out _).mono ?_; rintro e w' ⟨rfl, p5, rfl⟩
          go_wp2_with (fail)
          refine (A13.out _).mono ?_; rintro e w' ⟨rfl, p6, rfl⟩
          go_wp2_with (fail)
          refine (A23.out _).mono ?_; rintro e w' ⟨rfl, p7, rfl⟩
          go_wp2_with (fail)
          all_goals first
            | (go_ret; exact gives_bool rfl (by (repeat' (first | (with_reducible assumption) | (with_reducible exact Below.refl _ _) | (with_reducible refine below_wov ?_ ?_ _) | (with_reducible refine below_drewN ?_ _) | (with_reducible refine Below.drew ?_) | (with_reducible refine Below.alloc ?_ ?_ _) | (with_reducible refine Below.setCell ?_ ?_ _) | (with_reducible exact Nat.le_refl _) | omega | (simp only [World.size_alloc, World.size_setCell, World.size_drew, Wov_size, World.heap_drewN]; omega)))))
            | (refine ((FIN.out (by assumption) (of_bne0 (by assumption))) _).mono ?_; rintro e w' ⟨rfl, p8, rfl⟩
               go_wp2
               go_ret
               exact gives_bool rfl (by (repeat' (first | (with_reducible assumption) | (with_reducible exact Below.refl _ _) | (with_reducible refine below_wov ?_ ?_ _) | (with_reducible refine below_drewN ?_ _) | (with_reducible refine Below.drew ?_) | (with_reducible refine Below.alloc ?_ ?_ _) | (with_reducible refine Below.setCell ?_ ?_ _) | (with_reducible exact Nat.le_refl _) | omega | (simp only [World.size_alloc, World.size_setCell, World.size_drew, Wov_size, World.heap_drewN]; omega)))))
        · exact absurd hc1 h0
        · exact absurd hc1 h0
      · rcases P with ⟨ha, hb, h0⟩ | ⟨_, _, h0⟩ | ⟨_, h0⟩
        · subst ha; subst hb; subst hc1; subst hk1; subst hj1
          clear h0
          go_enter Try.func7, Try.ntmps7
          go_wp2_with (fail)
          refine (HA.out _).mono ?_; rintro e w' ⟨rfl, p1, rfl⟩
          go_wp2_with (fail)
          refine (C12.out _).mono ?_; rintro e w' ⟨rfl, p2, rfl⟩
          go_wp2_with (fail)
          refine (C21.out _).mono ?_; rintro e w' ⟨rfl, p3, rfl⟩
          go_wp2_with (fail)
          refine (C23.out _).mono ?_; rintro e w' ⟨rfl, p4, rfl⟩
          go_wp2_with (fail)
          refine (C13.out _).mono ?_; rintro e w' ⟨rfl, p5, rfl⟩
          go_wp2_with (fail)
          refine (A13.out _).mono ?_; rintro e w' ⟨rfl, p6, rfl⟩
          go_wp2_with (fail)
          refine (A23.out _).mono ?_; rintro e w' ⟨rfl, p7, rfl⟩
          go_wp2_with (fail)
          all_goals first
            | (go_ret; exact gives_bool rfl (by (repeat' (first | (with_reducible assumption) | (with_reducible exact Below.refl _ _) | (with_reducible refine below_wov ?_ ?_ _) | (with_reducible refine below_drewN ?_ _) | (with_reducible refine Below.drew ?_) | (with_reducible refine Below.alloc ?_ ?_ _) | (with_reducible refine Below.setCell ?_ ?_ _) | (with_reducible exact Nat.le_refl _) | omega | (simp only [World.size_alloc, World.size_setCell, World.size_drew, Wov_size, World.heap_drewN]; omega)))))
            | (refine ((FIN.out (by assumption) (of_bne0 (by assumption))) _).mono ?_; rintro e w' ⟨rfl, p8, rfl⟩
               go_wp2
               go_ret
               exact gives_bool rfl (by (repeat' (first | (with_reducible assumption) | (with_reducible exact Below.refl _ _) | (with_reducible refine below_wov ?_ ?_ _) | (with_reducible refine below_drewN ?_ _) | (with_reducible refine Below.drew ?_) | (with_reducible refine Below.alloc ?_ ?_ _) | (with_reducible refine Below.setCell ?_ ?_ _) | (with_reducible exact Nat.le_refl _) | omega | (simp only [World.size_alloc, World.size_setCell, World.size_drew, Wov_size, World.heap_drewN]; omega)))))
        · exact absurd hc1 h0
        · exact absurd hc1 h0

set_option maxRecDepth 100000 in
theorem lifted (os : Os) (started : os.Started) (H : Type) (enc : TypeId × Value → H) :
    ReturnsInHanded {} Try.checked os 7 .any (Rows.ratOrderSpec.pre6 enc Try.prog Try.f7 Rows.ratOrderRow.domain false) (Rows.ratOrderSpec.post enc Try.prog Try.f7 false true false false) := by
  refine returnsInHanded_of_change (C := Try.checked) own started (by kernel_rfl) Try.func7
    (ChangeSpec.witness6 (enc := enc) (C := Try.checked) false ⟨#[], #[.agg #[.int .i64 0, .int .i64 0], .agg #[.int .i64 0, .int .i64 0], .agg #[.int .i64 0, .int .i64 0]], []⟩ 8 (by kernel_rfl) (by kernel_rfl) (by kernel_rfl) (by kernel_rfl)) ?_
  intro W base args ds gs before hval0 hW hcnd _
  have hval : ∀ (j : Nat) t v, Try.f7.params[j]? = some t → args[j]? = some v → Value.okWide Try.prog W .any base t v := hval0
  have hW' := hW
  obtain ⟨p, q, hA0, hV, hpq, hfz, hnd⟩ := hW
  have hA : DataW.TrodAll enc Try.prog W 0 (fun _ => true) true Try.f7.params.toList args.toList ds p := hA0
  rw [Try.params7] at hA hval
  obtain ⟨v0, vs0, d0, ds0, p0, q0, hargs, rfl, rfl, h0, r0⟩ := trodAll_cons hA
  obtain ⟨v1, vs1, d1, ds1, p1, q1, rfl, rfl, rfl, h1, r1⟩ := trodAll_cons r0
  obtain ⟨v2, vs2, d2, ds2, p2, q2, rfl, rfl, rfl, h2, r2⟩ := trodAll_cons r1
  obtain ⟨rfl, rfl, rfl⟩ := trodAll_nil r2
  obtain rfl : args = #[v0, v1, v2] := by cases args; simp_all
  obtain ⟨rfl, rfl⟩ := trodVars_none hV
  obtain ⟨n0, m0, rfl, wn0, wm0⟩ := open_rat (hval 0 33 v0 rfl rfl) h0
  obtain ⟨n1, m1, rfl, wn1, wm1⟩ := open_rat (hval 1 33 v1 rfl rfl) h1
  obtain ⟨n2, m2, rfl, wn2, wm2⟩ := open_rat (hval 2 33 v2 rfl rfl) h2
  clear hA0 hval0
  refine (walk n0 m0 wn0 wm0 n1 m1 wn1 wm1 n2 m2 wn2 wm2 W).mono fun e W' ⟨he, hg⟩ => ?_
  subst he
  exact ⟨_, rfl, law_post (by kernel_rfl) rfl rfl hW' rfl rfl rfl hg⟩

theorem over : Rows.ratOrderRow.holds Try.pinned (OpenSpec.ofChange Rows.ratOrderSpec) :=
  OpenClaim.holds_of_wide 7 Try.f7 rfl rfl rfl rfl rfl rfl rfl ⟨rfl, rfl, rfl, rfl, rfl⟩ rfl rfl rfl rfl rfl (by kernel_rfl) Try.func7 (by kernel_rfl)
    (of_decide_eq_true (by kernel_rfl)) (by unfold Func.isWrapper; first | (rw [if_pos (by decide +kernel)]; kernel_rfl) | (rw [if_neg (by decide +kernel)]; exact ⟨rfl, rfl⟩))
    (fun os started H enc _ => lifted os started H enc)

/-- The statement. -/
theorem proved : Rows.RatOrderSaid := over
#print axioms proved
end Go.Proofs.Ytacihahipjlnpaa.ratOrder
