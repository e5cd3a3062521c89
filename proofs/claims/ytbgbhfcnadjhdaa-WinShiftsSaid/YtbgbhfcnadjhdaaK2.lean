/- Plain laws of law10: WinOrder, WinLess, WinPoints, WinShifts. No condition. -/
import Derived.Test.YtbgbhfcnadjhdaaK1
namespace Go.Proofs.Ytbgbhfcnadjhdaa
set_option linter.unusedSimpArgs false
set_option linter.unusedVariables false
open Go Go.RowKit

theorem in_of {a b : Nat → Int} (ha : okZ a = true) (hb : okZ b = true) (h : ∀ q, Closed 3 q → ZU a q → ZU b q) : inZ a b = (true, 0) := by
  rw [inZ_ok ha hb, (in_iff ha hb).2 h]
/-- WinOrder: which comes first turns nothing. -/
theorem order1_law {z a b : Nat → Int} {s : Sp} {f m : Int} (h1 : withinZ z s = (a, 0)) (h2 : windowZ z f m = (b, 0)) : windowZ a f m = withinZ b s ∧ okZ a = true ∧ okZ b = true := by
  cases hz : okZ z
  · rw [within_bad hz] at h1; simp at h1
  rcases within_cases (s := s) hz with ⟨o1, r, k1, k2, k3⟩ | ⟨_, k1, _⟩ | ⟨_, k1, _⟩ | ⟨_, k1⟩
  · rw [h1] at k1
    simp only [Prod.mk.injEq, and_true] at k1
    subst k1
    rcases window_cases (a := f) (b := m) hz with ⟨o2, r, l1, l2, l3⟩ | ⟨_, l1, _⟩ | ⟨_, l1, _⟩ | ⟨_, l1⟩
    · rw [h2] at l1
      simp only [Prod.mk.injEq, and_true] at l1
      subst l1
      refine ⟨?_, k2, l2⟩
      have he : s.bw.e = 0 := by
        rcases bw_cases s with ⟨h, _⟩ | ⟨_, h⟩ | ⟨_, h, _⟩
        · rw [o1] at h; cases h
        · unfold withinZ at h1
          rw [if_pos hz, h, if_neg (by decide)] at h1; simp at h1
        · exact h
      obtain ⟨m1, m2⟩ := win_may o2
      have n1 : mayB s.abo = true := aboveB_may o1
      have n2 : mayB s.bel = true := belowB_may o1
      unfold windowZ withinZ
      rw [if_pos k2, if_pos l2, if_pos o2, if_pos he]
      refine ofZ_eq (okD_W2 (okZ_okD k2) (by omega) (by omega) m1 m2) (okD_W2 (okZ_okD l2) (by omega) (by omega) n1 n2) fun q hq => ?_
      rw [under_W2 (t := 2) (s := 3) (okZ_okD k2) (by omega) (by omega) m1 m2, under_W2 (t := 4) (s := 5) (okZ_okD l2) (by omega) (by omega) n1 n2, k3 q hq, l3 q hq]
      exact ⟨fun ⟨⟨x1, x2⟩, x3⟩ => ⟨⟨x1, x3⟩, x2⟩, fun ⟨⟨x1, x3⟩, x2⟩ => ⟨⟨x1, x2⟩, x3⟩⟩
    · rw [h2] at l1; simp at l1
    · rw [h2] at l1; simp at l1
    · rw [h2] at l1; simp at l1
  · rw [h1] at k1; simp at k1
  · rw [h1] at k1; simp at k1
  · rw [h1] at k1; simp at k1
theorem window_ok {z r : Nat → Int} {a b : Int} (h : windowZ z a b = (r, 0)) : okZ z = true ∧ windowOK a b = true ∧ okZ r = true ∧ ∀ q, Closed 3 q → (ZU r q ↔ ZU z q ∧ InW a b q) := by
  cases hz : okZ z
  · rw [window_bad hz] at h; simp at h
  rcases window_cases (a := a) (b := b) hz with ⟨o2, r, l1, l2, l3⟩ | ⟨_, l1, _⟩ | ⟨_, l1, _⟩ | ⟨_, l1⟩
  · rw [h] at l1
    simp only [Prod.mk.injEq, and_true] at l1
    subst l1
    exact ⟨rfl, o2, l2, l3⟩
  · rw [h] at l1; simp at l1
  · rw [h] at l1; simp at l1
  · rw [h] at l1; simp at l1
theorem within_ok {z r : Nat → Int} {s : Sp} (h : withinZ z s = (r, 0)) : okZ z = true ∧ s.ok = true ∧ okZ r = true ∧ ∀ q, Closed 3 q → (ZU r q ↔ ZU z q ∧ InD s q) := by
  cases hz : okZ z
  · rw [within_bad hz] at h; simp at h
  rcases within_cases (s := s) hz with ⟨o2, r, l1, l2, l3⟩ | ⟨_, l1, _⟩ | ⟨_, l1, _⟩ | ⟨_, l1⟩
  · rw [h] at l1
    simp only [Prod.mk.injEq, and_true] at l1
    subst l1
    exact ⟨rfl, o2, l2, l3⟩
  · rw [h] at l1; simp at l1
  · rw [h] at l1; simp at l1
  · rw [h] at l1; simp at l1
theorem hb_le {q : Nat → Nat → EB} {t : Nat} {x y : Int} (h : HB q t x) (hx : x ≠ noneB) (hxy : x ≤ y) : HB q t y := by
  unfold HB at *
  refine ele_trans h ?_
  rw [eb_some hx]
  by_cases hy : y = noneB
  · rw [hy, eb_none]; exact ele_none _
  · rw [eb_some hy]; exact hxy
theorem mkB_le {a b : Int} {s : Bool} (h : a ≤ b) : mkB a s ≤ mkB b s := by unfold mkB; omega
/-- A wider window has all. -/
theorem inW_wide {a b c d : Int} {q : Nat → Nat → EB} (h1 : windowOK a b = true) (hc : c ≤ a) (hd : b ≤ d) (h : InW a b q) : InW c d q := by
  have := windowOK_bd h1
  exact ⟨hb_le h.1 (mkB_some (by omega) (by omega)) (mkB_le hd), hb_le h.2 (mkB_some (by omega) (by omega)) (mkB_le (by omega))⟩
/-- A closed one is under its zone. -/
theorem zone_self {z : Nat → Int} (h : okZ z = true) : Closed 3 (mE 3 (zF z)) ∧ ZU z (mE 3 (zF z)) := by
  obtain ⟨_, c, _, K, e⟩ := okZ_facts h
  have hm : ∀ i j, i < 3 → j < 3 → mE 3 c i j = mE 3 (zF z) i j := mE3_congr e
  refine ⟨⟨fun i hi => ?_, fun i j k hi hj hk => ?_⟩, under_refl _ _⟩
  · rw [← hm i i hi hi]; exact K.closed.1.1 i hi
  · rw [← hm i j hi hj, ← hm i k hi hk, ← hm k j hk hj]; exact K.closed.1.2 i j k hi hj hk
theorem bnum_mkB (c : Int) (s : Bool) : mkB c s / 2 = c := mkB_num c s
theorem eadd_num {x y z : Int} (h : ele (some z) (eadd (some x) (some y))) : z / 2 ≤ x / 2 + y / 2 := by
  simp only [eadd, ele] at h
  split at h <;> omega
theorem num_eadd {x y z : Int} (h : ele (eadd (some x) (some y)) (some z)) : x / 2 + y / 2 ≤ z / 2 := by
  simp only [eadd, ele] at h
  split at h <;> omega
theorem eadd_someE {a b : EB} {z : Int} (h : ele (eadd a b) (some z)) : ∃ x y, a = some x ∧ b = some y := by
  cases a with
  | none => simp [eadd, ele] at h
  | some x =>
    cases b with
    | none => simp [eadd, ele] at h
    | some y => exact ⟨x, y, rfl, rfl⟩
/-- If a closed one with one bound more, and with another one that makes a hole of nothing with the first, has a number at most C, so has it. -/
theorem hole_law {n i j a b : Nat} {Q : Nat → Nat → EB} (hQ : Closed n Q) (hi : i < n) (hj : j < n) (ha : a < n) (hb : b < n) {v v' : Int} (hv : 0 ≤ v / 2 + v' / 2) {y C x1 x2 : Int} (hy : Q i j = some y)
    (h1 : ele (oneMore Q a b (some v) i j) (some x1)) (h2 : ele (oneMore Q b a (some v') i j) (some x2)) (c1 : x1 / 2 ≤ C) (c2 : x2 / 2 ≤ C) : y / 2 ≤ C := by
  unfold oneMore at h1 h2
  rw [hy] at h1 h2
  rcases emin_cases (some y) (eadd (eadd (Q i b) (some v)) (Q a j)) with e1 | ⟨e1, _⟩
  · rw [e1] at h1
    simp only [ele] at h1
    omega
  rcases emin_cases (some y) (eadd (eadd (Q i a) (some v')) (Q b j)) with e2 | ⟨e2, _⟩
  · rw [e2] at h2
    simp only [ele] at h2
    omega
  rw [e1] at h1
  rw [e2] at h2
  obtain ⟨s1, s2, g1, g2⟩ := eadd_someE h1
  obtain ⟨s3, s4, g3, g4⟩ := eadd_someE h2
  obtain ⟨s5, _, g5, g6⟩ := eadd_someE (z := s1) (by rw [g1]; exact ele_refl _)
  obtain ⟨s7, _, g7, g8⟩ := eadd_someE (z := s3) (by rw [g3]; exact ele_refl _)
  cases g6
  cases g8
  have t1 := hQ.2 i j b hi hj hb
  have t2 := hQ.2 i j a hi hj ha
  rw [hy, g5, g4] at t1
  rw [hy, g7, g2] at t2
  have n1 := eadd_num t1
  have n2 := eadd_num t2
  rw [g1, g2] at h1
  rw [g3, g4] at h2
  have n3 := num_eadd h1
  have n4 := num_eadd h2
  have n5 := num_eadd (x := s5) (y := v) (z := s1) (by rw [← g5, g1]; exact ele_refl _)
  have n6 := num_eadd (x := s7) (y := v') (z := s3) (by rw [← g7, g3]; exact ele_refl _)
  have n7 := eadd_num (x := s5) (y := v) (z := s1) (by rw [← g5, g1]; exact ele_refl _)
  have n8 := eadd_num (x := s7) (y := v') (z := s3) (by rw [← g7, g3]; exact ele_refl _)
  omega
/-- WinOrder: windows that follow one another share no pair, and lie in the one of both. -/
theorem order2_law {z b x : Nat → Int} {f m h : Int} (h1 : windowZ z f m = (b, 0)) (h2 : windowZ z m h = (x, 0)) : (meetZ b x).2 = 6 ∧ ∃ r, windowZ z f h = (r, 0) ∧ inZ b r = (true, 0) ∧ inZ x r = (true, 0) := by
  obtain ⟨hz, o1, kb, ub⟩ := window_ok h1
  obtain ⟨_, o2, kx, ux⟩ := window_ok h2
  have d1 := windowOK_bd o1
  have d2 := windowOK_bd o2
  obtain ⟨m1, m2⟩ := win_may o1
  obtain ⟨m3, m4⟩ := win_may o2
  have e4 : mkB (-m) true = otherB (mkB m false) := by unfold otherB; rw [mkB_num, mkB_str]; rfl
  have n1 : mkB m false ≠ noneB := mkB_some (by omega) (by omega)
  have n4 : mkB (-m) true ≠ noneB := mkB_some (by omega) (by omega)
  refine ⟨meet_six kb kx fun q hq hb hx => ?_, ?_⟩
  · have q1 := ((ub q hq).1 hb).2.1
    have q2 := ((ux q hq).1 hx).2.2
    rw [e4] at q2
    exact hb_other hq (t := 2) (by omega) m1 n1 q2 q1
  · have o3 : windowOK f h = true := by simp only [windowOK, fitsW, Bool.and_eq_true, decide_eq_true_eq]; omega
    have sb : ∀ q, Closed 3 q → ZU b q → ZU z q ∧ InW f h q := fun q hq hu => ⟨((ub q hq).1 hu).1, inW_wide o1 (by omega) (by omega) ((ub q hq).1 hu).2⟩
    have sx : ∀ q, Closed 3 q → ZU x q → ZU z q ∧ InW f h q := fun q hq hu => ⟨((ux q hq).1 hu).1, inW_wide o2 (by omega) (by omega) ((ux q hq).1 hu).2⟩
    obtain ⟨cb, zb⟩ := zone_self kb
    obtain ⟨cx, zx⟩ := zone_self kx
    rcases window_cases (a := f) (b := h) hz with ⟨_, r, l1, l2, l3⟩ | ⟨_, _, l2⟩ | ⟨_, l1, _⟩ | ⟨l1, _⟩
    · exact ⟨r, l1, in_of kb l2 fun q hq hu => (l3 q hq).2 (sb q hq hu), in_of kx l2 fun q hq hu => (l3 q hq).2 (sx q hq hu)⟩
    · exact absurd (sb _ cb zb) (l2 _ cb)
    · exfalso
      obtain ⟨m5, m6⟩ := win_may o3
      have ok := okD_W2 (t := 2) (s := 3) (okZ_okD hz) (by omega) (by omega) m5 m6
      have hu := fun q => under_W2 (q := q) (t := 2) (s := 3) (okZ_okD hz) (by omega) (by omega) m5 m6
      unfold windowZ at l1
      rw [if_pos hz, o3, if_pos rfl] at l1
      unfold with2Z ofZ at l1
      rw [if_pos (show okD 3 9 (zF (W2 z 2 (mkB h false) 3 (mkB (-f) true))) = true from ok), if_pos rfl] at l1
      rcases closeM_cases ok with ⟨c, hc, K⟩ | ⟨hc, hno⟩
      · rw [show closeM 3 9 (zF (W2 z 2 (mkB h false) 3 (mkB (-f) true))) = ⟨3, 9, c, 0⟩ from hc, if_pos rfl] at l1
        have hbad : okD (3 : Nat) (3 * 3) c = true := by
          refine okD_of ok fun x' hx' => ?_
          obtain ⟨i, j, hi, hj, rfl⟩ := at_place (n := 3) hx'
          have hQ := K.closed.1
          have hQz := (hu _).1 K.closed.2
          have inn : ∀ q, Closed 3 q → ZU z q ∧ InW f h q → Under 3 q (mE 3 c) := fun q hq hk => (K.iff hq).1 ((hu q).2 hk)
          have ib := inn _ cb (sb _ cb zb)
          have ix := inn _ cx (sx _ cx zx)
          have jb := (ub _ cb).1 zb
          have jx := (ux _ cx).1 zx
          -- with the end of the first window, with the start of the second
          have cB : Closed 3 (oneMore (mE 3 c) 0 2 (some (mkB m false))) := by
            refine oneMore_closed hQ (by omega) (by omega) ?_
            have a1 := ib 0 2 (by omega) (by omega)
            have a2 : ele (mE 3 (zF b) 2 0) (eb (mkB m false)) := jb.2.1
            rw [eb_some n1] at a2
            have a3 := cb.2 0 0 2 (by omega) (by omega) (by omega)
            rw [cb.1 0 (by omega)] at a3
            exact ele_trans a3 (eadd_mono a1 a2)
          have cX : Closed 3 (oneMore (mE 3 c) 2 0 (some (mkB (-m) true))) := by
            refine oneMore_closed hQ (by omega) (by omega) ?_
            have a1 := ix 2 0 (by omega) (by omega)
            have a2 : ele (mE 3 (zF x) 0 2) (eb (mkB (-m) true)) := jx.2.2
            rw [eb_some n4] at a2
            have a3 := cx.2 2 2 0 (by omega) (by omega) (by omega)
            rw [cx.1 2 (by omega)] at a3
            exact ele_trans a3 (eadd_mono a1 a2)
          obtain ⟨lb, lb2⟩ := oneMore_le (v := some (mkB m false)) hQ (i := 0) (j := 2) (by omega) (by omega)
          obtain ⟨lx, lx2⟩ := oneMore_le (v := some (mkB (-m) true)) hQ (i := 2) (j := 0) (by omega) (by omega)
          have zB : ZU b (oneMore (mE 3 c) 0 2 (some (mkB m false))) := by
            refine (ub _ cB).2 ⟨under_trans lb hQz.1, ?_, ?_⟩
            · show ele _ (eb (mkB m false)); rw [eb_some n1]; exact lb2
            · exact ele_trans (lb 0 2 (by omega) (by omega)) hQz.2.2
          have zX : ZU x (oneMore (mE 3 c) 2 0 (some (mkB (-m) true))) := by
            refine (ux _ cX).2 ⟨under_trans lx hQz.1, ?_, ?_⟩
            · exact ele_trans (lx 2 0 (by omega) (by omega)) hQz.2.1
            · show ele _ (eb (mkB (-m) true)); rw [eb_some n4]; exact lx2
          have b1 := zB i j hi hj
          have b2 := zX i j hi hj
          have b3 := ib i j hi hj
          have y1 := okD_may (okZ_okD kb) (i * 3 + j) (by have := place_lt hi hj; omega)
          have y2 := okD_may (okZ_okD kx) (i * 3 + j) (by have := place_lt hi hj; omega)
          by_cases hn : c (i * 3 + j) = noneB
          · rw [hn]; rfl
          · have hQij : mE 3 c i j = some (c (i * 3 + j)) := eb_some hn
            have nb : zF b (i * 3 + j) ≠ noneB := fun e => by
              rw [hQij] at b3
              unfold mE at b3
              rw [e, eb_none] at b3
              exact b3
            have b3' : zF b (i * 3 + j) ≤ c (i * 3 + j) := by
              rw [hQij] at b3
              unfold mE at b3
              rw [eb_some nb] at b3
              exact b3
            have nx : zF x (i * 3 + j) ≠ noneB := fun e => by
              have b4 := ix i j hi hj
              rw [hQij] at b4
              unfold mE at b4
              rw [e, eb_none] at b4
              exact b4
            have b1' : ele (oneMore (mE 3 c) 0 2 (some (mkB m false)) i j) (some (zF b (i * 3 + j))) := by
              have : ele _ (eb (zF b (i * 3 + j))) := b1
              rwa [eb_some nb] at this
            have b2' : ele (oneMore (mE 3 c) 2 0 (some (mkB (-m) true)) i j) (some (zF x (i * 3 + j))) := by
              have : ele _ (eb (zF x (i * 3 + j))) := b2
              rwa [eb_some nx] at this
            have y1' := (mayB_bd y1).resolve_left nb
            have y2' := (mayB_bd y2).resolve_left nx
            have hC := hole_law hQ hi hj (a := 0) (b := 2) (by omega) (by omega) (v := mkB m false) (v' := mkB (-m) true) (by rw [bnum_mkB, bnum_mkB]; omega) hQij b1' b2' y1'.2 y2'.2
            refine bd_mayB (.inr ⟨?_, hC⟩)
            have := y1'.1
            unfold bnum at *
            omega
        rw [toldZ_ok hbad] at l1
        simp at l1
      · rw [show closeM 3 9 (zF (W2 z 2 (mkB h false) 3 (mkB (-f) true))) = errM 6 from hc] at l1
        simp [errM] at l1
    · rw [o3] at l1; cases l1
/-- WinLess: what is in a window of a lesser zone. -/
theorem less1_law {a b x : Nat → Int} {f h : Int} (hin : inZ a b = (true, 0)) (hx : windowZ a f h = (x, 0)) : (windowZ b f h).2 ≠ 6 ∧ ((windowZ b f h).2 = 0 → inZ x (windowZ b f h).1 = (true, 0)) := by
  obtain ⟨hz, o1, kx, ux⟩ := window_ok hx
  have hb : okZ b = true := by
    cases hb : okZ b
    · rw [inZ_bad (by rw [hb, Bool.and_false])] at hin; simp at hin
    · rfl
  have sub := (in_iff hz hb).1 (by rw [inZ_ok hz hb] at hin; simpa using hin)
  obtain ⟨cx, zx⟩ := zone_self kx
  have s2 : ∀ q, Closed 3 q → ZU x q → ZU b q ∧ InW f h q := fun q hq hu => ⟨sub q hq ((ux q hq).1 hu).1, ((ux q hq).1 hu).2⟩
  rcases window_cases (a := f) (b := h) hb with ⟨_, r, l1, l2, l3⟩ | ⟨_, _, l2⟩ | ⟨_, l1, _⟩ | ⟨l1, _⟩
  · rw [l1]
    exact ⟨by simp, fun _ => in_of kx l2 fun q hq hu => (l3 q hq).2 (s2 q hq hu)⟩
  · exact absurd (s2 _ cx zx) (l2 _ cx)
  · rw [l1]; exact ⟨by simp, fun h => by simp at h⟩
  · rw [o1] at l1; cases l1
theorem less2_law {a b x : Nat → Int} {s : Sp} (hin : inZ a b = (true, 0)) (hx : withinZ a s = (x, 0)) : (withinZ b s).2 ≠ 6 ∧ ((withinZ b s).2 = 0 → inZ x (withinZ b s).1 = (true, 0)) := by
  obtain ⟨hz, o1, kx, ux⟩ := within_ok hx
  have hb : okZ b = true := by
    cases hb : okZ b
    · rw [inZ_bad (by rw [hb, Bool.and_false])] at hin; simp at hin
    · rfl
  have sub := (in_iff hz hb).1 (by rw [inZ_ok hz hb] at hin; simpa using hin)
  obtain ⟨cx, zx⟩ := zone_self kx
  have s2 : ∀ q, Closed 3 q → ZU x q → ZU b q ∧ InD s q := fun q hq hu => ⟨sub q hq ((ux q hq).1 hu).1, ((ux q hq).1 hu).2⟩
  rcases within_cases (s := s) hb with ⟨_, r, l1, l2, l3⟩ | ⟨_, _, l2⟩ | ⟨_, l1, _⟩ | ⟨l1, _⟩
  · rw [l1]
    exact ⟨by simp, fun _ => in_of kx l2 fun q hq hu => (l3 q hq).2 (s2 q hq hu)⟩
  · exact absurd (s2 _ cx zx) (l2 _ cx)
  · rw [l1]; exact ⟨by simp, fun h => by simp at h⟩
  · rw [o1] at l1; cases l1
theorem less3_law {a x : Nat → Int} {f h m : Int} (hx : windowZ a f h = (x, 0)) (hm : h ≤ m) : (windowZ a f m).2 ≠ 6 ∧ ((windowZ a f m).2 = 0 → inZ x (windowZ a f m).1 = (true, 0)) := by
  obtain ⟨hz, o1, kx, ux⟩ := window_ok hx
  obtain ⟨cx, zx⟩ := zone_self kx
  have s2 : ∀ q, Closed 3 q → ZU x q → ZU a q ∧ InW f m q := fun q hq hu => ⟨((ux q hq).1 hu).1, inW_wide o1 (by omega) hm ((ux q hq).1 hu).2⟩
  rcases window_cases (a := f) (b := m) hz with ⟨_, r, l1, l2, l3⟩ | ⟨_, _, l2⟩ | ⟨_, l1, _⟩ | ⟨_, l1⟩
  · rw [l1]
    exact ⟨by simp, fun _ => in_of kx l2 fun q hq hu => (l3 q hq).2 (s2 q hq hu)⟩
  · exact absurd (s2 _ cx zx) (l2 _ cx)
  · rw [l1]; exact ⟨by simp, fun h => by simp at h⟩
  · rw [l1]; exact ⟨by simp, fun h => by simp at h⟩

/-- Whether times are in a zone that has bounds more. -/
theorem kept_iff {r : Nat → Int} {P : (Nat → Nat → EB) → Prop} {z : Nat → Int} (hr : ∀ q, Closed 3 q → (ZU r q ↔ ZU z q ∧ P q)) {T : Nat → Int × Int} (h : ∀ i, i < 3 → 0 < (tm T i).2) :
    keptAll 3 (zF r) T = true ↔ keptAll 3 (zF z) T = true ∧ P (tmE T) := by
  rw [kept_under h, kept_under h]
  exact hr _ (tmE_closed h)
theorem inD_kept {s : Sp} (h1 : s.ok = true) {a p b q n m : Int} (hp : 0 < p) (hq : 0 < q) (hm : 0 < m) (h : n * (q * p * 1) = (b * p + -a * q) * m) (hT : ∀ i, i < 3 → 0 < (tm (pt a p b q) i).2) : InD s (tmE (pt a p b q)) ↔ s.inn (n, m) = true := by
  have hpq : 0 < p * q := Int.mul_pos hp hq
  have hqp : 0 < q * p := Int.mul_pos hq hp
  have e1 : keptB a p b q s.bel = keptB 0 1 n m s.bel := kept_of_diff hpq (by omega) (by
    rw [Int.one_mul, Int.zero_mul, Int.mul_one]
    have : (b * p + -a * q) * m = -((a * q - b * p) * m) := by rw [← Int.neg_mul]; congr 1; rw [Int.neg_mul]; omega
    rw [this, Int.mul_one, Int.mul_comm q p] at h
    have h' : (0 - n) * (p * q) = -(n * (p * q)) := by rw [← Int.neg_mul]; congr 1; omega
    rw [h', h]; omega)
  have e2 : keptB b q a p s.abo = keptB n m 0 1 s.abo := kept_of_diff hqp (by omega) (by
    rw [Int.mul_one, Int.mul_one, Int.zero_mul]
    rw [Int.mul_one] at h
    have h' : (n - 0) * (q * p) = n * (q * p) := by rw [Int.sub_zero]
    rw [h', h, Int.neg_mul, Int.sub_eq_add_neg])
  unfold InD Sp.inn inSpan
  rw [← hb_kept hT (t := 4) (by omega), ← hb_kept hT (t := 5) (by omega), Bool.and_eq_true, ← kept_below h1, ← kept_above h1, ← e1, ← e2]
  exact And.comm
theorem inW_kept {f h : Int} (h1 : windowOK f h = true) {a p b q : Int} (hT : ∀ i, i < 3 → 0 < (tm (pt a p b q) i).2) : InW f h (tmE (pt a p b q)) ↔ (cmpIn (cmpR f 1 b q) true && cmpIn (cmpR b q h 1) false) = true := by
  obtain ⟨b1, b2, b3, b4, b5⟩ := windowOK_bd h1
  unfold InW
  rw [← hb_kept hT (t := 2) (by omega), ← hb_kept hT (t := 3) (by omega), Bool.and_eq_true]
  have e1 := kept_low (lo := f) (n2 := b) (d2 := q) (ls := true) b1 b2
  have e2 := kept_high (hi := h) (n1 := b) (d1 := q) (hs := false) b3 b4
  rw [← e1, ← e2]
  exact And.comm
/-- WinPoints: a pair within a span. -/
theorem points1_law {z : Nat → Int} {s : Sp} {a p b q n m : Int} (hz : okZ z = true) (hr : allRat 2 (pt a p b q) = true) (hm : 0 < m) (h : n * (q * p * 1) = (b * p + -a * q) * m) :
    ((withinZ z s).2 = 0 → s.ok = true ∧ hasZ (withinZ z s).1 (pt a p b q) = (keptAll 3 (zF z) (pt a p b q) && s.inn (n, m), 0)) ∧
    ((withinZ z s).2 = 6 → s.ok = true ∧ (keptAll 3 (zF z) (pt a p b q) && s.inn (n, m)) = false) := by
  have hT : ∀ i, i < 3 → 0 < (tm (pt a p b q) i).2 := fun i hi => tm_pos hr i (by omega)
  have hp : 0 < p := hT 1 (by omega)
  have hq : 0 < q := hT 2 (by omega)
  rcases within_cases (s := s) hz with ⟨o, r, l1, l2, l3⟩ | ⟨o, l1, l2⟩ | ⟨_, l1, _⟩ | ⟨_, l1⟩
  · rw [l1]
    refine ⟨fun _ => ⟨o, ?_⟩, fun h => by simp at h⟩
    rw [hasZ_of l2 hr]
    congr 1
    rw [Bool.eq_iff_iff, Bool.and_eq_true, kept_iff l3 hT, inD_kept o hp hq hm h hT]
  · rw [l1]
    refine ⟨fun h => by simp at h, fun _ => ⟨o, ?_⟩⟩
    rw [← Bool.not_eq_true, Bool.and_eq_true, kept_under hT, ← inD_kept o hp hq hm h hT]
    exact l2 _ (tmE_closed hT)
  · rw [l1]; exact ⟨fun h => by simp at h, fun h => by simp at h⟩
  · rw [l1]; exact ⟨fun h => by simp at h, fun h => by simp at h⟩
/-- WinPoints: a pair in a window. -/
theorem points2_law {z : Nat → Int} {f e : Int} {a p b q : Int} (hz : okZ z = true) (hr : allRat 2 (pt a p b q) = true) :
    ((windowZ z f e).2 = 0 → windowOK f e = true ∧ hasZ (windowZ z f e).1 (pt a p b q) = (keptAll 3 (zF z) (pt a p b q) && (cmpIn (cmpR f 1 b q) true && cmpIn (cmpR b q e 1) false), 0)) ∧
    ((windowZ z f e).2 = 6 → windowOK f e = true ∧ (keptAll 3 (zF z) (pt a p b q) && (cmpIn (cmpR f 1 b q) true && cmpIn (cmpR b q e 1) false)) = false) := by
  have hT : ∀ i, i < 3 → 0 < (tm (pt a p b q) i).2 := fun i hi => tm_pos hr i (by omega)
  rcases window_cases (a := f) (b := e) hz with ⟨o, r, l1, l2, l3⟩ | ⟨o, l1, l2⟩ | ⟨_, l1, _⟩ | ⟨_, l1⟩
  · rw [l1]
    refine ⟨fun _ => ⟨o, ?_⟩, fun h => by simp at h⟩
    rw [hasZ_of l2 hr]
    congr 1
    rw [Bool.eq_iff_iff, Bool.and_eq_true, kept_iff l3 hT, inW_kept o hT]
  · rw [l1]
    refine ⟨fun h => by simp at h, fun _ => ⟨o, ?_⟩⟩
    rw [← Bool.not_eq_true, Bool.and_eq_true, kept_under hT, ← inW_kept o hT]
    exact l2 _ (tmE_closed hT)
  · rw [l1]; exact ⟨fun h => by simp at h, fun h => by simp at h⟩
  · rw [l1]; exact ⟨fun h => by simp at h, fun h => by simp at h⟩
theorem mF_eq {a b : Nat → Int} (h : ∀ i, i < 6 → a i = b i) : ∀ t, t ≤ 6 → mF a t = mF b t
  | 0, _ => rfl
  | t + 1, ht => by
    show upd (mF a t) (placeZ t) (a t) = upd (mF b t) (placeZ t) (b t)
    rw [mF_eq h t (by omega), h t (by omega)]
theorem zF_eq {a b : Nat → Int} (h : ∀ i, i < 6 → a i = b i) : zF a = zF b := mF_eq h 6 (by omega)
theorem okZ_eq {a b : Nat → Int} (h : ∀ i, i < 6 → a i = b i) : okZ a = okZ b := by unfold okZ; rw [zF_eq h]
theorem mvB_ne {x n : Int} (hx : mayB x = true) (hn : fitsW n = true) (h : x ≠ noneB) : mvB x n ≠ noneB := by
  have h1 := (mayB_bd hx).resolve_left h
  have h2 := fitsW_bd hn
  unfold mvB
  rw [if_neg h]
  unfold bnum at h1
  unfold noneB
  omega
theorem mvB_back {x n : Int} (hx : mayB x = true) (hn : fitsW n = true) : mvB (mvB x n) (-n) = x := by
  by_cases h : x = noneB
  · subst h; rfl
  · have h1 := mvB_ne hx hn h
    unfold mvB at h1 ⊢
    rw [if_neg h] at h1 ⊢
    rw [if_neg h1]; omega
theorem fitsW_neg {n : Int} (h : fitsW n = true) : fitsW (-n) = true := by
  have := fitsW_bd h
  simp only [fitsW, Bool.and_eq_true, decide_eq_true_eq]; omega
theorem mov_back {z : Nat → Int} {n : Int} (hz : okZ z = true) (hn : fitsW n = true) : ∀ i, i < 6 → movZ (movZ z n) (-n) i = z i := by
  intro i hi
  rcases six hi with rfl | rfl | rfl | rfl | rfl | rfl
  · exact mvB_back (okZ_may hz (by omega)) hn
  · show mvB (mvB (z 1) (-n)) (-(-n)) = z 1
    exact mvB_back (okZ_may hz (by omega)) (fitsW_neg hn)
  · exact mvB_back (okZ_may hz (by omega)) hn
  · show mvB (mvB (z 3) (-n)) (-(-n)) = z 3
    exact mvB_back (okZ_may hz (by omega)) (fitsW_neg hn)
  · rfl
  · rfl
theorem shift_ok {z a : Nat → Int} {n : Int} (h : shiftZ z n = (a, 0)) : okZ z = true ∧ fitsW n = true ∧ okZ (movZ z n) = true ∧ a = movZ z n := by
  unfold shiftZ at h
  cases h1 : okZ z
  · rw [h1] at h; simp at h
  cases h2 : fitsW n
  · rw [h1, h2] at h; simp at h
  cases h3 : okZ (movZ z n)
  · rw [h1, h2, h3] at h; simp at h
  · rw [h1, h2, h3] at h
    simp only [if_true, Prod.mk.injEq, and_true] at h
    exact ⟨rfl, rfl, rfl, h.symm⟩
theorem shift_err {z : Nat → Int} {n : Int} (h : (shiftZ z n).2 ≠ 0) : (shiftZ z n).1 = fun _ => 0 := by
  unfold shiftZ at *
  split
  · split
    · split
      · rename_i h1 h2 h3
        rw [if_pos h1, if_pos h2, if_pos h3] at h; exact absurd rfl h
      · rfl
    · rfl
  · rfl
/-- WinShifts: later, and as much sooner. -/
theorem shift_back {z a : Nat → Int} {n : Int} (h : shiftZ z n = (a, 0)) : (shiftZ a (-n)).2 = 0 ∧ ∀ i, i < 6 → (shiftZ a (-n)).1 i = z i := by
  obtain ⟨h1, h2, h3, rfl⟩ := shift_ok h
  have h4 : okZ (movZ (movZ z n) (-n)) = true := by rw [okZ_eq (mov_back h1 h2)]; exact h1
  unfold shiftZ
  rw [if_pos h3, if_pos (fitsW_neg h2), if_pos h4]
  exact ⟨rfl, mov_back h1 h2⟩
theorem kept_move {n1 d1 n2 d2 m1 e1 m2 e2 x n : Int} (hx : mayB x = true) (hn : fitsW n = true) (h1 : 0 < d1 * d2) (h2 : 0 < e1 * e2) (h : (m1 * e2 - m2 * e1) * (d1 * d2) = (n1 * d2 - n2 * d1 - n * (d1 * d2)) * (e1 * e2)) :
    keptB n1 d1 n2 d2 (mvB x n) = keptB m1 e1 m2 e2 x := by
  by_cases hne : x = noneB
  · subst hne
    rw [show mvB noneB n = noneB from rfl, keptB_noneB, keptB_noneB]
  · have h3 := mvB_ne hx hn hne
    unfold keptB
    rw [decide_eq_false h3, decide_eq_false hne, Bool.false_or, Bool.false_or]
    have b1 : bnum (mvB x n) = bnum x + n := by unfold mvB bnum; rw [if_neg hne]; omega
    have b2 : bstr (mvB x n) = bstr x := by
      unfold mvB bstr; rw [if_neg hne]
      congr 1
      rw [eq_iff_iff]; omega
    rw [b1, b2]
    obtain ⟨A, hA⟩ : ∃ A, A = n1 * d2 - n2 * d1 := ⟨_, rfl⟩
    obtain ⟨B, hB⟩ : ∃ A, A = m1 * e2 - m2 * e1 := ⟨_, rfl⟩
    obtain ⟨E, hE⟩ : ∃ A, A = d1 * d2 := ⟨_, rfl⟩
    obtain ⟨F, hF⟩ : ∃ A, A = e1 * e2 := ⟨_, rfl⟩
    rw [← hA, ← hB, ← hE, ← hF] at h
    rw [← hE] at h1
    rw [← hF] at h2
    rw [← hA, ← hB, ← hE, ← hF]
    clear hA hB hE hF
    have r : bnum x * E * F = bnum x * F * E := Int.mul_right_comm _ _ _
    have k1 : A < (bnum x + n) * E ↔ A - n * E < bnum x * E := by rw [Int.add_mul]; omega
    have k2 : A = (bnum x + n) * E ↔ A - n * E = bnum x * E := by rw [Int.add_mul]; omega
    have k3 : A - n * E < bnum x * E ↔ B < bnum x * F := by rw [mul_lt_pos h2, mul_lt_pos (a := B) h1, h, r]
    have k4 : A - n * E = bnum x * E ↔ B = bnum x * F := by rw [mul_eq_pos h2, mul_eq_pos (a := B) h1, h, r]
    rw [Bool.eq_iff_iff]
    simp only [Bool.or_eq_true, Bool.and_eq_true, decide_eq_true_eq, k1, k2, k3, k4]
/-- WinShifts: the points of a later zone. -/
theorem shift_points {z : Nat → Int} {n a p b q t e u f : Int} (hz : okZ z = true) (hn : fitsW n = true) (hp : 0 < p) (hq : 0 < q) (he : 0 < e) (hf : 0 < f) (h1 : t * (p * 1 * 1) = (a * 1 + -n * p) * e) (h2 : u * (q * 1 * 1) = (b * 1 + -n * q) * f) :
    keptAll 3 (zF (movZ z n)) (pt a p b q) = keptAll 3 (zF z) (pt t e u f) := by
  simp only [Int.mul_one] at h1 h2
  obtain ⟨a0, a1, a2, a3, a4, a5, a6, a7, a8⟩ := zF_vals (movZ z n)
  obtain ⟨b0, b1, b2, b3, b4, b5, b6, b7, b8⟩ := zF_vals z
  have pq : 0 < p * q := Int.mul_pos hp hq
  have qp : 0 < q * p := Int.mul_pos hq hp
  have ef : 0 < e * f := Int.mul_pos he hf
  have fe : 0 < f * e := Int.mul_pos hf he
  have m := fun i (hi : i < 6) => okZ_may hz hi
  have hn' := fitsW_neg hn
  have nn : -(-n) = n := by omega
  -- places
  have k3 : keptB a p 0 1 (mvB (z 0) n) = keptB t e 0 1 (z 0) := kept_move (m 0 (by omega)) hn (by omega) (by omega) (by
    simp only [Int.mul_one, Int.zero_mul, Int.sub_zero]; rw [h1, Int.neg_mul, Int.sub_eq_add_neg])
  have k6 : keptB b q 0 1 (mvB (z 2) n) = keptB u f 0 1 (z 2) := kept_move (m 2 (by omega)) hn (by omega) (by omega) (by
    simp only [Int.mul_one, Int.zero_mul, Int.sub_zero]; rw [h2, Int.neg_mul, Int.sub_eq_add_neg])
  have k1 : keptB 0 1 a p (mvB (z 1) (-n)) = keptB 0 1 t e (z 1) := kept_move (m 1 (by omega)) hn' (by omega) (by omega) (by
    simp only [Int.one_mul, Int.zero_mul, Int.mul_one, Int.zero_sub]
    rw [Int.neg_mul, h1, ← Int.neg_mul]; congr 1; simp only [Int.neg_mul]; omega)
  have k2 : keptB 0 1 b q (mvB (z 3) (-n)) = keptB 0 1 u f (z 3) := kept_move (m 3 (by omega)) hn' (by omega) (by omega) (by
    simp only [Int.one_mul, Int.zero_mul, Int.mul_one, Int.zero_sub]
    rw [Int.neg_mul, h2, ← Int.neg_mul]; congr 1; simp only [Int.neg_mul]; omega)
  -- the difference is as it was
  have hd : (t * f - u * e) * (p * q) = (a * q - b * p) * (e * f) := by
    have x1 : t * f * (p * q) = (a + -n * p) * e * (f * q) := by rw [← h1]; simp only [Int.mul_assoc]; congr 1; rw [← Int.mul_assoc, ← Int.mul_assoc, Int.mul_comm f p, Int.mul_assoc]
    have x2 : u * e * (p * q) = (b + -n * q) * f * (e * p) := by rw [← h2, Int.mul_comm p q]; simp only [Int.mul_assoc]; congr 1; rw [← Int.mul_assoc, ← Int.mul_assoc, Int.mul_comm e q, Int.mul_assoc]
    have x3 : (a + -n * p) * e * (f * q) = a * q * (e * f) + -n * (p * q) * (e * f) := by
      rw [Int.add_mul, Int.add_mul]
      congr 1
      · simp only [Int.mul_assoc]; congr 1; rw [← Int.mul_assoc, Int.mul_comm]
      · simp only [Int.mul_assoc]; congr 2; rw [← Int.mul_assoc, Int.mul_comm]
    have x4 : (b + -n * q) * f * (e * p) = b * p * (e * f) + -n * (p * q) * (e * f) := by
      rw [Int.add_mul, Int.add_mul]
      congr 1
      · simp only [Int.mul_assoc]; congr 1; rw [← Int.mul_assoc, Int.mul_comm f e, Int.mul_comm]
      · rw [Int.mul_comm p q]; simp only [Int.mul_assoc]; congr 2; rw [← Int.mul_assoc, Int.mul_comm f e, Int.mul_comm]
    rw [Int.sub_mul, Int.sub_mul, x1, x2, x3, x4]; omega
  have k7 : keptB b q a p (z 4) = keptB u f t e (z 4) := kept_of_diff qp fe (by
    rw [Int.mul_comm q p, Int.mul_comm f e]
    have y1 : (b * p - a * q) * (e * f) = -((a * q - b * p) * (e * f)) := by rw [← Int.neg_mul]; congr 1; omega
    have y2 : (u * e - t * f) * (p * q) = -((t * f - u * e) * (p * q)) := by rw [← Int.neg_mul]; congr 1; omega
    rw [y1, y2, hd])
  have k5 : keptB a p b q (z 5) = keptB t e u f (z 5) := kept_of_diff pq ef hd.symm
  rw [Bool.eq_iff_iff, keptAll_iff, keptAll_iff]
  have key : ∀ i j, i < 3 → j < 3 → keptB (tm (pt a p b q) i).1 (tm (pt a p b q) i).2 (tm (pt a p b q) j).1 (tm (pt a p b q) j).2 (zF (movZ z n) (i * 3 + j)) = keptB (tm (pt t e u f) i).1 (tm (pt t e u f) i).2 (tm (pt t e u f) j).1 (tm (pt t e u f) j).2 (zF z (i * 3 + j)) := by
    intro i j hi hj
    have hi : i = 0 ∨ i = 1 ∨ i = 2 := by omega
    have hj : j = 0 ∨ j = 1 ∨ j = 2 := by omega
    rcases hi with rfl | rfl | rfl <;> rcases hj with rfl | rfl | rfl
    · show keptB _ _ _ _ (zF (movZ z n) 0) = keptB _ _ _ _ (zF z 0)
      rw [a0, b0, kept_self, kept_self]
    · show keptB _ _ _ _ (zF (movZ z n) 1) = keptB _ _ _ _ (zF z 1)
      rw [a1, b1]; exact k1
    · show keptB _ _ _ _ (zF (movZ z n) 2) = keptB _ _ _ _ (zF z 2)
      rw [a2, b2]; exact k2
    · show keptB _ _ _ _ (zF (movZ z n) 3) = keptB _ _ _ _ (zF z 3)
      rw [a3, b3]; exact k3
    · show keptB _ _ _ _ (zF (movZ z n) 4) = keptB _ _ _ _ (zF z 4)
      rw [a4, b4]; rw [show tm (pt a p b q) 1 = (a, p) from rfl, show tm (pt t e u f) 1 = (t, e) from rfl, kept_self, kept_self]
    · show keptB _ _ _ _ (zF (movZ z n) 5) = keptB _ _ _ _ (zF z 5)
      rw [a5, b5]; exact k5
    · show keptB _ _ _ _ (zF (movZ z n) 6) = keptB _ _ _ _ (zF z 6)
      rw [a6, b6]; exact k6
    · show keptB _ _ _ _ (zF (movZ z n) 7) = keptB _ _ _ _ (zF z 7)
      rw [a7, b7]; exact k7
    · show keptB _ _ _ _ (zF (movZ z n) 8) = keptB _ _ _ _ (zF z 8)
      rw [a8, b8]; rw [show tm (pt a p b q) 2 = (b, q) from rfl, show tm (pt t e u f) 2 = (u, f) from rfl, kept_self, kept_self]
  exact ⟨fun h i j hi hj => by rw [← key i j hi hj]; exact h i j hi hj, fun h i j hi hj => by rw [key i j hi hj]; exact h i j hi hj⟩
end Go.Proofs.Ytbgbhfcnadjhdaa
