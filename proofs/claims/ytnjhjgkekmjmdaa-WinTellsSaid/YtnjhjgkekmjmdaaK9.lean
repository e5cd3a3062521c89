/- Contracts of the document's Within, Window and Shift; they are the code's. No condition. -/
import Derived.Test.YtnjhjgkekmjmdaaK8
namespace Go.Proofs.Ytnjhjgkekmjmdaa
set_option linter.unusedSimpArgs false
set_option linter.unusedVariables false
open Go Go.RowKit Go.Shelf
attribute [local go_sem] Nat.add_assoc Nat.add_lt_add_iff_left lit_lt_add

def withinD (z : Nat → Int) (s : Sp) : (Nat → Int) × Int := if okZ z && s.ok then zoneM (closeM 3 9 (lessF (zF z) (zF (onlyD s.abo s.bel)))) else (fun _ => 0, 8)
def windowD (z : Nat → Int) (a b : Int) : (Nat → Int) × Int := if okZ z then (if windowOK a b then zoneM (closeM 3 9 (lessF (zF z) (zF (onlyW (mkB b false) (mkB (-a) true))))) else (fun _ => 0, 2)) else (fun _ => 0, 8)
theorem onlyD_ok {x y : Int} (hx : mayB x = true) (hy : mayB y = true) : okD (3 : Nat) (3 * 3) (zF (onlyD x y)) = true := by
  obtain ⟨a0, a1, a2, a3, a4, a5, a6, a7, a8⟩ := zF_vals (onlyD x y)
  refine okD_of (f := topF 3) (by decide) fun i hi => ?_
  rcases nine (by omega : i < 9) with rfl | rfl | rfl | rfl | rfl | rfl | rfl | rfl | rfl
  · rw [a0]; rfl
  · rw [a1]; rfl
  · rw [a2]; rfl
  · rw [a3]; rfl
  · rw [a4]; rfl
  · rw [a5]; exact hy
  · rw [a6]; rfl
  · rw [a7]; exact hx
  · rw [a8]; rfl
theorem onlyW_ok {x y : Int} (hx : mayB x = true) (hy : mayB y = true) : okD (3 : Nat) (3 * 3) (zF (onlyW x y)) = true := by
  obtain ⟨a0, a1, a2, a3, a4, a5, a6, a7, a8⟩ := zF_vals (onlyW x y)
  refine okD_of (f := topF 3) (by decide) fun i hi => ?_
  rcases nine (by omega : i < 9) with rfl | rfl | rfl | rfl | rfl | rfl | rfl | rfl | rfl
  · rw [a0]; rfl
  · rw [a1]; rfl
  · rw [a2]; exact hy
  · rw [a3]; rfl
  · rw [a4]; rfl
  · rw [a5]; rfl
  · rw [a6]; exact hx
  · rw [a7]; rfl
  · rw [a8]; rfl
theorem zoneM_of {f : Nat → Int} (ok : okD (3 : Nat) (3 * 3) f = true) : zoneM (closeM 3 9 f) = ofZ 3 9 f := by
  unfold zoneM ofZ
  rw [if_pos (show okD 3 9 f = true from ok), if_pos rfl]
  rcases closeM_cases ok with ⟨c, hc, _⟩ | ⟨hc, _⟩
  · rw [show closeM 3 9 f = ⟨3, 9, c, 0⟩ from hc]; rfl
  · rw [show closeM 3 9 f = errM 6 from hc]; rfl
/-- A zone and two bounds alone: closed ones. -/
theorem less_only {z oz : Nat → Int} (hz : okZ z = true) (ho : okD (3 : Nat) (3 * 3) (zF oz) = true) {q : Nat → Nat → EB} : Under 3 q (mE 3 (lessF (zF z) (zF oz))) ↔ ZU z q ∧ ZU oz q := under_less (okZ_le hz) (okD_le ho)
theorem hb_noneB (q : Nat → Nat → EB) : ∀ i j, ele (q i j) (eb noneB) := fun i j => by rw [eb_none]; exact ele_none _
theorem within_doc (z : Nat → Int) (s : Sp) : withinZ z s = withinD z s := by
  unfold withinD
  cases hz : okZ z
  · rw [within_bad hz]; rfl
  rw [Bool.true_and]
  cases h1 : s.ok
  · rcases within_cases (s := s) hz with ⟨h, _⟩ | ⟨h, _⟩ | ⟨h, _⟩ | ⟨_, h⟩
    · rw [h1] at h; cases h
    · rw [h1] at h; cases h
    · rw [h1] at h; cases h
    · rw [h]; rfl
  · have ma : mayB s.abo = true := aboveB_may h1
    have mb : mayB s.bel = true := belowB_may h1
    have ho := onlyD_ok ma mb
    have ok := okD_less (okZ_okD hz) ho
    have key : ∀ q, Closed 3 q → (Under 3 q (mE 3 (lessF (zF z) (zF (onlyD s.abo s.bel)))) ↔ ZU z q ∧ InD s q) := fun q hq => by
      rw [less_only hz ho, ← satQ_zone hq (b := onlyD s.abo s.bel)]
      simp only [satQ, and_true]
      constructor
      · rintro ⟨x1, _, _, _, _, x2, x3⟩
        exact ⟨x1, x2, x3⟩
      · rintro ⟨x1, x2, x3⟩
        exact ⟨x1, hb_noneB q _ _, hb_noneB q _ _, hb_noneB q _ _, hb_noneB q _ _, x2, x3⟩
    rw [if_pos rfl, zoneM_of ok]
    by_cases he : s.bw.e = 0
    · unfold withinZ
      rw [if_pos hz, if_pos he]
      refine ofZ_eq (okD_W2 (okZ_okD hz) (by omega) (by omega) ma mb) ok fun q hq => ?_
      rw [under_W2 (okZ_okD hz) (by omega) (by omega) ma mb, key q hq]
      exact Iff.rfl
    · rcases within_cases (s := s) hz with ⟨_, r, l1, _⟩ | ⟨_, l1, l2⟩ | ⟨_, l1, _⟩ | ⟨h, _⟩
      · unfold withinZ at l1
        rw [if_pos hz, if_neg he] at l1
        simp only [Prod.mk.injEq] at l1
        exact absurd l1.2 he
      · rw [l1]
        rcases ofZ_cases ok with ⟨r, _, k2, k3⟩ | ⟨k1, _⟩ | ⟨_, q, k2, k3⟩
        · obtain ⟨c1, c2⟩ := okZ_some k2
          exact absurd ((key _ c2.1).1 ((k3 _ c2.1).1 c2.2)) (l2 _ c2.1)
        · rw [k1]
        · exact absurd ((key _ k2).1 k3) (l2 _ k2)
      · unfold withinZ at l1
        rw [if_pos hz, if_neg he] at l1
        rcases bw_cases s with ⟨h, _⟩ | ⟨_, h⟩ | ⟨_, h, _⟩
        · rw [h1] at h; cases h
        · rw [h] at l1; simp at l1
        · exact absurd h he
      · rw [h1] at h; cases h
theorem window_doc (z : Nat → Int) (a b : Int) : windowZ z a b = windowD z a b := by
  unfold windowD
  cases hz : okZ z
  · rw [window_bad hz]; rfl
  rw [if_pos rfl]
  cases h1 : windowOK a b
  · rw [window_arg hz h1]; rfl
  · obtain ⟨m1, m2⟩ := win_may h1
    have ho := onlyW_ok m1 m2
    have ok := okD_less (okZ_okD hz) ho
    rw [if_pos rfl, zoneM_of ok]
    unfold windowZ
    rw [if_pos hz, if_pos h1]
    refine ofZ_eq (okD_W2 (okZ_okD hz) (by omega) (by omega) m1 m2) ok fun q hq => ?_
    rw [under_W2 (okZ_okD hz) (by omega) (by omega) m1 m2, less_only hz ho, ← satQ_zone hq (b := onlyW (mkB b false) (mkB (-a) true))]
    simp only [satQ, and_true]
    constructor
    · rintro ⟨x1, x2, x3⟩
      exact ⟨x1, hb_noneB q _ _, hb_noneB q _ _, x2, x3, hb_noneB q _ _, hb_noneB q _ _⟩
    · rintro ⟨x1, _, _, x2, x3, _, _⟩
      exact ⟨x1, x2, x3⟩
set_option maxRecDepth 10000 in
set_option maxHeartbeats 4000000 in
theorem within10_any (z : Nat → Int) (s : Sp) (w : World) (hz : FitsZ z) (wlo : fits64 s.lo) (whi : fits64 s.hi) : Calls Try.prog 38 #[zoneV z, .agg #[.int .i64 s.lo, .bool s.ls, .int .i64 s.hi, .bool s.hs, .bool s.op]] w (Gives w (zoneR (withinD z s).1 (withinD z s).2)) := by
  have MY : Hid (∀ w, Calls Try.prog 83 #[.agg #[.int .i64 (z 0), .int .i64 (z 1), .int .i64 (z 2), .int .i64 (z 3), .int .i64 (z 4), .int .i64 (z 5)]] w (Gives w (.bool (okZ z)))) := fun w => may8_any z w hz
  have MS : Hid (∀ w, Calls Try.prog 80 #[.agg #[.int .i64 s.lo, .bool s.ls, .int .i64 s.hi, .bool s.hs, .bool s.op]] w (Gives w (.bool s.ok))) := fun w => maySpan_any s.lo s.ls s.hi s.hs s.op w wlo whi
  have SN0 := fun w (h1 : s.ok = true) (h2 : okZ z = true) => spanned_any z s w h1 (okZ_okD h2) (onlyD_ok (aboveB_may h1) (belowB_may h1))
  unfold withinD
  obtain ⟨⟨r, e0⟩, hr⟩ : ∃ r, r = zoneM (closeM 3 9 (lessF (zF z) (zF (onlyD s.abo s.bel)))) := ⟨_, rfl⟩
  rw [← hr] at SN0 ⊢
  have SN : Hid (∀ w, s.ok = true → okZ z = true → Calls Try.prog 95 #[.agg #[.int .i64 (z 0), .int .i64 (z 1), .int .i64 (z 2), .int .i64 (z 3), .int .i64 (z 4), .int .i64 (z 5)], .agg #[.int .i64 s.lo, .bool s.ls, .int .i64 s.hi, .bool s.hs, .bool s.op]] w (Gives w (.tuple #[.agg #[.int .i64 (r 0), .int .i64 (r 1), .int .i64 (r 2), .int .i64 (r 3), .int .i64 (r 4), .int .i64 (r 5)], .int .i64 e0]))) := SN0
  obtain ⟨k, hk⟩ : ∃ k, k = okZ z := ⟨_, rfl⟩
  obtain ⟨m, hm⟩ : ∃ k, k = s.ok := ⟨_, rfl⟩
  rw [← hk] at MY SN ⊢
  rw [← hm] at MS SN ⊢
  clear hz wlo whi SN0 hr hk hm
  unfold zoneR zoneV
  cases k
  · clear SN MS
    go_enter Try.func38, Try.ntmps38
    go_wp2_with (fail)
    refine (MY.out _).mono ?_; rintro e w' ⟨rfl, q1, rfl⟩
    go_wp2
    go_returns
    exact gives_end rfl (by (repeat' (first | (with_reducible assumption) | (with_reducible exact Below.refl _ _) | (with_reducible refine below_wov ?_ ?_ _) | (with_reducible refine below_drewN ?_ _) | (with_reducible refine Below.drew ?_) | (with_reducible refine Below.alloc ?_ ?_ _) | (with_reducible refine Below.setCell ?_ ?_ _) | (with_reducible exact Nat.le_refl _) | omega | (simp only [World.size_alloc, World.size_setCell, World.size_drew, Wov_size, World.heap_drewN]; omega))))
  · cases m
    · clear SN
      go_enter Try.func38, Try.ntmps38
      go_wp2_with (fail)
      refine (MY.out _).mono ?_; rintro e w' ⟨rfl, q1, rfl⟩
      go_wp2_with (fail)
      refine (MS.out _).mono ?_; rintro e w' ⟨rfl, q2, rfl⟩
      go_wp2
      go_returns
      exact gives_end rfl (by (repeat' (first | (with_reducible assumption) | (with_reducible exact Below.refl _ _) | (with_reducible refine below_wov ?_ ?_ _) | (with_reducible refine below_drewN ?_ _) | (with_reducible refine Below.drew ?_) | (with_reducible refine Below.alloc ?_ ?_ _) | (with_reducible refine Below.setCell ?_ ?_ _) | (with_reducible exact Nat.le_refl _) | omega | (simp only [World.size_alloc, World.size_setCell, World.size_drew, Wov_size, World.heap_drewN]; omega))))
    · have SN2 := Lib.hid (fun w => SN.out w rfl rfl)
      clear SN
      go_enter Try.func38, Try.ntmps38
      go_wp2_with (fail)
      refine (MY.out _).mono ?_; rintro e w' ⟨rfl, q1, rfl⟩
      go_wp2_with (fail)
      refine (MS.out _).mono ?_; rintro e w' ⟨rfl, q2, rfl⟩
      go_wp2_with (fail)
      refine (SN2.out _).mono ?_; rintro e w' ⟨rfl, q3, rfl⟩
      go_wp2
      go_returns
      exact gives_end rfl (by (repeat' (first | (with_reducible assumption) | (with_reducible exact Below.refl _ _) | (with_reducible refine below_wov ?_ ?_ _) | (with_reducible refine below_drewN ?_ _) | (with_reducible refine Below.drew ?_) | (with_reducible refine Below.alloc ?_ ?_ _) | (with_reducible refine Below.setCell ?_ ?_ _) | (with_reducible exact Nat.le_refl _) | omega | (simp only [World.size_alloc, World.size_setCell, World.size_drew, Wov_size, World.heap_drewN]; omega))))
set_option maxRecDepth 10000 in
set_option maxHeartbeats 4000000 in
theorem window10_any (z : Nat → Int) (a b : Int) (w : World) (hz : FitsZ z) : Calls Try.prog 40 #[zoneV z, .int .i64 a, .int .i64 b] w (Gives w (zoneR (windowD z a b).1 (windowD z a b).2)) := by
  have MY : Hid (∀ w, Calls Try.prog 83 #[.agg #[.int .i64 (z 0), .int .i64 (z 1), .int .i64 (z 2), .int .i64 (z 3), .int .i64 (z 4), .int .i64 (z 5)]] w (Gives w (.bool (okZ z)))) := fun w => may8_any z w hz
  have FA := Lib.hid (in10_any a)
  have FB := Lib.hid (in10_any b)
  have SN0 := fun w (h1 : windowOK a b = true) (h2 : okZ z = true) => windowed_any z a b w h1 (okZ_okD h2) (onlyW_ok (win_may h1).1 (win_may h1).2)
  unfold windowD
  obtain ⟨⟨r, e0⟩, hr⟩ : ∃ r, r = zoneM (closeM 3 9 (lessF (zF z) (zF (onlyW (mkB b false) (mkB (-a) true))))) := ⟨_, rfl⟩
  rw [← hr] at SN0 ⊢
  have SN : Hid (∀ w, windowOK a b = true → okZ z = true → Calls Try.prog 100 #[.agg #[.int .i64 (z 0), .int .i64 (z 1), .int .i64 (z 2), .int .i64 (z 3), .int .i64 (z 4), .int .i64 (z 5)], .int .i64 a, .int .i64 b] w (Gives w (.tuple #[.agg #[.int .i64 (r 0), .int .i64 (r 1), .int .i64 (r 2), .int .i64 (r 3), .int .i64 (r 4), .int .i64 (r 5)], .int .i64 e0]))) := SN0
  obtain ⟨k, hk⟩ : ∃ k, k = okZ z := ⟨_, rfl⟩
  rw [← hk] at MY SN ⊢
  clear hz SN0 hr hk
  unfold zoneR zoneV
  cases k
  · clear SN FA FB
    go_enter Try.func40, Try.ntmps40
    go_wp2_with (fail)
    refine (MY.out _).mono ?_; rintro e w' ⟨rfl, q1, rfl⟩
    go_wp2
    go_returns
    exact gives_end rfl (by (repeat' (first | (with_reducible assumption) | (with_reducible exact Below.refl _ _) | (with_reducible refine below_wov ?_ ?_ _) | (with_reducible refine below_drewN ?_ _) | (with_reducible refine Below.drew ?_) | (with_reducible refine Below.alloc ?_ ?_ _) | (with_reducible refine Below.setCell ?_ ?_ _) | (with_reducible exact Nat.le_refl _) | omega | (simp only [World.size_alloc, World.size_setCell, World.size_drew, Wov_size, World.heap_drewN]; omega))))
  · cases k1 : fitsW a
    · have e : windowOK a b = false := by unfold windowOK; rw [k1]; rfl
      rw [k1] at FA
      rw [e, if_pos rfl, if_neg (by decide)]
      clear SN FB e k1
      go_enter Try.func40, Try.ntmps40
      go_wp2_with (fail)
      refine (MY.out _).mono ?_; rintro e w' ⟨rfl, q1, rfl⟩
      go_wp2_with (fail)
      refine (FA.out _).mono ?_; rintro e w' ⟨rfl, q2, rfl⟩
      go_wp2
      go_returns
      exact gives_end rfl (by (repeat' (first | (with_reducible assumption) | (with_reducible exact Below.refl _ _) | (with_reducible refine below_wov ?_ ?_ _) | (with_reducible refine below_drewN ?_ _) | (with_reducible refine Below.drew ?_) | (with_reducible refine Below.alloc ?_ ?_ _) | (with_reducible refine Below.setCell ?_ ?_ _) | (with_reducible exact Nat.le_refl _) | omega | (simp only [World.size_alloc, World.size_setCell, World.size_drew, Wov_size, World.heap_drewN]; omega))))
    · rw [k1] at FA
      cases k2 : fitsW b
      · have e : windowOK a b = false := by unfold windowOK; rw [k1, k2]; rfl
        rw [k2] at FB
        rw [e, if_pos rfl, if_neg (by decide)]
        clear SN e k1 k2
        go_enter Try.func40, Try.ntmps40
        go_wp2_with (fail)
        refine (MY.out _).mono ?_; rintro e w' ⟨rfl, q1, rfl⟩
        go_wp2_with (fail)
        refine (FA.out _).mono ?_; rintro e w' ⟨rfl, q2, rfl⟩
        go_wp2_with (fail)
        refine (FB.out _).mono ?_; rintro e w' ⟨rfl, q3, rfl⟩
        go_wp2
        go_returns
        exact gives_end rfl (by (repeat' (first | (with_reducible assumption) | (with_reducible exact Below.refl _ _) | (with_reducible refine below_wov ?_ ?_ _) | (with_reducible refine below_drewN ?_ _) | (with_reducible refine Below.drew ?_) | (with_reducible refine Below.alloc ?_ ?_ _) | (with_reducible refine Below.setCell ?_ ?_ _) | (with_reducible exact Nat.le_refl _) | omega | (simp only [World.size_alloc, World.size_setCell, World.size_drew, Wov_size, World.heap_drewN]; omega))))
      · rw [k2] at FB
        by_cases hab : a < b
        · have e : windowOK a b = true := by unfold windowOK; rw [k1, k2, decide_eq_true hab]; rfl
          have hge : decide (b ≤ a) = false := decide_eq_false (by omega)
          have SN2 := Lib.hid (fun w => SN.out w e rfl)
          rw [e, if_pos rfl, if_pos rfl]
          clear SN e k1 k2 hab
          go_enter Try.func40, Try.ntmps40
          go_wp2_with (fail)
          refine (MY.out _).mono ?_; rintro e w' ⟨rfl, q1, rfl⟩
          go_wp2_with (fail)
          refine (FA.out _).mono ?_; rintro e w' ⟨rfl, q2, rfl⟩
          go_wp2_with (fail)
          refine (FB.out _).mono ?_; rintro e w' ⟨rfl, q3, rfl⟩
          go_wp2_with (fail)
          refine (SN2.out _).mono ?_; rintro e w' ⟨rfl, q4, rfl⟩
          go_wp2
          go_returns
          exact gives_end rfl (by (repeat' (first | (with_reducible assumption) | (with_reducible exact Below.refl _ _) | (with_reducible refine below_wov ?_ ?_ _) | (with_reducible refine below_drewN ?_ _) | (with_reducible refine Below.drew ?_) | (with_reducible refine Below.alloc ?_ ?_ _) | (with_reducible refine Below.setCell ?_ ?_ _) | (with_reducible exact Nat.le_refl _) | omega | (simp only [World.size_alloc, World.size_setCell, World.size_drew, Wov_size, World.heap_drewN]; omega))))
        · have e : windowOK a b = false := by unfold windowOK; rw [decide_eq_false hab, Bool.and_false, Bool.and_false]
          have hge : decide (b ≤ a) = true := decide_eq_true (by omega)
          rw [e, if_pos rfl, if_neg (by decide)]
          clear SN e k1 k2 hab
          go_enter Try.func40, Try.ntmps40
          go_wp2_with (fail)
          refine (MY.out _).mono ?_; rintro e w' ⟨rfl, q1, rfl⟩
          go_wp2_with (fail)
          refine (FA.out _).mono ?_; rintro e w' ⟨rfl, q2, rfl⟩
          go_wp2_with (fail)
          refine (FB.out _).mono ?_; rintro e w' ⟨rfl, q3, rfl⟩
          go_wp2
          go_returns
          exact gives_end rfl (by (repeat' (first | (with_reducible assumption) | (with_reducible exact Below.refl _ _) | (with_reducible refine below_wov ?_ ?_ _) | (with_reducible refine below_drewN ?_ _) | (with_reducible refine Below.drew ?_) | (with_reducible refine Below.alloc ?_ ?_ _) | (with_reducible refine Below.setCell ?_ ?_ _) | (with_reducible exact Nat.le_refl _) | omega | (simp only [World.size_alloc, World.size_setCell, World.size_drew, Wov_size, World.heap_drewN]; omega))))
set_option maxHeartbeats 800000 in
theorem moved10_any (b n : Int) (hb : mayB b = true) (hn : fitsW n = true) : Pure Try.prog 102 #[.int .i64 b, .int .i64 n] (.int .i64 (mvB b n)) := by
  intro w
  have d := fitsW_bd hn
  have fb := mayB_fits hb
  by_cases hne : b = noneB
  · have e : mvB b n = b := by unfold mvB; rw [if_pos hne, hne]
    have hq : (b == 9223372036854775807) = true := by rw [hne]; rfl
    rw [e]
    clear hne e hb hn d fb
    go_enter Try.func102, Try.ntmps102
    go_wp2
    go_ret
    exact gives_end rfl (by (repeat' (first | (with_reducible assumption) | (with_reducible exact Below.refl _ _) | (with_reducible refine below_wov ?_ ?_ _) | (with_reducible refine below_drewN ?_ _) | (with_reducible refine Below.drew ?_) | (with_reducible refine Below.alloc ?_ ?_ _) | (with_reducible refine Below.setCell ?_ ?_ _) | (with_reducible exact Nat.le_refl _) | omega | (simp only [World.size_alloc, World.size_setCell, World.size_drew, Wov_size, World.heap_drewN]; omega))))
  · have h1 := (mayB_bd hb).resolve_left hne
    have hq : (b == 9223372036854775807) = false := by rw [beq_eq_false_iff_ne]; exact hne
    have e : mvB b n = mkB (bnum b + n) (bstr b) := by
      unfold mvB mkB bnum bstr
      rw [if_neg hne]
      by_cases h : b % 2 = 0
      · simp [h]; omega
      · simp [h]; omega
    have NU : Hid (∀ w, Calls Try.prog 92 #[.int .i64 b] w (Gives w (.int .i64 (bnum b)))) := fun w => (refNumber_any b w fb.1 fb.2).mono fun e W ⟨he, hW⟩ => ⟨he, ⟨#[], w.drawn⟩, by rw [← hW, Wov_self]⟩
    have ST : Hid (∀ w, Calls Try.prog 93 #[.int .i64 b] w (Gives w (.bool (bstr b)))) := fun w => (refStrict_any b w).mono fun e W ⟨he, hW⟩ => ⟨he, ⟨#[], w.drawn⟩, by rw [← hW, Wov_self]⟩
    have MD : Hid (∀ w, Calls Try.prog 155 #[.int .i64 (bnum b + n), .bool (bstr b)] w (Gives w (.int .i64 (mkB (bnum b + n) (bstr b))))) := fun w => (refMade_any (bnum b + n) (bstr b) w (by omega) (by omega)).mono fun e W ⟨he, hW⟩ => ⟨he, ⟨#[], w.drawn⟩, by rw [← hW, Wov_self]⟩
    have hw : wrap64 (bnum b + n) = bnum b + n := wrap64_id (by omega) (by omega)
    rw [e]
    obtain ⟨v, hv⟩ : ∃ v, v = mkB (bnum b + n) (bstr b) := ⟨_, rfl⟩
    rw [← hv] at MD ⊢
    obtain ⟨s, hs⟩ : ∃ s, s = bstr b := ⟨_, rfl⟩
    rw [← hs] at MD ST
    obtain ⟨c, hc⟩ : ∃ s, s = bnum b := ⟨_, rfl⟩
    rw [← hc] at MD NU hw
    obtain ⟨t, ht⟩ : ∃ t, t = c + n := ⟨_, rfl⟩
    rw [← ht] at MD
    have hw2 : wrap64 (c + n) = t := hw.trans ht.symm
    clear hne e hb hn d fb hv hs hc ht h1 hw
    go_enter Try.func102, Try.ntmps102
    go_wp2_with (fail)
    refine (NU.out _).mono ?_; rintro e w' ⟨rfl, q1, rfl⟩
    go_wp2_with (fail)
    refine (ST.out _).mono ?_; rintro e w' ⟨rfl, q2, rfl⟩
    go_wp2_with (fail)
    (try rw [hw2])
    refine (MD.out _).mono ?_; rintro e w' ⟨rfl, q3, rfl⟩
    go_wp2
    go_ret
    exact gives_end rfl (by (repeat' (first | (with_reducible assumption) | (with_reducible exact Below.refl _ _) | (with_reducible refine below_wov ?_ ?_ _) | (with_reducible refine below_drewN ?_ _) | (with_reducible refine Below.drew ?_) | (with_reducible refine Below.alloc ?_ ?_ _) | (with_reducible refine Below.setCell ?_ ?_ _) | (with_reducible exact Nat.le_refl _) | omega | (simp only [World.size_alloc, World.size_setCell, World.size_drew, Wov_size, World.heap_drewN]; omega))))
end Go.Proofs.Ytnjhjgkekmjmdaa
