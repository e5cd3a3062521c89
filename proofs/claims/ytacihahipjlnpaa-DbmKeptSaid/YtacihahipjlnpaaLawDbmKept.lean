/- The law DbmKept: times keep a matrix just if they keep the closed one. No condition. -/
import Derived.Test.YtacihahipjlnpaaD17
import Derived.Test.YtacihahipjlnpaaD20
import Derived.Test.YtacihahipjlnpaaD21
import Derived.Test.YtacihahipjlnpaaD22
namespace Go.Proofs.Ytacihahipjlnpaa.dbmKept
open Go.ChangeShapes Go.WideShapes Go.ChangeAt Go.RowKit
set_option linter.unusedVariables false
set_option linter.unusedSimpArgs false
attribute [local go_sem] Nat.add_assoc Nat.add_lt_add_iff_left lit_lt_add

/-- What the two answers are. -/
theorem kinds (n : Int) (N : Nat) (f : Nat → Int) (M : Nat) (T : Nat → Int × Int) :
    (closeR n N f = (none, 8) ∧ keepsD n N f M T = (false, 8)) ∨
    (closeR n N f = (none, 6) ∧ ∃ e, keepsD n N f M T = (false, e)) ∨
    (∃ (m : Nat) (c : Nat → Int), n = (m : Int) ∧ N = m * m ∧ 1 ≤ m ∧ m ≤ 4 ∧ closeR n N f = (some c, 0) ∧ Fits N c ∧ (∀ x, x < N → c x ≤ f x) ∧
      ((∃ b e, e ≠ 0 ∧ keepsD n N f M T = (b, e)) ∨ ∃ b, keepsD n N f M T = (b, 0) ∧ (okD n N c = true → keepsD n N c M T = (b, 0)))) := by
  cases hok : okD n N f
  · exact .inl ⟨by unfold closeR; rw [hok]; rfl, by unfold keepsD; rw [hok]; rfl⟩
  · right
    obtain ⟨m, rfl, rfl, hm0, hm4⟩ := okD_form hok
    obtain ⟨_, _, bf⟩ := okD_bd hok
    cases hc : closeI m f with
    | none =>
      refine .inl ⟨by unfold closeR; rw [hok, if_pos rfl, show ((m : Int)).toNat = m from rfl, hc], ?_⟩
      unfold keepsD
      rw [hok]
      cases har : allRat M T
      · exact ⟨8, rfl⟩
      · by_cases hM : (M : Int) = (m : Int) - 1
        · refine ⟨0, ?_⟩
          have := kept_none (n := m) (f := f) (T := T) (fun i hi => tm_pos har i (by omega)) hm4 bf hc
          simp [hM, this]
        · exact ⟨40, by simp [hM]⟩
    | some c =>
      have K := close_facts hm0 hm4 bf hc
      refine .inr ⟨m, c, rfl, rfl, hm0, hm4, by unfold closeR; rw [hok, if_pos rfl, show ((m : Int)).toNat = m from rfl, hc], fun x hx => ?_, fun x hx => ?_, ?_⟩
      · obtain ⟨i, j, hi, hj, rfl⟩ := at_place hx
        rcases K.bound i j hi hj with h | h
        · rw [h]; unfold noneB fits64; omega
        · unfold bnum at h; unfold fits64; omega
      · obtain ⟨i, j, hi, hj, rfl⟩ := at_place hx
        exact (mE_under (by omega) (by omega) K.bound bf).1 K.closed.2 i j hi hj
      · unfold keepsD
        rw [hok]
        cases har : allRat M T
        · exact .inl ⟨false, 8, by omega, rfl⟩
        · by_cases hM : (M : Int) = (m : Int) - 1
          · refine .inr ⟨keptAll m f T, by simp [hM], fun h => ?_⟩
            rw [h, kept_same (n := m) (f := f) (c := c) (T := T) (fun i hi => tm_pos har i (by omega)) K]
            simp [hM]
          · exact .inl ⟨false, 40, by omega, by simp [hM]⟩

set_option maxRecDepth 100000 in
set_option maxHeartbeats 8000000 in
theorem walk (n : Int) (pp : Option Addr) (N cap : Nat) (f : Nat → Int) (wn : fits64 n) (q : Option Addr) (M cq : Nat) (T : Nat → Int × Int) (w : World) (hS : SlP w pp N f) (hF : Fits N f) (hN : N ≤ maxLen) (hR : SlR w q M T) (hFR : FitsR M T) (hM : M ≤ maxLen) :
    Calls Try.prog 15 #[.agg #[.int .i64 n, .slice pp N cap], .slice q M cq] w (Gives w (.bool true)) := by
  have HA := Lib.hid alive4
  unfold maxLen at hN hM
  by_cases hbig : 1000 < N ∨ 100 < M
  · clear hS hF hR hFR
    rcases hbig with hb | hb
    · go_enter Try.func15, Try.ntmps15
      go_wp2_with (fail)
      refine (HA.out _).mono ?_; rintro e w' ⟨rfl, p1, rfl⟩
      go_wp2
      all_goals
        go_ret
        exact gives_bool rfl (by (repeat' (first | (with_reducible assumption) | (with_reducible exact Below.refl _ _) | (with_reducible refine below_wov ?_ ?_ _) | (with_reducible refine below_drewN ?_ _) | (with_reducible refine Below.drew ?_) | (with_reducible refine Below.alloc ?_ ?_ _) | (with_reducible refine Below.setCell ?_ ?_ _) | (with_reducible exact Nat.le_refl _) | omega | (simp only [World.size_alloc, World.size_setCell, World.size_drew, Wov_size, World.heap_drewN]; omega))))
    · by_cases hb2 : 1000 < N
      · go_enter Try.func15, Try.ntmps15
        go_wp2_with (fail)
        refine (HA.out _).mono ?_; rintro e w' ⟨rfl, p1, rfl⟩
        go_wp2
        all_goals
          go_ret
          exact gives_bool rfl (by (repeat' (first | (with_reducible assumption) | (with_reducible exact Below.refl _ _) | (with_reducible refine below_wov ?_ ?_ _) | (with_reducible refine below_drewN ?_ _) | (with_reducible refine Below.drew ?_) | (with_reducible refine Below.alloc ?_ ?_ _) | (with_reducible refine Below.setCell ?_ ?_ _) | (with_reducible exact Nat.le_refl _) | omega | (simp only [World.size_alloc, World.size_setCell, World.size_drew, Wov_size, World.heap_drewN]; omega))))
      · go_enter Try.func15, Try.ntmps15
        go_wp2_with (fail)
        refine (HA.out _).mono ?_; rintro e w' ⟨rfl, p1, rfl⟩
        go_wp2
        all_goals
          go_ret
          exact gives_bool rfl (by (repeat' (first | (with_reducible assumption) | (with_reducible exact Below.refl _ _) | (with_reducible refine below_wov ?_ ?_ _) | (with_reducible refine below_drewN ?_ _) | (with_reducible refine Below.drew ?_) | (with_reducible refine Below.alloc ?_ ?_ _) | (with_reducible refine Below.setCell ?_ ?_ _) | (with_reducible exact Nat.le_refl _) | omega | (simp only [World.size_alloc, World.size_setCell, World.size_drew, Wov_size, World.heap_drewN]; omega))))
  · have hN3 : N ≤ 1000 := by omega
    have hM3 : M ≤ 100 := by omega
    have CL := Lib.hid (fun w' (hb : Below w.heap.size w w') => close_any n pp N cap f w' wn (hS.below hb) hF (by omega))
    have KE := Lib.hid (fun w' (hb : Below w.heap.size w w') => keepsD_any n N pp cap f q M cq T w' wn (hS.below hb) hF (by omega) (hR.below hb) hFR (by omega))
    have KC := Lib.hid (fun w' c B cp (hb : Below w.heap.size w w') (h : SlP w' (some ⟨B, 0, none⟩) N c) (hc : Fits N c) => keepsD_any n N (some ⟨B, 0, none⟩) cp c q M cq T w' wn h hc (by omega) (hR.below hb) hFR (by omega))
    have CK := Lib.hid (fun w' c B cp (h : SlP w' (some ⟨B, 0, none⟩) N c) (hc : Fits N c) => dbmCheck_any n (some ⟨B, 0, none⟩) N cp c w' wn h hc (by omega))
    rcases kinds n N f M T with ⟨h1, h2⟩ | ⟨h1, e1, h2⟩ | ⟨m, c, rfl, hNm, hm0, hm4, h1, hFc, hle, hk⟩
    · rw [h1] at CL
      rw [h2] at KE
      simp only [bpair] at KE
      clear hS hF hR hFR h1 h2 hbig KC CK
      go_enter Try.func15, Try.ntmps15
      go_wp2_with (fail)
      refine (HA.out _).mono ?_; rintro e w' ⟨rfl, p1, rfl⟩
      go_wp2_with (fail)
      refine (KE.out _ (by (repeat' (first | (with_reducible assumption) | (with_reducible exact Below.refl _ _) | (with_reducible refine below_wov ?_ ?_ _) | (with_reducible refine below_drewN ?_ _) | (with_reducible refine Below.drew ?_) | (with_reducible refine Below.alloc ?_ ?_ _) | (with_reducible refine Below.setCell ?_ ?_ _) | (with_reducible exact Nat.le_refl _) | omega | (simp only [World.size_alloc, World.size_setCell, World.size_drew, Wov_size, World.heap_drewN]; omega))))).mono ?_; rintro e w' ⟨rfl, p2, rfl⟩
      go_wp2_with (fail)
      refine (CL.out _ (by (repeat' (first | (with_reducible assumption) | (with_reducible exact Below.refl _ _) | (with_reducible refine below_wov ?_ ?_ _) | (with_reducible refine below_drewN ?_ _) | (with_reducible refine Below.drew ?_) | (with_reducible refine Below.alloc ?_ ?_ _) | (with_reducible refine Below.setCell ?_ ?_ _) | (with_reducible exact Nat.le_refl _) | omega | (simp only [World.size_alloc, World.size_setCell, World.size_drew, Wov_size, World.heap_drewN]; omega))))).mono ?_; rintro e w' ⟨rfl, p3, rfl⟩
      go_wp2
      all_goals
        go_ret
        exact gives_bool (by simp) (by (repeat' (first | (with_reducible assumption) | (with_reducible exact Below.refl _ _) | (with_reducible refine below_wov ?_ ?_ _) | (with_reducible refine below_drewN ?_ _) | (with_reducible refine Below.drew ?_) | (with_reducible refine Below.alloc ?_ ?_ _) | (with_reducible refine Below.setCell ?_ ?_ _) | (with_reducible exact Nat.le_refl _) | omega | (simp only [World.size_alloc, World.size_setCell, World.size_drew, Wov_size, World.heap_drewN]; omega))))
    · rw [h1] at CL
      rw [h2] at KE
      simp only [bpair] at KE
      clear hS hF hR hFR h1 h2 hbig KC CK
      by_cases he : e1 = 8
      · subst he
        go_enter Try.func15, Try.ntmps15
        go_wp2_with (fail)
        refine (HA.out _).mono ?_; rintro e w' ⟨rfl, p1, rfl⟩
        go_wp2_with (fail)
        refine (KE.out _ (by (repeat' (first | (with_reducible assumption) | (with_reducible exact Below.refl _ _) | (with_reducible refine below_wov ?_ ?_ _) | (with_reducible refine below_drewN ?_ _) | (with_reducible refine Below.drew ?_) | (with_reducible refine Below.alloc ?_ ?_ _) | (with_reducible refine Below.setCell ?_ ?_ _) | (with_reducible exact Nat.le_refl _) | omega | (simp only [World.size_alloc, World.size_setCell, World.size_drew, Wov_size, World.heap_drewN]; omega))))).mono ?_; rintro e w' ⟨rfl, p2, rfl⟩
        go_wp2_with (fail)
        refine (CL.out _ (by (repeat' (first | (with_reducible assumption) | (with_reducible exact Below.refl _ _) | (with_reducible refine below_wov ?_ ?_ _) | (with_reducible refine below_drewN ?_ _) | (with_reducible refine Below.drew ?_) | (with_reducible refine Below.alloc ?_ ?_ _) | (with_reducible refine Below.setCell ?_ ?_ _) | (with_reducible exact Nat.le_refl _) | omega | (simp only [World.size_alloc, World.size_setCell, World.size_drew, Wov_size, World.heap_drewN]; omega))))).mono ?_; rintro e w' ⟨rfl, p3, rfl⟩
        go_wp2
        all_goals
          go_ret
          exact gives_bool (by simp) (by (repeat' (first | (with_reducible assumption) | (with_reducible exact Below.refl _ _) | (with_reducible refine below_wov ?_ ?_ _) | (with_reducible refine below_drewN ?_ _) | (with_reducible refine Below.drew ?_) | (with_reducible refine Below.alloc ?_ ?_ _) | (with_reducible refine Below.setCell ?_ ?_ _) | (with_reducible exact Nat.le_refl _) | omega | (simp only [World.size_alloc, World.size_setCell, World.size_drew, Wov_size, World.heap_drewN]; omega))))
      · have be : (e1 == 8) = false := by rw [beq_eq_false_iff_ne]; exact he
        go_enter Try.func15, Try.ntmps15
        go_wp2_with (fail)
        refine (HA.out _).mono ?_; rintro e w' ⟨rfl, p1, rfl⟩
        go_wp2_with (fail)
        refine (KE.out _ (by (repeat' (first | (with_reducible assumption) | (with_reducible exact Below.refl _ _) | (with_reducible refine below_wov ?_ ?_ _) | (with_reducible refine below_drewN ?_ _) | (with_reducible refine Below.drew ?_) | (with_reducible refine Below.alloc ?_ ?_ _) | (with_reducible refine Below.setCell ?_ ?_ _) | (with_reducible exact Nat.le_refl _) | omega | (simp only [World.size_alloc, World.size_setCell, World.size_drew, Wov_size, World.heap_drewN]; omega))))).mono ?_; rintro e w' ⟨rfl, p2, rfl⟩
        go_wp2_with (fail)
        refine (CL.out _ (by (repeat' (first | (with_reducible assumption) | (with_reducible exact Below.refl _ _) | (with_reducible refine below_wov ?_ ?_ _) | (with_reducible refine below_drewN ?_ _) | (with_reducible refine Below.drew ?_) | (with_reducible refine Below.alloc ?_ ?_ _) | (with_reducible refine Below.setCell ?_ ?_ _) | (with_reducible exact Nat.le_refl _) | omega | (simp only [World.size_alloc, World.size_setCell, World.size_drew, Wov_size, World.heap_drewN]; omega))))).mono ?_; rintro e w' ⟨rfl, p3, rfl⟩
        go_wp2
        all_goals
          go_ret
          exact gives_bool (by simp) (by (repeat' (first | (with_reducible assumption) | (with_reducible exact Below.refl _ _) | (with_reducible refine below_wov ?_ ?_ _) | (with_reducible refine below_drewN ?_ _) | (with_reducible refine Below.drew ?_) | (with_reducible refine Below.alloc ?_ ?_ _) | (with_reducible refine Below.setCell ?_ ?_ _) | (with_reducible exact Nat.le_refl _) | omega | (simp only [World.size_alloc, World.size_setCell, World.size_drew, Wov_size, World.heap_drewN]; omega))))
    · have hN0 : 0 < N := by
        have := Nat.mul_le_mul hm0 hm0
        omega
      obtain ⟨Bf, off, rfl, hBf, hcf⟩ := hS.pos hN0
      obtain ⟨⟨b0, e0⟩, hbe⟩ : ∃ r, r = keepsD (m : Int) N f M T := ⟨_, rfl⟩
      have hk2 : (e0 ≠ 0) ∨ (e0 = 0 ∧ (okD (m : Int) N c = true → keepsD (m : Int) N c M T = (b0, 0))) := by
        rcases hk with ⟨b, e, h, g⟩ | ⟨b, g, h⟩
        · rw [g] at hbe; cases hbe; exact .inl h
        · rw [g] at hbe; cases hbe; exact .inr ⟨rfl, h⟩
      have HK := Lib.hid hk2
      rw [h1] at CL
      rw [← hbe] at KE
      simp only [bpair] at KE
      have SF : Hid (∀ x, x < N → w.cell? ⟨Bf, off + x, none⟩ = some (.int .i64 (f x))) := hcf
      have HN := Lib.hid hNm
      have HFC := Lib.hid hFc
      have HLE := Lib.hid hle
      clear hS hF hR hFR h1 hbig hk hk2 hbe hNm hFc hle hcf
      go_enter Try.func15, Try.ntmps15
      go_wp2_with (fail)
      refine (HA.out _).mono ?_; rintro e w' ⟨rfl, p1, rfl⟩
      go_wp2_with (fail)
      refine (KE.out _ (by (repeat' (first | (with_reducible assumption) | (with_reducible exact Below.refl _ _) | (with_reducible refine below_wov ?_ ?_ _) | (with_reducible refine below_drewN ?_ _) | (with_reducible refine Below.drew ?_) | (with_reducible refine Below.alloc ?_ ?_ _) | (with_reducible refine Below.setCell ?_ ?_ _) | (with_reducible exact Nat.le_refl _) | omega | (simp only [World.size_alloc, World.size_setCell, World.size_drew, Wov_size, World.heap_drewN]; omega))))).mono ?_; rintro e w' ⟨rfl, p2, rfl⟩
      go_wp2_with (fail)
      refine (CL.out _ (by (repeat' (first | (with_reducible assumption) | (with_reducible exact Below.refl _ _) | (with_reducible refine below_wov ?_ ?_ _) | (with_reducible refine below_drewN ?_ _) | (with_reducible refine Below.drew ?_) | (with_reducible refine Below.alloc ?_ ?_ _) | (with_reducible refine Below.setCell ?_ ?_ _) | (with_reducible exact Nat.le_refl _) | omega | (simp only [World.size_alloc, World.size_setCell, World.size_drew, Wov_size, World.heap_drewN]; omega))))).mono ?_; rintro e w' ⟨⟨B, cp, rfl, hB1, hB2, hH⟩, p3, rfl⟩
      have HH := Lib.hid hH
      clear hH CL
      go_wp2
      obtain ⟨D, hD⟩ : ∃ D, w.heap.size + (1 + (p1.bl.size + (p2.bl.size + p3.bl.size))) = D := ⟨_, rfl⟩
      rw [hD]
      refine wp_world (fun W => Below w.heap.size w W ∧ w.heap.size < D ∧ D < W.heap.size ∧ W.cell? ⟨w.heap.size, 0, none⟩ = some (.int .i64 m) ∧ W.cell? ⟨w.heap.size, 1, none⟩ = some (.slice (some ⟨Bf, off, none⟩) N cap) ∧ W.cell? ⟨D, 0, none⟩ = some (.int .i64 m) ∧ W.cell? ⟨D, 1, none⟩ = some (.slice (some ⟨B, 0, none⟩) N cp) ∧ HoldsI W B N c ∧ B < W.heap.size)
        ⟨by (repeat' (first | (with_reducible assumption) | (with_reducible exact Below.refl _ _) | (with_reducible refine below_wov ?_ ?_ _) | (with_reducible refine below_drewN ?_ _) | (with_reducible refine Below.drew ?_) | (with_reducible refine Below.alloc ?_ ?_ _) | (with_reducible refine Below.setCell ?_ ?_ _) | (with_reducible exact Nat.le_refl _) | omega | (simp only [World.size_alloc, World.size_setCell, World.size_drew, Wov_size, World.heap_drewN]; omega))), by omega, by rw [← hD]; simp only [World.size_alloc, Wov_size, Array.size_append]; omega, by simp [go_sem], by simp [go_sem], by rw [← hD]; simp [go_sem], by rw [← hD]; simp [go_sem], (by have h := HH.out; have hb := hB2; (try simp only [Wov_Wov, Array.append_assoc] at h hb); exact h.below (by (repeat' (first | (with_reducible assumption) | (with_reducible exact Below.refl _ _) | (with_reducible refine below_wov ?_ ?_ _) | (with_reducible refine below_drewN ?_ _) | (with_reducible refine Below.drew ?_) | (with_reducible refine Below.alloc ?_ ?_ _) | (with_reducible refine Below.setCell ?_ ?_ _) | (with_reducible exact Nat.le_refl _) | omega | (simp only [World.size_alloc, World.size_setCell, World.size_drew, Wov_size, World.heap_drewN]; omega)))) hb), (by have hb := hB2; simp only [World.size_alloc, Wov_size, Array.size_append] at hb ⊢; omega)⟩ ?_
      rintro W ⟨hBw, zwD, zD, f0, f1, g0, g1, hW, zB⟩
      have HW := Lib.hid hW
      have hsz := hBw.size
      have zw : w.heap.size < W.heap.size := by omega
      have zBf : Bf < W.heap.size := by omega
      have SW : Hid (∀ x, x < N → W.cell? ⟨Bf, off + x, none⟩ = some (.int .i64 (f x))) := fun x hx => (hBw.cell (p := ⟨Bf, off + x, none⟩) hBf).trans (SF.out x hx)
      clear hB1 hB2 HH hD hW KE HA SF
      go_loopw [10] (fun i wr => ∃ t : Nat, t ≤ N ∧ i = .int .i64 t ∧ ∃ q, wr = W.drewN q) (fun i _ => N - (intOf i).toNat)
      case atStart => exact ⟨0, Nat.zero_le _, rfl, 0, rfl⟩
      case round =>
        obtain ⟨t, ht, rfl, dn, rfl⟩ := hrel
        by_cases hlt : t < N
        · have r1 := (HW.out t hlt).1
          have r2 := SW.out t hlt
          have hle : decide (f t < c t) = false := by have := HLE.out t hlt; simp; omega
          obtain ⟨x1, hx1⟩ : ∃ x, x = c t := ⟨_, rfl⟩
          obtain ⟨x2, hx2⟩ : ∃ x, x = f t := ⟨_, rfl⟩
          rw [← hx1] at r1 hle
          rw [← hx2] at r2 hle
          have u1 : (0 : Int) ≤ (t : Int) := by omega
          have u2 : (t : Int) < (N : Int) := by omega
          have u3 : decide ((N : Int) ≤ (t : Int)) = false := by simp; omega
          clear hx1 hx2
          go_wp2
          go_quiet (fail)
          go_wp2
          go_roundw
          case rel => exact ⟨t + 1, hlt, by go_num, _, rfl⟩
          case measure => simp [intOf]; omega
        · have e : t = N := by omega
          subst e
          rcases HK.out with he | ⟨rfl, hkk⟩
          · have be0 : (e0 != 0) = true := by rw [bne_iff_ne]; exact he
            go_wp2_with (go_at_call 23; refine (CK.out _ c B cp (slp_later HW.out zB (by (repeat' (first | (with_reducible assumption) | (with_reducible exact Below.refl _ _) | (with_reducible refine below_wov ?_ ?_ _) | (with_reducible refine below_drewN ?_ _) | (with_reducible refine Below.drew ?_) | (with_reducible refine Below.alloc ?_ ?_ _) | (with_reducible refine Below.setCell ?_ ?_ _) | (with_reducible exact Nat.le_refl _) | omega | (simp only [World.size_alloc, World.size_setCell, World.size_drew, Wov_size, World.heap_drewN]; omega))))) HFC.out).mono ?_; rintro e w' ⟨rfl, q2, rfl⟩)
            all_goals
              go_ret
              exact gives_bool (by simp) (by (repeat' (first | (with_reducible assumption) | (with_reducible exact Below.refl _ _) | (with_reducible refine below_wov ?_ ?_ _) | (with_reducible refine below_drewN ?_ _) | (with_reducible refine Below.drew ?_) | (with_reducible refine Below.alloc ?_ ?_ _) | (with_reducible refine Below.setCell ?_ ?_ _) | (with_reducible exact Nat.le_refl _) | omega | (simp only [World.size_alloc, World.size_setCell, World.size_drew, Wov_size, World.heap_drewN]; omega))))
          · have hbw2 : ∀ dn, Below W.heap.size W (W.drewN dn) := fun dn => by (repeat' (first | (with_reducible assumption) | (with_reducible exact Below.refl _ _) | (with_reducible refine below_wov ?_ ?_ _) | (with_reducible refine below_drewN ?_ _) | (with_reducible refine Below.drew ?_) | (with_reducible refine Below.alloc ?_ ?_ _) | (with_reducible refine Below.setCell ?_ ?_ _) | (with_reducible exact Nat.le_refl _) | omega | (simp only [World.size_alloc, World.size_setCell, World.size_drew, Wov_size, World.heap_drewN]; omega)))
            cases ho : okD (m : Int) t c
            · have CK2 : Hid (∀ w', Below W.heap.size W w' → Calls Try.prog 23 #[.agg #[.int .i64 m, .slice (some ⟨B, 0, none⟩) t cp]] w' (Gives w' (.int .i64 8))) := fun w' hb => by
                have := CK.out w' c B cp (slp_later HW.out zB hb) HFC.out
                rwa [ho] at this
              clear ho hkk
              go_wp2_with (fail)
              refine (CK2.out _ (by (repeat' (first | (with_reducible assumption) | (with_reducible exact Below.refl _ _) | (with_reducible refine below_wov ?_ ?_ _) | (with_reducible refine below_drewN ?_ _) | (with_reducible refine Below.drew ?_) | (with_reducible refine Below.alloc ?_ ?_ _) | (with_reducible refine Below.setCell ?_ ?_ _) | (with_reducible exact Nat.le_refl _) | omega | (simp only [World.size_alloc, World.size_setCell, World.size_drew, Wov_size, World.heap_drewN]; omega))))).mono ?_; rintro e w' ⟨rfl, q2, rfl⟩
              go_wp2
              all_goals
                go_ret
                exact gives_bool (by simp) (by (repeat' (first | (with_reducible assumption) | (with_reducible exact Below.refl _ _) | (with_reducible refine below_wov ?_ ?_ _) | (with_reducible refine below_drewN ?_ _) | (with_reducible refine Below.drew ?_) | (with_reducible refine Below.alloc ?_ ?_ _) | (with_reducible refine Below.setCell ?_ ?_ _) | (with_reducible exact Nat.le_refl _) | omega | (simp only [World.size_alloc, World.size_setCell, World.size_drew, Wov_size, World.heap_drewN]; omega))))
            · have CK2 : Hid (∀ w', Below W.heap.size W w' → Calls Try.prog 23 #[.agg #[.int .i64 m, .slice (some ⟨B, 0, none⟩) t cp]] w' (Gives w' (.int .i64 0))) := fun w' hb => by
                have := CK.out w' c B cp (slp_later HW.out zB hb) HFC.out
                rwa [ho] at this
              have KC2 : Hid (∀ w', Below W.heap.size W w' → Calls Try.prog 41 #[.agg #[.int .i64 m, .slice (some ⟨B, 0, none⟩) t cp], .slice q M cq] w' (Gives w' (.tuple #[.bool b0, .int .i64 0]))) := fun w' hb => by
                have := KC.out w' c B cp (hBw.trans (hb.mono hBw.size)) (slp_later HW.out zB hb) HFC.out
                rw [hkk ho] at this
                exact this
              clear ho hkk
              go_wp2_with (fail)
              refine (CK2.out _ (by (repeat' (first | (with_reducible assumption) | (with_reducible exact Below.refl _ _) | (with_reducible refine below_wov ?_ ?_ _) | (with_reducible refine below_drewN ?_ _) | (with_reducible refine Below.drew ?_) | (with_reducible refine Below.alloc ?_ ?_ _) | (with_reducible refine Below.setCell ?_ ?_ _) | (with_reducible exact Nat.le_refl _) | omega | (simp only [World.size_alloc, World.size_setCell, World.size_drew, Wov_size, World.heap_drewN]; omega))))).mono ?_; rintro e w' ⟨rfl, q2, rfl⟩
              go_wp2_with (fail)
              refine (KC2.out _ (by (repeat' (first | (with_reducible assumption) | (with_reducible exact Below.refl _ _) | (with_reducible refine below_wov ?_ ?_ _) | (with_reducible refine below_drewN ?_ _) | (with_reducible refine Below.drew ?_) | (with_reducible refine Below.alloc ?_ ?_ _) | (with_reducible refine Below.setCell ?_ ?_ _) | (with_reducible exact Nat.le_refl _) | omega | (simp only [World.size_alloc, World.size_setCell, World.size_drew, Wov_size, World.heap_drewN]; omega))))).mono ?_; rintro e w' ⟨rfl, q3, rfl⟩
              go_wp2
              all_goals
                go_ret
                exact gives_bool (by simp) (by (repeat' (first | (with_reducible assumption) | (with_reducible exact Below.refl _ _) | (with_reducible refine below_wov ?_ ?_ _) | (with_reducible refine below_drewN ?_ _) | (with_reducible refine Below.drew ?_) | (with_reducible refine Below.alloc ?_ ?_ _) | (with_reducible refine Below.setCell ?_ ?_ _) | (with_reducible exact Nat.le_refl _) | omega | (simp only [World.size_alloc, World.size_setCell, World.size_drew, Wov_size, World.heap_drewN]; omega))))

set_option maxRecDepth 100000 in
theorem lifted (os : Os) (started : os.Started) (H : Type) (enc : TypeId × Value → H) :
    ReturnsInHanded {} Try.checked os 15 .any (Rows.dbmKeptSpec.pre6 enc Try.prog Try.f15 Rows.dbmKeptRow.domain false) (Rows.dbmKeptSpec.post enc Try.prog Try.f15 false true false false) := by
  refine returnsInHanded_of_change (C := Try.checked) own started (by kernel_rfl) Try.func15
    (ChangeSpec.witness6 (enc := enc) (C := Try.checked) false ⟨#[], #[.agg #[.int .i64 0, .slice none 0 0], .slice none 0 0], []⟩ 8 (by kernel_rfl) (by kernel_rfl) (by kernel_rfl) (by kernel_rfl)) ?_
  intro W base args ds gs before hval0 hW hcnd _
  have hval : ∀ (j : Nat) t v, Try.f15.params[j]? = some t → args[j]? = some v → Value.okWide Try.prog W .any base t v := hval0
  have hW' := hW
  obtain ⟨p, q, hA0, hV, hpq, hfz, hnd⟩ := hW
  have hA : DataW.TrodAll enc Try.prog W 0 (fun _ => true) true Try.f15.params.toList args.toList ds p := hA0
  rw [Try.params15] at hA hval
  obtain ⟨v0, vs0, d0, ds0, p0, q0, hargs, rfl, rfl, h0, r0⟩ := trodAll_cons hA
  obtain ⟨v1, vs1, d1, ds1, p1, q1, rfl, rfl, rfl, h1, r1⟩ := trodAll_cons r0
  obtain ⟨rfl, rfl, rfl⟩ := trodAll_nil r1
  obtain rfl : args = #[v0, v1] := by cases args; simp_all
  obtain ⟨rfl, rfl⟩ := trodVars_none hV
  obtain ⟨n0, pp0, N0, cap0, f0, rfl, wn0, wS0, wF0, wN0⟩ := open_dbm (hval 0 24 v0 rfl rfl) h0
  obtain ⟨q1, M1, cq1, T1, rfl, tS1, tF1, tM1⟩ := open_rats (hval 1 69 v1 rfl rfl) h1
  clear hA0 hval0
  refine (walk n0 pp0 N0 cap0 f0 wn0 q1 M1 cq1 T1 W wS0 wF0 wN0 tS1 tF1 tM1).mono fun e W' ⟨he, hg⟩ => ?_
  subst he
  exact ⟨_, rfl, law_post (by kernel_rfl) rfl rfl hW' rfl rfl rfl hg⟩

theorem over : Rows.dbmKeptRow.holds Try.pinned (OpenSpec.ofChange Rows.dbmKeptSpec) :=
  OpenClaim.holds_of_wide 15 Try.f15 rfl rfl rfl rfl rfl rfl rfl ⟨rfl, rfl, rfl, rfl, rfl⟩ rfl rfl rfl rfl rfl (by kernel_rfl) Try.func15 (by kernel_rfl)
    (of_decide_eq_true (by kernel_rfl)) (by unfold Func.isWrapper; first | (rw [if_pos (by decide +kernel)]; kernel_rfl) | (rw [if_neg (by decide +kernel)]; exact ⟨rfl, rfl⟩))
    (fun os started H enc _ => lifted os started H enc)

/-- The statement. -/
theorem proved : Rows.DbmKeptSaid := over
#print axioms proved
end Go.Proofs.Ytacihahipjlnpaa.dbmKept
