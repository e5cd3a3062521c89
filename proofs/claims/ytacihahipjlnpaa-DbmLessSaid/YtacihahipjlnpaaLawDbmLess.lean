/- The law DbmLess: a matrix with one bound less has a closed one that is nowhere greater, or none. No condition. -/
import Derived.Test.YtacihahipjlnpaaD17
namespace Go.Proofs.Ytacihahipjlnpaa.dbmLess
open Go.ChangeShapes Go.WideShapes Go.ChangeAt Go.RowKit
set_option linter.unusedVariables false
set_option linter.unusedSimpArgs false
attribute [local go_sem] Nat.add_assoc Nat.add_lt_add_iff_left lit_lt_add

theorem bne0_t {e : Int} (h : e ≠ 0) : (e != 0) = true := by simp; omega
def less (v b : Int) : Int := if v = noneB then b else wrap64 (v - b)
theorem less_fits {v b : Int} (h0 : 0 ≤ b) (h1 : b ≤ 255) : fits64 (less v b) := by
  unfold less
  split
  · unfold fits64; omega
  · unfold fits64 wrap64; omega
theorem less_le {v b : Int} (hv : bd 288230376151711744 v) (h0 : 0 ≤ b) (h1 : b ≤ 255) : less v b ≤ v := by
  unfold less
  split
  · rename_i h; subst h; unfold noneB; omega
  · rename_i h
    have := hv.resolve_left h
    unfold bnum at this
    rw [wrap64_id (by omega) (by omega)]
    omega

theorem holds_drew {W : World} {B N : Nat} {f : Nat → Int} (h : HoldsI W B N f) : HoldsI W.drew B N f := h.of_block rfl

/-- What the two closed ones are. -/
theorem kinds {n : Int} {N : Nat} {f : Nat → Int} {k : Nat} {b : Int} (hk : k < N) (h0 : 0 ≤ b) (h1 : b ≤ 255) :
    (∃ e2, e2 ≠ 0 ∧ closeR n N (upd f k (less (f k) b)) = (none, e2) ∧ ((∃ e1, closeR n N f = (none, e1)) ∨ ∃ c, closeR n N f = (some c, 0))) ∨
    (∃ c', closeR n N (upd f k (less (f k) b)) = (some c', 0) ∧ ((okD n N f = false ∧ closeR n N f = (none, 8)) ∨ (okD n N f = true ∧ ∃ c, closeR n N f = (some c, 0) ∧ ∀ x, x < N → c' x ≤ c x))) := by
  have shape : ∀ g, (∃ e1, e1 ≠ 0 ∧ closeR n N g = (none, e1)) ∨ ∃ c, closeR n N g = (some c, 0) := by
    intro g
    unfold closeR
    split
    · split
      · exact .inl ⟨6, by omega, rfl⟩
      · exact .inr ⟨_, rfl⟩
    · exact .inl ⟨8, by omega, rfl⟩
  rcases shape (upd f k (less (f k) b)) with ⟨e2, he2, h2⟩ | ⟨c', h2⟩
  · refine .inl ⟨e2, he2, h2, ?_⟩
    rcases shape f with ⟨e1, _, h⟩ | h
    · exact .inl ⟨e1, h⟩
    · exact .inr h
  · refine .inr ⟨c', h2, ?_⟩
    cases hok : okD n N f
    · exact .inl ⟨rfl, by unfold closeR; rw [hok]; rfl⟩
    · right
      refine ⟨rfl, ?_⟩
      have hok' : okD n N (upd f k (less (f k) b)) = true := by
        cases h : okD n N (upd f k (less (f k) b))
        · unfold closeR at h2; rw [h] at h2; cases h2
        · rfl
      obtain ⟨m, rfl, rfl, hm0, hm4⟩ := okD_form hok
      have hc' : closeI m (upd f k (less (f k) b)) = some c' := by
        unfold closeR at h2
        rw [hok', if_pos rfl, show ((m : Int)).toNat = m from rfl] at h2
        cases hh : closeI m (upd f k (less (f k) b)) with
        | none => rw [hh] at h2; cases h2
        | some d => rw [hh] at h2; cases h2; rfl
      obtain ⟨_, _, bf⟩ := okD_bd hok
      obtain ⟨_, _, bf'⟩ := okD_bd hok'
      have hle : ∀ i j, i < m → j < m → upd f k (less (f k) b) (i * m + j) ≤ f (i * m + j) := by
        intro i j hi hj
        unfold upd
        split
        · rename_i e
          have := bf i j hi hj
          rw [e] at this ⊢
          exact less_le this h0 h1
        · omega
      have K' := close_facts hm0 hm4 bf' hc'
      obtain ⟨c, hc, hu⟩ := close_mono hm4 bf ((mE_under (by omega) (by omega) bf' bf).2 hle) K'
      have K := close_facts hm0 hm4 bf hc
      refine ⟨c, by unfold closeR; rw [hok, if_pos rfl, show ((m : Int)).toNat = m from rfl, hc], fun x hx => ?_⟩
      obtain ⟨i, j, hi, hj, rfl⟩ := at_place hx
      exact (mE_under (by omega) (by omega) K'.bound K.bound).1 hu i j hi hj

set_option maxRecDepth 100000 in
set_option maxHeartbeats 8000000 in
theorem walk (n : Int) (pp : Option Addr) (N cap : Nat) (f : Nat → Int) (wn : fits64 n) (a : Int) (wa : (Lit.int .u8 a).wf = true) (b : Int) (wb : (Lit.int .u8 b).wf = true) (w : World) (hS : SlP w pp N f) (hF : Fits N f) (hN : N ≤ maxLen) :
    Calls Try.prog 6 #[.agg #[.int .i64 n, .slice pp N cap], .int .u8 a, .int .u8 b] w (Gives w (.bool true)) := by
  have wa : 0 ≤ a ∧ a ≤ 255 := by simpa [Lit.wf, IntKind.min, IntKind.max, IntKind.signed, IntKind.bits] using wa
  have wb : 0 ≤ b ∧ b ≤ 255 := by simpa [Lit.wf, IntKind.min, IntKind.max, IntKind.signed, IntKind.bits] using wb
  obtain ⟨a1, a2⟩ := wa
  obtain ⟨b1, b2⟩ := wb
  have HA := Lib.hid alive4
  unfold maxLen at hN
  by_cases hbig : 1000 < N
  · clear hS hF
    go_enter Try.func6, Try.ntmps6
    go_wp2_with (fail)
    refine (HA.out _).mono ?_; rintro e w' ⟨rfl, p1, rfl⟩
    go_wp2
    all_goals
      go_ret
      exact gives_bool rfl (by (repeat' (first | (with_reducible assumption) | (with_reducible exact Below.refl _ _) | (with_reducible refine below_wov ?_ ?_ _) | (with_reducible refine below_drewN ?_ _) | (with_reducible refine Below.drew ?_) | (with_reducible refine Below.alloc ?_ ?_ _) | (with_reducible refine Below.setCell ?_ ?_ _) | (with_reducible exact Nat.le_refl _) | omega | (simp only [World.size_alloc, World.size_setCell, World.size_drew, Wov_size, World.heap_drewN]; omega))))
  · by_cases hz : N = 0
    · subst hz
      clear hS hF
      go_enter Try.func6, Try.ntmps6
      go_wp2_with (fail)
      refine (HA.out _).mono ?_; rintro e w' ⟨rfl, p1, rfl⟩
      go_wp2
      all_goals
        go_ret
        exact gives_bool rfl (by (repeat' (first | (with_reducible assumption) | (with_reducible exact Below.refl _ _) | (with_reducible refine below_wov ?_ ?_ _) | (with_reducible refine below_drewN ?_ _) | (with_reducible refine Below.drew ?_) | (with_reducible refine Below.alloc ?_ ?_ _) | (with_reducible refine Below.setCell ?_ ?_ _) | (with_reducible exact Nat.le_refl _) | omega | (simp only [World.size_alloc, World.size_setCell, World.size_drew, Wov_size, World.heap_drewN]; omega))))
    · have h0 : 0 < N := by omega
      have hN2 : N ≤ 1000000 := by omega
      have hN3 : N ≤ 1000 := by omega
      obtain ⟨B, off, rfl, hB, hc⟩ := hS.pos h0
      obtain ⟨k, hkk⟩ : ∃ k : Nat, a % (N : Int) = (k : Int) := ⟨(a % (N : Int)).toNat, by have := Int.emod_nonneg a (show (N : Int) ≠ 0 by omega); omega⟩
      have hk : k < N := by have := Int.emod_lt_of_pos a (show (0 : Int) < N by omega); omega
      have hkt : a.tmod (N : Int) = (k : Int) := by rw [Int.tmod_eq_emod_of_nonneg a1]; exact hkk
      have ck := hc k hk
      have nz : ((N : Int) == 0) = false := by rw [beq_eq_false_iff_ne]; omega
      have CL := Lib.hid (fun w' (hb : Below w.heap.size w w') => close_any n (some ⟨B, off, none⟩) N cap f w' wn (hS.below hb) hF hN2)
      have CK := Lib.hid (fun w' (hb : Below w.heap.size w w') => dbmCheck_any n (some ⟨B, off, none⟩) N cap f w' wn (hS.below hb) hF (by omega))
      have TW : Hid (∀ w', Below w.heap.size w w' → Calls Try.prog 25 #[.agg #[.int .i64 n, .slice (some ⟨B, off, none⟩) N cap]] w' (twinPost w' n N f)) := fun w' hb =>
        refTwin_pos n B off N cap f w' h0 hN2 (Nat.lt_of_lt_of_le hB hb.size) (fun x hx => (hb.cell (p := ⟨B, off + x, none⟩) hB).trans (hc x hx))
      have KD := kinds (n := n) (f := f) (b := b) hk b1 b2
      have hF' : Fits N (upd f k (less (f k) b)) := fun x hx => by
        unfold upd
        split
        · exact less_fits b1 b2
        · exact hF x hx
      obtain ⟨g, hg⟩ : ∃ g, g = upd f k (less (f k) b) := ⟨_, rfl⟩
      rw [← hg] at KD hF'
      have HG := Lib.hid hg
      have CG := Lib.hid (fun w' B2 cap2 (h : HoldsI w' B2 N g) (hB2 : B2 < w'.heap.size) => close_any n (some ⟨B2, 0, none⟩) N cap2 g w' wn (slp_of h hB2) hF' hN2)
      obtain ⟨v, hv⟩ : ∃ v, v = f k := ⟨_, rfl⟩
      rw [← hv] at ck
      have HV := Lib.hid hv
      have HKD := Lib.hid KD
      have k0 : (0 : Int) ≤ (k : Int) := by omega
      have k1 : (k : Int) < (N : Int) := by omega
      clear hS hF hF' hg hv KD hc hbig hz
      by_cases hvn : v = noneB
      · have e1 := isNone_t hvn
        have HVN := Lib.hid hvn
        clear hvn
        · go_enter Try.func6, Try.ntmps6
          go_wp2_with (fail)
          refine (HA.out _).mono ?_; rintro e w' ⟨rfl, p1, rfl⟩
          go_wp2_with (fail)
          refine (TW.out _ (by (repeat' (first | (with_reducible assumption) | (with_reducible exact Below.refl _ _) | (with_reducible refine below_wov ?_ ?_ _) | (with_reducible refine below_drewN ?_ _) | (with_reducible refine Below.drew ?_) | (with_reducible refine Below.alloc ?_ ?_ _) | (with_reducible refine Below.setCell ?_ ?_ _) | (with_reducible exact Nat.le_refl _) | omega | (simp only [World.size_alloc, World.size_setCell, World.size_drew, Wov_size, World.heap_drewN]; omega))))).mono ?_; rintro e w' ⟨p2, cap2, rfl, ho, p3, rfl⟩
          rcases ho with ⟨h, _⟩ | ⟨B2, c2, h1, hB1, hB2, hH⟩
          · omega
          simp only [Value.slice.injEq] at h1
          obtain ⟨rfl, _, rfl⟩ := h1
          have HH := Lib.hid hH
          have HB1 := Lib.hid hB1
          have HB2 := Lib.hid hB2
          have hH0 := hH k hk
          obtain ⟨hH1, hH2⟩ := hH0
          (try simp only [Wov_Wov] at hH1 hH2)
          have zB2 : B2 < w.heap.size + (1 + (p1.bl.size + p3.bl.size)) := by
            have h := hB2
            simp only [World.size_alloc, Wov_size, Array.size_append] at h
            omega
          have zB1 : w.heap.size < B2 := by
            have h := hB1
            simp only [World.size_alloc, Wov_size, Array.size_append] at h
            omega
          have y1 : ¬ B2 = w.heap.size := by omega
          have y2 : ¬ w.heap.size = B2 := by omega
          have y3 : ¬ B2 = w.heap.size + (1 + (p1.bl.size + p3.bl.size)) := by omega
          have y4 : ¬ w.heap.size + (1 + (p1.bl.size + p3.bl.size)) = B2 := by omega
          clear hH hB1 hB2
          go_wp2_with (fail)
          skip
          obtain ⟨D, hD⟩ : ∃ D, w.heap.size + (1 + (p1.bl.size + p3.bl.size)) = D := ⟨_, rfl⟩
          rw [hD]
          refine calls_world (fun W => Below w.heap.size w W ∧ D < W.heap.size ∧ W.cell? ⟨w.heap.size, 0, none⟩ = some (.int .i64 n) ∧ W.cell? ⟨w.heap.size, 1, none⟩ = some (.slice (some ⟨B, off, none⟩) N cap) ∧ W.cell? ⟨D, 0, none⟩ = some (.int .i64 n) ∧ W.cell? ⟨D, 1, none⟩ = some (.slice (some ⟨B2, 0, none⟩) N cap2) ∧ HoldsI W B2 N g ∧ B2 < W.heap.size)
            ⟨by (repeat' (first | (with_reducible assumption) | (with_reducible exact Below.refl _ _) | (with_reducible refine below_wov ?_ ?_ _) | (with_reducible refine below_drewN ?_ _) | (with_reducible refine Below.drew ?_) | (with_reducible refine Below.alloc ?_ ?_ _) | (with_reducible refine Below.setCell ?_ ?_ _) | (with_reducible exact Nat.le_refl _) | omega | (simp only [World.size_alloc, World.size_setCell, World.size_drew, Wov_size, World.heap_drewN]; omega))), by rw [← hD]; simp only [World.size_alloc, World.size_setCell, World.size_drew, Wov_size, Array.size_append]; omega, by simp [go_sem, *], by simp [go_sem, *], by rw [← hD]; simp [go_sem, *], by rw [← hD]; simp [go_sem, *], ?_, by simp only [World.size_alloc, World.size_setCell, World.size_drew, Wov_size, Array.size_append]; omega⟩ ?_
          · have h := HH.out
            have hb := HB2.out
            (try simp only [Wov_Wov] at h hb)
            rw [HG.out, ← HV.out]
            unfold less
            rw [if_pos HVN.out]
            first
              | exact HoldsI.below (k := B2 + 1) (HoldsI.set (HoldsI.of_block h rfl) hk _) ((Below.refl _ _).alloc (by have hb2 := hb; simp only [World.size_alloc, World.size_setCell, World.size_drew, Wov_size, Array.size_append] at hb2 ⊢; omega) _) (Nat.lt_succ_self _)
              | exact holds_drew (HoldsI.below (k := B2 + 1) (HoldsI.set (HoldsI.of_block h rfl) hk _) ((Below.refl _ _).alloc (by have hb2 := hb; simp only [World.size_alloc, World.size_setCell, World.size_drew, Wov_size, Array.size_append] at hb2 ⊢; omega) _) (Nat.lt_succ_self _))
          rintro W ⟨hBw, zD, f0, f1, g0, g1, hW, zB⟩
          have HW := Lib.hid hW
          have hsz := hBw.size
          have hWs : w.heap.size < W.heap.size := by have := hBw.size; omega
          clear hH1 hH2 HH HB1 HB2 zB1 zB2 y1 y2 y3 y4 hD hW TW HA
          have C1 := CL.out W hBw
          have CG2 := fun w' (hb : Below W.heap.size W w') => CG.out w' B2 cap2 (HW.out.below hb zB) (Nat.lt_of_lt_of_le zB hb.size)
          have CK2 := fun w' (hb : Below W.heap.size W w') => CK.out w' (hBw.trans (hb.mono hBw.size))
          clear CL CG CK
          rcases HKD.out with ⟨e2, he2, h2, ⟨e1, h1⟩ | ⟨c, h1⟩⟩ | ⟨c', h2, ⟨hok, h1⟩ | ⟨hok, c, h1, hcc⟩⟩
          · rw [h1] at C1
            rw [h2] at CG2
            have G2 := Lib.hid CG2
            have HC1 := Lib.hid C1
            have be2 := bne0_t he2
            clear CG2 C1 h1 h2 HKD CK2
            refine HC1.out.mono ?_; rintro e w' ⟨rfl, q1, rfl⟩
            go_wp2_with (fail)
            refine (G2.out _ (by (repeat' (first | (with_reducible assumption) | (with_reducible exact Below.refl _ _) | (with_reducible refine below_wov ?_ ?_ _) | (with_reducible refine below_drewN ?_ _) | (with_reducible refine Below.drew ?_) | (with_reducible refine Below.alloc ?_ ?_ _) | (with_reducible refine Below.setCell ?_ ?_ _) | (with_reducible exact Nat.le_refl _) | omega | (simp only [World.size_alloc, World.size_setCell, World.size_drew, Wov_size, World.heap_drewN]; omega))))).mono ?_; rintro e w' ⟨rfl, q2, rfl⟩
            go_wp2
            all_goals
              go_ret
              exact gives_bool (by simp) (by (repeat' (first | (with_reducible assumption) | (with_reducible exact Below.refl _ _) | (with_reducible refine below_wov ?_ ?_ _) | (with_reducible refine below_drewN ?_ _) | (with_reducible refine Below.drew ?_) | (with_reducible refine Below.alloc ?_ ?_ _) | (with_reducible refine Below.setCell ?_ ?_ _) | (with_reducible exact Nat.le_refl _) | omega | (simp only [World.size_alloc, World.size_setCell, World.size_drew, Wov_size, World.heap_drewN]; omega))))
          · rw [h1] at C1
            rw [h2] at CG2
            have G2 := Lib.hid CG2
            have HC1 := Lib.hid C1
            have be2 := bne0_t he2
            clear CG2 C1 h1 h2 HKD CK2
            refine HC1.out.mono ?_; rintro e w' ⟨⟨B3, c3, rfl, _, _, _⟩, q1, rfl⟩
            go_wp2_with (fail)
            refine (G2.out _ (by (repeat' (first | (with_reducible assumption) | (with_reducible exact Below.refl _ _) | (with_reducible refine below_wov ?_ ?_ _) | (with_reducible refine below_drewN ?_ _) | (with_reducible refine Below.drew ?_) | (with_reducible refine Below.alloc ?_ ?_ _) | (with_reducible refine Below.setCell ?_ ?_ _) | (with_reducible exact Nat.le_refl _) | omega | (simp only [World.size_alloc, World.size_setCell, World.size_drew, Wov_size, World.heap_drewN]; omega))))).mono ?_; rintro e w' ⟨rfl, q2, rfl⟩
            go_wp2
            all_goals
              go_ret
              exact gives_bool (by simp) (by (repeat' (first | (with_reducible assumption) | (with_reducible exact Below.refl _ _) | (with_reducible refine below_wov ?_ ?_ _) | (with_reducible refine below_drewN ?_ _) | (with_reducible refine Below.drew ?_) | (with_reducible refine Below.alloc ?_ ?_ _) | (with_reducible refine Below.setCell ?_ ?_ _) | (with_reducible exact Nat.le_refl _) | omega | (simp only [World.size_alloc, World.size_setCell, World.size_drew, Wov_size, World.heap_drewN]; omega))))
          · rw [h1] at C1
            rw [h2] at CG2
            rw [hok] at CK2
            have G2 := Lib.hid CG2
            have HC1 := Lib.hid C1
            have HCK := Lib.hid CK2
            have hz0 : (0 : Int) < (N : Int) := by omega
            clear CG2 C1 h1 h2 HKD CK2 hok
            refine HC1.out.mono ?_; rintro e w' ⟨rfl, q1, rfl⟩
            go_wp2_with (fail)
            refine (G2.out _ (by (repeat' (first | (with_reducible assumption) | (with_reducible exact Below.refl _ _) | (with_reducible refine below_wov ?_ ?_ _) | (with_reducible refine below_drewN ?_ _) | (with_reducible refine Below.drew ?_) | (with_reducible refine Below.alloc ?_ ?_ _) | (with_reducible refine Below.setCell ?_ ?_ _) | (with_reducible exact Nat.le_refl _) | omega | (simp only [World.size_alloc, World.size_setCell, World.size_drew, Wov_size, World.heap_drewN]; omega))))).mono ?_; rintro e w' ⟨⟨B4, c4, rfl, _, _, _⟩, q2, rfl⟩
            go_wp2_with (fail)
            refine (HCK.out _ (by (repeat' (first | (with_reducible assumption) | (with_reducible exact Below.refl _ _) | (with_reducible refine below_wov ?_ ?_ _) | (with_reducible refine below_drewN ?_ _) | (with_reducible refine Below.drew ?_) | (with_reducible refine Below.alloc ?_ ?_ _) | (with_reducible refine Below.setCell ?_ ?_ _) | (with_reducible exact Nat.le_refl _) | omega | (simp only [World.size_alloc, World.size_setCell, World.size_drew, Wov_size, World.heap_drewN]; omega))))).mono ?_; rintro e w' ⟨rfl, q3, rfl⟩
            go_wp2
            all_goals
              go_ret
              exact gives_bool (by simp; try omega) (by (repeat' (first | (with_reducible assumption) | (with_reducible exact Below.refl _ _) | (with_reducible refine below_wov ?_ ?_ _) | (with_reducible refine below_drewN ?_ _) | (with_reducible refine Below.drew ?_) | (with_reducible refine Below.alloc ?_ ?_ _) | (with_reducible refine Below.setCell ?_ ?_ _) | (with_reducible exact Nat.le_refl _) | omega | (simp only [World.size_alloc, World.size_setCell, World.size_drew, Wov_size, World.heap_drewN]; omega))))
          · rw [h1] at C1
            rw [h2] at CG2
            rw [hok] at CK2
            have G2 := Lib.hid CG2
            have HC1 := Lib.hid C1
            have HCK := Lib.hid CK2
            have HCC := Lib.hid hcc
            have nn : ((N : Int) != (N : Int)) = false := by simp
            clear CG2 C1 h1 h2 HKD CK2 hok hcc
            refine HC1.out.mono ?_; rintro e w' ⟨⟨B3, c3, rfl, hX1, hX2, hX3⟩, q1, rfl⟩
            have HX2 := Lib.hid hX2
            have HX3 := Lib.hid hX3
            clear hX1 hX2 hX3
            go_wp2_with (fail)
            refine (G2.out _ (by (repeat' (first | (with_reducible assumption) | (with_reducible exact Below.refl _ _) | (with_reducible refine below_wov ?_ ?_ _) | (with_reducible refine below_drewN ?_ _) | (with_reducible refine Below.drew ?_) | (with_reducible refine Below.alloc ?_ ?_ _) | (with_reducible refine Below.setCell ?_ ?_ _) | (with_reducible exact Nat.le_refl _) | omega | (simp only [World.size_alloc, World.size_setCell, World.size_drew, Wov_size, World.heap_drewN]; omega))))).mono ?_; rintro e w' ⟨⟨B4, c4, rfl, hY1, hY2, hY3⟩, q2, rfl⟩
            have HY2 := Lib.hid hY2
            have HY3 := Lib.hid hY3
            clear hY1 hY2 hY3
            go_wp2_with (fail)
            refine (HCK.out _ (by (repeat' (first | (with_reducible assumption) | (with_reducible exact Below.refl _ _) | (with_reducible refine below_wov ?_ ?_ _) | (with_reducible refine below_drewN ?_ _) | (with_reducible refine Below.drew ?_) | (with_reducible refine Below.alloc ?_ ?_ _) | (with_reducible refine Below.setCell ?_ ?_ _) | (with_reducible exact Nat.le_refl _) | omega | (simp only [World.size_alloc, World.size_setCell, World.size_drew, Wov_size, World.heap_drewN]; omega))))).mono ?_; rintro e w' ⟨rfl, q3, rfl⟩
            go_wp2
            obtain ⟨E1, hE1⟩ : ∃ E, W.heap.size + q1.bl.size = E := ⟨_, rfl⟩
            obtain ⟨E2, hE2⟩ : ∃ E, W.heap.size + (q1.bl.size + (1 + q2.bl.size)) = E := ⟨_, rfl⟩
            rw [hE1, hE2]
            refine wp_world (fun V => Below w.heap.size w V ∧ E1 < V.heap.size ∧ E2 < V.heap.size ∧ V.cell? ⟨E1, 1, none⟩ = some (.slice (some ⟨B3, 0, none⟩) N c3) ∧ V.cell? ⟨E2, 1, none⟩ = some (.slice (some ⟨B4, 0, none⟩) N c4) ∧ HoldsI V B3 N c ∧ HoldsI V B4 N c' ∧ B3 < V.heap.size ∧ B4 < V.heap.size)
              ⟨by (repeat' (first | (with_reducible assumption) | (with_reducible exact Below.refl _ _) | (with_reducible refine below_wov ?_ ?_ _) | (with_reducible refine below_drewN ?_ _) | (with_reducible refine Below.drew ?_) | (with_reducible refine Below.alloc ?_ ?_ _) | (with_reducible refine Below.setCell ?_ ?_ _) | (with_reducible exact Nat.le_refl _) | omega | (simp only [World.size_alloc, World.size_setCell, World.size_drew, Wov_size, World.heap_drewN]; omega))), by rw [← hE1]; simp only [World.size_alloc, Wov_size, Array.size_append]; omega, by rw [← hE2]; simp only [World.size_alloc, Wov_size, Array.size_append]; omega, by rw [← hE1]; simp [go_sem], by rw [← hE2]; simp [go_sem], (by have h := HX3.out; have hb := HX2.out; (try simp only [Wov_Wov, Array.append_assoc] at h hb); exact h.below (by (repeat' (first | (with_reducible assumption) | (with_reducible exact Below.refl _ _) | (with_reducible refine below_wov ?_ ?_ _) | (with_reducible refine below_drewN ?_ _) | (with_reducible refine Below.drew ?_) | (with_reducible refine Below.alloc ?_ ?_ _) | (with_reducible refine Below.setCell ?_ ?_ _) | (with_reducible exact Nat.le_refl _) | omega | (simp only [World.size_alloc, World.size_setCell, World.size_drew, Wov_size, World.heap_drewN]; omega)))) hb), (by have h := HY3.out; have hb := HY2.out; (try simp only [Wov_Wov, Array.append_assoc] at h hb); exact h.below (by (repeat' (first | (with_reducible assumption) | (with_reducible exact Below.refl _ _) | (with_reducible refine below_wov ?_ ?_ _) | (with_reducible refine below_drewN ?_ _) | (with_reducible refine Below.drew ?_) | (with_reducible refine Below.alloc ?_ ?_ _) | (with_reducible refine Below.setCell ?_ ?_ _) | (with_reducible exact Nat.le_refl _) | omega | (simp only [World.size_alloc, World.size_setCell, World.size_drew, Wov_size, World.heap_drewN]; omega)))) hb), (by have hb := HX2.out; simp only [World.size_alloc, Wov_size, Array.size_append] at hb ⊢; omega), (by have hb := HY2.out; simp only [World.size_alloc, Wov_size, Array.size_append] at hb ⊢; omega)⟩ ?_
            rintro V ⟨hBv, zE1, zE2, l1, l2, hV3, hV4, zB3, zB4⟩
            have HV3 := Lib.hid hV3
            have HV4 := Lib.hid hV4
            have hszv := hBv.size
            clear HX2 HX3 HY2 HY3 hV3 hV4 hE1 hE2 HC1 G2 HCK
            go_loopw [14] (fun i wr => ∃ t : Nat, t ≤ N ∧ i = .int .i64 t ∧ ∃ m, wr = V.drewN m) (fun i _ => N - (intOf i).toNat)
            case atStart => exact ⟨0, Nat.zero_le _, rfl, 0, rfl⟩
            case round =>
              obtain ⟨t, ht, rfl, m, rfl⟩ := hrel
              by_cases hlt : t < N
              · have r1 := (HV3.out t hlt).1
                have r2 := (HV4.out t hlt).1
                have hle : decide (c t < c' t) = false := by have := HCC.out t hlt; simp; omega
                obtain ⟨x1, hx1⟩ : ∃ x, x = c t := ⟨_, rfl⟩
                obtain ⟨x2, hx2⟩ : ∃ x, x = c' t := ⟨_, rfl⟩
                rw [← hx1] at r1 hle
                rw [← hx2] at r2 hle
                have u1 : (0 : Int) ≤ (t : Int) := by omega
                have u2 : (t : Int) < (N : Int) := by omega
                clear hx1 hx2
                go_wp2
                go_quiet (fail)
                go_wp2
                go_roundw
                case rel => exact ⟨t + 1, hlt, by go_num, _, rfl⟩
                case measure => simp [intOf]; omega
              · have e : t = N := by omega
                subst e
                go_wp2
                go_ret
                exact gives_bool rfl (by (repeat' (first | (with_reducible assumption) | (with_reducible exact Below.refl _ _) | (with_reducible refine below_wov ?_ ?_ _) | (with_reducible refine below_drewN ?_ _) | (with_reducible refine Below.drew ?_) | (with_reducible refine Below.alloc ?_ ?_ _) | (with_reducible refine Below.setCell ?_ ?_ _) | (with_reducible exact Nat.le_refl _) | omega | (simp only [World.size_alloc, World.size_setCell, World.size_drew, Wov_size, World.heap_drewN]; omega))))
      · have e1 := isNone_f hvn
        have HVN := Lib.hid hvn
        clear hvn
        · go_enter Try.func6, Try.ntmps6
          go_wp2_with (fail)
          refine (HA.out _).mono ?_; rintro e w' ⟨rfl, p1, rfl⟩
          go_wp2_with (fail)
          refine (TW.out _ (by (repeat' (first | (with_reducible assumption) | (with_reducible exact Below.refl _ _) | (with_reducible refine below_wov ?_ ?_ _) | (with_reducible refine below_drewN ?_ _) | (with_reducible refine Below.drew ?_) | (with_reducible refine Below.alloc ?_ ?_ _) | (with_reducible refine Below.setCell ?_ ?_ _) | (with_reducible exact Nat.le_refl _) | omega | (simp only [World.size_alloc, World.size_setCell, World.size_drew, Wov_size, World.heap_drewN]; omega))))).mono ?_; rintro e w' ⟨p2, cap2, rfl, ho, p3, rfl⟩
          rcases ho with ⟨h, _⟩ | ⟨B2, c2, h1, hB1, hB2, hH⟩
          · omega
          simp only [Value.slice.injEq] at h1
          obtain ⟨rfl, _, rfl⟩ := h1
          have HH := Lib.hid hH
          have HB1 := Lib.hid hB1
          have HB2 := Lib.hid hB2
          have hH0 := hH k hk
          obtain ⟨hH1, hH2⟩ := hH0
          (try simp only [Wov_Wov] at hH1 hH2)
          have zB2 : B2 < w.heap.size + (1 + (p1.bl.size + p3.bl.size)) := by
            have h := hB2
            simp only [World.size_alloc, Wov_size, Array.size_append] at h
            omega
          have zB1 : w.heap.size < B2 := by
            have h := hB1
            simp only [World.size_alloc, Wov_size, Array.size_append] at h
            omega
          have y1 : ¬ B2 = w.heap.size := by omega
          have y2 : ¬ w.heap.size = B2 := by omega
          have y3 : ¬ B2 = w.heap.size + (1 + (p1.bl.size + p3.bl.size)) := by omega
          have y4 : ¬ w.heap.size + (1 + (p1.bl.size + p3.bl.size)) = B2 := by omega
          clear hH hB1 hB2
          go_wp2_with (fail)
          (go_region; all_goals go_wp2_with (fail))
          obtain ⟨D, hD⟩ : ∃ D, w.heap.size + (1 + (p1.bl.size + p3.bl.size)) = D := ⟨_, rfl⟩
          rw [hD]
          refine calls_world (fun W => Below w.heap.size w W ∧ D < W.heap.size ∧ W.cell? ⟨w.heap.size, 0, none⟩ = some (.int .i64 n) ∧ W.cell? ⟨w.heap.size, 1, none⟩ = some (.slice (some ⟨B, off, none⟩) N cap) ∧ W.cell? ⟨D, 0, none⟩ = some (.int .i64 n) ∧ W.cell? ⟨D, 1, none⟩ = some (.slice (some ⟨B2, 0, none⟩) N cap2) ∧ HoldsI W B2 N g ∧ B2 < W.heap.size)
            ⟨by (repeat' (first | (with_reducible assumption) | (with_reducible exact Below.refl _ _) | (with_reducible refine below_wov ?_ ?_ _) | (with_reducible refine below_drewN ?_ _) | (with_reducible refine Below.drew ?_) | (with_reducible refine Below.alloc ?_ ?_ _) | (with_reducible refine Below.setCell ?_ ?_ _) | (with_reducible exact Nat.le_refl _) | omega | (simp only [World.size_alloc, World.size_setCell, World.size_drew, Wov_size, World.heap_drewN]; omega))), by rw [← hD]; simp only [World.size_alloc, World.size_setCell, World.size_drew, Wov_size, Array.size_append]; omega, by simp [go_sem, *], by simp [go_sem, *], by rw [← hD]; simp [go_sem, *], by rw [← hD]; simp [go_sem, *], ?_, by simp only [World.size_alloc, World.size_setCell, World.size_drew, Wov_size, Array.size_append]; omega⟩ ?_
          · have h := HH.out
            have hb := HB2.out
            (try simp only [Wov_Wov] at h hb)
            rw [HG.out, ← HV.out]
            unfold less
            rw [if_neg HVN.out]
            first
              | exact HoldsI.below (k := B2 + 1) (HoldsI.set (HoldsI.of_block h rfl) hk _) ((Below.refl _ _).alloc (by have hb2 := hb; simp only [World.size_alloc, World.size_setCell, World.size_drew, Wov_size, Array.size_append] at hb2 ⊢; omega) _) (Nat.lt_succ_self _)
              | exact holds_drew (HoldsI.below (k := B2 + 1) (HoldsI.set (HoldsI.of_block h rfl) hk _) ((Below.refl _ _).alloc (by have hb2 := hb; simp only [World.size_alloc, World.size_setCell, World.size_drew, Wov_size, Array.size_append] at hb2 ⊢; omega) _) (Nat.lt_succ_self _))
          rintro W ⟨hBw, zD, f0, f1, g0, g1, hW, zB⟩
          have HW := Lib.hid hW
          have hsz := hBw.size
          have hWs : w.heap.size < W.heap.size := by have := hBw.size; omega
          clear hH1 hH2 HH HB1 HB2 zB1 zB2 y1 y2 y3 y4 hD hW TW HA
          have C1 := CL.out W hBw
          have CG2 := fun w' (hb : Below W.heap.size W w') => CG.out w' B2 cap2 (HW.out.below hb zB) (Nat.lt_of_lt_of_le zB hb.size)
          have CK2 := fun w' (hb : Below W.heap.size W w') => CK.out w' (hBw.trans (hb.mono hBw.size))
          clear CL CG CK
          rcases HKD.out with ⟨e2, he2, h2, ⟨e1, h1⟩ | ⟨c, h1⟩⟩ | ⟨c', h2, ⟨hok, h1⟩ | ⟨hok, c, h1, hcc⟩⟩
          · rw [h1] at C1
            rw [h2] at CG2
            have G2 := Lib.hid CG2
            have HC1 := Lib.hid C1
            have be2 := bne0_t he2
            clear CG2 C1 h1 h2 HKD CK2
            refine HC1.out.mono ?_; rintro e w' ⟨rfl, q1, rfl⟩
            go_wp2_with (fail)
            refine (G2.out _ (by (repeat' (first | (with_reducible assumption) | (with_reducible exact Below.refl _ _) | (with_reducible refine below_wov ?_ ?_ _) | (with_reducible refine below_drewN ?_ _) | (with_reducible refine Below.drew ?_) | (with_reducible refine Below.alloc ?_ ?_ _) | (with_reducible refine Below.setCell ?_ ?_ _) | (with_reducible exact Nat.le_refl _) | omega | (simp only [World.size_alloc, World.size_setCell, World.size_drew, Wov_size, World.heap_drewN]; omega))))).mono ?_; rintro e w' ⟨rfl, q2, rfl⟩
            go_wp2
            all_goals
              go_ret
              exact gives_bool (by simp) (by (repeat' (first | (with_reducible assumption) | (with_reducible exact Below.refl _ _) | (with_reducible refine below_wov ?_ ?_ _) | (with_reducible refine below_drewN ?_ _) | (with_reducible refine Below.drew ?_) | (with_reducible refine Below.alloc ?_ ?_ _) | (with_reducible refine Below.setCell ?_ ?_ _) | (with_reducible exact Nat.le_refl _) | omega | (simp only [World.size_alloc, World.size_setCell, World.size_drew, Wov_size, World.heap_drewN]; omega))))
          · rw [h1] at C1
            rw [h2] at CG2
            have G2 := Lib.hid CG2
            have HC1 := Lib.hid C1
            have be2 := bne0_t he2
            clear CG2 C1 h1 h2 HKD CK2
            refine HC1.out.mono ?_; rintro e w' ⟨⟨B3, c3, rfl, _, _, _⟩, q1, rfl⟩
            go_wp2_with (fail)
            refine (G2.out _ (by (repeat' (first | (with_reducible assumption) | (with_reducible exact Below.refl _ _) | (with_reducible refine below_wov ?_ ?_ _) | (with_reducible refine below_drewN ?_ _) | (with_reducible refine Below.drew ?_) | (with_reducible refine Below.alloc ?_ ?_ _) | (with_reducible refine Below.setCell ?_ ?_ _) | (with_reducible exact Nat.le_refl _) | omega | (simp only [World.size_alloc, World.size_setCell, World.size_drew, Wov_size, World.heap_drewN]; omega))))).mono ?_; rintro e w' ⟨rfl, q2, rfl⟩
            go_wp2
            all_goals
              go_ret
              exact gives_bool (by simp) (by (repeat' (first | (with_reducible assumption) | (with_reducible exact Below.refl _ _) | (with_reducible refine below_wov ?_ ?_ _) | (with_reducible refine below_drewN ?_ _) | (with_reducible refine Below.drew ?_) | (with_reducible refine Below.alloc ?_ ?_ _) | (with_reducible refine Below.setCell ?_ ?_ _) | (with_reducible exact Nat.le_refl _) | omega | (simp only [World.size_alloc, World.size_setCell, World.size_drew, Wov_size, World.heap_drewN]; omega))))
          · rw [h1] at C1
            rw [h2] at CG2
            rw [hok] at CK2
            have G2 := Lib.hid CG2
            have HC1 := Lib.hid C1
            have HCK := Lib.hid CK2
            have hz0 : (0 : Int) < (N : Int) := by omega
            clear CG2 C1 h1 h2 HKD CK2 hok
            refine HC1.out.mono ?_; rintro e w' ⟨rfl, q1, rfl⟩
            go_wp2_with (fail)
            refine (G2.out _ (by (repeat' (first | (with_reducible assumption) | (with_reducible exact Below.refl _ _) | (with_reducible refine below_wov ?_ ?_ _) | (with_reducible refine below_drewN ?_ _) | (with_reducible refine Below.drew ?_) | (with_reducible refine Below.alloc ?_ ?_ _) | (with_reducible refine Below.setCell ?_ ?_ _) | (with_reducible exact Nat.le_refl _) | omega | (simp only [World.size_alloc, World.size_setCell, World.size_drew, Wov_size, World.heap_drewN]; omega))))).mono ?_; rintro e w' ⟨⟨B4, c4, rfl, _, _, _⟩, q2, rfl⟩
            go_wp2_with (fail)
            refine (HCK.out _ (by (repeat' (first | (with_reducible assumption) | (with_reducible exact Below.refl _ _) | (with_reducible refine below_wov ?_ ?_ _) | (with_reducible refine below_drewN ?_ _) | (with_reducible refine Below.drew ?_) | (with_reducible refine Below.alloc ?_ ?_ _) | (with_reducible refine Below.setCell ?_ ?_ _) | (with_reducible exact Nat.le_refl _) | omega | (simp only [World.size_alloc, World.size_setCell, World.size_drew, Wov_size, World.heap_drewN]; omega))))).mono ?_; rintro e w' ⟨rfl, q3, rfl⟩
            go_wp2
            all_goals
              go_ret
              exact gives_bool (by simp; try omega) (by (repeat' (first | (with_reducible assumption) | (with_reducible exact Below.refl _ _) | (with_reducible refine below_wov ?_ ?_ _) | (with_reducible refine below_drewN ?_ _) | (with_reducible refine Below.drew ?_) | (with_reducible refine Below.alloc ?_ ?_ _) | (with_reducible refine Below.setCell ?_ ?_ _) | (with_reducible exact Nat.le_refl _) | omega | (simp only [World.size_alloc, World.size_setCell, World.size_drew, Wov_size, World.heap_drewN]; omega))))
          · rw [h1] at C1
            rw [h2] at CG2
            rw [hok] at CK2
            have G2 := Lib.hid CG2
            have HC1 := Lib.hid C1
            have HCK := Lib.hid CK2
            have HCC := Lib.hid hcc
            have nn : ((N : Int) != (N : Int)) = false := by simp
            clear CG2 C1 h1 h2 HKD CK2 hok hcc
            refine HC1.out.mono ?_; rintro e w' ⟨⟨B3, c3, rfl, hX1, hX2, hX3⟩, q1, rfl⟩
            have HX2 := Lib.hid hX2
            have HX3 := Lib.hid hX3
            clear hX1 hX2 hX3
            go_wp2_with (fail)
            refine (G2.out _ (by (repeat' (first | (with_reducible assumption) | (with_reducible exact Below.refl _ _) | (with_reducible refine below_wov ?_ ?_ _) | (with_reducible refine below_drewN ?_ _) | (with_reducible refine Below.drew ?_) | (with_reducible refine Below.alloc ?_ ?_ _) | (with_reducible refine Below.setCell ?_ ?_ _) | (with_reducible exact Nat.le_refl _) | omega | (simp only [World.size_alloc, World.size_setCell, World.size_drew, Wov_size, World.heap_drewN]; omega))))).mono ?_; rintro e w' ⟨⟨B4, c4, rfl, hY1, hY2, hY3⟩, q2, rfl⟩
            have HY2 := Lib.hid hY2
            have HY3 := Lib.hid hY3
            clear hY1 hY2 hY3
            go_wp2_with (fail)
            refine (HCK.out _ (by (repeat' (first | (with_reducible assumption) | (with_reducible exact Below.refl _ _) | (with_reducible refine below_wov ?_ ?_ _) | (with_reducible refine below_drewN ?_ _) | (with_reducible refine Below.drew ?_) | (with_reducible refine Below.alloc ?_ ?_ _) | (with_reducible refine Below.setCell ?_ ?_ _) | (with_reducible exact Nat.le_refl _) | omega | (simp only [World.size_alloc, World.size_setCell, World.size_drew, Wov_size, World.heap_drewN]; omega))))).mono ?_; rintro e w' ⟨rfl, q3, rfl⟩
            go_wp2
            obtain ⟨E1, hE1⟩ : ∃ E, W.heap.size + q1.bl.size = E := ⟨_, rfl⟩
            obtain ⟨E2, hE2⟩ : ∃ E, W.heap.size + (q1.bl.size + (1 + q2.bl.size)) = E := ⟨_, rfl⟩
            rw [hE1, hE2]
            refine wp_world (fun V => Below w.heap.size w V ∧ E1 < V.heap.size ∧ E2 < V.heap.size ∧ V.cell? ⟨E1, 1, none⟩ = some (.slice (some ⟨B3, 0, none⟩) N c3) ∧ V.cell? ⟨E2, 1, none⟩ = some (.slice (some ⟨B4, 0, none⟩) N c4) ∧ HoldsI V B3 N c ∧ HoldsI V B4 N c' ∧ B3 < V.heap.size ∧ B4 < V.heap.size)
              ⟨by (repeat' (first | (with_reducible assumption) | (with_reducible exact Below.refl _ _) | (with_reducible refine below_wov ?_ ?_ _) | (with_reducible refine below_drewN ?_ _) | (with_reducible refine Below.drew ?_) | (with_reducible refine Below.alloc ?_ ?_ _) | (with_reducible refine Below.setCell ?_ ?_ _) | (with_reducible exact Nat.le_refl _) | omega | (simp only [World.size_alloc, World.size_setCell, World.size_drew, Wov_size, World.heap_drewN]; omega))), by rw [← hE1]; simp only [World.size_alloc, Wov_size, Array.size_append]; omega, by rw [← hE2]; simp only [World.size_alloc, Wov_size, Array.size_append]; omega, by rw [← hE1]; simp [go_sem], by rw [← hE2]; simp [go_sem], (by have h := HX3.out; have hb := HX2.out; (try simp only [Wov_Wov, Array.append_assoc] at h hb); exact h.below (by (repeat' (first | (with_reducible assumption) | (with_reducible exact Below.refl _ _) | (with_reducible refine below_wov ?_ ?_ _) | (with_reducible refine below_drewN ?_ _) | (with_reducible refine Below.drew ?_) | (with_reducible refine Below.alloc ?_ ?_ _) | (with_reducible refine Below.setCell ?_ ?_ _) | (with_reducible exact Nat.le_refl _) | omega | (simp only [World.size_alloc, World.size_setCell, World.size_drew, Wov_size, World.heap_drewN]; omega)))) hb), (by have h := HY3.out; have hb := HY2.out; (try simp only [Wov_Wov, Array.append_assoc] at h hb); exact h.below (by (repeat' (first | (with_reducible assumption) | (with_reducible exact Below.refl _ _) | (with_reducible refine below_wov ?_ ?_ _) | (with_reducible refine below_drewN ?_ _) | (with_reducible refine Below.drew ?_) | (with_reducible refine Below.alloc ?_ ?_ _) | (with_reducible refine Below.setCell ?_ ?_ _) | (with_reducible exact Nat.le_refl _) | omega | (simp only [World.size_alloc, World.size_setCell, World.size_drew, Wov_size, World.heap_drewN]; omega)))) hb), (by have hb := HX2.out; simp only [World.size_alloc, Wov_size, Array.size_append] at hb ⊢; omega), (by have hb := HY2.out; simp only [World.size_alloc, Wov_size, Array.size_append] at hb ⊢; omega)⟩ ?_
            rintro V ⟨hBv, zE1, zE2, l1, l2, hV3, hV4, zB3, zB4⟩
            have HV3 := Lib.hid hV3
            have HV4 := Lib.hid hV4
            have hszv := hBv.size
            clear HX2 HX3 HY2 HY3 hV3 hV4 hE1 hE2 HC1 G2 HCK
            go_loopw [14] (fun i wr => ∃ t : Nat, t ≤ N ∧ i = .int .i64 t ∧ ∃ m, wr = V.drewN m) (fun i _ => N - (intOf i).toNat)
            case atStart => exact ⟨0, Nat.zero_le _, rfl, 0, rfl⟩
            case round =>
              obtain ⟨t, ht, rfl, m, rfl⟩ := hrel
              by_cases hlt : t < N
              · have r1 := (HV3.out t hlt).1
                have r2 := (HV4.out t hlt).1
                have hle : decide (c t < c' t) = false := by have := HCC.out t hlt; simp; omega
                obtain ⟨x1, hx1⟩ : ∃ x, x = c t := ⟨_, rfl⟩
                obtain ⟨x2, hx2⟩ : ∃ x, x = c' t := ⟨_, rfl⟩
                rw [← hx1] at r1 hle
                rw [← hx2] at r2 hle
                have u1 : (0 : Int) ≤ (t : Int) := by omega
                have u2 : (t : Int) < (N : Int) := by omega
                clear hx1 hx2
                go_wp2
                go_quiet (fail)
                go_wp2
                go_roundw
                case rel => exact ⟨t + 1, hlt, by go_num, _, rfl⟩
                case measure => simp [intOf]; omega
              · have e : t = N := by omega
                subst e
                go_wp2
                go_ret
                exact gives_bool rfl (by (repeat' (first | (with_reducible assumption) | (with_reducible exact Below.refl _ _) | (with_reducible refine below_wov ?_ ?_ _) | (with_reducible refine below_drewN ?_ _) | (with_reducible refine Below.drew ?_) | (with_reducible refine Below.alloc ?_ ?_ _) | (with_reducible refine Below.setCell ?_ ?_ _) | (with_reducible exact Nat.le_refl _) | omega | (simp only [World.size_alloc, World.size_setCell, World.size_drew, Wov_size, World.heap_drewN]; omega))))

set_option maxRecDepth 100000 in
theorem lifted (os : Os) (started : os.Started) (H : Type) (enc : TypeId × Value → H) :
    ReturnsInHanded {} Try.checked os 6 .any (Rows.dbmLessSpec.pre6 enc Try.prog Try.f6 Rows.dbmLessRow.domain false) (Rows.dbmLessSpec.post enc Try.prog Try.f6 false true false false) := by
  refine returnsInHanded_of_change (C := Try.checked) own started (by kernel_rfl) Try.func6
    (ChangeSpec.witness6 (enc := enc) (C := Try.checked) false ⟨#[], #[.agg #[.int .i64 0, .slice none 0 0], .int .u8 0, .int .u8 0], []⟩ 8 (by kernel_rfl) (by kernel_rfl) (by kernel_rfl) (by kernel_rfl)) ?_
  intro W base args ds gs before hval0 hW hcnd _
  have hval : ∀ (j : Nat) t v, Try.f6.params[j]? = some t → args[j]? = some v → Value.okWide Try.prog W .any base t v := hval0
  have hW' := hW
  obtain ⟨p, q, hA0, hV, hpq, hfz, hnd⟩ := hW
  have hA : DataW.TrodAll enc Try.prog W 0 (fun _ => true) true Try.f6.params.toList args.toList ds p := hA0
  rw [Try.params6] at hA hval
  obtain ⟨v0, vs0, d0, ds0, p0, q0, hargs, rfl, rfl, h0, r0⟩ := trodAll_cons hA
  obtain ⟨v1, vs1, d1, ds1, p1, q1, rfl, rfl, rfl, h1, r1⟩ := trodAll_cons r0
  obtain ⟨v2, vs2, d2, ds2, p2, q2, rfl, rfl, rfl, h2, r2⟩ := trodAll_cons r1
  obtain ⟨rfl, rfl, rfl⟩ := trodAll_nil r2
  obtain rfl : args = #[v0, v1, v2] := by cases args; simp_all
  obtain ⟨rfl, rfl⟩ := trodVars_none hV
  obtain ⟨n0, pp0, N0, cap0, f0, rfl, wn0, wS0, wF0, wN0⟩ := open_dbm (hval 0 24 v0 rfl rfl) h0
  obtain ⟨a1, rfl, rfl, rfl, w1⟩ := open_int Try.underlying5 (hval 1 5 v1 rfl rfl) h1
  obtain ⟨a2, rfl, rfl, rfl, w2⟩ := open_int Try.underlying5 (hval 2 5 v2 rfl rfl) h2
  clear hA0 hval0
  refine (walk n0 pp0 N0 cap0 f0 wn0 a1 w1 a2 w2 W wS0 wF0 wN0).mono fun e W' ⟨he, hg⟩ => ?_
  subst he
  exact ⟨_, rfl, law_post (by kernel_rfl) rfl rfl hW' rfl rfl rfl hg⟩

theorem over : Rows.dbmLessRow.holds Try.pinned (OpenSpec.ofChange Rows.dbmLessSpec) :=
  OpenClaim.holds_of_wide 6 Try.f6 rfl rfl rfl rfl rfl rfl rfl ⟨rfl, rfl, rfl, rfl, rfl⟩ rfl rfl rfl rfl rfl (by kernel_rfl) Try.func6 (by kernel_rfl)
    (of_decide_eq_true (by kernel_rfl)) (by unfold Func.isWrapper; first | (rw [if_pos (by decide +kernel)]; kernel_rfl) | (rw [if_neg (by decide +kernel)]; exact ⟨rfl, rfl⟩))
    (fun os started H enc _ => lifted os started H enc)

/-- The statement. -/
theorem proved : Rows.DbmLessSaid := over
#print axioms proved
end Go.Proofs.Ytacihahipjlnpaa.dbmLess
