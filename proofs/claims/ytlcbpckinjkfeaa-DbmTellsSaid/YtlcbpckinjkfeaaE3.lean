/- Contract of tight.with: a matrix with bounds more, closed. -/
import Derived.Test.YtlcbpckinjkfeaaE2
namespace Go.Proofs.Ytlcbpckinjkfeaa
set_option linter.unusedSimpArgs false
set_option linter.unusedVariables false
open Go Go.RowKit Go.Shelf
attribute [local go_sem] Nat.add_assoc Nat.add_lt_add_iff_left lit_lt_add

theorem OwnP.chg {w W W' : World} {p : Option Addr} {N B : Nat} {f : Nat → Int} (h : OwnP w W p N f) (hB : B < w.heap.size) (hg : Chg W B W') : OwnP w W' p N f := by
  rcases h with h | ⟨B2, h1, h2, h3, h4⟩
  · exact .inl h
  · exact .inr ⟨B2, h1, h2, Nat.lt_of_lt_of_le h3 hg.size, h4.of_block (hg.block B2 h3 (by omega))⟩
theorem OwnP.later {w w0 W : World} {p : Option Addr} {N : Nat} {f : Nat → Int} (h : OwnP w W p N f) (hw : w0.heap.size ≤ w.heap.size) : OwnP w0 W p N f :=
  h.imp id fun ⟨B, h1, h2, h3⟩ => ⟨B, h1, by omega, h3⟩

/-- The bounds of a list, laid one behind the other. -/
def foldT (f : Nat → Int) (T : Nat → Int × Int) : Nat → Nat → Int
  | 0 => f
  | k + 1 => moreAt (foldT f T k) (T k).1.toNat (T k).2
theorem fits_min {a b : Int} (h : fits64 a) (g : fits64 b) : fits64 (min a b) := by
  rcases Int.le_total a b with l | l
  · rw [Int.min_eq_left l]; exact h
  · rw [Int.min_eq_right l]; exact g

set_option maxRecDepth 10000 in
set_option maxHeartbeats 4000000 in
theorem with_any (n : Int) (p : Option Addr) (N cap : Nat) (f : Nat → Int) (pl : Option Addr) (K cl : Nat) (T : Nat → Int × Int) (g : Nat → Int) (w : World) (hn : fits64 n) (hS : SlP w p N f) (hF : Fits N f) (h0 : 0 < N) (hN : N ≤ 1000) (hR : SlR w pl K T) (hK : K ≤ 1000)
    (hat : ∀ k, k < K → ∃ a : Nat, (T k).1 = (a : Int) ∧ a < N) (hg : ∀ x, x < N → foldT f T K x = g x) (hG : Fits N g) :
    Calls Try.prog 101 #[.agg #[.int .i64 n, .slice p N cap], .slice pl K cl] w (matC w (closeM n N g).n (closeM n N g).N (closeM n N g).f (closeM n N g).e) := by
  have TW : Hid (∀ w', Below w.heap.size w w' → Calls Try.prog 33 #[.agg #[.int .i64 n, .slice p N cap]] w' (twinPost w' n N f)) := fun w' hb => twin_any n p N cap f w' (by omega) (.inr ⟨h0, by
    obtain ⟨B, off, h1, h2, h3⟩ := (hS.below hb).pos h0
    exact ⟨B, off, h1, h2, h3⟩⟩)
  obtain ⟨r, hr⟩ : ∃ r, r = closeM n N g := ⟨_, rfl⟩
  have CL : Hid (∀ B cp W, B < W.heap.size → HoldsI W B N (foldT f T K) → Calls Try.prog 29 #[.agg #[.int .i64 n, .slice (some ⟨B, 0, none⟩) N cp]] W (matC W r.n r.N r.f r.e)) := fun B cp W hB hH => by
    rw [hr]
    exact closeM_any n (some ⟨B, 0, none⟩) N cp g W hn (slp_of (fun x hx => by rw [← hg x hx]; exact hH x hx) hB) hG (by omega)
  rw [← hr]
  have HAT := Lib.hid hat
  have HR := Lib.hid hR
  clear hS hF hg hG hr hat hR
  go_enter Try.func101, Try.ntmps101
  go_wp2_with (fail)
  refine (TW.out _ (by (repeat' (first | (with_reducible assumption) | (with_reducible exact Below.refl _ _) | (with_reducible refine below_wov ?_ ?_ _) | (with_reducible refine below_drewN ?_ _) | (with_reducible refine Below.drew ?_) | (with_reducible refine Below.alloc ?_ ?_ _) | (with_reducible refine Below.setCell ?_ ?_ _) | (with_reducible exact Nat.le_refl _) | omega | (simp only [World.size_alloc, World.size_setCell, World.size_drew, Wov_size, World.heap_drewN]; omega))))).mono ?_; rintro e w' ⟨p2, cap2, rfl, ho, p3, rfl⟩
  rcases ho with ⟨h, _⟩ | ⟨B, c, h1, hB1, hB2, hH⟩
  · omega
  simp only [Value.slice.injEq] at h1
  obtain ⟨rfl, _, rfl⟩ := h1
  go_wp2
  simp only [World.size_alloc, Wov_size] at hB1 hB2
  refine wp_world (fun W => Below w.heap.size w W ∧ w.heap.size + 2 ≤ B ∧ B < W.heap.size ∧ HoldsI W B N f ∧ W.cell? ⟨w.heap.size, 0, none⟩ = some (.int .i64 n) ∧ W.cell? ⟨w.heap.size, 1, none⟩ = some (.slice (some ⟨B, 0, none⟩) N cap2) ∧ W.cell? ⟨w.heap.size + 1, 0, none⟩ = some (.int .i64 0) ∧ W.cell? ⟨w.heap.size + 1, 1, none⟩ = some (.slice none 0 0) ∧ W.frozen? ⟨w.heap.size + 1, 0, none⟩ = false ∧ W.frozen? ⟨w.heap.size + 1, 1, none⟩ = false ∧ SlR W pl K T)
    ⟨by (repeat' (first | (with_reducible assumption) | (with_reducible exact Below.refl _ _) | (with_reducible refine below_wov ?_ ?_ _) | (with_reducible refine below_drewN ?_ _) | (with_reducible refine Below.drew ?_) | (with_reducible refine Below.alloc ?_ ?_ _) | (with_reducible refine Below.setCell ?_ ?_ _) | (with_reducible exact Nat.le_refl _) | omega | (simp only [World.size_alloc, World.size_setCell, World.size_drew, Wov_size, World.heap_drewN]; omega))), by omega, by simp only [World.size_alloc, World.size_setCell, Wov_size, Array.size_append]; omega, ?_, by simp [go_sem], by simp [go_sem], by simp [go_sem], by simp [go_sem], by simp [go_sem], by simp [go_sem], HR.out.below (by (repeat' (first | (with_reducible assumption) | (with_reducible exact Below.refl _ _) | (with_reducible refine below_wov ?_ ?_ _) | (with_reducible refine below_drewN ?_ _) | (with_reducible refine Below.drew ?_) | (with_reducible refine Below.alloc ?_ ?_ _) | (with_reducible refine Below.setCell ?_ ?_ _) | (with_reducible exact Nat.le_refl _) | omega | (simp only [World.size_alloc, World.size_setCell, World.size_drew, Wov_size, World.heap_drewN]; omega))))⟩ ?_
  · refine hH.of_block ?_
    exact (((Chg.set _ w.heap.size 0 _).trans (Chg.set _ w.heap.size 1 _))).block B (by simp only [World.size_alloc, Wov_size, Array.size_append]; omega) (by omega)
  rintro W ⟨hBw, hbw, hBW, hHW, m0, m1, r0, r1, s0, s1, hRW⟩
  have HRW := Lib.hid hRW
  have hsz := hBw.size
  have hRB : w.heap.size + 1 ≠ B := by omega
  have hMB : w.heap.size ≠ B := by omega
  have hMW : w.heap.size < W.heap.size := by omega
  have hR1W : w.heap.size + 1 < W.heap.size := by omega
  clear hH hB1 hB2 TW hRW
  go_loopw [7, 12] (fun _ i wr => ∃ t : Nat, t ≤ K ∧ i = .int .i64 t ∧ Chg W B wr ∧ HoldsI wr B N (foldT f T t))
    (fun _ i _ => K - (intOf i).toNat)
  case atStart => exact ⟨0, Nat.zero_le _, rfl, Chg.refl _ _, hHW⟩
  case round =>
    obtain ⟨t, ht, rfl, hc, hH⟩ := hrel
    have c0 := (hc.cell (x := 0) hMW hMB).trans m0
    have c1 := (hc.cell (x := 1) hMW hMB).trans m1
    have y0 := (hc.cell (x := 0) hR1W hRB).trans r0
    have y1 := (hc.cell (x := 1) hR1W hRB).trans r1
    have y2 := (hc.frozen (x := 0) hR1W hRB).trans s0
    have y3 := (hc.frozen (x := 1) hR1W hRB).trans s1
    have hsr := hc.size
    by_cases hlt : t < K
    · obtain ⟨BL, off, rfl, hBL, hcl⟩ : ∃ BL off, pl = some ⟨BL, off, none⟩ ∧ BL < w.heap.size ∧ ∀ x, x < K → w.cell? ⟨BL, off + x * 2, none⟩ = some (.int .i64 (T x).1) ∧ w.cell? ⟨BL, off + (x * 2 + 1), none⟩ = some (.int .i64 (T x).2) := by
        rcases HR.out with h | h
        · omega
        · exact h
      obtain ⟨l0, l1⟩ := hcl t hlt
      have k0 : wr.cell? ⟨BL, off + t * 2, none⟩ = some (.int .i64 (T t).1) := (hc.cell (by omega) (by omega)).trans ((hBw.cell (p := ⟨BL, off + t * 2, none⟩) hBL).trans l0)
      have k1 : wr.cell? ⟨BL, off + (t * 2 + 1), none⟩ = some (.int .i64 (T t).2) := (hc.cell (by omega) (by omega)).trans ((hBw.cell (p := ⟨BL, off + (t * 2 + 1), none⟩) hBL).trans l1)
      obtain ⟨a, ha, haN⟩ := HAT.out t hlt
      have hb1 := (hH a haN).1
      have hb2 := (hH a haN).2
      have hstep : Hid (∀ v b, v = foldT f T t a → b = (T t).2 → upd (foldT f T t) a (min v b) = foldT f T (t + 1)) := fun v b hv hb => by
        show _ = moreAt (foldT f T t) (T t).1.toNat (T t).2
        rw [ha, hv, hb]; rfl
      obtain ⟨v, hv⟩ : ∃ v, v = foldT f T t a := ⟨_, rfl⟩
      obtain ⟨b, hb⟩ : ∃ b, b = (T t).2 := ⟨_, rfl⟩
      rw [ha] at k0
      rw [← hb] at k1
      rw [← hv] at hb1
      have HST : Hid (upd (foldT f T t) a (min v b) = foldT f T (t + 1)) := hstep.out v b hv hb
      have HH := Lib.hid hH
      have u1 : (0 : Int) ≤ (a : Int) := by omega
      have u2 : (a : Int) < (N : Int) := by omega
      have hBr : B < wr.heap.size := by omega
      have hMr : w.heap.size < wr.heap.size := by omega
      clear hstep hv hb l0 l1 hcl m0 m1 r0 r1 s0 s1 y0 y1 y2 y3 ha hH hHW
      go_wp2
      go_region
      go_wp2
      go_roundw
      case rel =>
        have em : (if b < v then b else v) = min v b := by
          by_cases h : b < v
          · rw [if_pos h, Int.min_eq_right (by omega)]
          · rw [if_neg h, Int.min_eq_left (by omega)]
        rw [em]
        refine ⟨t + 1, hlt, by go_num, ((hc.trans (Chg.set _ _ _ _)).trans (Chg.alloc _ _ _)).trans (Chg.drew _ _), ?_⟩
        rw [← HST.out]
        have h5 := HH.out.set haN (min v b)
        exact h5.below (((Below.refl _ _).alloc (Nat.le_refl _) _).drew) (by simp [World.setCell]; omega)
      case measure => simp [intOf]; omega
    · have e : t = K := by omega
      subst e
      have CL2 := CL.out B cap2 wr (by omega) hH
      have CLH := Lib.hid CL2
      clear CL2 CL m0 m1 r0 r1 s0 s1 hHW hH
      go_wp2_with (fail)
      refine CLH.out.mono ?_; rintro e w' ⟨⟨p4, cap4, rfl, ho4⟩, q4, rfl⟩
      have HO := Lib.hid ho4
      clear ho4
      go_wp2
      refine bodyPost_ret (by simp [results, Try.results101, go_sem, y0, y1]; try rfl) rfl ?_
      refine ⟨⟨p4, cap4, rfl, ?_⟩, Wov_of_below ?_⟩
      · exact (HO.out.chg (B := w.heap.size + 1) (by omega) ((Chg.set _ _ _ _).trans (Chg.set _ _ _ _))).later (by omega)
      · have b0 : Below w.heap.size w wr := hBw.trans (hc.belowAt (by omega) hsz)
        exact ((below_wov b0 (by omega) q4).setCell (p := ⟨w.heap.size + 1, 0, none⟩) (by simp) _).setCell (p := ⟨w.heap.size + 1, 1, none⟩) (by simp) _
end Go.Proofs.Ytlcbpckinjkfeaa
