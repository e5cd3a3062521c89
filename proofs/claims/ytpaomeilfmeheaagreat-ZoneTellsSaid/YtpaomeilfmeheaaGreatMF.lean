/- Contracts of the document's layer 5: MayBound, clock, told, One, lesser, Common. Contract of the document's Set (layer 5); what it answers beside tight.Set. Contract of the document's Set (layer 5). Contracts of the document's Set and Meet (layer 5), of all matrices. Contract of the document's Meet (layer 5), of all matrices. Contracts of the document's MaySpan, Below, Above, Between (layer 5). Contract of the document's Between (layer 5), where all may be; what it answers beside tight.Between. Contract of the document's Between (layer 5), of all matrices. -/
import Derived.Test.YtpaomeilfmeheaaGreatMP
import Derived.Test.YtpaomeilfmeheaaGreatME
namespace Go.Proofs.YtpaomeilfmeheaaGreat
set_option linter.unusedSimpArgs false
set_option linter.unusedVariables false
open Go Go.RowKit Go.Shelf
attribute [local go_sem] Nat.add_assoc Nat.add_lt_add_iff_left lit_lt_add

/-- A matrix of the call's own. -/
def rowPost (w : World) (n N : Nat) (f : Nat → Int) (e : Ending) (W : World) : Prop := ∃ B cap, e = .returned (.agg #[.int .i64 n, .slice (some ⟨B, 0, none⟩) N cap]) ∧ w.heap.size ≤ B ∧ B < W.heap.size ∧ HoldsI W B N f ∧ ∃ q, W = Wov w q

set_option maxRecDepth 10000 in
set_option maxHeartbeats 2000000 in
theorem one_any (n i j : Nat) (b : Int) (w : World) (hn0 : 1 ≤ n) (hn : n ≤ 4) (hi : i < n) (hj : j < n) :
    Calls Tryz.prog 66 #[.int .i64 n, .int .i64 i, .int .i64 j, .int .i64 b] w (rowPost w n (n * n) (upd (topF n) (i * n + j) b)) := by
  have hq0 : n * n ≤ 4 * 4 := Nat.mul_le_mul hn hn
  have hij := place_lt hi hj
  have AL := Lib.hid (fun w' => all_any n w' hn0 hn)
  obtain ⟨q, hq⟩ : ∃ q : Nat, q = i * n := ⟨_, rfl⟩
  have hqm : (i : Int) * (n : Int) = (q : Int) := by rw [hq]; push_cast; rfl
  rw [← hq] at hij ⊢
  obtain ⟨N, hN⟩ : ∃ N, N = n * n := ⟨_, rfl⟩
  unfold allPost at AL
  rw [← hN] at AL hij hq0 ⊢
  have v1 : IntKind.i64.wrap (q : Int) = (q : Int) := by rw [IntKind.wrap_i64]; omega
  have v2 : IntKind.i64.wrap ((q : Int) + (j : Int)) = (q : Int) + (j : Int) := by rw [IntKind.wrap_i64]; omega
  have v3 : ((q : Int) + (j : Int)).toNat = q + j := by omega
  have v4 : (0 : Int) ≤ (q : Int) + (j : Int) := by omega
  have v5 : (q : Int) + (j : Int) < (N : Int) := by omega
  clear hq hN
  go_enter Tryz.func66, Tryz.ntmps66
  go_wp2_with (fail)
  refine calls_world (fun W => Below w.heap.size w W ∧ w.heap.size < W.heap.size ∧ W.cell? ⟨w.heap.size, 0, none⟩ = some (.int .i64 0) ∧ W.cell? ⟨w.heap.size, 1, none⟩ = some (.slice none 0 0) ∧ W.frozen? ⟨w.heap.size, 0, none⟩ = false ∧ W.frozen? ⟨w.heap.size, 1, none⟩ = false) ⟨by (repeat' (first | (with_reducible assumption) | (with_reducible exact Below.refl _ _) | (with_reducible refine below_wov ?_ ?_ _) | (with_reducible refine below_drewN ?_ _) | (with_reducible refine Below.drew ?_) | (with_reducible refine Below.alloc ?_ ?_ _) | (with_reducible refine Below.setCell ?_ ?_ _) | (with_reducible exact Nat.le_refl _) | omega | (simp only [World.size_alloc, World.size_setCell, World.size_drew, Wov_size, World.heap_drewN]; omega))), by simp, by simp [go_sem], by simp [go_sem], by simp [go_sem], by simp [go_sem]⟩ ?_
  rintro W ⟨hBw, hz, r0, r1, s0, s1⟩
  refine (AL.out W).mono ?_; rintro e w' ⟨B, cap, rfl, hB1, hB2, hH, q1, rfl⟩
  have k0 := (hH (q + j) hij).1
  have k1 := (hH (q + j) hij).2
  have HH := Lib.hid hH
  obtain ⟨v, hv⟩ : ∃ v, v = topF n (q + j) := ⟨_, rfl⟩
  rw [← hv] at k0
  rw [Wov_size] at hB2
  have n1 : ¬ (W.heap.size + q1.bl.size = B) := by omega
  have n2 : ¬ (B = W.heap.size + q1.bl.size) := by omega
  have n3 : ¬ (w.heap.size = B) := by omega
  have n4 : ¬ (B = w.heap.size) := by omega
  have hsw := hBw.size
  clear hH AL hv
  go_wp2
  refine bodyPost_ret (by simp [results, Tryz.results66, go_sem, r0, r1, hz, n1, n2, n3, n4]; try rfl) rfl ?_
  refine ⟨B, cap, rfl, by omega, ?_, ?_, Wov_of_below ?_⟩
  · simp only [World.size_alloc, World.size_setCell, Wov_size]; omega
  · have h1 := HH.out.set hij b
    exact h1.of_block (((((Chg.set _ w.heap.size 0 _).trans (Chg.set _ w.heap.size 1 _)).trans (Chg.alloc _ w.heap.size _))).block B (by simp only [World.size_setCell, Wov_size]; omega) n4)
  · exact ((((below_wov hBw (by omega) q1).setCell (p := ⟨B, q + j, none⟩) (by show w.heap.size ≤ B; omega) _).setCell (p := ⟨w.heap.size, 0, none⟩) (Nat.le_refl _) _).setCell (p := ⟨w.heap.size, 1, none⟩) (Nat.le_refl _) _).alloc (by simp only [World.size_setCell, Wov_size]; omega) _

theorem lessF_step {f g : Nat → Int} {t : Nat} : (fun x => if x < t + 1 then min (f x) (g x) else f x) = upd (fun x => if x < t then min (f x) (g x) else f x) t (min (f t) (g t)) := by
  funext x
  unfold upd
  by_cases e : x = t
  · subst e; rw [if_pos rfl, if_pos (by omega)]
  · rw [if_neg e]
    show _ = if x < t then min (f x) (g x) else f x
    by_cases h : x < t
    · rw [if_pos h, if_pos (by omega)]
    · rw [if_neg h, if_neg (by omega)]

set_option maxRecDepth 100000 in
set_option maxHeartbeats 4000000 in
theorem lesser_any (n N : Nat) (p1 p2 : Option Addr) (c1 c2 : Nat) (f1 f2 : Nat → Int) (w : World) (h0 : 0 < N) (hN : N ≤ 16) (hn : n ≤ 4) (hS1 : SlP w p1 N f1) (hS2 : SlP w p2 N f2) :
    Calls Tryz.prog 96 #[.agg #[.int .i64 n, .slice p1 N c1], .agg #[.int .i64 n, .slice p2 N c2]] w (rowPost w n N (lessF f1 f2)) := by
  have TW : Hid (∀ W, Below w.heap.size w W → Calls Tryz.prog 109 #[.agg #[.int .i64 n, .slice p1 N c1]] W (copyPost W n N f1)) := fun W hb => refTwin_any n p1 N c1 f1 W (by omega) (hS1.below hb)
  obtain ⟨B2, off2, rfl, hB2, hc2⟩ := hS2.pos h0
  have HC2 := Lib.hid hc2
  clear hc2 hS1 hS2
  go_enter Tryz.func96, Tryz.ntmps96
  go_wp2_with (fail)
  refine calls_world (fun W => Below w.heap.size w W ∧ w.heap.size + 2 < W.heap.size ∧ W.cell? ⟨w.heap.size + 1, 0, none⟩ = some (.int .i64 n) ∧ W.cell? ⟨w.heap.size + 1, 1, none⟩ = some (.slice (some ⟨B2, off2, none⟩) N c2) ∧ W.cell? ⟨w.heap.size + 2, 0, none⟩ = some (.int .i64 0) ∧ W.cell? ⟨w.heap.size + 2, 1, none⟩ = some (.slice none 0 0) ∧ W.frozen? ⟨w.heap.size + 2, 0, none⟩ = false ∧ W.frozen? ⟨w.heap.size + 2, 1, none⟩ = false) ⟨by (repeat' (first | (with_reducible assumption) | (with_reducible exact Below.refl _ _) | (with_reducible refine below_wov ?_ ?_ _) | (with_reducible refine below_drewN ?_ _) | (with_reducible refine Below.drew ?_) | (with_reducible refine Below.alloc ?_ ?_ _) | (with_reducible refine Below.setCell ?_ ?_ _) | (with_reducible exact Nat.le_refl _) | omega | (simp only [World.size_alloc, World.size_setCell, World.size_drew, Wov_size, World.heap_drewN]; omega))), by simp, by simp [go_sem], by simp [go_sem], by simp [go_sem], by simp [go_sem], by simp [go_sem], by simp [go_sem]⟩ ?_
  rintro W ⟨hBw, hz, b0, b1, r0, r1, s0, s1⟩
  refine (TW.out W hBw).mono ?_; rintro e w' ⟨p3, c3, rfl, _, ho, q1, rfl⟩
  rcases ho with ho | ⟨B, rfl, hB1, hB3, hH⟩
  · omega
  have HH := Lib.hid hH
  clear hH TW
  go_wp2
  obtain ⟨D, hD⟩ : ∃ D, W.heap.size + q1.bl.size = D := ⟨_, rfl⟩
  rw [Wov_size, hD] at hB3
  rw [hD]
  refine wp_world (fun X => Below w.heap.size w X ∧ D < X.heap.size ∧ HoldsI X B N f1 ∧ X.cell? ⟨D, 0, none⟩ = some (.int .i64 n) ∧ X.cell? ⟨D, 1, none⟩ = some (.slice (some ⟨B, 0, none⟩) N c3) ∧ X.cell? ⟨w.heap.size + 1, 0, none⟩ = some (.int .i64 n) ∧ X.cell? ⟨w.heap.size + 1, 1, none⟩ = some (.slice (some ⟨B2, off2, none⟩) N c2) ∧ X.cell? ⟨w.heap.size + 2, 0, none⟩ = some (.int .i64 0) ∧ X.cell? ⟨w.heap.size + 2, 1, none⟩ = some (.slice none 0 0) ∧ X.frozen? ⟨w.heap.size + 2, 0, none⟩ = false ∧ X.frozen? ⟨w.heap.size + 2, 1, none⟩ = false)
    ⟨by (repeat' (first | (with_reducible assumption) | (with_reducible exact Below.refl _ _) | (with_reducible refine below_wov ?_ ?_ _) | (with_reducible refine below_drewN ?_ _) | (with_reducible refine Below.drew ?_) | (with_reducible refine Below.alloc ?_ ?_ _) | (with_reducible refine Below.setCell ?_ ?_ _) | (with_reducible exact Nat.le_refl _) | omega | (simp only [World.size_alloc, World.size_setCell, World.size_drew, Wov_size, World.heap_drewN]; omega))), by rw [← hD]; simp only [World.size_alloc, Wov_size]; omega, HH.out.below ((Below.refl _ _).alloc (Nat.le_refl _) _) (by rw [Wov_size, hD]; exact hB3), by rw [← hD]; simp [go_sem], by rw [← hD]; simp [go_sem], by simp [go_sem, *], by simp [go_sem, *], by simp [go_sem, *], by simp [go_sem, *], by simp [go_sem, *], by simp [go_sem, *]⟩ ?_
  rintro X ⟨hBX, zD, hX, d0, d1, e0, e1, x0, x1, y0, y1⟩
  have hszW := hBw.size
  have hszX := hBX.size
  have n1 : D ≠ B := by omega
  have n2 : w.heap.size + 1 ≠ B := by omega
  have n3 : w.heap.size + 2 ≠ B := by omega
  have z1 : w.heap.size + 1 < X.heap.size := by omega
  have z2 : w.heap.size + 2 < X.heap.size := by omega
  clear b0 b1 r0 r1 s0 s1 HH hD
  go_loopw [6] (fun i wr => ∃ t : Nat, t ≤ N ∧ i = .int .i64 t ∧ Chg X B wr ∧ Hid (HoldsI wr B N (fun x => if x < t then min (f1 x) (f2 x) else f1 x)))
    (fun i _ => N - (intOf i).toNat)
  case atStart => exact ⟨0, Nat.zero_le _, rfl, Chg.refl _ _, by show HoldsI X B N _; simpa using hX⟩
  case round =>
    obtain ⟨t, ht, rfl, hc, hH⟩ := hrel
    have c0 := (hc.cell (x := 0) zD n1).trans d0
    have c1' := (hc.cell (x := 1) zD n1).trans d1
    have g0 := (hc.cell (x := 0) z1 n2).trans e0
    have g1 := (hc.cell (x := 1) z1 n2).trans e1
    have u0 := (hc.cell (x := 0) z2 n3).trans x0
    have u1 := (hc.cell (x := 1) z2 n3).trans x1
    have u2 := (hc.frozen (x := 0) z2 n3).trans y0
    have u3 := (hc.frozen (x := 1) z2 n3).trans y1
    have hszr := hc.size
    by_cases hlt : t < N
    · have k0 : wr.cell? ⟨B, t, none⟩ = some (.int .i64 (f1 t)) := by have := (hH.out t hlt).1; simpa using this
      have k1 := (hH.out t hlt).2
      have k2 : wr.cell? ⟨B2, off2 + t, none⟩ = some (.int .i64 (f2 t)) := (hc.cell (by omega) (by omega)).trans ((hBX.cell (p := ⟨B2, off2 + t, none⟩) hB2).trans (HC2.out t hlt))
      have ST : Hid (∀ v, v = min (f1 t) (f2 t) → HoldsI (wr.setCell ⟨B, t, none⟩ (.int .i64 v)) B N (fun x => if x < t + 1 then min (f1 x) (f2 x) else f1 x)) := fun v hv => by
        rw [lessF_step, ← hv]; exact hH.out.set hlt v
      have NS : Hid (min (f1 t) (f2 t) = f1 t → HoldsI wr B N (fun x => if x < t + 1 then min (f1 x) (f2 x) else f1 x)) := fun h x hx => by
        rw [lessF_step]
        by_cases e : x = t
        · subst e; simp only [upd, if_pos]; rw [h]; exact ⟨k0, k1⟩
        · simp only [upd, if_neg e]; exact hH.out x hx
      obtain ⟨v1, hv1⟩ : ∃ v, v = f1 t := ⟨_, rfl⟩
      obtain ⟨v2, hv2⟩ : ∃ v, v = f2 t := ⟨_, rfl⟩
      rw [← hv1] at k0 ST NS
      rw [← hv2] at k2 ST NS
      have i1 : (0 : Int) ≤ (t : Int) := by omega
      have i2 : (t : Int) < (N : Int) := by omega
      have zB : B < wr.heap.size := by omega
      have zB2 : B2 < wr.heap.size := by omega
      have zDr : D < wr.heap.size := by omega
      have z1r : w.heap.size + 1 < wr.heap.size := by omega
      clear hv1 hv2 d0 d1 e0 e1 x0 x1 y0 y1 hX hH
      by_cases hv : v2 < v1
      · have bv : decide (v2 < v1) = true := by simp [hv]
        have ST2 := Lib.hid (ST.out v2 (by omega))
        clear ST NS
        go_wp2
        go_quiet (fail)
        go_wp2
        go_region
        go_wp2
        go_roundw
        case rel => exact ⟨t + 1, hlt, by go_num, (hc.trans (Chg.drewN _ _ _)).trans (Chg.set _ _ _ _), fun x hx => ST2.out x hx⟩
        case measure => simp [intOf]; omega
      · have bv : decide (v2 < v1) = false := by simp; omega
        have NS2 := Lib.hid (NS.out (by omega))
        clear ST NS
        go_wp2
        go_quiet (fail)
        go_wp2
        go_roundw
        case rel => exact ⟨t + 1, hlt, by go_num, hc.trans (Chg.drewN _ _ _), fun x hx => ⟨(World.cell?_drewN _ _ _).trans (NS2.out x hx).1, (NS2.out x hx).2⟩⟩
        case measure => simp [intOf]; omega
    · have e : t = N := by omega
      subst e
      have HF : Hid (HoldsI wr B t (lessF f1 f2)) := fun x hx => by
        have := hH.out x hx
        simp only [if_pos hx] at this
        exact this
      clear hH hX d0 d1 e0 e1 x0 x1 y0 y1
      go_wp2
      refine bodyPost_ret (by simp [results, Tryz.results96, go_sem, u0, u1]; try rfl) rfl ?_
      refine ⟨B, c3, rfl, by omega, by simp [World.setCell]; omega, ?_, Wov_of_below ?_⟩
      · exact HF.out.of_block (((Chg.set wr (w.heap.size + 2) 0 _).trans (Chg.set _ (w.heap.size + 2) 1 _)).block B (by omega) (by omega))
      · exact ((hBX.trans (hc.belowAt (by omega) hszX)).setCell (p := ⟨w.heap.size + 2, 0, none⟩) (by simp) _).setCell (p := ⟨w.heap.size + 2, 1, none⟩) (by simp) _

set_option maxRecDepth 10000 in
set_option maxHeartbeats 2000000 in
theorem common_any (n N : Nat) (p1 p2 : Option Addr) (c1 c2 : Nat) (f1 f2 : Nat → Int) (r : MR) (w : World) (hN : N = n * n) (hok : okD n N (lessF f1 f2) = true) (hr : r = closeM n N (lessF f1 f2)) (hS1 : SlP w p1 N f1) (hS2 : SlP w p2 N f2) :
    Calls Tryz.prog 70 #[.agg #[.int .i64 n, .slice p1 N c1], .agg #[.int .i64 n, .slice p2 N c2]] w (matB w r.n r.N r.f (decide (r.e = 0))) := by
  subst hN
  obtain ⟨hn0, hn, _⟩ := okD_bd hok
  have hq0 : n * n ≤ 4 * 4 := Nat.mul_le_mul hn hn
  have hq1 : 1 * 1 ≤ n * n := Nat.mul_le_mul hn0 hn0
  have LS := Lib.hid (fun W (hb : Below w.heap.size w W) => lesser_any n (n * n) p1 p2 c1 c2 f1 f2 W (by omega) (by omega) hn (hS1.below hb) (hS2.below hb))
  have CL : Hid (∀ W B cap, SlP W (some ⟨B, 0, none⟩) (n * n) (lessF f1 f2) → Calls Tryz.prog 28 #[.agg #[.int .i64 n, .slice (some ⟨B, 0, none⟩) (n * n) cap]] W (matB W r.n r.N r.f (decide (r.e = 0)))) := fun W B cap h => by
    rw [hr]; exact refClosed_any n _ cap _ W hok h
  obtain ⟨N, hN⟩ : ∃ N, N = n * n := ⟨_, rfl⟩
  obtain ⟨s, hs⟩ : ∃ s, s = decide (r.e = 0) := ⟨_, rfl⟩
  rw [← hN] at LS CL ⊢
  rw [← hs] at CL ⊢
  clear hr hok hS1 hS2 hN hs hq0 hq1
  go_enter Tryz.func70, Tryz.ntmps70
  go_wp2_with (fail)
  refine calls_world (fun W => Below w.heap.size w W ∧ w.heap.size + 2 < W.heap.size ∧ W.cell? ⟨w.heap.size + 2, 0, none⟩ = some (.int .i64 0) ∧ W.cell? ⟨w.heap.size + 2, 1, none⟩ = some (.slice none 0 0) ∧ W.frozen? ⟨w.heap.size + 2, 0, none⟩ = false ∧ W.frozen? ⟨w.heap.size + 2, 1, none⟩ = false) ⟨by (repeat' (first | (with_reducible assumption) | (with_reducible exact Below.refl _ _) | (with_reducible refine below_wov ?_ ?_ _) | (with_reducible refine below_drewN ?_ _) | (with_reducible refine Below.drew ?_) | (with_reducible refine Below.alloc ?_ ?_ _) | (with_reducible refine Below.setCell ?_ ?_ _) | (with_reducible exact Nat.le_refl _) | omega | (simp only [World.size_alloc, World.size_setCell, World.size_drew, Wov_size, World.heap_drewN]; omega))), by simp, by simp [go_sem], by simp [go_sem], by simp [go_sem], by simp [go_sem]⟩ ?_
  rintro W ⟨hBw, hz, r0, r1, s0, s1⟩
  refine (LS.out W hBw).mono ?_; rintro e w' ⟨B, cap, rfl, hB1, hB2, hH, q1, rfl⟩
  have C := Lib.hid (CL.out (Wov W q1) B cap (slp_of hH hB2))
  clear hH CL LS hB1 hB2
  go_wp2_with (fail)
  refine C.out.mono ?_; rintro e w' ⟨⟨p4, cap4, rfl, ho4⟩, q4, rfl⟩
  have HO := Lib.hid ho4
  have hsw := hBw.size
  clear ho4 C
  go_wp2
  refine bodyPost_ret (by simp [results, Tryz.results70, go_sem, r0, r1, hz]; try rfl) rfl ?_
  refine ⟨⟨p4, cap4, rfl, ?_⟩, Wov_of_below (by (repeat' (first | (with_reducible assumption) | (with_reducible exact Below.refl _ _) | (with_reducible refine below_wov ?_ ?_ _) | (with_reducible refine below_drewN ?_ _) | (with_reducible refine Below.drew ?_) | (with_reducible refine Below.alloc ?_ ?_ _) | (with_reducible refine Below.setCell ?_ ?_ _) | (with_reducible exact Nat.le_refl _) | omega | (simp only [World.size_alloc, World.size_setCell, World.size_drew, Wov_size, World.heap_drewN]; omega))))⟩
  have H2 : OwnP (Wov W q1) (Wov W ⟨q1.bl ++ q4.bl, q4.dr⟩) p4 r.N r.f := by have := HO.out; rwa [Wov_Wov] at this
  exact (H2.chg (B := w.heap.size + 2) (by rw [Wov_size]; omega) ((Chg.set _ _ _ _).trans (Chg.set _ _ _ _))).later (by rw [Wov_size]; omega)
#print axioms common_any
end Go.Proofs.YtpaomeilfmeheaaGreat

namespace Go.Proofs.YtpaomeilfmeheaaGreat
set_option linter.unusedSimpArgs false
set_option linter.unusedVariables false
open Go Go.RowKit Go.Shelf
attribute [local go_sem] Nat.add_assoc Nat.add_lt_add_iff_left lit_lt_add

/-- The document's answer. -/
def refSetM (n : Int) (N : Nat) (f : Nat → Int) (i j b : Int) : MR :=
  if okD n N f then (if 0 ≤ i ∧ i < n ∧ 0 ≤ j ∧ j < n then (if mayB b then closeM n N (lessF f (upd (topF n.toNat) (i * n + j).toNat b)) else errM 8) else errM 2) else errM 8

theorem topF_may (n : Nat) (x : Nat) : mayB (topF n x) = true := by
  unfold topF
  split
  · decide
  · decide
theorem okD_oneF {n N : Nat} {f : Nat → Int} {x : Nat} {b : Int} (h : okD n N f = true) (hb : mayB b = true) : okD n N (lessF f (upd (topF n) x b)) = true := by
  refine okD_of h fun y hy => mayB_min (okD_may h _ hy) ?_
  unfold upd
  split
  · exact hb
  · exact topF_may n y
/-- A closed one is under a matrix with one bound just if it keeps the bound, besides 0 of each clock. -/
theorem under_one {n a c : Nat} {b : Int} {q : Nat → Nat → EB} (hq : Closed n q) (ha : a < n) (hc : c < n) : Under n q (mE n (upd (topF n) (a * n + c) b)) ↔ ele (q a c) (eb b) := by
  have pt : ∀ i j, i < n → j < n → mE n (upd (topF n) (a * n + c) b) i j = if i = a ∧ j = c then eb b else if i = j then some 1 else none := by
    intro i j hi hj
    unfold mE upd
    by_cases e : i * n + j = a * n + c
    · obtain ⟨rfl, rfl⟩ := place_inj hj hc e
      rw [if_pos rfl, if_pos ⟨rfl, rfl⟩]
    · rw [if_neg e, if_neg (fun ⟨h, g⟩ => e (by rw [h, g])), topF_at hj]
      by_cases h : i = j
      · rw [if_pos h, if_pos h, eb_one]
      · rw [if_neg h, if_neg h, eb_none]
  constructor
  · intro h
    have := h a c ha hc
    rwa [pt a c ha hc, if_pos ⟨rfl, rfl⟩] at this
  · intro h i j hi hj
    rw [pt i j hi hj]
    split
    · rename_i e; obtain ⟨rfl, rfl⟩ := e; exact h
    · split
      · rename_i e; subst e; rw [hq.1 i hi]; exact ele_refl _
      · exact ele_none _
theorem one_le {n a c : Nat} {b : Int} (hb : mayB b = true) : ∀ i j, i < n → j < n → upd (topF n) (a * n + c) b (i * n + j) ≤ noneB := fun i j hi hj => by
  unfold upd
  split
  · exact mayB_le hb
  · exact mayB_le (topF_may n _)
/-- The document's answer is tight's. -/
theorem set_ref (n : Int) (N : Nat) (f : Nat → Int) (i j b : Int) : (setM n N f i j b).e = (refSetM n N f i j b).e ∧ sameM (setM n N f i j b) (refSetM n N f i j b) = true := by
  unfold setM refSetM
  cases hok : okD n N f
  · exact ⟨rfl, sameM_refl _⟩
  · obtain ⟨m, rfl, rfl, hm0, hm4⟩ := okD_form hok
    rw [if_pos rfl, if_pos rfl]
    by_cases h : 0 ≤ i ∧ i < (m : Int) ∧ 0 ≤ j ∧ j < (m : Int)
    · rw [if_pos h, if_pos h]
      cases hb : mayB b
      · exact ⟨rfl, sameM_refl _⟩
      · rw [if_pos rfl, if_pos rfl]
        obtain ⟨a, rfl⟩ : ∃ a : Nat, i = (a : Int) := ⟨i.toNat, by omega⟩
        obtain ⟨c, rfl⟩ : ∃ c : Nat, j = (c : Int) := ⟨j.toNat, by omega⟩
        have ha : a < m := by omega
        have hc : c < m := by omega
        rw [show ((a : Int) * (m : Int) + (c : Int)).toNat = a * m + c from by rw [show (a : Int) * (m : Int) + (c : Int) = ((a * m + c : Nat) : Int) from by push_cast; rfl]; rfl, show ((m : Int)).toNat = m from rfl]
        refine closeM_eq (okD_more hok hb) (okD_oneF hok hb) fun q hq => ?_
        rw [under_more ha hc (okD_le hok) (mayB_le hb), under_less (okD_le hok) (one_le hb), under_one hq ha hc]
    · rw [if_neg h, if_neg h]
      exact ⟨rfl, sameM_refl _⟩
#print axioms set_ref
end Go.Proofs.YtpaomeilfmeheaaGreat

namespace Go.Proofs.YtpaomeilfmeheaaGreat
set_option linter.unusedSimpArgs false
set_option linter.unusedVariables false
open Go Go.RowKit Go.Shelf
attribute [local go_sem] Nat.add_assoc Nat.add_lt_add_iff_left lit_lt_add

theorem OwnP.grow {w0 W W' : World} {p : Option Addr} {N : Nat} {f : Nat → Int} (h : OwnP w0 W p N f) (hb : Below W.heap.size W W') : OwnP w0 W' p N f := by
  rcases h with h | ⟨B, h1, h2, h3, h4⟩
  · exact .inl h
  · exact .inr ⟨B, h1, h2, Nat.lt_of_lt_of_le h3 hb.size, h4.below hb h3⟩

end Go.Proofs.YtpaomeilfmeheaaGreat

namespace Go.Proofs.YtpaomeilfmeheaaGreat
set_option linter.unusedSimpArgs false
set_option linter.unusedVariables false
open Go Go.RowKit Go.Shelf
attribute [local go_sem] Nat.add_assoc Nat.add_lt_add_iff_left lit_lt_add

end Go.Proofs.YtpaomeilfmeheaaGreat

namespace Go.Proofs.YtpaomeilfmeheaaGreat
set_option linter.unusedSimpArgs false
set_option linter.unusedVariables false
open Go Go.RowKit Go.Shelf
attribute [local go_sem] Nat.add_assoc Nat.add_lt_add_iff_left lit_lt_add

end Go.Proofs.YtpaomeilfmeheaaGreat

namespace Go.Proofs.YtpaomeilfmeheaaGreat
set_option linter.unusedSimpArgs false
set_option linter.unusedVariables false
open Go Go.RowKit Go.Shelf
attribute [local go_sem] Nat.add_assoc Nat.add_lt_add_iff_left lit_lt_add

theorem spanB_is {lo hi : Int} {hs : Bool} (h1 : -288230376151711744 ≤ lo) (h2 : lo ≤ 288230376151711744) : spanB lo hi hs false = (decide (lo ≤ hi) && decide (hi ≤ 288230376151711744)) ∧ spanB lo hi hs true = (decide (hi = 0) && !hs) := by
  constructor
  · unfold spanB; rw [decide_eq_true h1, decide_eq_true h2, Bool.eq_iff_iff]; simp; omega
  · unfold spanB; rw [decide_eq_true h1, decide_eq_true h2, Bool.eq_iff_iff]; simp; omega

end Go.Proofs.YtpaomeilfmeheaaGreat

namespace Go.Proofs.YtpaomeilfmeheaaGreat
set_option linter.unusedSimpArgs false
set_option linter.unusedVariables false
open Go Go.RowKit Go.Shelf
attribute [local go_sem] Nat.add_assoc Nat.add_lt_add_iff_left lit_lt_add

/-- The document's answer. -/
def refBetM (n : Int) (N : Nat) (f : Nat → Int) (i lo : Int) (ls : Bool) (hi : Int) (hs op : Bool) : MR :=
  if okD n N f then (if 0 ≤ i ∧ i < n then (if spanB lo hi hs op then closeM n N (lessF f (lessF (upd (topF n.toNat) (0 * n.toNat + i.toNat) (belowB lo ls)) (upd (topF n.toNat) (i.toNat * n.toNat + 0) (aboveB hi hs op)))) else errM 8) else errM 2) else errM 8

theorem okD_two {n N : Nat} {f : Nat → Int} {x y : Nat} {b c : Int} (h : okD n N f = true) (hb : mayB b = true) (hc : mayB c = true) : okD n N (lessF f (lessF (upd (topF n) x b) (upd (topF n) y c))) = true := by
  refine okD_of h fun z hz => mayB_min (okD_may h _ hz) (mayB_min ?_ ?_)
  · unfold upd; split
    · exact hb
    · exact topF_may n z
  · unfold upd; split
    · exact hc
    · exact topF_may n z
theorem between_ref (n : Int) (N : Nat) (f : Nat → Int) (i lo : Int) (ls : Bool) (hi : Int) (hs op : Bool) : (betweenM n N f i lo ls hi hs op).e = (refBetM n N f i lo ls hi hs op).e ∧ sameM (betweenM n N f i lo ls hi hs op) (refBetM n N f i lo ls hi hs op) = true := by
  unfold betweenM refBetM
  cases hok : okD n N f
  · exact ⟨rfl, sameM_refl _⟩
  · obtain ⟨m, rfl, rfl, hm0, hm4⟩ := okD_form hok
    rw [if_pos rfl, if_pos rfl]
    by_cases h : 0 ≤ i ∧ i < (m : Int)
    · rw [if_pos h, if_pos h]
      cases hb : spanB lo hi hs op
      · exact ⟨rfl, sameM_refl _⟩
      · rw [if_pos rfl, if_pos rfl]
        obtain ⟨a, rfl⟩ : ∃ a : Nat, i = (a : Int) := ⟨i.toNat, by omega⟩
        have ha : a < m := by omega
        have b1 := belowB_may (ls := ls) hb
        have b2 := aboveB_may hb
        rw [show ((a : Int) * (m : Int)).toNat = a * m + 0 from by rw [show (a : Int) * (m : Int) = ((a * m : Nat) : Int) from by push_cast; rfl]; rfl, show ((a : Int)).toNat = a from rfl, show ((m : Int)).toNat = m from rfl]
        have e : moreAt f a (belowB lo ls) = moreAt f (0 * m + a) (belowB lo ls) := by rw [Nat.zero_mul, Nat.zero_add]
        rw [e]
        have o1 := okD_more (x := 0 * m + a) hok b1
        refine closeM_eq (okD_more o1 b2) (okD_two hok b1 b2) fun q hq => ?_
        rw [under_more ha hm0 (okD_le o1) (mayB_le b2), under_more hm0 ha (okD_le hok) (mayB_le b1)]
        have l2 : ∀ i j, i < m → j < m → lessF (upd (topF m) (0 * m + a) (belowB lo ls)) (upd (topF m) (a * m + 0) (aboveB hi hs op)) (i * m + j) ≤ noneB := fun i j hi hj => Int.le_trans (Int.min_le_left _ _) (one_le b1 i j hi hj)
        rw [under_less (okD_le hok) l2, under_less (one_le b1) (one_le b2), under_one hq hm0 ha, under_one hq ha hm0, and_assoc]
    · rw [if_neg h, if_neg h]
      exact ⟨rfl, sameM_refl _⟩

end Go.Proofs.YtpaomeilfmeheaaGreat

namespace Go.Proofs.YtpaomeilfmeheaaGreat
set_option linter.unusedSimpArgs false
set_option linter.unusedVariables false
open Go Go.RowKit Go.Shelf
attribute [local go_sem] Nat.add_assoc Nat.add_lt_add_iff_left lit_lt_add

end Go.Proofs.YtpaomeilfmeheaaGreat
