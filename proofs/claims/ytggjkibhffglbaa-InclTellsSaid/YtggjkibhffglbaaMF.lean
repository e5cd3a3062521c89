/- Contracts of the document's layer 5: MayBound, clock, told, One, lesser, Common. Contract of the document's Set (layer 5); what it answers beside tight.Set. Contract of the document's Set (layer 5). Contracts of the document's Set and Meet (layer 5), of all matrices. Contract of the document's Meet (layer 5), of all matrices. Contracts of the document's MaySpan, Below, Above, Between (layer 5). Contract of the document's Between (layer 5), where all may be; what it answers beside tight.Between. Contract of the document's Between (layer 5), of all matrices. -/
import Derived.Test.YtggjkibhffglbaaMP
import Derived.Test.YtggjkibhffglbaaME
namespace Go.Proofs.Ytggjkibhffglbaa
set_option linter.unusedSimpArgs false
set_option linter.unusedVariables false
open Go Go.RowKit Go.Shelf
attribute [local go_sem] Nat.add_assoc Nat.add_lt_add_iff_left lit_lt_add

set_option maxRecDepth 10000 in
set_option maxHeartbeats 1000000 in
theorem refMayBound_any (b : Int) (hb : fits64 b) (w : World) : Calls Try.prog 60 #[.int .i64 b] w (Gives w (.bool (mayB b))) := by
  have CK : Hid (∀ W B, W.cell? ⟨B, 0, none⟩ = some (.int .i64 b) → B < W.heap.size → Calls Try.prog 58 #[.agg #[.int .i64 1, .slice (some ⟨B, 0, none⟩) 1 1]] W (Gives W (.bool (mayB b)))) := fun W B h hB => by
    have hs : SlP W (some ⟨B, 0, none⟩) 1 (fun _ => b) := .inr ⟨B, 0, rfl, hB, fun x hx => by
      obtain rfl : x = 0 := by omega
      exact h⟩
    have := refMay_any 1 (some ⟨B, 0, none⟩) 1 1 (fun _ => b) W (by decide) hs (fun x hx => hb) (by omega)
    rwa [okD_one] at this
  obtain ⟨s, hs⟩ : ∃ s, s = mayB b := ⟨_, rfl⟩
  rw [← hs] at CK ⊢
  clear hs hb
  go_enter Try.func60, Try.ntmps60
  go_wp2_with (fail)
  refine (CK.out _ _ (by simp [go_sem]) (by simp)).mono ?_; rintro e w' ⟨rfl, p, rfl⟩
  go_wp2
  go_ret
  exact gives_bool rfl (by (repeat' (first | (with_reducible assumption) | (with_reducible exact Below.refl _ _) | (with_reducible refine below_wov ?_ ?_ _) | (with_reducible refine below_drewN ?_ _) | (with_reducible refine Below.drew ?_) | (with_reducible refine Below.alloc ?_ ?_ _) | (with_reducible refine Below.setCell ?_ ?_ _) | (with_reducible exact Nat.le_refl _) | omega | (simp only [World.size_alloc, World.size_setCell, World.size_drew, Wov_size, World.heap_drewN]; omega))))

set_option maxRecDepth 10000 in
set_option maxHeartbeats 1000000 in
theorem refClock_any (n i : Int) (p : Option Addr) (N cap : Nat) (w : World) :
    Calls Try.prog 59 #[.agg #[.int .i64 n, .slice p N cap], .int .i64 i] w (Gives w (.bool (decide (0 ≤ i ∧ i < n)))) := by
  by_cases h1 : 0 ≤ i
  · by_cases h2 : i < n
    · have R : Hid (decide (0 ≤ i ∧ i < n) = true) := by show _ = _; simp [h1, h2]
      go_enter Try.func59, Try.ntmps59
      go_wp2
      go_ret
      exact gives_bool (by first | rfl | exact R.out.symm) (by (repeat' (first | (with_reducible assumption) | (with_reducible exact Below.refl _ _) | (with_reducible refine below_wov ?_ ?_ _) | (with_reducible refine below_drewN ?_ _) | (with_reducible refine Below.drew ?_) | (with_reducible refine Below.alloc ?_ ?_ _) | (with_reducible refine Below.setCell ?_ ?_ _) | (with_reducible exact Nat.le_refl _) | omega | (simp only [World.size_alloc, World.size_setCell, World.size_drew, Wov_size, World.heap_drewN]; omega))))
    · have R : Hid (decide (0 ≤ i ∧ i < n) = false) := by show _ = _; simp [h2]
      have e2 : decide (i < n) = false := by simp; omega
      go_enter Try.func59, Try.ntmps59
      go_wp2
      go_ret
      exact gives_bool (by first | rfl | exact R.out.symm) (by (repeat' (first | (with_reducible assumption) | (with_reducible exact Below.refl _ _) | (with_reducible refine below_wov ?_ ?_ _) | (with_reducible refine below_drewN ?_ _) | (with_reducible refine Below.drew ?_) | (with_reducible refine Below.alloc ?_ ?_ _) | (with_reducible refine Below.setCell ?_ ?_ _) | (with_reducible exact Nat.le_refl _) | omega | (simp only [World.size_alloc, World.size_setCell, World.size_drew, Wov_size, World.heap_drewN]; omega))))
  · have R : Hid (decide (0 ≤ i ∧ i < n) = false) := by show _ = _; simp [h1]
    have e1 : decide (0 ≤ i) = false := by simp; omega
    go_enter Try.func59, Try.ntmps59
    go_wp2
    all_goals
      go_ret
      exact gives_bool (by first | rfl | exact R.out.symm) (by (repeat' (first | (with_reducible assumption) | (with_reducible exact Below.refl _ _) | (with_reducible refine below_wov ?_ ?_ _) | (with_reducible refine below_drewN ?_ _) | (with_reducible refine Below.drew ?_) | (with_reducible refine Below.alloc ?_ ?_ _) | (with_reducible refine Below.setCell ?_ ?_ _) | (with_reducible exact Nat.le_refl _) | omega | (simp only [World.size_alloc, World.size_setCell, World.size_drew, Wov_size, World.heap_drewN]; omega))))

set_option maxHeartbeats 1000000 in
theorem told_yes (n : Int) (p : Option Addr) (N cap : Nat) : Pure Try.prog 61 #[.agg #[.int .i64 n, .slice p N cap], .bool true] (.tuple #[.agg #[.int .i64 n, .slice p N cap], .int .i64 0]) := by
  intro w
  go_enter Try.func61, Try.ntmps61
  go_wp2
  go_returns
  exact gives_end rfl (by (repeat' (first | (with_reducible assumption) | (with_reducible exact Below.refl _ _) | (with_reducible refine below_wov ?_ ?_ _) | (with_reducible refine below_drewN ?_ _) | (with_reducible refine Below.drew ?_) | (with_reducible refine Below.alloc ?_ ?_ _) | (with_reducible refine Below.setCell ?_ ?_ _) | (with_reducible exact Nat.le_refl _) | omega | (simp only [World.size_alloc, World.size_setCell, World.size_drew, Wov_size, World.heap_drewN]; omega))))
set_option maxHeartbeats 1000000 in
theorem told_no (n : Int) (p : Option Addr) (N cap : Nat) : Pure Try.prog 61 #[.agg #[.int .i64 n, .slice p N cap], .bool false] (.tuple #[.agg #[.int .i64 0, .slice none 0 0], .int .i64 6]) := by
  intro w
  go_enter Try.func61, Try.ntmps61
  go_wp2
  go_returns
  exact gives_end rfl (by (repeat' (first | (with_reducible assumption) | (with_reducible exact Below.refl _ _) | (with_reducible refine below_wov ?_ ?_ _) | (with_reducible refine below_drewN ?_ _) | (with_reducible refine Below.drew ?_) | (with_reducible refine Below.alloc ?_ ?_ _) | (with_reducible refine Below.setCell ?_ ?_ _) | (with_reducible exact Nat.le_refl _) | omega | (simp only [World.size_alloc, World.size_setCell, World.size_drew, Wov_size, World.heap_drewN]; omega))))

/-- A matrix of the call's own. -/
def rowPost (w : World) (n N : Nat) (f : Nat → Int) (e : Ending) (W : World) : Prop := ∃ B cap, e = .returned (.agg #[.int .i64 n, .slice (some ⟨B, 0, none⟩) N cap]) ∧ w.heap.size ≤ B ∧ B < W.heap.size ∧ HoldsI W B N f ∧ ∃ q, W = Wov w q

set_option maxRecDepth 10000 in
set_option maxHeartbeats 2000000 in
theorem one_any (n i j : Nat) (b : Int) (w : World) (hn0 : 1 ≤ n) (hn : n ≤ 4) (hi : i < n) (hj : j < n) :
    Calls Try.prog 63 #[.int .i64 n, .int .i64 i, .int .i64 j, .int .i64 b] w (rowPost w n (n * n) (upd (topF n) (i * n + j) b)) := by
  have hq0 : n * n ≤ 4 * 4 := Nat.mul_le_mul hn hn
  have hij := place_lt hi hj
  have AL := Lib.hid (fun w' => all_any n w' hn0 hn)
  obtain ⟨q, hq⟩ : ∃ q : Nat, q = i * n := ⟨_, rfl⟩
  have hqm : (i : Int) * (n : Int) = (q : Int) := by rw [hq]; push_cast; rfl
  rw [← hq] at hij ⊢
  obtain ⟨N, hN⟩ : ∃ N, N = n * n := ⟨_, rfl⟩
  unfold allPost at AL
  rw [← hN] at AL hij hq0 ⊢
  have v1 : IntKind.i64.wrap (q : Int) = (q : Int) := by rw [IntKind.wrap_i64]; omega
  have v2 : IntKind.i64.wrap ((q : Int) + (j : Int)) = (q : Int) + (j : Int) := by rw [IntKind.wrap_i64]; omega
  have v3 : ((q : Int) + (j : Int)).toNat = q + j := by omega
  have v4 : (0 : Int) ≤ (q : Int) + (j : Int) := by omega
  have v5 : (q : Int) + (j : Int) < (N : Int) := by omega
  clear hq hN
  go_enter Try.func63, Try.ntmps63
  go_wp2_with (fail)
  refine calls_world (fun W => Below w.heap.size w W ∧ w.heap.size < W.heap.size ∧ W.cell? ⟨w.heap.size, 0, none⟩ = some (.int .i64 0) ∧ W.cell? ⟨w.heap.size, 1, none⟩ = some (.slice none 0 0) ∧ W.frozen? ⟨w.heap.size, 0, none⟩ = false ∧ W.frozen? ⟨w.heap.size, 1, none⟩ = false) ⟨by (repeat' (first | (with_reducible assumption) | (with_reducible exact Below.refl _ _) | (with_reducible refine below_wov ?_ ?_ _) | (with_reducible refine below_drewN ?_ _) | (with_reducible refine Below.drew ?_) | (with_reducible refine Below.alloc ?_ ?_ _) | (with_reducible refine Below.setCell ?_ ?_ _) | (with_reducible exact Nat.le_refl _) | omega | (simp only [World.size_alloc, World.size_setCell, World.size_drew, Wov_size, World.heap_drewN]; omega))), by simp, by simp [go_sem], by simp [go_sem], by simp [go_sem], by simp [go_sem]⟩ ?_
  rintro W ⟨hBw, hz, r0, r1, s0, s1⟩
  refine (AL.out W).mono ?_; rintro e w' ⟨B, cap, rfl, hB1, hB2, hH, q1, rfl⟩
  have k0 := (hH (q + j) hij).1
  have k1 := (hH (q + j) hij).2
  have HH := Lib.hid hH
  obtain ⟨v, hv⟩ : ∃ v, v = topF n (q + j) := ⟨_, rfl⟩
  rw [← hv] at k0
  rw [Wov_size] at hB2
  have n1 : ¬ (W.heap.size + q1.bl.size = B) := by omega
  have n2 : ¬ (B = W.heap.size + q1.bl.size) := by omega
  have n3 : ¬ (w.heap.size = B) := by omega
  have n4 : ¬ (B = w.heap.size) := by omega
  have hsw := hBw.size
  clear hH AL hv
  go_wp2
  refine bodyPost_ret (by simp [results, Try.results63, go_sem, r0, r1, hz, n1, n2, n3, n4]; try rfl) rfl ?_
  refine ⟨B, cap, rfl, by omega, ?_, ?_, Wov_of_below ?_⟩
  · simp only [World.size_alloc, World.size_setCell, Wov_size]; omega
  · have h1 := HH.out.set hij b
    exact h1.of_block (((((Chg.set _ w.heap.size 0 _).trans (Chg.set _ w.heap.size 1 _)).trans (Chg.alloc _ w.heap.size _))).block B (by simp only [World.size_setCell, Wov_size]; omega) n4)
  · exact ((((below_wov hBw (by omega) q1).setCell (p := ⟨B, q + j, none⟩) (by show w.heap.size ≤ B; omega) _).setCell (p := ⟨w.heap.size, 0, none⟩) (Nat.le_refl _) _).setCell (p := ⟨w.heap.size, 1, none⟩) (Nat.le_refl _) _).alloc (by simp only [World.size_setCell, Wov_size]; omega) _

theorem lessF_step {f g : Nat → Int} {t : Nat} : (fun x => if x < t + 1 then min (f x) (g x) else f x) = upd (fun x => if x < t then min (f x) (g x) else f x) t (min (f t) (g t)) := by
  funext x
  unfold upd
  by_cases e : x = t
  · subst e; rw [if_pos rfl, if_pos (by omega)]
  · rw [if_neg e]
    show _ = if x < t then min (f x) (g x) else f x
    by_cases h : x < t
    · rw [if_pos h, if_pos (by omega)]
    · rw [if_neg h, if_neg (by omega)]

set_option maxRecDepth 100000 in
set_option maxHeartbeats 4000000 in
theorem lesser_any (n N : Nat) (p1 p2 : Option Addr) (c1 c2 : Nat) (f1 f2 : Nat → Int) (w : World) (h0 : 0 < N) (hN : N ≤ 16) (hn : n ≤ 4) (hS1 : SlP w p1 N f1) (hS2 : SlP w p2 N f2) :
    Calls Try.prog 67 #[.agg #[.int .i64 n, .slice p1 N c1], .agg #[.int .i64 n, .slice p2 N c2]] w (rowPost w n N (lessF f1 f2)) := by
  have TW : Hid (∀ W, Below w.heap.size w W → Calls Try.prog 16 #[.agg #[.int .i64 n, .slice p1 N c1]] W (copyPost W n N f1)) := fun W hb => refTwin_any n p1 N c1 f1 W (by omega) (hS1.below hb)
  obtain ⟨B2, off2, rfl, hB2, hc2⟩ := hS2.pos h0
  have HC2 := Lib.hid hc2
  clear hc2 hS1 hS2
  go_enter Try.func67, Try.ntmps67
  go_wp2_with (fail)
  refine calls_world (fun W => Below w.heap.size w W ∧ w.heap.size + 2 < W.heap.size ∧ W.cell? ⟨w.heap.size + 1, 0, none⟩ = some (.int .i64 n) ∧ W.cell? ⟨w.heap.size + 1, 1, none⟩ = some (.slice (some ⟨B2, off2, none⟩) N c2) ∧ W.cell? ⟨w.heap.size + 2, 0, none⟩ = some (.int .i64 0) ∧ W.cell? ⟨w.heap.size + 2, 1, none⟩ = some (.slice none 0 0) ∧ W.frozen? ⟨w.heap.size + 2, 0, none⟩ = false ∧ W.frozen? ⟨w.heap.size + 2, 1, none⟩ = false) ⟨by (repeat' (first | (with_reducible assumption) | (with_reducible exact Below.refl _ _) | (with_reducible refine below_wov ?_ ?_ _) | (with_reducible refine below_drewN ?_ _) | (with_reducible refine Below.drew ?_) | (with_reducible refine Below.alloc ?_ ?_ _) | (with_reducible refine Below.setCell ?_ ?_ _) | (with_reducible exact Nat.le_refl _) | omega | (simp only [World.size_alloc, World.size_setCell, World.size_drew, Wov_size, World.heap_drewN]; omega))), by simp, by simp [go_sem], by simp [go_sem], by simp [go_sem], by simp [go_sem], by simp [go_sem], by simp [go_sem]⟩ ?_
  rintro W ⟨hBw, hz, b0, b1, r0, r1, s0, s1⟩
  refine (TW.out W hBw).mono ?_; rintro e w' ⟨p3, c3, rfl, _, ho, q1, rfl⟩
  rcases ho with ho | ⟨B, rfl, hB1, hB3, hH⟩
  · omega
  have HH := Lib.hid hH
  clear hH TW
  go_wp2
  obtain ⟨D, hD⟩ : ∃ D, W.heap.size + q1.bl.size = D := ⟨_, rfl⟩
  rw [Wov_size, hD] at hB3
  rw [hD]
  refine wp_world (fun X => Below w.heap.size w X ∧ D < X.heap.size ∧ HoldsI X B N f1 ∧ X.cell? ⟨D, 0, none⟩ = some (.int .i64 n) ∧ X.cell? ⟨D, 1, none⟩ = some (.slice (some ⟨B, 0, none⟩) N c3) ∧ X.cell? ⟨w.heap.size + 1, 0, none⟩ = some (.int .i64 n) ∧ X.cell? ⟨w.heap.size + 1, 1, none⟩ = some (.slice (some ⟨B2, off2, none⟩) N c2) ∧ X.cell? ⟨w.heap.size + 2, 0, none⟩ = some (.int .i64 0) ∧ X.cell? ⟨w.heap.size + 2, 1, none⟩ = some (.slice none 0 0) ∧ X.frozen? ⟨w.heap.size + 2, 0, none⟩ = false ∧ X.frozen? ⟨w.heap.size + 2, 1, none⟩ = false)
    ⟨by (repeat' (first | (with_reducible assumption) | (with_reducible exact Below.refl _ _) | (with_reducible refine below_wov ?_ ?_ _) | (with_reducible refine below_drewN ?_ _) | (with_reducible refine Below.drew ?_) | (with_reducible refine Below.alloc ?_ ?_ _) | (with_reducible refine Below.setCell ?_ ?_ _) | (with_reducible exact Nat.le_refl _) | omega | (simp only [World.size_alloc, World.size_setCell, World.size_drew, Wov_size, World.heap_drewN]; omega))), by rw [← hD]; simp only [World.size_alloc, Wov_size]; omega, HH.out.below ((Below.refl _ _).alloc (Nat.le_refl _) _) (by rw [Wov_size, hD]; exact hB3), by rw [← hD]; simp [go_sem], by rw [← hD]; simp [go_sem], by simp [go_sem, *], by simp [go_sem, *], by simp [go_sem, *], by simp [go_sem, *], by simp [go_sem, *], by simp [go_sem, *]⟩ ?_
  rintro X ⟨hBX, zD, hX, d0, d1, e0, e1, x0, x1, y0, y1⟩
  have hszW := hBw.size
  have hszX := hBX.size
  have n1 : D ≠ B := by omega
  have n2 : w.heap.size + 1 ≠ B := by omega
  have n3 : w.heap.size + 2 ≠ B := by omega
  have z1 : w.heap.size + 1 < X.heap.size := by omega
  have z2 : w.heap.size + 2 < X.heap.size := by omega
  clear b0 b1 r0 r1 s0 s1 HH hD
  go_loopw [6] (fun i wr => ∃ t : Nat, t ≤ N ∧ i = .int .i64 t ∧ Chg X B wr ∧ Hid (HoldsI wr B N (fun x => if x < t then min (f1 x) (f2 x) else f1 x)))
    (fun i _ => N - (intOf i).toNat)
  case atStart => exact ⟨0, Nat.zero_le _, rfl, Chg.refl _ _, by show HoldsI X B N _; simpa using hX⟩
  case round =>
    obtain ⟨t, ht, rfl, hc, hH⟩ := hrel
    have c0 := (hc.cell (x := 0) zD n1).trans d0
    have c1' := (hc.cell (x := 1) zD n1).trans d1
    have g0 := (hc.cell (x := 0) z1 n2).trans e0
    have g1 := (hc.cell (x := 1) z1 n2).trans e1
    have u0 := (hc.cell (x := 0) z2 n3).trans x0
    have u1 := (hc.cell (x := 1) z2 n3).trans x1
    have u2 := (hc.frozen (x := 0) z2 n3).trans y0
    have u3 := (hc.frozen (x := 1) z2 n3).trans y1
    have hszr := hc.size
    by_cases hlt : t < N
    · have k0 : wr.cell? ⟨B, t, none⟩ = some (.int .i64 (f1 t)) := by have := (hH.out t hlt).1; simpa using this
      have k1 := (hH.out t hlt).2
      have k2 : wr.cell? ⟨B2, off2 + t, none⟩ = some (.int .i64 (f2 t)) := (hc.cell (by omega) (by omega)).trans ((hBX.cell (p := ⟨B2, off2 + t, none⟩) hB2).trans (HC2.out t hlt))
      have ST : Hid (∀ v, v = min (f1 t) (f2 t) → HoldsI (wr.setCell ⟨B, t, none⟩ (.int .i64 v)) B N (fun x => if x < t + 1 then min (f1 x) (f2 x) else f1 x)) := fun v hv => by
        rw [lessF_step, ← hv]; exact hH.out.set hlt v
      have NS : Hid (min (f1 t) (f2 t) = f1 t → HoldsI wr B N (fun x => if x < t + 1 then min (f1 x) (f2 x) else f1 x)) := fun h x hx => by
        rw [lessF_step]
        by_cases e : x = t
        · subst e; simp only [upd, if_pos]; rw [h]; exact ⟨k0, k1⟩
        · simp only [upd, if_neg e]; exact hH.out x hx
      obtain ⟨v1, hv1⟩ : ∃ v, v = f1 t := ⟨_, rfl⟩
      obtain ⟨v2, hv2⟩ : ∃ v, v = f2 t := ⟨_, rfl⟩
      rw [← hv1] at k0 ST NS
      rw [← hv2] at k2 ST NS
      have i1 : (0 : Int) ≤ (t : Int) := by omega
      have i2 : (t : Int) < (N : Int) := by omega
      have zB : B < wr.heap.size := by omega
      have zB2 : B2 < wr.heap.size := by omega
      have zDr : D < wr.heap.size := by omega
      have z1r : w.heap.size + 1 < wr.heap.size := by omega
      clear hv1 hv2 d0 d1 e0 e1 x0 x1 y0 y1 hX hH
      by_cases hv : v2 < v1
      · have bv : decide (v2 < v1) = true := by simp [hv]
        have ST2 := Lib.hid (ST.out v2 (by omega))
        clear ST NS
        go_wp2
        go_quiet (fail)
        go_wp2
        go_region
        go_wp2
        go_roundw
        case rel => exact ⟨t + 1, hlt, by go_num, (hc.trans (Chg.drewN _ _ _)).trans (Chg.set _ _ _ _), fun x hx => ST2.out x hx⟩
        case measure => simp [intOf]; omega
      · have bv : decide (v2 < v1) = false := by simp; omega
        have NS2 := Lib.hid (NS.out (by omega))
        clear ST NS
        go_wp2
        go_quiet (fail)
        go_wp2
        go_roundw
        case rel => exact ⟨t + 1, hlt, by go_num, hc.trans (Chg.drewN _ _ _), fun x hx => ⟨(World.cell?_drewN _ _ _).trans (NS2.out x hx).1, (NS2.out x hx).2⟩⟩
        case measure => simp [intOf]; omega
    · have e : t = N := by omega
      subst e
      have HF : Hid (HoldsI wr B t (lessF f1 f2)) := fun x hx => by
        have := hH.out x hx
        simp only [if_pos hx] at this
        exact this
      clear hH hX d0 d1 e0 e1 x0 x1 y0 y1
      go_wp2
      refine bodyPost_ret (by simp [results, Try.results67, go_sem, u0, u1]; try rfl) rfl ?_
      refine ⟨B, c3, rfl, by omega, by simp [World.setCell]; omega, ?_, Wov_of_below ?_⟩
      · exact HF.out.of_block (((Chg.set wr (w.heap.size + 2) 0 _).trans (Chg.set _ (w.heap.size + 2) 1 _)).block B (by omega) (by omega))
      · exact ((hBX.trans (hc.belowAt (by omega) hszX)).setCell (p := ⟨w.heap.size + 2, 0, none⟩) (by simp) _).setCell (p := ⟨w.heap.size + 2, 1, none⟩) (by simp) _

set_option maxRecDepth 10000 in
set_option maxHeartbeats 2000000 in
theorem common_any (n N : Nat) (p1 p2 : Option Addr) (c1 c2 : Nat) (f1 f2 : Nat → Int) (r : MR) (w : World) (hN : N = n * n) (hok : okD n N (lessF f1 f2) = true) (hr : r = closeM n N (lessF f1 f2)) (hS1 : SlP w p1 N f1) (hS2 : SlP w p2 N f2) :
    Calls Try.prog 62 #[.agg #[.int .i64 n, .slice p1 N c1], .agg #[.int .i64 n, .slice p2 N c2]] w (matB w r.n r.N r.f (decide (r.e = 0))) := by
  subst hN
  obtain ⟨hn0, hn, _⟩ := okD_bd hok
  have hq0 : n * n ≤ 4 * 4 := Nat.mul_le_mul hn hn
  have hq1 : 1 * 1 ≤ n * n := Nat.mul_le_mul hn0 hn0
  have LS := Lib.hid (fun W (hb : Below w.heap.size w W) => lesser_any n (n * n) p1 p2 c1 c2 f1 f2 W (by omega) (by omega) hn (hS1.below hb) (hS2.below hb))
  have CL : Hid (∀ W B cap, SlP W (some ⟨B, 0, none⟩) (n * n) (lessF f1 f2) → Calls Try.prog 103 #[.agg #[.int .i64 n, .slice (some ⟨B, 0, none⟩) (n * n) cap]] W (matB W r.n r.N r.f (decide (r.e = 0)))) := fun W B cap h => by
    rw [hr]; exact refClosed_any n _ cap _ W hok h
  obtain ⟨N, hN⟩ : ∃ N, N = n * n := ⟨_, rfl⟩
  obtain ⟨s, hs⟩ : ∃ s, s = decide (r.e = 0) := ⟨_, rfl⟩
  rw [← hN] at LS CL ⊢
  rw [← hs] at CL ⊢
  clear hr hok hS1 hS2 hN hs hq0 hq1
  go_enter Try.func62, Try.ntmps62
  go_wp2_with (fail)
  refine calls_world (fun W => Below w.heap.size w W ∧ w.heap.size + 2 < W.heap.size ∧ W.cell? ⟨w.heap.size + 2, 0, none⟩ = some (.int .i64 0) ∧ W.cell? ⟨w.heap.size + 2, 1, none⟩ = some (.slice none 0 0) ∧ W.frozen? ⟨w.heap.size + 2, 0, none⟩ = false ∧ W.frozen? ⟨w.heap.size + 2, 1, none⟩ = false) ⟨by (repeat' (first | (with_reducible assumption) | (with_reducible exact Below.refl _ _) | (with_reducible refine below_wov ?_ ?_ _) | (with_reducible refine below_drewN ?_ _) | (with_reducible refine Below.drew ?_) | (with_reducible refine Below.alloc ?_ ?_ _) | (with_reducible refine Below.setCell ?_ ?_ _) | (with_reducible exact Nat.le_refl _) | omega | (simp only [World.size_alloc, World.size_setCell, World.size_drew, Wov_size, World.heap_drewN]; omega))), by simp, by simp [go_sem], by simp [go_sem], by simp [go_sem], by simp [go_sem]⟩ ?_
  rintro W ⟨hBw, hz, r0, r1, s0, s1⟩
  refine (LS.out W hBw).mono ?_; rintro e w' ⟨B, cap, rfl, hB1, hB2, hH, q1, rfl⟩
  have C := Lib.hid (CL.out (Wov W q1) B cap (slp_of hH hB2))
  clear hH CL LS hB1 hB2
  go_wp2_with (fail)
  refine C.out.mono ?_; rintro e w' ⟨⟨p4, cap4, rfl, ho4⟩, q4, rfl⟩
  have HO := Lib.hid ho4
  have hsw := hBw.size
  clear ho4 C
  go_wp2
  refine bodyPost_ret (by simp [results, Try.results62, go_sem, r0, r1, hz]; try rfl) rfl ?_
  refine ⟨⟨p4, cap4, rfl, ?_⟩, Wov_of_below (by (repeat' (first | (with_reducible assumption) | (with_reducible exact Below.refl _ _) | (with_reducible refine below_wov ?_ ?_ _) | (with_reducible refine below_drewN ?_ _) | (with_reducible refine Below.drew ?_) | (with_reducible refine Below.alloc ?_ ?_ _) | (with_reducible refine Below.setCell ?_ ?_ _) | (with_reducible exact Nat.le_refl _) | omega | (simp only [World.size_alloc, World.size_setCell, World.size_drew, Wov_size, World.heap_drewN]; omega))))⟩
  have H2 : OwnP (Wov W q1) (Wov W ⟨q1.bl ++ q4.bl, q4.dr⟩) p4 r.N r.f := by have := HO.out; rwa [Wov_Wov] at this
  exact (H2.chg (B := w.heap.size + 2) (by rw [Wov_size]; omega) ((Chg.set _ _ _ _).trans (Chg.set _ _ _ _))).later (by rw [Wov_size]; omega)
#print axioms common_any
end Go.Proofs.Ytggjkibhffglbaa

namespace Go.Proofs.Ytggjkibhffglbaa
set_option linter.unusedSimpArgs false
set_option linter.unusedVariables false
open Go Go.RowKit Go.Shelf
attribute [local go_sem] Nat.add_assoc Nat.add_lt_add_iff_left lit_lt_add

/-- The document's answer. -/
def refSetM (n : Int) (N : Nat) (f : Nat → Int) (i j b : Int) : MR :=
  if okD n N f then (if 0 ≤ i ∧ i < n ∧ 0 ≤ j ∧ j < n then (if mayB b then closeM n N (lessF f (upd (topF n.toNat) (i * n + j).toNat b)) else errM 8) else errM 2) else errM 8

theorem topF_may (n : Nat) (x : Nat) : mayB (topF n x) = true := by
  unfold topF
  split
  · decide
  · decide
theorem okD_oneF {n N : Nat} {f : Nat → Int} {x : Nat} {b : Int} (h : okD n N f = true) (hb : mayB b = true) : okD n N (lessF f (upd (topF n) x b)) = true := by
  refine okD_of h fun y hy => mayB_min (okD_may h _ hy) ?_
  unfold upd
  split
  · exact hb
  · exact topF_may n y
/-- A closed one is under a matrix with one bound just if it keeps the bound, besides 0 of each clock. -/
theorem under_one {n a c : Nat} {b : Int} {q : Nat → Nat → EB} (hq : Closed n q) (ha : a < n) (hc : c < n) : Under n q (mE n (upd (topF n) (a * n + c) b)) ↔ ele (q a c) (eb b) := by
  have pt : ∀ i j, i < n → j < n → mE n (upd (topF n) (a * n + c) b) i j = if i = a ∧ j = c then eb b else if i = j then some 1 else none := by
    intro i j hi hj
    unfold mE upd
    by_cases e : i * n + j = a * n + c
    · obtain ⟨rfl, rfl⟩ := place_inj hj hc e
      rw [if_pos rfl, if_pos ⟨rfl, rfl⟩]
    · rw [if_neg e, if_neg (fun ⟨h, g⟩ => e (by rw [h, g])), topF_at hj]
      by_cases h : i = j
      · rw [if_pos h, if_pos h, eb_one]
      · rw [if_neg h, if_neg h, eb_none]
  constructor
  · intro h
    have := h a c ha hc
    rwa [pt a c ha hc, if_pos ⟨rfl, rfl⟩] at this
  · intro h i j hi hj
    rw [pt i j hi hj]
    split
    · rename_i e; obtain ⟨rfl, rfl⟩ := e; exact h
    · split
      · rename_i e; subst e; rw [hq.1 i hi]; exact ele_refl _
      · exact ele_none _
theorem one_le {n a c : Nat} {b : Int} (hb : mayB b = true) : ∀ i j, i < n → j < n → upd (topF n) (a * n + c) b (i * n + j) ≤ noneB := fun i j hi hj => by
  unfold upd
  split
  · exact mayB_le hb
  · exact mayB_le (topF_may n _)
/-- The document's answer is tight's. -/
theorem set_ref (n : Int) (N : Nat) (f : Nat → Int) (i j b : Int) : (setM n N f i j b).e = (refSetM n N f i j b).e ∧ sameM (setM n N f i j b) (refSetM n N f i j b) = true := by
  unfold setM refSetM
  cases hok : okD n N f
  · exact ⟨rfl, sameM_refl _⟩
  · obtain ⟨m, rfl, rfl, hm0, hm4⟩ := okD_form hok
    rw [if_pos rfl, if_pos rfl]
    by_cases h : 0 ≤ i ∧ i < (m : Int) ∧ 0 ≤ j ∧ j < (m : Int)
    · rw [if_pos h, if_pos h]
      cases hb : mayB b
      · exact ⟨rfl, sameM_refl _⟩
      · rw [if_pos rfl, if_pos rfl]
        obtain ⟨a, rfl⟩ : ∃ a : Nat, i = (a : Int) := ⟨i.toNat, by omega⟩
        obtain ⟨c, rfl⟩ : ∃ c : Nat, j = (c : Int) := ⟨j.toNat, by omega⟩
        have ha : a < m := by omega
        have hc : c < m := by omega
        rw [show ((a : Int) * (m : Int) + (c : Int)).toNat = a * m + c from by rw [show (a : Int) * (m : Int) + (c : Int) = ((a * m + c : Nat) : Int) from by push_cast; rfl]; rfl, show ((m : Int)).toNat = m from rfl]
        refine closeM_eq (okD_more hok hb) (okD_oneF hok hb) fun q hq => ?_
        rw [under_more ha hc (okD_le hok) (mayB_le hb), under_less (okD_le hok) (one_le hb), under_one hq ha hc]
    · rw [if_neg h, if_neg h]
      exact ⟨rfl, sameM_refl _⟩
#print axioms set_ref
end Go.Proofs.Ytggjkibhffglbaa

namespace Go.Proofs.Ytggjkibhffglbaa
set_option linter.unusedSimpArgs false
set_option linter.unusedVariables false
open Go Go.RowKit Go.Shelf
attribute [local go_sem] Nat.add_assoc Nat.add_lt_add_iff_left lit_lt_add

theorem OwnP.grow {w0 W W' : World} {p : Option Addr} {N : Nat} {f : Nat → Int} (h : OwnP w0 W p N f) (hb : Below W.heap.size W W') : OwnP w0 W' p N f := by
  rcases h with h | ⟨B, h1, h2, h3, h4⟩
  · exact .inl h
  · exact .inr ⟨B, h1, h2, Nat.lt_of_lt_of_le h3 hb.size, h4.below hb h3⟩

set_option maxRecDepth 100000 in
set_option maxHeartbeats 1000000 in
theorem refSet_in (m N : Nat) (p : Option Addr) (cap : Nat) (f : Nat → Int) (a c : Nat) (b : Int) (r : MR) (w : World) (hN : N = m * m) (hok : okD m N f = true) (ha : a < m) (hc : c < m) (hb : mayB b = true) (hr : r = closeM m N (lessF f (upd (topF m) (a * m + c) b))) (hS : SlP w p N f) (hF : Fits N f) :
    Calls Try.prog 18 #[.agg #[.int .i64 m, .slice p N cap], .int .i64 a, .int .i64 c, .int .i64 b] w (matC w r.n r.N r.f r.e) := by
  subst hN
  obtain ⟨hm0, hm4, _⟩ := okD_bd hok
  have fb := mayB_fits hb
  have MY := Lib.hid (fun (w' : World) (hb : Below w.heap.size w w') => refMay_any m p (m * m) cap f w' (by unfold fits64; omega) (hS.below hb) hF (by have := Nat.mul_le_mul hm4 hm4; omega))
  have KI := Lib.hid (fun w' => refClock_any m a p (m * m) cap w')
  have KJ := Lib.hid (fun w' => refClock_any m c p (m * m) cap w')
  have MB := Lib.hid (fun w' => refMayBound_any b fb w')
  have ON := Lib.hid (fun w' => one_any m a c b w' hm0 hm4 ha hc)
  have CM : Hid (∀ W B cp, Below w.heap.size w W → SlP W (some ⟨B, 0, none⟩) (m * m) (upd (topF m) (a * m + c) b) → Calls Try.prog 62 #[.agg #[.int .i64 m, .slice p (m * m) cap], .agg #[.int .i64 m, .slice (some ⟨B, 0, none⟩) (m * m) cp]] W (matB W r.n r.N r.f (decide (r.e = 0)))) := fun W B cp hbw h =>
    common_any m (m * m) p (some ⟨B, 0, none⟩) cap cp f _ r W rfl (okD_oneF hok hb) hr (hS.below hbw) h
  rw [hok] at MY
  rw [decide_eq_true (show 0 ≤ (a : Int) ∧ (a : Int) < (m : Int) by omega)] at KI
  rw [decide_eq_true (show 0 ≤ (c : Int) ∧ (c : Int) < (m : Int) by omega)] at KJ
  rw [hb] at MB
  have two : (∃ g, r = ⟨m, m * m, g, 0⟩) ∨ r = errM 6 := by
    rcases closeM_cases (okD_oneF (x := a * m + c) hok hb) with ⟨g, h, _⟩ | ⟨h, _⟩
    · exact .inl ⟨g, hr.trans h⟩
    · exact .inr (hr.trans h)
  obtain ⟨N, hN⟩ : ∃ N, N = m * m := ⟨_, rfl⟩
  unfold rowPost at ON
  rw [← hN] at MY KI KJ ON CM two ⊢
  clear hr hok hS hF hb fb hN
  have TY := Lib.hid told_yes
  have TN := Lib.hid told_no
  rcases two with ⟨g, rfl⟩ | rfl
  · have CM1 : Hid (∀ W B cp, Below w.heap.size w W → SlP W (some ⟨B, 0, none⟩) N (upd (topF m) (a * m + c) b) → Calls Try.prog 62 #[.agg #[.int .i64 m, .slice p N cap], .agg #[.int .i64 m, .slice (some ⟨B, 0, none⟩) N cp]] W (matB W m N g true)) := fun W B cp h1 h2 => CM.out W B cp h1 h2
    clear TN CM
    show Calls _ _ _ _ (matC w m N g 0)
    go_enter Try.func18, Try.ntmps18
    go_wp2_with (fail)
    refine (MY.out _ (by (repeat' (first | (with_reducible assumption) | (with_reducible exact Below.refl _ _) | (with_reducible refine below_wov ?_ ?_ _) | (with_reducible refine below_drewN ?_ _) | (with_reducible refine Below.drew ?_) | (with_reducible refine Below.alloc ?_ ?_ _) | (with_reducible refine Below.setCell ?_ ?_ _) | (with_reducible exact Nat.le_refl _) | omega | (simp only [World.size_alloc, World.size_setCell, World.size_drew, Wov_size, World.heap_drewN]; omega))))).mono ?_; rintro e w' ⟨rfl, q1, rfl⟩
    go_wp2_with (fail)
    refine (KI.out _).mono ?_; rintro e w' ⟨rfl, q2, rfl⟩
    go_wp2_with (fail)
    refine (KJ.out _).mono ?_; rintro e w' ⟨rfl, q3, rfl⟩
    go_wp2_with (fail)
    refine (MB.out _).mono ?_; rintro e w' ⟨rfl, q4, rfl⟩
    go_wp2_with (fail)
    refine wp_world (fun W => Below w.heap.size w W ∧ w.heap.size + 1 < W.heap.size ∧ W.cell? ⟨w.heap.size, 0, none⟩ = some (.int .i64 m) ∧ W.cell? ⟨w.heap.size, 1, none⟩ = some (.slice p N cap) ∧ W.cell? ⟨w.heap.size + 1, 0, none⟩ = some (.int .i64 0) ∧ W.cell? ⟨w.heap.size + 1, 1, none⟩ = some (.slice none 0 0) ∧ W.frozen? ⟨w.heap.size + 1, 0, none⟩ = false ∧ W.frozen? ⟨w.heap.size + 1, 1, none⟩ = false) ⟨by (repeat' (first | (with_reducible assumption) | (with_reducible exact Below.refl _ _) | (with_reducible refine below_wov ?_ ?_ _) | (with_reducible refine below_drewN ?_ _) | (with_reducible refine Below.drew ?_) | (with_reducible refine Below.alloc ?_ ?_ _) | (with_reducible refine Below.setCell ?_ ?_ _) | (with_reducible exact Nat.le_refl _) | omega | (simp only [World.size_alloc, World.size_setCell, World.size_drew, Wov_size, World.heap_drewN]; omega))), by simp only [World.size_alloc, Wov_size, Array.size_append]; omega, by simp [go_sem], by simp [go_sem], by simp [go_sem], by simp [go_sem], by simp [go_sem], by simp [go_sem]⟩ ?_
    rintro W ⟨hBw, hz, c0, c1, r0, r1, s0, s1⟩
    have hsw := hBw.size
    have hz0 : w.heap.size < W.heap.size := by omega
    clear MY KI KJ MB
    go_region_held3 (fun w' => w'.cell? ⟨w.heap.size, 0, none⟩ = some (.int .i64 m) ∧ w'.cell? ⟨w.heap.size, 1, none⟩ = some (.slice p N cap))
      ((simp [go_sem, *]))
      (first
      | (go_at_call 63; ((with_reducible refine (ON.out _).mono ?_); rintro e w' ⟨B, cp, rfl, hA, hB, hH, qa, rfl⟩; (try simp only [Wov_Wov, Array.append_assoc] at hH hB)))
      | (go_at_call 62; (try simp only [drew_Wov] at hH hB); refine (CM1.out _ _ _ (by (repeat' (first | (with_reducible assumption) | (with_reducible exact Below.refl _ _) | (with_reducible refine below_wov ?_ ?_ _) | (with_reducible refine below_drewN ?_ _) | (with_reducible refine Below.drew ?_) | (with_reducible refine Below.alloc ?_ ?_ _) | (with_reducible refine Below.setCell ?_ ?_ _) | (with_reducible exact Nat.le_refl _) | omega | (simp only [World.size_alloc, World.size_setCell, World.size_drew, Wov_size, World.heap_drewN]; omega)))) (slp_of hH hB)).mono ?_; rintro e w' ⟨⟨p5, c5, rfl, ho⟩, qb, rfl⟩; clear hH hB hA CM1 ON)
      | (go_at_call 61; refine (TY.out _ _ _ _ _).mono ?_; rintro e w' ⟨rfl, qc, rfl⟩; replace ho := ho.grow (below_Wov _ qc)))
    all_goals
      have H2 := ho
      simp only [Wov_Wov, drew_Wov, Array.append_assoc] at H2
      have HO := Lib.hid H2
      clear ho H2
      go_wp2
      refine bodyPost_ret (by simp [results, Try.results18, go_sem, r0, r1, hz]; try rfl) rfl ?_
      refine ⟨⟨p5, c5, rfl, ?_⟩, Wov_of_below (by (repeat' (first | (with_reducible assumption) | (with_reducible exact Below.refl _ _) | (with_reducible refine below_wov ?_ ?_ _) | (with_reducible refine below_drewN ?_ _) | (with_reducible refine Below.drew ?_) | (with_reducible refine Below.alloc ?_ ?_ _) | (with_reducible refine Below.setCell ?_ ?_ _) | (with_reducible exact Nat.le_refl _) | omega | (simp only [World.size_alloc, World.size_setCell, World.size_drew, Wov_size, World.heap_drewN]; omega))))⟩
      refine OwnP.later (OwnP.chg (B := w.heap.size + 1) HO.out ?_ ((Chg.set _ _ _ _).trans (Chg.set _ _ _ _))) ?_
      · simp only [World.size_alloc, Wov_size, Array.size_append]; omega
      · simp only [World.size_alloc, Wov_size, Array.size_append]; omega
  · have CM1 : Hid (∀ W B cp, Below w.heap.size w W → SlP W (some ⟨B, 0, none⟩) N (upd (topF m) (a * m + c) b) → Calls Try.prog 62 #[.agg #[.int .i64 m, .slice p N cap], .agg #[.int .i64 m, .slice (some ⟨B, 0, none⟩) N cp]] W (matB W 0 0 (fun _ => 0) false)) := fun W B cp h1 h2 => CM.out W B cp h1 h2
    clear TY CM
    show Calls _ _ _ _ (matC w 0 0 (fun _ => 0) 6)
    go_enter Try.func18, Try.ntmps18
    go_wp2_with (fail)
    refine (MY.out _ (by (repeat' (first | (with_reducible assumption) | (with_reducible exact Below.refl _ _) | (with_reducible refine below_wov ?_ ?_ _) | (with_reducible refine below_drewN ?_ _) | (with_reducible refine Below.drew ?_) | (with_reducible refine Below.alloc ?_ ?_ _) | (with_reducible refine Below.setCell ?_ ?_ _) | (with_reducible exact Nat.le_refl _) | omega | (simp only [World.size_alloc, World.size_setCell, World.size_drew, Wov_size, World.heap_drewN]; omega))))).mono ?_; rintro e w' ⟨rfl, q1, rfl⟩
    go_wp2_with (fail)
    refine (KI.out _).mono ?_; rintro e w' ⟨rfl, q2, rfl⟩
    go_wp2_with (fail)
    refine (KJ.out _).mono ?_; rintro e w' ⟨rfl, q3, rfl⟩
    go_wp2_with (fail)
    refine (MB.out _).mono ?_; rintro e w' ⟨rfl, q4, rfl⟩
    go_wp2_with (fail)
    refine wp_world (fun W => Below w.heap.size w W ∧ w.heap.size + 1 < W.heap.size ∧ W.cell? ⟨w.heap.size, 0, none⟩ = some (.int .i64 m) ∧ W.cell? ⟨w.heap.size, 1, none⟩ = some (.slice p N cap) ∧ W.cell? ⟨w.heap.size + 1, 0, none⟩ = some (.int .i64 0) ∧ W.cell? ⟨w.heap.size + 1, 1, none⟩ = some (.slice none 0 0) ∧ W.frozen? ⟨w.heap.size + 1, 0, none⟩ = false ∧ W.frozen? ⟨w.heap.size + 1, 1, none⟩ = false) ⟨by (repeat' (first | (with_reducible assumption) | (with_reducible exact Below.refl _ _) | (with_reducible refine below_wov ?_ ?_ _) | (with_reducible refine below_drewN ?_ _) | (with_reducible refine Below.drew ?_) | (with_reducible refine Below.alloc ?_ ?_ _) | (with_reducible refine Below.setCell ?_ ?_ _) | (with_reducible exact Nat.le_refl _) | omega | (simp only [World.size_alloc, World.size_setCell, World.size_drew, Wov_size, World.heap_drewN]; omega))), by simp only [World.size_alloc, Wov_size, Array.size_append]; omega, by simp [go_sem], by simp [go_sem], by simp [go_sem], by simp [go_sem], by simp [go_sem], by simp [go_sem]⟩ ?_
    rintro W ⟨hBw, hz, c0, c1, r0, r1, s0, s1⟩
    have hsw := hBw.size
    have hz0 : w.heap.size < W.heap.size := by omega
    clear MY KI KJ MB
    go_region_held3 (fun w' => w'.cell? ⟨w.heap.size, 0, none⟩ = some (.int .i64 m) ∧ w'.cell? ⟨w.heap.size, 1, none⟩ = some (.slice p N cap))
      ((simp [go_sem, *]))
      (first
      | (go_at_call 63; ((with_reducible refine (ON.out _).mono ?_); rintro e w' ⟨B, cp, rfl, hA, hB, hH, qa, rfl⟩; (try simp only [Wov_Wov, Array.append_assoc] at hH hB)))
      | (go_at_call 62; (try simp only [drew_Wov] at hH hB); refine (CM1.out _ _ _ (by (repeat' (first | (with_reducible assumption) | (with_reducible exact Below.refl _ _) | (with_reducible refine below_wov ?_ ?_ _) | (with_reducible refine below_drewN ?_ _) | (with_reducible refine Below.drew ?_) | (with_reducible refine Below.alloc ?_ ?_ _) | (with_reducible refine Below.setCell ?_ ?_ _) | (with_reducible exact Nat.le_refl _) | omega | (simp only [World.size_alloc, World.size_setCell, World.size_drew, Wov_size, World.heap_drewN]; omega)))) (slp_of hH hB)).mono ?_; rintro e w' ⟨⟨p5, c5, rfl, ho⟩, qb, rfl⟩; clear hH hB hA CM1 ON ho)
      | (go_at_call 61; refine (TN.out _ _ _ _ _).mono ?_; rintro e w' ⟨rfl, qc, rfl⟩))
    all_goals
      go_wp2
      refine bodyPost_ret (by simp [results, Try.results18, go_sem, r0, r1, hz]; try rfl) rfl ?_
      exact ⟨⟨none, 0, rfl, .inl rfl⟩, Wov_of_below (by (repeat' (first | (with_reducible assumption) | (with_reducible exact Below.refl _ _) | (with_reducible refine below_wov ?_ ?_ _) | (with_reducible refine below_drewN ?_ _) | (with_reducible refine Below.drew ?_) | (with_reducible refine Below.alloc ?_ ?_ _) | (with_reducible refine Below.setCell ?_ ?_ _) | (with_reducible exact Nat.le_refl _) | omega | (simp only [World.size_alloc, World.size_setCell, World.size_drew, Wov_size, World.heap_drewN]; omega))))⟩
end Go.Proofs.Ytggjkibhffglbaa

namespace Go.Proofs.Ytggjkibhffglbaa
set_option linter.unusedSimpArgs false
set_option linter.unusedVariables false
open Go Go.RowKit Go.Shelf
attribute [local go_sem] Nat.add_assoc Nat.add_lt_add_iff_left lit_lt_add

set_option maxRecDepth 10000 in
set_option maxHeartbeats 1000000 in
theorem refSet_any (n : Int) (p : Option Addr) (N cap : Nat) (f : Nat → Int) (i j b : Int) (w : World) (hn : fits64 n) (hS : SlP w p N f) (hF : Fits N f) (hN : N ≤ 1000000) (hb : fits64 b) :
    Calls Try.prog 18 #[.agg #[.int .i64 n, .slice p N cap], .int .i64 i, .int .i64 j, .int .i64 b] w (matC w (refSetM n N f i j b).n (refSetM n N f i j b).N (refSetM n N f i j b).f (refSetM n N f i j b).e) := by
  have MY := Lib.hid (fun (w' : World) (hb : Below w.heap.size w w') => refMay_any n p N cap f w' hn (hS.below hb) hF hN)
  have KI := Lib.hid (fun w' => refClock_any n i p N cap w')
  have KJ := Lib.hid (fun w' => refClock_any n j p N cap w')
  have MB := Lib.hid (fun w' => refMayBound_any b hb w')
  cases hok : okD n N f
  · have R : Hid (refSetM n N f i j b = errM 8) := by show _ = _; rw [refSetM, hok]; rfl
    rw [R.out]
    rw [hok] at MY
    clear hok hS hF KI KJ MB
    go_enter Try.func18, Try.ntmps18
    go_wp2_with (fail)
    refine (MY.out _ (by (repeat' (first | (with_reducible assumption) | (with_reducible exact Below.refl _ _) | (with_reducible refine below_wov ?_ ?_ _) | (with_reducible refine below_drewN ?_ _) | (with_reducible refine Below.drew ?_) | (with_reducible refine Below.alloc ?_ ?_ _) | (with_reducible refine Below.setCell ?_ ?_ _) | (with_reducible exact Nat.le_refl _) | omega | (simp only [World.size_alloc, World.size_setCell, World.size_drew, Wov_size, World.heap_drewN]; omega))))).mono ?_; rintro e w' ⟨rfl, q1, rfl⟩
    go_wp2
    go_returns
    exact matC_err rfl (by (repeat' (first | (with_reducible assumption) | (with_reducible exact Below.refl _ _) | (with_reducible refine below_wov ?_ ?_ _) | (with_reducible refine below_drewN ?_ _) | (with_reducible refine Below.drew ?_) | (with_reducible refine Below.alloc ?_ ?_ _) | (with_reducible refine Below.setCell ?_ ?_ _) | (with_reducible exact Nat.le_refl _) | omega | (simp only [World.size_alloc, World.size_setCell, World.size_drew, Wov_size, World.heap_drewN]; omega))))
  · rw [hok] at MY
    by_cases hi : 0 ≤ i ∧ i < n
    · rw [decide_eq_true hi] at KI
      by_cases hj : 0 ≤ j ∧ j < n
      · rw [decide_eq_true hj] at KJ
        cases hm : mayB b
        · have R : Hid (refSetM n N f i j b = errM 8) := by show _ = _; rw [refSetM, hok, if_pos rfl, if_pos ⟨hi.1, hi.2, hj.1, hj.2⟩, hm]; rfl
          rw [R.out]
          rw [hm] at MB
          clear hok hS hF hi hj hm
          go_enter Try.func18, Try.ntmps18
          go_wp2_with (fail)
          refine (MY.out _ (by (repeat' (first | (with_reducible assumption) | (with_reducible exact Below.refl _ _) | (with_reducible refine below_wov ?_ ?_ _) | (with_reducible refine below_drewN ?_ _) | (with_reducible refine Below.drew ?_) | (with_reducible refine Below.alloc ?_ ?_ _) | (with_reducible refine Below.setCell ?_ ?_ _) | (with_reducible exact Nat.le_refl _) | omega | (simp only [World.size_alloc, World.size_setCell, World.size_drew, Wov_size, World.heap_drewN]; omega))))).mono ?_; rintro e w' ⟨rfl, q1, rfl⟩
          go_wp2_with (fail)
          refine (KI.out _).mono ?_; rintro e w' ⟨rfl, q2, rfl⟩
          go_wp2_with (fail)
          refine (KJ.out _).mono ?_; rintro e w' ⟨rfl, q3, rfl⟩
          go_wp2_with (fail)
          refine (MB.out _).mono ?_; rintro e w' ⟨rfl, q4, rfl⟩
          go_wp2
          go_returns
          exact matC_err rfl (by (repeat' (first | (with_reducible assumption) | (with_reducible exact Below.refl _ _) | (with_reducible refine below_wov ?_ ?_ _) | (with_reducible refine below_drewN ?_ _) | (with_reducible refine Below.drew ?_) | (with_reducible refine Below.alloc ?_ ?_ _) | (with_reducible refine Below.setCell ?_ ?_ _) | (with_reducible exact Nat.le_refl _) | omega | (simp only [World.size_alloc, World.size_setCell, World.size_drew, Wov_size, World.heap_drewN]; omega))))
        · obtain ⟨m, rfl, rfl, hm0, hm4⟩ := okD_form hok
          obtain ⟨a, rfl⟩ : ∃ a : Nat, i = (a : Int) := ⟨i.toNat, by omega⟩
          obtain ⟨c, rfl⟩ : ∃ c : Nat, j = (c : Int) := ⟨j.toNat, by omega⟩
          refine refSet_in m (m * m) p cap f a c b _ w rfl hok (by omega) (by omega) hm ?_ hS hF
          rw [refSetM, hok, if_pos rfl, if_pos ⟨hi.1, hi.2, hj.1, hj.2⟩, hm, if_pos rfl]
          rw [show ((a : Int) * (m : Int) + (c : Int)).toNat = a * m + c from by rw [show (a : Int) * (m : Int) + (c : Int) = ((a * m + c : Nat) : Int) from by push_cast; rfl]; rfl, show ((m : Int)).toNat = m from rfl]
      · have R : Hid (refSetM n N f i j b = errM 2) := by show _ = _; rw [refSetM, hok, if_pos rfl, if_neg (fun h => hj ⟨h.2.2.1, h.2.2.2⟩)]
        rw [R.out]
        rw [decide_eq_false hj] at KJ
        clear hok hS hF hi hj MB
        go_enter Try.func18, Try.ntmps18
        go_wp2_with (fail)
        refine (MY.out _ (by (repeat' (first | (with_reducible assumption) | (with_reducible exact Below.refl _ _) | (with_reducible refine below_wov ?_ ?_ _) | (with_reducible refine below_drewN ?_ _) | (with_reducible refine Below.drew ?_) | (with_reducible refine Below.alloc ?_ ?_ _) | (with_reducible refine Below.setCell ?_ ?_ _) | (with_reducible exact Nat.le_refl _) | omega | (simp only [World.size_alloc, World.size_setCell, World.size_drew, Wov_size, World.heap_drewN]; omega))))).mono ?_; rintro e w' ⟨rfl, q1, rfl⟩
        go_wp2_with (fail)
        refine (KI.out _).mono ?_; rintro e w' ⟨rfl, q2, rfl⟩
        go_wp2_with (fail)
        refine (KJ.out _).mono ?_; rintro e w' ⟨rfl, q3, rfl⟩
        go_wp2
        go_returns
        exact matC_err rfl (by (repeat' (first | (with_reducible assumption) | (with_reducible exact Below.refl _ _) | (with_reducible refine below_wov ?_ ?_ _) | (with_reducible refine below_drewN ?_ _) | (with_reducible refine Below.drew ?_) | (with_reducible refine Below.alloc ?_ ?_ _) | (with_reducible refine Below.setCell ?_ ?_ _) | (with_reducible exact Nat.le_refl _) | omega | (simp only [World.size_alloc, World.size_setCell, World.size_drew, Wov_size, World.heap_drewN]; omega))))
    · have R : Hid (refSetM n N f i j b = errM 2) := by show _ = _; rw [refSetM, hok, if_pos rfl, if_neg (fun h => hi ⟨h.1, h.2.1⟩)]
      rw [R.out]
      rw [decide_eq_false hi] at KI
      clear hok hS hF hi MB KJ
      go_enter Try.func18, Try.ntmps18
      go_wp2_with (fail)
      refine (MY.out _ (by (repeat' (first | (with_reducible assumption) | (with_reducible exact Below.refl _ _) | (with_reducible refine below_wov ?_ ?_ _) | (with_reducible refine below_drewN ?_ _) | (with_reducible refine Below.drew ?_) | (with_reducible refine Below.alloc ?_ ?_ _) | (with_reducible refine Below.setCell ?_ ?_ _) | (with_reducible exact Nat.le_refl _) | omega | (simp only [World.size_alloc, World.size_setCell, World.size_drew, Wov_size, World.heap_drewN]; omega))))).mono ?_; rintro e w' ⟨rfl, q1, rfl⟩
      go_wp2_with (fail)
      refine (KI.out _).mono ?_; rintro e w' ⟨rfl, q2, rfl⟩
      go_wp2
      go_returns
      exact matC_err rfl (by (repeat' (first | (with_reducible assumption) | (with_reducible exact Below.refl _ _) | (with_reducible refine below_wov ?_ ?_ _) | (with_reducible refine below_drewN ?_ _) | (with_reducible refine Below.drew ?_) | (with_reducible refine Below.alloc ?_ ?_ _) | (with_reducible refine Below.setCell ?_ ?_ _) | (with_reducible exact Nat.le_refl _) | omega | (simp only [World.size_alloc, World.size_setCell, World.size_drew, Wov_size, World.heap_drewN]; omega))))
#print axioms refSet_any
end Go.Proofs.Ytggjkibhffglbaa

namespace Go.Proofs.Ytggjkibhffglbaa
set_option linter.unusedSimpArgs false
set_option linter.unusedVariables false
open Go Go.RowKit Go.Shelf
attribute [local go_sem] Nat.add_assoc Nat.add_lt_add_iff_left lit_lt_add

set_option maxRecDepth 10000 in
set_option maxHeartbeats 1000000 in
theorem refMeet_any (n1 : Int) (p1 : Option Addr) (N1 c1 : Nat) (f1 : Nat → Int) (n2 : Int) (p2 : Option Addr) (N2 c2 : Nat) (f2 : Nat → Int) (w : World) (hn1 : fits64 n1) (hn2 : fits64 n2) (hS1 : SlP w p1 N1 f1) (hS2 : SlP w p2 N2 f2) (hF1 : Fits N1 f1) (hF2 : Fits N2 f2) (hN1 : N1 ≤ 1000000) (hN2 : N2 ≤ 1000000) :
    Calls Try.prog 20 #[.agg #[.int .i64 n1, .slice p1 N1 c1], .agg #[.int .i64 n2, .slice p2 N2 c2]] w (matC w (meetM n1 N1 f1 n2 N2 f2).n (meetM n1 N1 f1 n2 N2 f2).N (meetM n1 N1 f1 n2 N2 f2).f (meetM n1 N1 f1 n2 N2 f2).e) := by
  have K1 := Lib.hid (fun (w' : World) (hb : Below w.heap.size w w') => refMay_any n1 p1 N1 c1 f1 w' hn1 (hS1.below hb) hF1 hN1)
  have K2 := Lib.hid (fun (w' : World) (hb : Below w.heap.size w w') => refMay_any n2 p2 N2 c2 f2 w' hn2 (hS2.below hb) hF2 hN2)
  cases o1 : okD n1 N1 f1
  · have R : Hid (meetM n1 N1 f1 n2 N2 f2 = errM 8) := by show _ = _; rw [meetM, o1]; rfl
    rw [R.out]
    rw [o1] at K1
    clear o1 hS1 hS2 hF1 hF2 K2
    go_enter Try.func20, Try.ntmps20
    go_wp2_with (fail)
    refine (K1.out _ (by (repeat' (first | (with_reducible assumption) | (with_reducible exact Below.refl _ _) | (with_reducible refine below_wov ?_ ?_ _) | (with_reducible refine below_drewN ?_ _) | (with_reducible refine Below.drew ?_) | (with_reducible refine Below.alloc ?_ ?_ _) | (with_reducible refine Below.setCell ?_ ?_ _) | (with_reducible exact Nat.le_refl _) | omega | (simp only [World.size_alloc, World.size_setCell, World.size_drew, Wov_size, World.heap_drewN]; omega))))).mono ?_; rintro e w' ⟨rfl, q1, rfl⟩
    go_wp2
    go_returns
    exact matC_err rfl (by (repeat' (first | (with_reducible assumption) | (with_reducible exact Below.refl _ _) | (with_reducible refine below_wov ?_ ?_ _) | (with_reducible refine below_drewN ?_ _) | (with_reducible refine Below.drew ?_) | (with_reducible refine Below.alloc ?_ ?_ _) | (with_reducible refine Below.setCell ?_ ?_ _) | (with_reducible exact Nat.le_refl _) | omega | (simp only [World.size_alloc, World.size_setCell, World.size_drew, Wov_size, World.heap_drewN]; omega))))
  · rw [o1] at K1
    cases o2 : okD n2 N2 f2
    · have R : Hid (meetM n1 N1 f1 n2 N2 f2 = errM 8) := by show _ = _; rw [meetM, o1, o2]; rfl
      rw [R.out]
      rw [o2] at K2
      clear o1 o2 hS1 hS2 hF1 hF2
      go_enter Try.func20, Try.ntmps20
      go_wp2_with (fail)
      refine (K1.out _ (by (repeat' (first | (with_reducible assumption) | (with_reducible exact Below.refl _ _) | (with_reducible refine below_wov ?_ ?_ _) | (with_reducible refine below_drewN ?_ _) | (with_reducible refine Below.drew ?_) | (with_reducible refine Below.alloc ?_ ?_ _) | (with_reducible refine Below.setCell ?_ ?_ _) | (with_reducible exact Nat.le_refl _) | omega | (simp only [World.size_alloc, World.size_setCell, World.size_drew, Wov_size, World.heap_drewN]; omega))))).mono ?_; rintro e w' ⟨rfl, q1, rfl⟩
      go_wp2_with (fail)
      refine (K2.out _ (by (repeat' (first | (with_reducible assumption) | (with_reducible exact Below.refl _ _) | (with_reducible refine below_wov ?_ ?_ _) | (with_reducible refine below_drewN ?_ _) | (with_reducible refine Below.drew ?_) | (with_reducible refine Below.alloc ?_ ?_ _) | (with_reducible refine Below.setCell ?_ ?_ _) | (with_reducible exact Nat.le_refl _) | omega | (simp only [World.size_alloc, World.size_setCell, World.size_drew, Wov_size, World.heap_drewN]; omega))))).mono ?_; rintro e w' ⟨rfl, q2, rfl⟩
      go_wp2
      go_returns
      exact matC_err rfl (by (repeat' (first | (with_reducible assumption) | (with_reducible exact Below.refl _ _) | (with_reducible refine below_wov ?_ ?_ _) | (with_reducible refine below_drewN ?_ _) | (with_reducible refine Below.drew ?_) | (with_reducible refine Below.alloc ?_ ?_ _) | (with_reducible refine Below.setCell ?_ ?_ _) | (with_reducible exact Nat.le_refl _) | omega | (simp only [World.size_alloc, World.size_setCell, World.size_drew, Wov_size, World.heap_drewN]; omega))))
    · rw [o2] at K2
      by_cases hne : n1 = n2
      · subst hne
        obtain ⟨m, rfl, rfl, hm0, hm4⟩ := okD_form o1
        obtain ⟨m', hm', rfl, _, _⟩ := okD_form o2
        obtain rfl : m = m' := by omega
        have e : meetM m (m * m) f1 m (m * m) f2 = closeM m (m * m) (lessF f1 f2) := by rw [meetM, o1, o2]; simp
        rw [e]
        have CM := Lib.hid (fun (w' : World) (hb : Below w.heap.size w w') => common_any m (m * m) p1 p2 c1 c2 f1 f2 _ w' rfl (okD_less o1 o2) rfl (hS1.below hb) (hS2.below hb))
        obtain ⟨N, hN⟩ : ∃ N, N = m * m := ⟨_, rfl⟩
        rcases closeM_cases (okD_less o1 o2) with ⟨g, h, _⟩ | ⟨h, _⟩
        · rw [h] at CM ⊢
          have CM1 : Hid (∀ w', Below w.heap.size w w' → Calls Try.prog 62 #[.agg #[.int .i64 m, .slice p1 (m * m) c1], .agg #[.int .i64 m, .slice p2 (m * m) c2]] w' (matB w' m (m * m) g true)) := fun w' hb => CM.out w' hb
          show Calls _ _ _ _ (matC w m (m * m) g 0)
          rw [← hN] at K1 K2 CM1 ⊢
          clear CM h e o1 o2 hS1 hS2 hF1 hF2 hN hN1 hN2
          have TY := Lib.hid told_yes
          go_enter Try.func20, Try.ntmps20
          go_wp2_with (fail)
          refine (K1.out _ (by (repeat' (first | (with_reducible assumption) | (with_reducible exact Below.refl _ _) | (with_reducible refine below_wov ?_ ?_ _) | (with_reducible refine below_drewN ?_ _) | (with_reducible refine Below.drew ?_) | (with_reducible refine Below.alloc ?_ ?_ _) | (with_reducible refine Below.setCell ?_ ?_ _) | (with_reducible exact Nat.le_refl _) | omega | (simp only [World.size_alloc, World.size_setCell, World.size_drew, Wov_size, World.heap_drewN]; omega))))).mono ?_; rintro e w' ⟨rfl, q1, rfl⟩
          go_wp2_with (fail)
          refine (K2.out _ (by (repeat' (first | (with_reducible assumption) | (with_reducible exact Below.refl _ _) | (with_reducible refine below_wov ?_ ?_ _) | (with_reducible refine below_drewN ?_ _) | (with_reducible refine Below.drew ?_) | (with_reducible refine Below.alloc ?_ ?_ _) | (with_reducible refine Below.setCell ?_ ?_ _) | (with_reducible exact Nat.le_refl _) | omega | (simp only [World.size_alloc, World.size_setCell, World.size_drew, Wov_size, World.heap_drewN]; omega))))).mono ?_; rintro e w' ⟨rfl, q2, rfl⟩
          go_wp2_with (fail)
          refine calls_world (fun W => Below w.heap.size w W ∧ w.heap.size + 2 < W.heap.size ∧ W.cell? ⟨w.heap.size + 2, 0, none⟩ = some (.int .i64 0) ∧ W.cell? ⟨w.heap.size + 2, 1, none⟩ = some (.slice none 0 0) ∧ W.frozen? ⟨w.heap.size + 2, 0, none⟩ = false ∧ W.frozen? ⟨w.heap.size + 2, 1, none⟩ = false) ⟨by (repeat' (first | (with_reducible assumption) | (with_reducible exact Below.refl _ _) | (with_reducible refine below_wov ?_ ?_ _) | (with_reducible refine below_drewN ?_ _) | (with_reducible refine Below.drew ?_) | (with_reducible refine Below.alloc ?_ ?_ _) | (with_reducible refine Below.setCell ?_ ?_ _) | (with_reducible exact Nat.le_refl _) | omega | (simp only [World.size_alloc, World.size_setCell, World.size_drew, Wov_size, World.heap_drewN]; omega))), by simp only [World.size_alloc, Wov_size, Array.size_append]; omega, by simp [go_sem], by simp [go_sem], by simp [go_sem], by simp [go_sem]⟩ ?_
          rintro W ⟨hBw, hz, r0, r1, s0, s1⟩
          refine (CM1.out _ hBw).mono ?_; rintro e w' ⟨⟨p5, c5, rfl, ho⟩, q3, rfl⟩
          go_wp2_with (fail)
          refine (TY.out _ _ _ _ _).mono ?_; rintro e w' ⟨rfl, q4, rfl⟩
          have H2 := ho.grow (below_Wov _ q4)
          simp only [Wov_Wov, Array.append_assoc] at H2
          have HO := Lib.hid H2
          have hsw := hBw.size
          clear ho H2 K1 K2 CM1
          go_wp2
          refine bodyPost_ret (by simp [results, Try.results20, go_sem, r0, r1, hz]; try rfl) rfl ?_
          refine ⟨⟨p5, c5, rfl, ?_⟩, Wov_of_below (by (repeat' (first | (with_reducible assumption) | (with_reducible exact Below.refl _ _) | (with_reducible refine below_wov ?_ ?_ _) | (with_reducible refine below_drewN ?_ _) | (with_reducible refine Below.drew ?_) | (with_reducible refine Below.alloc ?_ ?_ _) | (with_reducible refine Below.setCell ?_ ?_ _) | (with_reducible exact Nat.le_refl _) | omega | (simp only [World.size_alloc, World.size_setCell, World.size_drew, Wov_size, World.heap_drewN]; omega))))⟩
          exact (HO.out.chg (B := w.heap.size + 2) (by omega) ((Chg.set _ _ _ _).trans (Chg.set _ _ _ _))).later (by omega)
        · rw [h] at CM ⊢
          have CM1 : Hid (∀ w', Below w.heap.size w w' → Calls Try.prog 62 #[.agg #[.int .i64 m, .slice p1 (m * m) c1], .agg #[.int .i64 m, .slice p2 (m * m) c2]] w' (matB w' 0 0 (fun _ => 0) false)) := fun w' hb => CM.out w' hb
          show Calls _ _ _ _ (matC w 0 0 (fun _ => 0) 6)
          rw [← hN] at K1 K2 CM1 ⊢
          clear CM h e o1 o2 hS1 hS2 hF1 hF2 hN hN1 hN2
          have TN := Lib.hid told_no
          go_enter Try.func20, Try.ntmps20
          go_wp2_with (fail)
          refine (K1.out _ (by (repeat' (first | (with_reducible assumption) | (with_reducible exact Below.refl _ _) | (with_reducible refine below_wov ?_ ?_ _) | (with_reducible refine below_drewN ?_ _) | (with_reducible refine Below.drew ?_) | (with_reducible refine Below.alloc ?_ ?_ _) | (with_reducible refine Below.setCell ?_ ?_ _) | (with_reducible exact Nat.le_refl _) | omega | (simp only [World.size_alloc, World.size_setCell, World.size_drew, Wov_size, World.heap_drewN]; omega))))).mono ?_; rintro e w' ⟨rfl, q1, rfl⟩
          go_wp2_with (fail)
          refine (K2.out _ (by (repeat' (first | (with_reducible assumption) | (with_reducible exact Below.refl _ _) | (with_reducible refine below_wov ?_ ?_ _) | (with_reducible refine below_drewN ?_ _) | (with_reducible refine Below.drew ?_) | (with_reducible refine Below.alloc ?_ ?_ _) | (with_reducible refine Below.setCell ?_ ?_ _) | (with_reducible exact Nat.le_refl _) | omega | (simp only [World.size_alloc, World.size_setCell, World.size_drew, Wov_size, World.heap_drewN]; omega))))).mono ?_; rintro e w' ⟨rfl, q2, rfl⟩
          go_wp2_with (fail)
          refine (CM1.out _ (by (repeat' (first | (with_reducible assumption) | (with_reducible exact Below.refl _ _) | (with_reducible refine below_wov ?_ ?_ _) | (with_reducible refine below_drewN ?_ _) | (with_reducible refine Below.drew ?_) | (with_reducible refine Below.alloc ?_ ?_ _) | (with_reducible refine Below.setCell ?_ ?_ _) | (with_reducible exact Nat.le_refl _) | omega | (simp only [World.size_alloc, World.size_setCell, World.size_drew, Wov_size, World.heap_drewN]; omega))))).mono ?_; rintro e w' ⟨⟨p5, c5, rfl, ho⟩, q3, rfl⟩
          clear ho
          go_wp2_with (fail)
          refine (TN.out _ _ _ _ _).mono ?_; rintro e w' ⟨rfl, q4, rfl⟩
          go_wp2
          go_returns
          exact ⟨⟨none, 0, rfl, .inl rfl⟩, Wov_of_below (by (repeat' (first | (with_reducible assumption) | (with_reducible exact Below.refl _ _) | (with_reducible refine below_wov ?_ ?_ _) | (with_reducible refine below_drewN ?_ _) | (with_reducible refine Below.drew ?_) | (with_reducible refine Below.alloc ?_ ?_ _) | (with_reducible refine Below.setCell ?_ ?_ _) | (with_reducible exact Nat.le_refl _) | omega | (simp only [World.size_alloc, World.size_setCell, World.size_drew, Wov_size, World.heap_drewN]; omega))))⟩
      · have R : Hid (meetM n1 N1 f1 n2 N2 f2 = errM 40) := by show _ = _; rw [meetM, o1, o2]; simp [hne]
        rw [R.out]
        have bne : (n1 != n2) = true := by rw [bne_iff_ne]; exact hne
        clear o1 o2 hS1 hS2 hF1 hF2
        go_enter Try.func20, Try.ntmps20
        go_wp2_with (fail)
        refine (K1.out _ (by (repeat' (first | (with_reducible assumption) | (with_reducible exact Below.refl _ _) | (with_reducible refine below_wov ?_ ?_ _) | (with_reducible refine below_drewN ?_ _) | (with_reducible refine Below.drew ?_) | (with_reducible refine Below.alloc ?_ ?_ _) | (with_reducible refine Below.setCell ?_ ?_ _) | (with_reducible exact Nat.le_refl _) | omega | (simp only [World.size_alloc, World.size_setCell, World.size_drew, Wov_size, World.heap_drewN]; omega))))).mono ?_; rintro e w' ⟨rfl, q1, rfl⟩
        go_wp2_with (fail)
        refine (K2.out _ (by (repeat' (first | (with_reducible assumption) | (with_reducible exact Below.refl _ _) | (with_reducible refine below_wov ?_ ?_ _) | (with_reducible refine below_drewN ?_ _) | (with_reducible refine Below.drew ?_) | (with_reducible refine Below.alloc ?_ ?_ _) | (with_reducible refine Below.setCell ?_ ?_ _) | (with_reducible exact Nat.le_refl _) | omega | (simp only [World.size_alloc, World.size_setCell, World.size_drew, Wov_size, World.heap_drewN]; omega))))).mono ?_; rintro e w' ⟨rfl, q2, rfl⟩
        go_wp2
        go_returns
        exact matC_err rfl (by (repeat' (first | (with_reducible assumption) | (with_reducible exact Below.refl _ _) | (with_reducible refine below_wov ?_ ?_ _) | (with_reducible refine below_drewN ?_ _) | (with_reducible refine Below.drew ?_) | (with_reducible refine Below.alloc ?_ ?_ _) | (with_reducible refine Below.setCell ?_ ?_ _) | (with_reducible exact Nat.le_refl _) | omega | (simp only [World.size_alloc, World.size_setCell, World.size_drew, Wov_size, World.heap_drewN]; omega))))
#print axioms refMeet_any
end Go.Proofs.Ytggjkibhffglbaa

namespace Go.Proofs.Ytggjkibhffglbaa
set_option linter.unusedSimpArgs false
set_option linter.unusedVariables false
open Go Go.RowKit Go.Shelf
attribute [local go_sem] Nat.add_assoc Nat.add_lt_add_iff_left lit_lt_add

theorem spanB_is {lo hi : Int} {hs : Bool} (h1 : -288230376151711744 ≤ lo) (h2 : lo ≤ 288230376151711744) : spanB lo hi hs false = (decide (lo ≤ hi) && decide (hi ≤ 288230376151711744)) ∧ spanB lo hi hs true = (decide (hi = 0) && !hs) := by
  constructor
  · unfold spanB; rw [decide_eq_true h1, decide_eq_true h2, Bool.eq_iff_iff]; simp; omega
  · unfold spanB; rw [decide_eq_true h1, decide_eq_true h2, Bool.eq_iff_iff]; simp; omega

set_option maxRecDepth 10000 in
set_option maxHeartbeats 2000000 in
theorem maySpan_any (lo : Int) (ls : Bool) (hi : Int) (hs op : Bool) (w : World) (hlo : fits64 lo) (hhi : fits64 hi) :
    Calls Try.prog 66 #[.agg #[.int .i64 lo, .bool ls, .int .i64 hi, .bool hs, .bool op]] w (Gives w (.bool (spanB lo hi hs op))) := by
  unfold fits64 at hlo hhi
  by_cases h1 : lo < -288230376151711744
  · have S : Hid (spanB lo hi hs op = false) := by show _ = _; unfold spanB; rw [decide_eq_false (by omega)]; rfl
    rw [S.out]
    clear S
    go_enter Try.func66, Try.ntmps66
    go_wp2
    all_goals
      go_ret
      exact gives_bool rfl (by (repeat' (first | (with_reducible assumption) | (with_reducible exact Below.refl _ _) | (with_reducible refine below_wov ?_ ?_ _) | (with_reducible refine below_drewN ?_ _) | (with_reducible refine Below.drew ?_) | (with_reducible refine Below.alloc ?_ ?_ _) | (with_reducible refine Below.setCell ?_ ?_ _) | (with_reducible exact Nat.le_refl _) | omega | (simp only [World.size_alloc, World.size_setCell, World.size_drew, Wov_size, World.heap_drewN]; omega))))
  · have e1 : decide (lo < -288230376151711744) = false := by simp; omega
    by_cases h2 : 288230376151711744 < lo
    · have S : Hid (spanB lo hi hs op = false) := by show _ = _; unfold spanB; rw [decide_eq_false (show ¬ lo ≤ 288230376151711744 by omega)]; simp
      rw [S.out]
      clear S
      go_enter Try.func66, Try.ntmps66
      go_wp2
      all_goals
        go_ret
        exact gives_bool rfl (by (repeat' (first | (with_reducible assumption) | (with_reducible exact Below.refl _ _) | (with_reducible refine below_wov ?_ ?_ _) | (with_reducible refine below_drewN ?_ _) | (with_reducible refine Below.drew ?_) | (with_reducible refine Below.alloc ?_ ?_ _) | (with_reducible refine Below.setCell ?_ ?_ _) | (with_reducible exact Nat.le_refl _) | omega | (simp only [World.size_alloc, World.size_setCell, World.size_drew, Wov_size, World.heap_drewN]; omega))))
    · have e2 : decide (288230376151711744 < lo) = false := by simp; omega
      have S := spanB_is (hi := hi) (hs := hs) (show -288230376151711744 ≤ lo by omega) (show lo ≤ 288230376151711744 by omega)
      have S1 := Lib.hid S.1
      have S2 := Lib.hid S.2
      clear S
      cases op
      · rw [S1.out]
        by_cases h3 : lo ≤ hi
        · rw [decide_eq_true h3, Bool.true_and]
          go_enter Try.func66, Try.ntmps66
          go_wp2
          all_goals
            go_ret
            exact gives_bool (by first | rfl | simp_all) (by (repeat' (first | (with_reducible assumption) | (with_reducible exact Below.refl _ _) | (with_reducible refine below_wov ?_ ?_ _) | (with_reducible refine below_drewN ?_ _) | (with_reducible refine Below.drew ?_) | (with_reducible refine Below.alloc ?_ ?_ _) | (with_reducible refine Below.setCell ?_ ?_ _) | (with_reducible exact Nat.le_refl _) | omega | (simp only [World.size_alloc, World.size_setCell, World.size_drew, Wov_size, World.heap_drewN]; omega))))
        · have e3 : decide (lo ≤ hi) = false := by simp; omega
          rw [e3, Bool.false_and]
          go_enter Try.func66, Try.ntmps66
          go_wp2
          all_goals
            go_ret
            exact gives_bool (by first | rfl | simp_all) (by (repeat' (first | (with_reducible assumption) | (with_reducible exact Below.refl _ _) | (with_reducible refine below_wov ?_ ?_ _) | (with_reducible refine below_drewN ?_ _) | (with_reducible refine Below.drew ?_) | (with_reducible refine Below.alloc ?_ ?_ _) | (with_reducible refine Below.setCell ?_ ?_ _) | (with_reducible exact Nat.le_refl _) | omega | (simp only [World.size_alloc, World.size_setCell, World.size_drew, Wov_size, World.heap_drewN]; omega))))
      · rw [S2.out]
        by_cases h3 : hi = 0
        · subst h3
          rw [decide_eq_true rfl, Bool.true_and]
          go_enter Try.func66, Try.ntmps66
          go_wp2
          all_goals
            go_ret
            exact gives_bool (by first | rfl | simp_all) (by (repeat' (first | (with_reducible assumption) | (with_reducible exact Below.refl _ _) | (with_reducible refine below_wov ?_ ?_ _) | (with_reducible refine below_drewN ?_ _) | (with_reducible refine Below.drew ?_) | (with_reducible refine Below.alloc ?_ ?_ _) | (with_reducible refine Below.setCell ?_ ?_ _) | (with_reducible exact Nat.le_refl _) | omega | (simp only [World.size_alloc, World.size_setCell, World.size_drew, Wov_size, World.heap_drewN]; omega))))
        · have b0 : (hi == 0) = false := by rw [beq_eq_false_iff_ne]; exact h3
          rw [decide_eq_false h3, Bool.false_and]
          go_enter Try.func66, Try.ntmps66
          go_wp2
          all_goals
            go_ret
            exact gives_bool (by first | rfl | simp_all) (by (repeat' (first | (with_reducible assumption) | (with_reducible exact Below.refl _ _) | (with_reducible refine below_wov ?_ ?_ _) | (with_reducible refine below_drewN ?_ _) | (with_reducible refine Below.drew ?_) | (with_reducible refine Below.alloc ?_ ?_ _) | (with_reducible refine Below.setCell ?_ ?_ _) | (with_reducible exact Nat.le_refl _) | omega | (simp only [World.size_alloc, World.size_setCell, World.size_drew, Wov_size, World.heap_drewN]; omega))))

set_option maxHeartbeats 800000 in
theorem refBelow_any (lo : Int) (ls : Bool) (hi : Int) (hs op : Bool) (h1 : -288230376151711744 ≤ lo) (h2 : lo ≤ 288230376151711744) :
    Pure Try.prog 68 #[.agg #[.int .i64 lo, .bool ls, .int .i64 hi, .bool hs, .bool op]] (.int .i64 (belowB lo ls)) := by
  intro w
  have C := Lib.hid (fun w' => refMade_any (-lo) ls w' (by omega) (by omega))
  have W1 : Hid (wrap64 (0 - lo) = -lo) := by show _ = _; rw [Int.zero_sub]; exact wrap64_id (by omega) (by omega)
  unfold belowB
  obtain ⟨b, hb⟩ : ∃ b, b = mkB (-lo) ls := ⟨_, rfl⟩
  rw [← hb] at C ⊢
  clear hb h1 h2
  go_enter Try.func68, Try.ntmps68
  go_wp2_with (fail)
  first | rw [W1.out] | (have W2 := W1.out; rw [Int.zero_sub] at W2; rw [W2])
  refine (C.out _).mono ?_; rintro e w' ⟨rfl, rfl⟩
  go_wp2
  go_ret
  exact gives_int rfl (by (repeat' (first | (with_reducible assumption) | (with_reducible exact Below.refl _ _) | (with_reducible refine below_wov ?_ ?_ _) | (with_reducible refine below_drewN ?_ _) | (with_reducible refine Below.drew ?_) | (with_reducible refine Below.alloc ?_ ?_ _) | (with_reducible refine Below.setCell ?_ ?_ _) | (with_reducible exact Nat.le_refl _) | omega | (simp only [World.size_alloc, World.size_setCell, World.size_drew, Wov_size, World.heap_drewN]; omega))))

set_option maxHeartbeats 800000 in
theorem refAbove_any (lo : Int) (ls : Bool) (hi : Int) (hs op : Bool) (h : op = false → -288230376151711744 ≤ hi ∧ hi ≤ 288230376151711744) :
    Pure Try.prog 69 #[.agg #[.int .i64 lo, .bool ls, .int .i64 hi, .bool hs, .bool op]] (.int .i64 (aboveB hi hs op)) := by
  intro w
  cases op
  · obtain ⟨h1, h2⟩ := h rfl
    have C := Lib.hid (fun w' => refMade_any hi hs w' (by omega) (by omega))
    show Calls _ _ _ _ (Gives w (.int .i64 (mkB hi hs)))
    obtain ⟨b, hb⟩ : ∃ b, b = mkB hi hs := ⟨_, rfl⟩
    rw [← hb] at C ⊢
    clear hb h1 h2 h
    go_enter Try.func69, Try.ntmps69
    go_wp2_with (fail)
    refine (C.out _).mono ?_; rintro e w' ⟨rfl, rfl⟩
    go_wp2
    go_ret
    exact gives_int rfl (by (repeat' (first | (with_reducible assumption) | (with_reducible exact Below.refl _ _) | (with_reducible refine below_wov ?_ ?_ _) | (with_reducible refine below_drewN ?_ _) | (with_reducible refine Below.drew ?_) | (with_reducible refine Below.alloc ?_ ?_ _) | (with_reducible refine Below.setCell ?_ ?_ _) | (with_reducible exact Nat.le_refl _) | omega | (simp only [World.size_alloc, World.size_setCell, World.size_drew, Wov_size, World.heap_drewN]; omega))))
  · show Calls _ _ _ _ (Gives w (.int .i64 9223372036854775807))
    clear h
    go_enter Try.func69, Try.ntmps69
    go_wp2
    go_ret
    exact gives_int rfl (by (repeat' (first | (with_reducible assumption) | (with_reducible exact Below.refl _ _) | (with_reducible refine below_wov ?_ ?_ _) | (with_reducible refine below_drewN ?_ _) | (with_reducible refine Below.drew ?_) | (with_reducible refine Below.alloc ?_ ?_ _) | (with_reducible refine Below.setCell ?_ ?_ _) | (with_reducible exact Nat.le_refl _) | omega | (simp only [World.size_alloc, World.size_setCell, World.size_drew, Wov_size, World.heap_drewN]; omega))))
end Go.Proofs.Ytggjkibhffglbaa

namespace Go.Proofs.Ytggjkibhffglbaa
set_option linter.unusedSimpArgs false
set_option linter.unusedVariables false
open Go Go.RowKit Go.Shelf
attribute [local go_sem] Nat.add_assoc Nat.add_lt_add_iff_left lit_lt_add

/-- The document's answer. -/
def refBetM (n : Int) (N : Nat) (f : Nat → Int) (i lo : Int) (ls : Bool) (hi : Int) (hs op : Bool) : MR :=
  if okD n N f then (if 0 ≤ i ∧ i < n then (if spanB lo hi hs op then closeM n N (lessF f (lessF (upd (topF n.toNat) (0 * n.toNat + i.toNat) (belowB lo ls)) (upd (topF n.toNat) (i.toNat * n.toNat + 0) (aboveB hi hs op)))) else errM 8) else errM 2) else errM 8

theorem okD_two {n N : Nat} {f : Nat → Int} {x y : Nat} {b c : Int} (h : okD n N f = true) (hb : mayB b = true) (hc : mayB c = true) : okD n N (lessF f (lessF (upd (topF n) x b) (upd (topF n) y c))) = true := by
  refine okD_of h fun z hz => mayB_min (okD_may h _ hz) (mayB_min ?_ ?_)
  · unfold upd; split
    · exact hb
    · exact topF_may n z
  · unfold upd; split
    · exact hc
    · exact topF_may n z
theorem between_ref (n : Int) (N : Nat) (f : Nat → Int) (i lo : Int) (ls : Bool) (hi : Int) (hs op : Bool) : (betweenM n N f i lo ls hi hs op).e = (refBetM n N f i lo ls hi hs op).e ∧ sameM (betweenM n N f i lo ls hi hs op) (refBetM n N f i lo ls hi hs op) = true := by
  unfold betweenM refBetM
  cases hok : okD n N f
  · exact ⟨rfl, sameM_refl _⟩
  · obtain ⟨m, rfl, rfl, hm0, hm4⟩ := okD_form hok
    rw [if_pos rfl, if_pos rfl]
    by_cases h : 0 ≤ i ∧ i < (m : Int)
    · rw [if_pos h, if_pos h]
      cases hb : spanB lo hi hs op
      · exact ⟨rfl, sameM_refl _⟩
      · rw [if_pos rfl, if_pos rfl]
        obtain ⟨a, rfl⟩ : ∃ a : Nat, i = (a : Int) := ⟨i.toNat, by omega⟩
        have ha : a < m := by omega
        have b1 := belowB_may (ls := ls) hb
        have b2 := aboveB_may hb
        rw [show ((a : Int) * (m : Int)).toNat = a * m + 0 from by rw [show (a : Int) * (m : Int) = ((a * m : Nat) : Int) from by push_cast; rfl]; rfl, show ((a : Int)).toNat = a from rfl, show ((m : Int)).toNat = m from rfl]
        have e : moreAt f a (belowB lo ls) = moreAt f (0 * m + a) (belowB lo ls) := by rw [Nat.zero_mul, Nat.zero_add]
        rw [e]
        have o1 := okD_more (x := 0 * m + a) hok b1
        refine closeM_eq (okD_more o1 b2) (okD_two hok b1 b2) fun q hq => ?_
        rw [under_more ha hm0 (okD_le o1) (mayB_le b2), under_more hm0 ha (okD_le hok) (mayB_le b1)]
        have l2 : ∀ i j, i < m → j < m → lessF (upd (topF m) (0 * m + a) (belowB lo ls)) (upd (topF m) (a * m + 0) (aboveB hi hs op)) (i * m + j) ≤ noneB := fun i j hi hj => Int.le_trans (Int.min_le_left _ _) (one_le b1 i j hi hj)
        rw [under_less (okD_le hok) l2, under_less (one_le b1) (one_le b2), under_one hq hm0 ha, under_one hq ha hm0, and_assoc]
    · rw [if_neg h, if_neg h]
      exact ⟨rfl, sameM_refl _⟩

set_option maxHeartbeats 1000000 in
theorem toldRef_any (w0 : World) (r : MR) (p : Option Addr) (c : Nat) (w : World) (hr : (∃ n N g, r = ⟨n, N, g, 0⟩) ∨ r = errM 6) (ho : OwnP w0 w p r.N r.f) :
    Calls Try.prog 61 #[.agg #[.int .i64 r.n, .slice p r.N c], .bool (decide (r.e = 0))] w (fun e W => ∃ p' c', e = .returned (.tuple #[.agg #[.int .i64 r.n, .slice p' r.N c'], .int .i64 r.e]) ∧ OwnP w0 W p' r.N r.f ∧ ∃ q, W = Wov w q) := by
  rcases hr with ⟨n, N, g, rfl⟩ | rfl
  · exact (told_yes n p N c w).mono fun e W ⟨he, q, hq⟩ => ⟨p, c, he, hq ▸ ho.grow (below_Wov _ _), q, hq⟩
  · exact (told_no 0 p 0 c w).mono fun e W ⟨he, q, hq⟩ => ⟨none, 0, he, .inl rfl, q, hq⟩

set_option maxRecDepth 100000 in
set_option maxHeartbeats 2000000 in
theorem refBet_in (m N : Nat) (p : Option Addr) (cap : Nat) (f : Nat → Int) (a : Nat) (lo : Int) (ls : Bool) (hi : Int) (hs op : Bool) (r : MR) (w : World) (hN : N = m * m) (hok : okD m N f = true) (ha : a < m) (hsp : spanB lo hi hs op = true) (hlo : fits64 lo) (hhi : fits64 hi) (hr : r = closeM m N (lessF f (lessF (upd (topF m) (0 * m + a) (belowB lo ls)) (upd (topF m) (a * m + 0) (aboveB hi hs op))))) (hS : SlP w p N f) (hF : Fits N f) :
    Calls Try.prog 22 #[.agg #[.int .i64 m, .slice p N cap], .int .i64 a, .agg #[.int .i64 lo, .bool ls, .int .i64 hi, .bool hs, .bool op]] w (matC w r.n r.N r.f r.e) := by
  subst hN
  obtain ⟨hm0, hm4, _⟩ := okD_bd hok
  have b1 := belowB_may (ls := ls) hsp
  have b2 := aboveB_may hsp
  obtain ⟨d1, d2, d3, d4, d5⟩ := spanB_bd hsp
  have hq1 : 1 * 1 ≤ m * m := Nat.mul_le_mul hm0 hm0
  have hq4 : m * m ≤ 4 * 4 := Nat.mul_le_mul hm4 hm4
  have MY := Lib.hid (fun (w' : World) (hb : Below w.heap.size w w') => refMay_any m p (m * m) cap f w' (by unfold fits64; omega) (hS.below hb) hF (by omega))
  have KI := Lib.hid (fun w' => refClock_any m a p (m * m) cap w')
  have MB := Lib.hid (fun w' => maySpan_any lo ls hi hs op w' hlo hhi)
  have BE := Lib.hid (refBelow_any lo ls hi hs op d1 d2)
  have AB := Lib.hid (refAbove_any lo ls hi hs op (fun h => ⟨by have := d5 h; omega, d3⟩))
  have O1 : Hid (∀ w', Calls Try.prog 63 #[.int .i64 m, .int .i64 0, .int .i64 a, .int .i64 (belowB lo ls)] w' (rowPost w' m (m * m) (upd (topF m) (0 * m + a) (belowB lo ls)))) := fun w' => one_any m 0 a _ w' hm0 hm4 hm0 ha
  have O2 : Hid (∀ w', Calls Try.prog 63 #[.int .i64 m, .int .i64 a, .int .i64 0, .int .i64 (aboveB hi hs op)] w' (rowPost w' m (m * m) (upd (topF m) (a * m + 0) (aboveB hi hs op)))) := fun w' => one_any m a 0 _ w' hm0 hm4 ha hm0
  rw [hok] at MY
  rw [decide_eq_true (show 0 ≤ (a : Int) ∧ (a : Int) < (m : Int) by omega)] at KI
  rw [hsp] at MB
  have okd := okD_two (x := 0 * m + a) (y := a * m + 0) hok b1 b2
  obtain ⟨v1, hv1⟩ : ∃ v, v = belowB lo ls := ⟨_, rfl⟩
  obtain ⟨v2, hv2⟩ : ∃ v, v = aboveB hi hs op := ⟨_, rfl⟩
  rw [← hv1, ← hv2] at hr okd
  rw [← hv1] at BE O1
  rw [← hv2] at AB O2
  obtain ⟨g1, hg1⟩ : ∃ g, g = upd (topF m) (0 * m + a) v1 := ⟨_, rfl⟩
  obtain ⟨g2, hg2⟩ : ∃ g, g = upd (topF m) (a * m + 0) v2 := ⟨_, rfl⟩
  rw [← hg1, ← hg2] at hr okd
  rw [← hg1] at O1
  rw [← hg2] at O2
  have LS : Hid (∀ W p1 p2 c1 c2, SlP W p1 (m * m) g1 → SlP W p2 (m * m) g2 → Calls Try.prog 67 #[.agg #[.int .i64 m, .slice p1 (m * m) c1], .agg #[.int .i64 m, .slice p2 (m * m) c2]] W (rowPost W m (m * m) (lessF g1 g2))) := fun W p1 p2 c1 c2 h1 h2 =>
    lesser_any m (m * m) p1 p2 c1 c2 g1 g2 W (by omega) (by omega) hm4 h1 h2
  have CM : Hid (∀ W B cp, Below w.heap.size w W → SlP W (some ⟨B, 0, none⟩) (m * m) (lessF g1 g2) → Calls Try.prog 62 #[.agg #[.int .i64 m, .slice p (m * m) cap], .agg #[.int .i64 m, .slice (some ⟨B, 0, none⟩) (m * m) cp]] W (matB W r.n r.N r.f (decide (r.e = 0)))) := fun W B cp hbw h =>
    common_any m (m * m) p (some ⟨B, 0, none⟩) cap cp f _ r W rfl okd hr (hS.below hbw) h
  have two : (∃ n N g, r = ⟨n, N, g, 0⟩) ∨ r = errM 6 := by
    rcases closeM_cases okd with ⟨g, h, _⟩ | ⟨h, _⟩
    · exact .inl ⟨_, _, g, hr.trans h⟩
    · exact .inr (hr.trans h)
  have TY := Lib.hid (fun w0 p c W (h : OwnP w0 W p r.N r.f) => toldRef_any w0 r p c W two h)
  obtain ⟨N, hN⟩ : ∃ N, N = m * m := ⟨_, rfl⟩
  obtain ⟨s, hs'⟩ : ∃ s, s = decide (r.e = 0) := ⟨_, rfl⟩
  obtain ⟨g3, hg3⟩ : ∃ g, g = lessF g1 g2 := ⟨_, rfl⟩
  unfold rowPost at O1 O2 LS
  rw [← hN] at MY KI O1 O2 LS CM ⊢
  rw [← hs'] at CM TY
  rw [← hg3] at CM LS
  obtain ⟨rn, hrn⟩ : ∃ x, x = r.n := ⟨_, rfl⟩
  obtain ⟨rN, hrN⟩ : ∃ x, x = r.N := ⟨_, rfl⟩
  obtain ⟨rf, hrf⟩ : ∃ x, x = r.f := ⟨_, rfl⟩
  obtain ⟨re, hre⟩ : ∃ x, x = r.e := ⟨_, rfl⟩
  rw [← hrn, ← hrN, ← hrf] at CM
  rw [← hrn, ← hrN, ← hrf, ← hre] at TY ⊢
  clear hr hok hS hF b1 b2 hN hs' hg3 hrn hrN hrf hre hg1 hg2 hv1 hv2 okd two hq1 hq4 d1 d2 d3 d4 d5 hlo hhi hsp
  go_enter Try.func22, Try.ntmps22
  go_wp2_with (fail)
  refine (MY.out _ (by (repeat' (first | (with_reducible assumption) | (with_reducible exact Below.refl _ _) | (with_reducible refine below_wov ?_ ?_ _) | (with_reducible refine below_drewN ?_ _) | (with_reducible refine Below.drew ?_) | (with_reducible refine Below.alloc ?_ ?_ _) | (with_reducible refine Below.setCell ?_ ?_ _) | (with_reducible exact Nat.le_refl _) | omega | (simp only [World.size_alloc, World.size_setCell, World.size_drew, Wov_size, World.heap_drewN]; omega))))).mono ?_; rintro e w' ⟨rfl, q1, rfl⟩
  go_wp2_with (fail)
  refine (KI.out _).mono ?_; rintro e w' ⟨rfl, q2, rfl⟩
  go_wp2_with (fail)
  refine (MB.out _).mono ?_; rintro e w' ⟨rfl, q3, rfl⟩
  go_wp2_with (fail)
  refine wp_world (fun W => Below w.heap.size w W ∧ w.heap.size + 2 < W.heap.size ∧ W.cell? ⟨w.heap.size, 0, none⟩ = some (.int .i64 m) ∧ W.cell? ⟨w.heap.size, 1, none⟩ = some (.slice p N cap) ∧ W.cell? ⟨w.heap.size + 1, 0, none⟩ = some (.int .i64 lo) ∧ W.cell? ⟨w.heap.size + 1, 1, none⟩ = some (.bool ls) ∧ W.cell? ⟨w.heap.size + 1, 2, none⟩ = some (.int .i64 hi) ∧ W.cell? ⟨w.heap.size + 1, 3, none⟩ = some (.bool hs) ∧ W.cell? ⟨w.heap.size + 1, 4, none⟩ = some (.bool op) ∧ W.cell? ⟨w.heap.size + 2, 0, none⟩ = some (.int .i64 0) ∧ W.cell? ⟨w.heap.size + 2, 1, none⟩ = some (.slice none 0 0) ∧ W.frozen? ⟨w.heap.size + 2, 0, none⟩ = false ∧ W.frozen? ⟨w.heap.size + 2, 1, none⟩ = false) ⟨by (repeat' (first | (with_reducible assumption) | (with_reducible exact Below.refl _ _) | (with_reducible refine below_wov ?_ ?_ _) | (with_reducible refine below_drewN ?_ _) | (with_reducible refine Below.drew ?_) | (with_reducible refine Below.alloc ?_ ?_ _) | (with_reducible refine Below.setCell ?_ ?_ _) | (with_reducible exact Nat.le_refl _) | omega | (simp only [World.size_alloc, World.size_setCell, World.size_drew, Wov_size, World.heap_drewN]; omega))), by simp only [World.size_alloc, Wov_size, Array.size_append]; omega, by simp [go_sem], by simp [go_sem], by simp [go_sem], by simp [go_sem], by simp [go_sem], by simp [go_sem], by simp [go_sem], by simp [go_sem], by simp [go_sem], by simp [go_sem], by simp [go_sem]⟩ ?_
  rintro W ⟨hBw, hz, c0, c1, s0, s1, s2, s3, s4, r0, r1, y0, y1⟩
  have hsw := hBw.size
  have hz0 : w.heap.size < W.heap.size := by omega
  have hz1 : w.heap.size + 1 < W.heap.size := by omega
  clear MY KI MB
  go_region_held3 (fun w' => w'.cell? ⟨w.heap.size, 0, none⟩ = some (.int .i64 m) ∧ w'.cell? ⟨w.heap.size, 1, none⟩ = some (.slice p N cap) ∧ w'.cell? ⟨w.heap.size + 1, 0, none⟩ = some (.int .i64 lo) ∧ w'.cell? ⟨w.heap.size + 1, 1, none⟩ = some (.bool ls) ∧ w'.cell? ⟨w.heap.size + 1, 2, none⟩ = some (.int .i64 hi) ∧ w'.cell? ⟨w.heap.size + 1, 3, none⟩ = some (.bool hs) ∧ w'.cell? ⟨w.heap.size + 1, 4, none⟩ = some (.bool op))
    ((simp [go_sem, *]))
    (first
    | (go_at_call 68; (refine (BE.out _).mono ?_; rintro e w' ⟨rfl, qa, rfl⟩))
    | (go_at_call_of 63 (Value.int IntKind.i64 v1); ((with_reducible refine (O1.out _).mono ?_); rintro e w' ⟨B1, cp1, rfl, hA1, hB1, hH1, qb, rfl⟩; have t1 := slp_of hH1 hB1; clear hA1 hB1 hH1))
    | (go_at_call 69; (refine (AB.out _).mono ?_; rintro e w' ⟨rfl, qc, rfl⟩; (try simp only [drew_Wov, Wov_Wov, Array.append_assoc] at t1); replace t1 := t1.below (below_Wov _ qc)))
    | (go_at_call_of 63 (Value.int IntKind.i64 v2); ((with_reducible refine (O2.out _).mono ?_); rintro e w' ⟨B2, cp2, rfl, hA2, hB2, hH2, qd, rfl⟩; have t2 := slp_of hH2 hB2; clear hA2 hB2 hH2; (try simp only [drew_Wov, Wov_Wov, Array.append_assoc] at t1); replace t1 := t1.below (below_Wov _ qd)))
    | (go_at_call 67; (try simp only [drew_Wov, Wov_Wov, Array.append_assoc] at t1); (try simp only [drew_Wov, Wov_Wov, Array.append_assoc] at t2); refine (LS.out _ _ _ _ _ t1 t2).mono ?_; rintro e w' ⟨B3, cp3, rfl, hA3, hB3, hH3, qe, rfl⟩; have t3 := slp_of hH3 hB3; clear hA3 hB3 hH3 t1 t2)
    | (go_at_call 62; (try simp only [drew_Wov, Wov_Wov, Array.append_assoc] at t3); refine (CM.out _ _ _ (by (repeat' (first | (with_reducible assumption) | (with_reducible exact Below.refl _ _) | (with_reducible refine below_wov ?_ ?_ _) | (with_reducible refine below_drewN ?_ _) | (with_reducible refine Below.drew ?_) | (with_reducible refine Below.alloc ?_ ?_ _) | (with_reducible refine Below.setCell ?_ ?_ _) | (with_reducible exact Nat.le_refl _) | omega | (simp only [World.size_alloc, World.size_setCell, World.size_drew, Wov_size, World.heap_drewN]; omega)))) t3).mono ?_; rintro e w' ⟨⟨p5, c5, rfl, ho⟩, qf, rfl⟩; clear t3)
    | (go_at_call 61; (try simp only [drew_Wov, Wov_Wov, Array.append_assoc] at ho); refine (TY.out W _ _ _ (ho.later (by (simp only [World.size_alloc, World.size_drew, Wov_size, Array.size_append]; omega)))).mono ?_; rintro e w' ⟨p6, c6, rfl, ho6, qg, rfl⟩))
  all_goals
    have H2 := ho6
    simp only [Wov_Wov, drew_Wov, Array.append_assoc] at H2
    have HO := Lib.hid H2
    clear ho ho6 H2
    rename_i hHeld
    clear hHeld c0 c1 s0 s1 s2 s3 s4 BE AB O1 O2 LS CM TY
    simp only [Exit.then]
    refine ‹∀ (a : Act) (w_1 : World), Code.wp Try.prog Code.ret (bodyPost Try.prog _ (matC w rn rN rf re)) a w_1 → _› _ _ ?_
    refine wp_ret ?_
    refine bodyPost_ret (by simp [results, Try.results22, go_sem, r0, r1, hz]; try rfl) rfl ?_
    refine ⟨⟨p6, c6, rfl, ?_⟩, Wov_of_below (by (repeat' (first | (with_reducible assumption) | (with_reducible exact Below.refl _ _) | (with_reducible refine below_wov ?_ ?_ _) | (with_reducible refine below_drewN ?_ _) | (with_reducible refine Below.drew ?_) | (with_reducible refine Below.alloc ?_ ?_ _) | (with_reducible refine Below.setCell ?_ ?_ _) | (with_reducible exact Nat.le_refl _) | omega | (simp only [World.size_alloc, World.size_setCell, World.size_drew, Wov_size, World.heap_drewN]; omega))))⟩
    exact (HO.out.chg (B := w.heap.size + 2) hz ((Chg.set _ _ _ _).trans (Chg.set _ _ _ _))).later hsw
#print axioms refBet_in
end Go.Proofs.Ytggjkibhffglbaa

namespace Go.Proofs.Ytggjkibhffglbaa
set_option linter.unusedSimpArgs false
set_option linter.unusedVariables false
open Go Go.RowKit Go.Shelf
attribute [local go_sem] Nat.add_assoc Nat.add_lt_add_iff_left lit_lt_add

set_option maxRecDepth 10000 in
set_option maxHeartbeats 1000000 in
theorem refBet_any (n : Int) (p : Option Addr) (N cap : Nat) (f : Nat → Int) (i lo : Int) (ls : Bool) (hi : Int) (hs op : Bool) (w : World) (hn : fits64 n) (hS : SlP w p N f) (hF : Fits N f) (hN : N ≤ 1000000) (hlo : fits64 lo) (hhi : fits64 hi) :
    Calls Try.prog 22 #[.agg #[.int .i64 n, .slice p N cap], .int .i64 i, .agg #[.int .i64 lo, .bool ls, .int .i64 hi, .bool hs, .bool op]] w (matC w (refBetM n N f i lo ls hi hs op).n (refBetM n N f i lo ls hi hs op).N (refBetM n N f i lo ls hi hs op).f (refBetM n N f i lo ls hi hs op).e) := by
  have MY := Lib.hid (fun (w' : World) (hb : Below w.heap.size w w') => refMay_any n p N cap f w' hn (hS.below hb) hF hN)
  have KI := Lib.hid (fun w' => refClock_any n i p N cap w')
  have MB := Lib.hid (fun w' => maySpan_any lo ls hi hs op w' hlo hhi)
  cases hok : okD n N f
  · have R : Hid (refBetM n N f i lo ls hi hs op = errM 8) := by show _ = _; rw [refBetM, hok]; rfl
    rw [R.out]
    rw [hok] at MY
    clear hok hS hF KI MB
    go_enter Try.func22, Try.ntmps22
    go_wp2_with (fail)
    refine (MY.out _ (by (repeat' (first | (with_reducible assumption) | (with_reducible exact Below.refl _ _) | (with_reducible refine below_wov ?_ ?_ _) | (with_reducible refine below_drewN ?_ _) | (with_reducible refine Below.drew ?_) | (with_reducible refine Below.alloc ?_ ?_ _) | (with_reducible refine Below.setCell ?_ ?_ _) | (with_reducible exact Nat.le_refl _) | omega | (simp only [World.size_alloc, World.size_setCell, World.size_drew, Wov_size, World.heap_drewN]; omega))))).mono ?_; rintro e w' ⟨rfl, q1, rfl⟩
    go_wp2
    go_returns
    exact matC_err rfl (by (repeat' (first | (with_reducible assumption) | (with_reducible exact Below.refl _ _) | (with_reducible refine below_wov ?_ ?_ _) | (with_reducible refine below_drewN ?_ _) | (with_reducible refine Below.drew ?_) | (with_reducible refine Below.alloc ?_ ?_ _) | (with_reducible refine Below.setCell ?_ ?_ _) | (with_reducible exact Nat.le_refl _) | omega | (simp only [World.size_alloc, World.size_setCell, World.size_drew, Wov_size, World.heap_drewN]; omega))))
  · rw [hok] at MY
    by_cases hi' : 0 ≤ i ∧ i < n
    · rw [decide_eq_true hi'] at KI
      cases hm : spanB lo hi hs op
      · have R : Hid (refBetM n N f i lo ls hi hs op = errM 8) := by show _ = _; rw [refBetM, hok, if_pos rfl, if_pos hi', hm]; rfl
        rw [R.out]
        rw [hm] at MB
        clear hok hS hF hi' hm
        go_enter Try.func22, Try.ntmps22
        go_wp2_with (fail)
        refine (MY.out _ (by (repeat' (first | (with_reducible assumption) | (with_reducible exact Below.refl _ _) | (with_reducible refine below_wov ?_ ?_ _) | (with_reducible refine below_drewN ?_ _) | (with_reducible refine Below.drew ?_) | (with_reducible refine Below.alloc ?_ ?_ _) | (with_reducible refine Below.setCell ?_ ?_ _) | (with_reducible exact Nat.le_refl _) | omega | (simp only [World.size_alloc, World.size_setCell, World.size_drew, Wov_size, World.heap_drewN]; omega))))).mono ?_; rintro e w' ⟨rfl, q1, rfl⟩
        go_wp2_with (fail)
        refine (KI.out _).mono ?_; rintro e w' ⟨rfl, q2, rfl⟩
        go_wp2_with (fail)
        refine (MB.out _).mono ?_; rintro e w' ⟨rfl, q3, rfl⟩
        go_wp2
        go_returns
        exact matC_err rfl (by (repeat' (first | (with_reducible assumption) | (with_reducible exact Below.refl _ _) | (with_reducible refine below_wov ?_ ?_ _) | (with_reducible refine below_drewN ?_ _) | (with_reducible refine Below.drew ?_) | (with_reducible refine Below.alloc ?_ ?_ _) | (with_reducible refine Below.setCell ?_ ?_ _) | (with_reducible exact Nat.le_refl _) | omega | (simp only [World.size_alloc, World.size_setCell, World.size_drew, Wov_size, World.heap_drewN]; omega))))
      · obtain ⟨m, rfl, rfl, hm0, hm4⟩ := okD_form hok
        obtain ⟨a, rfl⟩ : ∃ a : Nat, i = (a : Int) := ⟨i.toNat, by omega⟩
        refine refBet_in m (m * m) p cap f a lo ls hi hs op _ w rfl hok (by omega) hm hlo hhi ?_ hS hF
        rw [refBetM, hok, if_pos rfl, if_pos hi', hm, if_pos rfl]
        rfl
    · have R : Hid (refBetM n N f i lo ls hi hs op = errM 2) := by show _ = _; rw [refBetM, hok, if_pos rfl, if_neg hi']
      rw [R.out]
      rw [decide_eq_false hi'] at KI
      clear hok hS hF hi' MB
      go_enter Try.func22, Try.ntmps22
      go_wp2_with (fail)
      refine (MY.out _ (by (repeat' (first | (with_reducible assumption) | (with_reducible exact Below.refl _ _) | (with_reducible refine below_wov ?_ ?_ _) | (with_reducible refine below_drewN ?_ _) | (with_reducible refine Below.drew ?_) | (with_reducible refine Below.alloc ?_ ?_ _) | (with_reducible refine Below.setCell ?_ ?_ _) | (with_reducible exact Nat.le_refl _) | omega | (simp only [World.size_alloc, World.size_setCell, World.size_drew, Wov_size, World.heap_drewN]; omega))))).mono ?_; rintro e w' ⟨rfl, q1, rfl⟩
      go_wp2_with (fail)
      refine (KI.out _).mono ?_; rintro e w' ⟨rfl, q2, rfl⟩
      go_wp2
      go_returns
      exact matC_err rfl (by (repeat' (first | (with_reducible assumption) | (with_reducible exact Below.refl _ _) | (with_reducible refine below_wov ?_ ?_ _) | (with_reducible refine below_drewN ?_ _) | (with_reducible refine Below.drew ?_) | (with_reducible refine Below.alloc ?_ ?_ _) | (with_reducible refine Below.setCell ?_ ?_ _) | (with_reducible exact Nat.le_refl _) | omega | (simp only [World.size_alloc, World.size_setCell, World.size_drew, Wov_size, World.heap_drewN]; omega))))
#print axioms refBet_any
end Go.Proofs.Ytggjkibhffglbaa
