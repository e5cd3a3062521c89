/- Contract of dbm.Close. No condition but on the count of bounds, and that numbers are of their kind. -/
import Derived.Test.YtlcbpckinjkfeaaD8
namespace Go.Proofs.Ytlcbpckinjkfeaa
set_option linter.unusedSimpArgs false
set_option linter.unusedVariables false
open Go Go.RowKit Go.Shelf
attribute [local go_sem] Nat.add_assoc Nat.add_lt_add_iff_left lit_lt_add

/-- The diagonal: each must let 0 be; then it is 0. -/
def diagLoop (n : Nat) (f : Nat → Int) : Nat → Option (Nat → Int)
  | 0 => some f
  | t + 1 => match diagLoop n f t with
    | none => none
    | some g => if 1 ≤ g (t * n + t) then some (upd g (t * n + t) 1) else none
/-- The rounds by the first clocks. -/
def roundsI (n : Nat) (f : Nat → Int) : Nat → Option (Nat → Int)
  | 0 => some f
  | k + 1 => match roundsI n f k with
    | none => none
    | some a => if diagB n ((pairsAll n).foldl (stepP n k) a) then some ((pairsAll n).foldl (stepP n k) a) else none
def closeI (n : Nat) (f : Nat → Int) : Option (Nat → Int) := match diagLoop n f n with
  | none => none
  | some g => roundsI n g n
/-- The closed one, or the error. -/
def closeR (n : Int) (N : Nat) (f : Nat → Int) : Option (Nat → Int) × Int :=
  if okD n N f then (match closeI n.toNat f with
    | none => (none, 6)
    | some c => (some c, 0)) else (none, 8)
/-- A matrix as a result, or none. -/
def MatR (w : World) (n : Int) (N : Nat) (r : Option (Nat → Int) × Int) (e : Ending) (W : World) : Prop :=
  match r.1 with
  | none => e = .returned (.tuple #[.agg #[.int .i64 0, .slice none 0 0], .int .i64 r.2])
  | some c => ∃ B cap, e = .returned (.tuple #[.agg #[.int .i64 n, .slice (some ⟨B, 0, none⟩) N cap], .int .i64 r.2]) ∧ w.heap.size ≤ B ∧ B < W.heap.size ∧ HoldsI W B N c
def closePost (w : World) (n : Int) (N : Nat) (r : Option (Nat → Int) × Int) (e : Ending) (W : World) : Prop := MatR w n N r e W ∧ ∃ q, W = Wov w q

theorem diagLoop_stop {n : Nat} {f : Nat → Int} {t : Nat} (ht : diagLoop n f t = none) : ∀ d, diagLoop n f (t + d) = none
  | 0 => ht
  | d + 1 => by show (match diagLoop n f (t + d) with | none => none | some g => _) = none; rw [diagLoop_stop ht d]
theorem roundsI_stop {n : Nat} {f : Nat → Int} {t : Nat} (ht : roundsI n f t = none) : ∀ d, roundsI n f (t + d) = none
  | 0 => ht
  | d + 1 => by show (match roundsI n f (t + d) with | none => none | some a => _) = none; rw [roundsI_stop ht d]
theorem closeI_diag {n : Nat} {f g : Nat → Int} {t : Nat} (ht : t < n) (hg : diagLoop n f t = some g) (hv : g (t * n + t) < 1) : closeI n f = none := by
  have h1 : diagLoop n f (t + 1) = none := by
    show (match diagLoop n f t with | none => none | some g => _) = none
    rw [hg]
    exact if_neg (by omega)
  have h2 := diagLoop_stop h1 (n - (t + 1))
  rw [show t + 1 + (n - (t + 1)) = n by omega] at h2
  unfold closeI; rw [h2]
theorem closeI_round {n : Nat} {f g a : Nat → Int} {k : Nat} (hk : k < n) (hg : diagLoop n f n = some g) (ha : roundsI n g k = some a) (hv : diagB n ((pairsAll n).foldl (stepP n k) a) = false) : closeI n f = none := by
  have h1 : roundsI n g (k + 1) = none := by
    show (match roundsI n g k with | none => none | some a => _) = none
    rw [ha]
    simp [hv]
  have h2 := roundsI_stop h1 (n - (k + 1))
  rw [show k + 1 + (n - (k + 1)) = n by omega] at h2
  unfold closeI; rw [hg]; exact h2
theorem Fits.diag {n : Nat} {f : Nat → Int} (h : Fits (n * n) f) : ∀ t g, diagLoop n f t = some g → Fits (n * n) g
  | 0, g, e => by cases e; exact h
  | t + 1, g, e => by
    unfold diagLoop at e
    split at e
    · cases e
    · rename_i b hb
      split at e
      · cases e
        intro x hx
        unfold upd
        split
        · unfold fits64; omega
        · exact h.diag t b hb x hx
      · cases e
theorem Fits.fold {n k N : Nat} : ∀ (l : List (PairC n)) (f : Nat → Int), Fits N f → Fits N (l.foldl (stepP n k) f)
  | [], f, h => h
  | x :: l, f, h => Fits.fold l _ (h.step x)
theorem Fits.rounds {n : Nat} {f : Nat → Int} (h : Fits (n * n) f) : ∀ t g, roundsI n f t = some g → Fits (n * n) g
  | 0, g, e => by cases e; exact h
  | t + 1, g, e => by
    unfold roundsI at e
    split at e
    · cases e
    · rename_i b hb
      split at e
      · cases e
        exact Fits.fold _ _ (h.rounds t b hb)
      · cases e

theorem Chg.belowAt {W V : World} {B k : Nat} (h : Chg W B V) (hB : k ≤ B) (hk : k ≤ W.heap.size) : Below k W V := ⟨h.os, h.tape, h.output, h.size, fun j hj => h.block j (by omega) (by omega)⟩

set_option maxRecDepth 10000 in
set_option maxHeartbeats 4000000 in
theorem close_ok (n : Nat) (p : Option Addr) (cap : Nat) (f : Nat → Int) (w : World) (hS : InS w p (n * n) cap f) (hF : Fits (n * n) f) (hok : okD n (n * n) f = true) (hn0 : 1 ≤ n) (hn : n ≤ 4) :
    Calls Try.prog 29 #[.agg #[.int .i64 n, .slice p (n * n) cap]] w (closePost w n (n * n) (closeR n (n * n) f)) := by
  have hq0 : n * n ≤ 4 * 4 := Nat.mul_le_mul hn hn
  have hq1 : 1 * 1 ≤ n * n := Nat.mul_le_mul hn0 hn0
  have later : ∀ w', Below w.heap.size w w' → InS w' p (n * n) cap f := fun w' hb => by
    rcases hS with h | ⟨h0, B, off, h1, h2, h3⟩
    · exact .inl h
    · exact .inr ⟨h0, B, off, h1, Nat.lt_of_lt_of_le h2 hb.size, fun x hx => (hb.cell (p := ⟨B, off + x, none⟩) h2).trans (h3 x hx)⟩
  have CK : Hid (∀ w', Below w.heap.size w w' → Calls Try.prog 35 #[.agg #[.int .i64 n, .slice p (n * n) cap]] w' (Gives w' (.int .i64 0))) := fun w' hb => by
    have := dbmCheck_any n p (n * n) cap f w' (by unfold fits64; omega) (later w' hb).slp hF (by omega)
    rwa [hok] at this
  have TW : Hid (∀ w', Below w.heap.size w w' → Calls Try.prog 33 #[.agg #[.int .i64 n, .slice p (n * n) cap]] w' (twinPost w' n (n * n) f)) := fun w' hb => twin_any n p (n * n) cap f w' (by omega) (later w' hb)
  have R : Hid (closeR n (n * n) f = match closeI n f with | none => (none, 6) | some c => (some c, 0)) := by
    show _ = _
    simp only [closeR, hok]
    rfl
  clear hok hS later
  go_enter Try.func29, Try.ntmps29
  go_wp2_with (fail)
  refine (CK.out _ (by (repeat' (first | (with_reducible assumption) | (with_reducible exact Below.refl _ _) | (with_reducible refine below_wov ?_ ?_ _) | (with_reducible refine below_drewN ?_ _) | (with_reducible refine Below.drew ?_) | (with_reducible refine Below.alloc ?_ ?_ _) | (with_reducible refine Below.setCell ?_ ?_ _) | (with_reducible exact Nat.le_refl _) | omega | (simp only [World.size_alloc, World.size_setCell, World.size_drew, Wov_size, World.heap_drewN]; omega))))).mono ?_; rintro e w' ⟨rfl, p1, rfl⟩
  go_wp2_with (fail)
  refine (TW.out _ (by (repeat' (first | (with_reducible assumption) | (with_reducible exact Below.refl _ _) | (with_reducible refine below_wov ?_ ?_ _) | (with_reducible refine below_drewN ?_ _) | (with_reducible refine Below.drew ?_) | (with_reducible refine Below.alloc ?_ ?_ _) | (with_reducible refine Below.setCell ?_ ?_ _) | (with_reducible exact Nat.le_refl _) | omega | (simp only [World.size_alloc, World.size_setCell, World.size_drew, Wov_size, World.heap_drewN]; omega))))).mono ?_; rintro e w' ⟨p2, cap2, rfl, ho, p3, rfl⟩
  rcases ho with ⟨h, _⟩ | ⟨B, c, h1, hB1, hB2, hH⟩
  · omega
  simp only [Value.slice.injEq] at h1
  obtain ⟨rfl, _, rfl⟩ := h1
  go_wp2_with (fail)
  simp only [World.size_alloc, Wov_size] at hB1 hB2
  have hbw : w.heap.size + 2 ≤ B := by omega
  obtain ⟨M, hM⟩ : ∃ M, w.heap.size + (2 + (p1.bl.size + p3.bl.size)) = M := ⟨_, rfl⟩
  have hMB : B < M := by omega
  rw [hM]
  refine wp_world (fun W => Below w.heap.size w W ∧ M < W.heap.size ∧ HoldsI W B (n * n) f ∧ W.cell? ⟨M, 0, none⟩ = some (.int .i64 n) ∧ W.cell? ⟨M, 1, none⟩ = some (.slice (some ⟨B, 0, none⟩) (n * n) cap2) ∧ W.cell? ⟨w.heap.size + 1, 0, none⟩ = some (.int .i64 0) ∧ W.cell? ⟨w.heap.size + 1, 1, none⟩ = some (.slice none 0 0) ∧ W.frozen? ⟨w.heap.size + 1, 0, none⟩ = false ∧ W.frozen? ⟨w.heap.size + 1, 1, none⟩ = false)
    ⟨by (repeat' (first | (with_reducible assumption) | (with_reducible exact Below.refl _ _) | (with_reducible refine below_wov ?_ ?_ _) | (with_reducible refine below_drewN ?_ _) | (with_reducible refine Below.drew ?_) | (with_reducible refine Below.alloc ?_ ?_ _) | (with_reducible refine Below.setCell ?_ ?_ _) | (with_reducible exact Nat.le_refl _) | omega | (simp only [World.size_alloc, World.size_setCell, World.size_drew, Wov_size, World.heap_drewN]; omega))), by simp only [World.size_alloc, Wov_size, Array.size_append]; omega, ?_, ?_, ?_, by simp [go_sem], by simp [go_sem], by simp [go_sem], by simp [go_sem]⟩ ?_
  · rw [Wov_Wov] at hH
    exact hH.below ((Below.refl _ _).alloc (Nat.le_refl _) _) (by simp only [World.size_alloc, Wov_size, Array.size_append]; omega)
  · rw [← hM]; simp [go_sem]
  · rw [← hM]; simp [go_sem]
  rintro W ⟨hB, hMW, hHW, m0, m1, r0, r1, s0, s1⟩
  have HM := Lib.hid hM
  clear hH hB1 hB2 hM CK TW
  have hMne : M ≠ B := by omega
  have hRB : w.heap.size + 1 ≠ B := by omega
  have hRW : w.heap.size + 1 < W.heap.size := by omega
  have DN : ∀ wr m, Chg W B wr → Chg W B (wr.drewN m) := fun wr m h => h.trans (Chg.drewN _ _ _)
  have HDN := Lib.hid DN
  clear DN
  go_loopw [6, 23] (fun _ i wr => ∃ (t : Nat) (g : Nat → Int), t ≤ n ∧ i = .int .i64 t ∧ Hid (diagLoop n f t = some g) ∧ Chg W B wr ∧ HoldsI wr B (n * n) g)
    (fun _ i _ => n - (intOf i).toNat)
  case atStart => exact ⟨0, f, Nat.zero_le _, rfl, rfl, Chg.refl _ _, hHW⟩
  case round =>
    obtain ⟨t, g, ht, rfl, hd, hc, hH⟩ := hrel
    have c0 := (hc.cell (x := 0) hMW hMne).trans m0
    have c1 := (hc.cell (x := 1) hMW hMne).trans m1
    have y0 := (hc.cell (x := 0) hRW hRB).trans r0
    have y1 := (hc.cell (x := 1) hRW hRB).trans r1
    have y2 := (hc.frozen (x := 0) hRW hRB).trans s0
    have y3 := (hc.frozen (x := 1) hRW hRB).trans s1
    by_cases hlt : t < n
    · have pt := place_lt hlt hlt
      have ct := (hH (t * n + t) pt).1
      have cf := (hH (t * n + t) pt).2
      have AT : Hid (∀ m, Calls Try.prog 85 #[.pointer (some ⟨M, 0, none⟩), .int .i64 t, .int .i64 t] (wr.drewN m) fun e w' => e = .returned (.pointer (some ⟨B, t * n + t, none⟩)) ∧ ∃ m, w' = wr.drewN m) := fun m =>
        (at_any M B n t t (n * n) cap2 (wr.drewN m) hn (by omega) (by omega) pt (by omega) (by rw [World.cell?_drewN]; exact c0) (by rw [World.cell?_drewN]; exact c1)).mono fun e w' ⟨he, k, hk⟩ => ⟨he, _, hk.trans (World.drewN_drewN _ _ _)⟩
      obtain ⟨v, hv⟩ : ∃ v, v = g (t * n + t) := ⟨_, rfl⟩
      rw [← hv] at ct
      by_cases hv1 : v < 1
      · have R1 : Hid (closeR n (n * n) f = (none, 6)) := by
          show _ = _
          rw [R.out, closeI_diag hlt hd.out (by rw [← hv]; exact hv1)]
        clear R m0 m1 r0 r1 s0 s1 hv hHW
        go_wp2_with (fail)
        refine (AT.out 0).mono ?_; rintro e w' ⟨rfl, m, rfl⟩
        go_wp2
        refine bodyPost_ret (by simp [results, Try.results29, go_sem, y0, y1]; try rfl) rfl ?_
        refine ⟨?_, Wov_of_below ?_⟩
        · rw [R1.out]; rfl
        · exact hB.trans (((((HDN.out _ m hc).belowAt (by omega) hB.size).setCell (p := ⟨w.heap.size + 1, 0, none⟩) (by simp) _)).setCell (p := ⟨w.heap.size + 1, 1, none⟩) (by simp) _)
      · have hd' : Hid (diagLoop n f (t + 1) = some (upd g (t * n + t) 1)) := by
          show (match diagLoop n f t with | none => none | some g => _) = _
          rw [hd.out]
          exact if_pos (by omega)
        clear R m0 m1 r0 r1 s0 s1 hv hHW
        have hv2 : 1 ≤ v := by omega
        go_wp2_with (fail)
        refine (AT.out 0).mono ?_; rintro e w' ⟨rfl, m, rfl⟩
        go_wp2_with (fail)
        refine (AT.out m).mono ?_; rintro e w' ⟨rfl, m2, rfl⟩
        go_wp2
        go_roundw
        case rel => exact ⟨t + 1, _, hlt, by go_num, hd', (HDN.out _ _ hc).trans (Chg.set _ _ _ _), (hH.of_block rfl).set pt 1⟩
        case measure => simp [intOf]; omega
    · have e : t = n := by omega
      subst e
      clear c0 c1 y0 y1 y2 y3 ht hlt hHW
      have d0 := (hc.cell (x := 0) hMW hMne).trans m0
      go_wp2
      go_loopw [7, 45] (fun _ i wr => ∃ (k : Nat) (a : Nat → Int), k ≤ t ∧ i = .int .i64 k ∧ Hid (roundsI t g k = some a) ∧ Chg W B wr ∧ HoldsI wr B (t * t) a)
        (fun _ i _ => t - (intOf i).toNat)
      case atStart => exact ⟨0, g, Nat.zero_le _, rfl, rfl, hc, hH⟩
      case round =>
        clear hH hc d0
        obtain ⟨k, a, hk, rfl, ha, hc, hH⟩ := hrel
        have c0 := (hc.cell (x := 0) hMW hMne).trans m0
        have c1 := (hc.cell (x := 1) hMW hMne).trans m1
        have y0 := (hc.cell (x := 0) hRW hRB).trans r0
        have y1 := (hc.cell (x := 1) hRW hRB).trans r1
        have y2 := (hc.frozen (x := 0) hRW hRB).trans s0
        have y3 := (hc.frozen (x := 1) hRW hRB).trans s1
        have hsz := hc.size
        have hBb := hH.block_lt (by omega)
        by_cases hlt : k < t
        · have Fa : Fits (t * t) a := Fits.rounds (Fits.diag hF t g hd.out) k a ha.out
          have TH := Lib.hid (through_any M B t k cap2 a wr hn0 hn hlt (by omega) hMne hBb c0 c1 hH Fa)
          clear Fa hH
          obtain ⟨b, hb⟩ : ∃ b, b = diagB t ((pairsAll t).foldl (stepP t k) a) := ⟨_, rfl⟩
          rw [← hb] at TH
          have HB := Lib.hid hb
          clear hb
          go_wp2_with (fail)
          refine TH.out.mono ?_; rintro e W2 ⟨rfl, hc2, hH2⟩
          have e0 := (hc2.cell (x := 0) (b := w.heap.size + 1) (by omega) hRB).trans y0
          have e1 := (hc2.cell (x := 1) (b := w.heap.size + 1) (by omega) hRB).trans y1
          have e2 := (hc2.frozen (x := 0) (b := w.heap.size + 1) (by omega) hRB).trans y2
          have e3 := (hc2.frozen (x := 1) (b := w.heap.size + 1) (by omega) hRB).trans y3
          have hc3 := hc.trans hc2
          clear hc2 y0 y1 y2 y3 c0 c1 m0 m1 r0 r1 s0 s1
          cases b
          · have R1 : Hid (closeR t (t * t) f = (none, 6)) := by
              show _ = _
              rw [R.out, closeI_round hlt hd.out ha.out HB.out.symm]
            clear R HB hd ha
            go_wp2
            refine bodyPost_ret (by simp [results, Try.results29, go_sem, e0, e1]; try rfl) rfl ?_
            refine ⟨?_, Wov_of_below ?_⟩
            · rw [R1.out]; rfl
            · exact hB.trans (((hc3.belowAt (by omega) hB.size).setCell (p := ⟨w.heap.size + 1, 0, none⟩) (by simp) _).setCell (p := ⟨w.heap.size + 1, 1, none⟩) (by simp) _)
          · have ha2 : Hid (roundsI t g (k + 1) = some ((pairsAll t).foldl (stepP t k) a)) := by
              show (match roundsI t g k with | none => none | some a => _) = _
              rw [ha.out]
              simp only []
              rw [← HB.out]; rfl
            go_wp2
            go_roundw
            case rel => exact ⟨k + 1, _, hlt, by go_num, ha2, hc3, hH2⟩
            case measure => simp [intOf]; omega
        · have e : k = t := by omega
          subst e
          have R1 : Hid (closeR k (k * k) f = (some a, 0)) := by
            show _ = _
            rw [R.out, closeI, hd.out]
            simp only []
            rw [ha.out]
          clear R hd ha
          go_wp2
          refine bodyPost_ret (by simp [results, Try.results29, go_sem, y0, y1]; try rfl) rfl ?_
          refine ⟨?_, Wov_of_below ?_⟩
          · rw [R1.out]
            refine ⟨B, cap2, rfl, by omega, by simp [World.setCell]; omega, ?_⟩
            exact hH.of_block (((Chg.set wr (w.heap.size + 1) 0 _).trans (Chg.set _ (w.heap.size + 1) 1 _)).block B hBb (by omega))
          · exact hB.trans (((hc.belowAt (by omega) hB.size).setCell (p := ⟨w.heap.size + 1, 0, none⟩) (by simp) _).setCell (p := ⟨w.heap.size + 1, 1, none⟩) (by simp) _)

set_option maxRecDepth 10000 in
set_option maxHeartbeats 1000000 in
theorem close_bad (n : Int) (p : Option Addr) (N cap : Nat) (f : Nat → Int) (w : World) (hn : fits64 n) (hS : SlP w p N f) (hF : Fits N f) (hN : N ≤ 1000000) (hok : okD n N f = false) :
    Calls Try.prog 29 #[.agg #[.int .i64 n, .slice p N cap]] w (closePost w n N (closeR n N f)) := by
  have CK : Hid (∀ w', Below w.heap.size w w' → Calls Try.prog 35 #[.agg #[.int .i64 n, .slice p N cap]] w' (Gives w' (.int .i64 8))) := fun w' hb => by
    have := dbmCheck_any n p N cap f w' hn (hS.below hb) hF (by omega)
    rwa [hok] at this
  have R : Hid (closeR n N f = (none, 8)) := by
    show _ = _
    simp only [closeR, hok]
    rfl
  clear hok hS hF hN hn
  go_enter Try.func29, Try.ntmps29
  go_wp2_with (fail)
  refine (CK.out _ (by (repeat' (first | (with_reducible assumption) | (with_reducible exact Below.refl _ _) | (with_reducible refine below_wov ?_ ?_ _) | (with_reducible refine below_drewN ?_ _) | (with_reducible refine Below.drew ?_) | (with_reducible refine Below.alloc ?_ ?_ _) | (with_reducible refine Below.setCell ?_ ?_ _) | (with_reducible exact Nat.le_refl _) | omega | (simp only [World.size_alloc, World.size_setCell, World.size_drew, Wov_size, World.heap_drewN]; omega))))).mono ?_; rintro e w' ⟨rfl, p1, rfl⟩
  go_wp2
  go_returns
  refine ⟨?_, Wov_of_below (by (repeat' (first | (with_reducible assumption) | (with_reducible exact Below.refl _ _) | (with_reducible refine below_wov ?_ ?_ _) | (with_reducible refine below_drewN ?_ _) | (with_reducible refine Below.drew ?_) | (with_reducible refine Below.alloc ?_ ?_ _) | (with_reducible refine Below.setCell ?_ ?_ _) | (with_reducible exact Nat.le_refl _) | omega | (simp only [World.size_alloc, World.size_setCell, World.size_drew, Wov_size, World.heap_drewN]; omega))))⟩
  rw [R.out]; rfl

/-- Close, of every matrix. -/
theorem close_any (n : Int) (p : Option Addr) (N cap : Nat) (f : Nat → Int) (w : World) (hn : fits64 n) (hS : SlP w p N f) (hF : Fits N f) (hN : N ≤ 1000000) :
    Calls Try.prog 29 #[.agg #[.int .i64 n, .slice p N cap]] w (closePost w n N (closeR n N f)) := by
  cases hok : okD n N f
  · exact close_bad n p N cap f w hn hS hF hN hok
  · have h := hok
    simp only [okD, Bool.and_eq_true, decide_eq_true_eq] at h
    obtain ⟨h1, h2, h3, _⟩ := h
    obtain ⟨m, rfl⟩ : ∃ m : Nat, n = (m : Int) := ⟨n.toNat, by omega⟩
    have e : N = m * m := by exact_mod_cast h3
    subst e
    have hq1 : 1 * 1 ≤ m * m := Nat.mul_le_mul (by omega) (by omega)
    refine close_ok m p cap f w (.inr ⟨by omega, ?_⟩) hF hok (by omega) (by omega)
    rcases hS with h | h
    · omega
    · exact h
#print axioms close_any
end Go.Proofs.Ytlcbpckinjkfeaa
