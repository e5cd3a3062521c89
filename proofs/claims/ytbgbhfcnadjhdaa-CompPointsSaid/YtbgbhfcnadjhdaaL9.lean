/- Contract of proj.Drop. No condition but that the matrix may be, and the clock is one of its own but 0. -/
import Derived.Test.YtbgbhfcnadjhdaaL8
namespace Go.Proofs.Ytbgbhfcnadjhdaa
set_option linter.unusedSimpArgs false
set_option linter.unusedVariables false
open Go Go.RowKit Go.Shelf
attribute [local go_sem] Nat.add_assoc Nat.add_lt_add_iff_left lit_lt_add

theorem infoI : (Try.prog.info? 3).map (fun i => (i.zero, i.size, i.bytes)) = some (some (.int .i64 0), 1, 8) := by kernel_rfl
/-- The numbers below t lie in a row of the call's own, the row in box X. -/
structure LeftI (X0 : World) (X t : Nat) (W : World) : Prop where
  chg : Chg X0 X W
  fr : W.frozen? ⟨X, 0, none⟩ = false
  row : ∃ v, W.cell? ⟨X, 0, none⟩ = some v ∧ W.ownsRow X0.heap.size 3 1 v t (cellsI t (fun i => (i : Int)))
theorem LeftI.step {X0 W w1 : World} {X t : Nat} {v v' : Value} {tmp : Obj} (h : LeftI X0 X t W) (hX : X < X0.heap.size) (hv : W.cell? ⟨X, 0, none⟩ = some v) (hrow : W.ownsRow X0.heap.size 3 1 v t (cellsI t (fun i => (i : Int))))
    (hown : w1.ownsRow X0.heap.size 3 1 v' (t + 1) (cellsI t (fun i => (i : Int)) ++ [.int .i64 t])) (hgrow : (W.alloc tmp).grownBy w1 v.ownBlock) : LeftI X0 X (t + 1) (w1.setCell ⟨X, 0, none⟩ v') := by
  have hb : Below X0.heap.size W w1 := ((Below.refl X0.heap.size W).alloc h.chg.size tmp).grown hgrow (by have := h.chg.size; simp; omega) (fun j ej => by
    rcases hrow.2 with ⟨rfl, _⟩ | ⟨g, cap, cur, rfl, hg, _⟩
    · simp [Value.ownBlock] at ej
    · obtain rfl : g = j := by simpa [Value.ownBlock] using ej
      exact hg)
  have c1 := (hb.cell (p := ⟨X, 0, none⟩) hX).trans hv
  refine ⟨?_, ?_, v', ?_, ?_⟩
  · have hc : Chg X0 X w1 := ⟨hb.os.trans h.chg.os, hb.tape.trans h.chg.tape, hb.output.trans h.chg.output, Nat.le_trans h.chg.size hb.size, fun b hb1 hb2 => (hb.block b hb1).trans (h.chg.block b hb1 hb2)⟩
    exact hc.trans (Chg.set _ _ _ _)
  · rw [World.frozen?_setCell]; exact (hb.frozen (p := ⟨X, 0, none⟩) hX).trans h.fr
  · rw [setCell_cell_self, c1]; rfl
  · rw [cellsI_succ]; exact row_set hown hX
theorem holds_of_row2 {W : World} {base e N : Nat} {v : Value} {f : Nat → Int} (h0 : 0 < N) (h : W.ownsRow base e 1 v N (cellsI N f)) : ∃ B cap, v = .slice (some ⟨B, 0, none⟩) N cap ∧ base ≤ B ∧ B < W.heap.size ∧ N ≤ cap ∧ cap ≤ 9223372036854775807 ∧ HoldsI W B N f := by
  have h' := h
  obtain ⟨_, ⟨_, hn⟩ | ⟨g, cap, cur, rfl, hb, hg, h1, h2, h3, h4⟩⟩ := h
  · omega
  · obtain ⟨B, c2, e1, h5, h6, h7⟩ := holds_of_row h0 h'
    cases e1
    unfold maxLen at h2
    exact ⟨g, cap, rfl, h5, h6, h1, h2, h7⟩
theorem BoxM.chg {W V : World} {A B P o : Nat} {n : Int} {N cap : Nat} {f : Nat → Int} (h : BoxM W A n (some ⟨P, o, none⟩) N cap f) (hc : Chg W B V) (hA : A ≠ B) (hP : P ≠ B) : BoxM V A n (some ⟨P, o, none⟩) N cap f := by
  refine ⟨Nat.lt_of_lt_of_le h.lt hc.size, (hc.cell h.lt hA).trans h.c0, (hc.cell h.lt hA).trans h.c1, ?_⟩
  rcases h.sl with h0 | ⟨A', o', e, l, hv⟩
  · exact .inl h0
  · cases e
    exact .inr ⟨P, o, rfl, Nat.lt_of_lt_of_le l hc.size, fun x hx => (hc.cell l hP).trans (hv x hx)⟩
theorem ResM.chg {W V : World} {R B : Nat} (h : ResM W R) (hc : Chg W B V) (hR : R ≠ B) : ResM V R :=
  ⟨Nat.lt_of_lt_of_le h.lt hc.size, (hc.cell h.lt hR).trans h.c0, (hc.cell h.lt hR).trans h.c1, (hc.frozen h.lt hR).trans h.z0, (hc.frozen h.lt hR).trans h.z1⟩
/-- A matrix without clock k, or the error. -/
def dropM (n k : Nat) (f : Nat → Int) : MR := if (closeM n (n * n) f).e = 0 then ⟨((n - 1 : Nat) : Int), (n - 1) * (n - 1), fromG n (n - 1) (skip k) (closeM n (n * n) f).f, 0⟩ else errM (closeM n (n * n) f).e

set_option maxRecDepth 10000 in
set_option maxHeartbeats 4000000 in
theorem pdrop_any (n k N : Nat) (p : Option Addr) (cap : Nat) (f : Nat → Int) (w : World) (hN : N = n * n) (hn : n ≤ 4) (hk0 : 1 ≤ k) (hk : k < n) (hok : okD n (n * n) f = true) (hS : SlP w p N f) :
    Calls Try.prog 52 #[.agg #[.int .i64 n, .slice p N cap], .int .i64 k] w (matC w (dropM n k f).n (dropM n k f).N (dropM n k f).f (dropM n k f).e) := by
  have hnn4 : n * n ≤ 4 * 4 := Nat.mul_le_mul hn hn
  have hnn : 1 * 1 ≤ n * n := Nat.mul_le_mul (show 1 ≤ n by omega) (show 1 ≤ n by omega)
  have hF : Fits N f := fun x hx => mayB_fits (okD_may hok x (by rw [← hN]; exact hx))
  have CK : Hid (∀ w', Below w.heap.size w w' → Calls Try.prog 75 #[.agg #[.int .i64 n, .slice p N cap]] w' (Gives w' (.int .i64 0))) := fun w' hb => by
    have := dbmCheck_any n p N cap f w' (by unfold fits64; omega) (hS.below hb) hF (by omega)
    rw [hN, hok] at this
    rw [hN]; exact this
  have CL0 := fun w' (hb : Below w.heap.size w w') => closeM_any n p N cap f w' (by unfold fits64; omega) (hS.below hb) hF (by omega)
  have k1 : ¬ (k : Int) < 1 := by omega
  have k2 : (1 : Int) ≤ (k : Int) := by omega
  rcases closeM_cases hok with ⟨c, hc, K⟩ | ⟨hc, _⟩
  · have hD : dropM n k f = ⟨((n - 1 : Nat) : Int), (n - 1) * (n - 1), fromG n (n - 1) (skip k) c, 0⟩ := by unfold dropM; rw [hc]; rfl
    rw [hD]
    have CL : Hid (∀ w', Below w.heap.size w w' → Calls Try.prog 76 #[.agg #[.int .i64 n, .slice p N cap]] w' (matC w' n N c 0)) := fun w' hb => by
      have := CL0 w' hb
      rw [hN] at this ⊢
      rw [hc] at this; exact this
    have MD : Hid (∀ (A L B cl cap : Nat) (p : Option Addr) (w : World), w.cell? ⟨A, 0, none⟩ = some (.slice (some ⟨L, 0, none⟩) (n - 1) cl) → w.cell? ⟨B, 0, none⟩ = some (.int .i64 n) → HoldsI w L (n - 1) (fun i => (skip k i : Nat)) → SlP w p N c → Calls Try.prog 98 #[.agg #[.int .i64 n, .slice p N cap], .int .i64 ((n - 1 : Nat) : Int), .func (.func 99) #[] #[.pointer (some ⟨A, 0, none⟩), .pointer (some ⟨B, 0, none⟩)]] w (rowPost w (n - 1) ((n - 1) * (n - 1)) (fromG n (n - 1) (skip k) c))) := fun A L B cl cap p w hA hB hL hS => pmade_any n (n - 1) N A L B cl cap p c (skip k) w hN hA hB hL (fun i hi => skip_lt hk hi) hn (by omega) (by omega) hS
    have DL0 : Hid (∀ (B cap : Nat) (w : World), HoldsI w B n (fun i => (i : Int)) → n ≤ cap → cap ≤ 9223372036854775807 → Calls Try.prog 97 #[.slice (some ⟨B, 0, none⟩) n cap, .int .i64 k, .int .i64 ((k : Int) + 1)] w (fun e W => e = .returned (.slice (some ⟨B, 0, none⟩) (n - 1) cap) ∧ Chg w B W ∧ HoldsI W B (n - 1) (fun i => (skip k i : Nat)))) := fun B cap w h1 h2 h3 => delete_HI B cap n k (fun i => (i : Int)) w h1 h2 h3 hk
    obtain ⟨n1, hn1⟩ : ∃ n1, n1 = n - 1 := ⟨_, rfl⟩
    rw [← hn1] at MD DL0 ⊢
    obtain ⟨N1, hN1'⟩ : ∃ N1, N1 = n1 * n1 := ⟨_, rfl⟩
    rw [← hN1'] at MD ⊢
    have b1 : 1 ≤ n1 := by omega
    obtain ⟨G, hG⟩ : ∃ G, G = fromG n n1 (skip k) c := ⟨_, rfl⟩
    rw [← hG] at MD ⊢
    clear hn1 hN1' hG
    obtain ⟨i0, hi, hz0, hz1, hz2⟩ := info_parts infoI
    have HI := Lib.hid hi
    have HZ := Lib.hid hz0
    have H1 := Lib.hid hz1
    have H2 := Lib.hid hz2
    have wk : IntKind.i64.wrap ((k : Int) + 1) = (k : Int) + 1 := by rw [IntKind.wrap_i64]; omega
    have HN := Lib.hid hN
    have hN16 : N ≤ 16 := by omega
    have hN1 : 1 ≤ N := by omega
    clear hi hz0 hz1 hz2 hc K hD hF hok CL0 hN hS
    go_enter Try.func52, Try.ntmps52
    go_wp2_with (fail)
    refine (CK.out _ (by (repeat' (first | (with_reducible assumption) | (with_reducible exact Below.refl _ _) | (with_reducible refine below_wov ?_ ?_ _) | (with_reducible refine below_drewN ?_ _) | (with_reducible refine Below.drew ?_) | (with_reducible refine Below.alloc ?_ ?_ _) | (with_reducible refine Below.setCell ?_ ?_ _) | (with_reducible exact Nat.le_refl _) | omega | (simp only [World.size_alloc, World.size_setCell, World.size_drew, Wov_size, World.heap_drewN]; omega))))).mono ?_; rintro e w' ⟨rfl, q1, rfl⟩
    go_wp2_with (fail)
    refine (CL.out _ (by (repeat' (first | (with_reducible assumption) | (with_reducible exact Below.refl _ _) | (with_reducible refine below_wov ?_ ?_ _) | (with_reducible refine below_drewN ?_ _) | (with_reducible refine Below.drew ?_) | (with_reducible refine Below.alloc ?_ ?_ _) | (with_reducible refine Below.setCell ?_ ?_ _) | (with_reducible exact Nat.le_refl _) | omega | (simp only [World.size_alloc, World.size_setCell, World.size_drew, Wov_size, World.heap_drewN]; omega))))).mono ?_; rintro e w' ⟨⟨p3, c3, rfl, ho⟩, q3, rfl⟩
    obtain ⟨B3, rfl, hA3, hB3, hH3⟩ := ho.resolve_left (by omega)
    have t3 := slp_of hH3 hB3
    clear ho CK CL hA3 hH3
    simp only [Wov_size, World.size_alloc] at hB3
    go_wp2
    obtain ⟨A, hA⟩ : ∃ A, w.heap.size + (2 + (q1.bl.size + q3.bl.size)) = A := ⟨_, rfl⟩
    obtain ⟨X, hX⟩ : ∃ X, w.heap.size + (2 + (q1.bl.size + (q3.bl.size + 1))) = X := ⟨_, rfl⟩
    rw [hA, hX]
    refine wp_world (fun W => Below w.heap.size w W ∧ BoxM W A n (some ⟨B3, 0, none⟩) N c3 c ∧ ResM W (w.heap.size + 1) ∧ X < W.heap.size ∧ A < X ∧ B3 < A ∧ w.heap.size + 1 < A ∧ W.cell? ⟨X, 0, none⟩ = some (.slice none 0 0) ∧ W.frozen? ⟨X, 0, none⟩ = false) ⟨by (repeat' (first | (with_reducible assumption) | (with_reducible exact Below.refl _ _) | (with_reducible refine below_wov ?_ ?_ _) | (with_reducible refine below_drewN ?_ _) | (with_reducible refine Below.drew ?_) | (with_reducible refine Below.alloc ?_ ?_ _) | (with_reducible refine Below.setCell ?_ ?_ _) | (with_reducible exact Nat.le_refl _) | omega | (simp only [World.size_alloc, World.size_setCell, World.size_drew, Wov_size, World.heap_drewN]; omega))), ?b1, ?b2, by (first | omega | ((simp only [World.size_alloc, World.size_setCell, World.size_drew, Wov_size, World.heap_drewN, Array.size_append]) <;> omega)), by omega, by omega, by omega, ?b3, ?b4⟩ ?_
    case b1 =>
      have tb := BoxM.new (A := A) (t := 59) (n := (n : Int)) (cap := c3) t3 (by rw [← hA]; (first | omega | ((simp only [World.size_alloc, World.size_setCell, World.size_drew, Wov_size, World.heap_drewN, Array.size_append]) <;> omega)))
      simp only [Wov_Wov] at tb
      exact tb.below (by (repeat' (first | (with_reducible assumption) | (with_reducible exact Below.refl _ _) | (with_reducible refine below_wov ?_ ?_ _) | (with_reducible refine below_drewN ?_ _) | (with_reducible refine Below.drew ?_) | (with_reducible refine Below.alloc ?_ ?_ _) | (with_reducible refine Below.setCell ?_ ?_ _) | (with_reducible exact Nat.le_refl _) | omega | (simp only [World.size_alloc, World.size_setCell, World.size_drew, Wov_size, World.heap_drewN]; omega))))
    case b2 =>
      have h : ResM ((w.alloc (.cells #[.int .i64 n, .slice p N cap] 59)).alloc (.cells #[.int .i64 0, .slice none 0 0] 59)) (w.heap.size + 1) := ⟨by simp, by simp [go_sem], by simp [go_sem], by simp [go_sem], by simp [go_sem]⟩
      exact h.below (by (repeat' (first | (with_reducible assumption) | (with_reducible exact Below.refl _ _) | (with_reducible refine below_wov ?_ ?_ _) | (with_reducible refine below_drewN ?_ _) | (with_reducible refine Below.drew ?_) | (with_reducible refine Below.alloc ?_ ?_ _) | (with_reducible refine Below.setCell ?_ ?_ _) | (with_reducible exact Nat.le_refl _) | omega | (simp only [World.size_alloc, World.size_setCell, World.size_drew, Wov_size, World.heap_drewN]; omega))))
    case b3 => rw [← hX]; simp [go_sem]
    case b4 => rw [← hX]; simp [go_sem]
    rintro W ⟨hb, m1, r1, lX, lAX, lB3, l1A, x0, x1⟩
    have hsW := hb.size
    have HB := Lib.hid hb
    have HM1 := Lib.hid m1
    have HR1 := Lib.hid r1
    have L0 : Hid (LeftI W X 0 W) := ⟨Chg.refl _ _, x1, _, x0, World.ownsRow_nil _ _ _ _⟩
    clear hb m1 r1 x0 x1 hA hX t3 hB3
    go_loopw [36] (fun i wr => ∃ t : Nat, t ≤ n ∧ i = .int .i64 t ∧ Hid (LeftI W X t wr) ∧ W.heap.size ≤ wr.heap.size)
      (fun i _ => n - (intOf i).toNat)
    case atStart => exact ⟨0, by omega, rfl, L0, Nat.le_refl _⟩
    case round =>
      obtain ⟨t, ht, rfl, hI, szr⟩ := hrel
      by_cases hlt : t < n
      · obtain ⟨v, hv, hrow⟩ := hI.out.row
        have HV := Lib.hid hv
        have fx := hI.out.fr
        have HRW := Lib.hid hrow
        have step : Hid (∀ v' w1, w1.ownsRow W.heap.size 3 1 v' (t + 1) (cellsI t (fun i => (i : Int)) ++ [.int .i64 t]) → (wr.alloc (.cells #[.int .i64 t] 3)).grownBy w1 v.ownBlock → (w1.cell? ⟨X, 0, none⟩ = some v ∧ w1.frozen? ⟨X, 0, none⟩ = false) ∧ W.heap.size ≤ w1.heap.size ∧ LeftI W X (t + 1) (w1.setCell ⟨X, 0, none⟩ v')) := fun v' w1 ho hg => by
          have hb : Below W.heap.size wr w1 := ((Below.refl W.heap.size wr).alloc szr _).grown hg (by simp; omega) (fun j ej => by
            rcases HRW.out.2 with ⟨rfl, _⟩ | ⟨g, cap, cur, rfl, hg, _⟩
            · simp [Value.ownBlock] at ej
            · obtain rfl : g = j := by simpa [Value.ownBlock] using ej
              exact hg)
          exact ⟨⟨(hb.cell (p := ⟨X, 0, none⟩) lX).trans HV.out, (hb.frozen (p := ⟨X, 0, none⟩) lX).trans fx⟩, Nat.le_trans szr hb.size, hI.out.step lX HV.out HRW.out ho hg⟩
        clear hrow
        go_wp2_with (at_builtin; refine wpList_append_own _ rfl _ _ 152 rfl W.heap.size 3 i0 (.int .i64 0) 1 8 Try.underlying152 HI.out HZ.out H1.out H2.out rfl (by decide) _ _ _ rfl (HRW.out.alloc _) ⟨wr.heap.size, 0, none⟩ 1 1 [.int .i64 t] rfl rfl (cell_one_new _ _ _) (by simp [Value.oneCell']) (by unfold maxLen; omega) (by omega) (by simp; omega) ?_; intro v' w1 hown' hgrow _; obtain ⟨g', cap', rfl⟩ := ownsRow_succ hown'; obtain ⟨⟨k1, k2⟩, k3, k4⟩ := step.out _ w1 hown' hgrow; have K4 := Lib.hid k4; clear k4 hown' hgrow hv)
        go_roundw
        case rel => exact ⟨t + 1, hlt, by go_num, K4, by simp [World.setCell]; omega⟩
        case measure => simp [intOf]; omega
      · obtain rfl : n = t := by omega
        obtain ⟨v, hv, hrow⟩ := hI.out.row
        obtain ⟨B2, c2, rfl, hb2, hl2, hc2, hm2, hH2⟩ := holds_of_row2 (by omega) hrow
        have fx := hI.out.fr
        have hcg := hI.out.chg
        have HCG := Lib.hid hcg
        have DL := Lib.hid (DL0.out B2 c2 wr hH2 hc2 hm2)
        have HH2 := Lib.hid hH2
        have m := HM1.out
        have lW : w.heap.size + 1 < W.heap.size := by omega
        have lWA : A < W.heap.size := by omega
        clear hrow hI hcg hH2 m DL0
        go_wp2_with (fail)
        refine DL.out.mono ?_; rintro e w' ⟨rfl, hc3, hH3⟩
        have y0 := (hc3.cell (x := 0) (b := X) (by omega) (by omega)).trans hv
        have y1 := (hc3.frozen (x := 0) (b := X) (by omega) (by omega)).trans fx
        have hs3 := hc3.size
        have HC3 := Lib.hid hc3
        have HH3 := Lib.hid hH3
        clear hv fx DL HH2 hc3 hH3
        have bw' : Below w.heap.size w w' := HB.out.trans (((HCG.out.belowAt (by omega) (by omega))).trans (HC3.out.belowAt (by omega) (by omega)))
        have mw : BoxM w' A n (some ⟨B3, 0, none⟩) N c3 c := (HM1.out.chg HCG.out (by omega) (by omega)).chg HC3.out (by omega) (by omega)
        have rw' : ResM w' (w.heap.size + 1) := (HR1.out.chg HCG.out (by omega)).chg HC3.out (by omega)
        have MW := Lib.hid mw
        have RW := Lib.hid rw'
        have a0 := mw.c0
        have a1 := mw.c1
        have BW := Lib.hid bw'
        clear mw rw' bw'
        go_wp2_with (fail)
        refine calls_world (fun V => Below w.heap.size w V ∧ V.cell? ⟨X, 0, none⟩ = some (.slice (some ⟨B2, 0, none⟩) n1 c2) ∧ BoxM V A n (some ⟨B3, 0, none⟩) N c3 c ∧ HoldsI V B2 n1 (fun i => (skip k i : Nat)) ∧ ResM V (w.heap.size + 1)) ⟨BW.out.setCell (by simp; omega) _, by simp [go_sem, y0], MW.out.chg (Chg.set _ _ _ _) (by omega) (by omega), HH3.out.of_block ((Chg.set _ _ _ _).block _ (by omega) (by omega)), RW.out.chg (Chg.set _ _ _ _) (by omega)⟩ ?_
        rintro V ⟨hbV, v0, mV, hV, rV⟩
        have hsV := hbV.size
        refine (MD.out X B2 A c2 c3 _ V v0 mV.c0 hV mV.sl).mono ?_; rintro e w' ⟨B4, c4, rfl, h4, l4, hH4, q4, rfl⟩
        have r0 := rV.c0
        have r1 := rV.c1
        have z0 := rV.z0
        have z1 := rV.z1
        have lr := rV.lt
        have HH4 := Lib.hid hH4
        have n4 : ¬ B4 = w.heap.size + 1 := by omega
        have n5 : ¬ w.heap.size + 1 = B4 := by omega
        clear hH4 mV hV rV a0 a1 y0 y1 MD
        go_wp2
        refine bodyPost_ret (by simp [results, Try.results52, go_sem, r0, r1, lr]; try rfl) rfl ?_
        refine ⟨⟨some ⟨B4, 0, none⟩, c4, rfl, .inr ⟨B4, rfl, by omega, ?_, ?_⟩⟩, Wov_of_below ?_⟩
        · simp only [World.size_setCell]; omega
        · exact HH4.out.of_block (((Chg.set _ (w.heap.size + 1) 0 _).trans (Chg.set _ (w.heap.size + 1) 1 _)).block _ (by omega) (by omega))
        · exact ((below_wov hbV (by omega) q4).setCell (by simp) _).setCell (by simp) _
  · have hD : dropM n k f = errM 6 := by unfold dropM; rw [hc]; rfl
    rw [hD]
    have CL : Hid (∀ w', Below w.heap.size w w' → Calls Try.prog 76 #[.agg #[.int .i64 n, .slice p N cap]] w' (matC w' 0 0 (fun _ => 0) 6)) := fun w' hb => by
      have := CL0 w' hb
      rw [hN] at this ⊢
      rw [hc] at this; exact this
    clear CL0 hc hD hok hS hF hN
    go_enter Try.func52, Try.ntmps52
    go_wp2_with (fail)
    refine (CK.out _ (by (repeat' (first | (with_reducible assumption) | (with_reducible exact Below.refl _ _) | (with_reducible refine below_wov ?_ ?_ _) | (with_reducible refine below_drewN ?_ _) | (with_reducible refine Below.drew ?_) | (with_reducible refine Below.alloc ?_ ?_ _) | (with_reducible refine Below.setCell ?_ ?_ _) | (with_reducible exact Nat.le_refl _) | omega | (simp only [World.size_alloc, World.size_setCell, World.size_drew, Wov_size, World.heap_drewN]; omega))))).mono ?_; rintro e w' ⟨rfl, q1, rfl⟩
    go_wp2_with (fail)
    refine (CL.out _ (by (repeat' (first | (with_reducible assumption) | (with_reducible exact Below.refl _ _) | (with_reducible refine below_wov ?_ ?_ _) | (with_reducible refine below_drewN ?_ _) | (with_reducible refine Below.drew ?_) | (with_reducible refine Below.alloc ?_ ?_ _) | (with_reducible refine Below.setCell ?_ ?_ _) | (with_reducible exact Nat.le_refl _) | omega | (simp only [World.size_alloc, World.size_setCell, World.size_drew, Wov_size, World.heap_drewN]; omega))))).mono ?_; rintro e w' ⟨⟨p3, c3, rfl, ho⟩, q3, rfl⟩
    clear ho CK CL
    go_wp2
    go_returns
    exact matC_err rfl (by (repeat' (first | (with_reducible assumption) | (with_reducible exact Below.refl _ _) | (with_reducible refine below_wov ?_ ?_ _) | (with_reducible refine below_drewN ?_ _) | (with_reducible refine Below.drew ?_) | (with_reducible refine Below.alloc ?_ ?_ _) | (with_reducible refine Below.setCell ?_ ?_ _) | (with_reducible exact Nat.le_refl _) | omega | (simp only [World.size_alloc, World.size_setCell, World.size_drew, Wov_size, World.heap_drewN]; omega))))
end Go.Proofs.Ytbgbhfcnadjhdaa
