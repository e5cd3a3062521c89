/- Contract of what comp.Comp puts on its matrix: a zone's bounds on 0 and two other clocks. No condition but that the zone may be. -/
import Derived.Test.YtbgbhfcnadjhdaaL2
import Derived.Test.YtbgbhfcnadjhdaaH8
import Derived.Test.YtbgbhfcnadjhdaaH13
namespace Go.Proofs.Ytbgbhfcnadjhdaa
set_option linter.unusedSimpArgs false
set_option linter.unusedVariables false
open Go Go.RowKit Go.Shelf
attribute [local go_sem] Nat.add_assoc Nat.add_lt_add_iff_left lit_lt_add

/-- A matrix of four clocks with a zone's bounds more, laid one behind the other. -/
def putF (f z : Nat → Int) (cl : Nat → Nat) : Nat → Nat → Int
  | 0 => f
  | k + 1 => upd (putF f z cl k) (4 * cl (k / 3) + cl (k % 3)) (min (putF f z cl k (4 * cl (k / 3) + cl (k % 3))) (zF z k))
theorem sel_lt4 {a b c : Nat} (ha : a < 4) (hb : b < 4) (hc : c < 4) (k : Nat) : sel a b c k < 4 := by
  match k with
  | 0 => exact ha
  | 1 => exact hb
  | n + 2 => exact hc
theorem idxC0 (x y z : Int) (w : World) : (Instr.index 96 (.agg #[.int .i64 x, .int .i64 y, .int .i64 z]) (.int .i64 0)).run Try.prog w = .ok (.int .i64 x) w := by kernel_rfl
theorem idxC1 (x y z : Int) (w : World) : (Instr.index 96 (.agg #[.int .i64 x, .int .i64 y, .int .i64 z]) (.int .i64 1)).run Try.prog w = .ok (.int .i64 y) w := by kernel_rfl
theorem idxC2 (x y z : Int) (w : World) : (Instr.index 96 (.agg #[.int .i64 x, .int .i64 y, .int .i64 z]) (.int .i64 2)).run Try.prog w = .ok (.int .i64 z) w := by kernel_rfl
theorem idxC (x y z t : Nat) (ht : t < 3) (w : World) : (Instr.index 96 (.agg #[.int .i64 (x : Int), .int .i64 (y : Int), .int .i64 (z : Int)]) (.int .i64 (t : Int))).run Try.prog w = .ok (.int .i64 ((sel x y z t : Nat) : Int)) w := by
  have : t = 0 ∨ t = 1 ∨ t = 2 := by omega
  rcases this with rfl | rfl | rfl
  · exact idxC0 _ _ _ w
  · exact idxC1 _ _ _ w
  · exact idxC2 _ _ _ w

set_option maxRecDepth 10000 in
set_option maxHeartbeats 4000000 in
theorem cput_any (z : Nat → Int) (a b c : Nat) (ha : a < 4) (hb : b < 4) (hc : c < 4) (D B c4 : Nat) (f : Nat → Int) (w : World) (hz : okZ z = true) (hD : D < w.heap.size) (hB : B < w.heap.size) (hne : D ≠ B) (d1 : w.cell? ⟨D, 1, none⟩ = some (.slice (some ⟨B, 0, none⟩) 16 c4)) (hH : HoldsI w B 16 f) :
    Calls Try.prog 59 #[zoneV z, .agg #[.int .i64 (a : Int), .int .i64 (b : Int), .int .i64 (c : Int)], .pointer (some ⟨D, 0, none⟩)] w (fun e W => e = .returned (.tuple #[]) ∧ Chg w B W ∧ HoldsI W B 16 (putF f z (sel a b c) 9)) := by
  have MX : Hid (∀ w, Calls Try.prog 47 #[.agg #[.int .i64 (z 0), .int .i64 (z 1), .int .i64 (z 2), .int .i64 (z 3), .int .i64 (z 4), .int .i64 (z 5)]] w (matC w 3 9 (zF z) 0)) := fun w => by
    have := zmatrix_any z w (okZ_fits hz)
    have e : matZ z = ⟨3, 9, zF z, 0⟩ := by unfold matZ; rw [if_pos (show okD 3 9 (zF z) = true from okZ_okD hz)]
    rw [e] at this; exact this
  have SL := sel_lt4 ha hb hc
  have HS := Lib.hid SL
  have JX := Lib.hid (fun t ht w => idxC a b c t ht w)
  obtain ⟨cl, hcl⟩ : ∃ cl, cl = sel a b c := ⟨_, rfl⟩
  rw [← hcl] at HS ⊢
  have HCL := Lib.hid hcl
  have HH := Lib.hid hH
  clear hz ha hb hc hcl hH SL
  unfold zoneV
  go_enter Try.func59, Try.ntmps59
  go_wp2_with (fail)
  refine (MX.out _).mono ?_; rintro e w' ⟨⟨p3, c3, rfl, ho⟩, q3, rfl⟩
  obtain ⟨B3, rfl, hA3, hB3, hH3⟩ := ho.resolve_left (by omega)
  clear ho MX
  go_wp2
  obtain ⟨A, hA⟩ : ∃ A, w.heap.size + (2 + q3.bl.size) = A := ⟨_, rfl⟩
  rw [hA]
  simp only [Wov_size, World.size_alloc] at hA3 hB3
  refine wp_world (fun W => Below w.heap.size w W ∧ w.heap.size + 1 < W.heap.size ∧ W.cell? ⟨w.heap.size + 1, 0, none⟩ = some (.int .i64 (a : Int)) ∧ W.cell? ⟨w.heap.size + 1, 1, none⟩ = some (.int .i64 (b : Int)) ∧ W.cell? ⟨w.heap.size + 1, 2, none⟩ = some (.int .i64 (c : Int)) ∧ BoxM W A 3 (some ⟨B3, 0, none⟩) 9 c3 (zF z) ∧ w.heap.size ≤ A ∧ w.heap.size ≤ B3 ∧ B3 < W.heap.size ∧ HoldsI W B3 9 (zF z))
    ⟨by (repeat' (first | (with_reducible assumption) | (with_reducible exact Below.refl _ _) | (with_reducible refine below_wov ?_ ?_ _) | (with_reducible refine below_drewN ?_ _) | (with_reducible refine Below.drew ?_) | (with_reducible refine Below.alloc ?_ ?_ _) | (with_reducible refine Below.setCell ?_ ?_ _) | (with_reducible exact Nat.le_refl _) | omega | (simp only [World.size_alloc, World.size_setCell, World.size_drew, Wov_size, World.heap_drewN]; omega))), by (first | omega | ((simp only [World.size_alloc, World.size_setCell, World.size_drew, Wov_size, World.heap_drewN, Array.size_append]) <;> omega)), by simp [go_sem], by simp [go_sem], by simp [go_sem], BoxM.new (slp_of hH3 (by (first | omega | ((simp only [World.size_alloc, World.size_setCell, World.size_drew, Wov_size, World.heap_drewN, Array.size_append]) <;> omega)))) (by rw [← hA]; (first | omega | ((simp only [World.size_alloc, World.size_setCell, World.size_drew, Wov_size, World.heap_drewN, Array.size_append]) <;> omega))), by omega, by omega, by (first | omega | ((simp only [World.size_alloc, World.size_setCell, World.size_drew, Wov_size, World.heap_drewN, Array.size_append]) <;> omega)), ?_⟩ ?_
  · exact hH3.below ((Below.refl _ _).alloc (Nat.le_refl _) _) (by (first | omega | ((simp only [World.size_alloc, World.size_setCell, World.size_drew, Wov_size, World.heap_drewN, Array.size_append]) <;> omega)))
  rintro W ⟨hbW, l4, k0, k1, k2, mM, hA9, hB9, lB3, hH9⟩
  have hsW := hbW.size
  have lA := mM.lt
  have m0 := mM.c0
  have m1 := mM.c1
  have HH2 := Lib.hid (HH.out.below hbW hB)
  have H9 := Lib.hid hH9
  have HD := Lib.hid ((hbW.cell (p := ⟨D, 1, none⟩) hD).trans d1)
  have HBW := Lib.hid hbW
  have nB1 : w.heap.size + 1 ≠ B := by omega
  have nB2 : A ≠ B := by omega
  have nB3 : B3 ≠ B := by omega
  clear hH3 hA3 hB3 hA mM hH9 d1 HH hbW
  go_loopw [18] (fun i wr => ∃ t : Nat, t ≤ 3 ∧ i = .int .i64 (t : Int) ∧ Chg W B wr ∧ Hid (HoldsI wr B 16 (putF f z cl (3 * t))))
    (fun i _ => 3 - (intOf i).toNat)
  case atStart => exact ⟨0, by omega, rfl, Chg.refl _ _, HH2.out⟩
  case round =>
    obtain ⟨t, ht, rfl, hc, hH⟩ := hrel
    have hsr := hc.size
    by_cases hlt : t < 3
    · have jx := JX.out t hlt
      rw [← HCL.out] at jx
      have g0 := (hc.cell (x := 0) (b := w.heap.size + 1) l4 nB1).trans k0
      have g1 := (hc.cell (x := 1) (b := w.heap.size + 1) l4 nB1).trans k1
      have g2 := (hc.cell (x := 2) (b := w.heap.size + 1) l4 nB1).trans k2
      have hx4 := HS.out t
      obtain ⟨x, hx⟩ : ∃ x, x = cl t := ⟨_, rfl⟩
      rw [← hx] at jx hx4
      have HX := Lib.hid hx
      have HC := Lib.hid hc
      clear hx hc
      go_wp2
      go_loopw [23] (fun j V => ∃ u : Nat, u ≤ 3 ∧ j = .int .i64 (u : Int) ∧ Chg W B V ∧ Hid (HoldsI V B 16 (putF f z cl (3 * t + u))))
        (fun j _ => 3 - (intOf j).toNat)
      case atStart => exact ⟨0, by omega, rfl, HC.out, hH⟩
      case round =>
        obtain ⟨u, hu, rfl, hcu, hHu⟩ := hrel
        have hsu := hcu.size
        by_cases hlu : u < 3
        · have jy := JX.out u hlu
          rw [← HCL.out] at jy
          have hy4 := HS.out u
          obtain ⟨y, hy⟩ : ∃ y, y = cl u := ⟨_, rfl⟩
          rw [← hy] at jy hy4
          obtain ⟨k, hk⟩ : ∃ k, k = 3 * t + u := ⟨_, rfl⟩
          rw [← hk] at hHu
          obtain ⟨r, hr⟩ : ∃ r, r = 4 * x := ⟨_, rfl⟩
          obtain ⟨q, hq⟩ : ∃ q, q = r + y := ⟨_, rfl⟩
          obtain ⟨s, hs⟩ : ∃ s, s = 3 * t := ⟨_, rfl⟩
          have hq16 : q < 16 := by omega
          have hk9 : k < 9 := by omega
          have w1 : IntKind.i64.wrap (4 * (x : Int)) = (r : Int) := by rw [IntKind.wrap_i64]; omega
          have w2 : IntKind.i64.wrap ((r : Int) + (y : Int)) = (q : Int) := by rw [IntKind.wrap_i64]; omega
          have w3 : IntKind.i64.wrap (3 * (t : Int)) = (s : Int) := by rw [IntKind.wrap_i64]; omega
          have w4 : IntKind.i64.wrap ((s : Int) + (u : Int)) = (k : Int) := by rw [IntKind.wrap_i64]; omega
          have hDW : D < W.heap.size := by omega
          have c1 := (hcu.cell (x := 1) (b := D) hDW hne).trans HD.out
          have c2 := (hcu.cell (x := 1) (b := A) lA nB2).trans m1
          have c3' := (hcu.cell (x := k) (b := B3) lB3 nB3).trans (H9.out k hk9).1
          obtain ⟨b1, b2⟩ := hHu.out q hq16
          have e1 : 4 * cl (k / 3) + cl (k % 3) = q := by
            have h1 : k / 3 = t := by omega
            have h2 : k % 3 = u := by omega
            rw [h1, h2, ← HX.out, ← hy]; omega
          have hstep : Hid (∀ v b, v = putF f z cl k q → b = zF z k → upd (putF f z cl k) q (min v b) = putF f z cl (k + 1)) := fun v b hv hb => by
            show _ = upd (putF f z cl k) (4 * cl (k / 3) + cl (k % 3)) (min (putF f z cl k (4 * cl (k / 3) + cl (k % 3))) (zF z k))
            rw [e1, hv, hb]
          obtain ⟨v, hv⟩ : ∃ v, v = putF f z cl k q := ⟨_, rfl⟩
          obtain ⟨b, hb⟩ : ∃ b, b = zF z k := ⟨_, rfl⟩
          rw [← hv] at b1
          rw [← hb] at c3'
          have HST : Hid (upd (putF f z cl k) q (min v b) = putF f z cl (k + 1)) := hstep.out v b hv hb
          have HK := Lib.hid (show k + 1 = 3 * t + (u + 1) by omega)
          have hq0 : (0 : Int) ≤ (q : Int) := by omega
          have hq1 : (q : Int) < 16 := by omega
          have hk0 : (0 : Int) ≤ (k : Int) := by omega
          have hk1 : (k : Int) < 9 := by omega
          have HHu := Lib.hid hHu.out
          have lBr : B < wr.heap.size := by omega
          clear hstep hv hb hy hk hr hq hs e1 hHu hH hq16 hk9
          go_wp2
          go_region
          go_wp2
          go_roundw
          case rel =>
            have em : (if b < v then b else v) = min v b := by
              by_cases h : b < v
              · rw [if_pos h, Int.min_eq_right (by omega)]
              · rw [if_neg h, Int.min_eq_left (by omega)]
            rw [em]
            refine ⟨u + 1, hlu, by go_num, by (repeat' (first | (with_reducible exact Chg.refl _ _) | (with_reducible assumption) | (with_reducible refine Chg.trans ?_ (Chg.set _ _ _ _)) | (with_reducible refine Chg.trans ?_ (Chg.alloc _ _ _)) | (with_reducible refine Chg.trans ?_ (Chg.wov _ _ _)) | (with_reducible refine Chg.trans ?_ (Chg.drew _ _)) | (with_reducible refine Chg.trans ?_ (Chg.drewN _ _ _)))), ?_⟩
            rw [← HK.out, ← HST.out]
            have h5 := HHu.out.set (a := q) (by omega) (min v b)
            exact h5.below ((Below.refl _ _).drew) (by (first | omega | ((simp only [World.size_alloc, World.size_setCell, World.size_drew, Wov_size, World.heap_drewN, Array.size_append]) <;> omega)))
          case measure => simp [intOf]; omega
        · obtain rfl : u = 3 := by omega
          go_wp2
          go_roundw
          case rel =>
            refine ⟨t + 1, by omega, by go_num, by (repeat' (first | (with_reducible exact Chg.refl _ _) | (with_reducible assumption) | (with_reducible refine Chg.trans ?_ (Chg.set _ _ _ _)) | (with_reducible refine Chg.trans ?_ (Chg.alloc _ _ _)) | (with_reducible refine Chg.trans ?_ (Chg.wov _ _ _)) | (with_reducible refine Chg.trans ?_ (Chg.drew _ _)) | (with_reducible refine Chg.trans ?_ (Chg.drewN _ _ _)))), ?_⟩
            rw [show 3 * (t + 1) = 3 * t + 3 by omega]; exact hHu
          case measure => simp [intOf]; omega
    · obtain rfl : t = 3 := by omega
      have HC := Lib.hid ((Chg.of_below HBW.out).trans hc)
      have HF := Lib.hid hH.out
      clear hH hc HH2 H9 HD JX HCL HS
      go_wp2
      refine bodyPost_end (results_none rfl _ _ _) rfl ?_
      exact ⟨rfl, HC.out, HF.out⟩
end Go.Proofs.Ytbgbhfcnadjhdaa
