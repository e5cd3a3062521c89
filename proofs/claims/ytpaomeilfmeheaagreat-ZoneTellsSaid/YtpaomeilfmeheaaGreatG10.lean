/- Contract of incl.Pick, of all matrices. -/
import Derived.Test.YtpaomeilfmeheaaGreatG9
namespace Go.Proofs.YtpaomeilfmeheaaGreat
set_option linter.unusedSimpArgs false
set_option linter.unusedVariables false
open Go Go.RowKit Go.Shelf
attribute [local go_sem] Nat.add_assoc Nat.add_lt_add_iff_left lit_lt_add

/-- Times and an error's number. -/
structure TR where
  M : Nat
  T : Nat → Int × Int
  e : Int
def pickR (n : Int) (N : Nat) (f : Nat → Int) : TR :=
  if (closeM n N f).e = 0 then ⟨n.toNat - 1, fun k => q8 (pickT n.toNat (closeM n N f).f (k + 1)), 0⟩ else ⟨0, fun _ => (0, 0), (closeM n N f).e⟩
def ratC (w : World) (M : Nat) (T : Nat → Int × Int) (e0 : Int) (e : Ending) (W : World) : Prop :=
  (∃ p cap, e = .returned (.tuple #[.slice p M cap, .int .i64 e0]) ∧ SlR W p M T) ∧ ∃ q, W = Wov w q

theorem row_later {W V : World} {base e s k : Nat} {v : Value} {xs : List Value} (h : W.ownsRow base e s v k xs) (hb : Below W.heap.size W V) : V.ownsRow base e s v k xs := by
  obtain ⟨h0, h | ⟨g, cap, cur, h1, h2, h3, h4⟩⟩ := h
  · exact ⟨h0, .inl h⟩
  · exact ⟨h0, .inr ⟨g, cap, cur, h1, h2, (hb.block g (Array.getElem?_eq_some_iff.1 h3).1).trans h3, h4⟩⟩

set_option maxRecDepth 10000 in
set_option maxHeartbeats 4000000 in
theorem pick_main (n : Nat) (p : Option Addr) (cap : Nat) (f c : Nat → Int) (w : World) (hn0 : 1 ≤ n) (hn : n ≤ 4) (hS : SlP w p (n * n) f) (hF : Fits (n * n) f) (hok : okD n (n * n) f = true) (hc : closeM n (n * n) f = ⟨n, n * n, c, 0⟩) (K : ClosedI n f c) :
    Calls Tryz.prog 39 #[.agg #[.int .i64 n, .slice p (n * n) cap]] w (ratC w (n - 1) (fun k => q8 (pickT n c (k + 1))) 0) := by
  have hq1 : 1 * 1 ≤ n * n := Nat.mul_le_mul hn0 hn0
  have hq0 : n * n ≤ 4 * 4 := Nat.mul_le_mul hn hn
  have hnn : fits64 (n : Int) := by unfold fits64; omega
  have CL : Hid (∀ w', Below w.heap.size w w' → Calls Tryz.prog 25 #[.agg #[.int .i64 n, .slice p (n * n) cap]] w' (matC w' n (n * n) c 0)) := fun w' hb => by
    have := closeM_any n p (n * n) cap f w' hnn (hS.below hb) hF (by omega)
    rw [hc] at this; exact this
  have PK : Hid (∀ W p1 c1 p2 c2 k, k + 1 < n → SlP W p1 (n * n) c → SlR W p2 (k + 1) (q8T (pickT n c)) → Calls Tryz.prog 71 #[.agg #[.int .i64 n, .slice p1 (n * n) c1], .slice p2 (k + 1) c2] W (Gives W (.agg #[.int .i64 (q8 (pickT n c (k + 1))).1, .int .i64 (q8 (pickT n c (k + 1))).2]))) := fun W p1 c1 p2 c2 k hk h1 h2 => by
    have := pick_any n (k + 1) p1 p2 c1 c2 c (pickT n c) W hn hk (by omega) h1 h2 (picks_ok hn (okD_bd hok).2.2 K (by omega) hk).1
    rwa [← pickT_succ] at this
  have i1 := infoR
  have i2 := infoRz
  obtain ⟨i0, hi⟩ : ∃ i0, Tryz.prog.info? 29 = some i0 := by
    cases h : Tryz.prog.info? 29 with
    | none => rw [h] at i1; cases i1
    | some i => exact ⟨i, rfl⟩
  rw [hi] at i1 i2
  simp only [Option.map_some, Option.some.injEq, Prod.mk.injEq] at i1 i2
  have HI := Lib.hid hi
  have HZ : Hid (i0.zero = some (.agg #[.int .i64 0, .int .i64 0])) := i2
  have H1 : Hid (i0.size = 2) := i1.1
  have H2 : Hid (i0.bytes = 16) := i1.2
  obtain ⟨T, hT⟩ : ∃ T, Hid (T = pickT n c) := ⟨_, rfl⟩
  rw [← hT.out] at PK ⊢
  have hT0 : Hid (T 0 = 0) := by show _ = _; rw [hT.out]; rfl
  obtain ⟨N, hN⟩ : ∃ N, N = n * n := ⟨_, rfl⟩
  rw [← hN] at CL PK hq0 hq1 ⊢
  clear hi i1 i2 hN hS hF hok hc K hnn hT
  go_enter Tryz.func39, Tryz.ntmps39
  go_wp2_with (fail)
  refine (CL.out _ (by (repeat' (first | (with_reducible assumption) | (with_reducible exact Below.refl _ _) | (with_reducible refine below_wov ?_ ?_ _) | (with_reducible refine below_drewN ?_ _) | (with_reducible refine Below.drew ?_) | (with_reducible refine Below.alloc ?_ ?_ _) | (with_reducible refine Below.setCell ?_ ?_ _) | (with_reducible exact Nat.le_refl _) | omega | (simp only [World.size_alloc, World.size_setCell, World.size_drew, Wov_size, World.heap_drewN]; omega))))).mono ?_; rintro e w' ⟨⟨p3, c3, rfl, ho⟩, q3, rfl⟩
  obtain ⟨B3, rfl, hB3a, hB3b, hH3⟩ := ho.resolve_left (by omega)
  have hB3 : B3 < w.heap.size + (1 + q3.bl.size) := by rw [Wov_size, World.size_alloc] at hB3b; omega
  have hne : ¬ B3 = w.heap.size := by rw [World.size_alloc] at hB3a; omega
  have hH := Lib.hid (show HoldsI (Wov (w.alloc (.cells #[.int .i64 n, .slice p N cap] 27)) q3) B3 N c from hH3)
  clear ho CL hB3a hB3b hH3
  go_wp2
  obtain ⟨B0, hB0⟩ : ∃ B0, w.heap.size + (1 + q3.bl.size) = B0 := ⟨_, rfl⟩
  rw [hB0] at hB3 ⊢
  refine wp_world (fun W => Below w.heap.size w W ∧ B0 ≤ W.heap.size ∧ W.cell? ⟨w.heap.size, 0, none⟩ = some (.int .i64 n) ∧ W.cell? ⟨w.heap.size, 1, none⟩ = some (.slice (some ⟨B3, 0, none⟩) N c3) ∧ HoldsI W B3 N c ∧ W.ownsRow B0 29 2 (.slice (some ⟨B0, 0, none⟩) 1 1) 1 [.int .i64 0, .int .i64 1]) ⟨?_, ?_, ?_, ?_, ?_, ?_⟩ ?_
  · exact ((((below_wov ((Below.refl _ _).alloc (Nat.le_refl _) _) (by simp) q3).setCell (p := ⟨w.heap.size, 0, none⟩) (by simp) _).setCell (p := ⟨w.heap.size, 1, none⟩) (by simp) _).alloc (by (first | omega | ((simp only [World.size_alloc, World.size_setCell, World.size_drew, Wov_size, World.heap_drewN, Array.size_append]) <;> omega))) _)
  · (first | omega | ((simp only [World.size_alloc, World.size_setCell, World.size_drew, Wov_size, World.heap_drewN, Array.size_append]) <;> omega))
  · simp [go_sem]
  · simp [go_sem]
  · refine (hH.out.of_block (W' := ((Wov (w.alloc (.cells #[.int .i64 n, .slice p N cap] 27)) q3).setCell ⟨w.heap.size, 0, none⟩ (.int .i64 n)).setCell ⟨w.heap.size, 1, none⟩ (.slice (some ⟨B3, 0, none⟩) N c3)) ?_).below ((Below.refl _ _).alloc (Nat.le_refl _) _) (by (first | omega | ((simp only [World.size_alloc, World.size_setCell, World.size_drew, Wov_size, World.heap_drewN, Array.size_append]) <;> omega)))
    exact ((Chg.set _ w.heap.size 0 _).trans (Chg.set _ w.heap.size 1 _)).block B3 (by (first | omega | ((simp only [World.size_alloc, World.size_setCell, World.size_drew, Wov_size, World.heap_drewN, Array.size_append]) <;> omega))) hne
  · have := row_lit (((Wov (w.alloc (.cells #[.int .i64 n, .slice p N cap] 27)) q3).setCell ⟨w.heap.size, 0, none⟩ (.int .i64 n)).setCell ⟨w.heap.size, 1, none⟩ (.slice (some ⟨B3, 0, none⟩) N c3)) (q8T T) B0 (by (first | omega | ((simp only [World.size_alloc, World.size_setCell, World.size_drew, Wov_size, World.heap_drewN, Array.size_append]) <;> omega)))
    have hs : (((Wov (w.alloc (.cells #[.int .i64 n, .slice p N cap] 27)) q3).setCell ⟨w.heap.size, 0, none⟩ (.int .i64 n)).setCell ⟨w.heap.size, 1, none⟩ (.slice (some ⟨B3, 0, none⟩) N c3)).heap.size = B0 := by simp only [World.size_setCell, Wov_size, World.size_alloc]; omega
    rw [hs] at this; exact this
  rintro W ⟨hbW, hzW, d0, d1, hC, hR⟩
  have hR1 : W.ownsRow B0 29 2 (.slice (some ⟨B0, 0, none⟩) 1 1) 1 (cellsR (q8T T) 1) := by
    have e : q8T T 0 = (0, 1) := by unfold q8T; rw [hT0.out]; rfl
    show W.ownsRow B0 _ 2 _ 1 (cellsR (q8T T) 0 ++ [.int .i64 (q8T T 0).1, .int .i64 (q8T T 0).2])
    rw [e]; exact hR
  have hCC := Lib.hid hC
  have hBW := Lib.hid hbW
  have hwB : w.heap.size < B0 := by omega
  clear hC hR hH hB0 hne hbW
  have e1 : IntKind.i64.wrap ((n : Int) - 1) = (n : Int) - 1 := IntWalk.i64_in _ (by omega)
  go_loopw [5, 19] (fun v i wr => ∃ k : Nat, k + 1 ≤ n ∧ i = .int .i64 k ∧ (∃ g cp, v = .slice (some ⟨g, 0, none⟩) (k + 1) cp) ∧ Below B0 W wr ∧ Hid (wr.ownsRow B0 29 2 v (k + 1) (cellsR (q8T T) (k + 1))))
    (fun _ i _ => n - (intOf i).toNat)
  case atStart => exact ⟨0, hn0, rfl, ⟨B0, 1, rfl⟩, Below.refl _ _, hR1⟩
  case round =>
    obtain ⟨k, hk, rfl, ⟨g, cp, rfl⟩, hB, hR⟩ := hrel
    clear hR1
    have hszr := hB.size
    have k0 := (hB.cell (p := ⟨w.heap.size, 0, none⟩) hwB).trans d0
    have k1 := (hB.cell (p := ⟨w.heap.size, 1, none⟩) hwB).trans d1
    by_cases hlt : k + 1 < n
    · have hC2 : SlP wr (some ⟨B3, 0, none⟩) N c := slp_of (hCC.out.below hB hB3) (by omega)
      obtain ⟨g', cp', e, hg1, hg2, hg3⟩ := holdsR_of_row (by omega) hR.out
      have hR2 : SlR wr (some ⟨g, 0, none⟩) (k + 1) (q8T T) := by
        cases e; exact slR_of hg3 hg2
      have PK2 := Lib.hid (PK.out wr _ c3 _ cp k hlt hC2 hR2)
      obtain ⟨a, ha⟩ : ∃ a, Hid (a = (q8 (T (k + 1))).1) := ⟨_, rfl⟩
      obtain ⟨b, hb⟩ : ∃ b, Hid (b = (q8 (T (k + 1))).2) := ⟨_, rfl⟩
      rw [← ha.out, ← hb.out] at PK2
      have hd : decide ((k : Int) < (n : Int) - 1) = true := by simp; omega
      clear e hg1 hg2 hg3 hC2 hR2 PK
      go_wp2_with (fail)
      refine PK2.out.mono ?_; rintro e X ⟨rfl, hX⟩
      have hbX : Below wr.heap.size wr X := by obtain ⟨q, rfl⟩ := hX; exact below_Wov wr q
      have hzX := hbX.size
      have hrow := row_later hR.out hbX
      have HR := Lib.hid hrow
      have step : Hid (∀ v' w1, w1.ownsRow B0 29 2 v' (k + 1 + 1) (cellsR (q8T T) (k + 1) ++ [.int .i64 a, .int .i64 b]) → (X.alloc (.cells #[.int .i64 a, .int .i64 b] 29)).grownBy w1 (some g) →
          Below B0 W w1 ∧ w1.ownsRow B0 29 2 v' (k + 1 + 1) (cellsR (q8T T) (k + 1 + 1))) := fun v' w1 ho hg =>
        ⟨(hB.trans (hbX.mono (by omega))).trans (app2_below HR.out (by omega) hg), by rw [ha.out, hb.out] at ho; exact ho⟩
      clear hrow hX
      go_wp2_with (at_builtin; refine wpList_append_own _ rfl _ _ 67 rfl B0 29 i0 (.agg #[.int .i64 0, .int .i64 0]) 2 16 Tryz.underlying67 HI.out HZ.out H1.out H2.out rfl (by decide) _ _ _ rfl (HR.out.alloc _) ⟨X.heap.size, 0, none⟩ 1 1 [.int .i64 a, .int .i64 b] rfl rfl (cell_two_new _ _ _ _) (by simp [Value.oneCell']) (by unfold maxLen; omega) (by omega) (by simp; omega) ?_; (intro v' w1 hown' hgrow _; obtain ⟨g', cap', rfl⟩ := ownsRow_succ hown'; obtain ⟨k2, k3⟩ := step.out _ w1 hown' hgrow; clear hown' hgrow))
      go_roundw
      case rel => exact ⟨k + 1, by omega, by go_num, ⟨g', cap', rfl⟩, k2, k3⟩
      case measure => simp [intOf]; omega
    · obtain ⟨g', cp', e, hg1, hg2, hg3⟩ := holdsR_of_row (by omega) hR.out
      obtain ⟨_, ⟨h, _⟩ | ⟨g2, cp2, cur, e2, _, _, hcp, hcm, _, _⟩⟩ := hR.out
      · cases h
      obtain ⟨rfl, rfl⟩ : g = g' ∧ cp = cp' := by cases e; exact ⟨rfl, rfl⟩
      obtain ⟨rfl, rfl⟩ : g = g2 ∧ cp = cp2 := by cases e2; exact ⟨rfl, rfl⟩
      have hkn : k + 1 = n := by omega
      have hres : Hid (SlR wr (some ⟨g, 2, none⟩) (n - 1) (fun k => q8 (T (k + 1)))) := by
        rcases Nat.eq_zero_or_pos (n - 1) with h | h
        · exact .inl h
        · refine .inr ⟨g, 2, rfl, hg2, fun x hx => ?_⟩
          have := hg3 (x + 1) (by omega)
          rw [show (x + 1) * 2 = 2 + x * 2 from by omega, Nat.add_assoc] at this
          exact this
      have hd : decide ((k : Int) < (n : Int) - 1) = false := by simp; omega
      have hbW2 := Lib.hid (hBW.out.trans (hB.mono (by omega)))
      clear e e2 hg3 hR PK
      unfold maxLen at hcm
      go_wp2
      all_goals
        go_returns
        first
        | exact ⟨⟨_, _, rfl, hres.out⟩, Wov_of_below hbW2.out⟩
        | exact ⟨⟨_, _, rfl, .inl (by omega)⟩, Wov_of_below hbW2.out⟩

set_option maxRecDepth 10000 in
set_option maxHeartbeats 2000000 in
theorem incPick_any (n : Int) (p : Option Addr) (N cap : Nat) (f : Nat → Int) (w : World) (hn : fits64 n) (hS : SlP w p N f) (hF : Fits N f) (hN : N ≤ 1000000) :
    Calls Tryz.prog 39 #[.agg #[.int .i64 n, .slice p N cap]] w (ratC w (pickR n N f).M (pickR n N f).T (pickR n N f).e) := by
  have CL : Hid (∀ w', Below w.heap.size w w' → Calls Tryz.prog 25 #[.agg #[.int .i64 n, .slice p N cap]] w' (matC w' (closeM n N f).n (closeM n N f).N (closeM n N f).f (closeM n N f).e)) := fun w' hb => closeM_any n p N cap f w' hn (hS.below hb) hF hN
  by_cases he : (closeM n N f).e = 0
  · cases hok : okD n N f
    · rw [closeM_bad hok] at he; simp [errM] at he
    · obtain ⟨m, rfl, rfl, hm0, hm4⟩ := okD_form hok
      rcases closeM_cases hok with ⟨c, hc, K⟩ | ⟨hc, _⟩
      · have e : pickR m (m * m) f = ⟨m - 1, fun k => q8 (pickT m c (k + 1)), 0⟩ := by
          unfold pickR; rw [hc]; rfl
        rw [e]
        exact pick_main m p cap f c w hm0 hm4 hS hF hok hc K
      · rw [hc] at he; simp [errM] at he
  · have e : pickR n N f = ⟨0, fun _ => (0, 0), (closeM n N f).e⟩ := if_neg he
    rw [e]
    have hne : ((closeM n N f).e != 0) = true := by rw [bne_iff_ne]; exact he
    obtain ⟨⟨x, Z, g, e0⟩, hr⟩ : ∃ r, r = closeM n N f := ⟨_, rfl⟩
    rw [← hr] at CL hne ⊢
    have CL2 : Hid (∀ w', Below w.heap.size w w' → Calls Tryz.prog 25 #[.agg #[.int .i64 n, .slice p N cap]] w' (matC w' x Z g e0)) := CL
    have hne2 : (e0 != 0) = true := hne
    show Calls _ _ _ _ (ratC w 0 (fun _ => (0, 0)) e0)
    clear hr he e hne CL hS hF
    go_enter Tryz.func39, Tryz.ntmps39
    go_wp2_with (fail)
    refine (CL2.out _ (by (repeat' (first | (with_reducible assumption) | (with_reducible exact Below.refl _ _) | (with_reducible refine below_wov ?_ ?_ _) | (with_reducible refine below_drewN ?_ _) | (with_reducible refine Below.drew ?_) | (with_reducible refine Below.alloc ?_ ?_ _) | (with_reducible refine Below.setCell ?_ ?_ _) | (with_reducible exact Nat.le_refl _) | omega | (simp only [World.size_alloc, World.size_setCell, World.size_drew, Wov_size, World.heap_drewN]; omega))))).mono ?_; rintro e w' ⟨⟨p3, c3, rfl, ho⟩, q3, rfl⟩
    clear ho
    go_wp2
    go_returns
    exact ⟨⟨_, _, rfl, .inl rfl⟩, Wov_of_below ((below_wov ((Below.refl _ _).alloc (Nat.le_refl _) _) (by simp) q3).setCell (p := ⟨w.heap.size, 0, none⟩) (by simp) _ |>.setCell (p := ⟨w.heap.size, 1, none⟩) (by simp) _)⟩
#print axioms incPick_any
end Go.Proofs.YtpaomeilfmeheaaGreat
