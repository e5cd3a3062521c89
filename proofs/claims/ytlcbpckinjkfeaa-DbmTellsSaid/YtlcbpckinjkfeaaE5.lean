/- Contract of tight.Meet: what two matrices have in common. -/
import Derived.Test.YtlcbpckinjkfeaaE4
namespace Go.Proofs.Ytlcbpckinjkfeaa
set_option linter.unusedSimpArgs false
set_option linter.unusedVariables false
open Go Go.RowKit Go.Shelf
attribute [local go_sem] Nat.add_assoc Nat.add_lt_add_iff_left lit_lt_add

theorem infoMo : (Try.prog.info? 141).map (fun i => (i.size, i.bytes)) = some (2, 16) := by kernel_rfl
theorem infoMoz : (Try.prog.info? 141).map (fun i => i.zero) = some (some (.agg #[.int .i64 0, .int .i64 0])) := by kernel_rfl

/-- The list that the closure appends to: LB is the variable's block, the rows lie at or beyond base. -/
structure PutI (w : World) (LB base : Nat) (T : Nat → Int × Int) (k : Nat) (W : World) : Prop where
  os : W.os = w.os
  tape : W.tape = w.tape
  output : W.output = w.output
  size : base ≤ W.heap.size
  block : ∀ b, b < base → b ≠ LB → W.heap[b]? = w.heap[b]?
  fr : W.frozen? ⟨LB, 0, none⟩ = false
  row : ∃ v, W.cell? ⟨LB, 0, none⟩ = some v ∧ W.ownsRow base 141 2 v k (cellsR T k)

theorem cell_two_new (w : World) (x y : Value) (t : TypeId) : ∀ j u, [x, y][j]? = some u → (w.alloc (.cells #[x, y] t)).cell? ((⟨w.heap.size, 0, none⟩ : Addr).add j) = some u := by
  intro j u hj
  rw [Addr.add_lit, Nat.zero_add]
  rcases j with _ | _ | j
  · cases hj; simp [go_sem]
  · cases hj; simp [go_sem]
  · simp at hj
theorem app2_below {W w1 : World} {base e k s : Nat} {v : Value} {xs : List Value} {tmp : Obj} (hrow : W.ownsRow base e s v k xs) (hb : base ≤ W.heap.size) (hgrow : (W.alloc tmp).grownBy w1 v.ownBlock) : Below base W w1 :=
  ((Below.refl base W).alloc hb tmp).grown hgrow (by simp; omega) (fun j ej => by
    rcases hrow.2 with ⟨rfl, _⟩ | ⟨g, cap, cur, rfl, hg, _⟩
    · simp [Value.ownBlock] at ej
    · obtain rfl : g = j := by simpa [Value.ownBlock] using ej
      exact hg)
theorem row2_set {W : World} {base e k s D x : Nat} {v v2 : Value} {xs : List Value} (hrow : W.ownsRow base e s v k xs) (hD : D < base) : (W.setCell ⟨D, x, none⟩ v2).ownsRow base e s v k xs := by
  refine hrow.kept (row := some D) ⟨rfl, rfl, rfl, by simp [World.setCell], fun j hj hne => Below.heap_setCell _ _ _ j (fun e => hne (by rw [e]))⟩ ?_
  rcases hrow.2 with ⟨rfl, _⟩ | ⟨g, cap, cur, rfl, hg, _⟩
  · exact .inl rfl
  · refine .inr fun e => ?_
    have : g = D := by simpa [Value.ownBlock] using e
    omega

theorem PutI.step {w W w1 : World} {LB base k : Nat} {T : Nat → Int × Int} {v v' : Value} {tmp : Obj} (h : PutI w LB base T k W) (hL : LB < base) (hv : W.cell? ⟨LB, 0, none⟩ = some v) (hrow : W.ownsRow base 141 2 v k (cellsR T k))
    (hown : w1.ownsRow base 141 2 v' (k + 1) (cellsR T (k + 1))) (hgrow : (W.alloc tmp).grownBy w1 v.ownBlock) : (w1.cell? ⟨LB, 0, none⟩ = some v ∧ w1.frozen? ⟨LB, 0, none⟩ = false) ∧ PutI w LB base T (k + 1) (w1.setCell ⟨LB, 0, none⟩ v') := by
  have hb := app2_below hrow h.size hgrow
  have c1 := (hb.cell (p := ⟨LB, 0, none⟩) hL).trans hv
  have f1 := (hb.frozen (p := ⟨LB, 0, none⟩) hL).trans h.fr
  refine ⟨⟨c1, f1⟩, hb.os.trans h.os, hb.tape.trans h.tape, hb.output.trans h.output, by have := h.size; have := hb.size; simp [World.setCell]; omega, fun b hb' hne => ?_, by rw [World.frozen?_setCell]; exact f1, v', by rw [setCell_cell_self, c1]; rfl, row2_set hown hL⟩
  exact (Below.heap_setCell _ _ _ b (fun e => hne e)).trans ((hb.block b hb').trans (h.block b hb' hne))

set_option maxRecDepth 10000 in
set_option maxHeartbeats 2000000 in
theorem put_any (w W : World) (LB base k : Nat) (T : Nat → Int × Int) (at_ x : Int) (hk : k ≤ 1000) (hL : LB < base) (hI : PutI w LB base T k W) (ha : at_ = (T k).1) (hx : x = (T k).2) :
    Calls Try.prog 102 #[.int .i64 at_, .int .i64 x, .pointer (some ⟨LB, 0, none⟩)] W fun e W' => e = .returned (.tuple #[]) ∧ PutI w LB base T (k + 1) W' := by
  obtain ⟨v, hv, hrow⟩ := hI.row
  have hfr := hI.fr
  have hsz := hI.size
  have i1 := infoMo
  have i2 := infoMoz
  obtain ⟨i0, hi⟩ : ∃ i0, Try.prog.info? 141 = some i0 := by
    cases h : Try.prog.info? 141 with
    | none => rw [h] at i1; cases i1
    | some i => exact ⟨i, rfl⟩
  rw [hi] at i1 i2
  simp only [Option.map_some, Option.some.injEq, Prod.mk.injEq] at i1 i2
  have HI := Lib.hid hi
  have HZ : Hid (i0.zero = some (.agg #[.int .i64 0, .int .i64 0])) := i2
  have H1 : Hid (i0.size = 2) := i1.1
  have H2 : Hid (i0.bytes = 16) := i1.2
  have HR := Lib.hid hrow
  have step : Hid (∀ v' w1, w1.ownsRow base 141 2 v' (k + 1) (cellsR T k ++ [.int .i64 at_, .int .i64 x]) → (W.alloc (.cells #[.int .i64 at_, .int .i64 x] 141)).grownBy w1 v.ownBlock →
      (w1.cell? ⟨LB, 0, none⟩ = some v ∧ w1.frozen? ⟨LB, 0, none⟩ = false) ∧ PutI w LB base T (k + 1) (w1.setCell ⟨LB, 0, none⟩ v')) := fun v' w1 ho hg =>
    hI.step hL hv HR.out (by rw [cellsR, ← ha, ← hx]; exact ho) hg
  clear hi i1 i2 hrow hI ha hx
  go_enter Try.func102, Try.ntmps102
  go_wp2_with (at_builtin; refine wpList_append_own _ rfl _ _ 142 rfl base 141 i0 (.agg #[.int .i64 0, .int .i64 0]) 2 16 Try.underlying142 HI.out HZ.out H1.out H2.out rfl (by decide) _ _ _ rfl (HR.out.alloc _) ⟨W.heap.size, 0, none⟩ 1 1 [.int .i64 at_, .int .i64 x] rfl rfl (cell_two_new _ _ _ _) (by simp [Value.oneCell']) (by unfold maxLen; omega) (by omega) (by simp; omega) ?_; (intro v' w1 hown' hgrow _; obtain ⟨g', cap', rfl⟩ := ownsRow_succ hown'; obtain ⟨⟨k1, k2⟩, k3⟩ := step.out _ w1 hown' hgrow; clear hown' hgrow))
  all_goals
    go_returns
    exact ⟨rfl, k3⟩

theorem PutI.below {w W : World} {LB base k k0 : Nat} {T : Nat → Int × Int} (h : PutI w LB base T k W) (hb : base = w.heap.size) (h0 : k0 ≤ LB) (h1 : LB < base) : Below k0 w W :=
  ⟨h.os, h.tape, h.output, by rw [← hb]; exact h.size, fun b hb' => h.block b (by omega) (by omega)⟩
theorem PutI.cell {w W : World} {LB base k : Nat} {T : Nat → Int × Int} (h : PutI w LB base T k W) {b x : Nat} (hb : b < base) (hn : b ≠ LB) : W.cell? ⟨b, x, none⟩ = w.cell? ⟨b, x, none⟩ := World.cell?_of_block (h.block b hb hn)
theorem PutI.frozen {w W : World} {LB base k : Nat} {T : Nat → Int × Int} (h : PutI w LB base T k W) {b x : Nat} (hb : b < base) (hn : b ≠ LB) : W.frozen? ⟨b, x, none⟩ = w.frozen? ⟨b, x, none⟩ := World.frozen?_of_block (h.block b hb hn)
theorem foldT_less {f g : Nat → Int} : ∀ k x, foldT f (fun x => ((x : Int), g x)) k x = if x < k then min (f x) (g x) else f x
  | 0, x => by simp [foldT]
  | k + 1, x => by
    show moreAt (foldT f (fun x => ((x : Int), g x)) k) ((k : Int)).toNat (g k) x = _
    rw [show ((k : Int)).toNat = k from rfl]
    unfold moreAt upd
    by_cases e : x = k
    · subst e
      rw [if_pos rfl, foldT_less x x, if_neg (by omega), if_pos (by omega)]
    · rw [if_neg e, foldT_less k x]
      by_cases h : x < k
      · rw [if_pos h, if_pos (by omega)]
      · rw [if_neg h, if_neg (by omega)]

set_option maxRecDepth 10000 in
set_option maxHeartbeats 4000000 in
theorem meet_in (m : Nat) (p1 p2 : Option Addr) (c1 c2 : Nat) (f1 f2 : Nat → Int) (w : World) (hm0 : 1 ≤ m) (hm4 : m ≤ 4) (hS1 : SlP w p1 (m * m) f1) (hS2 : SlP w p2 (m * m) f2) (hF1 : Fits (m * m) f1) (hF2 : Fits (m * m) f2) (o1 : okD m (m * m) f1 = true) (o2 : okD m (m * m) f2 = true) (r : MR) (hr : r = closeM m (m * m) (lessF f1 f2)) :
    Calls Try.prog 40 #[.agg #[.int .i64 m, .slice p1 (m * m) c1], .agg #[.int .i64 m, .slice p2 (m * m) c2]] w (matC w r.n r.N r.f r.e) := by
  have hq0 : m * m ≤ 4 * 4 := Nat.mul_le_mul hm4 hm4
  have hq1 : 1 * 1 ≤ m * m := Nat.mul_le_mul hm0 hm0
  have hn : fits64 (m : Int) := by unfold fits64; omega
  have K1 : Hid (∀ w', Below w.heap.size w w' → Calls Try.prog 35 #[.agg #[.int .i64 m, .slice p1 (m * m) c1]] w' (Gives w' (.int .i64 0))) := fun w' hb => by
    have := dbmCheck_any m p1 (m * m) c1 f1 w' hn (hS1.below hb) hF1 (by omega)
    rwa [o1] at this
  have K2 : Hid (∀ w', Below w.heap.size w w' → Calls Try.prog 35 #[.agg #[.int .i64 m, .slice p2 (m * m) c2]] w' (Gives w' (.int .i64 0))) := fun w' hb => by
    have := dbmCheck_any m p2 (m * m) c2 f2 w' hn (hS2.below hb) hF2 (by omega)
    rwa [o2] at this
  obtain ⟨B2, off2, rfl, hB2, hc2⟩ := hS2.pos (by omega)
  obtain ⟨N, hN⟩ : ∃ N, N = m * m := ⟨_, rfl⟩
  have WT : Hid (∀ W BL cl, Below w.heap.size w W → HoldsR W BL N (fun x => ((x : Int), f2 x)) → BL < W.heap.size →
      Calls Try.prog 101 #[.agg #[.int .i64 m, .slice p1 N c1], .slice (some ⟨BL, 0, none⟩) N cl] W (matC W r.n r.N r.f r.e)) := fun W BL cl hbw hH hBL => by
    subst hN
    rw [hr]
    refine with_any m p1 (m * m) c1 f1 (some ⟨BL, 0, none⟩) (m * m) cl (fun x => ((x : Int), f2 x)) _ W hn (hS1.below hbw) hF1 (by omega) (by omega) (.inr ⟨BL, 0, rfl, hBL, fun x hx => ?_⟩) (by omega) (fun k hk => ⟨k, rfl, hk⟩) (fun x hx => ?_) (fun x hx => fits_min (hF1 x hx) (hF2 x hx))
    · rw [Nat.zero_add, Nat.zero_add]; exact hH x hx
    · rw [foldT_less, if_pos hx]; rfl
  rw [← hN] at hq0 hq1 hc2 K1 K2 ⊢
  have HC2 := Lib.hid hc2
  clear hr hS1 hS2 hF1 hF2 o1 o2 hn hc2 hN
  go_enter Try.func40, Try.ntmps40
  go_wp2_with (fail)
  refine (K1.out _ (by (repeat' (first | (with_reducible assumption) | (with_reducible exact Below.refl _ _) | (with_reducible refine below_wov ?_ ?_ _) | (with_reducible refine below_drewN ?_ _) | (with_reducible refine Below.drew ?_) | (with_reducible refine Below.alloc ?_ ?_ _) | (with_reducible refine Below.setCell ?_ ?_ _) | (with_reducible exact Nat.le_refl _) | omega | (simp only [World.size_alloc, World.size_setCell, World.size_drew, Wov_size, World.heap_drewN]; omega))))).mono ?_; rintro e w' ⟨rfl, q1, rfl⟩
  go_wp2_with (fail)
  refine (K2.out _ (by (repeat' (first | (with_reducible assumption) | (with_reducible exact Below.refl _ _) | (with_reducible refine below_wov ?_ ?_ _) | (with_reducible refine below_drewN ?_ _) | (with_reducible refine Below.drew ?_) | (with_reducible refine Below.alloc ?_ ?_ _) | (with_reducible refine Below.setCell ?_ ?_ _) | (with_reducible exact Nat.le_refl _) | omega | (simp only [World.size_alloc, World.size_setCell, World.size_drew, Wov_size, World.heap_drewN]; omega))))).mono ?_; rintro e w' ⟨rfl, q2, rfl⟩
  go_wp2
  obtain ⟨LB, hLB⟩ : ∃ LB, w.heap.size + (3 + (q1.bl.size + q2.bl.size)) = LB := ⟨_, rfl⟩
  rw [hLB]
  refine wp_world (fun W => Below w.heap.size w W ∧ w.heap.size + 3 ≤ LB ∧ LB < W.heap.size ∧ W.cell? ⟨w.heap.size, 0, none⟩ = some (.int .i64 m) ∧ W.cell? ⟨w.heap.size, 1, none⟩ = some (.slice p1 N c1) ∧ W.cell? ⟨w.heap.size + 2, 0, none⟩ = some (.int .i64 0) ∧ W.cell? ⟨w.heap.size + 2, 1, none⟩ = some (.slice none 0 0) ∧ W.frozen? ⟨w.heap.size + 2, 0, none⟩ = false ∧ W.frozen? ⟨w.heap.size + 2, 1, none⟩ = false ∧ W.cell? ⟨LB, 0, none⟩ = some (.slice none 0 0) ∧ W.frozen? ⟨LB, 0, none⟩ = false)
    ⟨by (repeat' (first | (with_reducible assumption) | (with_reducible exact Below.refl _ _) | (with_reducible refine below_wov ?_ ?_ _) | (with_reducible refine below_drewN ?_ _) | (with_reducible refine Below.drew ?_) | (with_reducible refine Below.alloc ?_ ?_ _) | (with_reducible refine Below.setCell ?_ ?_ _) | (with_reducible exact Nat.le_refl _) | omega | (simp only [World.size_alloc, World.size_setCell, World.size_drew, Wov_size, World.heap_drewN]; omega))), by omega, by rw [← hLB]; simp only [World.size_alloc, World.size_setCell, Wov_size, Array.size_append]; omega, by simp [go_sem], by simp [go_sem], by simp [go_sem], by simp [go_sem], by simp [go_sem], by simp [go_sem], by rw [← hLB]; simp [go_sem], by rw [← hLB]; simp [go_sem]⟩ ?_
  rintro W ⟨hBw, hwL, hLW, d0, d1, r0, r1, s0, s1, l0, l1⟩
  have hPI : Hid (PutI W LB W.heap.size (fun x => ((x : Int), f2 x)) 0 W) := ⟨rfl, rfl, rfl, Nat.le_refl _, fun _ _ _ => rfl, l1, .slice none 0 0, l0, World.ownsRow_nil _ _ _ _⟩
  have hsz := hBw.size
  have hW0 : w.heap.size < W.heap.size := by omega
  have hW2 : w.heap.size + 2 < W.heap.size := by omega
  have hn0 : w.heap.size ≠ LB := by omega
  have hn2 : w.heap.size + 2 ≠ LB := by omega
  clear K1 K2 hLB l0 l1
  go_loopw [8, 9, 31] (fun _ _ i wr => ∃ t : Nat, t ≤ N ∧ i = .int .i64 t ∧ Hid (PutI W LB W.heap.size (fun x => ((x : Int), f2 x)) t wr))
    (fun _ _ i _ => N - (intOf i).toNat)
  case atStart => exact ⟨0, Nat.zero_le _, rfl, hPI⟩
  case round =>
    clear hPI
    obtain ⟨t, ht, rfl, hI⟩ := hrel
    by_cases hlt : t < N
    · have k2 : wr.cell? ⟨B2, off2 + t, none⟩ = some (.int .i64 (f2 t)) := (hI.out.cell (by omega) (by omega)).trans ((hBw.cell (p := ⟨B2, off2 + t, none⟩) hB2).trans (HC2.out t hlt))
      have PA := Lib.hid (put_any W wr LB W.heap.size t (fun x => ((x : Int), f2 x)) t (f2 t) (by omega) hLW hI.out rfl rfl)
      obtain ⟨v, hv⟩ : ∃ v, v = f2 t := ⟨_, rfl⟩
      rw [← hv] at k2 PA
      have u1 : (0 : Int) ≤ (t : Int) := by omega
      have u2 : (t : Int) < (N : Int) := by omega
      clear hv d0 d1 r0 r1 s0 s1
      go_wp2_with (fail)
      refine PA.out.mono ?_; rintro e w' ⟨rfl, hI2⟩
      have HI2 := Lib.hid hI2
      clear hI2 PA
      go_wp2
      go_roundw
      case rel => exact ⟨t + 1, hlt, by go_num, HI2⟩
      case measure => simp [intOf]; omega
    · have e : t = N := by omega
      subst e
      have c0 := (hI.out.cell (x := 0) hW0 hn0).trans d0
      have c1' := (hI.out.cell (x := 1) hW0 hn0).trans d1
      have y0 := (hI.out.cell (x := 0) hW2 hn2).trans r0
      have y1 := (hI.out.cell (x := 1) hW2 hn2).trans r1
      have y2 := (hI.out.frozen (x := 0) hW2 hn2).trans s0
      have y3 := (hI.out.frozen (x := 1) hW2 hn2).trans s1
      obtain ⟨v, hv, hrow⟩ := hI.out.row
      obtain ⟨BL, cl, rfl, hb1, hb2, hHR⟩ := holdsR_of_row (by omega) hrow
      have b0 : Below w.heap.size w wr := hBw.trans (hI.out.below rfl (by omega) hLW |>.mono (by omega))
      have WC := Lib.hid (WT.out wr BL cl b0 hHR hb2)
      have hszr := hI.out.size
      clear hrow hHR WT d0 d1 r0 r1 s0 s1 hI
      go_wp2_with (fail)
      refine WC.out.mono ?_; rintro e w' ⟨⟨p4, cap4, rfl, ho4⟩, q4, rfl⟩
      have HO := Lib.hid ho4
      clear ho4 WC
      go_wp2
      refine bodyPost_ret (by simp [results, Try.results40, go_sem, y0, y1]; try rfl) rfl ?_
      refine ⟨⟨p4, cap4, rfl, ?_⟩, Wov_of_below ?_⟩
      · exact (HO.out.chg (B := w.heap.size + 2) (by omega) ((Chg.set _ _ _ _).trans (Chg.set _ _ _ _))).later (by omega)
      · exact ((below_wov b0 (by omega) q4).setCell (p := ⟨w.heap.size + 2, 0, none⟩) (by simp) _).setCell (p := ⟨w.heap.size + 2, 1, none⟩) (by simp) _

set_option maxRecDepth 10000 in
set_option maxHeartbeats 2000000 in
theorem meet_any (n1 : Int) (p1 : Option Addr) (N1 c1 : Nat) (f1 : Nat → Int) (n2 : Int) (p2 : Option Addr) (N2 c2 : Nat) (f2 : Nat → Int) (w : World) (hn1 : fits64 n1) (hn2 : fits64 n2) (hS1 : SlP w p1 N1 f1) (hS2 : SlP w p2 N2 f2) (hF1 : Fits N1 f1) (hF2 : Fits N2 f2) (hN1 : N1 ≤ 1000000) (hN2 : N2 ≤ 1000000) :
    Calls Try.prog 40 #[.agg #[.int .i64 n1, .slice p1 N1 c1], .agg #[.int .i64 n2, .slice p2 N2 c2]] w (matC w (meetM n1 N1 f1 n2 N2 f2).n (meetM n1 N1 f1 n2 N2 f2).N (meetM n1 N1 f1 n2 N2 f2).f (meetM n1 N1 f1 n2 N2 f2).e) := by
  have K1 : Hid (∀ w', Below w.heap.size w w' → Calls Try.prog 35 #[.agg #[.int .i64 n1, .slice p1 N1 c1]] w' (Gives w' (.int .i64 (rcode (okD n1 N1 f1))))) := fun w' hb =>
    dbmCheck_any n1 p1 N1 c1 f1 w' hn1 (hS1.below hb) hF1 (by omega)
  have K2 : Hid (∀ w', Below w.heap.size w w' → Calls Try.prog 35 #[.agg #[.int .i64 n2, .slice p2 N2 c2]] w' (Gives w' (.int .i64 (rcode (okD n2 N2 f2))))) := fun w' hb =>
    dbmCheck_any n2 p2 N2 c2 f2 w' hn2 (hS2.below hb) hF2 (by omega)
  cases o1 : okD n1 N1 f1
  · have R : Hid (meetM n1 N1 f1 n2 N2 f2 = errM 8) := by show _ = _; rw [meetM, o1]; rfl
    rw [R.out]
    rw [o1] at K1
    simp only [rcode, if_true, Bool.false_eq_true, if_false] at K1
    clear o1 hS1 hS2 hF1 hF2 K2
    go_enter Try.func40, Try.ntmps40
    go_wp2_with (fail)
    refine (K1.out _ (by (repeat' (first | (with_reducible assumption) | (with_reducible exact Below.refl _ _) | (with_reducible refine below_wov ?_ ?_ _) | (with_reducible refine below_drewN ?_ _) | (with_reducible refine Below.drew ?_) | (with_reducible refine Below.alloc ?_ ?_ _) | (with_reducible refine Below.setCell ?_ ?_ _) | (with_reducible exact Nat.le_refl _) | omega | (simp only [World.size_alloc, World.size_setCell, World.size_drew, Wov_size, World.heap_drewN]; omega))))).mono ?_; rintro e w' ⟨rfl, q1, rfl⟩
    go_wp2
    go_returns
    exact matC_err rfl (by (repeat' (first | (with_reducible assumption) | (with_reducible exact Below.refl _ _) | (with_reducible refine below_wov ?_ ?_ _) | (with_reducible refine below_drewN ?_ _) | (with_reducible refine Below.drew ?_) | (with_reducible refine Below.alloc ?_ ?_ _) | (with_reducible refine Below.setCell ?_ ?_ _) | (with_reducible exact Nat.le_refl _) | omega | (simp only [World.size_alloc, World.size_setCell, World.size_drew, Wov_size, World.heap_drewN]; omega))))
  · rw [o1] at K1
    cases o2 : okD n2 N2 f2
    · have R : Hid (meetM n1 N1 f1 n2 N2 f2 = errM 8) := by show _ = _; rw [meetM, o1, o2]; rfl
      rw [R.out]
      rw [o2] at K2
      simp only [rcode, if_true, Bool.false_eq_true, if_false] at K1 K2
      clear o1 o2 hS1 hS2 hF1 hF2
      go_enter Try.func40, Try.ntmps40
      go_wp2_with (fail)
      refine (K1.out _ (by (repeat' (first | (with_reducible assumption) | (with_reducible exact Below.refl _ _) | (with_reducible refine below_wov ?_ ?_ _) | (with_reducible refine below_drewN ?_ _) | (with_reducible refine Below.drew ?_) | (with_reducible refine Below.alloc ?_ ?_ _) | (with_reducible refine Below.setCell ?_ ?_ _) | (with_reducible exact Nat.le_refl _) | omega | (simp only [World.size_alloc, World.size_setCell, World.size_drew, Wov_size, World.heap_drewN]; omega))))).mono ?_; rintro e w' ⟨rfl, q1, rfl⟩
      go_wp2_with (fail)
      refine (K2.out _ (by (repeat' (first | (with_reducible assumption) | (with_reducible exact Below.refl _ _) | (with_reducible refine below_wov ?_ ?_ _) | (with_reducible refine below_drewN ?_ _) | (with_reducible refine Below.drew ?_) | (with_reducible refine Below.alloc ?_ ?_ _) | (with_reducible refine Below.setCell ?_ ?_ _) | (with_reducible exact Nat.le_refl _) | omega | (simp only [World.size_alloc, World.size_setCell, World.size_drew, Wov_size, World.heap_drewN]; omega))))).mono ?_; rintro e w' ⟨rfl, q2, rfl⟩
      go_wp2
      go_returns
      exact matC_err rfl (by (repeat' (first | (with_reducible assumption) | (with_reducible exact Below.refl _ _) | (with_reducible refine below_wov ?_ ?_ _) | (with_reducible refine below_drewN ?_ _) | (with_reducible refine Below.drew ?_) | (with_reducible refine Below.alloc ?_ ?_ _) | (with_reducible refine Below.setCell ?_ ?_ _) | (with_reducible exact Nat.le_refl _) | omega | (simp only [World.size_alloc, World.size_setCell, World.size_drew, Wov_size, World.heap_drewN]; omega))))
    · by_cases hne : n1 = n2
      · subst hne
        obtain ⟨m, rfl, rfl, hm0, hm4⟩ := okD_form o1
        obtain ⟨m', hm', rfl, _, _⟩ := okD_form o2
        obtain rfl : m = m' := by omega
        exact meet_in m p1 p2 c1 c2 f1 f2 w hm0 hm4 hS1 hS2 hF1 hF2 o1 o2 _ (by rw [meetM, o1, o2]; simp)
      · have R : Hid (meetM n1 N1 f1 n2 N2 f2 = errM 40) := by show _ = _; rw [meetM, o1, o2]; simp [hne]
        rw [R.out]
        rw [o2] at K2
        simp only [rcode, if_true, Bool.false_eq_true, if_false] at K1 K2
        have bne : (n1 != n2) = true := by rw [bne_iff_ne]; exact hne
        clear o1 o2 hS1 hS2 hF1 hF2
        go_enter Try.func40, Try.ntmps40
        go_wp2_with (fail)
        refine (K1.out _ (by (repeat' (first | (with_reducible assumption) | (with_reducible exact Below.refl _ _) | (with_reducible refine below_wov ?_ ?_ _) | (with_reducible refine below_drewN ?_ _) | (with_reducible refine Below.drew ?_) | (with_reducible refine Below.alloc ?_ ?_ _) | (with_reducible refine Below.setCell ?_ ?_ _) | (with_reducible exact Nat.le_refl _) | omega | (simp only [World.size_alloc, World.size_setCell, World.size_drew, Wov_size, World.heap_drewN]; omega))))).mono ?_; rintro e w' ⟨rfl, q1, rfl⟩
        go_wp2_with (fail)
        refine (K2.out _ (by (repeat' (first | (with_reducible assumption) | (with_reducible exact Below.refl _ _) | (with_reducible refine below_wov ?_ ?_ _) | (with_reducible refine below_drewN ?_ _) | (with_reducible refine Below.drew ?_) | (with_reducible refine Below.alloc ?_ ?_ _) | (with_reducible refine Below.setCell ?_ ?_ _) | (with_reducible exact Nat.le_refl _) | omega | (simp only [World.size_alloc, World.size_setCell, World.size_drew, Wov_size, World.heap_drewN]; omega))))).mono ?_; rintro e w' ⟨rfl, q2, rfl⟩
        go_wp2
        go_returns
        exact matC_err rfl (by (repeat' (first | (with_reducible assumption) | (with_reducible exact Below.refl _ _) | (with_reducible refine below_wov ?_ ?_ _) | (with_reducible refine below_drewN ?_ _) | (with_reducible refine Below.drew ?_) | (with_reducible refine Below.alloc ?_ ?_ _) | (with_reducible refine Below.setCell ?_ ?_ _) | (with_reducible exact Nat.le_refl _) | omega | (simp only [World.size_alloc, World.size_setCell, World.size_drew, Wov_size, World.heap_drewN]; omega))))
#print axioms meet_any
end Go.Proofs.Ytlcbpckinjkfeaa
