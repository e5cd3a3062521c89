/- Contracts of the document's turned and other (layer 6). -/
import Derived.Test.YtpaomeilfmeheaaGreatG14
import Derived.Deep.RegionLaw
import Derived.Test.YtpaomeilfmeheaaGreatG10
namespace Go.Proofs.YtpaomeilfmeheaaGreat
set_option linter.unusedSimpArgs false
set_option linter.unusedVariables false
open Go Go.RowKit Go.Shelf
attribute [local go_sem] Nat.add_assoc Nat.add_lt_add_iff_left lit_lt_add

def rowR (w : World) (M : Nat) (T : Nat → Int × Int) (e : Ending) (W : World) : Prop := (∃ p cap, e = .returned (.slice p M cap) ∧ SlR W p M T) ∧ ∃ q, W = Wov w q
theorem q8T_neg (t : Nat → Int) (k : Nat) : q8T (fun k => -(t k)) k = (-(q8T t k).1, (q8T t k).2) := q8_neg (t k)

set_option maxRecDepth 10000 in
set_option maxHeartbeats 4000000 in
theorem turned_any (m : Nat) (p : Option Addr) (c : Nat) (t : Nat → Int) (w : World) (hm0 : 1 ≤ m) (hm : m ≤ 1000) (hS : SlR w p m (q8T t)) (ht : ∀ k, k < m → ok8 (t k)) :
    Calls Tryz.prog 116 #[.slice p m c] w (rowR w m (q8T (fun k => -(t k)))) := by
  obtain ⟨B2, o2, rfl, hB2, hc2⟩ := hS.resolve_left (by omega)
  have HC2 := Lib.hid hc2
  have HT := Lib.hid ht
  have i1 := infoR
  have i2 := infoRz
  obtain ⟨i0, hi⟩ : ∃ i0, Tryz.prog.info? 29 = some i0 := by
    cases h : Tryz.prog.info? 29 with
    | none => rw [h] at i1; cases i1
    | some i => exact ⟨i, rfl⟩
  rw [hi] at i1 i2
  simp only [Option.map_some, Option.some.injEq, Prod.mk.injEq] at i1 i2
  have HI := Lib.hid hi
  have HZ : Hid (i0.zero = some (.agg #[.int .i64 0, .int .i64 0])) := i2
  have H1 : Hid (i0.size = 2) := i1.1
  have H2 : Hid (i0.bytes = 16) := i1.2
  clear hi i1 i2 hc2 ht hS
  go_enter Tryz.func116, Tryz.ntmps116
  go_wp2
  go_loopw [3, 4] (fun v i wr => ∃ (k : Nat) (v0 : Value), k ≤ m ∧ i = .int .i64 k ∧ v = v0 ∧ Below w.heap.size w wr ∧ Hid (wr.ownsRow w.heap.size 29 2 v0 k (cellsR (q8T (fun k => -(t k))) k)))
    (fun _ i _ => m - (intOf i).toNat)
  case atStart => exact ⟨0, _, Nat.zero_le _, rfl, rfl, Below.refl _ _, World.ownsRow_nil _ _ _ _⟩
  case round =>
    obtain ⟨k, v, hk, rfl, hvv, hB, hR⟩ := hrel
    obtain rfl := hvv.symm
    have hszr := hB.size
    by_cases hlt : k < m
    · obtain ⟨x1, x2⟩ := HC2.out k hlt
      have y1 := (hB.cell (p := ⟨B2, o2 + k * 2, none⟩) hB2).trans x1
      have y2 := (hB.cell (p := ⟨B2, o2 + (k * 2 + 1), none⟩) hB2).trans x2
      have hn := q8T_neg t k
      have hf := q8_fits (HT.out k hlt).neg
      have hf1 : fits64 (-(q8T t k).1) := by rw [show q8 (-(t k)) = q8T (fun k => -(t k)) k from rfl, hn] at hf; exact hf
      obtain ⟨ta, td, htt⟩ : ∃ ta td, q8T t k = (ta, td) := ⟨_, _, rfl⟩
      rw [htt] at y1 y2 hn hf1
      simp only at y1 y2 hn hf1
      have hw : IntKind.i64.wrap (0 - ta) = -ta := by unfold fits64 at hf1; rw [IntWalk.i64_in _ (by omega)]; omega
      have hw2 : IntKind.i64.wrap (-ta) = -ta := by unfold fits64 at hf1; rw [IntWalk.i64_in _ (by omega)]
      have hnn := Lib.hid hn
      clear x1 x2 hn hf hf1 htt
      go_wp2
      have hB2r : B2 < wr.heap.size := by omega
      have step : Hid (∀ v' w1, w1.ownsRow w.heap.size 29 2 v' (k + 1) (cellsR (q8T (fun k => -(t k))) k ++ [.int .i64 (-ta), .int .i64 td]) → (wr.drew.alloc (.cells #[.int .i64 (-ta), .int .i64 td] 29)).grownBy w1 v.ownBlock →
          Below w.heap.size w w1 ∧ w1.ownsRow w.heap.size 29 2 v' (k + 1) (cellsR (q8T (fun k => -(t k))) (k + 1)) ∧ w1.cell? ⟨B2, o2 + k * 2, none⟩ = some (.int .i64 ta) ∧ w1.cell? ⟨B2, o2 + (k * 2 + 1), none⟩ = some (.int .i64 td)) := fun v' w1 ho hg => by
        have hb := (hB.drew : Below w.heap.size w wr.drew).trans (app2_below (row_later hR.out (V := wr.drew) (Below.refl _ _).drew) (show w.heap.size ≤ wr.heap.size by omega) hg)
        refine ⟨hb, ?_, ?_, ?_⟩
        · show w1.ownsRow _ _ _ _ _ (cellsR _ k ++ [.int .i64 (q8T (fun k => -(t k)) k).1, .int .i64 (q8T (fun k => -(t k)) k).2])
          rw [hnn.out]; exact ho
        · exact (hb.cell (p := ⟨B2, o2 + k * 2, none⟩) hB2).trans (((hB.cell (p := ⟨B2, o2 + k * 2, none⟩) hB2).symm).trans y1)
        · exact (hb.cell (p := ⟨B2, o2 + (k * 2 + 1), none⟩) hB2).trans (((hB.cell (p := ⟨B2, o2 + (k * 2 + 1), none⟩) hB2).symm).trans y2)
      go_region_held3 (fun w' => w'.cell? ⟨B2, o2 + k * 2, none⟩ = some (.int .i64 ta) ∧ w'.cell? ⟨B2, o2 + (k * 2 + 1), none⟩ = some (.int .i64 td))
        ((simp [go_sem, *]))
        ((refine step_append_lies _ (by rfl) _ _ 67 (by rfl) w.heap.size 29 i0 (.agg #[.int .i64 0, .int .i64 0]) 2 16 Tryz.underlying67 HI.out HZ.out H1.out H2.out rfl (by decide) v k (cellsR (q8T (fun k => -(t k))) k) (by simp [Act.eval, Act.put]) (row_later hR.out (by (repeat' (first | (with_reducible assumption) | (with_reducible exact Below.refl _ _) | (with_reducible refine below_wov ?_ ?_ _) | (with_reducible refine below_drewN ?_ _) | (with_reducible refine Below.drew ?_) | (with_reducible refine Below.alloc ?_ ?_ _) | (with_reducible refine Below.setCell ?_ ?_ _) | (with_reducible exact Nat.le_refl _) | omega | (simp only [World.size_alloc, World.size_setCell, World.size_drew, Wov_size, World.heap_drewN]; omega))))) ⟨wr.heap.size, 0, none⟩ 1 1 [.int .i64 (-ta), .int .i64 td] (by simp [Act.eval, Act.put]) rfl (cell_two_new wr.drew _ _ _) (by simp [Value.oneCell']) (by omega) (by unfold maxLen; omega) (by omega) (by simp; omega) _ rfl ?_
          intro g cap2 w1 hown hgrow hat hgl
          obtain ⟨k2, k3, k4, k5⟩ := step.out _ w1 hown hgrow
          clear hown hgrow hat))
      all_goals go_wp2
      go_roundw
      case rel => exact ⟨k + 1, _, hlt, by go_num, rfl, k2, k3⟩
      case measure => simp [intOf]; omega
    · obtain rfl : k = m := by omega
      obtain ⟨g, cp, rfl, hg1, hg2, hg3⟩ := holdsR_of_row (by omega) hR.out
      have hres := Lib.hid (slR_of hg3 hg2)
      clear hg3 hR HC2 HT
      go_wp2
      go_returns
      exact ⟨⟨_, _, rfl, hres.out⟩, Wov_of_below hB⟩

theorem one_at {X : World} {A : Nat} {v : Value} (h : X.cell? ⟨A, 0, none⟩ = some v) : ∀ j u, [v][j]? = some u → X.cell? ((⟨A, 0, none⟩ : Addr).add j) = some u := by
  intro j u hj
  rcases j with _ | j
  · cases hj; rw [Addr.add_lit]; exact h
  · simp at hj
/-- A matrix turned over. -/
def flipF (n : Nat) (f : Nat → Int) : Nat → Int := fun x => f (x % n * n + x / n)
theorem flipF_at {n i j : Nat} {f : Nat → Int} (hj : j < n) : flipF n f (i * n + j) = f (j * n + i) := by
  unfold flipF
  rw [show (i * n + j) % n = j from by rw [Nat.mul_comm, Nat.mul_add_mod]; exact Nat.mod_eq_of_lt hj, show (i * n + j) / n = i from by rw [Nat.mul_comm, Nat.mul_add_div (by omega), Nat.div_eq_of_lt hj, Nat.add_zero]]

/-- What holds between two rounds of other. -/
structure OthI (w : World) (n N : Nat) (p : Option Addr) (c : Nat) (vs : List Value) (W : World) : Prop where
  top : TopI w n (w.heap.size + 1) (w.heap.size + 2) (w.heap.size + 3) vs W
  b0 : W.cell? ⟨w.heap.size, 0, none⟩ = some (.int .i64 n)
  b1 : W.cell? ⟨w.heap.size, 1, none⟩ = some (.slice p N c)
theorem OthI.step {w W w1 : World} {n N : Nat} {p : Option Addr} {c : Nat} {vs : List Value} {v v' u : Value} {tmp : Obj} (h : OthI w n N p c vs W) (hv : W.cell? ⟨w.heap.size + 2, 1, none⟩ = some v) (hrow : W.ownsRow (w.heap.size + 3) 22 1 v vs.length vs)
    (hown : w1.ownsRow (w.heap.size + 3) 22 1 v' (vs.length + 1) (vs ++ [u])) (hgrow : (W.alloc tmp).grownBy w1 v.ownBlock) : OthI w n N p c (vs ++ [u]) (w1.setCell ⟨w.heap.size + 2, 1, none⟩ v') := by
  have hb := app_below hrow h.top.size hgrow
  have k := fun x => (hb.cell (p := ⟨w.heap.size, x, none⟩) (show w.heap.size < w.heap.size + 3 by omega))
  refine ⟨h.top.step (by omega) (by omega) (by omega) hv hrow hown hgrow, ?_, ?_⟩
  · rw [World.cell?_setCell_other _ _ _ _ (fun e => by have := congrArg Addr.block e; simp at this)]; exact (k 0).trans h.b0
  · rw [World.cell?_setCell_other _ _ _ _ (fun e => by have := congrArg Addr.block e; simp at this)]; exact (k 1).trans h.b1
theorem OthI.later {w W V : World} {n N : Nat} {p : Option Addr} {c : Nat} {vs : List Value} (h : OthI w n N p c vs W) (hb : Below W.heap.size W V) : OthI w n N p c vs V := by
  have hs := h.top.size
  have k := fun b x (hx : b < w.heap.size + 3) => hb.cell (p := ⟨b, x, none⟩) (show b < W.heap.size by omega)
  have f := fun b x (hx : b < w.heap.size + 3) => hb.frozen (p := ⟨b, x, none⟩) (show b < W.heap.size by omega)
  obtain ⟨v, hv, hr⟩ := h.top.row
  exact ⟨⟨h.top.below.trans (hb.mono h.top.below.size), by have := hb.size; omega, (k _ _ (by omega)).trans h.top.d0, (k _ _ (by omega)).trans h.top.res0, (k _ _ (by omega)).trans h.top.res1, (f _ _ (by omega)).trans h.top.fr0, (f _ _ (by omega)).trans h.top.fr1, (f _ _ (by omega)).trans h.top.fd, v, (k _ _ (by omega)).trans hv, row_later hr hb⟩, (k _ _ (by omega)).trans h.b0, (k _ _ (by omega)).trans h.b1⟩

set_option maxRecDepth 10000 in
set_option maxHeartbeats 8000000 in
theorem other_any (n : Nat) (p : Option Addr) (c : Nat) (f : Nat → Int) (w : World) (hn0 : 1 ≤ n) (hn : n ≤ 4) (hS : SlP w p (n * n) f) :
    Calls Tryz.prog 115 #[.agg #[.int .i64 n, .slice p (n * n) c]] w (rowPost w n (n * n) (flipF n f)) := by
  have hq1 : 1 * 1 ≤ n * n := Nat.mul_le_mul hn0 hn0
  have hq0 : n * n ≤ 4 * 4 := Nat.mul_le_mul hn hn
  obtain ⟨B1, o1, rfl, hB1, hc1⟩ := hS.pos (by omega)
  have HC := Lib.hid hc1
  have PL := Lib.hid (fun i j (hi : i < n) (hj : j < n) => place_lt hi hj)
  have FA := Lib.hid (fun i j (hj : j < n) => flipF_at (f := f) (i := i) hj)
  obtain ⟨F, hF⟩ : ∃ F, F = flipF n f := ⟨_, rfl⟩
  rw [← hF] at FA ⊢
  obtain ⟨N, hN⟩ : ∃ N, N = n * n := ⟨_, rfl⟩
  rw [← hN] at HC PL hq0 hq1 ⊢
  have hHN := Lib.hid hN
  obtain ⟨i0, hi, hz0, hz1, hz2⟩ := info_parts infoB
  have HI := Lib.hid hi
  have HZ := Lib.hid hz0
  have H1 := Lib.hid hz1
  have H2 := Lib.hid hz2
  clear hi hz0 hz1 hz2 hF hN hc1 hS
  go_enter Tryz.func115, Tryz.ntmps115
  go_wp2
  refine wp_world (fun W => OthI w n N (some ⟨B1, o1, none⟩) c [] W) ⟨⟨by (repeat' (first | (with_reducible assumption) | (with_reducible exact Below.refl _ _) | (with_reducible refine below_wov ?_ ?_ _) | (with_reducible refine below_drewN ?_ _) | (with_reducible refine Below.drew ?_) | (with_reducible refine Below.alloc ?_ ?_ _) | (with_reducible refine Below.setCell ?_ ?_ _) | (with_reducible exact Nat.le_refl _) | omega | (simp only [World.size_alloc, World.size_setCell, World.size_drew, Wov_size, World.heap_drewN]; omega))), by simp, by simp [go_sem], by simp [go_sem], by simp [go_sem], by simp [go_sem], by simp [go_sem], by simp [go_sem], .slice none 0 0, by simp [go_sem], World.ownsRow_nil _ _ _ _⟩, by simp [go_sem], by simp [go_sem]⟩ ?_
  intro W hI
  go_loopw [4] (fun i wr => ∃ t : Nat, t ≤ n ∧ i = .int .i64 t ∧ Hid (OthI w n N (some ⟨B1, o1, none⟩) c (cellsI (t * n) F) wr))
    (fun i _ => n - (intOf i).toNat)
  case atStart => exact ⟨0, Nat.zero_le _, rfl, by rw [Nat.zero_mul]; exact hI⟩
  case round =>
    obtain ⟨t, ht, rfl, hI'⟩ := hrel
    clear hI
    have b0 := hI'.out.b0
    have b1 := hI'.out.b1
    by_cases hlt : t < n
    · go_wp2
      go_loopw [5] (fun j wr => ∃ s : Nat, s ≤ n ∧ j = .int .i64 s ∧ Hid (OthI w n N (some ⟨B1, o1, none⟩) c (cellsI (t * n + s) F) wr))
        (fun j _ => n - (intOf j).toNat)
      case atStart => exact ⟨0, Nat.zero_le _, rfl, hI'⟩
      case round =>
        obtain ⟨s, hs, rfl, hI2⟩ := hrel
        clear b0 b1 hI'
        have b0 := hI2.out.b0
        have b1 := hI2.out.b1
        have kB := hI2.out.top.below
        have ksz := hI2.out.top.size
        by_cases hls : s < n
        · obtain ⟨v, hv, hrow⟩ := hI2.out.top.row
          have hfd := hI2.out.top.fd
          rw [cellsI_len] at hrow
          have HR := Lib.hid hrow
          obtain ⟨q, hHq⟩ : ∃ q : Nat, Hid (q = s * n) := ⟨_, rfl⟩
          have hqm : (s : Int) * (n : Int) = (q : Int) := by rw [hHq.out]; push_cast; rfl
          have hx := PL.out s t hls hlt
          have hx2 := PL.out t s hlt hls
          rw [← hHq.out] at hx
          obtain ⟨u, hHu⟩ : ∃ u, Hid (u = f (q + t)) := ⟨_, rfl⟩
          have kd := (kB.cell (p := ⟨B1, o1 + (q + t), none⟩) hB1).trans (HC.out (q + t) hx)
          rw [← hHu.out] at kd
          have hFu : Hid (u = F (t * n + s)) := by show _ = _; rw [FA.out t s hls, hHu.out, hHq.out]
          have step : Hid (∀ v' w1, w1.ownsRow (w.heap.size + 3) 22 1 v' (t * n + s + 1) (cellsI (t * n + s) F ++ [.int .i64 u]) → (wr.drew.alloc (.cells #[.int .i64 u] 22)).grownBy w1 v.ownBlock →
              (w1.cell? ⟨w.heap.size + 2, 1, none⟩ = some v ∧ w1.frozen? ⟨w.heap.size + 2, 1, none⟩ = false) ∧
              OthI w n N (some ⟨B1, o1, none⟩) c (cellsI (t * n + (s + 1)) F) (w1.setCell ⟨w.heap.size + 2, 1, none⟩ v')) := fun v' w1 hown hgrow => by
            have hdr := hI2.out.later (V := wr.drew) (Below.refl _ _).drew
            have hrd := row_later HR.out (V := wr.drew) (Below.refl _ _).drew
            have hb := app_below hrd hdr.top.size hgrow
            have hvd : wr.drew.cell? ⟨w.heap.size + 2, 1, none⟩ = some v := hv
            have hst := hdr.step hvd (by rw [cellsI_len]; exact hrd) (by rw [cellsI_len]; exact hown) hgrow
            refine ⟨⟨(hb.cell (p := ⟨w.heap.size + 2, 1, none⟩) (by simp)).trans hvd, (hb.frozen (p := ⟨w.heap.size + 2, 1, none⟩) (by simp)).trans hfd⟩, ?_⟩
            rw [← Nat.add_assoc, cellsI_succ, ← hFu.out]; exact hst
          have j1 : (0 : Int) ≤ (q : Int) + (t : Int) := by omega
          have j2 : (q : Int) + (t : Int) < (N : Int) := by omega
          have j3 : ((q : Int) + (t : Int)).toNat = q + t := by omega
          have j4 : IntKind.i64.wrap (q : Int) = (q : Int) := IntWalk.i64_in _ (by omega)
          have j5 : IntKind.i64.wrap ((q : Int) + (t : Int)) = (q : Int) + (t : Int) := IntWalk.i64_in _ (by omega)
          have hB1r : B1 < wr.heap.size := by have := kB.size; omega
          have z0 : w.heap.size < wr.heap.size := by omega
          have z2 : w.heap.size + 2 < wr.heap.size := by omega
          have HX := Lib.hid hv
          clear hrow
          go_wp2
          go_region_law ((refine step_append_lies _ (by rfl) _ _ 25 (by rfl) (w.heap.size + 3) 22 i0 (.int .i64 0) 1 8 Tryz.underlying25 HI.out HZ.out H1.out H2.out rfl (by decide) v (t * n + s) (cellsI (t * n + s) F) (by simp [Act.eval, Act.put]) (row_later HR.out (by (repeat' (first | (with_reducible assumption) | (with_reducible exact Below.refl _ _) | (with_reducible refine below_wov ?_ ?_ _) | (with_reducible refine below_drewN ?_ _) | (with_reducible refine Below.drew ?_) | (with_reducible refine Below.alloc ?_ ?_ _) | (with_reducible refine Below.setCell ?_ ?_ _) | (with_reducible exact Nat.le_refl _) | omega | (simp only [World.size_alloc, World.size_setCell, World.size_drew, Wov_size, World.heap_drewN]; omega))))) ⟨wr.heap.size, 0, none⟩ 1 1 [.int .i64 u] (by simp [Act.eval, Act.put]) rfl (one_at (by simp [go_sem])) (by simp [Value.oneCell']) (by omega) (by unfold maxLen; omega) (by omega) (by simp; omega) _ rfl ?_
                          intro g cap2 w1 hown hgrow hat hgl
                          obtain ⟨⟨k1, k2⟩, k3⟩ := step.out _ w1 hown hgrow
                          clear hown hgrow hat))
          all_goals
            go_wp2
            go_roundw
            case rel => exact ⟨s + 1, hls, by go_num, k3⟩
            case measure => simp [intOf]; omega
        · obtain rfl : s = n := by omega
          go_wp2
          go_roundw
          case rel =>
            refine ⟨t + 1, hlt, by go_num, ?_⟩
            have := hI2.out
            show OthI _ _ _ _ _ _ _
            rw [show (t + 1) * s = t * s + s by rw [Nat.add_mul, Nat.one_mul]]
            exact this
          case measure => simp [intOf]; omega
    · obtain rfl : t = n := by omega
      obtain ⟨v, hv, hrow⟩ := hI'.out.top.row
      rw [cellsI_len] at hrow
      obtain ⟨B, cap, rfl, hb1, hb2, hH⟩ := holds_of_row (by rw [← hHN.out]; omega) hrow
      have d0 := hI'.out.top.d0
      have r0 := hI'.out.top.res0
      have r1 := hI'.out.top.res1
      have s0 := hI'.out.top.fr0
      have s1 := hI'.out.top.fr1
      have hbl := hI'.out.top.below
      have HH : Hid (HoldsI wr B N F) := by rw [hHN.out]; exact hH
      have HNN := Lib.hid hHN.out
      rw [← hHN.out] at hv
      clear hI' hrow hH
      go_wp2
      refine bodyPost_ret (by simp [results, Tryz.results115, go_sem, r0, r1]; try rfl) rfl ?_
      refine ⟨B, cap, rfl, by omega, by simp [World.setCell]; omega, ?_, Wov_of_below ((hbl.setCell (p := ⟨w.heap.size + 1, 0, none⟩) (by simp) _).setCell (p := ⟨w.heap.size + 1, 1, none⟩) (by simp) _)⟩
      exact HH.out.of_block (((Chg.set wr (w.heap.size + 1) 0 _).trans (Chg.set _ (w.heap.size + 1) 1 _)).block B hb2 (by omega))
end Go.Proofs.YtpaomeilfmeheaaGreat
