/- Contracts of the document's shift, low and SameTimes (layer 6). -/
import Derived.Test.YtpaomeilfmeheaaGreatG9
namespace Go.Proofs.YtpaomeilfmeheaaGreat
set_option linter.unusedSimpArgs false
set_option linter.unusedVariables false
open Go Go.RowKit Go.Shelf
attribute [local go_sem] Nat.add_assoc Nat.add_lt_add_iff_left lit_lt_add

set_option maxRecDepth 10000 in
set_option maxHeartbeats 1000000 in
theorem refShift_any (t n : Int) (ht : ok8 t) (hn : ok8 (8 * n)) (hr : ok8 (t + 8 * n)) :
    Pure Tryz.prog 118 #[.agg #[.int .i64 (q8 t).1, .int .i64 (q8 t).2], .int .i64 n] (.agg #[.int .i64 (q8 (t + 8 * n)).1, .int .i64 (q8 (t + 8 * n)).2]) := by
  intro w
  have hfn := ok8_fits hn
  have hft := q8_fits ht
  have K2 : Hid (Pure Tryz.prog 127 #[.agg #[.int .i64 (q8 t).1, .int .i64 (q8 t).2], .agg #[.int .i64 n, .int .i64 1]] (.tuple #[.agg #[.int .i64 (q8 (t + 8 * n)).1, .int .i64 (q8 (t + 8 * n)).2], .int .i64 0])) := by
    have := refAdd_any (q8 t).1 (q8 t).2 n 1 hft hfn
    rw [add8 ht hn hr] at this; exact this
  generalize (q8 t).1 = a at *
  generalize (q8 t).2 = b at *
  generalize (q8 (t + 8 * n)).1 = c at *
  generalize (q8 (t + 8 * n)).2 = d at *
  clear ht hn hr hft hfn
  go_enter Tryz.func118, Tryz.ntmps118
  go_wp2_with (fail)
  refine (K2.out _).mono ?_; rintro e w' ⟨rfl, q2, rfl⟩
  go_wp2
  go_returns
  exact gives_end rfl (by (repeat' (first | (with_reducible assumption) | (with_reducible exact Below.refl _ _) | (with_reducible refine below_wov ?_ ?_ _) | (with_reducible refine below_drewN ?_ _) | (with_reducible refine Below.drew ?_) | (with_reducible refine Below.alloc ?_ ?_ _) | (with_reducible refine Below.setCell ?_ ?_ _) | (with_reducible exact Nat.le_refl _) | omega | (simp only [World.size_alloc, World.size_setCell, World.size_drew, Wov_size, World.heap_drewN]; omega))))

/-- An end as the document holds it: whether there is one, where (eighths; 0 where there is none), whether it is strict. -/
def lowS : EndE → Bool × Int × Bool
  | none => (false, 0, false)
  | some (y, s) => (true, y, s)
theorem lowS_ok {x : EndE} (h : EOK x) : ok8 (lowS x).2.1 := by
  rcases x with _ | ⟨y, s⟩
  · exact ⟨by decide, by decide, by decide⟩
  · exact h y s rfl
theorem lowS_none (x : EndE) (t : Int) : lowS (lowE x noneB t) = lowS x := by unfold lowE; rw [if_pos rfl]
/-- One bound more, in the document's words. -/
theorem lowS_step {x : EndE} {b t u : Int} {i s : Bool} {y : Int} (hb : b ≠ noneB) (hu : u = t - 8 * (b / 2)) (h : lowS x = (i, y, s)) :
    lowS (lowE x b t) = (true, if i = false ∨ y < u then u else y, if i = false ∨ y < u then bstr b else if u = y then s || bstr b else s) := by
  unfold lowE
  rw [if_neg hb, ← hu]
  rcases x with _ | ⟨y', s'⟩
  · simp only [lowS, Prod.mk.injEq] at h
    obtain ⟨rfl, rfl, rfl⟩ := h
    simp [lowS]
  · simp only [lowS, Prod.mk.injEq] at h
    obtain ⟨rfl, rfl, rfl⟩ := h
    simp only [Bool.true_eq_false, false_or]
    by_cases h1 : y' < u
    · rw [if_pos h1, if_pos h1, if_pos h1]; rfl
    · rw [if_neg h1, if_neg h1, if_neg h1]
      by_cases h2 : u = y'
      · rw [if_pos h2, if_pos h2]; rfl
      · rw [if_neg h2, if_neg h2]; rfl

/-- What stays while the document puts one end together. -/
structure LowI (w : World) (n N : Nat) (p : Option Addr) (c : Nat) (y : Int) (W : World) : Prop where
  below : Below w.heap.size w W
  size : w.heap.size + 2 < W.heap.size
  d0 : W.cell? ⟨w.heap.size, 0, none⟩ = some (.int .i64 n)
  d1 : W.cell? ⟨w.heap.size, 1, none⟩ = some (.slice p N c)
  r0 : W.cell? ⟨w.heap.size + 1, 0, none⟩ = some (.int .i64 0)
  r1 : W.cell? ⟨w.heap.size + 1, 1, none⟩ = some (.int .i64 0)
  z0 : W.frozen? ⟨w.heap.size + 1, 0, none⟩ = false
  z1 : W.frozen? ⟨w.heap.size + 1, 1, none⟩ = false
  t0 : W.cell? ⟨w.heap.size + 2, 0, none⟩ = some (.int .i64 (q8 y).1)
  t1 : W.cell? ⟨w.heap.size + 2, 1, none⟩ = some (.int .i64 (q8 y).2)
  y0 : W.frozen? ⟨w.heap.size + 2, 0, none⟩ = false
  y1 : W.frozen? ⟨w.heap.size + 2, 1, none⟩ = false
theorem LowI.later {w : World} {n N : Nat} {p : Option Addr} {c : Nat} {y : Int} {W V : World} (h : LowI w n N p c y W) (hb : Below W.heap.size W V) : LowI w n N p c y V := by
  have hs := h.size
  have k := fun b x (hx : b < w.heap.size + 3) => hb.cell (p := ⟨b, x, none⟩) (show b < W.heap.size by omega)
  have f := fun b x (hx : b < w.heap.size + 3) => hb.frozen (p := ⟨b, x, none⟩) (show b < W.heap.size by omega)
  exact ⟨h.below.trans (hb.mono h.below.size), by have := hb.size; omega, (k _ _ (by omega)).trans h.d0, (k _ _ (by omega)).trans h.d1, (k _ _ (by omega)).trans h.r0, (k _ _ (by omega)).trans h.r1, (f _ _ (by omega)).trans h.z0, (f _ _ (by omega)).trans h.z1, (k _ _ (by omega)).trans h.t0, (k _ _ (by omega)).trans h.t1, (f _ _ (by omega)).trans h.y0, (f _ _ (by omega)).trans h.y1⟩
theorem LowI.set {w : World} {n N : Nat} {p : Option Addr} {c : Nat} {y : Int} {W : World} (h : LowI w n N p c y W) (u : Int) : LowI w n N p c u ((W.setCell ⟨w.heap.size + 2, 0, none⟩ (.int .i64 (q8 u).1)).setCell ⟨w.heap.size + 2, 1, none⟩ (.int .i64 (q8 u).2)) := by
  have hs := h.size
  have hc := (Chg.set W (w.heap.size + 2) 0 (.int .i64 (q8 u).1)).trans (Chg.set _ (w.heap.size + 2) 1 (.int .i64 (q8 u).2))
  have k := fun b x (hx : b < w.heap.size + 2) => hc.cell (b := b) (x := x) (by omega) (by omega)
  have f := fun b x (hx : b < w.heap.size + 2) => hc.frozen (b := b) (x := x) (by omega) (by omega)
  refine ⟨h.below.trans (hc.belowAt (by omega) h.below.size), by have := hc.size; omega, (k _ _ (by omega)).trans h.d0, (k _ _ (by omega)).trans h.d1, (k _ _ (by omega)).trans h.r0, (k _ _ (by omega)).trans h.r1, (f _ _ (by omega)).trans h.z0, (f _ _ (by omega)).trans h.z1, ?_, ?_, ?_, ?_⟩
  · rw [World.cell?_setCell_other _ _ _ _ (fun e => by cases e), setCell_cell_self, h.t0]; rfl
  · rw [setCell_cell_self, World.cell?_setCell_other _ _ _ _ (fun e => by cases e), h.t1]; rfl
  · rw [World.frozen?_setCell, World.frozen?_setCell]; exact h.y0
  · rw [World.frozen?_setCell, World.frozen?_setCell]; exact h.y1

set_option maxRecDepth 10000 in
set_option maxHeartbeats 4000000 in
theorem ref6low_any (n m : Nat) (p1 p2 : Option Addr) (c1 c2 : Nat) (f t : Nat → Int) (w : World) (hn : n ≤ 4) (hm : m < n) (hm0 : 1 ≤ m) (hS1 : SlP w p1 (n * n) f) (hS2 : SlR w p2 m (q8T t))
    (ht : ∀ k, k < m → ok8 (t k)) (hb : ∀ k, k < m → bd 864691128455135232 (f (k * n + m))) (hg : ∀ k, k < m → f (k * n + m) ≠ noneB → ok8 (8 * (f (k * n + m) / 2)) ∧ ok8 (t k - 8 * (f (k * n + m) / 2))) :
    Calls Tryz.prog 114 #[.agg #[.int .i64 n, .slice p1 (n * n) c1], .slice p2 m c2] w (Gives w (.tuple #[.bool (lowS (lowF (fun k => f (k * n + m)) t m)).1, .agg #[.int .i64 (q8 (lowS (lowF (fun k => f (k * n + m)) t m)).2.1).1, .int .i64 (q8 (lowS (lowF (fun k => f (k * n + m)) t m)).2.1).2], .bool (lowS (lowF (fun k => f (k * n + m)) t m)).2.2])) := by
  have hq0 : n * n ≤ 4 * 4 := Nat.mul_le_mul hn hn
  have hq1 : 1 * 1 ≤ n * n := Nat.mul_le_mul (by omega) (by omega)
  obtain ⟨B1, o1, rfl, hB1, hc1⟩ := hS1.pos (by omega)
  obtain ⟨B2, o2, rfl, hB2, hc2⟩ := hS2.resolve_left (by omega)
  have HC1 := Lib.hid hc1
  have HC2 := Lib.hid hc2
  have HT := Lib.hid ht
  have HB := Lib.hid hb
  have HG := Lib.hid hg
  have PL := Lib.hid (fun i j (hi : i < n) (hj : j < n) => place_lt hi hj)
  obtain ⟨N, hN⟩ : ∃ N, N = n * n := ⟨_, rfl⟩
  rw [← hN] at HC1 PL hq0 hq1 ⊢
  obtain ⟨⟨ri, ry, rs⟩, hr⟩ : ∃ r, r = lowS (lowF (fun k => f (k * n + m)) t m) := ⟨_, rfl⟩
  rw [← hr]
  have HR := Lib.hid hr
  show Calls _ _ _ _ (Gives w (.tuple #[.bool ri, .agg #[.int .i64 (q8 ry).1, .int .i64 (q8 ry).2], .bool rs]))
  clear hc1 hc2 ht hb hg hN hS1 hS2 hr
  go_enter Tryz.func114, Tryz.ntmps114
  go_wp2
  refine wp_world (fun W => LowI w n N (some ⟨B1, o1, none⟩) c1 0 W) ⟨by (repeat' (first | (with_reducible assumption) | (with_reducible exact Below.refl _ _) | (with_reducible refine below_wov ?_ ?_ _) | (with_reducible refine below_drewN ?_ _) | (with_reducible refine Below.drew ?_) | (with_reducible refine Below.alloc ?_ ?_ _) | (with_reducible refine Below.setCell ?_ ?_ _) | (with_reducible exact Nat.le_refl _) | omega | (simp only [World.size_alloc, World.size_setCell, World.size_drew, Wov_size, World.heap_drewN]; omega))), by (first | omega | ((simp only [World.size_alloc, World.size_setCell, World.size_drew, Wov_size, World.heap_drewN, Array.size_append]) <;> omega)), by simp [go_sem], by simp [go_sem], by simp [go_sem], by simp [go_sem], by simp [go_sem], by simp [go_sem], by rw [q8_zero]; simp [go_sem], by rw [q8_zero]; simp [go_sem], by simp [go_sem], by simp [go_sem]⟩ ?_
  intro W hI
  go_loopw [8, 9, 11] (fun vi vs i wr => ∃ k : Nat, k ≤ m ∧ i = .int .i64 k ∧ ∃ xi xy xs, vi = .bool xi ∧ vs = .bool xs ∧ Hid ((xi, xy, xs) = lowS (lowF (fun k => f (k * n + m)) t k)) ∧ Hid (LowI w n N (some ⟨B1, o1, none⟩) c1 xy wr))
    (fun _ _ i _ => m - (intOf i).toNat)
  case atStart => exact ⟨0, Nat.zero_le _, rfl, false, 0, false, rfl, rfl, rfl, hI⟩
  case round =>
    obtain ⟨k, hk, rfl, xi, xy, xs, rfl, rfl, hX, hI'⟩ := hrel
    clear hI
    have d0 := hI'.out.d0
    have d1 := hI'.out.d1
    have s0 := hI'.out.t0
    have s1 := hI'.out.t1
    have sz0 := hI'.out.y0
    have sz1 := hI'.out.y1
    have kB := hI'.out.below
    have ksz := hI'.out.size
    by_cases hlt : k < m
    · obtain ⟨x1, x2⟩ := HC2.out k hlt
      have y1 := (kB.cell (p := ⟨B2, o2 + k * 2, none⟩) hB2).trans x1
      have y2 := (kB.cell (p := ⟨B2, o2 + (k * 2 + 1), none⟩) hB2).trans x2
      obtain ⟨ta, td, htt⟩ : ∃ ta td, q8T t k = (ta, td) := ⟨_, _, rfl⟩
      rw [htt] at y1 y2
      have hTT := Lib.hid htt
      obtain ⟨qk, hqk⟩ : ∃ q : Nat, Hid (q = k * n) := ⟨_, rfl⟩
      have ek : (k : Int) * (n : Int) = (qk : Int) := by rw [hqk.out]; push_cast; rfl
      have lk := PL.out k m (by omega) hm
      rw [← hqk.out] at lk
      obtain ⟨b, hb⟩ : ∃ b, Hid (b = f (qk + m)) := ⟨_, rfl⟩
      have g1 := (kB.cell (p := ⟨B1, o1 + (qk + m), none⟩) hB1).trans (HC1.out _ lk)
      rw [← hb.out] at g1
      have hbk : Hid (b = f (k * n + m)) := by show _ = _; rw [hb.out, hqk.out]
      have i1 : (0 : Int) ≤ (qk : Int) + (m : Int) := by omega
      have i3 : (qk : Int) + (m : Int) < (N : Int) := by omega
      have i5 : ((qk : Int) + (m : Int)).toNat = qk + m := by omega
      clear htt x1 x2 lk
      by_cases hbn : b = noneB
      · have hstep : Hid ((xi, xy, xs) = lowS (lowF (fun k => f (k * n + m)) t (k + 1))) := by
          show _ = lowS (lowE _ (f (k * n + m)) _)
          rw [← hbk.out, hbn, lowS_none]; exact hX.out
        have hbe : (b == 9223372036854775807) = true := isNone_t hbn
        clear hbn
        go_wp2
        go_roundw
        case rel => exact ⟨k + 1, hlt, by go_num, xi, xy, xs, rfl, rfl, hstep, hI'⟩
        case measure => simp [intOf]; omega
      · have hbe : (b == 9223372036854775807) = false := isNone_f hbn
        obtain ⟨hg1, hg2⟩ := HG.out k hlt (by rw [← hbk.out]; exact hbn)
        rw [← hbk.out] at hg1 hg2
        have hbd := HB.out k hlt
        rw [← hbk.out] at hbd
        obtain ⟨u, hu⟩ : ∃ u, Hid (u = t k - 8 * (b / 2)) := ⟨_, rfl⟩
        have hbb := hbd.resolve_left hbn
        have hxo : ok8 xy := by
          have := lowS_ok (x := lowF (fun k => f (k * n + m)) t k) (low_ok fun j hj hne => (HG.out j (by omega) hne).2)
          rw [← hX.out] at this; exact this
        have hstep0 := lowS_step (t := t k) hbn hu.out hX.out.symm
        have hstep : Hid (lowS (lowF (fun k => f (k * n + m)) t (k + 1)) = (true, if xi = false ∨ xy < u then u else xy, if xi = false ∨ xy < u then bstr b else if u = xy then xs || bstr b else xs)) := by
          show lowS (lowE _ (f (k * n + m)) _) = _
          rw [← hbk.out]; exact hstep0
        have SH : Hid (∀ W, Calls Tryz.prog 118 #[.agg #[.int .i64 ta, .int .i64 td], .int .i64 (-(b / 2))] W (Gives W (.agg #[.int .i64 (q8 u).1, .int .i64 (q8 u).2]))) := fun W => by
          have e1 : (q8 (t k)).1 = ta := congrArg Prod.fst hTT.out
          have e2 : (q8 (t k)).2 = td := congrArg Prod.snd hTT.out
          have := refShift_any (t k) (-(b / 2)) (HT.out k hlt) (by have := hg1.neg; rwa [← Int.mul_neg] at this) (by rw [Int.mul_neg]; exact hg2) W
          rw [show t k + 8 * -(b / 2) = u from by rw [hu.out]; omega, e1, e2] at this
          exact this
        have NM : Hid (∀ W, Calls Tryz.prog 48 #[.int .i64 b] W fun e w' => e = .returned (.int .i64 (b / 2)) ∧ W = w') := fun W =>
          refNumber_any b W (bd_fits64 hbd).1 (bd_fits64 hbd).2
        have ST : Hid (∀ W, Calls Tryz.prog 95 #[.int .i64 b] W fun e w' => e = .returned (.bool (bstr b)) ∧ W = w') := fun W => refStrict_any b W
        have hu8 : ok8 u := by rw [hu.out]; exact hg2
        have CP : Hid (Pure Tryz.prog 125 #[.agg #[.int .i64 (q8 u).1, .int .i64 (q8 u).2], .agg #[.int .i64 (q8 xy).1, .int .i64 (q8 xy).2]] (.int .i64 (sgn3 u xy 0))) := by
          have := refCompared_any (q8 u).1 (q8 u).2 (q8 xy).1 (q8 xy).2 (q8_fits hu8) (q8_fits hxo) (q8_ok hu8) (q8_ok hxo)
          rw [cmp8] at this; exact this
        have hw : IntKind.i64.wrap (0 - b / 2) = -(b / 2) := by
          unfold bnum at hbb
          rw [IntWalk.i64_in _ (by omega)]; omega
        have hw2 : IntKind.i64.wrap (-(b / 2)) = -(b / 2) := by
          unfold bnum at hbb
          rw [IntWalk.i64_in _ (by omega)]
        have hB2r : B2 < wr.heap.size := by omega
        obtain ⟨sb, hsb⟩ : ∃ sb, Hid (sb = bstr b) := ⟨_, rfl⟩
        rw [← hsb.out] at ST
        rw [← hsb.out] at hstep
        obtain ⟨nb, hnb⟩ : ∃ nb, nb = b / 2 := ⟨_, rfl⟩
        rw [← hnb] at SH NM hw hw2
        clear hstep0 hbb hbd hbn hg1 hg2 hu8 hxo hnb
        go_wp2
        go_region_held3 (fun w' => w'.cell? ⟨B2, o2 + k * 2, none⟩ = some (.int .i64 ta) ∧ w'.cell? ⟨B2, o2 + (k * 2 + 1), none⟩ = some (.int .i64 td))
          ((simp [go_sem, *]))
          (first
          | (go_at_call 48; ((with_reducible refine (NM.out _).mono ?_); rintro e w' ⟨rfl, rfl⟩))
          | (go_at_call 118; ((with_reducible refine (SH.out _).mono ?_); rintro e w' ⟨rfl, qa, rfl⟩)))
        · skip
          go_wp2_with (fail)
          refine calls_world (fun V => Below wr.heap.size wr V ∧ (wr.heap.size + qa.bl.size) < V.heap.size ∧ V.cell? ⟨(wr.heap.size + qa.bl.size), 0, none⟩ = some (.int .i64 (q8 u).1) ∧ V.cell? ⟨(wr.heap.size + qa.bl.size), 1, none⟩ = some (.int .i64 (q8 u).2)) ⟨by (first | (repeat' (first | (with_reducible assumption) | (with_reducible exact Below.refl _ _) | (with_reducible refine below_wov ?_ ?_ _) | (with_reducible refine below_drewN ?_ _) | (with_reducible refine Below.drew ?_) | (with_reducible refine Below.alloc ?_ ?_ _) | (with_reducible refine Below.setCell ?_ ?_ _) | (with_reducible exact Nat.le_refl _) | omega | (simp only [World.size_alloc, World.size_setCell, World.size_drew, Wov_size, World.heap_drewN]; omega))) | exact ((below_wov ((Below.refl _ _).alloc (Nat.le_refl _) _) (by simp) qa).setCell (p := ⟨wr.heap.size, 0, none⟩) (by simp) _).setCell (p := ⟨wr.heap.size, 1, none⟩) (by simp) _ | exact (((below_Wov wr qa).alloc (by simp) _).setCell (p := ⟨wr.heap.size + qa.bl.size, 0, none⟩) (by simp) _).setCell (p := ⟨wr.heap.size + qa.bl.size, 1, none⟩) (by simp) _), by (first | omega | ((simp only [World.size_alloc, World.size_setCell, World.size_drew, Wov_size, World.heap_drewN, Array.size_append]) <;> omega)), by simp [go_sem], by simp [go_sem]⟩ ?_
          rintro V ⟨hbV, hAV, v0, v1⟩
          have LV := hI'.out.later hbV
          have LV' := Lib.hid LV
          have s0 := LV.t0
          have s1 := LV.t1
          have sz0 := LV.y0
          have sz1 := LV.y1
          have zV := LV.size
          clear LV hbV
          refine (CP.out _).mono ?_; rintro e w' ⟨rfl, qc, rfl⟩
          obtain ⟨c0, hc0⟩ : ∃ c, Hid (c = sgn3 u xy 0) := ⟨_, rfl⟩
          rw [← hc0.out]
          clear CP SH NM
          cases xi with
          | false =>
            go_wp2_with (fail)
            refine (ST.out _).mono ?_; rintro e w' ⟨rfl, rfl⟩
            go_wp2
            go_roundw
            case rel =>
              exact ⟨k + 1, hlt, by go_num, true, u, sb, rfl, rfl, (by show _ = _; rw [hstep.out]; simp), (LV'.out.later (below_Wov V qc)).set u⟩
            case measure => simp [intOf]; omega
          | true =>
            by_cases h1 : xy < u
            · have hc1 : c0 = 1 := by rw [hc0.out]; unfold sgn3; rw [if_neg (by omega), if_pos h1]
              subst hc1
              have hs2 : Hid ((true, u, sb) = lowS (lowF (fun k => f (k * n + m)) t (k + 1))) := by show _ = _; rw [hstep.out, if_pos (.inr h1), if_pos (.inr h1)]
              clear h1
              go_wp2_with (fail)
              refine (ST.out _).mono ?_; rintro e w' ⟨rfl, rfl⟩
              go_wp2
              go_roundw
              case rel =>
                exact ⟨k + 1, hlt, by go_num, true, u, sb, rfl, rfl, hs2, (LV'.out.later (below_Wov V qc)).set u⟩
              case measure => simp [intOf]; omega
            · by_cases h2 : u = xy
              · have hc1 : c0 = 0 := by rw [hc0.out]; unfold sgn3; rw [if_neg (by omega), if_neg (by omega)]
                subst hc1
                have hs2 : Hid ((true, xy, (xs || sb)) = lowS (lowF (fun k => f (k * n + m)) t (k + 1))) := by show _ = _; rw [hstep.out, if_neg (by simp; omega), if_neg (by simp; omega), if_pos h2]
                clear h1 h2
                cases xs with
                | true =>
                  go_wp2
                  go_roundw
                  case rel =>
                    exact ⟨k + 1, hlt, by go_num, true, xy, true, rfl, rfl, hs2, (LV'.out.later (below_Wov V qc))⟩
                  case measure => simp [intOf]; omega
                | false =>
                  go_wp2_with (fail)
                  refine (ST.out _).mono ?_; rintro e w' ⟨rfl, rfl⟩
                  go_wp2
                  go_roundw
                  case rel =>
                    exact ⟨k + 1, hlt, by go_num, true, xy, sb, rfl, rfl, hs2, (LV'.out.later (below_Wov V qc))⟩
                  case measure => simp [intOf]; omega
              · have hc1 : c0 = -1 := by rw [hc0.out]; unfold sgn3; rw [if_pos (by omega)]
                subst hc1
                have hs2 : Hid ((true, xy, xs) = lowS (lowF (fun k => f (k * n + m)) t (k + 1))) := by show _ = _; rw [hstep.out, if_neg (by simp; omega), if_neg (by simp; omega), if_neg h2]
                clear h1 h2
                go_wp2
                go_roundw
                case rel =>
                  exact ⟨k + 1, hlt, by go_num, true, xy, xs, rfl, rfl, hs2, (LV'.out.later (below_Wov V qc))⟩
                case measure => simp [intOf]; omega
        · skip
          go_wp2_with (fail)
          refine calls_world (fun V => Below wr.heap.size wr V ∧ wr.heap.size < V.heap.size ∧ V.cell? ⟨wr.heap.size, 0, none⟩ = some (.int .i64 (q8 u).1) ∧ V.cell? ⟨wr.heap.size, 1, none⟩ = some (.int .i64 (q8 u).2)) ⟨by (first | (repeat' (first | (with_reducible assumption) | (with_reducible exact Below.refl _ _) | (with_reducible refine below_wov ?_ ?_ _) | (with_reducible refine below_drewN ?_ _) | (with_reducible refine Below.drew ?_) | (with_reducible refine Below.alloc ?_ ?_ _) | (with_reducible refine Below.setCell ?_ ?_ _) | (with_reducible exact Nat.le_refl _) | omega | (simp only [World.size_alloc, World.size_setCell, World.size_drew, Wov_size, World.heap_drewN]; omega))) | exact ((below_wov ((Below.refl _ _).alloc (Nat.le_refl _) _) (by simp) qa).setCell (p := ⟨wr.heap.size, 0, none⟩) (by simp) _).setCell (p := ⟨wr.heap.size, 1, none⟩) (by simp) _ | exact (((below_Wov wr qa).alloc (by simp) _).setCell (p := ⟨wr.heap.size + qa.bl.size, 0, none⟩) (by simp) _).setCell (p := ⟨wr.heap.size + qa.bl.size, 1, none⟩) (by simp) _), by (first | omega | ((simp only [World.size_alloc, World.size_setCell, World.size_drew, Wov_size, World.heap_drewN, Array.size_append]) <;> omega)), by simp [go_sem], by simp [go_sem]⟩ ?_
          rintro V ⟨hbV, hAV, v0, v1⟩
          have LV := hI'.out.later hbV
          have LV' := Lib.hid LV
          have s0 := LV.t0
          have s1 := LV.t1
          have sz0 := LV.y0
          have sz1 := LV.y1
          have zV := LV.size
          clear LV hbV
          refine (CP.out _).mono ?_; rintro e w' ⟨rfl, qc, rfl⟩
          obtain ⟨c0, hc0⟩ : ∃ c, Hid (c = sgn3 u xy 0) := ⟨_, rfl⟩
          rw [← hc0.out]
          clear CP SH NM
          cases xi with
          | false =>
            go_wp2_with (fail)
            refine (ST.out _).mono ?_; rintro e w' ⟨rfl, rfl⟩
            go_wp2
            go_roundw
            case rel =>
              exact ⟨k + 1, hlt, by go_num, true, u, sb, rfl, rfl, (by show _ = _; rw [hstep.out]; simp), (LV'.out.later (below_Wov V qc)).set u⟩
            case measure => simp [intOf]; omega
          | true =>
            by_cases h1 : xy < u
            · have hc1 : c0 = 1 := by rw [hc0.out]; unfold sgn3; rw [if_neg (by omega), if_pos h1]
              subst hc1
              have hs2 : Hid ((true, u, sb) = lowS (lowF (fun k => f (k * n + m)) t (k + 1))) := by show _ = _; rw [hstep.out, if_pos (.inr h1), if_pos (.inr h1)]
              clear h1
              go_wp2_with (fail)
              refine (ST.out _).mono ?_; rintro e w' ⟨rfl, rfl⟩
              go_wp2
              go_roundw
              case rel =>
                exact ⟨k + 1, hlt, by go_num, true, u, sb, rfl, rfl, hs2, (LV'.out.later (below_Wov V qc)).set u⟩
              case measure => simp [intOf]; omega
            · by_cases h2 : u = xy
              · have hc1 : c0 = 0 := by rw [hc0.out]; unfold sgn3; rw [if_neg (by omega), if_neg (by omega)]
                subst hc1
                have hs2 : Hid ((true, xy, (xs || sb)) = lowS (lowF (fun k => f (k * n + m)) t (k + 1))) := by show _ = _; rw [hstep.out, if_neg (by simp; omega), if_neg (by simp; omega), if_pos h2]
                clear h1 h2
                cases xs with
                | true =>
                  go_wp2
                  go_roundw
                  case rel =>
                    exact ⟨k + 1, hlt, by go_num, true, xy, true, rfl, rfl, hs2, (LV'.out.later (below_Wov V qc))⟩
                  case measure => simp [intOf]; omega
                | false =>
                  go_wp2_with (fail)
                  refine (ST.out _).mono ?_; rintro e w' ⟨rfl, rfl⟩
                  go_wp2
                  go_roundw
                  case rel =>
                    exact ⟨k + 1, hlt, by go_num, true, xy, sb, rfl, rfl, hs2, (LV'.out.later (below_Wov V qc))⟩
                  case measure => simp [intOf]; omega
              · have hc1 : c0 = -1 := by rw [hc0.out]; unfold sgn3; rw [if_pos (by omega)]
                subst hc1
                have hs2 : Hid ((true, xy, xs) = lowS (lowF (fun k => f (k * n + m)) t (k + 1))) := by show _ = _; rw [hstep.out, if_neg (by simp; omega), if_neg (by simp; omega), if_neg h2]
                clear h1 h2
                go_wp2
                go_roundw
                case rel =>
                  exact ⟨k + 1, hlt, by go_num, true, xy, xs, rfl, rfl, hs2, (LV'.out.later (below_Wov V qc))⟩
                case measure => simp [intOf]; omega
        · skip
          go_wp2_with (fail)
          refine calls_world (fun V => Below wr.heap.size wr V ∧ wr.heap.size < V.heap.size ∧ V.cell? ⟨wr.heap.size, 0, none⟩ = some (.int .i64 (q8 u).1) ∧ V.cell? ⟨wr.heap.size, 1, none⟩ = some (.int .i64 (q8 u).2)) ⟨by (first | (repeat' (first | (with_reducible assumption) | (with_reducible exact Below.refl _ _) | (with_reducible refine below_wov ?_ ?_ _) | (with_reducible refine below_drewN ?_ _) | (with_reducible refine Below.drew ?_) | (with_reducible refine Below.alloc ?_ ?_ _) | (with_reducible refine Below.setCell ?_ ?_ _) | (with_reducible exact Nat.le_refl _) | omega | (simp only [World.size_alloc, World.size_setCell, World.size_drew, Wov_size, World.heap_drewN]; omega))) | exact ((below_wov ((Below.refl _ _).alloc (Nat.le_refl _) _) (by simp) qa).setCell (p := ⟨wr.heap.size, 0, none⟩) (by simp) _).setCell (p := ⟨wr.heap.size, 1, none⟩) (by simp) _ | exact (((below_Wov wr qa).alloc (by simp) _).setCell (p := ⟨wr.heap.size + qa.bl.size, 0, none⟩) (by simp) _).setCell (p := ⟨wr.heap.size + qa.bl.size, 1, none⟩) (by simp) _), by (first | omega | ((simp only [World.size_alloc, World.size_setCell, World.size_drew, Wov_size, World.heap_drewN, Array.size_append]) <;> omega)), by simp [go_sem], by simp [go_sem]⟩ ?_
          rintro V ⟨hbV, hAV, v0, v1⟩
          have LV := hI'.out.later hbV
          have LV' := Lib.hid LV
          have s0 := LV.t0
          have s1 := LV.t1
          have sz0 := LV.y0
          have sz1 := LV.y1
          have zV := LV.size
          clear LV hbV
          refine (CP.out _).mono ?_; rintro e w' ⟨rfl, qc, rfl⟩
          obtain ⟨c0, hc0⟩ : ∃ c, Hid (c = sgn3 u xy 0) := ⟨_, rfl⟩
          rw [← hc0.out]
          clear CP SH NM
          cases xi with
          | false =>
            go_wp2_with (fail)
            refine (ST.out _).mono ?_; rintro e w' ⟨rfl, rfl⟩
            go_wp2
            go_roundw
            case rel =>
              exact ⟨k + 1, hlt, by go_num, true, u, sb, rfl, rfl, (by show _ = _; rw [hstep.out]; simp), (LV'.out.later (below_Wov V qc)).set u⟩
            case measure => simp [intOf]; omega
          | true =>
            by_cases h1 : xy < u
            · have hc1 : c0 = 1 := by rw [hc0.out]; unfold sgn3; rw [if_neg (by omega), if_pos h1]
              subst hc1
              have hs2 : Hid ((true, u, sb) = lowS (lowF (fun k => f (k * n + m)) t (k + 1))) := by show _ = _; rw [hstep.out, if_pos (.inr h1), if_pos (.inr h1)]
              clear h1
              go_wp2_with (fail)
              refine (ST.out _).mono ?_; rintro e w' ⟨rfl, rfl⟩
              go_wp2
              go_roundw
              case rel =>
                exact ⟨k + 1, hlt, by go_num, true, u, sb, rfl, rfl, hs2, (LV'.out.later (below_Wov V qc)).set u⟩
              case measure => simp [intOf]; omega
            · by_cases h2 : u = xy
              · have hc1 : c0 = 0 := by rw [hc0.out]; unfold sgn3; rw [if_neg (by omega), if_neg (by omega)]
                subst hc1
                have hs2 : Hid ((true, xy, (xs || sb)) = lowS (lowF (fun k => f (k * n + m)) t (k + 1))) := by show _ = _; rw [hstep.out, if_neg (by simp; omega), if_neg (by simp; omega), if_pos h2]
                clear h1 h2
                cases xs with
                | true =>
                  go_wp2
                  go_roundw
                  case rel =>
                    exact ⟨k + 1, hlt, by go_num, true, xy, true, rfl, rfl, hs2, (LV'.out.later (below_Wov V qc))⟩
                  case measure => simp [intOf]; omega
                | false =>
                  go_wp2_with (fail)
                  refine (ST.out _).mono ?_; rintro e w' ⟨rfl, rfl⟩
                  go_wp2
                  go_roundw
                  case rel =>
                    exact ⟨k + 1, hlt, by go_num, true, xy, sb, rfl, rfl, hs2, (LV'.out.later (below_Wov V qc))⟩
                  case measure => simp [intOf]; omega
              · have hc1 : c0 = -1 := by rw [hc0.out]; unfold sgn3; rw [if_pos (by omega)]
                subst hc1
                have hs2 : Hid ((true, xy, xs) = lowS (lowF (fun k => f (k * n + m)) t (k + 1))) := by show _ = _; rw [hstep.out, if_neg (by simp; omega), if_neg (by simp; omega), if_neg h2]
                clear h1 h2
                go_wp2
                go_roundw
                case rel =>
                  exact ⟨k + 1, hlt, by go_num, true, xy, xs, rfl, rfl, hs2, (LV'.out.later (below_Wov V qc))⟩
                case measure => simp [intOf]; omega
    · obtain rfl : k = m := by omega
      obtain ⟨rfl, rfl, rfl⟩ : ri = xi ∧ ry = xy ∧ rs = xs := by
        have := HR.out.trans hX.out.symm
        simpa using this
      have r0 := hI'.out.r0
      have r1 := hI'.out.r1
      have rz0 := hI'.out.z0
      have rz1 := hI'.out.z1
      clear HC1 HC2 HT HB HG PL HR hX
      go_wp2
      go_region
      go_wp2
      refine bodyPost_ret (by simp [results, Tryz.results114, go_sem, r0, r1]; try rfl) rfl ?_
      exact gives_end rfl (((kB.setCell (p := ⟨w.heap.size + 1, 0, none⟩) (by simp) _).setCell (p := ⟨w.heap.size + 1, 1, none⟩) (by simp) _).drew)
end Go.Proofs.YtpaomeilfmeheaaGreat
