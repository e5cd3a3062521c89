/- Contracts of the document's two, Away, Inside, In and Apart (layer 6), of all matrices. -/
import Derived.Test.YtpaomeilfmeheaaGreatG5
namespace Go.Proofs.YtpaomeilfmeheaaGreat
set_option linter.unusedSimpArgs false
set_option linter.unusedVariables false
open Go Go.RowKit Go.Shelf
attribute [local go_sem] Nat.add_assoc Nat.add_lt_add_iff_left lit_lt_add

theorem close_e6 {n : Nat} {f : Nat → Int} (hok : okD n (n * n) f = true) : (!decide ((closeM n (n * n) f).e = 0)) = decide ((closeM n (n * n) f).e = 6) := by
  rcases closeM_cases hok with ⟨c, h, _⟩ | ⟨h, _⟩ <;> rw [h] <;> rfl

set_option maxRecDepth 10000 in
set_option maxHeartbeats 1000000 in
theorem away_any (n : Nat) (p1 p2 : Option Addr) (c1 c2 : Nat) (f1 f2 : Nat → Int) (w : World) (hS1 : SlP w p1 (n * n) f1) (hS2 : SlP w p2 (n * n) f2) (ok1 : okD n (n * n) f1 = true) (ok2 : okD n (n * n) f2 = true) :
    Calls Tryz.prog 65 #[.agg #[.int .i64 n, .slice p1 (n * n) c1], .agg #[.int .i64 n, .slice p2 (n * n) c2]] w (Gives w (.bool (decide ((closeM n (n * n) (lessF f1 f2)).e = 6)))) := by
  have CM := Lib.hid (fun (w' : World) (hb : Below w.heap.size w w') => common_any n (n * n) p1 p2 c1 c2 f1 f2 _ w' rfl (okD_less ok1 ok2) rfl (hS1.below hb) (hS2.below hb))
  rw [← close_e6 (okD_less ok1 ok2)]
  obtain ⟨⟨x, Z, g, e0⟩, hr⟩ : ∃ r, r = closeM n (n * n) (lessF f1 f2) := ⟨_, rfl⟩
  obtain ⟨N, hN⟩ : ∃ N, N = n * n := ⟨_, rfl⟩
  rw [← hr] at CM ⊢
  rw [← hN] at CM ⊢
  obtain ⟨s, hs⟩ : ∃ s, s = decide (e0 = 0) := ⟨_, rfl⟩
  have CM2 : Hid (∀ w', Below w.heap.size w w' → Calls Tryz.prog 70 #[.agg #[.int .i64 n, .slice p1 N c1], .agg #[.int .i64 n, .slice p2 N c2]] w' (matB w' x Z g s)) := fun w' hb => by
    rw [hs]; exact CM.out w' hb
  show Calls _ _ _ _ (Gives w (.bool (!decide (e0 = 0))))
  rw [← hs]
  clear CM hr hs hN hS1 hS2 ok1 ok2
  go_enter Tryz.func65, Tryz.ntmps65
  go_wp2_with (fail)
  refine (CM2.out _ (by (repeat' (first | (with_reducible assumption) | (with_reducible exact Below.refl _ _) | (with_reducible refine below_wov ?_ ?_ _) | (with_reducible refine below_drewN ?_ _) | (with_reducible refine Below.drew ?_) | (with_reducible refine Below.alloc ?_ ?_ _) | (with_reducible refine Below.setCell ?_ ?_ _) | (with_reducible exact Nat.le_refl _) | omega | (simp only [World.size_alloc, World.size_setCell, World.size_drew, Wov_size, World.heap_drewN]; omega))))).mono ?_; rintro e w' ⟨⟨p3, c3, rfl, ho⟩, q1, rfl⟩
  clear ho
  go_wp2
  go_ret
  exact gives_bool rfl (by (repeat' (first | (with_reducible assumption) | (with_reducible exact Below.refl _ _) | (with_reducible refine below_wov ?_ ?_ _) | (with_reducible refine below_drewN ?_ _) | (with_reducible refine Below.drew ?_) | (with_reducible refine Below.alloc ?_ ?_ _) | (with_reducible refine Below.setCell ?_ ?_ _) | (with_reducible exact Nat.le_refl _) | omega | (simp only [World.size_alloc, World.size_setCell, World.size_drew, Wov_size, World.heap_drewN]; omega))))

set_option maxRecDepth 10000 in
set_option maxHeartbeats 1000000 in
theorem refOther_any (x : Int) (hx : mayB x = true) (hn : x ≠ noneB) : Pure Tryz.prog 67 #[.int .i64 x] (.int .i64 (otherB x)) := by
  intro w
  have hb := (mayB_bd hx).resolve_left hn
  have hf := mayB_fits hx
  have K1 := Lib.hid (fun w => refNumber_any x w hf.1 hf.2)
  have K2 := Lib.hid (fun w => refStrict_any x w)
  have K3 := Lib.hid (fun w => refMade_any (-(bnum x)) (!bstr x) w (by omega) (by omega))
  unfold otherB
  generalize bnum x = c at *
  generalize bstr x = s at *
  have e1 : IntKind.i64.wrap (0 - c) = -c := by rw [IntWalk.i64_in _ (by omega)]; omega
  have e2 : IntKind.i64.wrap (-c) = -c := IntWalk.i64_in _ (by omega)
  clear hx hn hf
  go_enter Tryz.func67, Tryz.ntmps67
  go_wp2_with (fail)
  refine (K1.out _).mono ?_; rintro e w' ⟨rfl, rfl⟩
  go_wp2_with (fail)
  refine (K2.out _).mono ?_; rintro e w' ⟨rfl, rfl⟩
  go_wp2_with (fail)
  refine (K3.out _).mono ?_; rintro e w' ⟨rfl, rfl⟩
  go_wp2
  go_ret
  exact gives_int rfl (by (repeat' (first | (with_reducible assumption) | (with_reducible exact Below.refl _ _) | (with_reducible refine below_wov ?_ ?_ _) | (with_reducible refine below_drewN ?_ _) | (with_reducible refine Below.drew ?_) | (with_reducible refine Below.alloc ?_ ?_ _) | (with_reducible refine Below.setCell ?_ ?_ _) | (with_reducible exact Nat.le_refl _) | omega | (simp only [World.size_alloc, World.size_setCell, World.size_drew, Wov_size, World.heap_drewN]; omega))))

/-- What a round of the document's question asks. -/
theorem outB_none {n x : Nat} {f g : Nat → Int} (h : g x = noneB) : outB n f g x = true := by unfold outB; rw [decide_eq_true h]; rfl
theorem outB_some {n i j : Nat} {f g : Nat → Int} (hj : j < n) (h : g (i * n + j) ≠ noneB) : outB n f g (i * n + j) = decide ((closeM n (n * n) (lessF f (upd (topF n) (j * n + i) (otherB (g (i * n + j)))))).e = 6) := by
  have e1 : (i * n + j) % n = j := by rw [Nat.mul_comm, Nat.mul_add_mod]; exact Nat.mod_eq_of_lt hj
  have e2 : (i * n + j) / n = i := by rw [Nat.mul_comm, Nat.mul_add_div (by omega), Nat.div_eq_of_lt hj, Nat.add_zero]
  unfold outB
  rw [decide_eq_false h, Bool.false_or, e1, e2]
theorem refIn_stop {n x : Nat} {f g : Nat → Int} (hf : okD n (n * n) f = true) (hg : okD n (n * n) g = true) (hx : x < n * n) (h : outB n f g x = false) : inB n f g = false := by
  rw [← Bool.not_eq_true, ← refIn_iff hf hg]
  intro h'
  rw [h' x hx] at h; cases h

/-- What stays while the document asks bound by bound. -/
structure InI (w : World) (n N : Nat) (p1 p2 : Option Addr) (c1 c2 : Nat) (W : World) : Prop where
  below : Below w.heap.size w W
  size : w.heap.size + 1 < W.heap.size
  a0 : W.cell? ⟨w.heap.size, 0, none⟩ = some (.int .i64 n)
  a1 : W.cell? ⟨w.heap.size, 1, none⟩ = some (.slice p1 N c1)
  b0 : W.cell? ⟨w.heap.size + 1, 0, none⟩ = some (.int .i64 n)
  b1 : W.cell? ⟨w.heap.size + 1, 1, none⟩ = some (.slice p2 N c2)
theorem InI.later {w : World} {n N : Nat} {p1 p2 : Option Addr} {c1 c2 : Nat} {W W' : World} (h : InI w n N p1 p2 c1 c2 W) (hb : Below W.heap.size W W') : InI w n N p1 p2 c1 c2 W' :=
  ⟨h.below.trans (hb.mono h.below.size), Nat.lt_of_lt_of_le h.size hb.size, (hb.cell (p := ⟨w.heap.size, 0, none⟩) (by have := h.size; show w.heap.size < _; omega)).trans h.a0, (hb.cell (p := ⟨w.heap.size, 1, none⟩) (by have := h.size; show w.heap.size < _; omega)).trans h.a1, (hb.cell (p := ⟨w.heap.size + 1, 0, none⟩) h.size).trans h.b0, (hb.cell (p := ⟨w.heap.size + 1, 1, none⟩) h.size).trans h.b1⟩

set_option maxRecDepth 10000 in
set_option maxHeartbeats 4000000 in
theorem inside_any (n : Nat) (p1 p2 : Option Addr) (c1 c2 : Nat) (f1 f2 : Nat → Int) (w : World) (hn0 : 1 ≤ n) (hn : n ≤ 4) (hS1 : SlP w p1 (n * n) f1) (hS2 : SlP w p2 (n * n) f2) (ok1 : okD n (n * n) f1 = true) (ok2 : okD n (n * n) f2 = true) :
    Calls Tryz.prog 36 #[.agg #[.int .i64 n, .slice p1 (n * n) c1], .agg #[.int .i64 n, .slice p2 (n * n) c2]] w (Gives w (.bool (inB n f1 f2))) := by
  have hq1 : 1 * 1 ≤ n * n := Nat.mul_le_mul hn0 hn0
  have hq0 : n * n ≤ 4 * 4 := Nat.mul_le_mul hn hn
  have OT := Lib.hid (fun x hx hxn => refOther_any x hx hxn)
  have ON := Lib.hid (fun w' j i v hj hi => one_any n j i v w' hn0 hn hj hi)
  have AW := Lib.hid (fun (w' : World) B cap x v (hb : Below w.heap.size w w') (hv : mayB v = true) h => away_any n p1 (some ⟨B, 0, none⟩) c1 cap f1 (upd (topF n) x v) w' (hS1.below hb) h ok1 (oneF_ok ok2 hv))
  have MY := Lib.hid (okD_may ok2)
  have U1 := Lib.hid (refIn_iff ok1 ok2).1
  have U2 := Lib.hid (fun x => refIn_stop (x := x) ok1 ok2)
  have ON1 := Lib.hid (fun x => outB_none (n := n) (x := x) (f := f1) (g := f2))
  have ON2 := Lib.hid (fun i j => outB_some (n := n) (i := i) (j := j) (f := f1) (g := f2))
  have PL := Lib.hid (fun i j (hi : i < n) (hj : j < n) => place_lt hi hj)
  obtain ⟨b, hb⟩ : ∃ b, b = inB n f1 f2 := ⟨_, rfl⟩
  rw [← hb] at U1 U2 ⊢
  obtain ⟨B2, o2, rfl, hB2, hc2⟩ := hS2.pos (by omega)
  have hC2 := Lib.hid hc2
  obtain ⟨N, hN⟩ : ∃ N, N = n * n := ⟨_, rfl⟩
  rw [← hN] at AW MY U1 U2 PL ON ON2 hC2 hq0 hq1 ⊢
  have hHN := Lib.hid hN
  clear hb hN hS1 hS2 ok1 ok2 hc2
  go_enter Tryz.func36, Tryz.ntmps36
  go_wp2
  refine wp_world (fun W => InI w n N p1 (some ⟨B2, o2, none⟩) c1 c2 W) ⟨by (repeat' (first | (with_reducible assumption) | (with_reducible exact Below.refl _ _) | (with_reducible refine below_wov ?_ ?_ _) | (with_reducible refine below_drewN ?_ _) | (with_reducible refine Below.drew ?_) | (with_reducible refine Below.alloc ?_ ?_ _) | (with_reducible refine Below.setCell ?_ ?_ _) | (with_reducible exact Nat.le_refl _) | omega | (simp only [World.size_alloc, World.size_setCell, World.size_drew, Wov_size, World.heap_drewN]; omega))), by (first | omega | ((simp only [World.size_alloc, World.size_setCell, World.size_drew, Wov_size, World.heap_drewN, Array.size_append]) <;> omega)), by simp [go_sem], by simp [go_sem], by simp [go_sem], by simp [go_sem]⟩ ?_
  intro W hI
  go_loopw [5] (fun i wr => ∃ t : Nat, t ≤ n ∧ i = .int .i64 t ∧ Hid (InI w n N p1 (some ⟨B2, o2, none⟩) c1 c2 wr) ∧ Hid (∀ x, x < t * n → outB n f1 f2 x = true))
    (fun i _ => n - (intOf i).toNat)
  case atStart => exact ⟨0, Nat.zero_le _, rfl, hI, fun x hx => absurd hx (by rw [Nat.zero_mul]; exact Nat.not_lt_zero _)⟩
  case round =>
    obtain ⟨t, ht, rfl, hI', hU⟩ := hrel
    clear hI
    have k0 := hI'.out.b0
    have k1 := hI'.out.b1
    have kB := hI'.out.below
    by_cases hlt : t < n
    · go_wp2
      go_loopw [6] (fun j wr => ∃ s : Nat, s ≤ n ∧ j = .int .i64 s ∧ Hid (InI w n N p1 (some ⟨B2, o2, none⟩) c1 c2 wr) ∧ Hid (∀ x, x < t * n + s → outB n f1 f2 x = true))
        (fun j _ => n - (intOf j).toNat)
      case atStart => exact ⟨0, Nat.zero_le _, rfl, hI', hU⟩
      case round =>
        obtain ⟨s, hs, rfl, hI2, hU2⟩ := hrel
        clear k0 k1 kB hI' hU
        have k0 := hI2.out.b0
        have k1 := hI2.out.b1
        have kB := hI2.out.below
        have ksz := hI2.out.size
        by_cases hls : s < n
        · obtain ⟨q, hHq⟩ : ∃ q : Nat, Hid (q = t * n) := ⟨_, rfl⟩
          have hqm : (t : Int) * (n : Int) = (q : Int) := by rw [hHq.out]; push_cast; rfl
          have hx := PL.out t s hlt hls
          rw [← hHq.out] at hx
          obtain ⟨v, hHv⟩ : ∃ v, Hid (v = f2 (q + s)) := ⟨_, rfl⟩
          have kd := (kB.cell (p := ⟨B2, o2 + (q + s), none⟩) hB2).trans (hC2.out (q + s) hx)
          rw [← hHv.out] at kd
          have hmy := MY.out (q + s) hx
          rw [← hHv.out] at hmy
          have u1 : (0 : Int) ≤ (q : Int) + (s : Int) := by omega
          have u2 : (q : Int) + (s : Int) < (N : Int) := by omega
          have u3 : ((q : Int) + (s : Int)).toNat = q + s := by omega
          have hbs := hB2
          by_cases hvn : v = noneB
          · subst hvn
            have hd : Hid (outB n f1 f2 (t * n + s) = true) := ON1.out _ (by rw [← hHq.out]; exact hHv.out.symm)
            unfold noneB at kd
            clear hmy hx
            go_wp2
            go_quiet (fail)
            go_wp2
            go_roundw
            case rel =>
              refine ⟨s + 1, hls, by go_num, hI2.out.later (by (repeat' (first | (with_reducible assumption) | (with_reducible exact Below.refl _ _) | (with_reducible refine below_wov ?_ ?_ _) | (with_reducible refine below_drewN ?_ _) | (with_reducible refine Below.drew ?_) | (with_reducible refine Below.alloc ?_ ?_ _) | (with_reducible refine Below.setCell ?_ ?_ _) | (with_reducible exact Nat.le_refl _) | omega | (simp only [World.size_alloc, World.size_setCell, World.size_drew, Wov_size, World.heap_drewN]; omega)))), fun x hx => ?_⟩
              rcases Nat.lt_succ_iff_lt_or_eq.1 hx with h | h
              · exact hU2.out x h
              · rw [h]; exact hd.out
            case measure => simp [intOf]; omega
          · have bv : (v != 9223372036854775807) = true := notNone_t hvn
            obtain ⟨o, hHo⟩ : ∃ o, Hid (o = otherB v) := ⟨_, rfl⟩
            have OT2 : Hid (∀ W, Calls Tryz.prog 67 #[.int .i64 v] W (Gives W (.int .i64 o))) := fun W => by
              rw [hHo.out]; exact OT.out v hmy hvn W
            obtain ⟨h, hHh⟩ : ∃ h, Hid (h = upd (topF n) (s * n + t) o) := ⟨_, rfl⟩
            have ON3 : Hid (∀ W, Calls Tryz.prog 66 #[.int .i64 n, .int .i64 s, .int .i64 t, .int .i64 o] W (rowPost W n N h)) := fun W => by
              rw [hHh.out]; exact ON.out W s t o hls hlt
            obtain ⟨a, hHa⟩ : ∃ a, Hid (a = outB n f1 f2 (t * n + s)) := ⟨_, rfl⟩
            have AW2 : Hid (∀ W B cap, Below w.heap.size w W → SlP W (some ⟨B, 0, none⟩) N h → Calls Tryz.prog 65 #[.agg #[.int .i64 n, .slice p1 N c1], .agg #[.int .i64 n, .slice (some ⟨B, 0, none⟩) N cap]] W (Gives W (.bool a))) := fun W B cap hb hs => by
              have hvx : f2 (t * n + s) = v := by rw [← hHq.out]; exact hHv.out.symm
              have hao : a = decide ((closeM n N (lessF f1 h)).e = 6) := by
                rw [hHa.out, ON2.out t s hls (by rw [hvx]; exact hvn), hvx, ← hHo.out, ← hHh.out]
              rw [hao, hHh.out]
              refine AW.out W B cap (s * n + t) o hb (by rw [hHo.out]; exact other_may hmy hvn) ?_
              rw [← hHh.out]; exact hs
            have k2 := hI2.out.a0
            have k3 := hI2.out.a1
            have j1 : (0 : Int) ≤ (s : Int) := by omega
            have HN := Lib.hid hvn
            have HM := Lib.hid hmy
            clear hmy hvn hx
            go_wp2
            go_region_held3 (fun w' => w'.cell? ⟨w.heap.size, 0, none⟩ = some (.int .i64 n) ∧ w'.cell? ⟨w.heap.size, 1, none⟩ = some (.slice p1 N c1) ∧ w'.cell? ⟨w.heap.size + 1, 0, none⟩ = some (.int .i64 n))
              ((simp [go_sem, *]))
              (first
              | (go_at_call 67; (refine (OT2.out _).mono ?_; rintro e w' ⟨rfl, qa, rfl⟩))
              | (go_at_call 66; ((with_reducible refine (ON3.out _).mono ?_); rintro e w' ⟨B1, cp1, rfl, hA1, hB1, hH1, qb, rfl⟩; have t1 := slp_of hH1 hB1; clear hA1 hB1 hH1))
              | (go_at_call 65; (try simp only [drew_Wov, Wov_Wov, Array.append_assoc] at t1); refine (AW2.out _ _ _ (by (repeat' (first | (with_reducible assumption) | (with_reducible exact Below.refl _ _) | (with_reducible refine below_wov ?_ ?_ _) | (with_reducible refine below_drewN ?_ _) | (with_reducible refine Below.drew ?_) | (with_reducible refine Below.alloc ?_ ?_ _) | (with_reducible refine Below.setCell ?_ ?_ _) | (with_reducible exact Nat.le_refl _) | omega | (simp only [World.size_alloc, World.size_setCell, World.size_drew, Wov_size, World.heap_drewN]; omega)))) t1).mono ?_; rintro e w' ⟨rfl, qc, rfl⟩; clear t1))
            all_goals
              cases a with
              | true =>
                go_wp2
                go_roundw
                case rel =>
                  refine ⟨s + 1, hls, by go_num, hI2.out.later (by (repeat' (first | (with_reducible assumption) | (with_reducible exact Below.refl _ _) | (with_reducible refine below_wov ?_ ?_ _) | (with_reducible refine below_drewN ?_ _) | (with_reducible refine Below.drew ?_) | (with_reducible refine Below.alloc ?_ ?_ _) | (with_reducible refine Below.setCell ?_ ?_ _) | (with_reducible exact Nat.le_refl _) | omega | (simp only [World.size_alloc, World.size_setCell, World.size_drew, Wov_size, World.heap_drewN]; omega)))), fun x hx => ?_⟩
                  rcases Nat.lt_succ_iff_lt_or_eq.1 hx with h | h
                  · exact hU2.out x h
                  · rw [h]; exact hHa.out.symm
                case measure => simp [intOf]; omega
              | false =>
                have hb := Lib.hid (U2.out _ (PL.out t s hlt hls) hHa.out.symm)
                clear U1 U2 hU2
                go_wp2
                go_ret
                exact gives_bool hb.out.symm (by (repeat' (first | (with_reducible assumption) | (with_reducible exact Below.refl _ _) | (with_reducible refine below_wov ?_ ?_ _) | (with_reducible refine below_drewN ?_ _) | (with_reducible refine Below.drew ?_) | (with_reducible refine Below.alloc ?_ ?_ _) | (with_reducible refine Below.setCell ?_ ?_ _) | (with_reducible exact Nat.le_refl _) | omega | (simp only [World.size_alloc, World.size_setCell, World.size_drew, Wov_size, World.heap_drewN]; omega))))
        · obtain rfl : s = n := by omega
          go_wp2
          go_roundw
          case rel =>
            refine ⟨t + 1, hlt, by go_num, hI2.out.later (by (repeat' (first | (with_reducible assumption) | (with_reducible exact Below.refl _ _) | (with_reducible refine below_wov ?_ ?_ _) | (with_reducible refine below_drewN ?_ _) | (with_reducible refine Below.drew ?_) | (with_reducible refine Below.alloc ?_ ?_ _) | (with_reducible refine Below.setCell ?_ ?_ _) | (with_reducible exact Nat.le_refl _) | omega | (simp only [World.size_alloc, World.size_setCell, World.size_drew, Wov_size, World.heap_drewN]; omega)))), fun x hx => hU2.out x ?_⟩
            rw [Nat.add_mul, Nat.one_mul] at hx; exact hx
          case measure => simp [intOf]; omega
    · obtain rfl : t = n := by omega
      have hb := Lib.hid (U1.out (by rw [← hHN.out] at hU; exact hU.out))
      clear U1 U2 hU
      go_wp2
      go_ret
      exact gives_bool hb.out.symm (by (repeat' (first | (with_reducible assumption) | (with_reducible exact Below.refl _ _) | (with_reducible refine below_wov ?_ ?_ _) | (with_reducible refine below_drewN ?_ _) | (with_reducible refine Below.drew ?_) | (with_reducible refine Below.alloc ?_ ?_ _) | (with_reducible refine Below.setCell ?_ ?_ _) | (with_reducible exact Nat.le_refl _) | omega | (simp only [World.size_alloc, World.size_setCell, World.size_drew, Wov_size, World.heap_drewN]; omega))))

end Go.Proofs.YtpaomeilfmeheaaGreat
