/- Zones: contracts of zone.Check, zone.told and zone.Of. No condition. -/
import Derived.Test.YtpmpapenjcemjaaGreatDoorH1
namespace Go.Proofs.YtpmpapenjcemjaaGreatDoor
set_option linter.unusedSimpArgs false
set_option linter.unusedVariables false
open Go Go.RowKit Go.Shelf
attribute [local go_sem] Nat.add_assoc Nat.add_lt_add_iff_left lit_lt_add

def FitsZ (z : Nat → Int) : Prop := ∀ i, i < 6 → fits64 (z i)
theorem zF_fits {z : Nat → Int} (h : FitsZ z) : Fits 9 (zF z) := by
  obtain ⟨a0, a1, a2, a3, a4, a5, a6, a7, a8⟩ := zF_vals z
  intro x hx
  have : x = 0 ∨ x = 1 ∨ x = 2 ∨ x = 3 ∨ x = 4 ∨ x = 5 ∨ x = 6 ∨ x = 7 ∨ x = 8 := by omega
  rcases this with rfl | rfl | rfl | rfl | rfl | rfl | rfl | rfl | rfl
  · rw [a0]; decide
  · rw [a1]; exact h 1 (by omega)
  · rw [a2]; exact h 3 (by omega)
  · rw [a3]; exact h 0 (by omega)
  · rw [a4]; decide
  · rw [a5]; exact h 5 (by omega)
  · rw [a6]; exact h 2 (by omega)
  · rw [a7]; exact h 4 (by omega)
  · rw [a8]; decide
/-- May a zone be. -/
def okZ (z : Nat → Int) : Bool := decide ((closeM 3 9 (zF z)).e = 0) && sameM (closeM 3 9 (zF z)) ⟨3, 9, zF z, 0⟩

set_option maxRecDepth 10000 in
set_option maxHeartbeats 4000000 in
theorem zcheck_any (z : Nat → Int) (w : World) (hz : FitsZ z) : Calls Tryz.prog 37 #[zoneV z] w (Gives w (.int .i64 (rcode (okZ z)))) := by
  have MX : Hid (∀ w, Calls Tryz.prog 43 #[.agg #[.int .i64 (z 0), .int .i64 (z 1), .int .i64 (z 2), .int .i64 (z 3), .int .i64 (z 4), .int .i64 (z 5)]] w (rowPost w 3 9 (zF z))) := fun w => matrix_any z w
  have hF := zF_fits hz
  have CL : Hid (∀ w B c, SlP w (some ⟨B, 0, none⟩) 9 (zF z) → Calls Tryz.prog 74 #[.agg #[.int .i64 3, .slice (some ⟨B, 0, none⟩) 9 c]] w (matC w (closeM 3 9 (zF z)).n (closeM 3 9 (zF z)).N (closeM 3 9 (zF z)).f (closeM 3 9 (zF z)).e)) := fun w B c h => closeM_any 3 _ 9 c _ w (by decide) h hF (by omega)
  have mo := closeM_ok 3 9 (zF z)
  unfold okZ
  obtain ⟨⟨x, Z, g, e0⟩, hr⟩ : ∃ r, r = closeM 3 9 (zF z) := ⟨_, rfl⟩
  rw [← hr] at CL mo ⊢
  have hZ := mo.N
  obtain ⟨F, hFF⟩ : ∃ F, F = zF z := ⟨_, rfl⟩
  rw [← hFF] at MX CL ⊢
  have CL2 : Hid (∀ w B c, SlP w (some ⟨B, 0, none⟩) 9 F → Calls Tryz.prog 74 #[.agg #[.int .i64 3, .slice (some ⟨B, 0, none⟩) 9 c]] w (matC w x Z g e0)) := CL
  have SM : Hid (∀ w p c B c', SlP w p Z g → SlP w (some ⟨B, 0, none⟩) 9 F → Calls Tryz.prog 75 #[.agg #[.int .i64 x, .slice p Z c], .agg #[.int .i64 3, .slice (some ⟨B, 0, none⟩) 9 c']] w (Gives w (.bool (sameB x Z g 3 9 F)))) := fun w p c B c' h k => same_any x 3 p _ Z 9 c c' g F w h k (by simp only at hZ; omega)
  show Calls _ _ _ _ (Gives w (.int .i64 (rcode (decide (e0 = 0) && sameB x Z g 3 9 F))))
  obtain ⟨s, hs⟩ : ∃ s, s = sameB x Z g 3 9 F := ⟨_, rfl⟩
  rw [← hs] at SM ⊢
  clear CL hr mo hZ hFF hs hF hz
  unfold zoneV
  go_enter Tryz.func37, Tryz.ntmps37
  go_wp2_with (fail)
  refine (MX.out _).mono ?_; rintro e w' ⟨B, cp, rfl, hA, hB, hH, q1, rfl⟩
  have t1 := slp_of hH hB
  clear hA hB hH MX
  go_wp2_with (fail)
  obtain ⟨A1, hA1⟩ : ∃ A, w.heap.size + (1 + q1.bl.size) = A := ⟨_, rfl⟩
  rw [hA1]
  refine calls_world (fun W => Below w.heap.size w W ∧ BoxM W A1 3 (some ⟨B, 0, none⟩) 9 cp F) ⟨by (repeat' (first | (with_reducible assumption) | (with_reducible exact Below.refl _ _) | (with_reducible refine below_wov ?_ ?_ _) | (with_reducible refine below_drewN ?_ _) | (with_reducible refine Below.drew ?_) | (with_reducible refine Below.alloc ?_ ?_ _) | (with_reducible refine Below.setCell ?_ ?_ _) | (with_reducible exact Nat.le_refl _) | omega | (simp only [World.size_alloc, World.size_setCell, World.size_drew, Wov_size, World.heap_drewN]; omega))), BoxM.new t1 (by rw [← hA1]; simp only [Wov_size, World.size_alloc]; omega)⟩ ?_
  rintro W1 ⟨hb1, m0⟩
  have l0 := m0.lt
  have k0 := m0.c0
  have k1 := m0.c1
  have hs1 := hb1.size
  clear t1 hA1
  refine (CL2.out W1 _ _ m0.sl).mono ?_; rintro e w' ⟨⟨p2, c2, rfl, ho⟩, q2, rfl⟩
  have t2 := ho.slp
  clear ho CL2
  by_cases he : e0 = 0
  · subst he
    go_wp2_with (fail)
    refine (SM.out _ _ _ _ _ (t2.below (by (repeat' (first | (with_reducible assumption) | (with_reducible exact Below.refl _ _) | (with_reducible refine below_wov ?_ ?_ _) | (with_reducible refine below_drewN ?_ _) | (with_reducible refine Below.drew ?_) | (with_reducible refine Below.alloc ?_ ?_ _) | (with_reducible refine Below.setCell ?_ ?_ _) | (with_reducible exact Nat.le_refl _) | omega | (simp only [World.size_alloc, World.size_setCell, World.size_drew, Wov_size, World.heap_drewN]; omega))))) (m0.sl.below (by (repeat' (first | (with_reducible assumption) | (with_reducible exact Below.refl _ _) | (with_reducible refine below_wov ?_ ?_ _) | (with_reducible refine below_drewN ?_ _) | (with_reducible refine Below.drew ?_) | (with_reducible refine Below.alloc ?_ ?_ _) | (with_reducible refine Below.setCell ?_ ?_ _) | (with_reducible exact Nat.le_refl _) | omega | (simp only [World.size_alloc, World.size_setCell, World.size_drew, Wov_size, World.heap_drewN]; omega)))))).mono ?_; rintro e w' ⟨rfl, q3, rfl⟩
    clear SM t2
    cases s with
    | true =>
      go_wp2
      go_ret
      exact gives_int rfl (by (repeat' (first | (with_reducible assumption) | (with_reducible exact Below.refl _ _) | (with_reducible refine below_wov ?_ ?_ _) | (with_reducible refine below_drewN ?_ _) | (with_reducible refine Below.drew ?_) | (with_reducible refine Below.alloc ?_ ?_ _) | (with_reducible refine Below.setCell ?_ ?_ _) | (with_reducible exact Nat.le_refl _) | omega | (simp only [World.size_alloc, World.size_setCell, World.size_drew, Wov_size, World.heap_drewN]; omega))))
    | false =>
      go_wp2
      go_ret
      exact gives_int rfl (by (repeat' (first | (with_reducible assumption) | (with_reducible exact Below.refl _ _) | (with_reducible refine below_wov ?_ ?_ _) | (with_reducible refine below_drewN ?_ _) | (with_reducible refine Below.drew ?_) | (with_reducible refine Below.alloc ?_ ?_ _) | (with_reducible refine Below.setCell ?_ ?_ _) | (with_reducible exact Nat.le_refl _) | omega | (simp only [World.size_alloc, World.size_setCell, World.size_drew, Wov_size, World.heap_drewN]; omega))))
  · have be : (e0 != 0) = true := by rw [bne_iff_ne]; exact he
    have hd : Hid (decide (e0 = 0) = false) := decide_eq_false he
    clear he SM t2
    go_wp2
    go_ret
    exact gives_int (by rw [hd.out]; rfl) (by (repeat' (first | (with_reducible assumption) | (with_reducible exact Below.refl _ _) | (with_reducible refine below_wov ?_ ?_ _) | (with_reducible refine below_drewN ?_ _) | (with_reducible refine Below.drew ?_) | (with_reducible refine Below.alloc ?_ ?_ _) | (with_reducible refine Below.setCell ?_ ?_ _) | (with_reducible exact Nat.le_refl _) | omega | (simp only [World.size_alloc, World.size_setCell, World.size_drew, Wov_size, World.heap_drewN]; omega))))

/-- A zone under way, of a matrix. -/
def tF (f : Nat → Int) : Nat → Nat → Int
  | 0 => fun _ => 0
  | t + 1 => upd (tF f t) t (f (placeZ t))
theorem tF_six (f : Nat → Int) : zoneV (tF f 6) = zoneV (shortZ f) := rfl
/-- A result: a zone and an error's number. -/
def zoneR (z : Nat → Int) (e : Int) : Value := .tuple #[zoneV z, .int .i64 e]
/-- The zone of a closed matrix, if it may be handed in. -/
def toldZ (f : Nat → Int) : (Nat → Int) × Int := if okD 3 9 f then (shortZ f, 0) else (fun _ => 0, 8)

set_option maxRecDepth 10000 in
set_option maxHeartbeats 4000000 in
theorem ztold_any (p : Option Addr) (c : Nat) (f : Nat → Int) (w : World) (hS : SlP w p 9 f) (hF : Fits 9 f) : Calls Tryz.prog 169 #[.agg #[.int .i64 3, .slice p 9 c]] w (Gives w (zoneR (toldZ f).1 (toldZ f).2)) := by
  have CK : Hid (∀ w', Below w.heap.size w w' → Calls Tryz.prog 83 #[.agg #[.int .i64 3, .slice p 9 c]] w' (Gives w' (.int .i64 (rcode (okD 3 9 f))))) := fun w' hb => dbmCheck_any 3 p 9 c f w' (by decide) (hS.below hb) hF (by omega)
  have PL := Lib.hid places_any
  obtain ⟨B1, o1, rfl, hB1, hc1⟩ := hS.pos (by omega)
  have HC := Lib.hid hc1
  unfold toldZ
  cases ok : okD 3 9 f
  · rw [ok] at CK
    simp only [rcode, Bool.false_eq_true, if_false] at CK ⊢
    clear ok hS hF hc1 HC PL
    unfold zoneR zoneV
    go_enter Tryz.func169, Tryz.ntmps169
    go_wp2_with (fail)
    refine (CK.out _ (by (repeat' (first | (with_reducible assumption) | (with_reducible exact Below.refl _ _) | (with_reducible refine below_wov ?_ ?_ _) | (with_reducible refine below_drewN ?_ _) | (with_reducible refine Below.drew ?_) | (with_reducible refine Below.alloc ?_ ?_ _) | (with_reducible refine Below.setCell ?_ ?_ _) | (with_reducible exact Nat.le_refl _) | omega | (simp only [World.size_alloc, World.size_setCell, World.size_drew, Wov_size, World.heap_drewN]; omega))))).mono ?_; rintro e w' ⟨rfl, q1, rfl⟩
    go_wp2
    go_returns
    exact gives_end rfl (by (repeat' (first | (with_reducible assumption) | (with_reducible exact Below.refl _ _) | (with_reducible refine below_wov ?_ ?_ _) | (with_reducible refine below_drewN ?_ _) | (with_reducible refine Below.drew ?_) | (with_reducible refine Below.alloc ?_ ?_ _) | (with_reducible refine Below.setCell ?_ ?_ _) | (with_reducible exact Nat.le_refl _) | omega | (simp only [World.size_alloc, World.size_setCell, World.size_drew, Wov_size, World.heap_drewN]; omega))))
  · rw [ok] at CK
    simp only [rcode, if_true] at CK ⊢
    clear ok hS hF hc1
    show Calls _ _ _ _ (Gives w (zoneR (shortZ f) 0))
    unfold zoneR
    rw [← tF_six]
    have j0 := idxZ0
    have j1 := idxZ1
    have j2 := idxZ2
    have j3 := idxZ3
    have j4 := idxZ4
    have j5 := idxZ5
    go_enter Tryz.func169, Tryz.ntmps169
    go_wp2_with (fail)
    refine (CK.out _ (by (repeat' (first | (with_reducible assumption) | (with_reducible exact Below.refl _ _) | (with_reducible refine below_wov ?_ ?_ _) | (with_reducible refine below_drewN ?_ _) | (with_reducible refine Below.drew ?_) | (with_reducible refine Below.alloc ?_ ?_ _) | (with_reducible refine Below.setCell ?_ ?_ _) | (with_reducible exact Nat.le_refl _) | omega | (simp only [World.size_alloc, World.size_setCell, World.size_drew, Wov_size, World.heap_drewN]; omega))))).mono ?_; rintro e w' ⟨rfl, q1, rfl⟩
    go_wp2_with (fail)
    refine (PL.out _).mono ?_; rintro e w' ⟨rfl, q2, rfl⟩
    clear PL CK
    go_wp2
    refine wp_world (fun W => Below w.heap.size w W ∧ w.heap.size + 1 < W.heap.size ∧ W.cell? ⟨w.heap.size, 0, none⟩ = some (.int .i64 3) ∧ W.cell? ⟨w.heap.size, 1, none⟩ = some (.slice (some ⟨B1, o1, none⟩) 9 c) ∧ HoldsI W (w.heap.size + 1) 6 (tF f 0)) ⟨by (repeat' (first | (with_reducible assumption) | (with_reducible exact Below.refl _ _) | (with_reducible refine below_wov ?_ ?_ _) | (with_reducible refine below_drewN ?_ _) | (with_reducible refine Below.drew ?_) | (with_reducible refine Below.alloc ?_ ?_ _) | (with_reducible refine Below.setCell ?_ ?_ _) | (with_reducible exact Nat.le_refl _) | omega | (simp only [World.size_alloc, World.size_setCell, World.size_drew, Wov_size, World.heap_drewN]; omega))), by (first | omega | ((simp only [World.size_alloc, World.size_setCell, World.size_drew, Wov_size, World.heap_drewN, Array.size_append]) <;> omega)), by simp [go_sem], by simp [go_sem], ?_⟩ ?_
    · intro x hx
      have : x = 0 ∨ x = 1 ∨ x = 2 ∨ x = 3 ∨ x = 4 ∨ x = 5 := by omega
      rcases this with rfl | rfl | rfl | rfl | rfl | rfl <;> (constructor <;> simp [go_sem, tF])
    rintro X ⟨hbX, hzX, x0, x1, x2⟩
    have x2' := Lib.hid x2
    have hsX := hbX.size
    clear x2
    go_loopw [11] (fun i wr => ∃ t : Nat, t ≤ 6 ∧ i = .int .i64 t ∧ Chg X (w.heap.size + 1) wr ∧ Hid (HoldsI wr (w.heap.size + 1) 6 (tF f t)))
      (fun i _ => 6 - (intOf i).toNat)
    case atStart => exact ⟨0, by omega, rfl, Chg.refl _ _, x2'.out⟩
    case round =>
      obtain ⟨t, ht, rfl, hc, hH⟩ := hrel
      have d0 := (hc.cell (x := 0) (b := w.heap.size) (by omega) (by omega)).trans x0
      have d1 := (hc.cell (x := 1) (b := w.heap.size) (by omega) (by omega)).trans x1
      have hsz := hc.size
      by_cases hlt : t < 6
      · obtain ⟨hz1, hz2⟩ := hH.out t hlt
        have hN : HoldsI (wr.setCell ⟨w.heap.size + 1, t, none⟩ (.int .i64 (f (placeZ t)))) (w.heap.size + 1) 6 (tF f (t + 1)) := hH.out.set hlt (f (placeZ t))
        have hk := (hc.cell (x := o1 + placeZ t) (b := B1) (by omega) (by omega)).trans ((hbX.cell (p := ⟨B1, o1 + placeZ t, none⟩) hB1).trans (HC.out (placeZ t) (placeZ_lt t hlt)))
        have HN := Lib.hid hN
        have hcases : t = 0 ∨ t = 1 ∨ t = 2 ∨ t = 3 ∨ t = 4 ∨ t = 5 := by omega
        clear hN hlt ht hH
        rcases hcases with rfl | rfl | rfl | rfl | rfl | rfl
        all_goals simp only [placeZ] at hk HN
        · go_wp2
          go_roundw
          case rel => exact ⟨1, by omega, rfl, hc.trans (Chg.set _ _ _ _), HN.out⟩
          case measure => simp [intOf]
        · go_wp2
          go_roundw
          case rel => exact ⟨2, by omega, rfl, hc.trans (Chg.set _ _ _ _), HN.out⟩
          case measure => simp [intOf]
        · go_wp2
          go_roundw
          case rel => exact ⟨3, by omega, rfl, hc.trans (Chg.set _ _ _ _), HN.out⟩
          case measure => simp [intOf]
        · go_wp2
          go_roundw
          case rel => exact ⟨4, by omega, rfl, hc.trans (Chg.set _ _ _ _), HN.out⟩
          case measure => simp [intOf]
        · go_wp2
          go_roundw
          case rel => exact ⟨5, by omega, rfl, hc.trans (Chg.set _ _ _ _), HN.out⟩
          case measure => simp [intOf]
        · go_wp2
          go_roundw
          case rel => exact ⟨6, by omega, rfl, hc.trans (Chg.set _ _ _ _), HN.out⟩
          case measure => simp [intOf]
      · obtain rfl : t = 6 := by omega
        have r0 := (hH.out 0 (by omega)).1
        have r1 := (hH.out 1 (by omega)).1
        have r2 := (hH.out 2 (by omega)).1
        have r3 := (hH.out 3 (by omega)).1
        have r4 := (hH.out 4 (by omega)).1
        have r5 := (hH.out 5 (by omega)).1
        have hbw := Lib.hid (hbX.trans (hc.belowAt (by omega) hsX))
        unfold zoneV
        generalize tF f 6 = g at *
        clear hH
        go_wp2
        refine bodyPost_ret (by simp [results, Tryz.results169, go_sem, r0, r1, r2, r3, r4, r5]; try rfl) rfl ?_
        exact gives_end rfl hbw.out

/-- The zone of a matrix, or the error. -/
def ofZ (n : Int) (N : Nat) (f : Nat → Int) : (Nat → Int) × Int :=
  if okD n N f then (if n = 3 then (if (closeM n N f).e = 0 then toldZ (closeM n N f).f else (fun _ => 0, (closeM n N f).e)) else (fun _ => 0, 40)) else (fun _ => 0, 8)

set_option maxRecDepth 10000 in
set_option maxHeartbeats 4000000 in
theorem zof_any (n : Int) (p : Option Addr) (N c : Nat) (f : Nat → Int) (w : World) (hn : fits64 n) (hS : SlP w p N f) (hF : Fits N f) (hN : N ≤ 1000000) : Calls Tryz.prog 125 #[.agg #[.int .i64 n, .slice p N c]] w (Gives w (zoneR (ofZ n N f).1 (ofZ n N f).2)) := by
  have CK : Hid (∀ w', Below w.heap.size w w' → Calls Tryz.prog 83 #[.agg #[.int .i64 n, .slice p N c]] w' (Gives w' (.int .i64 (rcode (okD n N f))))) := fun w' hb => dbmCheck_any n p N c f w' hn (hS.below hb) hF (by omega)
  have CL : Hid (∀ w', Below w.heap.size w w' → Calls Tryz.prog 74 #[.agg #[.int .i64 n, .slice p N c]] w' (matC w' (closeM n N f).n (closeM n N f).N (closeM n N f).f (closeM n N f).e)) := fun w' hb => closeM_any n p N c f w' hn (hS.below hb) hF (by omega)
  unfold ofZ
  cases ok : okD n N f
  · rw [ok] at CK
    simp only [rcode, Bool.false_eq_true, if_false] at CK ⊢
    clear ok hS hF CL
    unfold zoneR zoneV
    go_enter Tryz.func125, Tryz.ntmps125
    go_wp2_with (fail)
    refine (CK.out _ (by (repeat' (first | (with_reducible assumption) | (with_reducible exact Below.refl _ _) | (with_reducible refine below_wov ?_ ?_ _) | (with_reducible refine below_drewN ?_ _) | (with_reducible refine Below.drew ?_) | (with_reducible refine Below.alloc ?_ ?_ _) | (with_reducible refine Below.setCell ?_ ?_ _) | (with_reducible exact Nat.le_refl _) | omega | (simp only [World.size_alloc, World.size_setCell, World.size_drew, Wov_size, World.heap_drewN]; omega))))).mono ?_; rintro e w' ⟨rfl, q1, rfl⟩
    go_wp2
    go_returns
    exact gives_end rfl (by (repeat' (first | (with_reducible assumption) | (with_reducible exact Below.refl _ _) | (with_reducible refine below_wov ?_ ?_ _) | (with_reducible refine below_drewN ?_ _) | (with_reducible refine Below.drew ?_) | (with_reducible refine Below.alloc ?_ ?_ _) | (with_reducible refine Below.setCell ?_ ?_ _) | (with_reducible exact Nat.le_refl _) | omega | (simp only [World.size_alloc, World.size_setCell, World.size_drew, Wov_size, World.heap_drewN]; omega))))
  · rw [ok] at CK
    simp only [rcode, if_true] at CK ⊢
    by_cases h3 : n = 3
    · subst h3
      obtain ⟨m, hm, rfl, _, _⟩ := okD_form ok
      obtain rfl : m = 3 := by omega
      clear hm
      rw [if_pos rfl]
      have mo := closeM_ok 3 (3 * 3) f
      by_cases he : (closeM 3 (3 * 3) f).e = 0
      · rw [if_pos he]
        rcases closeM_cases (n := 3) ok with ⟨g, hg, K⟩ | ⟨hg, _⟩
        · have hg' : closeM 3 (3 * 3) f = ⟨3, 3 * 3, g, 0⟩ := hg
          rw [hg'] at CL mo ⊢
          have CL2 : Hid (∀ w', Below w.heap.size w w' → Calls Tryz.prog 74 #[.agg #[.int .i64 3, .slice p 9 c]] w' (matC w' 3 9 g 0)) := CL
          have TD : Hid (∀ w p c, SlP w p 9 g → Calls Tryz.prog 169 #[.agg #[.int .i64 3, .slice p 9 c]] w (Gives w (.tuple #[.agg #[.int .i64 ((toldZ g).1 0), .int .i64 ((toldZ g).1 1), .int .i64 ((toldZ g).1 2), .int .i64 ((toldZ g).1 3), .int .i64 ((toldZ g).1 4), .int .i64 ((toldZ g).1 5)], .int .i64 (toldZ g).2]))) := fun w p c h => ztold_any p c g w h mo.f
          have CK2 : Hid (∀ w', Below w.heap.size w w' → Calls Tryz.prog 83 #[.agg #[.int .i64 3, .slice p 9 c]] w' (Gives w' (.int .i64 0))) := CK
          show Calls _ _ #[.agg #[.int .i64 3, .slice p 9 c]] _ (Gives w (zoneR (toldZ g).1 (toldZ g).2))
          generalize (toldZ g).1 = zz at *
          generalize (toldZ g).2 = ee at *
          clear CK CL ok hS hF he mo hg hg' K
          unfold zoneR zoneV
          go_enter Tryz.func125, Tryz.ntmps125
          go_wp2_with (fail)
          refine (CK2.out _ (by (repeat' (first | (with_reducible assumption) | (with_reducible exact Below.refl _ _) | (with_reducible refine below_wov ?_ ?_ _) | (with_reducible refine below_drewN ?_ _) | (with_reducible refine Below.drew ?_) | (with_reducible refine Below.alloc ?_ ?_ _) | (with_reducible refine Below.setCell ?_ ?_ _) | (with_reducible exact Nat.le_refl _) | omega | (simp only [World.size_alloc, World.size_setCell, World.size_drew, Wov_size, World.heap_drewN]; omega))))).mono ?_; rintro e w' ⟨rfl, q1, rfl⟩
          go_wp2_with (fail)
          refine (CL2.out _ (by (repeat' (first | (with_reducible assumption) | (with_reducible exact Below.refl _ _) | (with_reducible refine below_wov ?_ ?_ _) | (with_reducible refine below_drewN ?_ _) | (with_reducible refine Below.drew ?_) | (with_reducible refine Below.alloc ?_ ?_ _) | (with_reducible refine Below.setCell ?_ ?_ _) | (with_reducible exact Nat.le_refl _) | omega | (simp only [World.size_alloc, World.size_setCell, World.size_drew, Wov_size, World.heap_drewN]; omega))))).mono ?_; rintro e w' ⟨⟨p2, c2, rfl, ho⟩, q2, rfl⟩
          have t2 := ho.slp
          (try simp only [Wov_Wov] at t2)
          clear ho CL2 CK2
          go_wp2_with (fail)
          refine (TD.out _ _ _ (t2.below (by (repeat' (first | (with_reducible assumption) | (with_reducible exact Below.refl _ _) | (with_reducible refine below_wov ?_ ?_ _) | (with_reducible refine below_drewN ?_ _) | (with_reducible refine Below.drew ?_) | (with_reducible refine Below.alloc ?_ ?_ _) | (with_reducible refine Below.setCell ?_ ?_ _) | (with_reducible exact Nat.le_refl _) | omega | (simp only [World.size_alloc, World.size_setCell, World.size_drew, Wov_size, World.heap_drewN]; omega)))))).mono ?_; rintro e w' ⟨rfl, q3, rfl⟩
          clear t2 TD
          go_wp2
          go_returns
          exact gives_end rfl (by (repeat' (first | (with_reducible assumption) | (with_reducible exact Below.refl _ _) | (with_reducible refine below_wov ?_ ?_ _) | (with_reducible refine below_drewN ?_ _) | (with_reducible refine Below.drew ?_) | (with_reducible refine Below.alloc ?_ ?_ _) | (with_reducible refine Below.setCell ?_ ?_ _) | (with_reducible exact Nat.le_refl _) | omega | (simp only [World.size_alloc, World.size_setCell, World.size_drew, Wov_size, World.heap_drewN]; omega))))
        · have hg' : closeM 3 (3 * 3) f = errM 6 := hg
          rw [hg'] at he; simp [errM] at he
      · rw [if_neg he]
        have hne : ((closeM 3 (3 * 3) f).e != 0) = true := by rw [bne_iff_ne]; exact he
        obtain ⟨⟨x, Z, g, e0⟩, hr⟩ : ∃ r, r = closeM 3 (3 * 3) f := ⟨_, rfl⟩
        rw [← hr] at CL hne ⊢
        have CL2 : Hid (∀ w', Below w.heap.size w w' → Calls Tryz.prog 74 #[.agg #[.int .i64 3, .slice p 9 c]] w' (matC w' x Z g e0)) := CL
        have CK2 : Hid (∀ w', Below w.heap.size w w' → Calls Tryz.prog 83 #[.agg #[.int .i64 3, .slice p 9 c]] w' (Gives w' (.int .i64 0))) := CK
        have hne2 : (e0 != 0) = true := hne
        show Calls _ _ #[.agg #[.int .i64 3, .slice p 9 c]] _ (Gives w (zoneR (fun _ => 0) e0))
        clear CK CL ok hS hF he mo hr hne
        unfold zoneR zoneV
        go_enter Tryz.func125, Tryz.ntmps125
        go_wp2_with (fail)
        refine (CK2.out _ (by (repeat' (first | (with_reducible assumption) | (with_reducible exact Below.refl _ _) | (with_reducible refine below_wov ?_ ?_ _) | (with_reducible refine below_drewN ?_ _) | (with_reducible refine Below.drew ?_) | (with_reducible refine Below.alloc ?_ ?_ _) | (with_reducible refine Below.setCell ?_ ?_ _) | (with_reducible exact Nat.le_refl _) | omega | (simp only [World.size_alloc, World.size_setCell, World.size_drew, Wov_size, World.heap_drewN]; omega))))).mono ?_; rintro e w' ⟨rfl, q1, rfl⟩
        go_wp2_with (fail)
        refine (CL2.out _ (by (repeat' (first | (with_reducible assumption) | (with_reducible exact Below.refl _ _) | (with_reducible refine below_wov ?_ ?_ _) | (with_reducible refine below_drewN ?_ _) | (with_reducible refine Below.drew ?_) | (with_reducible refine Below.alloc ?_ ?_ _) | (with_reducible refine Below.setCell ?_ ?_ _) | (with_reducible exact Nat.le_refl _) | omega | (simp only [World.size_alloc, World.size_setCell, World.size_drew, Wov_size, World.heap_drewN]; omega))))).mono ?_; rintro e w' ⟨⟨p2, c2, rfl, ho⟩, q2, rfl⟩
        clear ho CL2 CK2
        go_wp2
        go_returns
        exact gives_end rfl (by (repeat' (first | (with_reducible assumption) | (with_reducible exact Below.refl _ _) | (with_reducible refine below_wov ?_ ?_ _) | (with_reducible refine below_drewN ?_ _) | (with_reducible refine Below.drew ?_) | (with_reducible refine Below.alloc ?_ ?_ _) | (with_reducible refine Below.setCell ?_ ?_ _) | (with_reducible exact Nat.le_refl _) | omega | (simp only [World.size_alloc, World.size_setCell, World.size_drew, Wov_size, World.heap_drewN]; omega))))
    · rw [if_neg h3]
      have b3 : (n != 3) = true := by rw [bne_iff_ne]; exact h3
      clear h3 ok hS hF CL
      unfold zoneR zoneV
      go_enter Tryz.func125, Tryz.ntmps125
      go_wp2_with (fail)
      refine (CK.out _ (by (repeat' (first | (with_reducible assumption) | (with_reducible exact Below.refl _ _) | (with_reducible refine below_wov ?_ ?_ _) | (with_reducible refine below_drewN ?_ _) | (with_reducible refine Below.drew ?_) | (with_reducible refine Below.alloc ?_ ?_ _) | (with_reducible refine Below.setCell ?_ ?_ _) | (with_reducible exact Nat.le_refl _) | omega | (simp only [World.size_alloc, World.size_setCell, World.size_drew, Wov_size, World.heap_drewN]; omega))))).mono ?_; rintro e w' ⟨rfl, q1, rfl⟩
      go_wp2
      go_returns
      exact gives_end rfl (by (repeat' (first | (with_reducible assumption) | (with_reducible exact Below.refl _ _) | (with_reducible refine below_wov ?_ ?_ _) | (with_reducible refine below_drewN ?_ _) | (with_reducible refine Below.drew ?_) | (with_reducible refine Below.alloc ?_ ?_ _) | (with_reducible refine Below.setCell ?_ ?_ _) | (with_reducible exact Nat.le_refl _) | omega | (simp only [World.size_alloc, World.size_setCell, World.size_drew, Wov_size, World.heap_drewN]; omega))))
#print axioms zof_any
end Go.Proofs.YtpmpapenjcemjaaGreatDoor
