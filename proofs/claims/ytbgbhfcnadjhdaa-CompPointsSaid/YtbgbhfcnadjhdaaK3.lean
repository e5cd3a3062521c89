/- Contract of win.with: a zone with bounds more. No condition but that the places are a zone's. -/
import Derived.Test.YtbgbhfcnadjhdaaK1
import Derived.Test.YtbgbhfcnadjhdaaH8
namespace Go.Proofs.Ytbgbhfcnadjhdaa
set_option linter.unusedSimpArgs false
set_option linter.unusedVariables false
open Go Go.RowKit Go.Shelf
attribute [local go_sem] Nat.add_assoc Nat.add_lt_add_iff_left lit_lt_add

/-- A zone with the bounds of a list, laid one behind the other. -/
def foldZ (z : Nat → Int) (T : Nat → Int × Int) : Nat → Nat → Int
  | 0 => z
  | k + 1 => upd (foldZ z T k) (T k).1.toNat (min (foldZ z T k (T k).1.toNat) (T k).2)
theorem foldZ_fits {z : Nat → Int} {T : Nat → Int × Int} (hz : FitsZ z) : ∀ k, (∀ i, i < k → fits64 (T i).2) → FitsZ (foldZ z T k)
  | 0, _ => hz
  | k + 1, h => by
    have h1 := foldZ_fits hz k fun i hi => h i (by omega)
    have h2 := h k (by omega)
    intro i hi
    show fits64 (upd _ _ _ i)
    unfold upd
    split
    · next e => subst e; have := h1 _ hi; unfold fits64 at *; omega
    · exact h1 i hi
theorem zero_six {W : World} {A : Nat} {t : TypeId} (hA : A = W.heap.size) : HoldsA (W.alloc (.cells #[.int .i64 0, .int .i64 0, .int .i64 0, .int .i64 0, .int .i64 0, .int .i64 0] t)) A 6 (fun _ => 0) := HoldsA.zone hA
theorem six_new {W : World} {A : Nat} {t : TypeId} {z : Nat → Int} (hA : A = W.heap.size) : HoldsA (W.alloc (.cells #[.int .i64 (z 0), .int .i64 (z 1), .int .i64 (z 2), .int .i64 (z 3), .int .i64 (z 4), .int .i64 (z 5)] t)) A 6 z := by
  subst hA
  refine ⟨by simp, fun x hx => ?_⟩
  rcases six hx with rfl | rfl | rfl | rfl | rfl | rfl <;> (constructor <;> simp [go_sem])

set_option maxRecDepth 10000 in
set_option maxHeartbeats 4000000 in
theorem wwith_any (z : Nat → Int) (pl : Option Addr) (K cl : Nat) (T : Nat → Int × Int) (w : World) (hz : FitsZ z) (hR : SlR w pl K T) (hK : K ≤ 1000) (hat : ∀ k, k < K → ∃ a : Nat, (T k).1 = (a : Int) ∧ a < 6) (hb : ∀ k, k < K → fits64 (T k).2) :
    Calls Try.prog 70 #[zoneV z, .slice pl K cl] w (Gives w (zoneR (ofZ 3 9 (zF (foldZ z T K))).1 (ofZ 3 9 (zF (foldZ z T K))).2)) := by
  have fy : FitsZ (foldZ z T K) := foldZ_fits hz K hb
  have MX : Hid (∀ y w, y = foldZ z T K → Calls Try.prog 47 #[.agg #[.int .i64 (y 0), .int .i64 (y 1), .int .i64 (y 2), .int .i64 (y 3), .int .i64 (y 4), .int .i64 (y 5)]] w (matC w (matZ (foldZ z T K)).n (matZ (foldZ z T K)).N (matZ (foldZ z T K)).f (matZ (foldZ z T K)).e)) := fun y w h => by rw [h]; exact zmatrix_any _ w fy
  have OF : Hid (∀ w p c, SlP w p 9 (zF (foldZ z T K)) → Calls Try.prog 33 #[.agg #[.int .i64 3, .slice p 9 c]] w (Gives w (zoneR (ofZ 3 9 (zF (foldZ z T K))).1 (ofZ 3 9 (zF (foldZ z T K))).2))) := fun w p c h => zof_any 3 p 9 c _ w (by decide) h (zF_fits fy) (by omega)
  have HAT := Lib.hid hat
  have HR := Lib.hid hR
  unfold zoneR zoneV at OF ⊢
  unfold matZ at MX
  obtain ⟨⟨r, e0⟩, hr⟩ : ∃ r, r = ofZ 3 9 (zF (foldZ z T K)) := ⟨_, rfl⟩
  have HK : Hid (okD 3 9 (zF (foldZ z T K)) = false → r = (fun _ => 0) ∧ e0 = 8) := fun h => by
    unfold ofZ at hr
    rw [h] at hr
    simpa using hr
  rw [← hr] at OF ⊢
  obtain ⟨F, hF⟩ : ∃ F, F = zF (foldZ z T K) := ⟨_, rfl⟩
  rw [← hF] at MX OF HK
  obtain ⟨k, hk⟩ : ∃ k, k = okD 3 9 F := ⟨_, rfl⟩
  rw [← hk] at MX HK
  clear hr hF hk hz hR hat hb fy
  go_enter Try.func70, Try.ntmps70
  go_wp2
  refine wp_world (fun W => Below w.heap.size w W ∧ HoldsA W w.heap.size 6 z ∧ HoldsA W (w.heap.size + 1) 6 (fun _ => 0)) ⟨by (repeat' (first | (with_reducible assumption) | (with_reducible exact Below.refl _ _) | (with_reducible refine below_wov ?_ ?_ _) | (with_reducible refine below_drewN ?_ _) | (with_reducible refine Below.drew ?_) | (with_reducible refine Below.alloc ?_ ?_ _) | (with_reducible refine Below.setCell ?_ ?_ _) | (with_reducible exact Nat.le_refl _) | omega | (simp only [World.size_alloc, World.size_setCell, World.size_drew, Wov_size, World.heap_drewN]; omega))), (six_new (W := w) (t := 24) rfl).below (by (repeat' (first | (with_reducible assumption) | (with_reducible exact Below.refl _ _) | (with_reducible refine below_wov ?_ ?_ _) | (with_reducible refine below_drewN ?_ _) | (with_reducible refine Below.drew ?_) | (with_reducible refine Below.alloc ?_ ?_ _) | (with_reducible refine Below.setCell ?_ ?_ _) | (with_reducible exact Nat.le_refl _) | omega | (simp only [World.size_alloc, World.size_setCell, World.size_drew, Wov_size, World.heap_drewN]; omega)))), zero_six (W := w.alloc (.cells #[.int .i64 (z 0), .int .i64 (z 1), .int .i64 (z 2), .int .i64 (z 3), .int .i64 (z 4), .int .i64 (z 5)] 24)) (t := 24) (by simp)⟩ ?_
  rintro W ⟨hb1, h0, h1⟩
  have HZ := Lib.hid h0
  have HO := Lib.hid h1
  have hsz := hb1.size
  have HB1 := Lib.hid hb1
  have l1 := h1.lt
  clear h0 h1 hb1
  go_loopw [7, 12] (fun _ i wr => ∃ t : Nat, t ≤ K ∧ i = .int .i64 t ∧ Chg W w.heap.size wr ∧ Hid (HoldsI wr w.heap.size 6 (foldZ z T t)))
    (fun _ i _ => K - (intOf i).toNat)
  case atStart => exact ⟨0, by omega, rfl, Chg.refl _ _, HZ.out.holds⟩
  case round =>
    obtain ⟨t, ht, rfl, hc, hH⟩ := hrel
    have hsr := hc.size
    by_cases hlt : t < K
    · obtain ⟨BL, off, rfl, hBL, hcl⟩ : ∃ BL off, pl = some ⟨BL, off, none⟩ ∧ BL < w.heap.size ∧ ∀ x, x < K → w.cell? ⟨BL, off + x * 2, none⟩ = some (.int .i64 (T x).1) ∧ w.cell? ⟨BL, off + (x * 2 + 1), none⟩ = some (.int .i64 (T x).2) := by
        rcases HR.out with h | h
        · omega
        · exact h
      obtain ⟨l0, l1'⟩ := hcl t hlt
      have k0 : wr.cell? ⟨BL, off + t * 2, none⟩ = some (.int .i64 (T t).1) := (hc.cell (by omega) (by omega)).trans ((HB1.out.cell (p := ⟨BL, off + t * 2, none⟩) hBL).trans l0)
      have k1 : wr.cell? ⟨BL, off + (t * 2 + 1), none⟩ = some (.int .i64 (T t).2) := (hc.cell (by omega) (by omega)).trans ((HB1.out.cell (p := ⟨BL, off + (t * 2 + 1), none⟩) hBL).trans l1')
      obtain ⟨a, ha, haN⟩ := HAT.out t hlt
      obtain ⟨hb1, hb2⟩ := hH.out a haN
      have hstep : Hid (∀ v b, v = foldZ z T t a → b = (T t).2 → upd (foldZ z T t) a (min v b) = foldZ z T (t + 1)) := fun v b hv hb => by
        show _ = upd (foldZ z T t) (T t).1.toNat (min (foldZ z T t (T t).1.toNat) (T t).2)
        rw [ha, hv, hb]; rfl
      obtain ⟨v, hv⟩ : ∃ v, v = foldZ z T t a := ⟨_, rfl⟩
      obtain ⟨b, hb⟩ : ∃ b, b = (T t).2 := ⟨_, rfl⟩
      rw [ha] at k0
      rw [← hb] at k1
      rw [← hv] at hb1
      have HST : Hid (upd (foldZ z T t) a (min v b) = foldZ z T (t + 1)) := hstep.out v b hv hb
      have u1 : (0 : Int) ≤ (a : Int) := by omega
      have u2 : (a : Int) < (6 : Int) := by omega
      have hBr : w.heap.size < wr.heap.size := by omega
      have HH := Lib.hid hH.out
      clear hstep hv hb l0 l1' hcl ha hH
      go_wp2
      go_region
      go_wp2
      go_roundw
      case rel =>
        have em : (if b < v then b else v) = min v b := by
          by_cases h : b < v
          · rw [if_pos h, Int.min_eq_right (by omega)]
          · rw [if_neg h, Int.min_eq_left (by omega)]
        rw [em]
        refine ⟨t + 1, hlt, by go_num, ((hc.trans (Chg.set _ _ _ _)).trans (Chg.alloc _ _ _)).trans (Chg.drew _ _), ?_⟩
        rw [← HST.out]
        have h5 := HH.out.set haN (min v b)
        exact h5.below (((Below.refl _ _).alloc (Nat.le_refl _) _).drew) (by simp [World.setCell]; omega)
      case measure => simp [intOf]; omega
    · obtain rfl : t = K := by omega
      have hO := holdsA_chg HO.out hc (by omega)
      have HO2 := Lib.hid hO
      have HBW := Lib.hid (HB1.out.trans (hc.belowAt (Nat.le_refl _) hsz))
      obtain ⟨y, hy⟩ : ∃ y, y = foldZ z T t := ⟨_, rfl⟩
      have MX2 := Lib.hid (fun w => MX.out y w hy)
      have HY := Lib.hid (show HoldsI wr w.heap.size 6 y by rw [hy]; exact hH.out)
      have x0 := (HY.out 0 (by omega)).1
      have x1 := (HY.out 1 (by omega)).1
      have x2 := (HY.out 2 (by omega)).1
      have x3 := (HY.out 3 (by omega)).1
      have x4 := (HY.out 4 (by omega)).1
      have x5 := (HY.out 5 (by omega)).1
      have hzr : w.heap.size < wr.heap.size := by omega
      clear hy hH MX HAT HR HZ HO hc HY hO
      go_wp2_with (fail)
      have hbw := HBW.out
      have hsw := hbw.size
      refine calls_world (fun V => Below w.heap.size w V ∧ HoldsA V (w.heap.size + 1) 6 (fun _ => 0)) ⟨by (repeat' (first | (with_reducible assumption) | (with_reducible exact Below.refl _ _) | (with_reducible refine below_wov ?_ ?_ _) | (with_reducible refine below_drewN ?_ _) | (with_reducible refine Below.drew ?_) | (with_reducible refine Below.alloc ?_ ?_ _) | (with_reducible refine Below.setCell ?_ ?_ _) | (with_reducible exact Nat.le_refl _) | omega | (simp only [World.size_alloc, World.size_setCell, World.size_drew, Wov_size, World.heap_drewN]; omega))), HO2.out.below (by (repeat' (first | (with_reducible assumption) | (with_reducible exact Below.refl _ _) | (with_reducible refine below_wov ?_ ?_ _) | (with_reducible refine below_drewN ?_ _) | (with_reducible refine Below.drew ?_) | (with_reducible refine Below.alloc ?_ ?_ _) | (with_reducible refine Below.setCell ?_ ?_ _) | (with_reducible exact Nat.le_refl _) | omega | (simp only [World.size_alloc, World.size_setCell, World.size_drew, Wov_size, World.heap_drewN]; omega))))⟩ ?_
      rintro V ⟨hbV, hO3⟩
      have HO3 := Lib.hid hO3
      have hsV := hbV.size
      have lV := hO3.lt
      clear x0 x1 x2 x3 x4 x5 hbw HBW HO2 hO3 hsw hsr hzr
      cases k
      · obtain ⟨rfl, rfl⟩ := HK.out rfl
        clear HK OF
        simp only [Bool.false_eq_true, if_false, errM] at MX2
        refine (MX2.out _).mono ?_; rintro e w' ⟨⟨p1, c1, rfl, ho⟩, q1, rfl⟩
        clear ho MX2
        have r0 := (HO3.out.holds 0 (by omega)).1
        have r1 := (HO3.out.holds 1 (by omega)).1
        have r2 := (HO3.out.holds 2 (by omega)).1
        have r3 := (HO3.out.holds 3 (by omega)).1
        have r4 := (HO3.out.holds 4 (by omega)).1
        have r5 := (HO3.out.holds 5 (by omega)).1
        have y0 := (HO3.out.holds 0 (by omega)).2
        have y1 := (HO3.out.holds 1 (by omega)).2
        have y2 := (HO3.out.holds 2 (by omega)).2
        have y3 := (HO3.out.holds 3 (by omega)).2
        have y4 := (HO3.out.holds 4 (by omega)).2
        have y5 := (HO3.out.holds 5 (by omega)).2
        ((try dsimp only); repeat (first | go_values | go_skip | go_guarded | go_step | go_upon))
        refine bodyPost_ret (by simp [results, Try.results70, go_sem, r0, r1, r2, r3, r4, r5, lV]; try rfl) rfl ?_
        exact gives_end rfl (by (repeat' (first | (with_reducible assumption) | (with_reducible exact Below.refl _ _) | (with_reducible refine below_wov ?_ ?_ _) | (with_reducible refine below_drewN ?_ _) | (with_reducible refine Below.drew ?_) | (with_reducible refine Below.alloc ?_ ?_ _) | (with_reducible refine Below.setCell ?_ ?_ _) | (with_reducible exact Nat.le_refl _) | omega | (simp only [World.size_alloc, World.size_setCell, World.size_drew, Wov_size, World.heap_drewN]; omega))))
      · clear HK
        simp only [if_true] at MX2
        refine (MX2.out _).mono ?_; rintro e w' ⟨⟨p1, c1, rfl, ho⟩, q1, rfl⟩
        have t1 := ho.slp
        clear ho MX2
        have r0 := (HO3.out.holds 0 (by omega)).1
        have r1 := (HO3.out.holds 1 (by omega)).1
        have r2 := (HO3.out.holds 2 (by omega)).1
        have r3 := (HO3.out.holds 3 (by omega)).1
        have r4 := (HO3.out.holds 4 (by omega)).1
        have r5 := (HO3.out.holds 5 (by omega)).1
        have y0 := (HO3.out.holds 0 (by omega)).2
        have y1 := (HO3.out.holds 1 (by omega)).2
        have y2 := (HO3.out.holds 2 (by omega)).2
        have y3 := (HO3.out.holds 3 (by omega)).2
        have y4 := (HO3.out.holds 4 (by omega)).2
        have y5 := (HO3.out.holds 5 (by omega)).2
        go_wp2_with (fail)
        refine (OF.out _ _ _ (t1.below (by (repeat' (first | (with_reducible assumption) | (with_reducible exact Below.refl _ _) | (with_reducible refine below_wov ?_ ?_ _) | (with_reducible refine below_drewN ?_ _) | (with_reducible refine Below.drew ?_) | (with_reducible refine Below.alloc ?_ ?_ _) | (with_reducible refine Below.setCell ?_ ?_ _) | (with_reducible exact Nat.le_refl _) | omega | (simp only [World.size_alloc, World.size_setCell, World.size_drew, Wov_size, World.heap_drewN]; omega)))))).mono ?_; rintro e w' ⟨rfl, q2, rfl⟩
        clear t1 OF
        ((try dsimp only); repeat (first | go_values | go_skip | go_guarded | go_step | go_upon))
        refine bodyPost_ret (by simp [results, Try.results70, go_sem, r0, r1, r2, r3, r4, r5, lV]; try rfl) rfl ?_
        exact gives_end rfl (by (repeat' (first | (with_reducible assumption) | (with_reducible exact Below.refl _ _) | (with_reducible refine below_wov ?_ ?_ _) | (with_reducible refine below_drewN ?_ _) | (with_reducible refine Below.drew ?_) | (with_reducible refine Below.alloc ?_ ?_ _) | (with_reducible refine Below.setCell ?_ ?_ _) | (with_reducible exact Nat.le_refl _) | omega | (simp only [World.size_alloc, World.size_setCell, World.size_drew, Wov_size, World.heap_drewN]; omega))))
#print axioms wwith_any
end Go.Proofs.Ytbgbhfcnadjhdaa
