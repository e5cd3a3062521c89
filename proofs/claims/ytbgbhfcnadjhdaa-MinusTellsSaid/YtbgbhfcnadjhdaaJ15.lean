/- Contract of the document's Less of layer 11 (printed by genj15.py). No condition. -/
import Derived.Test.YtbgbhfcnadjhdaaJ14
namespace Go.Proofs.Ytbgbhfcnadjhdaa
set_option linter.unusedSimpArgs false
set_option linter.unusedVariables false
open Go Go.RowKit Go.Shelf
attribute [local go_sem] Nat.add_assoc Nat.add_lt_add_iff_left lit_lt_add

/-- The loop's world: a zone that turns, a zone that stays, and a row of zones of the call's own. -/
structure LW (w V : World) (y b : Nat → Int) (v : Value) (K : List (Nat → Int)) : Prop where
  bl : Below w.heap.size w V
  ya : HoldsA V w.heap.size 6 y
  ba : HoldsA V (w.heap.size + 1) 6 b
  row : V.ownsRow (w.heap.size + 2) 24 6 v K.length (cellsZ K)
theorem LW.below {w V V' : World} {y b : Nat → Int} {v : Value} {K : List (Nat → Int)} (h : LW w V y b v K) (hb : Below V.heap.size V V') : LW w V' y b v K :=
  ⟨h.bl.trans (hb.mono h.bl.size), h.ya.below hb, h.ba.below hb, row_below h.row hb⟩
theorem LW.put {w V V' : World} {y y' b : Nat → Int} {v : Value} {K : List (Nat → Int)} (h : LW w V y b v K) (hc : Chg V w.heap.size V') (hy : HoldsA V' w.heap.size 6 y') : LW w V' y' b v K := by
  refine ⟨((Chg.of_below h.bl).trans hc).below (Nat.le_refl _), hy, holdsA_chg h.ba hc (by omega), h.row.1, ?_⟩
  rcases h.row.2 with h0 | ⟨g, cap, cur, h1, h2, h3, h4⟩
  · exact .inl h0
  · exact .inr ⟨g, cap, cur, h1, h2, (hc.block g (Array.getElem?_eq_some_iff.1 h3).1 (by omega)).trans h3, h4⟩
theorem LW.app {w V V' : World} {y b : Nat → Int} {v v' : Value} {K K' : List (Nat → Int)} (h : LW w V y b v K) (hr : V'.ownsRow (w.heap.size + 2) 24 6 v' K'.length (cellsZ K')) (hb : Below (w.heap.size + 2) V V') : LW w V' y b v' K' :=
  ⟨h.bl.trans (hb.mono (by omega)), ⟨Nat.lt_of_lt_of_le h.ya.lt hb.size, h.ya.holds.below hb (by omega)⟩, ⟨Nat.lt_of_lt_of_le h.ba.lt hb.size, h.ba.holds.below hb (by omega)⟩, hr⟩
theorem less_at {t : Nat} (h : t < 6) (a b : Nat → Int) (acc : List (Nat → Int)) : lessZ (6 - t) t a b acc = if b t = noneB then lessZ (6 - (t + 1)) (t + 1) a b acc
    else if (withZ a (othZ t) (otherB (b t))).2 ≠ 6 ∧ (withZ a (othZ t) (otherB (b t))).2 ≠ 0 then ([], (withZ a (othZ t) (otherB (b t))).2)
    else if (withZ a t (b t)).2 = 6 then (if (withZ a (othZ t) (otherB (b t))).2 = 0 then acc ++ [(withZ a (othZ t) (otherB (b t))).1] else acc, 0)
    else if (withZ a t (b t)).2 ≠ 0 then ([], (withZ a t (b t)).2)
    else lessZ (6 - (t + 1)) (t + 1) (withZ a t (b t)).1 b (if (withZ a (othZ t) (otherB (b t))).2 = 0 then acc ++ [(withZ a (othZ t) (otherB (b t))).1] else acc) := by
  rw [show 6 - t = (6 - (t + 1)) + 1 by omega]; rfl
theorem slz_box {W : World} {A : Nat} {z : Nat → Int} (h : BoxZ W A z) : SlZ W (some ⟨A, 0, none⟩) [z] := by
  refine .inr ⟨A, 0, rfl, h.lt, fun i j hi hj => ?_⟩
  obtain rfl : i = 0 := by simpa using hi
  simp only [Nat.zero_mul, Nat.zero_add]
  exact boxZ_at h hj
set_option maxRecDepth 10000 in
set_option maxHeartbeats 8000000 in
theorem lessD_any (a b : Nat → Int) (w : World) (oka : okZ a = true) (okb : okZ b = true) : Calls Try.prog 57 #[zoneV a, zoneV b] w (zlC w (lessZ 6 0 a b [])) := by
  obtain ⟨⟨RL, RE⟩, hR⟩ : ∃ R, Hid (R = lessZ 6 0 a b []) := ⟨_, rfl⟩
  rw [← hR.out]
  unfold zlC zoneV
  dsimp only
  have OKA := Lib.hid oka
  have OKB := Lib.hid okb
  clear oka okb
  go_enter Try.func57, Try.ntmps57
  go_wp2_with (fail)
  refine wp_world (fun W => LW w W a b (.slice none 0 0) []) ⟨by (repeat' (first | (with_reducible assumption) | (with_reducible exact Below.refl _ _) | (with_reducible refine below_wov ?_ ?_ _) | (with_reducible refine below_drewN ?_ _) | (with_reducible refine Below.drew ?_) | (with_reducible refine Below.alloc ?_ ?_ _) | (with_reducible refine Below.setCell ?_ ?_ _) | (with_reducible exact Nat.le_refl _) | omega | (simp only [World.size_alloc, World.size_setCell, World.size_drew, Wov_size, World.heap_drewN]; omega))), (six_newJ (W := w) (t := 24) rfl).below (by (repeat' (first | (with_reducible assumption) | (with_reducible exact Below.refl _ _) | (with_reducible refine below_wov ?_ ?_ _) | (with_reducible refine below_drewN ?_ _) | (with_reducible refine Below.drew ?_) | (with_reducible refine Below.alloc ?_ ?_ _) | (with_reducible refine Below.setCell ?_ ?_ _) | (with_reducible exact Nat.le_refl _) | omega | (simp only [World.size_alloc, World.size_setCell, World.size_drew, Wov_size, World.heap_drewN]; omega)))), (six_newJ (W := w.alloc (.cells #[.int .i64 (a 0), .int .i64 (a 1), .int .i64 (a 2), .int .i64 (a 3), .int .i64 (a 4), .int .i64 (a 5)] 24)) (z := b) (t := 24) (by simp)).below (by (repeat' (first | (with_reducible assumption) | (with_reducible exact Below.refl _ _) | (with_reducible refine below_wov ?_ ?_ _) | (with_reducible refine below_drewN ?_ _) | (with_reducible refine Below.drew ?_) | (with_reducible refine Below.alloc ?_ ?_ _) | (with_reducible refine Below.setCell ?_ ?_ _) | (with_reducible exact Nat.le_refl _) | omega | (simp only [World.size_alloc, World.size_setCell, World.size_drew, Wov_size, World.heap_drewN]; omega)))), World.ownsRow_nil _ _ _ _⟩ ?_
  rintro W0 hW0
  go_loopw [6, 7] (fun v i V => ∃ (t : Nat) (y : Nat → Int) (K : List (Nat → Int)) (pK : Option Addr) (cK : Nat), t ≤ 6 ∧ i = .int .i64 t ∧ v = .slice pK K.length cK ∧ LW w V y b (.slice pK K.length cK) K ∧ K.length ≤ t ∧ Hid (okZ y = true) ∧ Hid (lessZ (6 - t) t y b K = (RL, RE)))
    (fun _ i _ => 6 - (intOf i).toNat)
  case atStart => exact ⟨0, a, [], none, 0, by omega, rfl, rfl, hW0, by simp, OKA.out, hR.out.symm⟩
  case round =>
    clear hW0 OKA hR
    obtain ⟨t, y, K, pK, cK, ht, rfl, rfl, hLW, hKt, oky, hL⟩ := hrel
    have HLW := Lib.hid hLW
    clear hLW
    by_cases hlt : t < 6
    · obtain ⟨x, hx⟩ : ∃ x, x = b t := ⟨_, rfl⟩
      have HX := Lib.hid hx
      have mb : Hid (mayB x = true) := by show _ = _; rw [hx]; exact okZ_may OKB.out hlt
      have hL0 := hL.out
      rw [less_at hlt, ← hx] at hL0
      clear hx hL
      have hlo : (0 : Int) ≤ (t : Int) := by omega
      have hhi : (t : Int) < 6 := by omega
      have LW0 := HLW.out
      have y0 := (LW0.ya.holds 0 (by omega)).1
      have y1 := (LW0.ya.holds 1 (by omega)).1
      have y2 := (LW0.ya.holds 2 (by omega)).1
      have y3 := (LW0.ya.holds 3 (by omega)).1
      have y4 := (LW0.ya.holds 4 (by omega)).1
      have y5 := (LW0.ya.holds 5 (by omega)).1
      have yl := LW0.ya.lt
      have xb := (LW0.ba.holds t hlt).1
      have xl := LW0.ba.lt
      rw [← HX.out] at xb
      have lsz := LW0.bl.size
      clear LW0
      by_cases hn : x = noneB
      · have hb1 : (x == 9223372036854775807) = true := by rw [hn]; rfl
        rw [if_pos hn] at hL0
        have HL1 := Lib.hid hL0
        clear hL0
        go_wp2
        go_roundw
        case rel => exact ⟨t + 1, y, K, pK, cK, by omega, by go_num, rfl, HLW.out.below (by (repeat' (first | (with_reducible assumption) | (with_reducible exact Below.refl _ _) | (with_reducible refine below_wov ?_ ?_ _) | (with_reducible refine below_drewN ?_ _) | (with_reducible refine Below.drew ?_) | (with_reducible refine Below.alloc ?_ ?_ _) | (with_reducible refine Below.setCell ?_ ?_ _) | (with_reducible exact Nat.le_refl _) | omega | (simp only [World.size_alloc, World.size_setCell, World.size_drew, Wov_size, World.heap_drewN]; omega)))), by omega, oky.out, HL1.out⟩
        case measure => simp [intOf]; omega
      · have hb1 : (x == 9223372036854775807) = false := by rw [beq_eq_false_iff_ne]; exact hn
        rw [if_neg hn] at hL0
        have OT : Hid (∀ w, Calls Try.prog 113 #[.int .i64 t] w (Gives w (.int .i64 (othZ t)))) := other11_any hlt
        have mo : mayB (otherB x) = true := other_may mb.out hn
        have RO : Hid (∀ w, Calls Try.prog 114 #[.int .i64 x] w (Gives w (.int .i64 (otherB x)))) := refOther_any x mb.out hn
        have W1 : Hid (∀ w, Calls Try.prog 112 #[.agg #[.int .i64 (y 0), .int .i64 (y 1), .int .i64 (y 2), .int .i64 (y 3), .int .i64 (y 4), .int .i64 (y 5)], .int .i64 (othZ t), .int .i64 (otherB x)] w (Gives w (zoneR (withZ y (othZ t) (otherB x)).1 (withZ y (othZ t) (otherB x)).2))) := fun w => withD_any y (othZ t) (otherB x) w (othZ_lt t) oky.out mo
        have W2 : Hid (∀ w, Calls Try.prog 112 #[.agg #[.int .i64 (y 0), .int .i64 (y 1), .int .i64 (y 2), .int .i64 (y 3), .int .i64 (y 4), .int .i64 (y 5)], .int .i64 t, .int .i64 x] w (Gives w (zoneR (withZ y t x).1 (withZ y t x).2))) := fun w => withD_any y t x w hlt oky.out mb.out
        have H1 : (withZ y (othZ t) (otherB x)).2 = 0 ∨ (withZ y (othZ t) (otherB x)).2 = 6 ∨ (withZ y (othZ t) (otherB x)).2 = 8 := by
          rcases withZ_cases oky.out (othZ_lt t) mo with ⟨r, h, _⟩ | ⟨h, _⟩ | ⟨h, _⟩
          · exact .inl (by rw [h])
          · exact .inr (.inl (by rw [h]))
          · exact .inr (.inr (by rw [h]))
        have H2 : Hid (((withZ y t x).2 = 0 ∧ okZ (withZ y t x).1 = true) ∨ (withZ y t x).2 = 6 ∨ (withZ y t x).2 = 8) := by
          show _ ∨ _
          rcases withZ_cases oky.out hlt mb.out with ⟨r, h, h', _⟩ | ⟨h, _⟩ | ⟨h, _⟩
          · exact .inl (by rw [h]; exact ⟨rfl, h'⟩)
          · exact .inr (.inl (by rw [h]))
          · exact .inr (.inr (by rw [h]))
        obtain ⟨ob, hob⟩ : ∃ o, o = otherB x := ⟨_, rfl⟩
        rw [← hob] at RO W1 H1 hL0
        obtain ⟨⟨z1, e1⟩, hz1⟩ : ∃ r, r = withZ y (othZ t) ob := ⟨_, rfl⟩
        obtain ⟨⟨z2, e2⟩, hz2⟩ : ∃ r, r = withZ y t x := ⟨_, rfl⟩
        rw [← hz1] at W1 H1 hL0
        rw [← hz2] at W2 H2 hL0
        unfold zoneR zoneV at W1 W2
        dsimp only at W1 W2 H1 H2 hL0
        have HL0 := Lib.hid hL0
        have HH1 := Lib.hid H1
        clear hob hz1 hz2 hL0 H1 mo
        go_wp2_with (fail)
        go_cut [8, 9] from 57 (fun u v V => ∃ A : Nat, u = .pointer (some ⟨A, 0, none⟩) ∧ v = .int .i64 e1 ∧ w.heap.size + 1 < A ∧ LW w V y b (.slice pK K.length cK) K ∧ BoxZ V A z1)
        case first =>
          go_region_held3 (fun w' => w'.cell? ⟨w.heap.size, 0, none⟩ = some (.int .i64 (y 0)) ∧ w'.cell? ⟨w.heap.size, 1, none⟩ = some (.int .i64 (y 1)) ∧ w'.cell? ⟨w.heap.size, 2, none⟩ = some (.int .i64 (y 2)) ∧ w'.cell? ⟨w.heap.size, 3, none⟩ = some (.int .i64 (y 3)) ∧ w'.cell? ⟨w.heap.size, 4, none⟩ = some (.int .i64 (y 4)) ∧ w'.cell? ⟨w.heap.size, 5, none⟩ = some (.int .i64 (y 5)) ∧ w'.cell? ⟨w.heap.size + 1, t, none⟩ = some (.int .i64 x))
            ((simp [go_sem, *]))
            (first
            | (go_at_call 113; ((with_reducible refine (OT.out _).mono ?_); rintro e w' ⟨rfl, qa, rfl⟩))
            | (go_at_call 114; ((with_reducible refine (RO.out _).mono ?_); rintro e w' ⟨rfl, qb, rfl⟩))
            | (go_at_call 112; ((with_reducible refine (W1.out _).mono ?_); rintro e w' ⟨rfl, qc, rfl⟩)))
          all_goals
            go_wp2_with (fail)
            go_meet
            case rel => exact ⟨_, rfl, rfl, by (first | omega | ((simp only [World.size_alloc, World.size_setCell, World.size_drew, Wov_size, World.heap_drewN, Array.size_append]) <;> omega)), HLW.out.below (by (repeat' (first | (with_reducible assumption) | (with_reducible exact Below.refl _ _) | (with_reducible exact below_app _ _ _ _) | (with_reducible exact below_app2 _ _ _ _ _ _) | (with_reducible exact below_app0 _ _ _) | (with_reducible refine below_wov ?_ ?_ _) | (with_reducible refine below_drewN ?_ _) | (with_reducible refine Below.drew ?_) | (with_reducible refine Below.alloc ?_ ?_ _) | (with_reducible refine Below.setCell ?_ ?_ _) | (with_reducible exact Nat.le_refl _) | omega | (simp only [World.size_alloc, World.size_setCell, World.size_drew, Wov_size, World.heap_drewN, Array.size_append]; omega)))), ⟨by (first | omega | ((simp only [World.size_alloc, World.size_setCell, World.size_drew, Wov_size, World.heap_drewN, Array.size_append]) <;> omega)), by simp [go_sem], by simp [go_sem], by simp [go_sem], by simp [go_sem], by simp [go_sem], by simp [go_sem]⟩⟩
        case rest =>
          obtain ⟨A1, rfl, rfl, lA1, hLW1, hzb1⟩ := hcut
          obtain ⟨V1, rfl⟩ : ∃ V, V = wc := ⟨_, rfl⟩
          have HLW1 := Lib.hid hLW1
          have HZ1 := Lib.hid hzb1
          have lsz1 := hLW1.bl.size
          clear y0 y1 y2 y3 y4 y5 yl xb xl hLW1 hzb1 lsz
          rcases HH1.out with he1 | he1 | he1
          · subst he1
            have hL2 : Hid ((if e2 = 6 then (K ++ [z1], 0) else if e2 ≠ 0 then ([], e2) else lessZ (6 - (t + 1)) (t + 1) z2 b (K ++ [z1])) = (RL, RE)) := by
              show _ = _
              have h := HL0.out
              rwa [if_neg (by simp), if_pos rfl] at h
            clear HL0 HH1
            obtain ⟨K1, hK1⟩ : ∃ K1, K1 = K ++ [z1] := ⟨_, rfl⟩
            rw [← hK1] at hL2
            have HK1 := Lib.hid hK1
            have hlen : K1.length = K.length + 1 := by rw [hK1, List.length_append]; rfl
            have v0 := HZ1.out.c0
            have v1 := HZ1.out.c1
            have v2 := HZ1.out.c2
            have v3 := HZ1.out.c3
            have v4 := HZ1.out.c4
            have v5 := HZ1.out.c5
            have lv := HZ1.out.lt
            have hpc : pK = none → cK = 0 := by
              obtain ⟨p2, c2, e2, e3, e4⟩ := ownZ_of_row (w := w) HLW1.out.row (by omega)
              simp only [Value.slice.injEq] at e2
              obtain ⟨rfl, _, rfl⟩ := e2
              exact e3
            clear hK1
            go_wp2_with (at_builtin; refine wpList_appZ _ (w.heap.size + 2) rfl _ _ rfl rfl _ K [z1] rfl (row_below HLW1.out.row (by (repeat' (first | (with_reducible assumption) | (with_reducible exact Below.refl _ _) | (with_reducible refine below_wov ?_ ?_ _) | (with_reducible refine below_drewN ?_ _) | (with_reducible refine Below.drew ?_) | (with_reducible refine Below.alloc ?_ ?_ _) | (with_reducible refine Below.setCell ?_ ?_ _) | (with_reducible exact Nat.le_refl _) | omega | (simp only [World.size_alloc, World.size_setCell, World.size_drew, Wov_size, World.heap_drewN]; omega))))) (some ⟨_, 0, none⟩) 1 rfl (fun h => by cases h) (slz_box (BoxZ.new rfl)) (by simp; omega) (by (first | omega | ((simp only [World.size_alloc, World.size_setCell, World.size_drew, Wov_size, World.heap_drewN, Array.size_append]) <;> omega))) ?_; (intro v' w1 ho hg; have hgx := row_grown (row_below HLW1.out.row (by (repeat' (first | (with_reducible assumption) | (with_reducible exact Below.refl _ _) | (with_reducible refine below_wov ?_ ?_ _) | (with_reducible refine below_drewN ?_ _) | (with_reducible refine Below.drew ?_) | (with_reducible refine Below.alloc ?_ ?_ _) | (with_reducible refine Below.setCell ?_ ?_ _) | (with_reducible exact Nat.le_refl _) | omega | (simp only [World.size_alloc, World.size_setCell, World.size_drew, Wov_size, World.heap_drewN]; omega))))) (show Below (w.heap.size + 2) V1 _ from by (repeat' (first | (with_reducible assumption) | (with_reducible exact Below.refl _ _) | (with_reducible refine below_wov ?_ ?_ _) | (with_reducible refine below_drewN ?_ _) | (with_reducible refine Below.drew ?_) | (with_reducible refine Below.alloc ?_ ?_ _) | (with_reducible refine Below.setCell ?_ ?_ _) | (with_reducible exact Nat.le_refl _) | omega | (simp only [World.size_alloc, World.size_setCell, World.size_drew, Wov_size, World.heap_drewN]; omega)))) hg (by (first | omega | ((simp only [World.size_alloc, World.size_setCell, World.size_drew, Wov_size, World.heap_drewN, Array.size_append]) <;> omega))); obtain ⟨p', c', hv', _, _⟩ := ownZ_of_row (w := w) ho (by omega); subst hv'; rw [← HK1.out] at ho ⊢; have HLW9 := Lib.hid (LW.app HLW1.out ho hgx); have lgx := hgx.size; clear ho hg hgx v0 v1 v2 v3 v4 v5 lv))
            clear HLW1
            clear HLW HZ1
            have LW0 := HLW9.out
            have y0 := (LW0.ya.holds 0 (by omega)).1
            have y1 := (LW0.ya.holds 1 (by omega)).1
            have y2 := (LW0.ya.holds 2 (by omega)).1
            have y3 := (LW0.ya.holds 3 (by omega)).1
            have y4 := (LW0.ya.holds 4 (by omega)).1
            have y5 := (LW0.ya.holds 5 (by omega)).1
            have yl := LW0.ya.lt
            have xb := (LW0.ba.holds t hlt).1
            have xl := LW0.ba.lt
            rw [← HX.out] at xb
            clear LW0
            go_wp2_with (fail)
            go_cut [10, 11] from 57 (fun u v V => ∃ A : Nat, u = .pointer (some ⟨A, 0, none⟩) ∧ v = .int .i64 e2 ∧ w.heap.size + 1 < A ∧ LW w V y b (.slice p' K1.length c') K1 ∧ BoxZ V A z2)
            case first =>
              go_region_held3 (fun w' => w'.cell? ⟨w.heap.size, 0, none⟩ = some (.int .i64 (y 0)) ∧ w'.cell? ⟨w.heap.size, 1, none⟩ = some (.int .i64 (y 1)) ∧ w'.cell? ⟨w.heap.size, 2, none⟩ = some (.int .i64 (y 2)) ∧ w'.cell? ⟨w.heap.size, 3, none⟩ = some (.int .i64 (y 3)) ∧ w'.cell? ⟨w.heap.size, 4, none⟩ = some (.int .i64 (y 4)) ∧ w'.cell? ⟨w.heap.size, 5, none⟩ = some (.int .i64 (y 5)) ∧ w'.cell? ⟨w.heap.size + 1, t, none⟩ = some (.int .i64 x))
                ((simp [go_sem, *]))
                ((go_at_call 112; ((with_reducible refine (W2.out _).mono ?_); rintro e w' ⟨rfl, qa, rfl⟩)))
              all_goals
                go_wp2_with (fail)
                go_meet
                case rel => exact ⟨_, rfl, rfl, by (first | omega | ((simp only [World.size_alloc, World.size_setCell, World.size_drew, Wov_size, World.heap_drewN, Array.size_append]) <;> omega)), HLW9.out.below (by (repeat' (first | (with_reducible assumption) | (with_reducible exact Below.refl _ _) | (with_reducible exact below_app _ _ _ _) | (with_reducible exact below_app2 _ _ _ _ _ _) | (with_reducible exact below_app0 _ _ _) | (with_reducible refine below_wov ?_ ?_ _) | (with_reducible refine below_drewN ?_ _) | (with_reducible refine Below.drew ?_) | (with_reducible refine Below.alloc ?_ ?_ _) | (with_reducible refine Below.setCell ?_ ?_ _) | (with_reducible exact Nat.le_refl _) | omega | (simp only [World.size_alloc, World.size_setCell, World.size_drew, Wov_size, World.heap_drewN, Array.size_append]; omega)))), ⟨by (first | omega | ((simp only [World.size_alloc, World.size_setCell, World.size_drew, Wov_size, World.heap_drewN, Array.size_append]) <;> omega)), by simp [go_sem], by simp [go_sem], by simp [go_sem], by simp [go_sem], by simp [go_sem], by simp [go_sem]⟩⟩
            case rest =>
              obtain ⟨A2, rfl, rfl, lA2, hLW2, hz2⟩ := hcut
              obtain ⟨V2, rfl⟩ : ∃ V, V = wc := ⟨_, rfl⟩
              clear y0 y1 y2 y3 y4 y5 yl xb xl HLW9 W1 W2 OT RO
              rcases H2.out with ⟨he2, ok2⟩ | he2 | he2
              · subst he2
                have hL3 := hL2.out
                rw [if_neg (by decide), if_neg (by decide)] at hL3
                have HL3 := Lib.hid hL3
                clear hL2 hL3
                have u0 := hz2.c0
                have u1 := hz2.c1
                have u2 := hz2.c2
                have u3 := hz2.c3
                have u4 := hz2.c4
                have u5 := hz2.c5
                have lu := hz2.lt
                have y0 := (hLW2.ya.holds 0 (by omega)).1
                have n0 := (hLW2.ya.holds 0 (by omega)).2
                have y1 := (hLW2.ya.holds 1 (by omega)).1
                have n1 := (hLW2.ya.holds 1 (by omega)).2
                have y2 := (hLW2.ya.holds 2 (by omega)).1
                have n2 := (hLW2.ya.holds 2 (by omega)).2
                have y3 := (hLW2.ya.holds 3 (by omega)).1
                have n3 := (hLW2.ya.holds 3 (by omega)).2
                have y4 := (hLW2.ya.holds 4 (by omega)).1
                have n4 := (hLW2.ya.holds 4 (by omega)).2
                have y5 := (hLW2.ya.holds 5 (by omega)).1
                have n5 := (hLW2.ya.holds 5 (by omega)).2
                have yl := hLW2.ya.lt
                have HLW2 := Lib.hid hLW2
                clear hz2 hLW2
                go_wp2
                go_roundw
                case rel =>
                  refine ⟨t + 1, z2, K1, p', c', by omega, by go_num, by first | rfl | rw [hlen], LW.put HLW2.out ?_ ⟨by simpa using yl, fun i hi => ?_⟩, by omega, ok2, HL3.out⟩
                  · exact Chg.trans (Chg.trans (Chg.trans (Chg.trans (Chg.trans (Chg.set _ _ _ _) (Chg.set _ _ _ _)) (Chg.set _ _ _ _)) (Chg.set _ _ _ _)) (Chg.set _ _ _ _)) (Chg.set _ _ _ _)
                  · rcases six hi with rfl | rfl | rfl | rfl | rfl | rfl
                    all_goals (constructor <;> simp [go_sem, *])
                case measure => simp [intOf]; omega
              · subst he2
                have hE : RL = K1 ∧ RE = 0 := by
                  have h := hL2.out
                  rw [if_pos rfl] at h
                  simp only [Prod.mk.injEq] at h
                  exact ⟨h.1.symm, h.2.symm⟩
                obtain ⟨rfl, rfl⟩ := hE
                have HLW2 := Lib.hid hLW2
                clear hz2 hLW2 hL2
                go_wp2
                go_returns
                obtain ⟨p2, c2, e2, e3, e4⟩ := ownZ_of_row (w := w) HLW2.out.row (by omega)
                simp only [Value.slice.injEq] at e2
                obtain ⟨rfl, _, rfl⟩ := e2
                exact ⟨⟨_, _, rfl, e3, e4⟩, Wov_of_below HLW2.out.bl⟩
              · subst he2
                have hE : RL = [] ∧ RE = 8 := by
                  have h := hL2.out
                  rw [if_neg (by decide), if_pos (by decide)] at h
                  simp only [Prod.mk.injEq] at h
                  exact ⟨h.1.symm, h.2.symm⟩
                obtain ⟨rfl, rfl⟩ := hE
                have HLW2 := Lib.hid hLW2
                clear hz2 hLW2 hL2
                go_wp2
                go_returns
                exact ⟨⟨none, 0, rfl, fun _ => rfl, .inl rfl⟩, Wov_of_below HLW2.out.bl⟩
          · subst he1
            have hL2 : Hid ((if e2 = 6 then (K, 0) else if e2 ≠ 0 then ([], e2) else lessZ (6 - (t + 1)) (t + 1) z2 b K) = (RL, RE)) := by
              show _ = _
              have h := HL0.out
              rwa [if_neg (by simp), if_neg (show ¬ ((6 : Int) = 0) by decide)] at h
            clear HL0 HH1
            go_wp2_with (fail)
            clear HLW HZ1
            have LW0 := HLW1.out
            have y0 := (LW0.ya.holds 0 (by omega)).1
            have y1 := (LW0.ya.holds 1 (by omega)).1
            have y2 := (LW0.ya.holds 2 (by omega)).1
            have y3 := (LW0.ya.holds 3 (by omega)).1
            have y4 := (LW0.ya.holds 4 (by omega)).1
            have y5 := (LW0.ya.holds 5 (by omega)).1
            have yl := LW0.ya.lt
            have xb := (LW0.ba.holds t hlt).1
            have xl := LW0.ba.lt
            rw [← HX.out] at xb
            clear LW0
            go_wp2_with (fail)
            go_cut [10, 11] from 57 (fun u v V => ∃ A : Nat, u = .pointer (some ⟨A, 0, none⟩) ∧ v = .int .i64 e2 ∧ w.heap.size + 1 < A ∧ LW w V y b (.slice pK K.length cK) K ∧ BoxZ V A z2)
            case first =>
              go_region_held3 (fun w' => w'.cell? ⟨w.heap.size, 0, none⟩ = some (.int .i64 (y 0)) ∧ w'.cell? ⟨w.heap.size, 1, none⟩ = some (.int .i64 (y 1)) ∧ w'.cell? ⟨w.heap.size, 2, none⟩ = some (.int .i64 (y 2)) ∧ w'.cell? ⟨w.heap.size, 3, none⟩ = some (.int .i64 (y 3)) ∧ w'.cell? ⟨w.heap.size, 4, none⟩ = some (.int .i64 (y 4)) ∧ w'.cell? ⟨w.heap.size, 5, none⟩ = some (.int .i64 (y 5)) ∧ w'.cell? ⟨w.heap.size + 1, t, none⟩ = some (.int .i64 x))
                ((simp [go_sem, *]))
                ((go_at_call 112; ((with_reducible refine (W2.out _).mono ?_); rintro e w' ⟨rfl, qa, rfl⟩)))
              all_goals
                go_wp2_with (fail)
                go_meet
                case rel => exact ⟨_, rfl, rfl, by (first | omega | ((simp only [World.size_alloc, World.size_setCell, World.size_drew, Wov_size, World.heap_drewN, Array.size_append]) <;> omega)), HLW1.out.below (by (repeat' (first | (with_reducible assumption) | (with_reducible exact Below.refl _ _) | (with_reducible exact below_app _ _ _ _) | (with_reducible exact below_app2 _ _ _ _ _ _) | (with_reducible exact below_app0 _ _ _) | (with_reducible refine below_wov ?_ ?_ _) | (with_reducible refine below_drewN ?_ _) | (with_reducible refine Below.drew ?_) | (with_reducible refine Below.alloc ?_ ?_ _) | (with_reducible refine Below.setCell ?_ ?_ _) | (with_reducible exact Nat.le_refl _) | omega | (simp only [World.size_alloc, World.size_setCell, World.size_drew, Wov_size, World.heap_drewN, Array.size_append]; omega)))), ⟨by (first | omega | ((simp only [World.size_alloc, World.size_setCell, World.size_drew, Wov_size, World.heap_drewN, Array.size_append]) <;> omega)), by simp [go_sem], by simp [go_sem], by simp [go_sem], by simp [go_sem], by simp [go_sem], by simp [go_sem]⟩⟩
            case rest =>
              obtain ⟨A2, rfl, rfl, lA2, hLW2, hz2⟩ := hcut
              obtain ⟨V2, rfl⟩ : ∃ V, V = wc := ⟨_, rfl⟩
              clear y0 y1 y2 y3 y4 y5 yl xb xl HLW1 W1 W2 OT RO
              rcases H2.out with ⟨he2, ok2⟩ | he2 | he2
              · subst he2
                have hL3 := hL2.out
                rw [if_neg (by decide), if_neg (by decide)] at hL3
                have HL3 := Lib.hid hL3
                clear hL2 hL3
                have u0 := hz2.c0
                have u1 := hz2.c1
                have u2 := hz2.c2
                have u3 := hz2.c3
                have u4 := hz2.c4
                have u5 := hz2.c5
                have lu := hz2.lt
                have y0 := (hLW2.ya.holds 0 (by omega)).1
                have n0 := (hLW2.ya.holds 0 (by omega)).2
                have y1 := (hLW2.ya.holds 1 (by omega)).1
                have n1 := (hLW2.ya.holds 1 (by omega)).2
                have y2 := (hLW2.ya.holds 2 (by omega)).1
                have n2 := (hLW2.ya.holds 2 (by omega)).2
                have y3 := (hLW2.ya.holds 3 (by omega)).1
                have n3 := (hLW2.ya.holds 3 (by omega)).2
                have y4 := (hLW2.ya.holds 4 (by omega)).1
                have n4 := (hLW2.ya.holds 4 (by omega)).2
                have y5 := (hLW2.ya.holds 5 (by omega)).1
                have n5 := (hLW2.ya.holds 5 (by omega)).2
                have yl := hLW2.ya.lt
                have HLW2 := Lib.hid hLW2
                clear hz2 hLW2
                go_wp2
                go_roundw
                case rel =>
                  refine ⟨t + 1, z2, K, pK, cK, by omega, by go_num, by first | rfl | rw [hlen], LW.put HLW2.out ?_ ⟨by simpa using yl, fun i hi => ?_⟩, by omega, ok2, HL3.out⟩
                  · exact Chg.trans (Chg.trans (Chg.trans (Chg.trans (Chg.trans (Chg.set _ _ _ _) (Chg.set _ _ _ _)) (Chg.set _ _ _ _)) (Chg.set _ _ _ _)) (Chg.set _ _ _ _)) (Chg.set _ _ _ _)
                  · rcases six hi with rfl | rfl | rfl | rfl | rfl | rfl
                    all_goals (constructor <;> simp [go_sem, *])
                case measure => simp [intOf]; omega
              · subst he2
                have hE : RL = K ∧ RE = 0 := by
                  have h := hL2.out
                  rw [if_pos rfl] at h
                  simp only [Prod.mk.injEq] at h
                  exact ⟨h.1.symm, h.2.symm⟩
                obtain ⟨rfl, rfl⟩ := hE
                have HLW2 := Lib.hid hLW2
                clear hz2 hLW2 hL2
                go_wp2
                go_returns
                obtain ⟨p2, c2, e2, e3, e4⟩ := ownZ_of_row (w := w) HLW2.out.row (by omega)
                simp only [Value.slice.injEq] at e2
                obtain ⟨rfl, _, rfl⟩ := e2
                exact ⟨⟨_, _, rfl, e3, e4⟩, Wov_of_below HLW2.out.bl⟩
              · subst he2
                have hE : RL = [] ∧ RE = 8 := by
                  have h := hL2.out
                  rw [if_neg (by decide), if_pos (by decide)] at h
                  simp only [Prod.mk.injEq] at h
                  exact ⟨h.1.symm, h.2.symm⟩
                obtain ⟨rfl, rfl⟩ := hE
                have HLW2 := Lib.hid hLW2
                clear hz2 hLW2 hL2
                go_wp2
                go_returns
                exact ⟨⟨none, 0, rfl, fun _ => rfl, .inl rfl⟩, Wov_of_below HLW2.out.bl⟩
          · subst he1
            have hE : RL = [] ∧ RE = 8 := by
              have h := HL0.out
              rw [if_pos (by decide)] at h
              simp only [Prod.mk.injEq] at h
              exact ⟨h.1.symm, h.2.symm⟩
            obtain ⟨rfl, rfl⟩ := hE
            clear HL0 HH1 HZ1 HLW
            go_wp2
            go_returns
            exact ⟨⟨none, 0, rfl, fun _ => rfl, .inl rfl⟩, Wov_of_below HLW1.out.bl⟩
    · obtain rfl : t = 6 := by omega
      have hE : RL = K ∧ RE = 0 := by
        have h := hL.out
        simp only [Nat.sub_self, lessZ, Prod.mk.injEq] at h
        exact ⟨h.1.symm, h.2.symm⟩
      obtain ⟨rfl, rfl⟩ := hE
      clear hL
      go_wp2
      go_returns
      obtain ⟨p2, c2, e2, e3, e4⟩ := ownZ_of_row (w := w) HLW.out.row (by omega)
      simp only [Value.slice.injEq] at e2
      obtain ⟨rfl, _, rfl⟩ := e2
      exact ⟨⟨_, _, rfl, e3, e4⟩, Wov_of_below HLW.out.bl⟩
#print axioms lessD_any
end Go.Proofs.Ytbgbhfcnadjhdaa
