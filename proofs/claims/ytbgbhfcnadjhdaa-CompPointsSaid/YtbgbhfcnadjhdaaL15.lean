/- law09: its helper between. No condition but that zones have small numbers alone, and numbers are of their kind. -/
import Derived.Test.YtbgbhfcnadjhdaaL14
import Derived.Test.YtbgbhfcnadjhdaaH11
import Derived.Test.YtbgbhfcnadjhdaaG10
import Derived.Deep.Cut
namespace Go.Proofs.Ytbgbhfcnadjhdaa
set_option linter.unusedSimpArgs false
set_option linter.unusedVariables false
open Go Go.RowKit Go.Shelf
attribute [local go_sem] Nat.add_assoc Nat.add_lt_add_iff_left lit_lt_add

theorem eight {x : Nat} (h : x < 8) : x = 0 ∨ x = 1 ∨ x = 2 ∨ x = 3 ∨ x = 4 ∨ x = 5 ∨ x = 6 ∨ x = 7 := by omega
theorem cellsR_congr {T U : Nat → Int × Int} : ∀ M, (∀ x, x < M → T x = U x) → cellsR T M = cellsR U M
  | 0, _ => rfl
  | M + 1, h => by
    show cellsR T M ++ _ = cellsR U M ++ _
    rw [cellsR_congr M (fun x hx => h x (by omega)), h M (by omega)]
theorem nthR_app {L : List (Int × Int)} {y : Int × Int} : ∀ x, x < L.length → nthR (L ++ [y]) x = nthR L x := fun x hx => by
  unfold nthR
  simp only [List.getD_eq_getElem?_getD, List.getElem?_append_left hx]
theorem nthR_last {L : List (Int × Int)} {y : Int × Int} : nthR (L ++ [y]) L.length = y := by
  unfold nthR
  simp only [List.getD_eq_getElem?_getD, List.getElem?_append_right (Nat.le_refl _), Nat.sub_self]
  rfl
theorem cellsR_app (L : List (Int × Int)) (y : Int × Int) : cellsR (nthR (L ++ [y])) (L ++ [y]).length = cellsR (nthR L) L.length ++ [.int .i64 y.1, .int .i64 y.2] := by
  rw [List.length_append]
  show cellsR (nthR (L ++ [y])) L.length ++ _ = _
  rw [cellsR_congr L.length (fun x hx => nthR_app (y := y) x hx), nthR_last]
theorem endsL_len (a b : Nat → Int) (T U : Int × Int) : ∀ k, (endsL a b T U k).length ≤ k
  | 0 => Nat.le_refl _
  | k + 1 => by
    have := endsL_len a b T U k
    unfold endsL
    split
    · simp; omega
    · omega
theorem addPR_fits {n1 d1 n2 d2 k : Int} (hk : 0 < k) : fits64 (addPR n1 d1 n2 d2 k).1 ∧ fits64 (addPR n1 d1 n2 d2 k).2.1 := by
  obtain ⟨⟨x, y, e⟩, hr⟩ : ∃ r, r = addPR n1 d1 n2 d2 k := ⟨_, rfl⟩
  rw [← hr]
  rcases addPR_spec hk hr.symm with ⟨_, _, _, f1, o2, _, y1, _, _⟩ | ⟨_, h1, h2⟩
  · have := okRat_bd o2
    exact ⟨f1, by show fits64 y; unfold fits64; omega⟩
  · exact ⟨by show fits64 x; rw [h1]; decide, by show fits64 y; rw [h2]; decide⟩
theorem endsL_fits (a b : Nat → Int) (T U : Int × Int) : ∀ k x, x ∈ endsL a b T U k → fits64 x.1 ∧ fits64 x.2
  | 0, x, h => by cases h
  | k + 1, x, h => by
    unfold endsL at h
    split at h
    · rcases List.mem_append.1 h with h | h
      · exact endsL_fits a b T U k x h
      · rw [List.mem_singleton] at h
        subst h
        exact addPR_fits (by decide)
    · exact endsL_fits a b T U k x h
theorem nthR_mem {L : List (Int × Int)} {i : Nat} (h : i < L.length) : nthR L i ∈ L := by
  unfold nthR
  rw [List.getD_eq_getElem?_getD, List.getElem?_eq_getElem h]
  exact List.getElem_mem h
theorem between_no {a b : Nat → Int} {T U : Int × Int} {L : List (Int × Int)} (h : ∀ i, i < L.length → ∀ k, k < i + 1 → hitE a b T U (nthR L i) (nthR L k) = false) : betweenE a b T U L = false := by
  rw [← Bool.not_eq_true, between_iff]
  rintro ⟨i, k, hi, hk, hh⟩
  rw [h i hi k (by omega)] at hh; cases hh
theorem between_yes {a b : Nat → Int} {T U : Int × Int} {L : List (Int × Int)} {i k : Nat} (hi : i < L.length) (hk : k < i + 1) (h : hitE a b T U (nthR L i) (nthR L k) = true) : betweenE a b T U L = true :=
  between_iff.2 ⟨i, k, hi, by omega, h⟩
set_option maxRecDepth 100000 in
set_option maxHeartbeats 8000000 in
theorem between9_any (a b : Nat → Int) (p0 p1 p2 p3 : Int) (w : World) (fa : FitsZ a) (fb : FitsZ b) (sa : ∀ i, i < 6 → smallB (a i)) (sb : ∀ i, i < 6 → smallB (b i)) (w0 : fits64 p0) (w1 : fits64 p1) (w2 : fits64 p2) (w3 : fits64 p3) :
    Calls Try.prog 46 #[zoneV a, zoneV b, .agg #[.int .i64 p0, .int .i64 p1, .int .i64 p2, .int .i64 p3]] w (Gives w (.bool (betweenE a b (p0, p1) (p2, p3) (endsL a b (p0, p1) (p2, p3) 8)))) := by
  have EN : Hid (∀ t, t < 8 → ∀ w, Calls Try.prog 86 #[.agg #[.int .i64 (fromE (p0, p1) (p2, p3) t).1, .int .i64 (fromE (p0, p1) (p2, p3) t).2], .int .i64 (byE a b t), .int .i64 (sgE t)] w (Gives w (.tuple #[.agg #[.int .i64 (endX a b (p0, p1) (p2, p3) t).1, .int .i64 (endX a b (p0, p1) (p2, p3) t).2.1], .bool (decide ((endX a b (p0, p1) (p2, p3) t).2.2 = 0))]))) := fun t ht w => by
    have hf : fits64 (fromE (p0, p1) (p2, p3) t).1 := by
      rcases eight ht with rfl | rfl | rfl | rfl | rfl | rfl | rfl | rfl
      · exact (by decide : fits64 0)
      · exact (by decide : fits64 0)
      · exact w0
      · exact w0
      · exact (by decide : fits64 0)
      · exact (by decide : fits64 0)
      · exact w2
      · exact w2
    have hb : smallB (byE a b t) := by
      rcases eight ht with rfl | rfl | rfl | rfl | rfl | rfl | rfl | rfl
      · exact sa 2 (by omega)
      · exact sa 3 (by omega)
      · exact sa 4 (by omega)
      · exact sa 5 (by omega)
      · exact sb 0 (by omega)
      · exact sb 1 (by omega)
      · exact sb 4 (by omega)
      · exact sb 5 (by omega)
    have hs : sgE t = 1 ∨ sgE t = -1 := by
      rcases eight ht with rfl | rfl | rfl | rfl | rfl | rfl | rfl | rfl
      all_goals (unfold sgE; first | exact .inl rfl | exact .inr rfl)
    exact end9_any _ _ _ _ w hf hb hs
  have FT : Hid (∀ m n w, fits64 m → fits64 n → Calls Try.prog 88 #[.agg #[.int .i64 (a 0), .int .i64 (a 1), .int .i64 (a 2), .int .i64 (a 3), .int .i64 (a 4), .int .i64 (a 5)], .agg #[.int .i64 (b 0), .int .i64 (b 1), .int .i64 (b 2), .int .i64 (b 3), .int .i64 (b 4), .int .i64 (b 5)], .agg #[.int .i64 p0, .int .i64 p1, .int .i64 p2, .int .i64 p3], .agg #[.int .i64 m, .int .i64 n]] w (Gives w (.bool (fitsE a b (p0, p1) (p2, p3) (m, n))))) := fun m n w wm wn => fits9_any a b p0 p1 p2 p3 m n w fa fb w0 w1 w2 w3 wm wn
  obtain ⟨T, hT⟩ : ∃ T, T = (p0, p1) := ⟨_, rfl⟩
  obtain ⟨U, hU⟩ : ∃ T, T = (p2, p3) := ⟨_, rfl⟩
  have HF : Hid (∀ x, fromE (p0, p1) (p2, p3) x = fromE T U x) := fun x => by rw [hT, hU]
  rw [← hT, ← hU] at FT EN ⊢
  have HTU : Hid (T = (p0, p1) ∧ U = (p2, p3)) := ⟨hT, hU⟩
  obtain ⟨i0, hi, hz1, hz2⟩ : ∃ i0, Try.prog.info? 65 = some i0 ∧ i0.size = 2 ∧ i0.bytes = 16 := by
    have := infoR
    cases h : Try.prog.info? 65 with
    | none => rw [h] at this; cases this
    | some i => rw [h] at this; simp at this; exact ⟨i, rfl, this.1, this.2⟩
  have hz0 : i0.zero = some (.agg #[.int .i64 0, .int .i64 0]) := by
    have := infoRz
    rw [hi] at this; simpa using this
  have HI := Lib.hid hi
  have HZ := Lib.hid hz0
  have H1 := Lib.hid hz1
  have H2 := Lib.hid hz2
  obtain ⟨R, hR⟩ : ∃ R, R = betweenE a b T U (endsL a b T U 8) := ⟨_, rfl⟩
  have HRD : Hid (R = betweenE a b T U (endsL a b T U 8)) := hR
  rw [← hR]
  clear fa fb sa sb w0 w1 w2 w3 hT hU hi hz0 hz1 hz2 hR
  unfold zoneV
  go_enter Try.func46, Try.ntmps46
  go_wp2
  refine wp_world (fun W => Below w.heap.size w W ∧ BoxZ W w.heap.size a ∧ BoxZ W (w.heap.size + 1) b ∧ PtAt W (w.heap.size + 2) p0 p1 p2 p3 ∧ SlR W (some ⟨w.heap.size + 4, 0, none⟩) 8 (fromE T U) ∧ SlP W (some ⟨w.heap.size + 5, 0, none⟩) 8 (byE a b) ∧ SlP W (some ⟨w.heap.size + 6, 0, none⟩) 8 sgE) ⟨by (repeat' (first | (with_reducible assumption) | (with_reducible exact Below.refl _ _) | (with_reducible refine below_wov ?_ ?_ _) | (with_reducible refine below_drewN ?_ _) | (with_reducible refine Below.drew ?_) | (with_reducible refine Below.alloc ?_ ?_ _) | (with_reducible refine Below.setCell ?_ ?_ _) | (with_reducible exact Nat.le_refl _) | omega | (simp only [World.size_alloc, World.size_setCell, World.size_drew, Wov_size, World.heap_drewN]; omega))), ⟨by (first | omega | ((simp only [World.size_alloc, World.size_setCell, World.size_drew, Wov_size, World.heap_drewN, Array.size_append]) <;> omega)), by simp [go_sem], by simp [go_sem], by simp [go_sem], by simp [go_sem], by simp [go_sem], by simp [go_sem]⟩, ⟨by (first | omega | ((simp only [World.size_alloc, World.size_setCell, World.size_drew, Wov_size, World.heap_drewN, Array.size_append]) <;> omega)), by simp [go_sem], by simp [go_sem], by simp [go_sem], by simp [go_sem], by simp [go_sem], by simp [go_sem]⟩, ⟨by (first | omega | ((simp only [World.size_alloc, World.size_setCell, World.size_drew, Wov_size, World.heap_drewN, Array.size_append]) <;> omega)), by simp [go_sem], by simp [go_sem], by simp [go_sem], by simp [go_sem]⟩, ?b1, ?b2, ?b3⟩ ?_
  case b1 =>
    refine .inr ⟨_, 0, rfl, by simp, fun x hx => ?_⟩
    rw [← HF.out x]
    rcases eight hx with rfl | rfl | rfl | rfl | rfl | rfl | rfl | rfl <;> (constructor <;> simp [go_sem, fromE])
  case b2 =>
    refine .inr ⟨_, 0, rfl, by simp, fun x hx => ?_⟩
    rcases eight hx with rfl | rfl | rfl | rfl | rfl | rfl | rfl | rfl <;> simp [go_sem, byE]
  case b3 =>
    refine .inr ⟨_, 0, rfl, by simp, fun x hx => ?_⟩
    rcases eight hx with rfl | rfl | rfl | rfl | rfl | rfl | rfl | rfl <;> simp [go_sem, sgE]
  rintro X ⟨hb, za, zb, hp, hfr, hby, hsg⟩
  obtain ⟨A4, o4, e4, l4, v4⟩ := hfr.resolve_left (by omega)
  cases e4
  obtain ⟨A5, o5, e5, l5, v5⟩ := hby.resolve_left (by omega)
  cases e5
  obtain ⟨A6, o6, e6, l6, v6⟩ := hsg.resolve_left (by omega)
  cases e6
  simp only [Nat.zero_add] at v4 v5 v6
  have hsX := hb.size
  have HB := Lib.hid hb
  have HZA := Lib.hid za
  have HZB := Lib.hid zb
  have HP := Lib.hid hp
  have HV4 := Lib.hid v4
  have HV5 := Lib.hid v5
  have HV6 := Lib.hid v6
  clear hb za zb hp hfr hby hsg v4 v5 v6 HF HTU
  go_loopw [11, 12] (fun v i V => ∃ (t : Nat) (L : List (Int × Int)) (p : Option Addr) (c : Nat), t ≤ 8 ∧ i = .int .i64 (t : Int) ∧ v = .slice p L.length c ∧ Below X.heap.size X V ∧ L.length ≤ t ∧ Hid (L = endsL a b T U t) ∧ Hid (V.ownsRow X.heap.size 65 2 (.slice p L.length c) L.length (cellsR (nthR L) L.length)))
    (fun _ i _ => 8 - (intOf i).toNat)
  case atStart => exact ⟨0, [], none, 0, by omega, rfl, rfl, Below.refl _ _, by simp, rfl, World.ownsRow_nil _ _ _ _⟩
  case round =>
    obtain ⟨t, L, p, c, ht, rfl, rfl, hB, hlen, hL, hrow⟩ := hrel
    have hsr := hB.size
    by_cases hlt : t < 8
    · obtain ⟨f1, f2⟩ := HV4.out t hlt
      have f3 := HV5.out t hlt
      have f4 := HV6.out t hlt
      replace f1 := (hB.cell (p := ⟨w.heap.size + 4, t * 2, none⟩) l4).trans f1
      replace f2 := (hB.cell (p := ⟨w.heap.size + 4, t * 2 + 1, none⟩) l4).trans f2
      replace f3 := (hB.cell (p := ⟨w.heap.size + 5, t, none⟩) l5).trans f3
      replace f4 := (hB.cell (p := ⟨w.heap.size + 6, t, none⟩) l6).trans f4
      have EC := EN.out t hlt
      have hnext : ∀ k, k = decide ((endX a b T U t).2.2 = 0) → endsL a b T U (t + 1) = if k then L ++ [((endX a b T U t).1, (endX a b T U t).2.1)] else L := fun k hk => by
        rw [hL.out]
        show (if _ then _ else _) = _
        by_cases h : (endX a b T U t).2.2 = 0
        · rw [if_pos h, hk, decide_eq_true h]; rfl
        · rw [if_neg h, hk, decide_eq_false h]; rfl
      obtain ⟨k, hk⟩ : ∃ k, k = decide ((endX a b T U t).2.2 = 0) := ⟨_, rfl⟩
      have HNX0 := hnext k hk
      obtain ⟨x1, hx1⟩ : ∃ x, x = (fromE T U t).1 := ⟨_, rfl⟩
      obtain ⟨x2, hx2⟩ : ∃ x, x = (fromE T U t).2 := ⟨_, rfl⟩
      obtain ⟨x3, hx3⟩ : ∃ x, x = byE a b t := ⟨_, rfl⟩
      obtain ⟨x4, hx4⟩ : ∃ x, x = sgE t := ⟨_, rfl⟩
      obtain ⟨e1, he1⟩ : ∃ x, x = (endX a b T U t).1 := ⟨_, rfl⟩
      obtain ⟨e2, he2⟩ : ∃ x, x = (endX a b T U t).2.1 := ⟨_, rfl⟩
      rw [← hx1, ← hx2, ← hx3, ← hx4, ← he1, ← he2, ← hk] at EC
      rw [← hx1] at f1
      rw [← hx2] at f2
      rw [← hx3] at f3
      rw [← hx4] at f4
      rw [← he1, ← he2] at HNX0
      have HNX := Lib.hid HNX0
      have EC := Lib.hid EC
      have t0 : (0 : Int) ≤ (t : Int) := by omega
      have t1 : (t : Int) < 8 := by omega
      have HBX := Lib.hid hB
      have lr4 : w.heap.size + 4 < wr.heap.size := by omega
      have lr5 : w.heap.size + 5 < wr.heap.size := by omega
      have lr6 : w.heap.size + 6 < wr.heap.size := by omega
      clear hnext HNX0 hk hx1 hx2 hx3 hx4 he1 he2 hB hL EN
      go_wp2
      go_cut [13, 14] from 105 (fun s13 s14 V => ∃ A : Nat, s13 = .pointer (some ⟨A, 0, none⟩) ∧ s14 = .bool k ∧ Below wr.heap.size wr V ∧ BoxR V A e1 e2)
      case first =>
        go_region_held3 (fun w' => w'.cell? ⟨w.heap.size + 4, t * 2, none⟩ = some (.int .i64 x1) ∧ w'.cell? ⟨w.heap.size + 4, t * 2 + 1, none⟩ = some (.int .i64 x2) ∧ w'.cell? ⟨w.heap.size + 5, t, none⟩ = some (.int .i64 x3) ∧ w'.cell? ⟨w.heap.size + 6, t, none⟩ = some (.int .i64 x4))
          ((simp [go_sem, *]))
          ((go_at_call 86; ((with_reducible refine (EC.out _).mono ?_); rintro e w' ⟨rfl, qa, rfl⟩)))
        all_goals
          go_wp2_with (fail)
          go_meet
          case rel => exact ⟨_, rfl, rfl, by (repeat' (first | (with_reducible assumption) | (with_reducible exact Below.refl _ _) | (with_reducible refine below_wov ?_ ?_ _) | (with_reducible refine below_drewN ?_ _) | (with_reducible refine Below.drew ?_) | (with_reducible refine Below.alloc ?_ ?_ _) | (with_reducible refine Below.setCell ?_ ?_ _) | (with_reducible exact Nat.le_refl _) | omega | (simp only [World.size_alloc, World.size_setCell, World.size_drew, Wov_size, World.heap_drewN]; omega))), ⟨by (first | omega | ((simp only [World.size_alloc, World.size_setCell, World.size_drew, Wov_size, World.heap_drewN, Array.size_append]) <;> omega)), by simp [go_sem], by simp [go_sem]⟩⟩
      case rest =>
        obtain ⟨A, rfl, rfl, hbV, mR⟩ := hcut
        obtain ⟨V, rfl⟩ : ∃ V, V = wc := ⟨_, rfl⟩
        have hsV := hbV.size
        have r0 := mR.c0
        have r1 := mR.c1
        have lR := mR.lt
        have HR := Lib.hid (row_later hrow.out hbV)
        have hbXV := Lib.hid (HBX.out.trans (hbV.mono hsr))
        clear f1 f2 f3 f4 mR EC hrow
        cases k
        · have HL2 : Hid (L = endsL a b T U (t + 1)) := HNX.out.symm
          clear HNX
          go_wp2
          go_roundw
          case rel => exact ⟨t + 1, L, p, c, by omega, by go_num, rfl, hbXV.out, by omega, HL2, HR⟩
          case measure => simp [intOf]; omega
        · have HL2 : Hid (L ++ [(e1, e2)] = endsL a b T U (t + 1)) := HNX.out.symm
          have step : Hid (∀ v' w1, w1.ownsRow X.heap.size 65 2 v' (L.length + 1) (cellsR (nthR L) L.length ++ [.int .i64 e1, .int .i64 e2]) → (V.alloc (.cells #[.int .i64 e1, .int .i64 e2] 65)).grownBy w1 (Value.slice p L.length c).ownBlock →
              Below X.heap.size X w1 ∧ w1.ownsRow X.heap.size 65 2 v' (L ++ [(e1, e2)]).length (cellsR (nthR (L ++ [(e1, e2)])) (L ++ [(e1, e2)]).length)) := fun v' w1 ho hg =>
            ⟨hbXV.out.trans (app2_below HR.out (by omega) hg), by rw [cellsR_app, List.length_append]; exact ho⟩
          have hl2 : (L ++ [(e1, e2)]).length = L.length + 1 := by simp
          have HLN := Lib.hid hl2
          clear HNX hl2
          go_wp2_with (at_builtin; refine wpList_append_own _ rfl _ _ 90 rfl X.heap.size 65 i0 (.agg #[.int .i64 0, .int .i64 0]) 2 16 Try.underlying90 HI.out HZ.out H1.out H2.out rfl (by decide) _ _ _ rfl (HR.out.alloc _) ⟨V.heap.size, 0, none⟩ 1 1 [.int .i64 e1, .int .i64 e2] rfl rfl (cell_two_new _ _ _ _) (by simp [Value.oneCell']) (by unfold maxLen; omega) (by omega) (by simp; omega) ?_; (intro v' w1 hown' hgrow _; obtain ⟨g', cap', rfl⟩ := ownsRow_succ hown'; obtain ⟨k2, k3⟩ := step.out _ w1 hown' hgrow; have K3 := Lib.hid k3; clear hown' hgrow k3))
          go_roundw
          case rel => exact ⟨t + 1, L ++ [(e1, e2)], _, cap', by omega, by go_num, by rw [HLN.out], k2, by rw [HLN.out]; omega, HL2, by rw [HLN.out] at K3 ⊢; exact K3⟩
          case measure => simp [intOf]; omega
    · obtain rfl : t = 8 := by omega
      have HS : Hid (0 < L.length → ∃ B, p = some ⟨B, 0, none⟩ ∧ B < wr.heap.size ∧ HoldsR wr B L.length (nthR L)) := fun h0 => by
        obtain ⟨B, cap, e, _, h2, h3⟩ := holdsR_of_row h0 hrow.out
        cases e
        exact ⟨B, rfl, h2, h3⟩
      have FL : Hid (∀ i, i < L.length → fits64 (nthR L i).1 ∧ fits64 (nthR L i).2) := fun i hi => by
        have := nthR_mem hi
        rw [hL.out] at this ⊢
        exact endsL_fits a b T U 8 _ this
      have HYES : Hid (∀ i k, i < L.length → k < i + 1 → hitE a b T U (nthR L i) (nthR L k) = true → R = true) := fun i k h1 h2 h3 => by
        rw [HRD.out, ← hL.out]; exact between_yes h1 h2 h3
      have HNO : Hid ((∀ i, i < L.length → ∀ k, k < i + 1 → hitE a b T U (nthR L i) (nthR L k) = false) → R = false) := fun h => by
        rw [HRD.out, ← hL.out]; exact between_no h
      have HBX := Lib.hid hB
      clear hB hL hrow EN HRD HV4 HV5 HV6 HI HZ H1 H2 l4 l5 l6 hlt ht
      obtain ⟨Wa, rfl⟩ : ∃ V, V = wr := ⟨_, rfl⟩
      go_wp2
      go_loopw [15] (fun i V => ∃ t : Nat, t ≤ L.length ∧ i = .int .i64 (t : Int) ∧ Below Wa.heap.size Wa V ∧ Hid (∀ i, i < t → ∀ k, k < i + 1 → hitE a b T U (nthR L i) (nthR L k) = false))
        (fun i _ => L.length - (intOf i).toNat)
      case atStart => exact ⟨0, by omega, rfl, Below.refl _ _, fun i hi => by omega⟩
      case round =>
        obtain ⟨t, ht, rfl, hB1, hI⟩ := hrel
        have hs1 := hB1.size
        by_cases hlt : t < L.length
        · obtain ⟨B, rfl, lB, hHR⟩ := HS.out (by omega)
          have HB1 := Lib.hid hB1
          have HHR := Lib.hid hHR
          have HYES2 : Hid (∀ k, k < t + 1 → hitE a b T U (nthR L t) (nthR L k) = true → R = true) := fun k h1 h2 => HYES.out t k hlt h1 h2
          have HI2 : Hid ((∀ k, k < t + 1 → hitE a b T U (nthR L t) (nthR L k) = false) → ∀ i, i < t + 1 → ∀ k, k < i + 1 → hitE a b T U (nthR L i) (nthR L k) = false) := fun h i hi k hk => by
            by_cases e : i = t
            · subst e; exact h k hk
            · exact hI.out i (by omega) k hk
          clear hB1 hHR HYES HNO hI HS
          obtain ⟨Wb, rfl⟩ : ∃ V, V = wr := ⟨_, rfl⟩
          go_wp2
          go_loopw [16] (fun i V => ∃ u : Nat, u ≤ t + 1 ∧ i = .int .i64 (u : Int) ∧ Below Wb.heap.size Wb V ∧ Hid (∀ k, k < u → hitE a b T U (nthR L t) (nthR L k) = false))
            (fun i _ => t + 1 - (intOf i).toNat)
          case atStart => exact ⟨0, by omega, rfl, Below.refl _ _, fun i hi => by omega⟩
          case round =>
            obtain ⟨u, hu, rfl, hB2, hI3⟩ := hrel
            have hs2 := hB2.size
            have hbA : Below Wa.heap.size Wa wr := HB1.out.trans (hB2.mono hs1)
            by_cases hlu : u < t + 1
            · have hle : u ≤ t := by omega
              obtain ⟨c1, c2⟩ := HHR.out t hlt
              obtain ⟨c3, c4⟩ := HHR.out u (by omega)
              replace c1 := (hbA.cell (p := ⟨B, t * 2, none⟩) lB).trans c1
              replace c2 := (hbA.cell (p := ⟨B, t * 2 + 1, none⟩) lB).trans c2
              replace c3 := (hbA.cell (p := ⟨B, u * 2, none⟩) lB).trans c3
              replace c4 := (hbA.cell (p := ⟨B, u * 2 + 1, none⟩) lB).trans c4
              have f1 := (FL.out t hlt).1
              have f3 := (FL.out u (by omega)).1
              have hhit : Hid (∀ x y e, (x, y, e) = addPR (nthR L t).1 (nthR L t).2 (nthR L u).1 (nthR L u).2 2 → hitE a b T U (nthR L t) (nthR L u) = (decide (e = 0) && fitsE a b T U (x, y))) := fun x y e h => by
                unfold hitE; rw [← h]
              have hYu := Lib.hid (HYES2.out u hlu)
              obtain ⟨y1, hy1⟩ : ∃ x, x = (nthR L t).1 := ⟨_, rfl⟩
              obtain ⟨y2, hy2⟩ : ∃ x, x = (nthR L t).2 := ⟨_, rfl⟩
              obtain ⟨y3, hy3⟩ : ∃ x, x = (nthR L u).1 := ⟨_, rfl⟩
              obtain ⟨y4, hy4⟩ : ∃ x, x = (nthR L u).2 := ⟨_, rfl⟩
              rw [← hy1] at c1 f1 hhit
              rw [← hy2] at c2 hhit
              rw [← hy3] at c3 f3 hhit
              rw [← hy4] at c4 hhit
              have MD0 := ratMid_any y1 y2 y3 y4 f1 f3
              have AF := addPR_fits (n1 := y1) (d1 := y2) (n2 := y3) (d2 := y4) (k := 2) (by decide)
              obtain ⟨⟨m1, m2, em⟩, hm⟩ : ∃ r, r = addPR y1 y2 y3 y4 2 := ⟨_, rfl⟩
              rw [← hm] at MD0 AF
              have hh2 := hhit.out m1 m2 em hm
              have MD : Hid (∀ w, Calls Try.prog 87 #[.agg #[.int .i64 y1, .int .i64 y2], .agg #[.int .i64 y3, .int .i64 y4]] w (Gives w (.tuple #[.agg #[.int .i64 m1, .int .i64 m2], .int .i64 em]))) := fun w => MD0 w
              have FT2 : Hid (∀ w, Calls Try.prog 88 #[.agg #[.int .i64 (a 0), .int .i64 (a 1), .int .i64 (a 2), .int .i64 (a 3), .int .i64 (a 4), .int .i64 (a 5)], .agg #[.int .i64 (b 0), .int .i64 (b 1), .int .i64 (b 2), .int .i64 (b 3), .int .i64 (b 4), .int .i64 (b 5)], .agg #[.int .i64 p0, .int .i64 p1, .int .i64 p2, .int .i64 p3], .agg #[.int .i64 m1, .int .i64 m2]] w (Gives w (.bool (fitsE a b T U (m1, m2))))) := fun w => FT.out m1 m2 w AF.1 AF.2
              obtain ⟨k, hk⟩ : ∃ k, k = fitsE a b T U (m1, m2) := ⟨_, rfl⟩
              rw [← hk] at FT2 hh2
              have HH2 := Lib.hid hh2
              have HB2 := Lib.hid hB2
              have HBA := Lib.hid hbA
              have t0 : (0 : Int) ≤ (t : Int) := by omega
              have t1 : (t : Int) < (L.length : Int) := by omega
              have u0 : (0 : Int) ≤ (u : Int) := by omega
              have u1 : (u : Int) < (L.length : Int) := by omega
              have lB2 : B < wr.heap.size := by omega
              clear hhit MD0 AF hm hh2 hk hy1 hy2 hy3 hy4 f1 f3 FT HYES2 hB2 hbA FL
              go_wp2
              go_cut [17, 18] from 105 (fun s17 s18 V => ∃ A : Nat, s17 = .pointer (some ⟨A, 0, none⟩) ∧ s18 = .int .i64 em ∧ Below wr.heap.size wr V ∧ BoxR V A m1 m2)
              case first =>
                go_region_held3 (fun w' => w'.cell? ⟨B, t * 2, none⟩ = some (.int .i64 y1) ∧ w'.cell? ⟨B, t * 2 + 1, none⟩ = some (.int .i64 y2) ∧ w'.cell? ⟨B, u * 2, none⟩ = some (.int .i64 y3) ∧ w'.cell? ⟨B, u * 2 + 1, none⟩ = some (.int .i64 y4))
                  ((simp [go_sem, *]))
                  ((go_at_call 87; ((with_reducible refine (MD.out _).mono ?_); rintro e w' ⟨rfl, qa, rfl⟩)))
                all_goals
                  go_wp2_with (fail)
                  go_meet
                  case rel => exact ⟨_, rfl, rfl, by (repeat' (first | (with_reducible assumption) | (with_reducible exact Below.refl _ _) | (with_reducible refine below_wov ?_ ?_ _) | (with_reducible refine below_drewN ?_ _) | (with_reducible refine Below.drew ?_) | (with_reducible refine Below.alloc ?_ ?_ _) | (with_reducible refine Below.setCell ?_ ?_ _) | (with_reducible exact Nat.le_refl _) | omega | (simp only [World.size_alloc, World.size_setCell, World.size_drew, Wov_size, World.heap_drewN]; omega))), ⟨by (first | omega | ((simp only [World.size_alloc, World.size_setCell, World.size_drew, Wov_size, World.heap_drewN, Array.size_append]) <;> omega)), by simp [go_sem], by simp [go_sem]⟩⟩
              case rest =>
                obtain ⟨A, rfl, rfl, hbV, mR⟩ := hcut
                obtain ⟨V, rfl⟩ : ∃ V, V = wc := ⟨_, rfl⟩
                have hsV := hbV.size
                have r0 := mR.c0
                have r1 := mR.c1
                have lR := mR.lt
                have hXV : Below X.heap.size X V := HBX.out.trans ((HBA.out.trans (hbV.mono (by omega))).mono hsr)
                have za := HZA.out.below hXV
                have zb := HZB.out.below hXV
                have zp := HP.out.below hXV
                have a0 := za.c0
                have a1 := za.c1
                have a2 := za.c2
                have a3 := za.c3
                have a4 := za.c4
                have a5 := za.c5
                have b0 := zb.c0
                have b1 := zb.c1
                have b2 := zb.c2
                have b3 := zb.c3
                have b4 := zb.c4
                have b5 := zb.c5
                have q0 := zp.c0
                have q1 := zp.c1
                have q2 := zp.c2
                have q3 := zp.c3
                have HW : Hid (Below Wb.heap.size Wb V) := HB2.out.trans (hbV.mono hs2)
                have hwV : Below w.heap.size w V := HB.out.trans (hXV.mono hsX)
                clear c1 c2 c3 c4 mR MD za zb zp hXV
                have hno : hitE a b T U (nthR L t) (nthR L u) = false → Hid (∀ k, k < u + 1 → hitE a b T U (nthR L t) (nthR L k) = false) := fun h k hk => by
                  by_cases e : k = u
                  · subst e; exact h
                  · exact hI3.out k (by omega)
                by_cases he : em = 0
                · subst he
                  cases k
                  · have HNO3 := hno (by rw [HH2.out]; rfl)
                    clear hno hI3 HH2 hYu hwV
                    go_wp2_with (fail)
                    refine (FT2.out _).mono ?_; rintro e w' ⟨rfl, q9, rfl⟩
                    have hW := HW.out
                    clear HW
                    go_wp2
                    go_roundw
                    case rel =>
                      (repeat apply Exists.intro)
                      exact ⟨⟨u + 1, by omega, by go_num, by (repeat' (first | (with_reducible assumption) | (with_reducible exact Below.refl _ _) | (with_reducible refine below_wov ?_ ?_ _) | (with_reducible refine below_drewN ?_ _) | (with_reducible refine Below.drew ?_) | (with_reducible refine Below.alloc ?_ ?_ _) | (with_reducible refine Below.setCell ?_ ?_ _) | (with_reducible exact Nat.le_refl _) | omega | (simp only [World.size_alloc, World.size_setCell, World.size_drew, Wov_size, World.heap_drewN]; omega))), HNO3⟩, rfl⟩
                    case measure => simp [intOf]; omega
                  · have HR1 : Hid (R = true) := hYu.out (by rw [HH2.out]; rfl)
                    clear hno hI3 HH2 hYu HW
                    go_wp2_with (fail)
                    refine (FT2.out _).mono ?_; rintro e w' ⟨rfl, q9, rfl⟩
                    go_wp2
                    go_ret
                    exact gives_bool (by rw [HR1.out]) (by (repeat' (first | (with_reducible assumption) | (with_reducible exact Below.refl _ _) | (with_reducible refine below_wov ?_ ?_ _) | (with_reducible refine below_drewN ?_ _) | (with_reducible refine Below.drew ?_) | (with_reducible refine Below.alloc ?_ ?_ _) | (with_reducible refine Below.setCell ?_ ?_ _) | (with_reducible exact Nat.le_refl _) | omega | (simp only [World.size_alloc, World.size_setCell, World.size_drew, Wov_size, World.heap_drewN]; omega))))
                · have be : (em == 0) = false := by rw [beq_eq_false_iff_ne]; exact he
                  have HNO3 := hno (by rw [HH2.out, decide_eq_false he]; rfl)
                  have hW := HW.out
                  clear hno hI3 HH2 hYu hwV HW he
                  go_wp2
                  go_roundw
                  case rel => exact ⟨u + 1, by omega, by go_num, by (repeat' (first | (with_reducible assumption) | (with_reducible exact Below.refl _ _) | (with_reducible refine below_wov ?_ ?_ _) | (with_reducible refine below_drewN ?_ _) | (with_reducible refine Below.drew ?_) | (with_reducible refine Below.alloc ?_ ?_ _) | (with_reducible refine Below.setCell ?_ ?_ _) | (with_reducible exact Nat.le_refl _) | omega | (simp only [World.size_alloc, World.size_setCell, World.size_drew, Wov_size, World.heap_drewN]; omega))), HNO3⟩
                  case measure => simp [intOf]; omega
            · obtain rfl : u = t + 1 := by omega
              have hlu2 : ¬ t + 1 ≤ t := by omega
              have HI4 : Hid (∀ i, i < t + 1 → ∀ k, k < i + 1 → hitE a b T U (nthR L i) (nthR L k) = false) := HI2.out hI3.out
              clear hI3 HI2 HYES2 hlu hu
              go_wp2
              go_roundw
              case rel => exact ⟨t + 1, by omega, by go_num, hbA, HI4⟩
              case measure => simp [intOf]; omega
        · obtain rfl : t = L.length := by omega
          have HR0 : Hid (R = false) := HNO.out hI.out
          have hwV : Below w.heap.size w wr := HB.out.trans ((HBX.out.trans (hB1.mono hsr)).mono hsX)
          clear HNO HYES hI HS FL FT hB1
          go_wp2
          go_ret
          exact gives_bool (by rw [HR0.out]) hwV
end Go.Proofs.Ytbgbhfcnadjhdaa
