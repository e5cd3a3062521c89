/- Contract of minus.Left. No condition but on the count of zones. -/
import Derived.Test.YtbgbhfcnadjhdaaJ8
namespace Go.Proofs.Ytbgbhfcnadjhdaa
set_option linter.unusedSimpArgs false
set_option linter.unusedVariables false
open Go Go.RowKit Go.Shelf
attribute [local go_sem] Nat.add_assoc Nat.add_lt_add_iff_left lit_lt_add

/-- The cells of a zone of some. -/
theorem slz_cells {W : World} {A o : Nat} {l : List (Nat → Int)} {t : Nat} (h : ∀ i j, i < l.length → j < 6 → W.cell? ⟨A, o + (i * 6 + j), none⟩ = some (.int .i64 (nthZ l i j))) (ht : t < l.length) :
    W.cell? ⟨A, o + t * 6, none⟩ = some (.int .i64 (nthZ l t 0)) ∧ W.cell? ⟨A, o + (t * 6 + 1), none⟩ = some (.int .i64 (nthZ l t 1)) ∧ W.cell? ⟨A, o + (t * 6 + 2), none⟩ = some (.int .i64 (nthZ l t 2)) ∧ W.cell? ⟨A, o + (t * 6 + 3), none⟩ = some (.int .i64 (nthZ l t 3)) ∧ W.cell? ⟨A, o + (t * 6 + 4), none⟩ = some (.int .i64 (nthZ l t 4)) ∧ W.cell? ⟨A, o + (t * 6 + 5), none⟩ = some (.int .i64 (nthZ l t 5)) :=
  ⟨h t 0 ht (by omega), h t 1 ht (by omega), h t 2 ht (by omega), h t 3 ht (by omega), h t 4 ht (by omega), h t 5 ht (by omega)⟩
theorem OwnZ.below {w W V : World} {p : Option Addr} {l : List (Nat → Int)} (h : OwnZ w W p l) (hb : Below W.heap.size W V) : OwnZ w V p l := by
  rcases h with h | ⟨B, rfl, h1, h2, h3⟩
  · exact .inl h
  · exact .inr ⟨B, rfl, h1, Nat.lt_of_lt_of_le h2 hb.size, fun i j hi hj => ⟨(hb.cell (p := ⟨B, i * 6 + j, none⟩) h2).trans (h3 i j hi hj).1, (hb.frozen (p := ⟨B, i * 6 + j, none⟩) h2).trans (h3 i j hi hj).2⟩⟩
theorem ownZ_one {w X : World} {a : Nat → Int} {t : TypeId} {B : Nat} (hB : B = X.heap.size) (hw : w.heap.size ≤ X.heap.size) : OwnZ w (X.alloc (.cells #[.int .i64 (a 0), .int .i64 (a 1), .int .i64 (a 2), .int .i64 (a 3), .int .i64 (a 4), .int .i64 (a 5)] t)) (some ⟨B, 0, none⟩) [a] := by
  subst hB
  refine .inr ⟨X.heap.size, rfl, hw, by simp, fun i j hi hj => ?_⟩
  obtain rfl : i = 0 := by simpa using hi
  rcases six hj with rfl | rfl | rfl | rfl | rfl | rfl <;> (constructor <;> simp [go_sem, nthZ])
theorem next_cons {b z : Nat → Int} {zs K : List (Nat → Int)} : nextZ b (z :: zs) K = if (minusZ z b).2 ≠ 0 then ([], (minusZ z b).2) else if 4096 < (K ++ (minusZ z b).1).length then ([], 4) else nextZ b zs (K ++ (minusZ z b).1) := rfl
theorem rest_cons {b : Nat → Int} {l O : List (Nat → Int)} : restZ (b :: l) O = if (nextZ b O []).2 ≠ 0 then ([], (nextZ b O []).2) else restZ l (nextZ b O []).1 := rfl
theorem own_cells {W : World} {A : Nat} {l : List (Nat → Int)} {t : Nat} (h : ∀ i j, i < l.length → j < 6 → W.cell? ⟨A, i * 6 + j, none⟩ = some (.int .i64 (nthZ l i j)) ∧ W.frozen? ⟨A, i * 6 + j, none⟩ = false) (ht : t < l.length) :
    W.cell? ⟨A, t * 6, none⟩ = some (.int .i64 (nthZ l t 0)) ∧ W.cell? ⟨A, t * 6 + 1, none⟩ = some (.int .i64 (nthZ l t 1)) ∧ W.cell? ⟨A, t * 6 + 2, none⟩ = some (.int .i64 (nthZ l t 2)) ∧ W.cell? ⟨A, t * 6 + 3, none⟩ = some (.int .i64 (nthZ l t 3)) ∧ W.cell? ⟨A, t * 6 + 4, none⟩ = some (.int .i64 (nthZ l t 4)) ∧ W.cell? ⟨A, t * 6 + 5, none⟩ = some (.int .i64 (nthZ l t 5)) :=
  ⟨(h t 0 ht (by omega)).1, (h t 1 ht (by omega)).1, (h t 2 ht (by omega)).1, (h t 3 ht (by omega)).1, (h t 4 ht (by omega)).1, (h t 5 ht (by omega)).1⟩
theorem row_below {W V : World} {n : Nat} {e : TypeId} {v : Value} {k : Nat} {xs : List Value} (h : W.ownsRow n e 6 v k xs) (hb : Below W.heap.size W V) : V.ownsRow n e 6 v k xs := by
  refine ⟨h.1, ?_⟩
  rcases h.2 with h0 | ⟨g, cap, cur, h1, h2, h3, h4⟩
  · exact .inl h0
  · exact .inr ⟨g, cap, cur, h1, h2, (hb.block g (Array.getElem?_eq_some_iff.1 h3).1).trans h3, h4⟩
theorem row_grown {X W V : World} {n : Nat} {e : TypeId} {v : Value} {k : Nat} {xs : List Value} (h : W.ownsRow n e 6 v k xs) (hb : Below n X W) (hg : W.grownBy V v.ownBlock) (hn : n ≤ W.heap.size) : Below n X V := by
  refine hb.grown hg hn fun j ej => ?_
  rcases h.2 with ⟨rfl, _⟩ | ⟨g, cap, cur, rfl, hb, _⟩
  · simp [Value.ownBlock] at ej
  · obtain rfl : g = j := by simpa [Value.ownBlock] using ej
    exact hb
theorem drop_nth {l : List (Nat → Int)} {t : Nat} (h : t < l.length) : l.drop t = nthZ l t :: l.drop (t + 1) := by
  rw [nthZ_eq h]; exact List.drop_eq_getElem_cons h
theorem all_take {l : List (Nat → Int)} {t : Nat} (h : t < l.length) (ha : ∀ i, i < t → okZ (nthZ l i) = true) (hb : okZ (nthZ l t) = true) : ∀ i, i < t + 1 → okZ (nthZ l i) = true := fun i hi => by
  by_cases e : i = t
  · subst e; exact hb
  · exact ha i (by omega)
theorem all_ok {l : List (Nat → Int)} (h : ∀ i, i < l.length → okZ (nthZ l i) = true) : l.all okZ = true := by
  rw [List.all_eq_true]
  intro z hz
  obtain ⟨i, hi, rfl⟩ := List.getElem_of_mem hz
  rw [← nthZ_eq hi]; exact h i hi
theorem all_no {l : List (Nat → Int)} {t : Nat} (h : t < l.length) (hb : okZ (nthZ l t) = false) : l.all okZ = false := by
  cases ha : l.all okZ
  · rfl
  · rw [List.all_eq_true] at ha
    rw [ha _ (nthZ_mem h)] at hb; cases hb

set_option maxRecDepth 100000 in
set_option maxHeartbeats 4000000 in
theorem left_any (a : Nat → Int) (p : Option Addr) (cap : Nat) (l : List (Nat → Int)) (w : World) (fa : FitsZ a) (hF : ∀ z, z ∈ l → FitsZ z) (hS : SlZ w p l) (hN : l.length ≤ 1000000) :
    Calls Try.prog 15 #[zoneV a, .slice p l.length cap] w (zlC w (leftZ a l)) := by
  have CA : Hid (∀ w, Calls Try.prog 45 #[zoneV a] w (Gives w (.int .i64 (rcode (okZ a))))) := fun w => zcheck_any a w fa
  have CL : Hid (∀ t, t < l.length → ∀ w, Calls Try.prog 45 #[zoneV (nthZ l t)] w (Gives w (.int .i64 (rcode (okZ (nthZ l t)))))) := fun t ht w => zcheck_any _ w (hF _ (nthZ_mem ht))
  unfold zoneV at CA CL ⊢
  cases ha : okZ a
  · have hR : Hid (leftZ a l = ([], 8)) := by show _ = _; unfold leftZ; rw [ha]; rfl
    rw [hR.out]
    simp only [ha, rcode_f] at CA
    clear hR CL ha hS hF
    go_enter Try.func15, Try.ntmps15
    go_wp2_with (fail)
    refine (CA.out _).mono ?_; rintro e w' ⟨rfl, q1, rfl⟩
    go_wp2
    go_returns
    exact ⟨⟨none, 0, rfl, fun _ => rfl, .inl rfl⟩, Wov_of_below (by (repeat' (first | (with_reducible assumption) | (with_reducible exact Below.refl _ _) | (with_reducible refine below_wov ?_ ?_ _) | (with_reducible refine below_drewN ?_ _) | (with_reducible refine Below.drew ?_) | (with_reducible refine Below.alloc ?_ ?_ _) | (with_reducible refine Below.setCell ?_ ?_ _) | (with_reducible exact Nat.le_refl _) | omega | (simp only [World.size_alloc, World.size_setCell, World.size_drew, Wov_size, World.heap_drewN]; omega))))⟩
  · simp only [ha, rcode_t] at CA
    obtain ⟨⟨RL, RE⟩, hR⟩ : ∃ R, Hid (R = leftZ a l) := ⟨_, rfl⟩
    rw [← hR.out]
    unfold zlC
    dsimp only
    have HA := Lib.hid ha
    have HS := Lib.hid hS
    have HF := Lib.hid hF
    clear hS hF ha
    go_enter Try.func15, Try.ntmps15
    go_wp2_with (fail)
    refine (CA.out _).mono ?_; rintro e w' ⟨rfl, q1, rfl⟩
    go_wp2
    refine wp_world (fun W => Below w.heap.size w W ∧ BoxZ W w.heap.size a) ⟨by (repeat' (first | (with_reducible assumption) | (with_reducible exact Below.refl _ _) | (with_reducible refine below_wov ?_ ?_ _) | (with_reducible refine below_drewN ?_ _) | (with_reducible refine Below.drew ?_) | (with_reducible refine Below.alloc ?_ ?_ _) | (with_reducible refine Below.setCell ?_ ?_ _) | (with_reducible exact Nat.le_refl _) | omega | (simp only [World.size_alloc, World.size_setCell, World.size_drew, Wov_size, World.heap_drewN]; omega))), (BoxZ.new (W := w) (t := 24) (by simp)).below (by (repeat' (first | (with_reducible assumption) | (with_reducible exact Below.refl _ _) | (with_reducible refine below_wov ?_ ?_ _) | (with_reducible refine below_drewN ?_ _) | (with_reducible refine Below.drew ?_) | (with_reducible refine Below.alloc ?_ ?_ _) | (with_reducible refine Below.setCell ?_ ?_ _) | (with_reducible exact Nat.le_refl _) | omega | (simp only [World.size_alloc, World.size_setCell, World.size_drew, Wov_size, World.heap_drewN]; omega))))⟩ ?_
    rintro W1 ⟨hb1, hbox⟩
    clear CA
    have HB1 := Lib.hid hb1
    have HBX := Lib.hid hbox
    have hs1 := hb1.size
    have lx1 := hbox.lt
    clear hb1 hbox
    go_loopw [21] (fun i wr => ∃ t : Nat, t ≤ l.length ∧ i = .int .i64 t ∧ Below W1.heap.size W1 wr ∧ Hid (∀ i, i < t → okZ (nthZ l i) = true))
      (fun i _ => l.length - (intOf i).toNat)
    case atStart => exact ⟨0, by omega, rfl, Below.refl _ _, fun i hi => by omega⟩
    case round =>
      obtain ⟨t, ht, rfl, hB, hK⟩ := hrel
      have szr := hB.size
      by_cases hlt : t < l.length
      · obtain ⟨A, o, rfl, hA, hv⟩ := HS.out.resolve_left (fun h => by rw [h] at hlt; simp at hlt)
        have bw := HB1.out.trans (hB.mono hs1)
        have hlA : A < wr.heap.size := Nat.lt_of_lt_of_le hA bw.size
        obtain ⟨g0, g1, g2, g3, g4, g5⟩ := slz_cells (W := wr) (fun i j hi hj => (bw.cell (p := ⟨A, o + (i * 6 + j), none⟩) hA).trans (hv i j hi hj)) hlt
        have CK := CL.out t hlt
        obtain ⟨z, hz⟩ : ∃ z, z = nthZ l t := ⟨_, rfl⟩
        rw [← hz] at g0 g1 g2 g3 g4 g5 CK
        have HZ := Lib.hid hz
        obtain ⟨k, hk⟩ : ∃ k, k = okZ z := ⟨_, rfl⟩
        rw [← hk] at CK
        have HKK := Lib.hid hk
        clear hv CL hz hk
        cases k
        · simp only [rcode_f] at CK
          have CK := Lib.hid CK
          have hE : Hid (RL = [] ∧ RE = 8) := by
            have h1 := hR.out
            unfold leftZ at h1
            rw [all_no hlt (by rw [← HZ.out]; exact HKK.out.symm), Bool.and_false] at h1
            have h2 : RL = [] ∧ RE = 8 := by simpa using h1
            exact h2
          have bw2 := Lib.hid bw
          clear hR HF HS HBX HB1 hB hK bw
          go_wp2_with (fail)
          refine (CK.out _).mono ?_; rintro e w' ⟨rfl, q2, rfl⟩
          obtain ⟨rfl, rfl⟩ := hE.out
          have bw := bw2.out
          clear bw2 hE CK
          go_wp2
          go_returns
          exact ⟨⟨none, 0, rfl, fun _ => rfl, .inl rfl⟩, Wov_of_below (by (repeat' (first | (with_reducible assumption) | (with_reducible exact Below.refl _ _) | (with_reducible refine below_wov ?_ ?_ _) | (with_reducible refine below_drewN ?_ _) | (with_reducible refine Below.drew ?_) | (with_reducible refine Below.alloc ?_ ?_ _) | (with_reducible refine Below.setCell ?_ ?_ _) | (with_reducible exact Nat.le_refl _) | omega | (simp only [World.size_alloc, World.size_setCell, World.size_drew, Wov_size, World.heap_drewN]; omega))))⟩
        · simp only [rcode_t] at CK
          have CK := Lib.hid CK
          have hK2 : Hid (∀ i, i < t + 1 → okZ (nthZ l i) = true) := all_take hlt hK.out (by rw [← HZ.out]; exact HKK.out.symm)
          clear hK
          go_wp2_with (fail)
          refine (CK.out _).mono ?_; rintro e w' ⟨rfl, q2, rfl⟩
          go_wp2
          go_roundw
          case rel => exact ⟨t + 1, by omega, by go_num, by (repeat' (first | (with_reducible assumption) | (with_reducible exact Below.refl _ _) | (with_reducible refine below_wov ?_ ?_ _) | (with_reducible refine below_drewN ?_ _) | (with_reducible refine Below.drew ?_) | (with_reducible refine Below.alloc ?_ ?_ _) | (with_reducible refine Below.setCell ?_ ?_ _) | (with_reducible exact Nat.le_refl _) | omega | (simp only [World.size_alloc, World.size_setCell, World.size_drew, Wov_size, World.heap_drewN]; omega))), hK2⟩
          case measure => simp [intOf]; omega
      · obtain rfl : t = l.length := by omega
        have hall : Hid (restZ l [a] = (RL, RE)) := by
          show _ = _
          have h1 := hR.out
          unfold leftZ at h1
          rw [HA.out, all_ok hK.out] at h1
          exact h1.symm
        have bx := HBX.out.below hB
        have x0 := bx.c0
        have x1 := bx.c1
        have x2 := bx.c2
        have x3 := bx.c3
        have x4 := bx.c4
        have x5 := bx.c5
        have xl := bx.lt
        have HK := Lib.hid hK.out
        have HBW := Lib.hid (HB1.out.trans (hB.mono hs1))
        clear hR hK bx HB1 hB HBX CL ht hlt
        go_wp2
        obtain ⟨B0, hB0⟩ : ∃ B0, wr.heap.size = B0 := ⟨_, rfl⟩
        rw [hB0]
        have szw := HBW.out.size
        refine wp_world (fun W => Below w.heap.size w W ∧ OwnZ w W (some ⟨B0, 0, none⟩) [a]) ⟨HBW.out.alloc szw _, ownZ_one hB0.symm szw⟩ ?_
        rintro W2 ⟨hb2, ho2⟩
        have HB2 := Lib.hid hb2
        have HO2 := Lib.hid ho2
        have hs2 := hb2.size
        clear hb2 ho2 x0 x1 x2 x3 x4 x5 xl HBW hB0 szr szw
        go_loopw [8, 33] (fun v i V => ∃ (t : Nat) (O : List (Nat → Int)) (pO : Option Addr) (cO : Nat), t ≤ l.length ∧ i = .int .i64 t ∧ v = .slice pO O.length cO ∧ Below W2.heap.size W2 V ∧ O.length ≤ 4096 ∧ Hid ((pO = none → cO = 0) ∧ OwnZ w V pO O ∧ (∀ z, z ∈ O → okZ z = true) ∧ restZ (l.drop t) O = (RL, RE)))
          (fun _ i _ => l.length - (intOf i).toNat)
        case atStart => exact ⟨0, [a], _, 1, by omega, rfl, rfl, Below.refl _ _, by simp, (fun h => by cases h), HO2.out, (fun z hz => by rw [List.mem_singleton] at hz; rw [hz]; exact HA.out), hall.out⟩
        case round =>
          obtain ⟨t, O, pO, cO, ht, rfl, rfl, hB, hO, hI⟩ := hrel
          have szr := hB.size
          by_cases hlt : t < l.length
          · obtain ⟨A, o, rfl, hA, hv⟩ := HS.out.resolve_left (fun h => by rw [h] at hlt; simp at hlt)
            have bw := HB2.out.trans (hB.mono hs2)
            have hlA : A < wr.heap.size := Nat.lt_of_lt_of_le hA bw.size
            obtain ⟨g0, g1, g2, g3, g4, g5⟩ := slz_cells (W := wr) (fun i j hi hj => (bw.cell (p := ⟨A, o + (i * 6 + j), none⟩) hA).trans (hv i j hi hj)) hlt
            obtain ⟨b, hb⟩ : ∃ z, z = nthZ l t := ⟨_, rfl⟩
            rw [← hb] at g0 g1 g2 g3 g4 g5
            have okb : Hid (okZ b = true) := by rw [hb]; exact HK.out t hlt
            have hrest : Hid (restZ (b :: l.drop (t + 1)) O = (RL, RE)) := by
              show _ = _
              rw [hb, ← drop_nth hlt]; exact hI.out.2.2.2
            have HO := Lib.hid hI.out.2.1
            have HOK := Lib.hid hI.out.2.2.1
            clear hv hb hI
            go_wp2
            obtain ⟨A1, hA1⟩ : ∃ A1, wr.heap.size = A1 := ⟨_, rfl⟩
            rw [hA1]
            refine wp_world (fun W => Below w.heap.size w W ∧ Below W2.heap.size W2 W ∧ OwnZ w W pO O ∧ BoxZ W A1 b) ⟨bw.alloc (by omega) _, hB.alloc (by omega) _, HO.out.below (by (repeat' (first | (with_reducible assumption) | (with_reducible exact Below.refl _ _) | (with_reducible refine below_wov ?_ ?_ _) | (with_reducible refine below_drewN ?_ _) | (with_reducible refine Below.drew ?_) | (with_reducible refine Below.alloc ?_ ?_ _) | (with_reducible refine Below.setCell ?_ ?_ _) | (with_reducible exact Nat.le_refl _) | omega | (simp only [World.size_alloc, World.size_setCell, World.size_drew, Wov_size, World.heap_drewN]; omega)))), BoxZ.new hA1.symm⟩ ?_
            rintro X ⟨hbx, hbx2, hox, hbox⟩
            have HBX := Lib.hid hbx
            have HBX2 := Lib.hid hbx2
            have HOX := Lib.hid hox
            have HBOX := Lib.hid hbox
            have hsx := hbx.size
            have hsx2 := hbx2.size
            have l1x := hbox.lt
            clear hbx hbx2 hox hbox g0 g1 g2 g3 g4 g5 hlA hA bw HO hA1 hB szr
            go_loopw [11, 39] (fun v i V => ∃ (k : Nat) (K : List (Nat → Int)) (pK : Option Addr) (cK : Nat), k ≤ O.length ∧ i = .int .i64 k ∧ v = .slice pK K.length cK ∧ Below X.heap.size X V ∧ K.length ≤ 4096 ∧ Hid (V.ownsRow X.heap.size 24 6 (.slice pK K.length cK) K.length (cellsZ K)) ∧ Hid ((pK = none → cK = 0) ∧ nextZ b (O.drop k) K = nextZ b O []))
              (fun _ i _ => O.length - (intOf i).toNat)
            case atStart => exact ⟨0, [], none, 0, by omega, rfl, rfl, Below.refl _ _, by simp, World.ownsRow_nil _ _ _ _, fun _ => rfl, rfl⟩
            case round =>
              obtain ⟨k, K, pK, cK, hk, rfl, rfl, hBx, hKl, hrow, hnx⟩ := hrel
              have szx := hBx.size
              by_cases hkl : k < O.length
              · obtain ⟨Bz, rfl, _, hBz, hvz⟩ := HOX.out.resolve_left (fun h => by rw [h] at hkl; simp at hkl)
                have hlz : Bz < wr.heap.size := by omega
                obtain ⟨g0, g1, g2, g3, g4, g5⟩ := own_cells (W := wr) (fun i j hi hj => ⟨(hBx.cell (p := ⟨Bz, i * 6 + j, none⟩) hBz).trans (hvz i j hi hj).1, (hBx.frozen (p := ⟨Bz, i * 6 + j, none⟩) hBz).trans (hvz i j hi hj).2⟩) hkl
                have bo := HBOX.out.below hBx
                have e0 := bo.c0
                have e1 := bo.c1
                have e2 := bo.c2
                have e3 := bo.c3
                have e4 := bo.c4
                have e5 := bo.c5
                have el := bo.lt
                have hnx2 := hnx.out.2
                rw [drop_nth hkl, next_cons] at hnx2
                have okz : okZ (nthZ O k) = true := HOK.out _ (nthZ_mem hkl)
                obtain ⟨z, hz⟩ : ∃ z, z = nthZ O k := ⟨_, rfl⟩
                rw [← hz] at g0 g1 g2 g3 g4 g5 hnx2 okz
                have hM6 := minus_len z b
                have MN0 := fun W => minus_any z b (okZ_fits okz) (okZ_fits okb.out) W
                obtain ⟨⟨M, e⟩, hM⟩ : ∃ r, r = minusZ z b := ⟨_, rfl⟩
                rw [← hM] at MN0 hnx2 hM6
                unfold zoneV zlC at MN0
                simp only at MN0 hnx2 hM6
                have MN := Lib.hid MN0
                obtain ⟨KM, hKM⟩ : ∃ KM, KM = K ++ M := ⟨_, rfl⟩
                rw [← hKM] at hnx2
                have hlen : KM.length = K.length + M.length := by rw [hKM, List.length_append]
                have HKM := Lib.hid hKM
                have HNX := Lib.hid hnx2
                have hrest2 := hrest.out
                rw [rest_cons] at hrest2
                have HRE := Lib.hid hrest2
                clear hnx hnx2 hvz bo hz okz hM MN0 hKM hrest2
                by_cases he : e = 0
                · subst he
                  by_cases hc : 4096 < KM.length
                  · have hE : Hid (RL = [] ∧ RE = 4) := by
                      have h1 := HNX.out
                      rw [if_neg (by simp), if_pos hc] at h1
                      have h2 := HRE.out
                      rw [← h1] at h2
                      have h3 : RL = [] ∧ RE = 4 := by simpa using h2.symm
                      exact h3
                    have HB3 := Lib.hid (HBX.out.trans (hBx.mono hsx))
                    clear HRE HNX hrest HS HF HB2 HO2 HK hall
                    go_wp2_with (fail)
                    refine (MN.out _).mono ?_; rintro e w' ⟨⟨pM, cM, rfl, hpc, hoM⟩, qm, rfl⟩
                    have hsM := Lib.hid hoM.slz
                    clear hoM
                    go_wp2_with (at_builtin; refine wpList_appZ _ X.heap.size rfl _ _ rfl rfl _ K M rfl (row_below hrow.out (by (repeat' (first | (with_reducible assumption) | (with_reducible exact Below.refl _ _) | (with_reducible refine below_wov ?_ ?_ _) | (with_reducible refine below_drewN ?_ _) | (with_reducible refine Below.drew ?_) | (with_reducible refine Below.alloc ?_ ?_ _) | (with_reducible refine Below.setCell ?_ ?_ _) | (with_reducible exact Nat.le_refl _) | omega | (simp only [World.size_alloc, World.size_setCell, World.size_drew, Wov_size, World.heap_drewN]; omega))))) pM cM rfl hpc hsM.out (by omega) (by (first | omega | ((simp only [World.size_alloc, World.size_setCell, World.size_drew, Wov_size, World.heap_drewN, Array.size_append]) <;> omega))) ?_; (intro v' w1 ho hg; have hgx := Lib.hid (row_grown (row_below hrow.out (by (repeat' (first | (with_reducible assumption) | (with_reducible exact Below.refl _ _) | (with_reducible refine below_wov ?_ ?_ _) | (with_reducible refine below_drewN ?_ _) | (with_reducible refine Below.drew ?_) | (with_reducible refine Below.alloc ?_ ?_ _) | (with_reducible refine Below.setCell ?_ ?_ _) | (with_reducible exact Nat.le_refl _) | omega | (simp only [World.size_alloc, World.size_setCell, World.size_drew, Wov_size, World.heap_drewN]; omega))))) (show Below X.heap.size X _ from by (repeat' (first | (with_reducible assumption) | (with_reducible exact Below.refl _ _) | (with_reducible refine below_wov ?_ ?_ _) | (with_reducible refine below_drewN ?_ _) | (with_reducible refine Below.drew ?_) | (with_reducible refine Below.alloc ?_ ?_ _) | (with_reducible refine Below.setCell ?_ ?_ _) | (with_reducible exact Nat.le_refl _) | omega | (simp only [World.size_alloc, World.size_setCell, World.size_drew, Wov_size, World.heap_drewN]; omega)))) hg (by (first | omega | ((simp only [World.size_alloc, World.size_setCell, World.size_drew, Wov_size, World.heap_drewN, Array.size_append]) <;> omega)))); obtain ⟨p', c', hv', hpc', _⟩ := ownZ_of_row (w := X) ho (Nat.le_refl _); subst hv'; rw [← HKM.out] at ho ⊢; have HO9 := Lib.hid ho; clear ho hg))
                    obtain ⟨rfl, rfl⟩ := hE.out
                    go_returns
                    exact ⟨⟨none, 0, rfl, fun _ => rfl, .inl rfl⟩, Wov_of_below (HBX.out.trans (hgx.out.mono hsx))⟩
                  · have hnx3 : Hid (nextZ b (O.drop (k + 1)) KM = nextZ b O []) := by
                      show _ = _
                      have h1 := HNX.out
                      rwa [if_neg (by simp), if_neg hc] at h1
                    clear HRE HNX
                    go_wp2_with (fail)
                    refine (MN.out _).mono ?_; rintro e w' ⟨⟨pM, cM, rfl, hpc, hoM⟩, qm, rfl⟩
                    have hsM := Lib.hid hoM.slz
                    clear hoM
                    go_wp2_with (at_builtin; refine wpList_appZ _ X.heap.size rfl _ _ rfl rfl _ K M rfl (row_below hrow.out (by (repeat' (first | (with_reducible assumption) | (with_reducible exact Below.refl _ _) | (with_reducible refine below_wov ?_ ?_ _) | (with_reducible refine below_drewN ?_ _) | (with_reducible refine Below.drew ?_) | (with_reducible refine Below.alloc ?_ ?_ _) | (with_reducible refine Below.setCell ?_ ?_ _) | (with_reducible exact Nat.le_refl _) | omega | (simp only [World.size_alloc, World.size_setCell, World.size_drew, Wov_size, World.heap_drewN]; omega))))) pM cM rfl hpc hsM.out (by omega) (by (first | omega | ((simp only [World.size_alloc, World.size_setCell, World.size_drew, Wov_size, World.heap_drewN, Array.size_append]) <;> omega))) ?_; (intro v' w1 ho hg; have hgx := Lib.hid (row_grown (row_below hrow.out (by (repeat' (first | (with_reducible assumption) | (with_reducible exact Below.refl _ _) | (with_reducible refine below_wov ?_ ?_ _) | (with_reducible refine below_drewN ?_ _) | (with_reducible refine Below.drew ?_) | (with_reducible refine Below.alloc ?_ ?_ _) | (with_reducible refine Below.setCell ?_ ?_ _) | (with_reducible exact Nat.le_refl _) | omega | (simp only [World.size_alloc, World.size_setCell, World.size_drew, Wov_size, World.heap_drewN]; omega))))) (show Below X.heap.size X _ from by (repeat' (first | (with_reducible assumption) | (with_reducible exact Below.refl _ _) | (with_reducible refine below_wov ?_ ?_ _) | (with_reducible refine below_drewN ?_ _) | (with_reducible refine Below.drew ?_) | (with_reducible refine Below.alloc ?_ ?_ _) | (with_reducible refine Below.setCell ?_ ?_ _) | (with_reducible exact Nat.le_refl _) | omega | (simp only [World.size_alloc, World.size_setCell, World.size_drew, Wov_size, World.heap_drewN]; omega)))) hg (by (first | omega | ((simp only [World.size_alloc, World.size_setCell, World.size_drew, Wov_size, World.heap_drewN, Array.size_append]) <;> omega)))); obtain ⟨p', c', hv', hpc', _⟩ := ownZ_of_row (w := X) ho (Nat.le_refl _); subst hv'; rw [← HKM.out] at ho ⊢; have HO9 := Lib.hid ho; clear ho hg))
                    go_roundw
                    case rel => exact ⟨k + 1, KM, p', c', by omega, by go_num, by rw [hlen], hgx.out, by omega, HO9.out, hpc', hnx3.out⟩
                    case measure => simp [intOf]; omega
                · have hE : Hid (RL = [] ∧ RE = e) := by
                    have h1 := HNX.out
                    rw [if_pos he] at h1
                    have h2 := HRE.out
                    rw [← h1, if_pos he] at h2
                    have h3 : RL = [] ∧ RE = e := by
                      simp only [Prod.mk.injEq] at h2
                      exact ⟨h2.1.symm, h2.2.symm⟩
                    exact h3
                  have hbe : (e != 0) = true := by rw [bne_iff_ne]; exact he
                  have HB3 := Lib.hid (HBX.out.trans (hBx.mono hsx))
                  clear HRE HNX hrest HS HF HB2 HO2 HK hall
                  go_wp2_with (fail)
                  refine (MN.out _).mono ?_; rintro e w' ⟨⟨pM, cM, rfl, hpc, hoM⟩, qm, rfl⟩
                  clear hoM
                  have hb3 := HB3.out
                  go_wp2
                  obtain ⟨rfl, rfl⟩ := hE.out
                  go_returns
                  exact ⟨⟨none, 0, rfl, fun _ => rfl, .inl rfl⟩, Wov_of_below (by (repeat' (first | (with_reducible assumption) | (with_reducible exact Below.refl _ _) | (with_reducible refine below_wov ?_ ?_ _) | (with_reducible refine below_drewN ?_ _) | (with_reducible refine Below.drew ?_) | (with_reducible refine Below.alloc ?_ ?_ _) | (with_reducible refine Below.setCell ?_ ?_ _) | (with_reducible exact Nat.le_refl _) | omega | (simp only [World.size_alloc, World.size_setCell, World.size_drew, Wov_size, World.heap_drewN]; omega))))⟩
              · obtain rfl : k = O.length := by omega
                have hfin : Hid (nextZ b O [] = (K, 0)) := by
                  show _ = _
                  have h1 := hnx.out.2
                  rw [List.drop_length] at h1
                  exact h1.symm
                have hrest2 : Hid (restZ (l.drop (t + 1)) K = (RL, RE)) := by
                  show _ = _
                  have h1 := hrest.out
                  rw [rest_cons, hfin.out, if_neg (by simp)] at h1
                  exact h1
                have hokK : Hid (∀ z, z ∈ K → okZ z = true) := by
                  obtain ⟨f1, f2, _⟩ := next_ok O [] K hfin.out
                  rw [List.nil_append] at f1
                  rw [f1]
                  exact flat_okZ O f2
                have hown : Hid ((pK = none → cK = 0) ∧ OwnZ w wr pK K) := by
                  obtain ⟨p2, c2, e2, e3, e4⟩ := ownZ_of_row (w := w) hrow.out hsx
                  simp only [Value.slice.injEq] at e2
                  obtain ⟨rfl, _, rfl⟩ := e2
                  exact ⟨e3, e4⟩
                have hB4 := Lib.hid (HBX2.out.trans (hBx.mono hsx2))
                clear hrow hnx hrest hfin
                go_wp2
                go_roundw
                case rel => exact ⟨t + 1, K, pK, cK, by omega, by go_num, rfl, hB4.out, hKl, hown.out.1, hown.out.2, hokK.out, hrest2.out⟩
                case measure => simp [intOf]; omega
          · obtain rfl : t = l.length := by omega
            have hE : Hid (RL = O ∧ RE = 0) := by
              have h1 := hI.out.2.2.2
              rw [List.drop_length] at h1
              have h2 : (O, (0 : Int)) = (RL, RE) := h1
              simp only [Prod.mk.injEq] at h2
              exact ⟨h2.1.symm, h2.2.symm⟩
            have hO1 := Lib.hid hI.out.1
            have hO2 := Lib.hid hI.out.2.1
            have HB3 := Lib.hid (HB2.out.trans (hB.mono hs2))
            clear hI HS HF HB2 HO2 HK hall
            obtain ⟨rfl, rfl⟩ := hE.out
            go_wp2
            go_returns
            exact ⟨⟨pO, cO, rfl, hO1.out, hO2.out⟩, Wov_of_below HB3.out⟩
#print axioms left_any
end Go.Proofs.Ytbgbhfcnadjhdaa
