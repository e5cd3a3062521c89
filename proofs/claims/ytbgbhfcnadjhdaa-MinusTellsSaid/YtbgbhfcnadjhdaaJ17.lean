/- Contracts of the document's Minus and Left of layer 11: the code's. No condition but on the count of zones. -/
import Derived.Test.YtbgbhfcnadjhdaaJ16
namespace Go.Proofs.Ytbgbhfcnadjhdaa
set_option linter.unusedSimpArgs false
set_option linter.unusedVariables false
open Go Go.RowKit Go.Shelf
attribute [local go_sem] Nat.add_assoc Nat.add_lt_add_iff_left lit_lt_add

theorem OwnZ.mono {w w0 W : World} {p : Option Addr} {l : List (Nat → Int)} (h : OwnZ w W p l) (hs : w0.heap.size ≤ w.heap.size) : OwnZ w0 W p l := by
  rcases h with h | ⟨B, e, h1, h2⟩
  · exact .inl h
  · exact .inr ⟨B, e, Nat.le_trans hs h1, h2⟩
set_option maxRecDepth 100000 in
set_option maxHeartbeats 4000000 in
theorem minusD_any (a b : Nat → Int) (w : World) (fa : FitsZ a) (fb : FitsZ b) : Calls Try.prog 14 #[zoneV a, zoneV b] w (zlC w (minusZ a b)) := by
  have MA : Hid (∀ w, Calls Try.prog 56 #[zoneV a] w (Gives w (.bool (okZ a)))) := fun w => may8_any a w fa
  have MB : Hid (∀ w, Calls Try.prog 56 #[zoneV b] w (Gives w (.bool (okZ b)))) := fun w => may8_any b w fb
  clear fa fb
  cases oka : okZ a
  · rw [oka] at MA
    rw [minus_bad (by rw [oka]; rfl)]
    unfold zlC
    unfold zoneV at MA ⊢
    dsimp only
    clear oka MB
    go_enter Try.func14, Try.ntmps14
    go_wp2_with (fail)
    refine (MA.out _).mono ?_; rintro e w' ⟨rfl, q1, rfl⟩
    go_wp2
    go_returns
    exact ⟨⟨none, 0, rfl, fun _ => rfl, .inl rfl⟩, Wov_of_below (by (repeat' (first | (with_reducible assumption) | (with_reducible exact Below.refl _ _) | (with_reducible refine below_wov ?_ ?_ _) | (with_reducible refine below_drewN ?_ _) | (with_reducible refine Below.drew ?_) | (with_reducible refine Below.alloc ?_ ?_ _) | (with_reducible refine Below.setCell ?_ ?_ _) | (with_reducible exact Nat.le_refl _) | omega | (simp only [World.size_alloc, World.size_setCell, World.size_drew, Wov_size, World.heap_drewN]; omega))))⟩
  · rw [oka] at MA
    cases okb : okZ b
    · rw [okb] at MB
      rw [minus_bad (by rw [oka, okb]; rfl)]
      unfold zlC
      unfold zoneV at MA MB ⊢
      dsimp only
      clear oka okb
      go_enter Try.func14, Try.ntmps14
      go_wp2_with (fail)
      refine (MA.out _).mono ?_; rintro e w' ⟨rfl, q1, rfl⟩
      go_wp2_with (fail)
      refine (MB.out _).mono ?_; rintro e w' ⟨rfl, q2, rfl⟩
      go_wp2
      go_returns
      exact ⟨⟨none, 0, rfl, fun _ => rfl, .inl rfl⟩, Wov_of_below (by (repeat' (first | (with_reducible assumption) | (with_reducible exact Below.refl _ _) | (with_reducible refine below_wov ?_ ?_ _) | (with_reducible refine below_drewN ?_ _) | (with_reducible refine Below.drew ?_) | (with_reducible refine Below.alloc ?_ ?_ _) | (with_reducible refine Below.setCell ?_ ?_ _) | (with_reducible exact Nat.le_refl _) | omega | (simp only [World.size_alloc, World.size_setCell, World.size_drew, Wov_size, World.heap_drewN]; omega))))⟩
    · rw [okb] at MB
      have LS : Hid (∀ r, minusZ a b = r → ∀ w, Calls Try.prog 57 #[zoneV a, zoneV b] w (zlC w r)) := fun r h w => by
        rw [← h, minus_less oka okb]; exact lessD_any a b w oka okb
      obtain ⟨⟨M, e⟩, hM⟩ : ∃ r, minusZ a b = r := ⟨_, rfl⟩
      have LS2 := Lib.hid (LS.out _ hM)
      rw [hM]
      unfold zlC at LS2 ⊢
      unfold zoneV at MA MB LS2 ⊢
      dsimp only at LS2 ⊢
      clear oka okb hM LS
      go_enter Try.func14, Try.ntmps14
      go_wp2_with (fail)
      refine (MA.out _).mono ?_; rintro e w' ⟨rfl, q1, rfl⟩
      go_wp2_with (fail)
      refine (MB.out _).mono ?_; rintro e w' ⟨rfl, q2, rfl⟩
      go_wp2_with (fail)
      refine (LS2.out _).mono ?_; rintro e w' ⟨⟨p, c, rfl, hpc, ho⟩, q3, rfl⟩
      (try simp only [drew_Wov, Wov_Wov, Array.append_assoc] at ho)
      have HO := Lib.hid ho
      clear ho
      go_wp2
      go_returns
      refine ⟨⟨p, c, rfl, hpc, ?_⟩, Wov_of_below (by (repeat' (first | (with_reducible assumption) | (with_reducible exact Below.refl _ _) | (with_reducible refine below_wov ?_ ?_ _) | (with_reducible refine below_drewN ?_ _) | (with_reducible refine Below.drew ?_) | (with_reducible refine Below.alloc ?_ ?_ _) | (with_reducible refine Below.setCell ?_ ?_ _) | (with_reducible exact Nat.le_refl _) | omega | (simp only [World.size_alloc, World.size_setCell, World.size_drew, Wov_size, World.heap_drewN]; omega))))⟩
      refine OwnZ.mono HO.out ?_
      (first | omega | ((simp only [World.size_alloc, World.size_setCell, World.size_drew, Wov_size, World.heap_drewN, Array.size_append]) <;> omega))
set_option maxRecDepth 100000 in
set_option maxHeartbeats 4000000 in
theorem leftD_any (a : Nat → Int) (p : Option Addr) (cap : Nat) (l : List (Nat → Int)) (w : World) (fa : FitsZ a) (hF : ∀ z, z ∈ l → FitsZ z) (hS : SlZ w p l) (hN : l.length ≤ 1000000) :
    Calls Try.prog 16 #[zoneV a, .slice p l.length cap] w (zlC w (leftZ a l)) := by
  have CA : Hid (∀ w, Calls Try.prog 56 #[zoneV a] w (Gives w (.bool (okZ a)))) := fun w => may8_any a w fa
  have CL : Hid (∀ t, t < l.length → ∀ w, Calls Try.prog 56 #[zoneV (nthZ l t)] w (Gives w (.bool (okZ (nthZ l t))))) := fun t ht w => may8_any _ w (hF _ (nthZ_mem ht))
  cases ha : okZ a
  · have hR : Hid (leftZ a l = ([], 8)) := by show _ = _; unfold leftZ; rw [ha]; rfl
    rw [hR.out]
    rw [ha] at CA
    unfold zlC
    unfold zoneV at CA ⊢
    dsimp only
    clear hR CL ha hS hF
    go_enter Try.func16, Try.ntmps16
    go_wp2_with (fail)
    refine (CA.out _).mono ?_; rintro e w' ⟨rfl, q1, rfl⟩
    go_wp2
    go_returns
    exact ⟨⟨none, 0, rfl, fun _ => rfl, .inl rfl⟩, Wov_of_below (by (repeat' (first | (with_reducible assumption) | (with_reducible exact Below.refl _ _) | (with_reducible refine below_wov ?_ ?_ _) | (with_reducible refine below_drewN ?_ _) | (with_reducible refine Below.drew ?_) | (with_reducible refine Below.alloc ?_ ?_ _) | (with_reducible refine Below.setCell ?_ ?_ _) | (with_reducible exact Nat.le_refl _) | omega | (simp only [World.size_alloc, World.size_setCell, World.size_drew, Wov_size, World.heap_drewN]; omega))))⟩
  · have RS : Hid (∀ r, restZ l [a] = r → (∀ i, i < l.length → okZ (nthZ l i) = true) → ∀ w, SlZ w p l → Calls Try.prog 58 #[zoneV a, .slice p l.length cap] w (zlC w r)) := fun r h hk w hs => by
      rw [← h]; exact restD_any a p cap l w ha hk hs hN
    rw [ha] at CA
    obtain ⟨⟨RL, RE⟩, hR⟩ : ∃ R, Hid (R = leftZ a l) := ⟨_, rfl⟩
    rw [← hR.out]
    unfold zlC
    unfold zoneV at CA CL ⊢
    dsimp only
    have HA := Lib.hid ha
    have HS := Lib.hid hS
    clear hS hF ha
    go_enter Try.func16, Try.ntmps16
    go_wp2_with (fail)
    refine (CA.out _).mono ?_; rintro e w' ⟨rfl, q1, rfl⟩
    go_wp2
    refine wp_world (fun W => Below w.heap.size w W ∧ BoxZ W w.heap.size a) ⟨by (repeat' (first | (with_reducible assumption) | (with_reducible exact Below.refl _ _) | (with_reducible refine below_wov ?_ ?_ _) | (with_reducible refine below_drewN ?_ _) | (with_reducible refine Below.drew ?_) | (with_reducible refine Below.alloc ?_ ?_ _) | (with_reducible refine Below.setCell ?_ ?_ _) | (with_reducible exact Nat.le_refl _) | omega | (simp only [World.size_alloc, World.size_setCell, World.size_drew, Wov_size, World.heap_drewN]; omega))), (BoxZ.new (W := w) (t := 24) (by simp)).below (by (repeat' (first | (with_reducible assumption) | (with_reducible exact Below.refl _ _) | (with_reducible refine below_wov ?_ ?_ _) | (with_reducible refine below_drewN ?_ _) | (with_reducible refine Below.drew ?_) | (with_reducible refine Below.alloc ?_ ?_ _) | (with_reducible refine Below.setCell ?_ ?_ _) | (with_reducible exact Nat.le_refl _) | omega | (simp only [World.size_alloc, World.size_setCell, World.size_drew, Wov_size, World.heap_drewN]; omega))))⟩ ?_
    rintro W1 ⟨hb1, hbox⟩
    clear CA
    have HB1 := Lib.hid hb1
    have HBX := Lib.hid hbox
    have hs1 := hb1.size
    have lx1 := hbox.lt
    clear hb1 hbox
    go_loopw [6] (fun i wr => ∃ t : Nat, t ≤ l.length ∧ i = .int .i64 t ∧ Below W1.heap.size W1 wr ∧ Hid (∀ i, i < t → okZ (nthZ l i) = true))
      (fun i _ => l.length - (intOf i).toNat)
    case atStart => exact ⟨0, by omega, rfl, Below.refl _ _, fun i hi => by omega⟩
    case round =>
      obtain ⟨t, ht, rfl, hB, hK⟩ := hrel
      have szr := hB.size
      by_cases hlt : t < l.length
      · obtain ⟨A, o, rfl, hA, hv⟩ := HS.out.resolve_left (fun h => by rw [h] at hlt; simp at hlt)
        have bw := HB1.out.trans (hB.mono hs1)
        have hlA : A < wr.heap.size := Nat.lt_of_lt_of_le hA bw.size
        obtain ⟨g0, g1, g2, g3, g4, g5⟩ := slz_cells (W := wr) (fun i j hi hj => (bw.cell (p := ⟨A, o + (i * 6 + j), none⟩) hA).trans (hv i j hi hj)) hlt
        have CK := CL.out t hlt
        obtain ⟨z, hz⟩ : ∃ z, z = nthZ l t := ⟨_, rfl⟩
        rw [← hz] at g0 g1 g2 g3 g4 g5 CK
        have HZ := Lib.hid hz
        obtain ⟨k, hk⟩ : ∃ k, k = okZ z := ⟨_, rfl⟩
        rw [← hk] at CK
        have HKK := Lib.hid hk
        clear hv CL hz hk
        have CK := Lib.hid CK
        cases k
        · have hE : Hid (RL = [] ∧ RE = 8) := by
            have h1 := hR.out
            unfold leftZ at h1
            rw [all_no hlt (by rw [← HZ.out]; exact HKK.out.symm), Bool.and_false] at h1
            have h2 : RL = [] ∧ RE = 8 := by simpa using h1
            exact h2
          have bw2 := Lib.hid bw
          clear hR HS HBX HB1 hB hK bw RS
          go_wp2_with (fail)
          refine (CK.out _).mono ?_; rintro e w' ⟨rfl, q2, rfl⟩
          obtain ⟨rfl, rfl⟩ := hE.out
          have bw := bw2.out
          clear bw2 hE CK
          go_wp2
          go_returns
          exact ⟨⟨none, 0, rfl, fun _ => rfl, .inl rfl⟩, Wov_of_below (by (repeat' (first | (with_reducible assumption) | (with_reducible exact Below.refl _ _) | (with_reducible refine below_wov ?_ ?_ _) | (with_reducible refine below_drewN ?_ _) | (with_reducible refine Below.drew ?_) | (with_reducible refine Below.alloc ?_ ?_ _) | (with_reducible refine Below.setCell ?_ ?_ _) | (with_reducible exact Nat.le_refl _) | omega | (simp only [World.size_alloc, World.size_setCell, World.size_drew, Wov_size, World.heap_drewN]; omega))))⟩
        · have hK2 : Hid (∀ i, i < t + 1 → okZ (nthZ l i) = true) := all_take hlt hK.out (by rw [← HZ.out]; exact HKK.out.symm)
          clear hK
          go_wp2_with (fail)
          refine (CK.out _).mono ?_; rintro e w' ⟨rfl, q2, rfl⟩
          go_wp2
          go_roundw
          case rel => exact ⟨t + 1, by omega, by go_num, by (repeat' (first | (with_reducible assumption) | (with_reducible exact Below.refl _ _) | (with_reducible refine below_wov ?_ ?_ _) | (with_reducible refine below_drewN ?_ _) | (with_reducible refine Below.drew ?_) | (with_reducible refine Below.alloc ?_ ?_ _) | (with_reducible refine Below.setCell ?_ ?_ _) | (with_reducible exact Nat.le_refl _) | omega | (simp only [World.size_alloc, World.size_setCell, World.size_drew, Wov_size, World.heap_drewN]; omega))), hK2⟩
          case measure => simp [intOf]; omega
      · obtain rfl : t = l.length := by omega
        have hall : restZ l [a] = (RL, RE) := by
          have h1 := hR.out
          unfold leftZ at h1
          rw [HA.out, all_ok hK.out] at h1
          exact h1.symm
        have R2 := Lib.hid (RS.out _ hall hK.out)
        unfold zlC zoneV at R2
        dsimp only at R2
        have bx := HBX.out.below hB
        have x0 := bx.c0
        have x1 := bx.c1
        have x2 := bx.c2
        have x3 := bx.c3
        have x4 := bx.c4
        have x5 := bx.c5
        have xl := bx.lt
        have HBW := Lib.hid (HB1.out.trans (hB.mono hs1))
        have SW := Lib.hid (HS.out.below HBW.out)
        have szw := HBW.out.size
        clear hR hK bx HB1 hB HBX CL ht hlt hall RS
        go_wp2_with (fail)
        refine (R2.out _ (SW.out.below (by (repeat' (first | (with_reducible assumption) | (with_reducible exact Below.refl _ _) | (with_reducible refine below_wov ?_ ?_ _) | (with_reducible refine below_drewN ?_ _) | (with_reducible refine Below.drew ?_) | (with_reducible refine Below.alloc ?_ ?_ _) | (with_reducible refine Below.setCell ?_ ?_ _) | (with_reducible exact Nat.le_refl _) | omega | (simp only [World.size_alloc, World.size_setCell, World.size_drew, Wov_size, World.heap_drewN]; omega)))))).mono ?_; rintro e w' ⟨⟨p5, c5, rfl, hpc, ho⟩, q3, rfl⟩
        have HO := Lib.hid ho
        have hbw := HBW.out
        clear ho
        go_wp2
        go_returns
        refine ⟨⟨p5, c5, rfl, hpc, ?_⟩, Wov_of_below (by (repeat' (first | (with_reducible assumption) | (with_reducible exact Below.refl _ _) | (with_reducible refine below_wov ?_ ?_ _) | (with_reducible refine below_drewN ?_ _) | (with_reducible refine Below.drew ?_) | (with_reducible refine Below.alloc ?_ ?_ _) | (with_reducible refine Below.setCell ?_ ?_ _) | (with_reducible exact Nat.le_refl _) | omega | (simp only [World.size_alloc, World.size_setCell, World.size_drew, Wov_size, World.heap_drewN]; omega))))⟩
        refine OwnZ.mono HO.out ?_
        (first | omega | ((simp only [World.size_alloc, World.size_setCell, World.size_drew, Wov_size, World.heap_drewN, Array.size_append]) <;> omega))
#print axioms minusD_any
#print axioms leftD_any
end Go.Proofs.Ytbgbhfcnadjhdaa
