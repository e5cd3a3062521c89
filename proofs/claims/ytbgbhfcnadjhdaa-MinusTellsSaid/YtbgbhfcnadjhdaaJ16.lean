/- Contract of the document's Rest of layer 11 (printed by genj16.py). No condition. -/
import Derived.Test.YtbgbhfcnadjhdaaJ15
namespace Go.Proofs.Ytbgbhfcnadjhdaa
set_option linter.unusedSimpArgs false
set_option linter.unusedVariables false
open Go Go.RowKit Go.Shelf
attribute [local go_sem] Nat.add_assoc Nat.add_lt_add_iff_left lit_lt_add

theorem minus_less {a b : Nat → Int} (ha : okZ a = true) (hb : okZ b = true) : minusZ a b = lessZ 6 0 a b [] := by unfold minusZ; rw [ha, hb]; rfl
set_option maxRecDepth 100000 in
set_option maxHeartbeats 4000000 in
theorem restD_any (a : Nat → Int) (p : Option Addr) (cap : Nat) (l : List (Nat → Int)) (w : World) (oka : okZ a = true) (okl : ∀ i, i < l.length → okZ (nthZ l i) = true) (hS : SlZ w p l) (hN : l.length ≤ 1000000) :
    Calls Try.prog 58 #[zoneV a, .slice p l.length cap] w (zlC w (restZ l [a])) := by
  obtain ⟨⟨RL, RE⟩, hR⟩ : ∃ R, Hid (restZ l [a] = R) := ⟨_, rfl⟩
  rw [hR.out]
  unfold zlC zoneV
  dsimp only
  have HA := Lib.hid oka
  have HK := Lib.hid okl
  have HS := Lib.hid hS
  clear oka okl hS
  go_enter Try.func58, Try.ntmps58
  go_wp2_with (fail)
  obtain ⟨B0, hB0⟩ : ∃ B0, w.heap.size + 1 = B0 := ⟨_, rfl⟩
  (try rw [hB0])
  refine wp_world (fun W => Below w.heap.size w W ∧ OwnZ w W (some ⟨B0, 0, none⟩) [a]) ⟨by (repeat' (first | (with_reducible assumption) | (with_reducible exact Below.refl _ _) | (with_reducible refine below_wov ?_ ?_ _) | (with_reducible refine below_drewN ?_ _) | (with_reducible refine Below.drew ?_) | (with_reducible refine Below.alloc ?_ ?_ _) | (with_reducible refine Below.setCell ?_ ?_ _) | (with_reducible exact Nat.le_refl _) | omega | (simp only [World.size_alloc, World.size_setCell, World.size_drew, Wov_size, World.heap_drewN]; omega))), ownZ_one (by rw [← hB0]; simp) (by simp)⟩ ?_
  rintro W2 ⟨hb2, ho2⟩
  have HB2 := Lib.hid hb2
  have HO2 := Lib.hid ho2
  have hs2 := hb2.size
  clear hb2 ho2 hB0
  go_loopw [6, 7] (fun v i V => ∃ (t : Nat) (O : List (Nat → Int)) (pO : Option Addr) (cO : Nat), t ≤ l.length ∧ i = .int .i64 t ∧ v = .slice pO O.length cO ∧ Below W2.heap.size W2 V ∧ O.length ≤ 4096 ∧ Hid ((pO = none → cO = 0) ∧ OwnZ w V pO O ∧ (∀ z, z ∈ O → okZ z = true) ∧ restZ (l.drop t) O = (RL, RE)))
    (fun _ i _ => l.length - (intOf i).toNat)
  case atStart => exact ⟨0, [a], _, 1, by omega, rfl, rfl, Below.refl _ _, by simp, (fun h => by cases h), HO2.out, (fun z hz => by rw [List.mem_singleton] at hz; rw [hz]; exact HA.out), hR.out⟩
  case round =>
    obtain ⟨t, O, pO, cO, ht, rfl, rfl, hB, hO, hI⟩ := hrel
    have szr := hB.size
    by_cases hlt : t < l.length
    · obtain ⟨A, o, rfl, hA, hv⟩ := HS.out.resolve_left (fun h => by rw [h] at hlt; simp at hlt)
      have bw := HB2.out.trans (hB.mono hs2)
      obtain ⟨b, hb⟩ : ∃ z, z = nthZ l t := ⟨_, rfl⟩
      have hbc : ∀ W, Below w.heap.size w W → A < W.heap.size ∧ W.cell? ⟨A, o + t * 6, none⟩ = some (.int .i64 (b 0)) ∧ W.cell? ⟨A, o + (t * 6 + 1), none⟩ = some (.int .i64 (b 1)) ∧ W.cell? ⟨A, o + (t * 6 + 2), none⟩ = some (.int .i64 (b 2)) ∧ W.cell? ⟨A, o + (t * 6 + 3), none⟩ = some (.int .i64 (b 3)) ∧ W.cell? ⟨A, o + (t * 6 + 4), none⟩ = some (.int .i64 (b 4)) ∧ W.cell? ⟨A, o + (t * 6 + 5), none⟩ = some (.int .i64 (b 5)) := fun W h => by
        rw [hb]
        exact ⟨Nat.lt_of_lt_of_le hA h.size, slz_cells (W := W) (fun i j hi hj => (h.cell (p := ⟨A, o + (i * 6 + j), none⟩) hA).trans (hv i j hi hj)) hlt⟩
      have HBC := Lib.hid hbc
      have okb : Hid (okZ b = true) := by rw [hb]; exact HK.out t hlt
      have hrest : Hid (restZ (b :: l.drop (t + 1)) O = (RL, RE)) := by
        show _ = _
        rw [hb, ← drop_nth hlt]; exact hI.out.2.2.2
      have HO := Lib.hid hI.out.2.1
      have HOK := Lib.hid hI.out.2.2.1
      have bwH := Lib.hid bw
      have t0 : (0 : Int) ≤ (t : Int) := by omega
      have t1 : (t : Int) < (l.length : Int) := by omega
      clear hv hb hI hbc
      go_wp2
      refine wp_world (fun W => Below w.heap.size w W ∧ Below W2.heap.size W2 W ∧ OwnZ w W pO O) ⟨bw, hB, HO.out⟩ ?_
      rintro X ⟨hbx, hbx2, hox⟩
      have HBX := Lib.hid hbx
      have HBX2 := Lib.hid hbx2
      have HOX := Lib.hid hox
      have hsx := hbx.size
      have hsx2 := hbx2.size
      clear hbx hbx2 hox bw HO hB szr bwH
      go_loopw [8, 9] (fun v i V => ∃ (k : Nat) (K : List (Nat → Int)) (pK : Option Addr) (cK : Nat), k ≤ O.length ∧ i = .int .i64 k ∧ v = .slice pK K.length cK ∧ Below X.heap.size X V ∧ K.length ≤ 4096 ∧ Hid (V.ownsRow X.heap.size 24 6 (.slice pK K.length cK) K.length (cellsZ K)) ∧ Hid ((pK = none → cK = 0) ∧ nextZ b (O.drop k) K = nextZ b O []))
        (fun _ i _ => O.length - (intOf i).toNat)
      case atStart => exact ⟨0, [], none, 0, by omega, rfl, rfl, Below.refl _ _, by simp, World.ownsRow_nil _ _ _ _, fun _ => rfl, rfl⟩
      case round =>
        obtain ⟨k, K, pK, cK, hk, rfl, rfl, hBx, hKl, hrow, hnx⟩ := hrel
        have szx := hBx.size
        by_cases hkl : k < O.length
        · obtain ⟨Bz, rfl, _, hBz, hvz⟩ := HOX.out.resolve_left (fun h => by rw [h] at hkl; simp at hkl)
          have hlz : Bz < wr.heap.size := by omega
          obtain ⟨g0, g1, g2, g3, g4, g5⟩ := own_cells (W := wr) (fun i j hi hj => ⟨(hBx.cell (p := ⟨Bz, i * 6 + j, none⟩) hBz).trans (hvz i j hi hj).1, (hBx.frozen (p := ⟨Bz, i * 6 + j, none⟩) hBz).trans (hvz i j hi hj).2⟩) hkl
          obtain ⟨el, e0, e1, e2, e3, e4, e5⟩ := HBC.out wr (HBX.out.trans (hBx.mono hsx))
          have hnx2 := hnx.out.2
          rw [drop_nth hkl, next_cons] at hnx2
          have okz : okZ (nthZ O k) = true := HOK.out _ (nthZ_mem hkl)
          obtain ⟨z, hz⟩ : ∃ z, z = nthZ O k := ⟨_, rfl⟩
          rw [← hz] at g0 g1 g2 g3 g4 g5 hnx2 okz
          have hM6 := minus_len z b
          have MN0 : ∀ W, Calls Try.prog 57 #[zoneV z, zoneV b] W (zlC W (minusZ z b)) := fun W => by rw [minus_less okz okb.out]; exact lessD_any z b W okz okb.out
          obtain ⟨⟨M, e⟩, hM⟩ : ∃ r, r = minusZ z b := ⟨_, rfl⟩
          rw [← hM] at MN0 hnx2 hM6
          unfold zoneV zlC at MN0
          simp only at MN0 hnx2 hM6
          have MN := Lib.hid MN0
          obtain ⟨KM, hKM⟩ : ∃ KM, KM = K ++ M := ⟨_, rfl⟩
          rw [← hKM] at hnx2
          have hlen : KM.length = K.length + M.length := by rw [hKM, List.length_append]
          have HKM := Lib.hid hKM
          have HNX := Lib.hid hnx2
          have hrest2 := hrest.out
          rw [rest_cons] at hrest2
          have HRE := Lib.hid hrest2
          have k0 : (0 : Int) ≤ (k : Int) := by omega
          have k1 : (k : Int) < (O.length : Int) := by omega
          clear hnx hnx2 hvz okz hz hM MN0 hKM hrest2
          by_cases he : e = 0
          · subst he
            by_cases hc : 4096 < KM.length
            · have hE : Hid (RL = [] ∧ RE = 4) := by
                have h1 := HNX.out
                rw [if_neg (by simp), if_pos hc] at h1
                have h2 := HRE.out
                rw [← h1] at h2
                have h3 : RL = [] ∧ RE = 4 := by simpa using h2.symm
                exact h3
              clear HRE HNX hrest HS HB2 HO2 HK HBC
              go_wp2_with (fail)
              go_region_held3 (fun w' => w'.cell? ⟨Bz, k * 6, none⟩ = some (.int .i64 (z 0)) ∧ w'.cell? ⟨Bz, k * 6 + 1, none⟩ = some (.int .i64 (z 1)) ∧ w'.cell? ⟨Bz, k * 6 + 2, none⟩ = some (.int .i64 (z 2)) ∧ w'.cell? ⟨Bz, k * 6 + 3, none⟩ = some (.int .i64 (z 3)) ∧ w'.cell? ⟨Bz, k * 6 + 4, none⟩ = some (.int .i64 (z 4)) ∧ w'.cell? ⟨Bz, k * 6 + 5, none⟩ = some (.int .i64 (z 5)) ∧ w'.cell? ⟨A, o + t * 6, none⟩ = some (.int .i64 (b 0)) ∧ w'.cell? ⟨A, o + (t * 6 + 1), none⟩ = some (.int .i64 (b 1)) ∧ w'.cell? ⟨A, o + (t * 6 + 2), none⟩ = some (.int .i64 (b 2)) ∧ w'.cell? ⟨A, o + (t * 6 + 3), none⟩ = some (.int .i64 (b 3)) ∧ w'.cell? ⟨A, o + (t * 6 + 4), none⟩ = some (.int .i64 (b 4)) ∧ w'.cell? ⟨A, o + (t * 6 + 5), none⟩ = some (.int .i64 (b 5)))
                ((simp [go_sem, *]))
                ((go_at_call 57; (refine (MN.out _).mono ?_); rintro e w' ⟨⟨pM, cM, rfl, hpc, hoM⟩, qm, rfl⟩; have hsM := Lib.hid hoM.slz; clear hoM))
              go_wp2_with (at_builtin; refine wpList_appZ _ X.heap.size rfl _ _ rfl rfl _ K M rfl (row_below hrow.out (by (repeat' (first | (with_reducible assumption) | (with_reducible exact Below.refl _ _) | (with_reducible refine below_wov ?_ ?_ _) | (with_reducible refine below_drewN ?_ _) | (with_reducible refine Below.drew ?_) | (with_reducible refine Below.alloc ?_ ?_ _) | (with_reducible refine Below.setCell ?_ ?_ _) | (with_reducible exact Nat.le_refl _) | omega | (simp only [World.size_alloc, World.size_setCell, World.size_drew, Wov_size, World.heap_drewN]; omega))))) pM cM rfl hpc hsM.out (by omega) (by (first | omega | ((simp only [World.size_alloc, World.size_setCell, World.size_drew, Wov_size, World.heap_drewN, Array.size_append]) <;> omega))) ?_; (intro v' w1 ho hg; have hgx := Lib.hid (row_grown (row_below hrow.out (by (repeat' (first | (with_reducible assumption) | (with_reducible exact Below.refl _ _) | (with_reducible refine below_wov ?_ ?_ _) | (with_reducible refine below_drewN ?_ _) | (with_reducible refine Below.drew ?_) | (with_reducible refine Below.alloc ?_ ?_ _) | (with_reducible refine Below.setCell ?_ ?_ _) | (with_reducible exact Nat.le_refl _) | omega | (simp only [World.size_alloc, World.size_setCell, World.size_drew, Wov_size, World.heap_drewN]; omega))))) (show Below X.heap.size X _ from by (repeat' (first | (with_reducible assumption) | (with_reducible exact Below.refl _ _) | (with_reducible refine below_wov ?_ ?_ _) | (with_reducible refine below_drewN ?_ _) | (with_reducible refine Below.drew ?_) | (with_reducible refine Below.alloc ?_ ?_ _) | (with_reducible refine Below.setCell ?_ ?_ _) | (with_reducible exact Nat.le_refl _) | omega | (simp only [World.size_alloc, World.size_setCell, World.size_drew, Wov_size, World.heap_drewN]; omega)))) hg (by (first | omega | ((simp only [World.size_alloc, World.size_setCell, World.size_drew, Wov_size, World.heap_drewN, Array.size_append]) <;> omega)))); obtain ⟨p', c', hv', hpc', _⟩ := ownZ_of_row (w := X) ho (Nat.le_refl _); subst hv'; rw [← HKM.out] at ho ⊢; have HO9 := Lib.hid ho; clear ho hg))
              obtain ⟨rfl, rfl⟩ := hE.out
              go_returns
              exact ⟨⟨none, 0, rfl, fun _ => rfl, .inl rfl⟩, Wov_of_below (HBX.out.trans (hgx.out.mono hsx))⟩
            · have hnx3 : Hid (nextZ b (O.drop (k + 1)) KM = nextZ b O []) := by
                show _ = _
                have h1 := HNX.out
                rwa [if_neg (by simp), if_neg hc] at h1
              clear HRE HNX
              go_wp2_with (fail)
              go_region_held3 (fun w' => w'.cell? ⟨Bz, k * 6, none⟩ = some (.int .i64 (z 0)) ∧ w'.cell? ⟨Bz, k * 6 + 1, none⟩ = some (.int .i64 (z 1)) ∧ w'.cell? ⟨Bz, k * 6 + 2, none⟩ = some (.int .i64 (z 2)) ∧ w'.cell? ⟨Bz, k * 6 + 3, none⟩ = some (.int .i64 (z 3)) ∧ w'.cell? ⟨Bz, k * 6 + 4, none⟩ = some (.int .i64 (z 4)) ∧ w'.cell? ⟨Bz, k * 6 + 5, none⟩ = some (.int .i64 (z 5)) ∧ w'.cell? ⟨A, o + t * 6, none⟩ = some (.int .i64 (b 0)) ∧ w'.cell? ⟨A, o + (t * 6 + 1), none⟩ = some (.int .i64 (b 1)) ∧ w'.cell? ⟨A, o + (t * 6 + 2), none⟩ = some (.int .i64 (b 2)) ∧ w'.cell? ⟨A, o + (t * 6 + 3), none⟩ = some (.int .i64 (b 3)) ∧ w'.cell? ⟨A, o + (t * 6 + 4), none⟩ = some (.int .i64 (b 4)) ∧ w'.cell? ⟨A, o + (t * 6 + 5), none⟩ = some (.int .i64 (b 5)))
                ((simp [go_sem, *]))
                ((go_at_call 57; (refine (MN.out _).mono ?_); rintro e w' ⟨⟨pM, cM, rfl, hpc, hoM⟩, qm, rfl⟩; have hsM := Lib.hid hoM.slz; clear hoM))
              go_wp2_with (at_builtin; refine wpList_appZ _ X.heap.size rfl _ _ rfl rfl _ K M rfl (row_below hrow.out (by (repeat' (first | (with_reducible assumption) | (with_reducible exact Below.refl _ _) | (with_reducible refine below_wov ?_ ?_ _) | (with_reducible refine below_drewN ?_ _) | (with_reducible refine Below.drew ?_) | (with_reducible refine Below.alloc ?_ ?_ _) | (with_reducible refine Below.setCell ?_ ?_ _) | (with_reducible exact Nat.le_refl _) | omega | (simp only [World.size_alloc, World.size_setCell, World.size_drew, Wov_size, World.heap_drewN]; omega))))) pM cM rfl hpc hsM.out (by omega) (by (first | omega | ((simp only [World.size_alloc, World.size_setCell, World.size_drew, Wov_size, World.heap_drewN, Array.size_append]) <;> omega))) ?_; (intro v' w1 ho hg; have hgx := Lib.hid (row_grown (row_below hrow.out (by (repeat' (first | (with_reducible assumption) | (with_reducible exact Below.refl _ _) | (with_reducible refine below_wov ?_ ?_ _) | (with_reducible refine below_drewN ?_ _) | (with_reducible refine Below.drew ?_) | (with_reducible refine Below.alloc ?_ ?_ _) | (with_reducible refine Below.setCell ?_ ?_ _) | (with_reducible exact Nat.le_refl _) | omega | (simp only [World.size_alloc, World.size_setCell, World.size_drew, Wov_size, World.heap_drewN]; omega))))) (show Below X.heap.size X _ from by (repeat' (first | (with_reducible assumption) | (with_reducible exact Below.refl _ _) | (with_reducible refine below_wov ?_ ?_ _) | (with_reducible refine below_drewN ?_ _) | (with_reducible refine Below.drew ?_) | (with_reducible refine Below.alloc ?_ ?_ _) | (with_reducible refine Below.setCell ?_ ?_ _) | (with_reducible exact Nat.le_refl _) | omega | (simp only [World.size_alloc, World.size_setCell, World.size_drew, Wov_size, World.heap_drewN]; omega)))) hg (by (first | omega | ((simp only [World.size_alloc, World.size_setCell, World.size_drew, Wov_size, World.heap_drewN, Array.size_append]) <;> omega)))); obtain ⟨p', c', hv', hpc', _⟩ := ownZ_of_row (w := X) ho (Nat.le_refl _); subst hv'; rw [← HKM.out] at ho ⊢; have HO9 := Lib.hid ho; clear ho hg))
              go_roundw
              case rel => exact ⟨k + 1, KM, p', c', by omega, by go_num, by rw [hlen], hgx.out, by omega, HO9.out, hpc', hnx3.out⟩
              case measure => simp [intOf]; omega
          · have hE : Hid (RL = [] ∧ RE = e) := by
              have h1 := HNX.out
              rw [if_pos he] at h1
              have h2 := HRE.out
              rw [← h1, if_pos he] at h2
              have h3 : RL = [] ∧ RE = e := by
                simp only [Prod.mk.injEq] at h2
                exact ⟨h2.1.symm, h2.2.symm⟩
              exact h3
            have hbe : (e != 0) = true := by rw [bne_iff_ne]; exact he
            clear HRE HNX hrest HS HB2 HO2 HK HBC
            go_wp2_with (fail)
            go_region_held3 (fun w' => w'.cell? ⟨Bz, k * 6, none⟩ = some (.int .i64 (z 0)) ∧ w'.cell? ⟨Bz, k * 6 + 1, none⟩ = some (.int .i64 (z 1)) ∧ w'.cell? ⟨Bz, k * 6 + 2, none⟩ = some (.int .i64 (z 2)) ∧ w'.cell? ⟨Bz, k * 6 + 3, none⟩ = some (.int .i64 (z 3)) ∧ w'.cell? ⟨Bz, k * 6 + 4, none⟩ = some (.int .i64 (z 4)) ∧ w'.cell? ⟨Bz, k * 6 + 5, none⟩ = some (.int .i64 (z 5)) ∧ w'.cell? ⟨A, o + t * 6, none⟩ = some (.int .i64 (b 0)) ∧ w'.cell? ⟨A, o + (t * 6 + 1), none⟩ = some (.int .i64 (b 1)) ∧ w'.cell? ⟨A, o + (t * 6 + 2), none⟩ = some (.int .i64 (b 2)) ∧ w'.cell? ⟨A, o + (t * 6 + 3), none⟩ = some (.int .i64 (b 3)) ∧ w'.cell? ⟨A, o + (t * 6 + 4), none⟩ = some (.int .i64 (b 4)) ∧ w'.cell? ⟨A, o + (t * 6 + 5), none⟩ = some (.int .i64 (b 5)))
              ((simp [go_sem, *]))
              ((go_at_call 57; (refine (MN.out _).mono ?_); rintro e w' ⟨⟨pM, cM, rfl, hpc, hoM⟩, qm, rfl⟩; have hsM := Lib.hid hoM.slz; clear hoM))
            go_wp2
            obtain ⟨rfl, rfl⟩ := hE.out
            go_returns
            exact ⟨⟨none, 0, rfl, fun _ => rfl, .inl rfl⟩, Wov_of_below (HBX.out.trans (Below.mono (show Below X.heap.size X _ from by (repeat' (first | (with_reducible assumption) | (with_reducible exact Below.refl _ _) | (with_reducible refine below_wov ?_ ?_ _) | (with_reducible refine below_drewN ?_ _) | (with_reducible refine Below.drew ?_) | (with_reducible refine Below.alloc ?_ ?_ _) | (with_reducible refine Below.setCell ?_ ?_ _) | (with_reducible exact Nat.le_refl _) | omega | (simp only [World.size_alloc, World.size_setCell, World.size_drew, Wov_size, World.heap_drewN]; omega)))) hsx))⟩
        · obtain rfl : k = O.length := by omega
          have hfin : Hid (nextZ b O [] = (K, 0)) := by
            show _ = _
            have h1 := hnx.out.2
            rw [List.drop_length] at h1
            exact h1.symm
          have hrest2 : Hid (restZ (l.drop (t + 1)) K = (RL, RE)) := by
            show _ = _
            have h1 := hrest.out
            rw [rest_cons, hfin.out, if_neg (by simp)] at h1
            exact h1
          have hokK : Hid (∀ z, z ∈ K → okZ z = true) := by
            obtain ⟨f1, f2, _⟩ := next_ok O [] K hfin.out
            rw [List.nil_append] at f1
            rw [f1]
            exact flat_okZ O f2
          have hown : Hid ((pK = none → cK = 0) ∧ OwnZ w wr pK K) := by
            obtain ⟨p2, c2, e2, e3, e4⟩ := ownZ_of_row (w := w) hrow.out hsx
            simp only [Value.slice.injEq] at e2
            obtain ⟨rfl, _, rfl⟩ := e2
            exact ⟨e3, e4⟩
          have hB4 := Lib.hid (HBX2.out.trans (hBx.mono hsx2))
          clear hrow hnx hrest hfin
          go_wp2
          go_roundw
          case rel => exact ⟨t + 1, K, pK, cK, by omega, by go_num, rfl, hB4.out, hKl, hown.out.1, hown.out.2, hokK.out, hrest2.out⟩
          case measure => simp [intOf]; omega
    · obtain rfl : t = l.length := by omega
      have hE : Hid (RL = O ∧ RE = 0) := by
        have h1 := hI.out.2.2.2
        rw [List.drop_length] at h1
        have h2 : (O, (0 : Int)) = (RL, RE) := h1
        simp only [Prod.mk.injEq] at h2
        exact ⟨h2.1.symm, h2.2.symm⟩
      have hO1 := Lib.hid hI.out.1
      have hO2 := Lib.hid hI.out.2.1
      have HB3 := Lib.hid (HB2.out.trans (hB.mono hs2))
      clear hI HS HB2 HO2 HK
      obtain ⟨rfl, rfl⟩ := hE.out
      go_wp2
      go_returns
      exact ⟨⟨pO, cO, rfl, hO1.out, hO2.out⟩, Wov_of_below HB3.out⟩
#print axioms restD_any
end Go.Proofs.Ytbgbhfcnadjhdaa
