/- seg.Print. No condition but on sizes, and what some package variables hold. -/
import Derived.Test.YtccbhblklhmcpaaGreatDoorQ32
namespace Go.Proofs.YtccbhblklhmcpaaGreatDoor
set_option linter.unusedSimpArgs false
set_option linter.unusedVariables false
open Go Go.RowKit Go.Shelf
attribute [local go_sem] Nat.add_assoc Nat.add_lt_add_iff_left lit_lt_add

set_option maxRecDepth 10000 in
set_option maxHeartbeats 400000 in
theorem print_any (W : World) (q p : Option Addr) (c cl : Nat) (N : List (List UInt8)) (L : List Sg) (hQ : SlS W q N) (hS : SlK sgD W p L) (hL : Laid W) (hN : N.length ≤ 100000) (hX : ∀ x, x ∈ N → x.length ≤ 140737488355328) (h8 : ∀ s, s ∈ L → s.2 < 256) (hf : ∀ s, s ∈ L → -9223372036854775808 ≤ s.1 ∧ s.1 ≤ 9223372036854775807) (hLn : L.length ≤ 100000) :
    Calls Tryz.prog 7 #[.slice q N.length c, .slice p L.length cl] W (fun e W' => e = .returned (.tuple #[.string (bs (printS N L).1), .int .i64 (printS N L).2]) ∧ Below W.heap.size W W') := by
  have NM := Lib.hid (tnames_any q c N W hQ hL hN hX)
  by_cases hm : mayNames N = true
  · rw [if_pos hm] at NM
    obtain ⟨h8N, hxN⟩ := mayNames_len hm
    have CK : Hid (∀ W', Below W.heap.size W W' → Calls Tryz.prog 12 #[.int .i64 N.length, .slice p L.length cl] W' (Gives W' (.int .i64 (checkS N.length L)))) := fun W' h => segChecked_any W' p cl N.length L (hS.below h) h8N h8 hf hLn
    by_cases hk : checkS N.length L = 0
    · have e : printS N L = (Lib.join (L.map (segT N)) [59], 0) := by unfold printS; rw [if_neg (by rw [hm]; simp), if_neg (by rw [hk]; simp)]
      rw [e]
      rw [hk] at CK
      have HMAY := Lib.hid hm
      have HQ := Lib.hid hQ
      have HS := Lib.hid hS
      have HLD := Lib.hid hL
      have HF := Lib.hid hf
      have H8 := Lib.hid h8
      have hXN := Lib.hid hxN
      have JL : Hid (∀ W' v, Below W.heap.size W W' → RowK strD W.heap.size W' v (L.map (segT N)) → ∃ pp cc, v = .slice pp L.length cc ∧ Calls Tryz.prog 17 #[v, .string ⟨#[59]⟩] W' (Gives W' (.string (bs (Lib.join (L.map (segT N)) [59]))))) := fun W' v h1 h2 => by
        obtain ⟨pp, cc, rfl, h3, _, h4⟩ := RowK.sl strD_ok h2
        refine ⟨pp, cc, by rw [List.length_map], join_any pp _ cc [59] W' h4 h3 ?_ (by rw [List.length_map]; omega)⟩
        have := join_le [59] 200 (L.map (segT N)) fun x hx => by
          obtain ⟨s, hs, rfl⟩ := List.mem_map.1 hx
          have h1 := hf s hs
          have h2 := Lib.itoa_length_le s.1 h1.1 h1.2
          have h3 := onJoin_len hm s.2 N.length h8N
          rw [onTo_all] at h3
          unfold segT
          split <;> simp only [List.length_append, List.length_cons, List.length_nil] <;> omega
        rw [List.length_map] at this
        have h5 : L.length * (200 + [(59 : UInt8)].length) ≤ 100000 * 201 := Nat.mul_le_mul hLn (Nat.le_refl _)
        omega
      obtain ⟨m, hm2⟩ : ∃ m, m = L.length := ⟨_, rfl⟩
      obtain ⟨n, hn⟩ : ∃ n, n = N.length := ⟨_, rfl⟩
      obtain ⟨J, hJ⟩ : ∃ J, J = bs (Lib.join (L.map (segT N)) [59]) := ⟨_, rfl⟩
      rw [← hm2] at CK hLn ⊢
      rw [← hn] at CK NM h8N ⊢
      rw [← hJ] at JL ⊢
      have Hm := Lib.hid hm2
      have Hn := Lib.hid hn
      rw [← hm2] at JL
      clear hQ hS hL hX h8 hf hm hxN e hk hm2 hn hJ hN
      go_enter Tryz.func7, Tryz.ntmps7
      go_wp2_with (fail)
      refine NM.out.mono ?_; rintro e w' ⟨rfl, q1, rfl⟩
      go_wp2_with (fail)
      refine (CK.out _ (by (repeat' (first | (with_reducible assumption) | (with_reducible exact Below.refl _ _) | (with_reducible refine below_wov ?_ ?_ _) | (with_reducible refine below_drewN ?_ _) | (with_reducible refine Below.drew ?_) | (with_reducible refine Below.alloc ?_ ?_ _) | (with_reducible refine Below.setCell ?_ ?_ _) | (with_reducible exact Nat.le_refl _) | omega | (simp only [World.size_alloc, World.size_setCell, World.size_drew, Wov_size, World.heap_drewN]; omega))))).mono ?_; rintro e w' ⟨rfl, q2, rfl⟩
      go_wp2_with (fail)
      go_loopw [8, 28] (fun s8 s28 wr => ∃ i : Nat, s28 = .int .i64 i ∧ i ≤ m ∧ Below W.heap.size W wr ∧ Hid (RowK strD W.heap.size wr s8 ((L.take i).map (segT N)))) (fun _ s28 _ => m - (intOf s28).toNat)
      case atStart => exact ⟨0, rfl, Nat.zero_le _, by (repeat' (first | (with_reducible assumption) | (with_reducible exact Below.refl _ _) | (with_reducible refine below_wov ?_ ?_ _) | (with_reducible refine below_drewN ?_ _) | (with_reducible refine Below.drew ?_) | (with_reducible refine Below.alloc ?_ ?_ _) | (with_reducible refine Below.setCell ?_ ?_ _) | (with_reducible exact Nat.le_refl _) | omega | (simp only [World.size_alloc, World.size_setCell, World.size_drew, Wov_size, World.heap_drewN]; omega))), RowK.nil _ _⟩
      case round =>
        obtain ⟨i, rfl, hin, hBw, hR⟩ := hrel
        have szr := hBw.size
        by_cases hlt : i < m
        · have hil : i < L.length := by rw [← Hm.out]; exact hlt
          obtain ⟨A, o, rfl, hA, hv⟩ := HS.out.seg.resolve_left (fun h => by rw [h] at hil; simp at hil)
          obtain ⟨y, hy⟩ : ∃ y, L[i]? = some y := ⟨_, List.getElem?_eq_getElem hil⟩
          have cy0 := (hBw.cell (p := ⟨A, o + i * 2, none⟩) hA).trans (hv i y hy).1
          have cy1 := (hBw.cell (p := ⟨A, o + (i * 2 + 1), none⟩) hA).trans (hv i y hy).2
          have hA' : A < wr.heap.size := Nat.lt_of_lt_of_le hA szr
          have j0 : (0 : Int) ≤ (i : Int) := by omega
          have j1 : (i : Int) < (m : Int) := by omega
          have HY := Lib.hid hy
          have y8 := H8.out y (List.mem_of_getElem? hy)
          have yf := HF.out y (List.mem_of_getElem? hy)
          obtain ⟨ya, hya⟩ : ∃ ya, ya = y.1 := ⟨_, rfl⟩
          obtain ⟨yb, hyb⟩ : ∃ yb, yb = y.2 := ⟨_, rfl⟩
          rw [← hya] at cy0 yf
          rw [← hyb] at cy1 y8
          have HYA := Lib.hid hya
          have HYB := Lib.hid hyb
          clear hv hy hya hyb
          obtain ⟨z, hz⟩ : ∃ z, z = wr.heap.size := ⟨_, rfl⟩
          have HZ := Lib.hid hz
          have HBw := Lib.hid hBw
          clear hz
          go_wp2_with (fail)
          go_loopw [11, 34] (fun s11 s34 ww => ∃ k : Nat, s34 = .int .i64 k ∧ k ≤ n ∧ Below wr.heap.size wr ww ∧ z + 1 ≤ ww.heap.size ∧ ww.cell? ⟨wr.heap.size, 0, none⟩ = some (.int .i64 ya) ∧ ww.cell? ⟨wr.heap.size, 1, none⟩ = some (.int .u8 yb) ∧ Hid (RowK strD (z + 1) ww s11 (onTo N yb k))) (fun _ s34 _ => n - (intOf s34).toNat)
          case atStart => exact ⟨0, rfl, Nat.zero_le _, by (repeat' (first | (with_reducible assumption) | (with_reducible exact Below.refl _ _) | (with_reducible refine below_wov ?_ ?_ _) | (with_reducible refine below_drewN ?_ _) | (with_reducible refine Below.drew ?_) | (with_reducible refine Below.alloc ?_ ?_ _) | (with_reducible refine Below.setCell ?_ ?_ _) | (with_reducible exact Nat.le_refl _) | omega | (simp only [World.size_alloc, World.size_setCell, World.size_drew, Wov_size, World.heap_drewN]; omega))), by simp [HZ.out], by simp [go_sem], by simp [go_sem], RowK.nil _ _⟩
          case round =>
            obtain ⟨k, rfl, hkn, hBi, hsi, b0, b1, hRi⟩ := hrel
            by_cases hkl : k < n
            · have hkl' : k < N.length := by rw [← Hn.out]; exact hkl
              obtain ⟨Aq, oq, rfl, hAq, hvq⟩ := HQ.out.get.resolve_left (fun h => by rw [h] at hkl'; simp at hkl')
              obtain ⟨x, hx⟩ : ∃ x, N[k]? = some x := ⟨_, List.getElem?_eq_getElem hkl'⟩
              have cx := (hBi.cell (p := ⟨Aq, oq + k, none⟩) (Nat.lt_of_lt_of_le hAq szr)).trans ((hBw.cell (p := ⟨Aq, oq + k, none⟩) hAq).trans (hvq k x hx))
              have k0 : (0 : Int) ≤ (k : Int) := by omega
              have k1 : (k : Int) < (n : Int) := by omega
              have HX := Lib.hid hx
              clear hvq hx hkl'
              cases hb : yb.testBit k
              · have h2 := hRi.out
                rw [← onTo_no hb] at h2
                have HRN := Lib.hid h2
                clear h2 hRi
                have hbt := bit_test (on := yb) (k := k) y8 (by omega)
                rw [hb, if_neg (by decide)] at hbt
                go_wp2_with (fail)
                go_roundw
                case rel => exact ⟨k + 1, by go_num, hkl, hBi, hsi, b0, b1, HRN⟩
                case measure => simp [intOf]; omega
              · have hbt := bit_test (on := yb) (k := k) y8 (by omega)
                rw [hb, if_pos rfl] at hbt
                have hln := onTo_len N yb k
                have HX1 := HX.out
                have HB := Lib.hid hb
                clear hb
                go_wp2_with (at_builtin; go_loud (refine wpList_appK strD_ok _ (z + 1) rfl (.tmp 45) (.tmp 47) rfl rfl _ (onTo N yb k) [x] rfl (hRi.out.below (by (repeat' (first | (with_reducible assumption) | (with_reducible exact Below.refl _ _) | (with_reducible refine below_wov ?_ ?_ _) | (with_reducible refine below_drewN ?_ _) | (with_reducible refine Below.drew ?_) | (with_reducible refine Below.alloc ?_ ?_ _) | (with_reducible refine Below.setCell ?_ ?_ _) | (with_reducible exact Nat.le_refl _) | omega | (simp only [World.size_alloc, World.size_setCell, World.size_drew, Wov_size, World.heap_drewN]; omega))))) (some ⟨_, 0, none⟩) 1 rfl (by intro h; cases h) (SlS.one (by (first | omega | ((simp only [World.size_alloc, World.size_setCell, World.size_drew, Wov_size, World.heap_drewN, Array.size_append]) <;> omega))) (by simp [go_sem])) (by simp; omega) (by (first | omega | ((simp only [World.size_alloc, World.size_setCell, World.size_drew, Wov_size, World.heap_drewN, Array.size_append]) <;> omega))) ?_); go_loud (intro v1 w1 ho1 hg1; have hB1 := Lib.hid (RowK.grown (hRi.out.below (by (repeat' (first | (with_reducible assumption) | (with_reducible exact Below.refl _ _) | (with_reducible refine below_wov ?_ ?_ _) | (with_reducible refine below_drewN ?_ _) | (with_reducible refine Below.drew ?_) | (with_reducible refine Below.alloc ?_ ?_ _) | (with_reducible refine Below.setCell ?_ ?_ _) | (with_reducible exact Nat.le_refl _) | omega | (simp only [World.size_alloc, World.size_setCell, World.size_drew, Wov_size, World.heap_drewN]; omega))))) (Below.mono (show Below wr.heap.size wr _ by (repeat' (first | (with_reducible assumption) | (with_reducible exact Below.refl _ _) | (with_reducible refine below_wov ?_ ?_ _) | (with_reducible refine below_drewN ?_ _) | (with_reducible refine Below.drew ?_) | (with_reducible refine Below.alloc ?_ ?_ _) | (with_reducible refine Below.setCell ?_ ?_ _) | (with_reducible exact Nat.le_refl _) | omega | (simp only [World.size_alloc, World.size_setCell, World.size_drew, Wov_size, World.heap_drewN]; omega)))) hsi) hg1 (by simp; omega)); have HO1 := Lib.hid ho1; clear ho1 hg1))
                go_roundw
                case rel =>
                  have ho := HO1.out
                  rw [← onTo_yes HX.out HB.out] at ho
                  have hz1 := hB1.out.size
                  refine ⟨k + 1, by go_num, hkl, hBi.trans (hB1.out.mono (by rw [← HZ.out]; omega)), by omega, ?_, ?_, ho⟩
                  · exact (hB1.out.cell (by rw [← HZ.out]; exact Nat.lt_succ_self _)).trans b0
                  · exact (hB1.out.cell (by rw [← HZ.out]; exact Nat.lt_succ_self _)).trans b1
                case measure => simp [intOf]; omega
            · obtain rfl : k = n := by omega
              have h2 := hRi.out
              rw [Hn.out, onTo_all] at h2
              have HRN := Lib.hid h2
              clear h2 hRi
              have HB3 := Lib.hid (HBw.out.trans (hBi.mono szr))
              have HRO := Lib.hid (RowK.below hR.out hBi)
              have szw : W.heap.size ≤ wr.heap.size := HB3.out.size
              have IT : Hid (∀ W', Below wr.heap.size wr W' → Calls Tryz.prog 16 #[.int .i64 ya] W' (Gives W' (.string (bs (Lib.itoa ya))))) := fun W' h => itoa_any ya yf.1 yf.2 W' ((HLD.out.below HB3.out).below h).tab
              obtain ⟨pp, cc, rfl, hcc, _, hsl⟩ := RowK.sl strD_ok HRN.out
              obtain ⟨P, hP⟩ : ∃ P, P = (L.take i).map (segT N) := ⟨_, rfl⟩
              obtain ⟨X, hX⟩ : ∃ X, X = segT N y := ⟨_, rfl⟩
              have HTK : Hid ((L.take (i + 1)).map (segT N) = P ++ [X]) := by
                show _ = _
                rw [hP, hX, List.take_add_one, HY.out, List.map_append]; rfl
              have hPl : P.length ≤ i := by rw [hP, List.length_map, List.length_take]; omega
              rw [← hP] at HRO
              have hXe : X = Lib.itoa ya ++ 58 :: (if onNames N yb = [] then [45] else Lib.join (onNames N yb) [44]) := by rw [hX, HYA.out, HYB.out]; rfl
              clear hR hBw hP hX
              by_cases hon : onNames N yb = []
              · rw [if_pos hon] at hXe
                have JN : Hid (∀ W' A, A < W'.heap.size → W'.cell? ⟨A, 0, none⟩ = some (.string ⟨#[45]⟩) → Calls Tryz.prog 17 #[.slice (some ⟨A, 0, none⟩) 1 1, .string ⟨#[44]⟩] W' (Gives W' (.string ⟨#[45]⟩))) := fun W' A h1 h2 => by
                  have := join_any (some ⟨A, 0, none⟩) [[45]] 1 [44] W' (SlS.one h1 h2) (by simp) (by rw [Lib.join_one]; simp) (by simp)
                  rw [Lib.join_one] at this
                  exact this
                have eX : bs (Lib.itoa ya) ++ ⟨#[58]⟩ ++ ⟨#[45]⟩ = bs X := by
                  rw [hXe, show (⟨#[58]⟩ : ByteArray) = bs [58] from rfl, show (⟨#[45]⟩ : ByteArray) = bs [45] from rfl, bs_app, bs_app]; congr 1; simp
                rw [hon] at HRN ⊢
                obtain ⟨T1, hT1⟩ : ∃ T1, T1 = bs (Lib.itoa ya) := ⟨_, rfl⟩
                rw [← hT1] at IT eX
                have hs1 : T1.size ≤ 21 := by rw [hT1, bs_size]; exact Lib.itoa_length_le ya yf.1 yf.2
                have hc1 : (ByteArray.mk #[58]).size = 1 := rfl
                have hc2 : (ByteArray.mk #[45]).size = 1 := rfl
                have hs2 : (T1 ++ ByteArray.mk #[58]).size ≤ 22 := by rw [ByteArray.size_append, hc1]; omega
                clear hXe hon hcc hsl hT1
                simp only [List.length_nil]
                go_wp2_with (fail)
                refine (IT.out _ (by (repeat' (first | (with_reducible assumption) | (with_reducible exact Below.refl _ _) | (with_reducible refine below_wov ?_ ?_ _) | (with_reducible refine below_drewN ?_ _) | (with_reducible refine Below.drew ?_) | (with_reducible refine Below.alloc ?_ ?_ _) | (with_reducible refine Below.setCell ?_ ?_ _) | (with_reducible exact Nat.le_refl _) | omega | (simp only [World.size_alloc, World.size_setCell, World.size_drew, Wov_size, World.heap_drewN]; omega))))).mono ?_; rintro e w' ⟨rfl, q3, rfl⟩
                go_wp2_with (fail)
                refine (JN.out _ _ (by (first | omega | ((simp only [World.size_alloc, World.size_setCell, World.size_drew, Wov_size, World.heap_drewN, Array.size_append]) <;> omega))) (by simp [go_sem])).mono ?_; rintro e w' ⟨rfl, q4, rfl⟩
                go_wp2_with (at_builtin; go_loud (refine wpList_appK strD_ok _ W.heap.size rfl (.tmp 54) (.tmp 62) rfl rfl _ P [X] rfl (HRO.out.below (by (repeat' (first | (with_reducible assumption) | (with_reducible exact Below.refl _ _) | (with_reducible refine below_wov ?_ ?_ _) | (with_reducible refine below_drewN ?_ _) | (with_reducible refine Below.drew ?_) | (with_reducible refine Below.alloc ?_ ?_ _) | (with_reducible refine Below.setCell ?_ ?_ _) | (with_reducible exact Nat.le_refl _) | omega | (simp only [World.size_alloc, World.size_setCell, World.size_drew, Wov_size, World.heap_drewN]; omega))))) (some ⟨_, 0, none⟩) 1 rfl (by intro h; cases h) (SlS.one (by (first | omega | ((simp only [World.size_alloc, World.size_setCell, World.size_drew, Wov_size, World.heap_drewN, Array.size_append]) <;> omega))) (by simp [go_sem, eX])) (by simp; omega) (by (first | omega | ((simp only [World.size_alloc, World.size_setCell, World.size_drew, Wov_size, World.heap_drewN, Array.size_append]) <;> omega))) ?_); go_loud (intro v1 w1 ho1 hg1; have hB1 := Lib.hid (RowK.grown (HRO.out.below (show Below wr.heap.size wr _ by (repeat' (first | (with_reducible assumption) | (with_reducible exact Below.refl _ _) | (with_reducible refine below_wov ?_ ?_ _) | (with_reducible refine below_drewN ?_ _) | (with_reducible refine Below.drew ?_) | (with_reducible refine Below.alloc ?_ ?_ _) | (with_reducible refine Below.setCell ?_ ?_ _) | (with_reducible exact Nat.le_refl _) | omega | (simp only [World.size_alloc, World.size_setCell, World.size_drew, Wov_size, World.heap_drewN]; omega))))) (HB3.out.trans (Below.mono (show Below wr.heap.size wr _ by (repeat' (first | (with_reducible assumption) | (with_reducible exact Below.refl _ _) | (with_reducible refine below_wov ?_ ?_ _) | (with_reducible refine below_drewN ?_ _) | (with_reducible refine Below.drew ?_) | (with_reducible refine Below.alloc ?_ ?_ _) | (with_reducible refine Below.setCell ?_ ?_ _) | (with_reducible exact Nat.le_refl _) | omega | (simp only [World.size_alloc, World.size_setCell, World.size_drew, Wov_size, World.heap_drewN]; omega)))) HB3.out.size)) hg1 (by (first | omega | ((simp only [World.size_alloc, World.size_setCell, World.size_drew, Wov_size, World.heap_drewN, Array.size_append]) <;> omega)))); have HO1 := Lib.hid ho1; clear ho1 hg1))
                go_roundw
                case rel =>
                  have ho := HO1.out
                  rw [← HTK.out] at ho
                  exact ⟨i + 1, by go_num, hlt, hB1.out, ho⟩
                case measure => simp [intOf]; omega
              · rw [if_neg hon] at hXe
                have JN : Hid (∀ W', Below wr.heap.size wr W' → Calls Tryz.prog 17 #[.slice pp (onNames N yb).length cc, .string ⟨#[44]⟩] W' (Gives W' (.string (bs (Lib.join (onNames N yb) [44]))))) := fun W' h =>
                  join_any pp _ cc [44] W' (hsl.below h) hcc (by have := onJoin_len HMAY.out yb N.length (by rw [← Hn.out]; exact h8N); rw [onTo_all] at this; omega) (by have := onTo_len N yb N.length; rw [onTo_all, ← Hn.out] at this; omega)
                have eX : bs (Lib.itoa ya) ++ ⟨#[58]⟩ ++ bs (Lib.join (onNames N yb) [44]) = bs X := by
                  rw [hXe, show (⟨#[58]⟩ : ByteArray) = bs [58] from rfl, bs_app, bs_app]; congr 1; simp
                have hl0 : ¬ ((onNames N yb).length : Int) = 0 := fun h => hon (List.length_eq_zero_iff.1 (by omega))
                obtain ⟨T1, hT1⟩ : ∃ T1, T1 = bs (Lib.itoa ya) := ⟨_, rfl⟩
                rw [← hT1] at IT eX
                obtain ⟨T2, hT2⟩ : ∃ T2, T2 = bs (Lib.join (onNames N yb) [44]) := ⟨_, rfl⟩
                rw [← hT2] at JN eX
                have hs1 : T1.size ≤ 21 := by rw [hT1, bs_size]; exact Lib.itoa_length_le ya yf.1 yf.2
                have hc1 : (ByteArray.mk #[58]).size = 1 := rfl
                have hs3 : T2.size ≤ 72 := by rw [hT2, bs_size, ← onTo_all]; exact onJoin_len HMAY.out yb N.length (by rw [← Hn.out]; exact h8N)
                have hs2 : (T1 ++ ByteArray.mk #[58]).size ≤ 22 := by rw [ByteArray.size_append, hc1]; omega
                obtain ⟨l, hl⟩ : ∃ l, l = (onNames N yb).length := ⟨_, rfl⟩
                rw [← hl] at JN hl0 ⊢
                clear hXe hon hcc hsl hT1 hT2 hl
                go_wp2_with (fail)
                refine (IT.out _ (by (repeat' (first | (with_reducible assumption) | (with_reducible exact Below.refl _ _) | (with_reducible refine below_wov ?_ ?_ _) | (with_reducible refine below_drewN ?_ _) | (with_reducible refine Below.drew ?_) | (with_reducible refine Below.alloc ?_ ?_ _) | (with_reducible refine Below.setCell ?_ ?_ _) | (with_reducible exact Nat.le_refl _) | omega | (simp only [World.size_alloc, World.size_setCell, World.size_drew, Wov_size, World.heap_drewN]; omega))))).mono ?_; rintro e w' ⟨rfl, q3, rfl⟩
                go_wp2_with (fail)
                refine (JN.out _ (by (repeat' (first | (with_reducible assumption) | (with_reducible exact Below.refl _ _) | (with_reducible refine below_wov ?_ ?_ _) | (with_reducible refine below_drewN ?_ _) | (with_reducible refine Below.drew ?_) | (with_reducible refine Below.alloc ?_ ?_ _) | (with_reducible refine Below.setCell ?_ ?_ _) | (with_reducible exact Nat.le_refl _) | omega | (simp only [World.size_alloc, World.size_setCell, World.size_drew, Wov_size, World.heap_drewN]; omega))))).mono ?_; rintro e w' ⟨rfl, q4, rfl⟩
                go_wp2_with (at_builtin; go_loud (refine wpList_appK strD_ok _ W.heap.size rfl (.tmp 54) (.tmp 62) rfl rfl _ P [X] rfl (HRO.out.below (by (repeat' (first | (with_reducible assumption) | (with_reducible exact Below.refl _ _) | (with_reducible refine below_wov ?_ ?_ _) | (with_reducible refine below_drewN ?_ _) | (with_reducible refine Below.drew ?_) | (with_reducible refine Below.alloc ?_ ?_ _) | (with_reducible refine Below.setCell ?_ ?_ _) | (with_reducible exact Nat.le_refl _) | omega | (simp only [World.size_alloc, World.size_setCell, World.size_drew, Wov_size, World.heap_drewN]; omega))))) (some ⟨_, 0, none⟩) 1 rfl (by intro h; cases h) (SlS.one (by (first | omega | ((simp only [World.size_alloc, World.size_setCell, World.size_drew, Wov_size, World.heap_drewN, Array.size_append]) <;> omega))) (by simp [go_sem, eX])) (by simp; omega) (by (first | omega | ((simp only [World.size_alloc, World.size_setCell, World.size_drew, Wov_size, World.heap_drewN, Array.size_append]) <;> omega))) ?_); go_loud (intro v1 w1 ho1 hg1; have hB1 := Lib.hid (RowK.grown (HRO.out.below (show Below wr.heap.size wr _ by (repeat' (first | (with_reducible assumption) | (with_reducible exact Below.refl _ _) | (with_reducible refine below_wov ?_ ?_ _) | (with_reducible refine below_drewN ?_ _) | (with_reducible refine Below.drew ?_) | (with_reducible refine Below.alloc ?_ ?_ _) | (with_reducible refine Below.setCell ?_ ?_ _) | (with_reducible exact Nat.le_refl _) | omega | (simp only [World.size_alloc, World.size_setCell, World.size_drew, Wov_size, World.heap_drewN]; omega))))) (HB3.out.trans (Below.mono (show Below wr.heap.size wr _ by (repeat' (first | (with_reducible assumption) | (with_reducible exact Below.refl _ _) | (with_reducible refine below_wov ?_ ?_ _) | (with_reducible refine below_drewN ?_ _) | (with_reducible refine Below.drew ?_) | (with_reducible refine Below.alloc ?_ ?_ _) | (with_reducible refine Below.setCell ?_ ?_ _) | (with_reducible exact Nat.le_refl _) | omega | (simp only [World.size_alloc, World.size_setCell, World.size_drew, Wov_size, World.heap_drewN]; omega)))) HB3.out.size)) hg1 (by (first | omega | ((simp only [World.size_alloc, World.size_setCell, World.size_drew, Wov_size, World.heap_drewN, Array.size_append]) <;> omega)))); have HO1 := Lib.hid ho1; clear ho1 hg1))
                go_roundw
                case rel =>
                  have ho := HO1.out
                  rw [← HTK.out] at ho
                  exact ⟨i + 1, by go_num, hlt, hB1.out, ho⟩
                case measure => simp [intOf]; omega
        · obtain rfl : i = m := by omega
          rw [Hm.out, List.take_length] at hR
          obtain ⟨pp, cc, rfl, hj⟩ := JL.out wr _ hBw hR.out
          have HJ := Lib.hid hj
          clear hR hj
          go_wp2_with (fail)
          refine HJ.out.mono ?_; rintro e w' ⟨rfl, q3, rfl⟩
          go_wp2_with (fail)
          go_ret2
          exact ⟨rfl, by (repeat' (first | (with_reducible assumption) | (with_reducible exact Below.refl _ _) | (with_reducible refine below_wov ?_ ?_ _) | (with_reducible refine below_drewN ?_ _) | (with_reducible refine Below.drew ?_) | (with_reducible refine Below.alloc ?_ ?_ _) | (with_reducible refine Below.setCell ?_ ?_ _) | (with_reducible exact Nat.le_refl _) | omega | (simp only [World.size_alloc, World.size_setCell, World.size_drew, Wov_size, World.heap_drewN]; omega)))⟩
    · have e : printS N L = ([], checkS N.length L) := by unfold printS; rw [if_neg (by rw [hm]; simp), if_pos hk]
      rw [e]
      obtain ⟨k, hkk⟩ : ∃ k, k = checkS N.length L := ⟨_, rfl⟩
      rw [← hkk] at CK hk ⊢
      obtain ⟨m, hm2⟩ : ∃ m, m = L.length := ⟨_, rfl⟩
      obtain ⟨n, hn⟩ : ∃ n, n = N.length := ⟨_, rfl⟩
      rw [← hm2] at CK ⊢
      rw [← hn] at CK NM ⊢
      have hk' : ¬ (k : Int) = 0 := by omega
      clear hQ hS hL hX h8 hf hm hxN e hk hkk hm2 hn hN hLn h8N
      go_enter Tryz.func7, Tryz.ntmps7
      go_wp2_with (fail)
      refine NM.out.mono ?_; rintro e w' ⟨rfl, q1, rfl⟩
      go_wp2_with (fail)
      refine (CK.out _ (by (repeat' (first | (with_reducible assumption) | (with_reducible exact Below.refl _ _) | (with_reducible refine below_wov ?_ ?_ _) | (with_reducible refine below_drewN ?_ _) | (with_reducible refine Below.drew ?_) | (with_reducible refine Below.alloc ?_ ?_ _) | (with_reducible refine Below.setCell ?_ ?_ _) | (with_reducible exact Nat.le_refl _) | omega | (simp only [World.size_alloc, World.size_setCell, World.size_drew, Wov_size, World.heap_drewN]; omega))))).mono ?_; rintro e w' ⟨rfl, q2, rfl⟩
      go_wp2_with (fail)
      go_ret2
      exact ⟨rfl, by (repeat' (first | (with_reducible assumption) | (with_reducible exact Below.refl _ _) | (with_reducible refine below_wov ?_ ?_ _) | (with_reducible refine below_drewN ?_ _) | (with_reducible refine Below.drew ?_) | (with_reducible refine Below.alloc ?_ ?_ _) | (with_reducible refine Below.setCell ?_ ?_ _) | (with_reducible exact Nat.le_refl _) | omega | (simp only [World.size_alloc, World.size_setCell, World.size_drew, Wov_size, World.heap_drewN]; omega)))⟩
  · rw [if_neg hm] at NM
    have e : printS N L = ([], 2) := by unfold printS; rw [if_pos (by simpa using hm)]
    rw [e]
    obtain ⟨m, hm2⟩ : ∃ m, m = L.length := ⟨_, rfl⟩
    obtain ⟨n, hn⟩ : ∃ n, n = N.length := ⟨_, rfl⟩
    rw [← hm2]
    rw [← hn] at NM ⊢
    clear hQ hS hL hX h8 hf hm e hm2 hn hN hLn
    go_enter Tryz.func7, Tryz.ntmps7
    go_wp2_with (fail)
    refine NM.out.mono ?_; rintro e w' ⟨rfl, q1, rfl⟩
    go_wp2_with (fail)
    go_ret2
    exact ⟨rfl, by (repeat' (first | (with_reducible assumption) | (with_reducible exact Below.refl _ _) | (with_reducible refine below_wov ?_ ?_ _) | (with_reducible refine below_drewN ?_ _) | (with_reducible refine Below.drew ?_) | (with_reducible refine Below.alloc ?_ ?_ _) | (with_reducible refine Below.setCell ?_ ?_ _) | (with_reducible exact Nat.le_refl _) | omega | (simp only [World.size_alloc, World.size_setCell, World.size_drew, Wov_size, World.heap_drewN]; omega)))⟩
#print axioms print_any
end Go.Proofs.YtccbhblklhmcpaaGreatDoor
