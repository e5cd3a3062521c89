/- SegBack: the walk. No condition but on sizes, and what some package variables hold. -/
import Derived.Test.YtccbhblklhmcpaaDoorQ36
namespace Go.Proofs.YtccbhblklhmcpaaDoor
set_option linter.unusedSimpArgs false
set_option linter.unusedVariables false
open Go Go.RowKit Go.Shelf
attribute [local go_sem] Nat.add_assoc Nat.add_lt_add_iff_left lit_lt_add

theorem print_inv {N : List (List UInt8)} {L : List Sg} (h : (printS N L).2 = 0) : parseS N (printS N L).1 = if 4096 < (printS N L).1.length then ([], 0, 3) else (L, 0, 0) := by
  unfold printS at h ⊢
  by_cases h1 : mayNames N = false
  · rw [if_pos h1] at h; cases h
  · rw [if_neg h1] at h ⊢
    by_cases h2 : checkS N.length L = 0
    · rw [if_neg (by rw [h2]; simp)]
      exact parse_print h2 (by simpa using h1)
    · rw [if_pos h2] at h; exact absurd h h2
set_option maxRecDepth 10000 in
set_option maxHeartbeats 400000 in
theorem segBack_any (w : World) (hL : Laid w) (q p : Option Addr) (c cl : Nat) (N : List (List UInt8)) (L : List Sg) (hQ : SlS w q N) (hS : SlK sgD w p L) (hq : ∀ A o, q = some ⟨A, o, none⟩ → A < w.heap.size) (hN : N.length ≤ 140737488355328) (hX : ∀ x, x ∈ N → x.length ≤ 140737488355328) (h8 : ∀ s, s ∈ L → s.2 < 256) (hf : ∀ s, s ∈ L → -9223372036854775808 ≤ s.1 ∧ s.1 ≤ 9223372036854775807) (hLn : L.length ≤ 140737488355328) :
    Calls Tryd.prog 4 #[.slice q N.length c, .slice p L.length cl] w (fun e w' => e = .returned (.bool true) ∧ Below w.heap.size w w') := by
  have AL := Lib.hid (alive21_any w hL)
  have GR : Hid (∀ W, Below w.heap.size w W → Calls Tryd.prog 9 #[.slice q N.length c] W (Gives W (.bool (decide (5000 < greatN N))))) := fun W h => great16_any q c N W (hQ.below h) hN hX
  by_cases hg : 5000 < greatN N
  · rw [decide_eq_true hg] at GR
    obtain ⟨m, hm⟩ : ∃ m, m = L.length := ⟨_, rfl⟩
    obtain ⟨n, hn⟩ : ∃ n, n = N.length := ⟨_, rfl⟩
    rw [← hm]
    rw [← hn] at GR ⊢
    clear hL hQ hS hq hN hX h8 hf hLn hg hm hn
    go_enter Tryd.func4, Tryd.ntmps4
    go_wp2_with (fail)
    refine AL.out.mono ?_; rintro e w1 ⟨rfl, hb1⟩
    have HB1 := Lib.hid hb1
    clear hb1
    go_wp2_with (fail)
    refine (GR.out _ HB1.out).mono ?_; rintro e w' ⟨rfl, q1, rfl⟩
    go_wp2_with (fail)
    go_ret
    exact ⟨rfl, HB1.out.trans ((below_Wov w1 q1).mono HB1.out.size)⟩
  · rw [decide_eq_false hg] at GR
    by_cases h2 : 2000 < L.length
    · obtain ⟨m, hm⟩ : ∃ m, m = L.length := ⟨_, rfl⟩
      obtain ⟨n, hn⟩ : ∃ n, n = N.length := ⟨_, rfl⟩
      rw [← hm] at h2 ⊢
      rw [← hn] at GR ⊢
      have j : (2000 : Int) < (m : Int) := by omega
      clear hL hQ hS hq hN hX h8 hf hLn hg hm hn
      go_enter Tryd.func4, Tryd.ntmps4
      go_wp2_with (fail)
      refine AL.out.mono ?_; rintro e w1 ⟨rfl, hb1⟩
      have HB1 := Lib.hid hb1
      clear hb1
      go_wp2_with (fail)
      refine (GR.out _ HB1.out).mono ?_; rintro e w' ⟨rfl, q1, rfl⟩
      go_wp2_with (fail)
      go_ret
      exact ⟨rfl, HB1.out.trans ((below_Wov w1 q1).mono HB1.out.size)⟩
    · have hN' := greatN_len N
      have PR : Hid (∀ W, Below w.heap.size w W → Calls Tryd.prog 10 #[.slice q N.length c, .slice p L.length cl] W (fun e W' => e = .returned (.tuple #[.string (bs (printS N L).1), .int .i64 (printS N L).2]) ∧ Below W.heap.size W W')) := fun W h =>
        print_any W q p c cl N L (hQ.below h) (hS.below h) (hL.below h) (by omega) hX h8 hf (by omega)
      have PA : Hid (∀ W S, Below w.heap.size w W → Calls Tryd.prog 6 #[.slice q N.length c, .string (bs S)] W (parseC W (parseS N S))) := fun W S h =>
        parse_any W q c N S (hQ.below h) (hL.below h) (by omega) hX (fun A o e => Nat.lt_of_lt_of_le (hq A o e) h.size)
      by_cases hk : (printS N L).2 = 0
      · have hpp := print_inv hk
        have PA2 := Lib.hid (fun W h => PA.out W (printS N L).1 h)
        rw [hk] at PR
        rw [hpp] at PA2
        have hsz := bs_size (printS N L).1
        obtain ⟨S, hSS⟩ : ∃ S, S = (printS N L).1 := ⟨_, rfl⟩
        rw [← hSS] at PR PA2 hsz
        by_cases h4 : 4096 < S.length
        · rw [if_pos h4] at PA2
          obtain ⟨T, hT⟩ : ∃ T, T = bs S := ⟨_, rfl⟩
          rw [← hT] at PR PA2 hsz
          obtain ⟨m, hm⟩ : ∃ m, m = L.length := ⟨_, rfl⟩
          obtain ⟨n, hn⟩ : ∃ n, n = N.length := ⟨_, rfl⟩
          rw [← hm] at h2 PR ⊢
          rw [← hn] at GR PR PA2 ⊢
          have j : (m : Int) ≤ 2000 := by omega
          have j2 : (4096 : Int) < (T.size : Int) := by omega
          clear hL hQ hS hq hN hX h8 hf hLn hg hm hn PA hN' hk hT hpp hsz hSS h4
          go_enter Tryd.func4, Tryd.ntmps4
          go_wp2_with (fail)
          refine AL.out.mono ?_; rintro e w1 ⟨rfl, hb1⟩
          have HB1 := Lib.hid hb1
          clear hb1
          go_wp2_with (fail)
          refine (GR.out _ HB1.out).mono ?_; rintro e w' ⟨rfl, q1, rfl⟩
          have HB2 := Lib.hid (HB1.out.trans ((below_Wov w1 q1).mono HB1.out.size))
          go_wp2_with (fail)
          refine (PR.out _ HB2.out).mono ?_; rintro e w2 ⟨rfl, hb2⟩
          have HB3 := Lib.hid (HB2.out.trans (hb2.mono HB2.out.size))
          clear hb2
          go_wp2_with (fail)
          refine (PA2.out _ HB3.out).mono ?_; rintro e w3 ⟨hb3, lv, rfl, hrow⟩
          have HB4 := Lib.hid (HB3.out.trans (hb3.mono HB3.out.size))
          clear hb3 hrow
          go_wp2_with (fail)
          go_ret
          exact ⟨rfl, HB4.out⟩
        · rw [if_neg h4] at PA2
          obtain ⟨T, hT⟩ : ∃ T, T = bs S := ⟨_, rfl⟩
          rw [← hT] at PR PA2 hsz
          have HS := Lib.hid hS
          obtain ⟨m, hm⟩ : ∃ m, m = L.length := ⟨_, rfl⟩
          obtain ⟨n, hn⟩ : ∃ n, n = N.length := ⟨_, rfl⟩
          rw [← hm] at h2 PR ⊢
          rw [← hn] at GR PR PA2 ⊢
          have j : (m : Int) ≤ 2000 := by omega
          have j2 : (T.size : Int) ≤ 4096 := by omega
          have Hm := Lib.hid hm
          clear hL hQ hS hq hN hX h8 hf hLn hg hm hn PA hN' hk hT hpp hsz hSS h4
          go_enter Tryd.func4, Tryd.ntmps4
          go_wp2_with (fail)
          refine AL.out.mono ?_; rintro e w1 ⟨rfl, hb1⟩
          have HB1 := Lib.hid hb1
          clear hb1
          go_wp2_with (fail)
          refine (GR.out _ HB1.out).mono ?_; rintro e w' ⟨rfl, q1, rfl⟩
          have HB2 := Lib.hid (HB1.out.trans ((below_Wov w1 q1).mono HB1.out.size))
          go_wp2_with (fail)
          refine (PR.out _ HB2.out).mono ?_; rintro e w2 ⟨rfl, hb2⟩
          have HB3 := Lib.hid (HB2.out.trans (hb2.mono HB2.out.size))
          clear hb2
          go_wp2_with (fail)
          refine (PA2.out _ HB3.out).mono ?_; rintro e w3 ⟨hb3, lv, rfl, hrow⟩
          have HB4 := Lib.hid (HB3.out.trans (hb3.mono HB3.out.size))
          obtain ⟨p2, c2, rfl, _, _, hsl⟩ := RowK.sl sgD_ok hrow
          have HSL := Lib.hid hsl
          simp only [← Hm.out]
          clear hb3 hrow hsl
          go_wp2_with (fail)
          go_loopw [11] (fun s11 wr => ∃ i : Nat, s11 = .int .i64 i ∧ i ≤ m ∧ Below w3.heap.size w3 wr) (fun s11 _ => m - (intOf s11).toNat)
          case atStart => exact ⟨0, rfl, Nat.zero_le _, by (repeat' (first | (with_reducible assumption) | (with_reducible exact Below.refl _ _) | (with_reducible refine below_wov ?_ ?_ _) | (with_reducible refine below_drewN ?_ _) | (with_reducible refine Below.drew ?_) | (with_reducible refine Below.alloc ?_ ?_ _) | (with_reducible refine Below.setCell ?_ ?_ _) | (with_reducible exact Nat.le_refl _) | omega | (simp only [World.size_alloc, World.size_setCell, World.size_drew, Wov_size, World.heap_drewN]; omega)))⟩
          case round =>
            obtain ⟨i, rfl, hin, hBw⟩ := hrel
            have szr := hBw.size
            by_cases hlt : i < m
            · have hil : i < L.length := by rw [← Hm.out]; exact hlt
              obtain ⟨A, o, rfl, hA, hv⟩ := HS.out.seg.resolve_left (fun h => by rw [h] at hil; simp at hil)
              obtain ⟨A2, o2, rfl, hA2, hv2⟩ := HSL.out.seg.resolve_left (fun h => by rw [h] at hil; simp at hil)
              obtain ⟨y, hy⟩ : ∃ y, L[i]? = some y := ⟨_, List.getElem?_eq_getElem hil⟩
              have HBW := HB4.out.trans (hBw.mono HB4.out.size)
              have cy0 := (HBW.cell (p := ⟨A, o + i * 2, none⟩) hA).trans (hv i y hy).1
              have cy1 := (HBW.cell (p := ⟨A, o + (i * 2 + 1), none⟩) hA).trans (hv i y hy).2
              have cz0 := (hBw.cell (p := ⟨A2, o2 + i * 2, none⟩) hA2).trans (hv2 i y hy).1
              have cz1 := (hBw.cell (p := ⟨A2, o2 + (i * 2 + 1), none⟩) hA2).trans (hv2 i y hy).2
              obtain ⟨ya, hya⟩ : ∃ ya, ya = y.1 := ⟨_, rfl⟩
              obtain ⟨yb, hyb⟩ : ∃ yb : Int, yb = (y.2 : Int) := ⟨_, rfl⟩
              rw [← hya] at cy0 cz0
              rw [← hyb] at cy1 cz1
              have j0 : (0 : Int) ≤ (i : Int) := by omega
              have j1 : (i : Int) < (m : Int) := by omega
              clear hv hv2 hy hya hyb
              have HBX := Lib.hid HBW
              clear HBW
              go_wp2_with (fail)
              refine wp_region_wov (by kernel_rfl) (by kernel_rfl) ?_
              repeat (go_big_quiet_step (fail))
              refine wpQuiet_nil ?_
              rintro _ ⟨pq, rfl⟩
              go_wp2_with (fail)
              go_roundw
              case rel => exact ⟨i + 1, by go_num, hlt, by (repeat' (first | (with_reducible assumption) | (with_reducible exact Below.refl _ _) | (with_reducible refine below_wov ?_ ?_ _) | (with_reducible refine below_drewN ?_ _) | (with_reducible refine Below.drew ?_) | (with_reducible refine Below.alloc ?_ ?_ _) | (with_reducible refine Below.setCell ?_ ?_ _) | (with_reducible exact Nat.le_refl _) | omega | (simp only [World.size_alloc, World.size_setCell, World.size_drew, Wov_size, World.heap_drewN]; omega)))⟩
              case measure => simp [intOf]; omega
            · obtain rfl : i = m := by omega
              go_wp2_with (fail)
              go_ret
              exact ⟨rfl, HB4.out.trans (hBw.mono HB4.out.size)⟩
      · have he : (printS N L).1 = [] := by
          unfold printS at hk ⊢
          split
          · rfl
          · rename_i h1; rw [if_neg h1] at hk
            split
            · rfl
            · rename_i h3; rw [if_neg h3] at hk; exact absurd rfl hk
        rw [he] at PR
        obtain ⟨k, hkk⟩ : ∃ k, k = (printS N L).2 := ⟨_, rfl⟩
        rw [← hkk] at PR hk
        obtain ⟨m, hm⟩ : ∃ m, m = L.length := ⟨_, rfl⟩
        obtain ⟨n, hn⟩ : ∃ n, n = N.length := ⟨_, rfl⟩
        rw [← hm] at h2 PR ⊢
        rw [← hn] at GR PR ⊢
        have j : (m : Int) ≤ 2000 := by omega
        have hk' : ¬ (k : Int) = 0 := by omega
        have hst : (bs []).toList.isEmpty = true := by rw [Lib.toList_data, bs_list]; rfl
        obtain ⟨T, hT⟩ : ∃ T, T = bs [] := ⟨_, rfl⟩
        rw [← hT] at PR hst
        clear hL hQ hS hq hN hX h8 hf hLn hg hm hn PA he hN' hkk hk hT
        go_enter Tryd.func4, Tryd.ntmps4
        go_wp2_with (fail)
        refine AL.out.mono ?_; rintro e w1 ⟨rfl, hb1⟩
        have HB1 := Lib.hid hb1
        clear hb1
        go_wp2_with (fail)
        refine (GR.out _ HB1.out).mono ?_; rintro e w' ⟨rfl, q1, rfl⟩
        have HB2 := Lib.hid (HB1.out.trans ((below_Wov w1 q1).mono HB1.out.size))
        go_wp2_with (fail)
        refine (PR.out _ HB2.out).mono ?_; rintro e w2 ⟨rfl, hb2⟩
        have HB3 := Lib.hid (HB2.out.trans (hb2.mono HB2.out.size))
        clear hb2
        go_wp2_with (fail)
        go_ret
        exact ⟨rfl, HB3.out⟩
#print axioms segBack_any
end Go.Proofs.YtccbhblklhmcpaaDoor
