/- SegText: the walk. No condition but on sizes, and what some package variables hold. -/
import Derived.Test.YtccbhblklhmcpaaDoorQ37
namespace Go.Proofs.YtccbhblklhmcpaaDoor
set_option linter.unusedSimpArgs false
set_option linter.unusedVariables false
open Go Go.RowKit Go.Shelf
attribute [local go_sem] Nat.add_assoc Nat.add_lt_add_iff_left lit_lt_add

set_option maxRecDepth 10000 in
set_option maxHeartbeats 400000 in
theorem segText_any (w : World) (hL : Laid w) (q : Option Addr) (c : Nat) (N : List (List UInt8)) (S : List UInt8) (hQ : SlS w q N) (hq : ∀ A o, q = some ⟨A, o, none⟩ → A < w.heap.size) (hN : N.length ≤ 140737488355328) (hX : ∀ x, x ∈ N → x.length ≤ 140737488355328) (hSn : S.length ≤ 140737488355328) :
    Calls Tryd.prog 5 #[.slice q N.length c, .string (bs S)] w (fun e w' => e = .returned (.bool true) ∧ Below w.heap.size w w') := by
  have AL := Lib.hid (alive21_any w hL)
  have GR : Hid (∀ W, Below w.heap.size w W → Calls Tryd.prog 9 #[.slice q N.length c] W (Gives W (.bool (decide (5000 < greatN N))))) := fun W h => great16_any q c N W (hQ.below h) hN hX
  have hsz := bs_size S
  by_cases hg : 5000 < greatN N
  · rw [decide_eq_true hg] at GR
    obtain ⟨T, hT⟩ : ∃ T, T = bs S := ⟨_, rfl⟩
    rw [← hT]
    obtain ⟨n, hn⟩ : ∃ n, n = N.length := ⟨_, rfl⟩
    rw [← hn] at GR ⊢
    clear hL hQ hq hN hX hg hn hsz hT hSn
    go_enter Tryd.func5, Tryd.ntmps5
    go_wp2_with (fail)
    refine AL.out.mono ?_; rintro e w1 ⟨rfl, hb1⟩
    have HB1 := Lib.hid hb1
    clear hb1
    go_wp2_with (fail)
    refine (GR.out _ HB1.out).mono ?_; rintro e w' ⟨rfl, q1, rfl⟩
    go_wp2_with (fail)
    go_ret
    exact ⟨rfl, HB1.out.trans ((below_Wov w1 q1).mono HB1.out.size)⟩
  · rw [decide_eq_false hg] at GR
    by_cases h4 : 4096 < S.length
    · obtain ⟨T, hT⟩ : ∃ T, T = bs S := ⟨_, rfl⟩
      rw [← hT] at hsz ⊢
      have j : (4096 : Int) < (T.size : Int) := by omega
      obtain ⟨n, hn⟩ : ∃ n, n = N.length := ⟨_, rfl⟩
      rw [← hn] at GR ⊢
      clear hL hQ hq hN hX hg hn hsz hT hSn h4
      go_enter Tryd.func5, Tryd.ntmps5
      go_wp2_with (fail)
      refine AL.out.mono ?_; rintro e w1 ⟨rfl, hb1⟩
      have HB1 := Lib.hid hb1
      clear hb1
      go_wp2_with (fail)
      refine (GR.out _ HB1.out).mono ?_; rintro e w' ⟨rfl, q1, rfl⟩
      go_wp2_with (fail)
      go_ret
      exact ⟨rfl, HB1.out.trans ((below_Wov w1 q1).mono HB1.out.size)⟩
    · have hN' := greatN_len N
      have PA : Hid (∀ W S, Below w.heap.size w W → Calls Tryd.prog 6 #[.slice q N.length c, .string (bs S)] W (parseC W (parseS N S))) := fun W S h =>
        parse_any W q c N S (hQ.below h) (hL.below h) (by omega) hX (fun A o e => Nat.lt_of_lt_of_le (hq A o e) h.size)
      have hpl := parse_place N S
      by_cases hk : (parseS N S).2.2 = 0
      · have h0 := hpl.2.2 hk
        obtain ⟨hpp, hck⟩ := print_parse hk
        have PA1 := Lib.hid (fun W h => PA.out W S h)
        obtain ⟨L, hLL⟩ : ∃ L, L = (parseS N S).1 := ⟨_, rfl⟩
        have ho : parseS N S = (L, 0, 0) := Prod.ext hLL.symm (Prod.ext h0 hk)
        rw [ho] at PA1
        rw [← hLL] at hpp hck
        obtain ⟨c1, c2, c3⟩ := check_ok hck
        have h8N : N.length ≤ 8 := by
          by_cases hm : mayNames N = true
          · exact (mayNames_len hm).1
          · unfold printS at hpp; rw [if_pos (by simpa using hm)] at hpp; cases congrArg Prod.snd hpp
        have PR : Hid (∀ W p cl, Below w.heap.size w W → SlK sgD W p L → Calls Tryd.prog 10 #[.slice q N.length c, .slice p L.length cl] W (fun e W' => e = .returned (.tuple #[.string (bs S), .int .i64 0]) ∧ Below W.heap.size W W')) := fun W p cl h h2 => by
          have := print_any W q p c cl N L (hQ.below h) h2 (hL.below h) (by omega) hX (fun s hs => by have h1 := (c3 s hs).2.2; have h2 : 2 ^ N.length ≤ 2 ^ 8 := Nat.pow_le_pow_right (by decide) h8N; omega) (fun s hs => by have h1 := c3 s hs; omega) (by omega)
          rw [hpp] at this
          exact this
        have HC3 := Lib.hid c3
        have HFAR := Lib.hid c2
        obtain ⟨T, hT⟩ : ∃ T, T = bs S := ⟨_, rfl⟩
        rw [← hT] at hsz PA1 PR ⊢
        have j : (T.size : Int) ≤ 4096 := by omega
        obtain ⟨m, hm⟩ : ∃ m, m = L.length := ⟨_, rfl⟩
        obtain ⟨n, hn⟩ : ∃ n, n = N.length := ⟨_, rfl⟩
        rw [← hm] at PR c1
        rw [← hn] at GR PA1 PR ⊢
        have j7 : (m : Int) ≤ 1024 := by omega
        have Hm := Lib.hid hm
        clear hL hQ hq hN hX hg hn hsz hT hSn h4 PA ho hpl hN' hk h0 hpp hck hLL c2 c3 h8N hm
        go_enter Tryd.func5, Tryd.ntmps5
        go_wp2_with (fail)
        refine AL.out.mono ?_; rintro e w1 ⟨rfl, hb1⟩
        have HB1 := Lib.hid hb1
        clear hb1
        go_wp2_with (fail)
        refine (GR.out _ HB1.out).mono ?_; rintro e w' ⟨rfl, q1, rfl⟩
        have HB2 := Lib.hid (HB1.out.trans ((below_Wov w1 q1).mono HB1.out.size))
        go_wp2_with (fail)
        refine (PA1.out _ HB2.out).mono ?_; rintro e w3 ⟨hb3, lv, rfl, hrow⟩
        have HB4 := Lib.hid (HB2.out.trans (hb3.mono HB2.out.size))
        obtain ⟨p2, c2, rfl, _, _, hsl⟩ := RowK.sl sgD_ok hrow
        have HSL := Lib.hid hsl
        simp only [← Hm.out]
        clear hb3 hrow hsl
        go_wp2_with (fail)
        refine (PR.out _ _ _ HB4.out HSL.out).mono ?_; rintro e w4 ⟨rfl, hb5⟩
        have HB5 := Lib.hid (HB4.out.trans (hb5.mono HB4.out.size))
        have HSL4 := Lib.hid (HSL.out.below hb5)
        clear hb5
        go_wp2_with (fail)
        go_loopw [11, 12] (fun s11 s12 wr => ∃ (i : Nat) (total : Int), s11 = .int .i64 total ∧ s12 = .int .i64 i ∧ i ≤ m ∧ 0 ≤ total ∧ total < 288230376151711744 ∧ Below w4.heap.size w4 wr ∧ Hid (farL (288230376151711744 - total) (L.drop i) = false)) (fun _ s12 _ => m - (intOf s12).toNat)
        case atStart => exact ⟨0, 0, rfl, rfl, Nat.zero_le _, by omega, by omega, by (repeat' (first | (with_reducible assumption) | (with_reducible exact Below.refl _ _) | (with_reducible refine below_wov ?_ ?_ _) | (with_reducible refine below_drewN ?_ _) | (with_reducible refine Below.drew ?_) | (with_reducible refine Below.alloc ?_ ?_ _) | (with_reducible refine Below.setCell ?_ ?_ _) | (with_reducible exact Nat.le_refl _) | omega | (simp only [World.size_alloc, World.size_setCell, World.size_drew, Wov_size, World.heap_drewN]; omega))), HFAR.out⟩
        case round =>
          obtain ⟨i, total, rfl, rfl, hin, t0, t1, hBw, hI⟩ := hrel
          have szr := hBw.size
          by_cases hlt : i < m
          · have hil : i < L.length := by rw [← Hm.out]; exact hlt
            obtain ⟨A, o, rfl, hA, hv⟩ := HSL4.out.seg.resolve_left (fun h => by rw [h] at hil; simp at hil)
            obtain ⟨y, hy⟩ : ∃ y, L[i]? = some y := ⟨_, List.getElem?_eq_getElem hil⟩
            have cy0 := (hBw.cell (p := ⟨A, o + i * 2, none⟩) hA).trans (hv i y hy).1
            have hdr : L.drop i = y :: L.drop (i + 1) := by
              obtain ⟨hi, e⟩ := List.getElem?_eq_some_iff.1 hy
              rw [List.drop_eq_getElem_cons hi, e]
            have hr : farL (288230376151711744 - total) (y :: L.drop (i + 1)) = false := by rw [← hdr]; exact hI.out
            have hr2 : (decide (288230376151711744 - total ≤ y.1) || farL (288230376151711744 - total - y.1) (L.drop (i + 1))) = false := hr
            rw [Bool.or_eq_false_iff, decide_eq_false_iff_not] at hr2
            obtain ⟨hr3, hr4⟩ := hr2
            rw [show 288230376151711744 - total - y.1 = 288230376151711744 - (total + y.1) by omega] at hr4
            have hy1 := HC3.out y (List.mem_of_getElem? hy)
            obtain ⟨ya, hya⟩ : ∃ ya, ya = y.1 := ⟨_, rfl⟩
            rw [← hya] at cy0 hr3 hr4 hy1
            have HR4 := Lib.hid hr4
            have j0 : (0 : Int) ≤ (i : Int) := by omega
            have j1 : (i : Int) < (m : Int) := by omega
            have y1 : ¬ ya < 1 := by omega
            have y2 : ¬ 288230376151711744 - total ≤ ya := hr3
            have hw1 : wrap64 (288230376151711744 - total) = 288230376151711744 - total := wrap64_id (by omega) (by omega)
            have hw2 : wrap64 (total + ya) = total + ya := wrap64_id (by omega) (by omega)
            have u0 : 0 ≤ total + ya := by omega
            have u1 : total + ya < 288230376151711744 := by omega
            clear hv hy hya hdr hr hr4 hI hr3 hy1
            go_wp2_with (fail)
            go_roundw
            case rel => exact ⟨i + 1, total + ya, by first | rfl | rw [hw2], by go_num, hlt, u0, u1, by (repeat' (first | (with_reducible assumption) | (with_reducible exact Below.refl _ _) | (with_reducible refine below_wov ?_ ?_ _) | (with_reducible refine below_drewN ?_ _) | (with_reducible refine Below.drew ?_) | (with_reducible refine Below.alloc ?_ ?_ _) | (with_reducible refine Below.setCell ?_ ?_ _) | (with_reducible exact Nat.le_refl _) | omega | (simp only [World.size_alloc, World.size_setCell, World.size_drew, Wov_size, World.heap_drewN]; omega))), HR4⟩
            case measure => simp [intOf]; omega
          · obtain rfl : i = m := by omega
            clear hI
            go_wp2_with (fail)
            go_ret
            exact ⟨by simp [*], HB5.out.trans (hBw.mono HB5.out.size)⟩
      · have hnil := hpl.2.1 hk
        obtain ⟨o, ho⟩ : ∃ o, o = parseS N S := ⟨_, rfl⟩
        have PA1 := Lib.hid (fun W h => PA.out W S h)
        rw [← ho] at PA1 hk hnil hpl
        by_cases hs : o.2.2 = 170
        · obtain ⟨at_, hat⟩ : ∃ at_, at_ = o.2.1 := ⟨_, rfl⟩
          have h1 := hpl.1
          rw [← hat] at h1
          have PB := Lib.hid (fun W h => PA.out W (S.take at_) h)
          have hp2 := (parse_place N (S.take at_)).1
          rw [List.length_take, Nat.min_eq_left h1] at hp2
          have eX : (bs S).extract 0 at_ = bs (S.take at_) := by rw [bs_ext, List.drop_zero, Nat.sub_zero]
          obtain ⟨o2, ho2⟩ : ∃ o2, o2 = parseS N (S.take at_) := ⟨_, rfl⟩
          rw [← ho2] at PB hp2
          obtain ⟨T2, hT2⟩ : ∃ T2, T2 = bs (S.take at_) := ⟨_, rfl⟩
          rw [← hT2] at PB eX
          obtain ⟨T, hT⟩ : ∃ T, T = bs S := ⟨_, rfl⟩
          rw [← hT] at hsz PA1 eX ⊢
          have PA2 : Hid (∀ W, Below w.heap.size w W → Calls Tryd.prog 6 #[.slice q N.length c, .string T] W (parseC W ([], at_, 170))) := fun W h => by
            have := PA1.out W h
            have e : o = ([], at_, 170) := by rw [hat, ← hs, ← hnil]
            rwa [e] at this
          have j : (T.size : Int) ≤ 4096 := by omega
          have j1 : (at_ : Int) ≤ (T.size : Int) := by omega
          have j3 : (0 : Int) ≤ (at_ : Int) := by omega
          obtain ⟨to, hto⟩ : ∃ to, to = o2.2.1 := ⟨_, rfl⟩
          obtain ⟨g, hgg⟩ : ∃ g, g = o2.2.2 := ⟨_, rfl⟩
          rw [← hto] at hp2
          have j2 : (to : Int) ≤ (at_ : Int) := by omega
          have PB2 : Hid (∀ W, Below w.heap.size w W → Calls Tryd.prog 6 #[.slice q N.length c, .string T2] W (parseC W (o2.1, to, g))) := fun W h => by
            have := PB.out W h
            rw [hto, hgg]; exact this
          obtain ⟨M, hM⟩ : ∃ M, M = o2.1 := ⟨_, rfl⟩
          rw [← hM] at PB2
          obtain ⟨n, hn⟩ : ∃ n, n = N.length := ⟨_, rfl⟩
          rw [← hn] at GR PA2 PB2 ⊢
          clear hL hQ hq hN hX hg hn hsz hT hSn h4 PA PA1 ho hnil hpl hat hN' hk hs h1 PB hp2 hT2 ho2 hto hgg hM
          go_enter Tryd.func5, Tryd.ntmps5
          go_wp2_with (fail)
          refine AL.out.mono ?_; rintro e w1 ⟨rfl, hb1⟩
          have HB1 := Lib.hid hb1
          clear hb1
          go_wp2_with (fail)
          refine (GR.out _ HB1.out).mono ?_; rintro e w' ⟨rfl, q1, rfl⟩
          have HB2 := Lib.hid (HB1.out.trans ((below_Wov w1 q1).mono HB1.out.size))
          go_wp2_with (fail)
          refine (PA2.out _ HB2.out).mono ?_; rintro e w3 ⟨hb3, lv, rfl, hrow⟩
          have HB4 := Lib.hid (HB2.out.trans (hb3.mono HB2.out.size))
          obtain ⟨p2, c2, rfl, _, _, _⟩ := RowK.sl sgD_ok hrow
          simp only [List.length_nil]
          clear hb3 hrow
          go_wp2_with (fail)
          refine (PB2.out _ HB4.out).mono ?_; rintro e w5 ⟨hb5, lv5, rfl, hrow⟩
          have HB6 := Lib.hid (HB4.out.trans (hb5.mono HB4.out.size))
          obtain ⟨p5, c5, rfl, _, _, _⟩ := RowK.sl sgD_ok hrow
          obtain ⟨l, hl⟩ : ∃ l, l = M.length := ⟨_, rfl⟩
          rw [← hl]
          clear hb5 hrow hl
          by_cases hg0 : g = 0
          · subst hg0
            have j5 : (0 : Int) ≤ (l : Int) := by omega
            go_wp2_with (fail)
            go_ret
            exact ⟨by simp [*], HB6.out⟩
          · have j5 : ¬ (g : Int) = 0 := by omega
            go_wp2_with (fail)
            go_ret
            exact ⟨by simp [*], HB6.out⟩
        · obtain ⟨at_, hat⟩ : ∃ at_, at_ = o.2.1 := ⟨_, rfl⟩
          obtain ⟨k, hkk⟩ : ∃ k, k = o.2.2 := ⟨_, rfl⟩
          have h1 := hpl.1
          obtain ⟨T, hT⟩ : ∃ T, T = bs S := ⟨_, rfl⟩
          rw [← hT] at hsz PA1 ⊢
          rw [← hat] at h1
          rw [← hkk] at hk hs
          have PA2 : Hid (∀ W, Below w.heap.size w W → Calls Tryd.prog 6 #[.slice q N.length c, .string T] W (parseC W ([], at_, k))) := fun W h => by
            have := PA1.out W h
            have e : o = ([], at_, k) := by rw [hat, hkk, ← hnil]
            rwa [e] at this
          have j : (T.size : Int) ≤ 4096 := by omega
          have j1 : (at_ : Int) ≤ (T.size : Int) := by omega
          have k0 : ¬ (k : Int) = 0 := by omega
          have k1 : ¬ (k : Int) = 170 := by omega
          obtain ⟨n, hn⟩ : ∃ n, n = N.length := ⟨_, rfl⟩
          rw [← hn] at GR PA2 ⊢
          clear hL hQ hq hN hX hg hn hsz hT hSn h4 PA PA1 ho hnil hpl hat hkk hN' hk hs h1
          go_enter Tryd.func5, Tryd.ntmps5
          go_wp2_with (fail)
          refine AL.out.mono ?_; rintro e w1 ⟨rfl, hb1⟩
          have HB1 := Lib.hid hb1
          clear hb1
          go_wp2_with (fail)
          refine (GR.out _ HB1.out).mono ?_; rintro e w' ⟨rfl, q1, rfl⟩
          have HB2 := Lib.hid (HB1.out.trans ((below_Wov w1 q1).mono HB1.out.size))
          go_wp2_with (fail)
          refine (PA2.out _ HB2.out).mono ?_; rintro e w3 ⟨hb3, lv, rfl, hrow⟩
          have HB4 := Lib.hid (HB2.out.trans (hb3.mono HB2.out.size))
          obtain ⟨p2, c2, rfl, _, _, _⟩ := RowK.sl sgD_ok hrow
          simp only [List.length_nil]
          clear hb3 hrow
          go_wp2_with (fail)
          go_ret
          exact ⟨rfl, HB4.out⟩
#print axioms segText_any
end Go.Proofs.YtccbhblklhmcpaaDoor
