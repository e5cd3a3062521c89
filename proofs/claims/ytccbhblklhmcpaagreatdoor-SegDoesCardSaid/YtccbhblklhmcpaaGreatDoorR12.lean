/- SegDoes: contract of the document's 'Print'; the walk. No condition but on sizes, and what some package variables hold. -/
import Derived.Test.YtccbhblklhmcpaaGreatDoorMRB
import Derived.Test.YtccbhblklhmcpaaGreatDoorR10
import Derived.Test.YtccbhblklhmcpaaGreatDoorR11
namespace Go.Proofs.YtccbhblklhmcpaaGreatDoor
set_option linter.unusedSimpArgs false
set_option linter.unusedVariables false
open Go Go.RowKit Go.Shelf
attribute [local go_sem] Nat.add_assoc Nat.add_lt_add_iff_left lit_lt_add

theorem check_many {n : Nat} {L : List Sg} (h : checkS n L = 0) : L.length ≤ 1024 := by
  unfold checkS at h
  by_cases h1 : 1024 < L.length
  · rw [if_pos h1] at h; cases h
  · omega
set_option maxRecDepth 10000 in
set_option maxHeartbeats 400000 in
theorem print21_any (W : World) (q p : Option Addr) (c cl : Nat) (N : List (List UInt8)) (L : List Sg) (hQ : SlS W q N) (hS : SlK sgD W p L) (hL : Laid W) (hN : N.length ≤ 140737488355328) (hX : ∀ x, x ∈ N → x.length ≤ 140737488355328) (h8 : ∀ s, s ∈ L → s.2 < 256) (hf : ∀ s, s ∈ L → -9223372036854775808 ≤ s.1 ∧ s.1 ≤ 9223372036854775807) (hLn : L.length ≤ 140737488355328) :
    Calls Tryz.prog 8 #[.slice q N.length c, .slice p L.length cl] W (Gives W (.tuple #[.string (bs (printS N L).1), .int .i64 (printS N L).2])) := by
  have MN := Lib.hid (may16_any q c N W hQ hN hX)
  by_cases hm : mayNames N = true
  · have h8N := (mayNames_len hm).1
    have FT : Hid (∀ W', Below W.heap.size W W' → Calls Tryz.prog 15 #[.int .i64 N.length, .slice p L.length cl] W' (Gives W' (.int .i64 (checkS N.length L)))) := fun W' h => fits21_any W' N.length p cl L (hS.below h) h8N h8 hf hLn
    by_cases hk : checkS N.length L = 0
    · have e : printS N L = (Lib.join (L.map (segT N)) [59], 0) := by unfold printS; rw [if_neg (by rw [hm]; simp), if_neg (by rw [hk]; simp)]
      rw [e]
      have TX : Hid (∀ W', Below W.heap.size W W' → Calls Tryz.prog 18 #[.slice q N.length c, .slice p L.length cl] W' (Gives W' (.string (bs (Lib.join (L.map (segT N)) [59]))))) := fun W' h => text21_any W' q p c cl N L (hQ.below h) (hS.below h) (hL.below h) hm h8 hf (check_many hk)
      rw [hk] at FT
      rw [hm] at MN
      obtain ⟨J, hJ⟩ : ∃ J, J = bs (Lib.join (L.map (segT N)) [59]) := ⟨_, rfl⟩
      obtain ⟨m, hm2⟩ : ∃ m, m = L.length := ⟨_, rfl⟩
      obtain ⟨n, hn⟩ : ∃ n, n = N.length := ⟨_, rfl⟩
      rw [← hJ] at TX ⊢
      rw [← hn] at MN FT TX ⊢
      rw [← hm2] at FT TX ⊢
      clear hQ hS hL hN hX h8 hf hLn hm h8N hk e hJ hm2 hn
      go_enter Tryz.func8, Tryz.ntmps8
      go_wp2_with (fail)
      refine MN.out.mono ?_; rintro e w' ⟨rfl, q1, rfl⟩
      go_wp2_with (fail)
      refine (FT.out _ (by (repeat' (first | (with_reducible assumption) | (with_reducible exact Below.refl _ _) | (with_reducible refine below_wov ?_ ?_ _) | (with_reducible refine below_drewN ?_ _) | (with_reducible refine Below.drew ?_) | (with_reducible refine Below.alloc ?_ ?_ _) | (with_reducible refine Below.setCell ?_ ?_ _) | (with_reducible exact Nat.le_refl _) | omega | (simp only [World.size_alloc, World.size_setCell, World.size_drew, Wov_size, World.heap_drewN]; omega))))).mono ?_; rintro e w' ⟨rfl, q2, rfl⟩
      go_wp2_with (fail)
      refine (TX.out _ (by (repeat' (first | (with_reducible assumption) | (with_reducible exact Below.refl _ _) | (with_reducible refine below_wov ?_ ?_ _) | (with_reducible refine below_drewN ?_ _) | (with_reducible refine Below.drew ?_) | (with_reducible refine Below.alloc ?_ ?_ _) | (with_reducible refine Below.setCell ?_ ?_ _) | (with_reducible exact Nat.le_refl _) | omega | (simp only [World.size_alloc, World.size_setCell, World.size_drew, Wov_size, World.heap_drewN]; omega))))).mono ?_; rintro e w' ⟨rfl, q3, rfl⟩
      go_wp2_with (fail)
      go_ret2
      exact gives_end rfl (by (repeat' (first | (with_reducible assumption) | (with_reducible exact Below.refl _ _) | (with_reducible refine below_wov ?_ ?_ _) | (with_reducible refine below_drewN ?_ _) | (with_reducible refine Below.drew ?_) | (with_reducible refine Below.alloc ?_ ?_ _) | (with_reducible refine Below.setCell ?_ ?_ _) | (with_reducible exact Nat.le_refl _) | omega | (simp only [World.size_alloc, World.size_setCell, World.size_drew, Wov_size, World.heap_drewN]; omega))))
    · have e : printS N L = ([], checkS N.length L) := by unfold printS; rw [if_neg (by rw [hm]; simp), if_pos hk]
      rw [e]
      rw [hm] at MN
      obtain ⟨k, hkk⟩ : ∃ k, k = checkS N.length L := ⟨_, rfl⟩
      obtain ⟨m, hm2⟩ : ∃ m, m = L.length := ⟨_, rfl⟩
      obtain ⟨n, hn⟩ : ∃ n, n = N.length := ⟨_, rfl⟩
      rw [← hkk] at FT hk ⊢
      rw [← hn] at MN FT ⊢
      rw [← hm2] at FT ⊢
      have hk' : ¬ (k : Int) = 0 := by omega
      clear hQ hS hL hN hX h8 hf hLn hm h8N hk e hm2 hn hkk
      go_enter Tryz.func8, Tryz.ntmps8
      go_wp2_with (fail)
      refine MN.out.mono ?_; rintro e w' ⟨rfl, q1, rfl⟩
      go_wp2_with (fail)
      refine (FT.out _ (by (repeat' (first | (with_reducible assumption) | (with_reducible exact Below.refl _ _) | (with_reducible refine below_wov ?_ ?_ _) | (with_reducible refine below_drewN ?_ _) | (with_reducible refine Below.drew ?_) | (with_reducible refine Below.alloc ?_ ?_ _) | (with_reducible refine Below.setCell ?_ ?_ _) | (with_reducible exact Nat.le_refl _) | omega | (simp only [World.size_alloc, World.size_setCell, World.size_drew, Wov_size, World.heap_drewN]; omega))))).mono ?_; rintro e w' ⟨rfl, q2, rfl⟩
      go_wp2_with (fail)
      go_ret2
      exact gives_end rfl (by (repeat' (first | (with_reducible assumption) | (with_reducible exact Below.refl _ _) | (with_reducible refine below_wov ?_ ?_ _) | (with_reducible refine below_drewN ?_ _) | (with_reducible refine Below.drew ?_) | (with_reducible refine Below.alloc ?_ ?_ _) | (with_reducible refine Below.setCell ?_ ?_ _) | (with_reducible exact Nat.le_refl _) | omega | (simp only [World.size_alloc, World.size_setCell, World.size_drew, Wov_size, World.heap_drewN]; omega))))
  · rw [Bool.not_eq_true] at hm
    have e : printS N L = ([], 2) := by unfold printS; rw [if_pos hm]
    rw [e]
    rw [hm] at MN
    obtain ⟨m, hm2⟩ : ∃ m, m = L.length := ⟨_, rfl⟩
    obtain ⟨n, hn⟩ : ∃ n, n = N.length := ⟨_, rfl⟩
    rw [← hn] at MN ⊢
    rw [← hm2]
    clear hQ hS hL hN hX h8 hf hLn hm e hm2 hn
    go_enter Tryz.func8, Tryz.ntmps8
    go_wp2_with (fail)
    refine MN.out.mono ?_; rintro e w' ⟨rfl, q1, rfl⟩
    go_wp2_with (fail)
    go_ret2
    exact gives_end rfl (by (repeat' (first | (with_reducible assumption) | (with_reducible exact Below.refl _ _) | (with_reducible refine below_wov ?_ ?_ _) | (with_reducible refine below_drewN ?_ _) | (with_reducible refine Below.drew ?_) | (with_reducible refine Below.alloc ?_ ?_ _) | (with_reducible refine Below.setCell ?_ ?_ _) | (with_reducible exact Nat.le_refl _) | omega | (simp only [World.size_alloc, World.size_setCell, World.size_drew, Wov_size, World.heap_drewN]; omega))))
set_option maxRecDepth 10000 in
set_option maxHeartbeats 400000 in
theorem segDoes_any (W : World) (hL : Laid W) (q p : Option Addr) (c cl : Nat) (N : List (List UInt8)) (S : List UInt8) (L : List Sg) (hQ : SlS W q N) (hS : SlK sgD W p L) (hq : ∀ A o, q = some ⟨A, o, none⟩ → A < W.heap.size) (hN : N.length ≤ 140737488355328) (hX : ∀ x, x ∈ N → x.length ≤ 140737488355328) (hSn : S.length ≤ 140737488355328) (h8 : ∀ s, s ∈ L → s.2 < 256) (hf : ∀ s, s ∈ L → -9223372036854775808 ≤ s.1 ∧ s.1 ≤ 9223372036854775807) (hLn : L.length ≤ 140737488355328) :
    Calls Tryz.prog 3 #[.slice q N.length c, .string (bs S), .slice p L.length cl] W (fun e w' => e = .returned (.bool true) ∧ Below W.heap.size W w') := by
  have GR := Lib.hid (great16_any q c N W hQ hN hX)
  have hsz := bs_size S
  by_cases hg : 5000 < greatN N
  · rw [decide_eq_true hg] at GR
    obtain ⟨T, hT⟩ : ∃ T, T = bs S := ⟨_, rfl⟩
    rw [← hT]
    obtain ⟨m, hm⟩ : ∃ m, m = L.length := ⟨_, rfl⟩
    obtain ⟨n, hn⟩ : ∃ n, n = N.length := ⟨_, rfl⟩
    rw [← hn] at GR ⊢
    rw [← hm]
    clear hL hQ hS hq hN hX hg hn hm hsz hT hSn h8 hf hLn
    go_enter Tryz.func3, Tryz.ntmps3
    go_wp2_with (fail)
    refine GR.out.mono ?_; rintro e w' ⟨rfl, q1, rfl⟩
    go_wp2_with (fail)
    go_ret
    exact ⟨rfl, by (repeat' (first | (with_reducible assumption) | (with_reducible exact Below.refl _ _) | (with_reducible refine below_wov ?_ ?_ _) | (with_reducible refine below_drewN ?_ _) | (with_reducible refine Below.drew ?_) | (with_reducible refine Below.alloc ?_ ?_ _) | (with_reducible refine Below.setCell ?_ ?_ _) | (with_reducible exact Nat.le_refl _) | omega | (simp only [World.size_alloc, World.size_setCell, World.size_drew, Wov_size, World.heap_drewN]; omega)))⟩
  · rw [decide_eq_false hg] at GR
    by_cases h1 : 10000 < S.length
    · obtain ⟨T, hT⟩ : ∃ T, T = bs S := ⟨_, rfl⟩
      rw [← hT] at hsz ⊢
      have j : (10000 : Int) < (T.size : Int) := by omega
      obtain ⟨m, hm⟩ : ∃ m, m = L.length := ⟨_, rfl⟩
      obtain ⟨n, hn⟩ : ∃ n, n = N.length := ⟨_, rfl⟩
      rw [← hn] at GR ⊢
      rw [← hm]
      clear hL hQ hS hq hN hX hg hn hm hsz hT hSn h1 h8 hf hLn
      go_enter Tryz.func3, Tryz.ntmps3
      go_wp2_with (fail)
      refine GR.out.mono ?_; rintro e w' ⟨rfl, q1, rfl⟩
      go_wp2_with (fail)
      go_ret
      exact ⟨rfl, by (repeat' (first | (with_reducible assumption) | (with_reducible exact Below.refl _ _) | (with_reducible refine below_wov ?_ ?_ _) | (with_reducible refine below_drewN ?_ _) | (with_reducible refine Below.drew ?_) | (with_reducible refine Below.alloc ?_ ?_ _) | (with_reducible refine Below.setCell ?_ ?_ _) | (with_reducible exact Nat.le_refl _) | omega | (simp only [World.size_alloc, World.size_setCell, World.size_drew, Wov_size, World.heap_drewN]; omega)))⟩
    · by_cases h2 : 2000 < L.length
      · obtain ⟨T, hT⟩ : ∃ T, T = bs S := ⟨_, rfl⟩
        rw [← hT] at hsz ⊢
        have j : (T.size : Int) ≤ 10000 := by omega
        obtain ⟨m, hm⟩ : ∃ m, m = L.length := ⟨_, rfl⟩
        obtain ⟨n, hn⟩ : ∃ n, n = N.length := ⟨_, rfl⟩
        rw [← hn] at GR ⊢
        rw [← hm] at h2 ⊢
        have j2 : (2000 : Int) < (m : Int) := by omega
        clear hL hQ hS hq hN hX hg hn hm hsz hT hSn h1 h8 hf hLn h2
        go_enter Tryz.func3, Tryz.ntmps3
        go_wp2_with (fail)
        refine GR.out.mono ?_; rintro e w' ⟨rfl, q1, rfl⟩
        go_wp2_with (fail)
        go_ret
        exact ⟨rfl, by (repeat' (first | (with_reducible assumption) | (with_reducible exact Below.refl _ _) | (with_reducible refine below_wov ?_ ?_ _) | (with_reducible refine below_drewN ?_ _) | (with_reducible refine Below.drew ?_) | (with_reducible refine Below.alloc ?_ ?_ _) | (with_reducible refine Below.setCell ?_ ?_ _) | (with_reducible exact Nat.le_refl _) | omega | (simp only [World.size_alloc, World.size_setCell, World.size_drew, Wov_size, World.heap_drewN]; omega)))⟩
      · have hN' := greatN_len N
        have PA : Hid (∀ W', Below W.heap.size W W' → Calls Tryz.prog 5 #[.slice q N.length c, .string (bs S)] W' (parseC W' (parseS N S))) := fun W' h =>
          parse_any W' q c N S (hQ.below h) (hL.below h) (by omega) hX (fun A o e => Nat.lt_of_lt_of_le (hq A o e) h.size)
        have PB : Hid (∀ W', Below W.heap.size W W' → Calls Tryz.prog 6 #[.slice q N.length c, .string (bs S)] W' (parseC W' (parseS N S))) := fun W' h =>
          parse21_any W' q c N S (hQ.below h) (by omega) hX hSn
        have PR : Hid (∀ W', Below W.heap.size W W' → Calls Tryz.prog 7 #[.slice q N.length c, .slice p L.length cl] W' (fun e w' => e = .returned (.tuple #[.string (bs (printS N L).1), .int .i64 (printS N L).2]) ∧ Below W'.heap.size W' w')) := fun W' h =>
          print_any W' q p c cl N L (hQ.below h) (hS.below h) (hL.below h) (by omega) hX h8 hf (by omega)
        have PT : Hid (∀ W', Below W.heap.size W W' → Calls Tryz.prog 8 #[.slice q N.length c, .slice p L.length cl] W' (Gives W' (.tuple #[.string (bs (printS N L).1), .int .i64 (printS N L).2]))) := fun W' h =>
          print21_any W' q p c cl N L (hQ.below h) (hS.below h) (hL.below h) (by omega) hX h8 hf (by omega)
        have hml : (parseS N S).1.length ≤ 140737488355328 := by
          by_cases hk : (parseS N S).2.2 = 0
          · have := check_many (print_parse hk).2
            omega
          · rw [(parse_place N S).2.1 hk]; exact Nat.zero_le _
        obtain ⟨o, ho⟩ : ∃ o, o = parseS N S := ⟨_, rfl⟩
        rw [← ho] at PA PB hml
        obtain ⟨M, at1, er⟩ := o
        obtain ⟨o2, ho2⟩ : ∃ o2, o2 = printS N L := ⟨_, rfl⟩
        rw [← ho2] at PR PT
        obtain ⟨tx, e2⟩ := o2
        dsimp only at PR PT hml
        obtain ⟨X, hXX⟩ : ∃ X, X = bs tx := ⟨_, rfl⟩
        rw [← hXX] at PR PT
        obtain ⟨T, hT⟩ : ∃ T, T = bs S := ⟨_, rfl⟩
        rw [← hT] at hsz PA PB ⊢
        have j : (T.size : Int) ≤ 10000 := by omega
        obtain ⟨m, hm⟩ : ∃ m, m = L.length := ⟨_, rfl⟩
        obtain ⟨n, hn⟩ : ∃ n, n = N.length := ⟨_, rfl⟩
        rw [← hm] at h2 PR PT ⊢
        rw [← hn] at GR PA PB PR PT ⊢
        have j2 : (m : Int) ≤ 2000 := by omega
        have HML := Lib.hid hml
        clear hL hQ hS hq hN hX hg hn hm hsz hT hSn h1 h8 hf hLn h2 hN' ho ho2 hXX hml
        go_enter Tryz.func3, Tryz.ntmps3
        go_wp2_with (fail)
        refine GR.out.mono ?_; rintro e w' ⟨rfl, q1, rfl⟩
        have HB1 := Lib.hid (below_Wov W q1)
        go_wp2_with (fail)
        refine (PA.out _ HB1.out).mono ?_; rintro e w2 ⟨hb2, lv, rfl, hrow⟩
        have HB2 := Lib.hid (HB1.out.trans (hb2.mono HB1.out.size))
        obtain ⟨p2, c2, rfl, _, _, hsl⟩ := RowK.sl sgD_ok hrow
        have HSL := Lib.hid hsl
        clear hb2 hrow hsl
        go_wp2_with (fail)
        refine (PB.out _ HB2.out).mono ?_; rintro e w3 ⟨hb3, lv, rfl, hrow⟩
        have HB3 := Lib.hid (HB2.out.trans (hb3.mono HB2.out.size))
        obtain ⟨p3, c3, rfl, _, _, hsl⟩ := RowK.sl sgD_ok hrow
        have HSL3 := Lib.hid hsl
        have HSL2 := Lib.hid (HSL.out.below hb3)
        clear hb3 hrow hsl
        go_wp2_with (fail)
        refine (PR.out _ HB3.out).mono ?_; rintro e w4 ⟨rfl, hb4⟩
        have HB4 := Lib.hid (HB3.out.trans (hb4.mono HB3.out.size))
        have HSL4 := Lib.hid (HSL3.out.below hb4)
        have HSL5 := Lib.hid (HSL2.out.below hb4)
        clear hb4
        go_wp2_with (fail)
        refine (PT.out _ HB4.out).mono ?_; rintro e w' ⟨rfl, q5, rfl⟩
        have HB5 := Lib.hid (HB4.out.trans ((below_Wov w4 q5).mono HB4.out.size))
        have SM := Lib.hid (same21_any (Wov w4 q5) p2 p3 c2 c3 M (HSL5.out.below (below_Wov _ _)) (HSL4.out.below (below_Wov _ _)) HML.out)
        go_wp2_with (fail)
        refine SM.out.mono ?_; rintro e w' ⟨rfl, q6, rfl⟩
        have HB6 := Lib.hid (HB5.out.trans ((below_Wov _ q6).mono HB5.out.size))
        go_wp2_with (fail)
        go_ret
        refine ⟨?_, ?_⟩
        · first | rfl | (simp [go_sem]; done)
        · first | exact HB6.out | (have := HB6.out; simp only [Wov_Wov] at this; exact this)
#print axioms segDoes_any
end Go.Proofs.YtccbhblklhmcpaaGreatDoor
