/- The document's signals: contract of its 'Parse'. No condition but on sizes. -/
import Derived.Test.YtccbhblklhmcpaaGreatDoorR4
import Derived.Test.YtccbhblklhmcpaaGreatDoorR7
import Derived.Test.YtccbhblklhmcpaaGreatDoorMRB
import Derived.Test.YtccbhblklhmcpaaGreatDoorQ31
namespace Go.Proofs.YtccbhblklhmcpaaGreatDoor
set_option linter.unusedSimpArgs false
set_option linter.unusedVariables false
open Go Go.RowKit Go.Shelf
attribute [local go_sem] Nat.add_assoc Nat.add_lt_add_iff_left lit_lt_add

theorem on_rest (N : List (List UInt8)) (S : List UInt8) : ∀ (f p : Nat) (last : Int) (on : Nat), p ≤ S.length → (onL N f (S.drop p) p last on).2.2.2 = 0 → (onL N f (S.drop p) p last on).2.1 = S.drop (onL N f (S.drop p) p last on).2.2.1 ∧ (onL N f (S.drop p) p last on).2.2.1 ≤ S.length
  | 0, p, last, on, _, h => by cases h
  | f + 1, p, last, on, hp, h => by
    have hl := run_le (P := isW) hp
    have hd : (S.drop p).dropWhile isW = S.drop (p + ((S.drop p).takeWhile isW).length) := by rw [← drop_len, List.drop_drop]
    unfold onL at h ⊢
    split
    · rename_i h0; rw [if_pos h0] at h; cases h
    · rename_i h0
      rw [if_neg h0] at h
      split
      · rename_i h1; rw [if_pos h1] at h; cases h
      · rename_i h1
        rw [if_neg h1] at h
        split
        · rename_i h2; rw [if_pos h2] at h; cases h
        · rename_i h2
          rw [if_neg h2] at h
          split
          · rename_i h3
            rw [if_pos h3] at h
            have hlt : p + ((S.drop p).takeWhile isW).length < S.length := by
              rw [hd, List.head?_eq_getElem?, List.getElem?_drop, Nat.add_zero] at h3
              exact (List.getElem?_eq_some_iff.1 h3).1
            rw [hd, List.tail_drop] at h ⊢
            exact on_rest N S f _ _ _ hlt h
          · exact ⟨hd, hl⟩
theorem seg_rest (N : List (List UInt8)) (S : List UInt8) (p : Nat) (hp : p ≤ S.length) (h : (segL N (S.drop p) p).2.2.2 = 0) : (segL N (S.drop p) p).2.1 = S.drop (segL N (S.drop p) p).2.2.1 ∧ (segL N (S.drop p) p).2.2.1 ≤ S.length := by
  have hl := run_le (P := isD) hp
  have hd : (S.drop p).dropWhile isD = S.drop (p + ((S.drop p).takeWhile isD).length) := by rw [← drop_len, List.drop_drop]
  unfold segL at h ⊢
  split
  · rename_i h0; rw [if_pos h0] at h; cases h
  · rename_i h0
    rw [if_neg h0] at h
    split
    · rename_i h1; rw [if_pos h1] at h; cases h
    · rename_i h1
      rw [if_neg h1] at h
      have h58 : S[p + ((S.drop p).takeWhile isD).length]? = some 58 := by
        rw [hd, List.head?_eq_getElem?, List.getElem?_drop, Nat.add_zero] at h1
        exact Classical.not_not.1 h1
      have hlt := (List.getElem?_eq_some_iff.1 h58).1
      split
      · rename_i h2
        rw [hd, List.tail_drop, List.head?_eq_getElem?, List.getElem?_drop, Nat.add_zero] at h2
        have hlt2 := (List.getElem?_eq_some_iff.1 h2).1
        refine ⟨?_, by simp only; omega⟩
        simp only
        rw [hd, List.tail_drop, List.tail_drop]
      · rename_i h2
        rw [if_neg h2] at h
        rw [hd, List.tail_drop] at h ⊢
        exact on_rest N S _ _ _ _ hlt h
theorem sg_one {X : World} {A : Nat} {s : Sg} (hA : A < X.heap.size) (h0 : X.cell? ⟨A, 0, none⟩ = some (.int .i64 s.1)) (h1 : X.cell? ⟨A, 1, none⟩ = some (.int .u8 s.2)) : SlK sgD X (some ⟨A, 0, none⟩) [s] := by
  refine SlK.one hA (fun j u hu => ?_)
  have hj : j < 2 := by have := (List.getElem?_eq_some_iff.1 hu).1; exact this
  rcases (show j = 0 ∨ j = 1 by omega) with rfl | rfl
  · injection hu with hu; subst hu; exact h0
  · injection hu with hu; subst hu; exact h1
theorem check_nil (n : Nat) : checkS n [] = 0 := by unfold checkS; simp [farL]
set_option maxRecDepth 10000 in
set_option maxHeartbeats 2000000 in
theorem parse21_any (W : World) (q : Option Addr) (c : Nat) (N : List (List UInt8)) (S : List UInt8) (hQ : SlS W q N) (hN : N.length ≤ 140737488355328) (hX : ∀ x, x ∈ N → x.length ≤ 140737488355328) (hSl : S.length ≤ 140737488355328) :
    Calls Tryz.prog 6 #[.slice q N.length c, .string (bs S)] W (parseC W (parseS N S)) := by
  have MN := Lib.hid (may16_any q c N W hQ hN hX)
  have hsz := bs_size S
  by_cases hm : mayNames N = true
  · rw [hm] at MN
    by_cases h4 : 4096 < S.length
    · have e : parseS N S = ([], 0, 3) := by unfold parseS; rw [if_neg (by rw [hm]; simp), if_pos h4]
      rw [e]
      obtain ⟨T, hT⟩ : ∃ T, T = bs S := ⟨_, rfl⟩
      rw [← hT] at hsz ⊢
      have j : (4096 : Int) < (T.size : Int) := by omega
      obtain ⟨n, hn⟩ : ∃ n, n = N.length := ⟨_, rfl⟩
      rw [← hn] at MN ⊢
      clear hQ hN hX hm h4 e hsz hT hn
      go_enter Tryz.func6, Tryz.ntmps6
      go_wp2_with (fail)
      refine MN.out.mono ?_; rintro e w' ⟨rfl, q1, rfl⟩
      go_wp2_with (fail)
      go_ret3
      exact ⟨by (repeat' (first | (with_reducible assumption) | (with_reducible exact Below.refl _ _) | (with_reducible refine below_wov ?_ ?_ _) | (with_reducible refine below_drewN ?_ _) | (with_reducible refine Below.drew ?_) | (with_reducible refine Below.alloc ?_ ?_ _) | (with_reducible refine Below.setCell ?_ ?_ _) | (with_reducible exact Nat.le_refl _) | omega | (simp only [World.size_alloc, World.size_setCell, World.size_drew, Wov_size, World.heap_drewN]; omega))), _, rfl, RowK.nil _ _⟩
    · rw [parseS_eq N S hm h4]
      have h8 : N.length ≤ 8 := by
        unfold mayNames at hm
        simp only [Bool.and_eq_true, decide_eq_true_eq] at hm
        exact hm.1.1
      have FT : Hid (∀ W' p c', (oA N S).2.2 = 0 → SlK sgD W' p (oA N S).1 → Calls Tryz.prog 15 #[.int .i64 N.length, .slice p (oA N S).1.length c'] W' (Gives W' (.int .i64 (checkS N.length (oA N S).1)))) := fun W' p c' h0 h1 => by
        obtain ⟨g1, g2⟩ := oA_good N S h0
        refine fits21_any W' N.length p c' _ h1 h8 (fun s hs => ?_) (fun s hs => ?_) (by omega)
        · have h1 := (g1 s hs).2.2
          have h2 : 2 ^ N.length ≤ 2 ^ 8 := Nat.pow_le_pow_right (by decide) h8
          omega
        · have h1 := g1 s hs; omega
      have SG : Hid (∀ X p, Below W.heap.size W X → p ≤ S.length → Calls Tryz.prog 14 #[.slice q N.length c, .string (bs S), .int .i64 (p : Nat)] X (Gives X (.tuple #[.agg #[.int .i64 (segL N (S.drop p) p).1.1, .int .u8 (segL N (S.drop p) p).1.2], .int .i64 (segL N (S.drop p) p).2.2.1, .int .i64 (segL N (S.drop p) p).2.2.2]))) := fun X p hb hp => segment21_any X q c N S p (hQ.below hb) h8 hp (by omega)
      obtain ⟨o, ho⟩ : ∃ o, o = oA N S := ⟨_, rfl⟩
      rw [← ho] at FT ⊢
      have hIX := Lib.hid (bs_at S)
      obtain ⟨T, hT⟩ : ∃ T, T = bs S := ⟨_, rfl⟩
      rw [← hT] at hsz SG hIX ⊢
      obtain ⟨m, hmm⟩ : ∃ m, m = S.length := ⟨_, rfl⟩
      have Hm := Lib.hid hmm
      rw [← hmm] at hsz h4 SG
      have j : (m : Int) ≤ 4096 := by omega
      obtain ⟨n, hn⟩ : ∃ n, n = N.length := ⟨_, rfl⟩
      rw [← hn] at MN FT SG ⊢
      obtain ⟨k, hk⟩ : ∃ k, k = checkS n o.1 := ⟨_, rfl⟩
      rw [← hk] at FT ⊢
      have HK := Lib.hid hk
      obtain ⟨P, hP⟩ : ∃ P, P = (if o.2.2 ≠ 0 then (([], o.2.1, o.2.2) : List Sg × Nat × Nat) else if k ≠ 0 then ([], 0, k) else (o.1, 0, 0)) := ⟨_, rfl⟩
      rw [← hP]
      have HP := Lib.hid hP
      have HO := Lib.hid ho
      have hm4 : m ≤ 4096 := by omega
      clear hP hQ hN hX hm h4 hT hn h8 ho hk hmm hSl
      by_cases hm0 : m = 0
      · have hS0 : S = [] := List.length_eq_zero_iff.1 (by rw [← Hm.out]; exact hm0)
        have hoo : o = ([], 0, 0) := by rw [HO.out]; unfold oA; rw [if_pos hS0]
        have hk0 : k = 0 := by rw [HK.out, hoo]; exact check_nil n
        have hp : P = ([], 0, 0) := by rw [HP.out, hoo, hk0]; rfl
        have F0 : Hid (∀ W', Calls Tryz.prog 15 #[.int .i64 n, .slice none 0 0] W' (Gives W' (.int .i64 0))) := fun W' => by
          have := FT.out W' none 0 (by rw [hoo]) (by rw [hoo]; exact .inl rfl)
          rw [hoo, hk0] at this
          exact this
        subst hp
        subst hm0
        clear HP HK hk0 hoo hS0 HO FT SG hIX j hm4
        go_enter Tryz.func6, Tryz.ntmps6
        go_wp2_with (fail)
        refine MN.out.mono ?_; rintro e w' ⟨rfl, q1, rfl⟩
        go_wp2_with (fail)
        go_loopg [7] 0 (fun g s7 wr => s7 = .slice none 0 0 ∧ Below W.heap.size W wr)
        case atStart => exact ⟨rfl, by (repeat' (first | (with_reducible assumption) | (with_reducible exact Below.refl _ _) | (with_reducible refine below_wov ?_ ?_ _) | (with_reducible refine below_drewN ?_ _) | (with_reducible refine Below.drew ?_) | (with_reducible refine Below.alloc ?_ ?_ _) | (with_reducible refine Below.setCell ?_ ?_ _) | (with_reducible exact Nat.le_refl _) | omega | (simp only [World.size_alloc, World.size_setCell, World.size_drew, Wov_size, World.heap_drewN]; omega)))⟩
        case round =>
          obtain ⟨rfl, hB⟩ := hrel
          have szr := hB.size
          go_wp2_with (fail)
          refine (F0.out _).mono ?_; rintro e w' ⟨rfl, q2, rfl⟩
          go_wp2_with (fail)
          go_ret3
          exact ⟨by (repeat' (first | (with_reducible assumption) | (with_reducible exact Below.refl _ _) | (with_reducible refine below_wov ?_ ?_ _) | (with_reducible refine below_drewN ?_ _) | (with_reducible refine Below.drew ?_) | (with_reducible refine Below.alloc ?_ ?_ _) | (with_reducible refine Below.setCell ?_ ?_ _) | (with_reducible exact Nat.le_refl _) | omega | (simp only [World.size_alloc, World.size_setCell, World.size_drew, Wov_size, World.heap_drewN]; omega))), _, rfl, RowK.nil _ _⟩
      · have hS0 : S ≠ [] := fun e => hm0 (by rw [Hm.out, e]; rfl)
        have hoo : o = allL N (m + 1) S 0 [] := by rw [HO.out, Hm.out]; unfold oA; rw [if_neg hS0]
        have HO0 := Lib.hid hoo
        have m0 : (0 : Int) < (m : Int) := by omega
        obtain ⟨F, hF⟩ : ∃ F, F = m + 1 := ⟨_, rfl⟩
        have HF := Lib.hid hF
        clear hoo hS0 HO hF
        go_enter Tryz.func6, Tryz.ntmps6
        go_wp2_with (fail)
        refine MN.out.mono ?_; rintro e w' ⟨rfl, q1, rfl⟩
        go_wp2_with (fail)
        go_loopg [7, 8] F (fun g s7 s8 wr => ∃ (p : Nat) (acc : List Sg), s8 = .int .i64 p ∧ p ≤ m ∧ Below W.heap.size W wr ∧ Hid (acc.length ≤ p ∧ o = allL N g (S.drop p) p acc ∧ (S.drop p).length < g ∧ RowK sgD W.heap.size wr s7 acc))
        case atStart => exact ⟨0, [], rfl, Nat.zero_le _, by (repeat' (first | (with_reducible assumption) | (with_reducible exact Below.refl _ _) | (with_reducible refine below_wov ?_ ?_ _) | (with_reducible refine below_drewN ?_ _) | (with_reducible refine Below.drew ?_) | (with_reducible refine Below.alloc ?_ ?_ _) | (with_reducible refine Below.setCell ?_ ?_ _) | (with_reducible exact Nat.le_refl _) | omega | (simp only [World.size_alloc, World.size_setCell, World.size_drew, Wov_size, World.heap_drewN]; omega))), Nat.le_refl _, by rw [List.drop_zero, HF.out]; exact HO0.out, by rw [List.drop_zero, HF.out, ← Hm.out]; omega, RowK.nil _ _⟩
        case round =>
          obtain ⟨p, acc, rfl, hpm, hB, hI⟩ := hrel
          have szr := hB.size
          obtain ⟨hal, ho, hl, hrow⟩ := hI.out
          clear hI
          cases gk with
          | zero => exact absurd hl (Nat.not_lt_zero _)
          | succ g =>
            have S1 := Lib.hid (SG.out wr p hB hpm)
            have hsr := seg_rest N S p (by rw [← Hm.out]; exact hpm)
            have hge := seg_ge N (S.drop p) p
            obtain ⟨so, hso⟩ : ∃ so, so = segL N (S.drop p) p := ⟨_, rfl⟩
            rw [← hso] at S1 hsr hge
            obtain ⟨sg, re, e1, er⟩ := so
            dsimp only at S1 hsr hge
            have HSO := Lib.hid hso
            have HAL := Lib.hid hal
            have HO2 := Lib.hid ho
            have HL2 := Lib.hid hl
            have HROW := Lib.hid hrow
            clear hal ho hl hrow hso
            by_cases her : er = 0
            · subst her
              obtain ⟨hre, he1⟩ := hsr rfl
              rw [← Hm.out] at he1
              have hacc : acc.length ≤ 4096 := by have := HAL.out; omega
              have e10 : (0 : Int) ≤ (e1 : Int) := by omega
              by_cases hend : e1 = m
              · have hoo : o = (acc ++ [sg], 0, 0) := by
                  rw [HO2.out]; unfold allL
                  rw [← HSO.out, if_neg (by simp), if_pos (by rw [hre, hend, Hm.out, List.drop_length])]
                subst hend
                have F1 : Hid (∀ W' pp cc, SlK sgD W' pp (acc ++ [sg]) → Calls Tryz.prog 15 #[.int .i64 n, .slice pp (acc.length + 1) cc] W' (Gives W' (.int .i64 k))) := fun W' pp cc h => by
                  have := FT.out W' pp cc (by rw [hoo]) (by rw [hoo]; exact h)
                  rw [hoo] at this
                  simp only [List.length_append, List.length_cons, List.length_nil, Nat.zero_add] at this
                  exact this
                have HPP : Hid (P = if k ≠ 0 then ([], 0, k) else (acc ++ [sg], 0, 0)) := by show _ = _; rw [HP.out, hoo]; rfl
                clear hoo hre hsr HP FT HO2 HL2 HSO HK
                go_wp2_with (fail)
                refine S1.out.mono ?_; rintro e w' ⟨rfl, q2, rfl⟩
                go_wp2_with (at_builtin; go_loud (refine wpList_appK sgD_ok _ W.heap.size rfl (.tmp 34) (.tmp 36) rfl rfl _ acc [sg] rfl (HROW.out.below (by (repeat' (first | (with_reducible assumption) | (with_reducible exact Below.refl _ _) | (with_reducible refine below_wov ?_ ?_ _) | (with_reducible refine below_drewN ?_ _) | (with_reducible refine Below.drew ?_) | (with_reducible refine Below.alloc ?_ ?_ _) | (with_reducible refine Below.setCell ?_ ?_ _) | (with_reducible exact Nat.le_refl _) | omega | (simp only [World.size_alloc, World.size_setCell, World.size_drew, Wov_size, World.heap_drewN]; omega))))) (some ⟨_, 0, none⟩) 1 rfl (by intro h; cases h) (sg_one (by (first | omega | ((simp only [World.size_alloc, World.size_setCell, World.size_drew, Wov_size, World.heap_drewN, Array.size_append]) <;> omega))) (by simp [go_sem]) (by simp [go_sem])) (by simp; omega) (by (first | omega | ((simp only [World.size_alloc, World.size_setCell, World.size_drew, Wov_size, World.heap_drewN, Array.size_append]) <;> omega))) ?_); go_loud (intro v1 w1 ho1 hg1; have hB1 := Lib.hid (RowK.grown (HROW.out.below (by (repeat' (first | (with_reducible assumption) | (with_reducible exact Below.refl _ _) | (with_reducible refine below_wov ?_ ?_ _) | (with_reducible refine below_drewN ?_ _) | (with_reducible refine Below.drew ?_) | (with_reducible refine Below.alloc ?_ ?_ _) | (with_reducible refine Below.setCell ?_ ?_ _) | (with_reducible exact Nat.le_refl _) | omega | (simp only [World.size_alloc, World.size_setCell, World.size_drew, Wov_size, World.heap_drewN]; omega))))) (show Below W.heap.size W _ by (repeat' (first | (with_reducible assumption) | (with_reducible exact Below.refl _ _) | (with_reducible refine below_wov ?_ ?_ _) | (with_reducible refine below_drewN ?_ _) | (with_reducible refine Below.drew ?_) | (with_reducible refine Below.alloc ?_ ?_ _) | (with_reducible refine Below.setCell ?_ ?_ _) | (with_reducible exact Nat.le_refl _) | omega | (simp only [World.size_alloc, World.size_setCell, World.size_drew, Wov_size, World.heap_drewN]; omega)))) hg1 (by (first | omega | ((simp only [World.size_alloc, World.size_setCell, World.size_drew, Wov_size, World.heap_drewN, Array.size_append]) <;> omega)))); have HO1 := Lib.hid ho1; obtain ⟨p1, cp1, hv1, _, _, hsl⟩ := RowK.sl sgD_ok ho1; subst hv1; have HSL := Lib.hid hsl; clear ho1 hg1 hsl))
                refine (F1.out _ _ _ HSL.out).mono ?_; rintro e w' ⟨rfl, q3, rfl⟩
                have HBz := Lib.hid (hB1.out.trans ((below_Wov w1 q3).mono hB1.out.size))
                have hrz := HO1.out.below (below_Wov w1 q3)
                simp only [List.length_append, List.length_cons, List.length_nil, Nat.zero_add] at hrz
                have HRz := Lib.hid hrz
                clear hrz
                by_cases hk0 : k = 0
                · have hp : P = (acc ++ [sg], 0, 0) := by rw [HPP.out, if_neg (by rw [hk0]; simp)]
                  subst hp
                  subst hk0
                  clear HPP
                  go_wp2_with (fail)
                  go_ret3
                  exact ⟨HBz.out, _, rfl, HRz.out⟩
                · have hp : P = ([], 0, k) := by rw [HPP.out, if_pos hk0]
                  subst hp
                  have hk' : ¬ (k : Int) = 0 := by omega
                  clear HPP
                  go_wp2_with (fail)
                  go_ret3
                  exact ⟨HBz.out, _, rfl, RowK.nil _ _⟩
              · have hlt : e1 < m := by omega
                have i1 : (e1 : Int) < (m : Int) := by omega
                have ne1 : ¬ (e1 : Int) = (m : Int) := by omega
                obtain ⟨x, hx⟩ : ∃ x, S[e1]? = some x := ⟨_, List.getElem?_eq_getElem (by rw [← Hm.out]; exact hlt)⟩
                have gx := hIX.out e1 x hx
                have hhd : re.head? = some x := by rw [hre, List.head?_eq_getElem?, List.getElem?_drop, Nat.add_zero, hx]
                have hrn : re ≠ [] := fun e => by rw [e] at hhd; cases hhd
                by_cases h59 : x = 59
                · subst h59
                  have hoo : o = allL N g (S.drop (e1 + 1)) (e1 + 1) (acc ++ [sg]) := by
                    rw [HO2.out]; conv => lhs; unfold allL
                    rw [← HSO.out, if_neg (by simp), if_neg hrn, if_pos hhd]
                    simp only
                    rw [hre, List.tail_drop]
                  have HOO := Lib.hid hoo
                  have hlg : (S.drop (e1 + 1)).length < g := by
                    have h1 := HL2.out
                    have h2 := Hm.out
                    rw [List.length_drop] at h1 ⊢
                    omega
                  have HLG := Lib.hid hlg
                  have HGE := Lib.hid hge
                  have hw1 : wrap64 ((e1 : Int) + 1) = ((e1 + 1 : Nat) : Int) := by rw [wrap64_id (by omega) (by omega)]; omega
                  clear hoo hlg hre hsr hhd hrn hx hge HSO HO2 HL2 hend
                  go_wp2_with (fail)
                  refine S1.out.mono ?_; rintro e w' ⟨rfl, q2, rfl⟩
                  go_wp2_with (at_builtin; go_loud (refine wpList_appK sgD_ok _ W.heap.size rfl (.tmp 34) (.tmp 36) rfl rfl _ acc [sg] rfl (HROW.out.below (by (repeat' (first | (with_reducible assumption) | (with_reducible exact Below.refl _ _) | (with_reducible refine below_wov ?_ ?_ _) | (with_reducible refine below_drewN ?_ _) | (with_reducible refine Below.drew ?_) | (with_reducible refine Below.alloc ?_ ?_ _) | (with_reducible refine Below.setCell ?_ ?_ _) | (with_reducible exact Nat.le_refl _) | omega | (simp only [World.size_alloc, World.size_setCell, World.size_drew, Wov_size, World.heap_drewN]; omega))))) (some ⟨_, 0, none⟩) 1 rfl (by intro h; cases h) (sg_one (by (first | omega | ((simp only [World.size_alloc, World.size_setCell, World.size_drew, Wov_size, World.heap_drewN, Array.size_append]) <;> omega))) (by simp [go_sem]) (by simp [go_sem])) (by simp; omega) (by (first | omega | ((simp only [World.size_alloc, World.size_setCell, World.size_drew, Wov_size, World.heap_drewN, Array.size_append]) <;> omega))) ?_); go_loud (intro v1 w1 ho1 hg1; have hB1 := Lib.hid (RowK.grown (HROW.out.below (by (repeat' (first | (with_reducible assumption) | (with_reducible exact Below.refl _ _) | (with_reducible refine below_wov ?_ ?_ _) | (with_reducible refine below_drewN ?_ _) | (with_reducible refine Below.drew ?_) | (with_reducible refine Below.alloc ?_ ?_ _) | (with_reducible refine Below.setCell ?_ ?_ _) | (with_reducible exact Nat.le_refl _) | omega | (simp only [World.size_alloc, World.size_setCell, World.size_drew, Wov_size, World.heap_drewN]; omega))))) (show Below W.heap.size W _ by (repeat' (first | (with_reducible assumption) | (with_reducible exact Below.refl _ _) | (with_reducible refine below_wov ?_ ?_ _) | (with_reducible refine below_drewN ?_ _) | (with_reducible refine Below.drew ?_) | (with_reducible refine Below.alloc ?_ ?_ _) | (with_reducible refine Below.setCell ?_ ?_ _) | (with_reducible exact Nat.le_refl _) | omega | (simp only [World.size_alloc, World.size_setCell, World.size_drew, Wov_size, World.heap_drewN]; omega)))) hg1 (by (first | omega | ((simp only [World.size_alloc, World.size_setCell, World.size_drew, Wov_size, World.heap_drewN, Array.size_append]) <;> omega)))); have HO1 := Lib.hid ho1; clear ho1 hg1))
                  go_roundg g
                  case measure => omega
                  case rel =>
                    exact ⟨e1 + 1, acc ++ [sg], by go_num, hlt, hB1.out, by (have := HAL.out; have := HGE.out; simp; omega), HOO.out, HLG.out, HO1.out⟩
                · have hoo : o = ([], e1, 170) := by
                    rw [HO2.out]; unfold allL
                    rw [← HSO.out, if_neg (by simp), if_neg hrn, if_neg (by rw [hhd]; simpa using h59)]
                  have hp : P = ([], e1, 170) := by rw [HP.out, hoo]; rfl
                  subst hp
                  have nx : ((x.toNat : Int) != 59) = true := by
                    rw [bne_iff_ne]
                    intro h
                    exact h59 (UInt8.toNat_inj.1 (by show x.toNat = 59; omega))
                  obtain ⟨y, hy⟩ : ∃ y, y = x.toNat := ⟨_, rfl⟩
                  clear hoo hre hsr hhd hrn hx hge HSO HO2 HL2 HP FT HK hend h59 hy
                  go_wp2_with (fail)
                  refine S1.out.mono ?_; rintro e w' ⟨rfl, q2, rfl⟩
                  go_wp2_with (at_builtin; go_loud (refine wpList_appK sgD_ok _ W.heap.size rfl (.tmp 34) (.tmp 36) rfl rfl _ acc [sg] rfl (HROW.out.below (by (repeat' (first | (with_reducible assumption) | (with_reducible exact Below.refl _ _) | (with_reducible refine below_wov ?_ ?_ _) | (with_reducible refine below_drewN ?_ _) | (with_reducible refine Below.drew ?_) | (with_reducible refine Below.alloc ?_ ?_ _) | (with_reducible refine Below.setCell ?_ ?_ _) | (with_reducible exact Nat.le_refl _) | omega | (simp only [World.size_alloc, World.size_setCell, World.size_drew, Wov_size, World.heap_drewN]; omega))))) (some ⟨_, 0, none⟩) 1 rfl (by intro h; cases h) (sg_one (by (first | omega | ((simp only [World.size_alloc, World.size_setCell, World.size_drew, Wov_size, World.heap_drewN, Array.size_append]) <;> omega))) (by simp [go_sem]) (by simp [go_sem])) (by simp; omega) (by (first | omega | ((simp only [World.size_alloc, World.size_setCell, World.size_drew, Wov_size, World.heap_drewN, Array.size_append]) <;> omega))) ?_); go_loud (intro v1 w1 ho1 hg1; have hB1 := Lib.hid (RowK.grown (HROW.out.below (by (repeat' (first | (with_reducible assumption) | (with_reducible exact Below.refl _ _) | (with_reducible refine below_wov ?_ ?_ _) | (with_reducible refine below_drewN ?_ _) | (with_reducible refine Below.drew ?_) | (with_reducible refine Below.alloc ?_ ?_ _) | (with_reducible refine Below.setCell ?_ ?_ _) | (with_reducible exact Nat.le_refl _) | omega | (simp only [World.size_alloc, World.size_setCell, World.size_drew, Wov_size, World.heap_drewN]; omega))))) (show Below W.heap.size W _ by (repeat' (first | (with_reducible assumption) | (with_reducible exact Below.refl _ _) | (with_reducible refine below_wov ?_ ?_ _) | (with_reducible refine below_drewN ?_ _) | (with_reducible refine Below.drew ?_) | (with_reducible refine Below.alloc ?_ ?_ _) | (with_reducible refine Below.setCell ?_ ?_ _) | (with_reducible exact Nat.le_refl _) | omega | (simp only [World.size_alloc, World.size_setCell, World.size_drew, Wov_size, World.heap_drewN]; omega)))) hg1 (by (first | omega | ((simp only [World.size_alloc, World.size_setCell, World.size_drew, Wov_size, World.heap_drewN, Array.size_append]) <;> omega)))); clear ho1 hg1))
                  go_ret3
                  exact ⟨hB1.out, _, rfl, RowK.nil _ _⟩
            · have hoo : o = ([], e1, er) := by
                rw [HO2.out]; unfold allL
                rw [← HSO.out, if_pos her]
              have hp : P = ([], e1, er) := by rw [HP.out, hoo, if_pos (by exact her)]
              subst hp
              have ner : ¬ (er : Int) = 0 := by omega
              clear hoo hsr hge HSO HO2 HL2 HP FT HK her
              go_wp2_with (fail)
              refine S1.out.mono ?_; rintro e w' ⟨rfl, q2, rfl⟩
              go_wp2_with (fail)
              go_ret3
              exact ⟨by (repeat' (first | (with_reducible assumption) | (with_reducible exact Below.refl _ _) | (with_reducible refine below_wov ?_ ?_ _) | (with_reducible refine below_drewN ?_ _) | (with_reducible refine Below.drew ?_) | (with_reducible refine Below.alloc ?_ ?_ _) | (with_reducible refine Below.setCell ?_ ?_ _) | (with_reducible exact Nat.le_refl _) | omega | (simp only [World.size_alloc, World.size_setCell, World.size_drew, Wov_size, World.heap_drewN]; omega))), _, rfl, RowK.nil _ _⟩
  · rw [Bool.not_eq_true] at hm
    rw [hm] at MN
    have e : parseS N S = ([], 0, 2) := by unfold parseS; rw [if_pos hm]
    rw [e]
    obtain ⟨T, hT⟩ : ∃ T, T = bs S := ⟨_, rfl⟩
    rw [← hT] at hsz ⊢
    obtain ⟨n, hn⟩ : ∃ n, n = N.length := ⟨_, rfl⟩
    rw [← hn] at MN ⊢
    clear hQ hN hX hm e hsz hT hn hSl
    go_enter Tryz.func6, Tryz.ntmps6
    go_wp2_with (fail)
    refine MN.out.mono ?_; rintro e w' ⟨rfl, q1, rfl⟩
    go_wp2_with (fail)
    go_ret3
    exact ⟨by (repeat' (first | (with_reducible assumption) | (with_reducible exact Below.refl _ _) | (with_reducible refine below_wov ?_ ?_ _) | (with_reducible refine below_drewN ?_ _) | (with_reducible refine Below.drew ?_) | (with_reducible refine Below.alloc ?_ ?_ _) | (with_reducible refine Below.setCell ?_ ?_ _) | (with_reducible exact Nat.le_refl _) | omega | (simp only [World.size_alloc, World.size_setCell, World.size_drew, Wov_size, World.heap_drewN]; omega))), _, rfl, RowK.nil _ _⟩
#print axioms parse21_any
end Go.Proofs.YtccbhblklhmcpaaGreatDoor
