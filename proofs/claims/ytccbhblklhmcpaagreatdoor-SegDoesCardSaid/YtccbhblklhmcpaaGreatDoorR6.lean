/- The document's signals: contract of its 'props'. No condition but on sizes. -/
import Derived.Test.YtccbhblklhmcpaaGreatDoorMRA
namespace Go.Proofs.YtccbhblklhmcpaaGreatDoor
set_option linter.unusedSimpArgs false
set_option linter.unusedVariables false
open Go Go.RowKit
attribute [local go_sem] Nat.add_assoc Nat.add_lt_add_iff_left lit_lt_add

theorem bit_add (on : Nat) (k : Int) (k' : Nat) (hk : k = k') (h7 : k' ≤ 7) (ho : on < 2 ^ k') : IntKind.u8.wrap ((on : Int) + 2 ^ min k.toNat 8 % 256) = ((on + 2 ^ k' : Nat) : Int) := by
  rw [IntKind.wrap_u8, hk, Int.toNat_natCast]
  have : k' = 0 ∨ k' = 1 ∨ k' = 2 ∨ k' = 3 ∨ k' = 4 ∨ k' = 5 ∨ k' = 6 ∨ k' = 7 := by omega
  rcases this with rfl | rfl | rfl | rfl | rfl | rfl | rfl | rfl <;> simp at ho ⊢ <;> omega
theorem bit_add2 (on : Nat) (k : Int) (k' : Nat) (hk : k = k') (h7 : k' ≤ 7) (ho : on < 2 ^ k') : ((on : Int) + 2 ^ k.toNat) % 256 = ((on + 2 ^ k' : Nat) : Int) := by
  rw [hk, Int.toNat_natCast]
  have : k' = 0 ∨ k' = 1 ∨ k' = 2 ∨ k' = 3 ∨ k' = 4 ∨ k' = 5 ∨ k' = 6 ∨ k' = 7 := by omega
  rcases this with rfl | rfl | rfl | rfl | rfl | rfl | rfl | rfl <;> simp at ho ⊢ <;> omega
theorem bit_add3 (on : Nat) (k : Int) (k' : Nat) (hk : k = k') (h7 : k' ≤ 7) (ho : on < 2 ^ k') : ((on : Int) + 2 ^ min k.toNat 8) % 256 = ((on + 2 ^ k' : Nat) : Int) := by
  rw [hk, Int.toNat_natCast]
  have : k' = 0 ∨ k' = 1 ∨ k' = 2 ∨ k' = 3 ∨ k' = 4 ∨ k' = 5 ∨ k' = 6 ∨ k' = 7 := by omega
  rcases this with rfl | rfl | rfl | rfl | rfl | rfl | rfl | rfl <;> simp at ho ⊢ <;> omega
set_option maxRecDepth 10000 in
set_option maxHeartbeats 4000000 in
theorem props21_any (w : World) (q : Option Addr) (c : Nat) (N : List (List UInt8)) (s : List UInt8) (p0 : Nat) (hQ : SlS w q N) (hN : N.length ≤ 8) (hp : p0 ≤ s.length) (hs : s.length ≤ 140737488355328) (f0 : Nat) (hf : (s.drop p0).length < f0) :
    Calls Tryz.prog 32 #[.slice q N.length c, .string (bs s), .int .i64 p0] w (Gives w (.tuple #[.int .u8 (onL N f0 (s.drop p0) p0 (-1) 0).1, .int .i64 (onL N f0 (s.drop p0) p0 (-1) 0).2.2.1, .int .i64 (onL N f0 (s.drop p0) p0 (-1) 0).2.2.2])) := by
  obtain ⟨o, ho⟩ : ∃ o, o = onL N f0 (s.drop p0) p0 (-1) 0 := ⟨_, rfl⟩
  rw [← ho]
  have hsz : (bs s).size = s.length := bs_size s
  have hIX := Lib.hid (bs_at s)
  have DG := Lib.hid digit21_any
  have LT := Lib.hid letter21_any
  have AT0 : Hid (∀ x w', Below w.heap.size w w' → Calls Tryz.prog 29 #[.slice q N.length c, .string (bs x)] w' (Gives w' (.int .i64 (idxI N x)))) := fun x w' hb => at16_any q c N x w' (hQ.below hb) (by omega)
  have hEX := Lib.hid (bs_ext s)
  obtain ⟨S, hS⟩ : ∃ S, S = bs s := ⟨_, rfl⟩
  obtain ⟨n, hn⟩ : ∃ n, n = s.length := ⟨_, rfl⟩
  obtain ⟨d, hd⟩ : ∃ d, d = N.length := ⟨_, rfl⟩
  rw [← hS] at hsz hIX hEX ⊢
  rw [← hn] at hsz hp
  rw [← hd] at hN AT0 ⊢
  have HS := Lib.hid hs
  rw [← hn] at hs
  have HSS : Hid (bs s = S) := hS.symm
  have Hn := Lib.hid hn
  have HN : Hid (N.length ≤ 8) := by show _ ≤ _; rw [← hd]; exact hN
  have HO0 := Lib.hid ho
  have HF := Lib.hid hf
  clear hS hn hd ho hf hQ hN
  go_enter Tryz.func32, Tryz.ntmps32
  go_wp2_with (fail)
  go_loopg [2, 9, 10] f0 (fun g s2 s9 s10 wr => ∃ (p : Nat) (last : Int) (on : Nat), s2 = .int .i64 p ∧ s10 = .int .i64 last ∧ s9 = .int .u8 on ∧ p ≤ n ∧ Hid (o = onL N g (s.drop p) p last on) ∧ Hid ((s.drop p).length < g) ∧ -1 ≤ last ∧ last < 8 ∧ Hid (on < 2 ^ (last + 1).toNat) ∧ Below w.heap.size w wr)
  case atStart => exact ⟨p0, -1, 0, rfl, rfl, rfl, hp, HO0.out, HF.out, by omega, by omega, Lib.hid (by decide), Below.refl _ _⟩
  case round =>
    obtain ⟨p, last, on, rfl, rfl, rfl, hpn, HO, HG, la0, la1, HON, hBl⟩ := hrel
    have szr := hBl.size
    have p0' : (0 : Int) ≤ (p : Int) := by omega
    clear hp
    cases gk with
    | zero => exact absurd HG.out (Nat.not_lt_zero _)
    | succ g =>
      by_cases hlt : p < n
      · obtain ⟨x0, hx0⟩ : ∃ x, s[p]? = some x := ⟨_, List.getElem?_eq_getElem (by rw [← Hn.out]; exact hlt)⟩
        have g0 := hIX.out p x0 hx0
        have i1 : (p : Int) < (n : Int) := by omega
        have dnp : decide (n ≤ p) = false := decide_eq_false (by omega)
        have L0 := Lib.hid (LT.out x0)
        have hdr : s.drop p = x0 :: s.drop (p + 1) := by
          rw [List.drop_eq_getElem_cons (by rw [← Hn.out]; exact hlt)]
          congr 1
          rw [List.getElem?_eq_getElem (by rw [← Hn.out]; exact hlt)] at hx0
          exact Option.some.inj hx0
        cases hl0 : isL x0
        · rw [hl0] at L0
          have hoo : o = (0, s.drop p, p, 170) := by rw [HO.out]; unfold onL; rw [if_pos (by rw [hdr, List.takeWhile_cons_of_neg (by rw [hl0]; decide)])]
          have HOO := Lib.hid hoo
          clear hoo hl0 hdr hx0 HON HO
          go_wp2_with (fail)
          refine (L0.out _).mono ?_; rintro e' w' ⟨rfl, q1, rfl⟩
          go_wp2_with (fail)
          go_ret3
          exact gives_end (by rw [HOO.out]; rfl) (by (repeat' (first | (with_reducible assumption) | (with_reducible exact Below.refl _ _) | (with_reducible refine below_wov ?_ ?_ _) | (with_reducible refine below_drewN ?_ _) | (with_reducible refine Below.drew ?_) | (with_reducible refine Below.alloc ?_ ?_ _) | (with_reducible refine Below.setCell ?_ ?_ _) | (with_reducible exact Nat.le_refl _) | omega | (simp only [World.size_alloc, World.size_setCell, World.size_drew, Wov_size, World.heap_drewN]; omega))))
        · rw [hl0] at L0
          have H0 : Hid (¬ (s.drop p).takeWhile isL = []) := by show ¬ _; rw [hdr, List.takeWhile_cons_of_pos hl0]; simp
          have hle := run_le (P := isW) (s := s) (p := p) (by rw [← Hn.out]; exact hpn)
          obtain ⟨l, hl⟩ : ∃ l, l = ((s.drop p).takeWhile isW).length := ⟨_, rfl⟩
          rw [← hl, ← Hn.out] at hle
          have HL := Lib.hid hl
          have HL1 : Hid (1 ≤ l) := by show 1 ≤ l; rw [hl, hdr, List.takeWhile_cons_of_pos (by unfold isW; rw [hl0]; rfl)]; simp
          obtain ⟨k, hk⟩ : ∃ k, k = idxI N ((s.drop p).takeWhile isW) := ⟨_, rfl⟩
          have AT1 := Lib.hid (AT0.out ((s.drop p).takeWhile isW))
          rw [← hk] at AT1
          have HK := Lib.hid hk
          have HU : Hid (∀ e, e = p + l → S.extract p e = bs ((s.drop p).takeWhile isW)) := fun e he => by
            rw [hEX.out, he, show p + l - p = l by omega, hl]
            congr 1
            rw [List.takeWhile_eq_take_findIdx_not]
            simp
          obtain ⟨U, hU⟩ : ∃ U, U = bs ((s.drop p).takeWhile isW) := ⟨_, rfl⟩
          rw [← hU] at AT1 HU
          clear hl hk hl0 hdr hx0 hU
          go_wp2_with (fail)
          refine (L0.out _).mono ?_; rintro e' w' ⟨rfl, q1, rfl⟩
          go_wp2_with (fail)
          go_loopw [11] (fun s11 wi => ∃ e : Nat, s11 = .int .i64 e ∧ p ≤ e ∧ e ≤ p + l ∧ Below w.heap.size w wi) (fun s11 _ => n - (intOf s11).toNat)
          case atStart => exact ⟨p, rfl, Nat.le_refl _, Nat.le_add_right _ _, by (repeat' (first | (with_reducible assumption) | (with_reducible exact Below.refl _ _) | (with_reducible refine below_wov ?_ ?_ _) | (with_reducible refine below_drewN ?_ _) | (with_reducible refine Below.drew ?_) | (with_reducible refine Below.alloc ?_ ?_ _) | (with_reducible refine Below.setCell ?_ ?_ _) | (with_reducible exact Nat.le_refl _) | omega | (simp only [World.size_alloc, World.size_setCell, World.size_drew, Wov_size, World.heap_drewN]; omega)))⟩
          case round =>
            obtain ⟨e, rfl, he1, he2, hBi⟩ := hrel
            have szi := hBi.size
            have e0 : (0 : Int) ≤ (e : Int) := by omega
            have AT := Lib.hid (fun w' hb => AT1.out w' hb)
            by_cases hlt2 : e < p + l
            · obtain ⟨x, hx, hwx, _⟩ := run_in (P := isW) (s := s) (p := p) (i := e - p) (by rw [← HL.out]; omega)
              rw [show p + (e - p) = e by omega] at hx
              have gx := hIX.out e x hx
              have i2 : (e : Int) < (n : Int) := by omega
              have Lx := Lib.hid (LT.out x)
              have Dx := Lib.hid (DG.out x)
              have hw1 : wrap64 ((e : Int) + 1) = ((e + 1 : Nat) : Int) := by rw [wrap64_id (by omega) (by omega)]; omega
              cases hlx : isL x
              · have hdx : isD x = true := by unfold isW at hwx; rw [hlx, Bool.false_or] at hwx; exact hwx
                rw [hlx] at Lx
                rw [hdx] at Dx
                clear hx hwx hlx hdx
                go_wp2_with (fail)
                refine (Lx.out _).mono ?_; rintro e' w' ⟨rfl, q2, rfl⟩
                go_wp2_with (fail)
                refine (Dx.out _).mono ?_; rintro e' w' ⟨rfl, q3, rfl⟩
                go_wp2_with (fail)
                go_roundw
                case rel => exact ⟨e + 1, by go_num, by omega, by omega, by (repeat' (first | (with_reducible assumption) | (with_reducible exact Below.refl _ _) | (with_reducible refine below_wov ?_ ?_ _) | (with_reducible refine below_drewN ?_ _) | (with_reducible refine Below.drew ?_) | (with_reducible refine Below.alloc ?_ ?_ _) | (with_reducible refine Below.setCell ?_ ?_ _) | (with_reducible exact Nat.le_refl _) | omega | (simp only [World.size_alloc, World.size_setCell, World.size_drew, Wov_size, World.heap_drewN]; omega)))⟩
                case measure => simp [intOf]; omega
              · rw [hlx] at Lx
                clear hx hwx hlx Dx
                go_wp2_with (fail)
                refine (Lx.out _).mono ?_; rintro e' w' ⟨rfl, q2, rfl⟩
                go_wp2_with (fail)
                go_roundw
                case rel => exact ⟨e + 1, by go_num, by omega, by omega, by (repeat' (first | (with_reducible assumption) | (with_reducible exact Below.refl _ _) | (with_reducible refine below_wov ?_ ?_ _) | (with_reducible refine below_drewN ?_ _) | (with_reducible refine Below.drew ?_) | (with_reducible refine Below.alloc ?_ ?_ _) | (with_reducible refine Below.setCell ?_ ?_ _) | (with_reducible exact Nat.le_refl _) | omega | (simp only [World.size_alloc, World.size_setCell, World.size_drew, Wov_size, World.heap_drewN]; omega)))⟩
                case measure => simp [intOf]; omega
            · have hel : e = p + l := by omega
              have HE := Lib.hid hel
              have hu := HU.out e hel
              have k1 : (p : Int) ≤ (e : Int) := by omega
              have k2 : (e : Int) ≤ (n : Int) := by omega
              have k3 : e ≤ n := by omega
              clear hel hlt2
              by_cases hen : e < n
              · obtain ⟨x, hx⟩ : ∃ x, s[e]? = some x := ⟨_, List.getElem?_eq_getElem (by rw [← Hn.out]; exact hen)⟩
                have hwx : isW x = false := run_end (P := isW) (s := s) (p := p) (by rw [← HL.out, ← HE.out]; exact hx)
                have gx := hIX.out e x hx
                have i2 : (e : Int) < (n : Int) := by omega
                have Lx := Lib.hid (LT.out x)
                have Dx := Lib.hid (DG.out x)
                have hlx : isL x = false ∧ isD x = false := by unfold isW at hwx; simpa using hwx
                rw [hlx.1] at Lx
                rw [hlx.2] at Dx
                clear hx hwx hlx hen
                go_wp2_with (fail)
                refine (Lx.out _).mono ?_; rintro e' w' ⟨rfl, q1', rfl⟩
                go_wp2_with (fail)
                refine (Dx.out _).mono ?_; rintro e' w' ⟨rfl, q2', rfl⟩
                by_cases k0 : k < 0
                · have hoo : o = (0, s.drop p, p, 161) := by rw [HO.out]; unfold onL; rw [if_neg H0.out, ← HK.out, if_pos k0]
                  have HOO := Lib.hid hoo
                  clear hoo
                  go_wp2_with (fail)
                  refine (AT.out _ (by (repeat' (first | (with_reducible assumption) | (with_reducible exact Below.refl _ _) | (with_reducible refine below_wov ?_ ?_ _) | (with_reducible refine below_drewN ?_ _) | (with_reducible refine Below.drew ?_) | (with_reducible refine Below.alloc ?_ ?_ _) | (with_reducible refine Below.setCell ?_ ?_ _) | (with_reducible exact Nat.le_refl _) | omega | (simp only [World.size_alloc, World.size_setCell, World.size_drew, Wov_size, World.heap_drewN]; omega))))).mono ?_; rintro e' w' ⟨rfl, q3, rfl⟩
                  go_wp2_with (fail)
                  go_ret3
                  exact gives_end (by rw [HOO.out]; rfl) (by (repeat' (first | (with_reducible assumption) | (with_reducible exact Below.refl _ _) | (with_reducible refine below_wov ?_ ?_ _) | (with_reducible refine below_drewN ?_ _) | (with_reducible refine Below.drew ?_) | (with_reducible refine Below.alloc ?_ ?_ _) | (with_reducible refine Below.setCell ?_ ?_ _) | (with_reducible exact Nat.le_refl _) | omega | (simp only [World.size_alloc, World.size_setCell, World.size_drew, Wov_size, World.heap_drewN]; omega))))
                · by_cases kl : k ≤ last
                  · have hoo : o = (0, s.drop p, p, 170) := by rw [HO.out]; unfold onL; rw [if_neg H0.out, ← HK.out, if_neg k0, if_pos kl]
                    have HOO := Lib.hid hoo
                    clear hoo
                    go_wp2_with (fail)
                    refine (AT.out _ (by (repeat' (first | (with_reducible assumption) | (with_reducible exact Below.refl _ _) | (with_reducible refine below_wov ?_ ?_ _) | (with_reducible refine below_drewN ?_ _) | (with_reducible refine Below.drew ?_) | (with_reducible refine Below.alloc ?_ ?_ _) | (with_reducible refine Below.setCell ?_ ?_ _) | (with_reducible exact Nat.le_refl _) | omega | (simp only [World.size_alloc, World.size_setCell, World.size_drew, Wov_size, World.heap_drewN]; omega))))).mono ?_; rintro e' w' ⟨rfl, q3, rfl⟩
                    go_wp2_with (fail)
                    go_ret3
                    exact gives_end (by rw [HOO.out]; rfl) (by (repeat' (first | (with_reducible assumption) | (with_reducible exact Below.refl _ _) | (with_reducible refine below_wov ?_ ?_ _) | (with_reducible refine below_drewN ?_ _) | (with_reducible refine Below.drew ?_) | (with_reducible refine Below.alloc ?_ ?_ _) | (with_reducible refine Below.setCell ?_ ?_ _) | (with_reducible exact Nat.le_refl _) | omega | (simp only [World.size_alloc, World.size_setCell, World.size_drew, Wov_size, World.heap_drewN]; omega))))
                  · obtain ⟨hm, i2, i3, i4, _⟩ := idxI_lt (N := N) (x := (s.drop p).takeWhile isW) (by rw [← HK.out]; omega)
                    obtain ⟨k', hk'⟩ : ∃ k', k' = N.idxOf ((s.drop p).takeWhile isW) := ⟨_, rfl⟩
                    rw [← hk'] at i2 i3 i4
                    have hkk : k = (k' : Int) := HK.out.trans i3
                    have hk7 : k' ≤ 7 := by have := HN.out; omega
                    have hon2 : on < 2 ^ k' := by
                      have : (last + 1).toNat ≤ k' := by omega
                      exact Nat.lt_of_lt_of_le HON.out (Nat.pow_le_pow_right (by decide) this)
                    have hbit := And.intro (bit_add on k k' hkk hk7 hon2) (And.intro (bit_add2 on k k' hkk hk7 hon2) (bit_add3 on k k' hkk hk7 hon2))
                    have kt : k.toNat = k' := by rw [hkk, Int.toNat_natCast]
                    have HBIT := Lib.hid hbit
                    have kn0 : (0 : Int) ≤ k := by omega
                    have kl0 : last < k := by omega
                    have HKK := Lib.hid hkk
                    have HK7 := Lib.hid hk7
                    have HON2 := Lib.hid hon2
                    have HKT := Lib.hid kt
                    have hln : e ≤ n := by omega
                    have HDW : Hid ((s.drop p).dropWhile isW = s.drop e) := by
                      show _ = _
                      rw [← drop_len, List.drop_drop, ← HL.out, HE.out]
                    have hhd : ((s.drop p).dropWhile isW).head? = s[e]? := by rw [HDW.out, List.head?_eq_getElem?, List.getElem?_drop, Nat.add_zero]
                    have hpl : p + ((s.drop p).takeWhile isW).length = e := by rw [← HL.out, HE.out]
                    have IS := Lib.hid (is21_any s e 44 (by omega) HS.out)
                    rw [HSS.out] at IS
                    by_cases h44 : s[e]? = some 44
                    · first
                      | (exfalso; have := (List.getElem?_eq_some_iff.1 h44).1; have := Hn.out; omega)
                      | (
                          have hen : e < n := by rw [Hn.out]; exact (List.getElem?_eq_some_iff.1 h44).1
                          have hoo : o = onL N g (s.drop (e + 1)) (e + 1) k (on + 2 ^ k') := by
                            rw [HO.out]; conv => lhs; unfold onL
                            rw [if_neg H0.out, ← HK.out, if_neg k0, if_neg kl, hhd, if_pos h44, HDW.out, List.tail_drop, hpl, kt]
                          have HOO := Lib.hid hoo
                          rw [decide_eq_true h44] at IS
                          have hlg : (s.drop (e + 1)).length < g := by
                            have := HG.out
                            have h2 := HL1.out
                            have h3 := Hn.out
                            have h4 := HE.out
                            rw [List.length_drop] at this ⊢
                            omega
                          have HLG := Lib.hid hlg
                          have hw1 : wrap64 ((e : Int) + 1) = ((e + 1 : Nat) : Int) := by rw [wrap64_id (by omega) (by omega)]; omega
                          have hk8 : k < 8 := by omega
                          have hkt : (k + 1).toNat = k' + 1 := by omega
                          have hpw : on + 2 ^ k' < 2 ^ (k' + 1) := by rw [Nat.pow_succ]; omega
                          have HPW := Lib.hid hpw
                          have HKT1 := Lib.hid hkt
                          clear hm i2 i3 i4 hk' hkk hk7 hon2 kt hhd hpl h44 hoo hlg hkt hpw hbit
                          go_wp2_with (fail)
                          refine (AT.out _ (by (repeat' (first | (with_reducible assumption) | (with_reducible exact Below.refl _ _) | (with_reducible refine below_wov ?_ ?_ _) | (with_reducible refine below_drewN ?_ _) | (with_reducible refine Below.drew ?_) | (with_reducible refine Below.alloc ?_ ?_ _) | (with_reducible refine Below.setCell ?_ ?_ _) | (with_reducible exact Nat.le_refl _) | omega | (simp only [World.size_alloc, World.size_setCell, World.size_drew, Wov_size, World.heap_drewN]; omega))))).mono ?_; rintro e' w' ⟨rfl, q3, rfl⟩
                          go_wp2_with (fail)
                          refine (IS.out _).mono ?_; rintro e' w' ⟨rfl, q4, rfl⟩
                          go_wp2_with (fail)
                          go_roundg g
                          case measure => omega
                          case rel =>
                            exact ⟨e + 1, k, on + 2 ^ k', by go_num, rfl, by first | rfl | (rw [HBIT.out.1]; done) | (rw [HBIT.out.2.1]; done) | (rw [HBIT.out.2.2]; done), hen, HOO.out, HLG.out, by omega, hk8, by rw [HKT1.out]; exact HPW.out, by (repeat' (first | (with_reducible assumption) | (with_reducible exact Below.refl _ _) | (with_reducible refine below_wov ?_ ?_ _) | (with_reducible refine below_drewN ?_ _) | (with_reducible refine Below.drew ?_) | (with_reducible refine Below.alloc ?_ ?_ _) | (with_reducible refine Below.setCell ?_ ?_ _) | (with_reducible exact Nat.le_refl _) | omega | (simp only [World.size_alloc, World.size_setCell, World.size_drew, Wov_size, World.heap_drewN]; omega)))⟩
                        )
                    · have hoo : o = (on + 2 ^ k', s.drop e, e, 0) := by
                        rw [HO.out]; unfold onL
                        rw [if_neg H0.out, ← HK.out, if_neg k0, if_neg kl, hhd, if_neg h44, HDW.out, hpl, kt]
                      have HOO := Lib.hid hoo
                      rw [decide_eq_false h44] at IS
                      clear hm i2 i3 i4 hk' hkk hk7 hon2 kt hhd hpl h44 hoo hbit
                      go_wp2_with (fail)
                      refine (AT.out _ (by (repeat' (first | (with_reducible assumption) | (with_reducible exact Below.refl _ _) | (with_reducible refine below_wov ?_ ?_ _) | (with_reducible refine below_drewN ?_ _) | (with_reducible refine Below.drew ?_) | (with_reducible refine Below.alloc ?_ ?_ _) | (with_reducible refine Below.setCell ?_ ?_ _) | (with_reducible exact Nat.le_refl _) | omega | (simp only [World.size_alloc, World.size_setCell, World.size_drew, Wov_size, World.heap_drewN]; omega))))).mono ?_; rintro e' w' ⟨rfl, q3, rfl⟩
                      go_wp2_with (fail)
                      refine (IS.out _).mono ?_; rintro e' w' ⟨rfl, q4, rfl⟩
                      go_wp2_with (fail)
                      go_ret3
                      exact gives_end (by rw [HOO.out]; first | rfl | (rw [HBIT.out.1]; rfl) | (rw [HBIT.out.2.1]; rfl) | (rw [HBIT.out.2.2]; rfl)) (by (repeat' (first | (with_reducible assumption) | (with_reducible exact Below.refl _ _) | (with_reducible refine below_wov ?_ ?_ _) | (with_reducible refine below_drewN ?_ _) | (with_reducible refine Below.drew ?_) | (with_reducible refine Below.alloc ?_ ?_ _) | (with_reducible refine Below.setCell ?_ ?_ _) | (with_reducible exact Nat.le_refl _) | omega | (simp only [World.size_alloc, World.size_setCell, World.size_drew, Wov_size, World.heap_drewN]; omega))))
              · have i2 : (n : Int) ≤ (e : Int) := by omega
                clear hen
                by_cases k0 : k < 0
                · have hoo : o = (0, s.drop p, p, 161) := by rw [HO.out]; unfold onL; rw [if_neg H0.out, ← HK.out, if_pos k0]
                  have HOO := Lib.hid hoo
                  clear hoo
                  go_wp2_with (fail)
                  refine (AT.out _ (by (repeat' (first | (with_reducible assumption) | (with_reducible exact Below.refl _ _) | (with_reducible refine below_wov ?_ ?_ _) | (with_reducible refine below_drewN ?_ _) | (with_reducible refine Below.drew ?_) | (with_reducible refine Below.alloc ?_ ?_ _) | (with_reducible refine Below.setCell ?_ ?_ _) | (with_reducible exact Nat.le_refl _) | omega | (simp only [World.size_alloc, World.size_setCell, World.size_drew, Wov_size, World.heap_drewN]; omega))))).mono ?_; rintro e' w' ⟨rfl, q3, rfl⟩
                  go_wp2_with (fail)
                  go_ret3
                  exact gives_end (by rw [HOO.out]; rfl) (by (repeat' (first | (with_reducible assumption) | (with_reducible exact Below.refl _ _) | (with_reducible refine below_wov ?_ ?_ _) | (with_reducible refine below_drewN ?_ _) | (with_reducible refine Below.drew ?_) | (with_reducible refine Below.alloc ?_ ?_ _) | (with_reducible refine Below.setCell ?_ ?_ _) | (with_reducible exact Nat.le_refl _) | omega | (simp only [World.size_alloc, World.size_setCell, World.size_drew, Wov_size, World.heap_drewN]; omega))))
                · by_cases kl : k ≤ last
                  · have hoo : o = (0, s.drop p, p, 170) := by rw [HO.out]; unfold onL; rw [if_neg H0.out, ← HK.out, if_neg k0, if_pos kl]
                    have HOO := Lib.hid hoo
                    clear hoo
                    go_wp2_with (fail)
                    refine (AT.out _ (by (repeat' (first | (with_reducible assumption) | (with_reducible exact Below.refl _ _) | (with_reducible refine below_wov ?_ ?_ _) | (with_reducible refine below_drewN ?_ _) | (with_reducible refine Below.drew ?_) | (with_reducible refine Below.alloc ?_ ?_ _) | (with_reducible refine Below.setCell ?_ ?_ _) | (with_reducible exact Nat.le_refl _) | omega | (simp only [World.size_alloc, World.size_setCell, World.size_drew, Wov_size, World.heap_drewN]; omega))))).mono ?_; rintro e' w' ⟨rfl, q3, rfl⟩
                    go_wp2_with (fail)
                    go_ret3
                    exact gives_end (by rw [HOO.out]; rfl) (by (repeat' (first | (with_reducible assumption) | (with_reducible exact Below.refl _ _) | (with_reducible refine below_wov ?_ ?_ _) | (with_reducible refine below_drewN ?_ _) | (with_reducible refine Below.drew ?_) | (with_reducible refine Below.alloc ?_ ?_ _) | (with_reducible refine Below.setCell ?_ ?_ _) | (with_reducible exact Nat.le_refl _) | omega | (simp only [World.size_alloc, World.size_setCell, World.size_drew, Wov_size, World.heap_drewN]; omega))))
                  · obtain ⟨hm, i2, i3, i4, _⟩ := idxI_lt (N := N) (x := (s.drop p).takeWhile isW) (by rw [← HK.out]; omega)
                    obtain ⟨k', hk'⟩ : ∃ k', k' = N.idxOf ((s.drop p).takeWhile isW) := ⟨_, rfl⟩
                    rw [← hk'] at i2 i3 i4
                    have hkk : k = (k' : Int) := HK.out.trans i3
                    have hk7 : k' ≤ 7 := by have := HN.out; omega
                    have hon2 : on < 2 ^ k' := by
                      have : (last + 1).toNat ≤ k' := by omega
                      exact Nat.lt_of_lt_of_le HON.out (Nat.pow_le_pow_right (by decide) this)
                    have hbit := And.intro (bit_add on k k' hkk hk7 hon2) (And.intro (bit_add2 on k k' hkk hk7 hon2) (bit_add3 on k k' hkk hk7 hon2))
                    have kt : k.toNat = k' := by rw [hkk, Int.toNat_natCast]
                    have HBIT := Lib.hid hbit
                    have kn0 : (0 : Int) ≤ k := by omega
                    have kl0 : last < k := by omega
                    have HKK := Lib.hid hkk
                    have HK7 := Lib.hid hk7
                    have HON2 := Lib.hid hon2
                    have HKT := Lib.hid kt
                    have hln : e ≤ n := by omega
                    have HDW : Hid ((s.drop p).dropWhile isW = s.drop e) := by
                      show _ = _
                      rw [← drop_len, List.drop_drop, ← HL.out, HE.out]
                    have hhd : ((s.drop p).dropWhile isW).head? = s[e]? := by rw [HDW.out, List.head?_eq_getElem?, List.getElem?_drop, Nat.add_zero]
                    have hpl : p + ((s.drop p).takeWhile isW).length = e := by rw [← HL.out, HE.out]
                    have IS := Lib.hid (is21_any s e 44 (by omega) HS.out)
                    rw [HSS.out] at IS
                    by_cases h44 : s[e]? = some 44
                    · first
                      | (exfalso; have := (List.getElem?_eq_some_iff.1 h44).1; have := Hn.out; omega)
                      | (
                          have hen : e < n := by rw [Hn.out]; exact (List.getElem?_eq_some_iff.1 h44).1
                          have hoo : o = onL N g (s.drop (e + 1)) (e + 1) k (on + 2 ^ k') := by
                            rw [HO.out]; conv => lhs; unfold onL
                            rw [if_neg H0.out, ← HK.out, if_neg k0, if_neg kl, hhd, if_pos h44, HDW.out, List.tail_drop, hpl, kt]
                          have HOO := Lib.hid hoo
                          rw [decide_eq_true h44] at IS
                          have hlg : (s.drop (e + 1)).length < g := by
                            have := HG.out
                            have h2 := HL1.out
                            have h3 := Hn.out
                            have h4 := HE.out
                            rw [List.length_drop] at this ⊢
                            omega
                          have HLG := Lib.hid hlg
                          have hw1 : wrap64 ((e : Int) + 1) = ((e + 1 : Nat) : Int) := by rw [wrap64_id (by omega) (by omega)]; omega
                          have hk8 : k < 8 := by omega
                          have hkt : (k + 1).toNat = k' + 1 := by omega
                          have hpw : on + 2 ^ k' < 2 ^ (k' + 1) := by rw [Nat.pow_succ]; omega
                          have HPW := Lib.hid hpw
                          have HKT1 := Lib.hid hkt
                          clear hm i2 i3 i4 hk' hkk hk7 hon2 kt hhd hpl h44 hoo hlg hkt hpw hbit
                          go_wp2_with (fail)
                          refine (AT.out _ (by (repeat' (first | (with_reducible assumption) | (with_reducible exact Below.refl _ _) | (with_reducible refine below_wov ?_ ?_ _) | (with_reducible refine below_drewN ?_ _) | (with_reducible refine Below.drew ?_) | (with_reducible refine Below.alloc ?_ ?_ _) | (with_reducible refine Below.setCell ?_ ?_ _) | (with_reducible exact Nat.le_refl _) | omega | (simp only [World.size_alloc, World.size_setCell, World.size_drew, Wov_size, World.heap_drewN]; omega))))).mono ?_; rintro e' w' ⟨rfl, q3, rfl⟩
                          go_wp2_with (fail)
                          refine (IS.out _).mono ?_; rintro e' w' ⟨rfl, q4, rfl⟩
                          go_wp2_with (fail)
                          go_roundg g
                          case measure => omega
                          case rel =>
                            exact ⟨e + 1, k, on + 2 ^ k', by go_num, rfl, by first | rfl | (rw [HBIT.out.1]; done) | (rw [HBIT.out.2.1]; done) | (rw [HBIT.out.2.2]; done), hen, HOO.out, HLG.out, by omega, hk8, by rw [HKT1.out]; exact HPW.out, by (repeat' (first | (with_reducible assumption) | (with_reducible exact Below.refl _ _) | (with_reducible refine below_wov ?_ ?_ _) | (with_reducible refine below_drewN ?_ _) | (with_reducible refine Below.drew ?_) | (with_reducible refine Below.alloc ?_ ?_ _) | (with_reducible refine Below.setCell ?_ ?_ _) | (with_reducible exact Nat.le_refl _) | omega | (simp only [World.size_alloc, World.size_setCell, World.size_drew, Wov_size, World.heap_drewN]; omega)))⟩
                        )
                    · have hoo : o = (on + 2 ^ k', s.drop e, e, 0) := by
                        rw [HO.out]; unfold onL
                        rw [if_neg H0.out, ← HK.out, if_neg k0, if_neg kl, hhd, if_neg h44, HDW.out, hpl, kt]
                      have HOO := Lib.hid hoo
                      rw [decide_eq_false h44] at IS
                      clear hm i2 i3 i4 hk' hkk hk7 hon2 kt hhd hpl h44 hoo hbit
                      go_wp2_with (fail)
                      refine (AT.out _ (by (repeat' (first | (with_reducible assumption) | (with_reducible exact Below.refl _ _) | (with_reducible refine below_wov ?_ ?_ _) | (with_reducible refine below_drewN ?_ _) | (with_reducible refine Below.drew ?_) | (with_reducible refine Below.alloc ?_ ?_ _) | (with_reducible refine Below.setCell ?_ ?_ _) | (with_reducible exact Nat.le_refl _) | omega | (simp only [World.size_alloc, World.size_setCell, World.size_drew, Wov_size, World.heap_drewN]; omega))))).mono ?_; rintro e' w' ⟨rfl, q3, rfl⟩
                      go_wp2_with (fail)
                      refine (IS.out _).mono ?_; rintro e' w' ⟨rfl, q4, rfl⟩
                      go_wp2_with (fail)
                      go_ret3
                      exact gives_end (by rw [HOO.out]; first | rfl | (rw [HBIT.out.1]; rfl) | (rw [HBIT.out.2.1]; rfl) | (rw [HBIT.out.2.2]; rfl)) (by (repeat' (first | (with_reducible assumption) | (with_reducible exact Below.refl _ _) | (with_reducible refine below_wov ?_ ?_ _) | (with_reducible refine below_drewN ?_ _) | (with_reducible refine Below.drew ?_) | (with_reducible refine Below.alloc ?_ ?_ _) | (with_reducible refine Below.setCell ?_ ?_ _) | (with_reducible exact Nat.le_refl _) | omega | (simp only [World.size_alloc, World.size_setCell, World.size_drew, Wov_size, World.heap_drewN]; omega))))
      · have i1 : (n : Int) ≤ (p : Int) := by omega
        have hoo : o = (0, s.drop p, p, 170) := by rw [HO.out]; unfold onL; rw [if_pos (by rw [List.drop_eq_nil_of_le (by rw [← Hn.out]; omega)]; rfl)]
        have HOO := Lib.hid hoo
        clear hoo hlt HON HO
        go_wp2_with (fail)
        go_ret3
        exact gives_end (by rw [HOO.out]; rfl) (by (repeat' (first | (with_reducible assumption) | (with_reducible exact Below.refl _ _) | (with_reducible refine below_wov ?_ ?_ _) | (with_reducible refine below_drewN ?_ _) | (with_reducible refine Below.drew ?_) | (with_reducible refine Below.alloc ?_ ?_ _) | (with_reducible refine Below.setCell ?_ ?_ _) | (with_reducible exact Nat.le_refl _) | omega | (simp only [World.size_alloc, World.size_setCell, World.size_drew, Wov_size, World.heap_drewN]; omega))))
#print axioms props21_any
end Go.Proofs.YtccbhblklhmcpaaGreatDoor
