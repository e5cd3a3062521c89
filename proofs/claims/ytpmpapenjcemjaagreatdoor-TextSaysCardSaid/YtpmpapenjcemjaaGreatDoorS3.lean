/- Zones' texts: contracts of text.written and joined. No condition but that bounds may be. -/
import Derived.Test.YtpmpapenjcemjaaGreatDoorS2
import Derived.Test.YtpmpapenjcemjaaGreatDoorMP
namespace Go.Proofs.YtpmpapenjcemjaaGreatDoor
set_option linter.unusedSimpArgs false
set_option linter.unusedVariables false
open Go Go.RowKit Go.Shelf
attribute [local go_sem] Nat.add_assoc Nat.add_lt_add_iff_left lit_lt_add

set_option maxRecDepth 10000 in
set_option maxHeartbeats 2000000 in
theorem written_core (lo hi nl nh : Int) (il ol ih oh : Bool) (A1 A2 C1 C2 : List UInt8) (w : World)
    (EL : Hid (Pure Tryz.prog 77 #[.int .i64 lo] (end3 nl il ol))) (EH : Hid (Pure Tryz.prog 77 #[.int .i64 hi] (end3 nh ih oh)))
    (hn : -9223372036854775807 ≤ nl ∧ nl ≤ 9223372036854775807)
    (SL : Hid (∀ w', Below w.heap.size w w' → Calls Tryz.prog 78 #[.agg #[.string (bs [40, 91]), .string (bs [45, 111, 111])], end3 (-nl) il ol] w' (Gives w' (.tuple #[.string (bs A1), .string (bs A2)]))))
    (SH : Hid (∀ w', Below w.heap.size w w' → Calls Tryz.prog 78 #[.agg #[.string (bs [41, 93]), .string (bs [111, 111])], end3 nh ih oh] w' (Gives w' (.tuple #[.string (bs C1), .string (bs C2)]))))
    (h1 : A1.length ≤ 100) (h2 : A2.length ≤ 100) (h3 : C1.length ≤ 100) (h4 : C2.length ≤ 100) :
    Calls Tryz.prog 39 #[.int .i64 lo, .int .i64 hi] w (Gives w (.string (bs (A1 ++ (A2 ++ 44 :: (C2 ++ C1)))))) := by
  have SI : Hid (Pure Tryz.prog 76 #[] (.agg #[.string (bs [40, 91]), .string (bs [45, 111, 111]), .string (bs [41, 93]), .string (bs [111, 111])])) := sides_any31
  have e : bs (A1 ++ (A2 ++ 44 :: (C2 ++ C1))) = (((bs A1 ++ bs A2) ++ bs [44]) ++ bs C2) ++ bs C1 := by
    simp only [bs_app, List.append_assoc]; rfl
  rw [e]
  have z1 : (bs A1).size ≤ 100 := by rw [bs_size]; exact h1
  have z2 : (bs A2).size ≤ 100 := by rw [bs_size]; exact h2
  have z3 : (bs C1).size ≤ 100 := by rw [bs_size]; exact h3
  have z4 : (bs C2).size ≤ 100 := by rw [bs_size]; exact h4
  have z5 : (bs [44]).size = 1 := rfl
  have e5 : (bs [44]) = { data := #[44] } := rfl
  rw [e5] at z5
  rw [e5]
  obtain ⟨a1, ha1⟩ : ∃ b, b = bs A1 := ⟨_, rfl⟩
  obtain ⟨a2, ha2⟩ : ∃ b, b = bs A2 := ⟨_, rfl⟩
  obtain ⟨c1, hc1⟩ : ∃ b, b = bs C1 := ⟨_, rfl⟩
  obtain ⟨c2, hc2⟩ : ∃ b, b = bs C2 := ⟨_, rfl⟩
  rw [← ha1] at z1 SL ⊢
  rw [← ha2] at z2 SL ⊢
  rw [← hc1] at z3 SH ⊢
  rw [← hc2] at z4 SH ⊢
  have k1 : ¬ 9223372036854775807 < a1.size + a2.size := by omega
  have k2 : ¬ 9223372036854775807 < (a1 ++ a2).size + (ByteArray.mk #[44]).size := by rw [ByteArray.size_append]; omega
  have k3 : ¬ 9223372036854775807 < (a1 ++ a2 ++ (ByteArray.mk #[44])).size + c2.size := by rw [ByteArray.size_append, ByteArray.size_append]; omega
  have k4 : ¬ 9223372036854775807 < (a1 ++ a2 ++ (ByteArray.mk #[44]) ++ c2).size + c1.size := by rw [ByteArray.size_append, ByteArray.size_append, ByteArray.size_append]; omega
  have hw : wrap64 (-nl) = -nl := wrap64_id (by omega) (by omega)
  unfold end3 at EL EH SL SH
  clear e e5 z1 z2 z3 z4 z5 h1 h2 h3 h4 ha1 ha2 hc1 hc2
  go_enter Tryz.func39, Tryz.ntmps39
  go_wp2_with (fail)
  refine (SI.out _).mono ?_; rintro e w' ⟨rfl, q1, rfl⟩
  go_wp2_with (fail)
  refine (EL.out _).mono ?_; rintro e w' ⟨rfl, q2, rfl⟩
  go_wp2_with (fail)
  refine (SL.out _ (by (repeat' (first | (with_reducible assumption) | (with_reducible exact Below.refl _ _) | (with_reducible refine below_wov ?_ ?_ _) | (with_reducible refine below_drewN ?_ _) | (with_reducible refine Below.drew ?_) | (with_reducible refine Below.alloc ?_ ?_ _) | (with_reducible refine Below.setCell ?_ ?_ _) | (with_reducible exact Nat.le_refl _) | omega | (simp only [World.size_alloc, World.size_setCell, World.size_drew, Wov_size, World.heap_drewN]; omega))))).mono ?_; rintro e w' ⟨rfl, q3, rfl⟩
  go_wp2_with (fail)
  obtain ⟨S1, hS1⟩ : ∃ A, w.heap.size + q1.bl.size = A := ⟨_, rfl⟩
  rw [hS1]
  refine wp_world (fun W => Below w.heap.size w W ∧ S1 < W.heap.size ∧ W.cell? ⟨S1, 2, none⟩ = some (.string (bs [41, 93])) ∧ W.cell? ⟨S1, 3, none⟩ = some (.string (bs [111, 111]))) ⟨by (repeat' (first | (with_reducible assumption) | (with_reducible exact Below.refl _ _) | (with_reducible refine below_wov ?_ ?_ _) | (with_reducible refine below_drewN ?_ _) | (with_reducible refine Below.drew ?_) | (with_reducible refine Below.alloc ?_ ?_ _) | (with_reducible refine Below.setCell ?_ ?_ _) | (with_reducible exact Nat.le_refl _) | omega | (simp only [World.size_alloc, World.size_setCell, World.size_drew, Wov_size, World.heap_drewN]; omega))), by rw [← hS1]; (first | omega | ((simp only [World.size_alloc, World.size_setCell, World.size_drew, Wov_size, World.heap_drewN, Array.size_append]) <;> omega)), by rw [← hS1]; simp [go_sem], by rw [← hS1]; simp [go_sem]⟩ ?_
  rintro W1 ⟨hb1, sl, s2, s3⟩
  have hs1 := hb1.size
  have D1 := Lib.hid (gives_at (W := W1) (fun w' (_ : Below W1.heap.size W1 w') => EH.out w'))
  have D2 := Lib.hid (gives_at (W := W1) (fun w' (hb : Below W1.heap.size W1 w') => SH.out w' (Below.trans hb1 (hb.mono hs1))))
  clear EL SL EH SH SI hS1
  refine wp_region_wov (by kernel_rfl) (by kernel_rfl) ?_
  repeat (go_big_quiet_step (first | (go_at_call 77; exact D1.out _) | (go_at_call 78; exact D2.out _)))
  refine wpQuiet_nil ?_
  rintro _ ⟨pq, rfl⟩
  clear D1 D2
  go_wp2
  go_ret
  exact gives_end rfl (by (repeat' (first | (with_reducible assumption) | (with_reducible exact Below.refl _ _) | (with_reducible refine below_wov ?_ ?_ _) | (with_reducible refine below_drewN ?_ _) | (with_reducible refine Below.drew ?_) | (with_reducible refine Below.alloc ?_ ?_ _) | (with_reducible refine Below.setCell ?_ ?_ _) | (with_reducible exact Nat.le_refl _) | omega | (simp only [World.size_alloc, World.size_setCell, World.size_drew, Wov_size, World.heap_drewN]; omega))))

theorem itoa_len {n : Int} (h0 : -9223372036854775808 ≤ n) (h1 : n ≤ 9223372036854775807) : (Lib.itoa n).length ≤ 100 := Nat.le_trans (Lib.itoa_length_le n h0 h1) (by omega)
theorem written_any (lo hi : Int) (hl : mayB lo = true) (hh : mayB hi = true) (w : World) (ht : Tab w) : Calls Tryz.prog 39 #[.int .i64 lo, .int .i64 hi] w (Gives w (.string (bs (ivT lo hi)))) := by
  have fl := mayB_fits hl
  have fh := mayB_fits hh
  have EL0 := ended_any lo fl.1 fl.2
  have EH0 := ended_any hi fh.1 fh.2
  have key : ∀ (nl nh : Int) (il ol ih oh : Bool) (A1 A2 C1 C2 : List UInt8), lowT lo = A1 ++ A2 → highT hi = C2 ++ C1 → ivT lo hi = A1 ++ (A2 ++ 44 :: (C2 ++ C1)) := by
    intro nl nh il ol ih oh A1 A2 C1 C2 e1 e2
    unfold ivT
    rw [e1, e2, List.append_assoc]
  by_cases h1 : lo = noneB
  · rw [if_pos h1] at EL0
    have SL := says_none 40 91 [45, 111, 111]
    by_cases h2 : hi = noneB
    · rw [if_pos h2] at EH0
      have SH := says_none 41 93 [111, 111]
      rw [key 0 0 false true false true [40] [45, 111, 111] [41] [111, 111] (by unfold lowT; rw [if_pos h1]; rfl) (by unfold highT; rw [if_pos h2]; rfl)]
      exact written_core lo hi 0 0 false true false true _ _ _ _ w EL0 EH0 (by omega) (fun w' _ => SL w') (fun w' _ => SH w') (by decide) (by decide) (by decide) (by decide)
    · rw [if_neg h2] at EH0
      have b2 : -288230376151711744 ≤ hi / 2 ∧ hi / 2 ≤ 288230376151711744 := (mayB_bd hh).resolve_left h2
      have SH := fun w' hb => says_num 41 93 [111, 111] (hi / 2) (decide (hi % 2 = 1)) (by omega) (by omega) w' (ht.below hb)
      rw [key 0 (hi / 2) false true (decide (hi % 2 = 1)) false [40] [45, 111, 111] [if decide (hi % 2 = 1) then 93 else 41] (Lib.itoa (hi / 2)) (by unfold lowT; rw [if_pos h1]; rfl) (by unfold highT; rw [if_neg h2]; simp)]
      exact written_core lo hi 0 (hi / 2) false true _ false _ _ _ _ w EL0 EH0 (by omega) (fun w' _ => SL w') SH (by decide) (by decide) (by simp) (itoa_len (by omega) (by omega))
  · rw [if_neg h1] at EL0
    have b1 : -288230376151711744 ≤ lo / 2 ∧ lo / 2 ≤ 288230376151711744 := (mayB_bd hl).resolve_left h1
    have SL := fun w' hb => says_num 40 91 [45, 111, 111] (-(lo / 2)) (decide (lo % 2 = 1)) (by omega) (by omega) w' (ht.below hb)
    by_cases h2 : hi = noneB
    · rw [if_pos h2] at EH0
      have SH := says_none 41 93 [111, 111]
      rw [key (lo / 2) 0 (decide (lo % 2 = 1)) false false true [if decide (lo % 2 = 1) then 91 else 40] (Lib.itoa (-(lo / 2))) [41] [111, 111] (by unfold lowT; rw [if_neg h1]; simp) (by unfold highT; rw [if_pos h2]; rfl)]
      exact written_core lo hi (lo / 2) 0 _ false false true _ _ _ _ w EL0 EH0 (by omega) SL (fun w' _ => SH w') (by simp) (itoa_len (by omega) (by omega)) (by decide) (by decide)
    · rw [if_neg h2] at EH0
      have b2 : -288230376151711744 ≤ hi / 2 ∧ hi / 2 ≤ 288230376151711744 := (mayB_bd hh).resolve_left h2
      have SH := fun w' hb => says_num 41 93 [111, 111] (hi / 2) (decide (hi % 2 = 1)) (by omega) (by omega) w' (ht.below hb)
      rw [key (lo / 2) (hi / 2) (decide (lo % 2 = 1)) false (decide (hi % 2 = 1)) false [if decide (lo % 2 = 1) then 91 else 40] (Lib.itoa (-(lo / 2))) [if decide (hi % 2 = 1) then 93 else 41] (Lib.itoa (hi / 2)) (by unfold lowT; rw [if_neg h1]; simp) (by unfold highT; rw [if_neg h2]; simp)]
      exact written_core lo hi (lo / 2) (hi / 2) _ false _ false _ _ _ _ w EL0 EH0 (by omega) SL SH (by simp) (itoa_len (by omega) (by omega)) (by simp) (itoa_len (by omega) (by omega))
theorem joined_any (p : Option Addr) (xs : List (List UInt8)) (c : Nat) (sep : List UInt8) (w : World) (hS : SlS w p xs) (hc : xs.length ≤ c) (hl : (Lib.join xs sep).length ≤ 140737488355328) (hn : xs.length ≤ 140737488355328) :
    Calls Tryz.prog 38 #[.string (bs sep), .slice p xs.length c] w (Gives w (.string (bs (Lib.join xs sep)))) := by
  have J : Hid (Calls Tryz.prog 30 #[.slice p xs.length c, .string (bs sep)] w (Gives w (.string (bs (Lib.join xs sep))))) := join_any p xs c sep w hS hc hl hn
  obtain ⟨n, hnn⟩ : ∃ n, n = xs.length := ⟨_, rfl⟩
  obtain ⟨r, hr⟩ : ∃ r, r = bs (Lib.join xs sep) := ⟨_, rfl⟩
  rw [← hnn, ← hr] at J ⊢
  obtain ⟨s, hs⟩ : ∃ s, s = bs sep := ⟨_, rfl⟩
  rw [← hs] at J ⊢
  clear hS hc hl hn hnn hr hs
  go_enter Tryz.func38, Tryz.ntmps38
  go_wp2_with (fail)
  refine J.out.mono ?_; rintro e w' ⟨rfl, q1, rfl⟩
  go_wp2
  go_ret
  exact gives_end rfl (by (repeat' (first | (with_reducible assumption) | (with_reducible exact Below.refl _ _) | (with_reducible refine below_wov ?_ ?_ _) | (with_reducible refine below_drewN ?_ _) | (with_reducible refine Below.drew ?_) | (with_reducible refine Below.alloc ?_ ?_ _) | (with_reducible refine Below.setCell ?_ ?_ _) | (with_reducible exact Nat.le_refl _) | omega | (simp only [World.size_alloc, World.size_setCell, World.size_drew, Wov_size, World.heap_drewN]; omega))))
#print axioms joined_any
end Go.Proofs.YtpmpapenjcemjaaGreatDoor
