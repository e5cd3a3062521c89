/- Contracts of comp.Back and comp.Firsts, and of the document's. No condition. -/
import Derived.Test.YtbgbhfcnadjhdaaL3
import Derived.Test.YtbgbhfcnadjhdaaH8
namespace Go.Proofs.Ytbgbhfcnadjhdaa
set_option linter.unusedSimpArgs false
set_option linter.unusedVariables false
open Go Go.RowKit Go.Shelf
attribute [local go_sem] Nat.add_assoc Nat.add_lt_add_iff_left lit_lt_add

theorem bvalue_some {x : Int} (h : mayB x = true) (hn : x ≠ noneB) : Pure Try.prog 64 #[.int .i64 x] (.tuple #[.int .i64 (bnum x), .bool (bstr x), .int .i64 0]) :=
  value_ok (mayB_fits h).1 (mayB_fits h).2 (bd_okB (mayB_bd h) (by omega)) hn
/-- A zone the other way round, or the error. -/
def backR (z : Nat → Int) : (Nat → Int) × Int := if okZ z then (backZ z, 0) else (fun _ => 0, 8)
set_option maxRecDepth 10000 in
set_option maxHeartbeats 2000000 in
theorem cback_any (z : Nat → Int) (w : World) (hz : FitsZ z) : Calls Try.prog 20 #[zoneV z] w (Gives w (zoneR (backR z).1 (backR z).2)) := by
  have CK : Hid (∀ w, Calls Try.prog 45 #[.agg #[.int .i64 (z 0), .int .i64 (z 1), .int .i64 (z 2), .int .i64 (z 3), .int .i64 (z 4), .int .i64 (z 5)]] w (Gives w (.int .i64 (rcode (okZ z))))) := fun w => zcheck_any z w hz
  unfold backR
  cases ok : okZ z
  · rw [ok] at CK
    simp only [rcode_f, Bool.false_eq_true, if_false] at CK ⊢
    clear ok hz
    unfold zoneR zoneV
    go_enter Try.func20, Try.ntmps20
    go_wp2_with (fail)
    refine (CK.out _).mono ?_; rintro e w' ⟨rfl, q1, rfl⟩
    go_wp2
    go_returns
    exact gives_end rfl (by (repeat' (first | (with_reducible assumption) | (with_reducible exact Below.refl _ _) | (with_reducible refine below_wov ?_ ?_ _) | (with_reducible refine below_drewN ?_ _) | (with_reducible refine Below.drew ?_) | (with_reducible refine Below.alloc ?_ ?_ _) | (with_reducible refine Below.setCell ?_ ?_ _) | (with_reducible exact Nat.le_refl _) | omega | (simp only [World.size_alloc, World.size_setCell, World.size_drew, Wov_size, World.heap_drewN]; omega))))
  · rw [ok] at CK
    simp only [rcode_t, if_true] at CK ⊢
    clear ok hz
    unfold zoneR zoneV
    show Calls _ _ _ _ (Gives w (.tuple #[.agg #[.int .i64 (z 2), .int .i64 (z 3), .int .i64 (z 0), .int .i64 (z 1), .int .i64 (z 5), .int .i64 (z 4)], .int .i64 0]))
    go_enter Try.func20, Try.ntmps20
    go_wp2_with (fail)
    refine (CK.out _).mono ?_; rintro e w' ⟨rfl, q1, rfl⟩
    go_wp2
    go_returns
    exact gives_end rfl (by (repeat' (first | (with_reducible assumption) | (with_reducible exact Below.refl _ _) | (with_reducible refine below_wov ?_ ?_ _) | (with_reducible refine below_drewN ?_ _) | (with_reducible refine Below.drew ?_) | (with_reducible refine Below.alloc ?_ ?_ _) | (with_reducible refine Below.setCell ?_ ?_ _) | (with_reducible exact Nat.le_refl _) | omega | (simp only [World.size_alloc, World.size_setCell, World.size_drew, Wov_size, World.heap_drewN]; omega))))
/-- A span and an error's number. -/
def spV (s : Sp) : Value := .agg #[.int .i64 s.lo, .bool s.ls, .int .i64 s.hi, .bool s.hs, .bool s.op]
def spR (s : Sp) (e : Int) : Value := .tuple #[spV s, .int .i64 e]
set_option maxRecDepth 10000 in
set_option maxHeartbeats 4000000 in
theorem cfirsts_any (z : Nat → Int) (w : World) (hz : FitsZ z) : Calls Try.prog 22 #[zoneV z] w (Gives w (spR (firstsZ z).1 (firstsZ z).2)) := by
  have CK : Hid (∀ w, Calls Try.prog 45 #[.agg #[.int .i64 (z 0), .int .i64 (z 1), .int .i64 (z 2), .int .i64 (z 3), .int .i64 (z 4), .int .i64 (z 5)]] w (Gives w (.int .i64 (rcode (okZ z))))) := fun w => zcheck_any z w hz
  unfold firstsZ
  cases ok : okZ z
  · rw [ok] at CK
    simp only [rcode_f, Bool.false_eq_true, if_false] at CK ⊢
    clear ok hz
    unfold spR spV zoneV sp0
    go_enter Try.func22, Try.ntmps22
    go_wp2_with (fail)
    refine (CK.out _).mono ?_; rintro e w' ⟨rfl, q1, rfl⟩
    go_wp2
    go_returns
    exact gives_end rfl (by (repeat' (first | (with_reducible assumption) | (with_reducible exact Below.refl _ _) | (with_reducible refine below_wov ?_ ?_ _) | (with_reducible refine below_drewN ?_ _) | (with_reducible refine Below.drew ?_) | (with_reducible refine Below.alloc ?_ ?_ _) | (with_reducible refine Below.setCell ?_ ?_ _) | (with_reducible exact Nat.le_refl _) | omega | (simp only [World.size_alloc, World.size_setCell, World.size_drew, Wov_size, World.heap_drewN]; omega))))
  · rw [ok] at CK
    simp only [rcode_t, if_true] at CK ⊢
    by_cases h1 : z 1 = noneB
    · rw [if_pos h1]
      have V1 : Hid (Pure Try.prog 64 #[.int .i64 (z 1)] (.tuple #[.int .i64 0, .bool false, .int .i64 6])) := by
        rw [h1]; exact value_none
      clear ok hz h1
      unfold spR spV zoneV sp0
      go_enter Try.func22, Try.ntmps22
      go_wp2_with (fail)
      refine (CK.out _).mono ?_; rintro e w' ⟨rfl, q1, rfl⟩
      go_wp2_with (fail)
      refine (V1.out _).mono ?_; rintro e w' ⟨rfl, q2, rfl⟩
      go_wp2
      go_returns
      exact gives_end rfl (by (repeat' (first | (with_reducible assumption) | (with_reducible exact Below.refl _ _) | (with_reducible refine below_wov ?_ ?_ _) | (with_reducible refine below_drewN ?_ _) | (with_reducible refine Below.drew ?_) | (with_reducible refine Below.alloc ?_ ?_ _) | (with_reducible refine Below.setCell ?_ ?_ _) | (with_reducible exact Nat.le_refl _) | omega | (simp only [World.size_alloc, World.size_setCell, World.size_drew, Wov_size, World.heap_drewN]; omega))))
    · rw [if_neg h1]
      have b1 := (mayB_bd (okZ_may ok (t := 1) (by omega))).resolve_left h1
      have V1 : Hid (Pure Try.prog 64 #[.int .i64 (z 1)] (.tuple #[.int .i64 (bnum (z 1)), .bool (bstr (z 1)), .int .i64 0])) := bvalue_some (okZ_may ok (t := 1) (by omega)) h1
      obtain ⟨n1, hn1⟩ : ∃ n, n = bnum (z 1) := ⟨_, rfl⟩
      obtain ⟨m1, hm1⟩ : ∃ n, n = -n1 := ⟨_, rfl⟩
      obtain ⟨s1, hs1⟩ : ∃ n, n = bstr (z 1) := ⟨_, rfl⟩
      have hw : IntKind.i64.wrap (-n1) = m1 := by rw [IntKind.wrap_i64]; omega
      rw [← hn1, ← hs1] at V1
      by_cases h0 : z 0 = noneB
      · have e : spF z = ⟨m1, s1, 0, false, true⟩ := by
          unfold spF; rw [if_pos h0, if_pos h0, decide_eq_true h0, ← hn1, ← hs1, ← hm1]
        rw [e]
        have k0 : (z 0 == 9223372036854775807) = true := by rw [h0]; rfl
        clear ok hz h1 b1 hn1 hm1 hs1 h0 e
        unfold spR spV zoneV
        go_enter Try.func22, Try.ntmps22
        go_wp2_with (fail)
        refine (CK.out _).mono ?_; rintro e w' ⟨rfl, q1, rfl⟩
        go_wp2_with (fail)
        refine (V1.out _).mono ?_; rintro e w' ⟨rfl, q2, rfl⟩
        go_wp2
        go_returns
        exact gives_end rfl (by (repeat' (first | (with_reducible assumption) | (with_reducible exact Below.refl _ _) | (with_reducible refine below_wov ?_ ?_ _) | (with_reducible refine below_drewN ?_ _) | (with_reducible refine Below.drew ?_) | (with_reducible refine Below.alloc ?_ ?_ _) | (with_reducible refine Below.setCell ?_ ?_ _) | (with_reducible exact Nat.le_refl _) | omega | (simp only [World.size_alloc, World.size_setCell, World.size_drew, Wov_size, World.heap_drewN]; omega))))
      · have V0 : Hid (Pure Try.prog 64 #[.int .i64 (z 0)] (.tuple #[.int .i64 (bnum (z 0)), .bool (bstr (z 0)), .int .i64 0])) := bvalue_some (okZ_may ok (t := 0) (by omega)) h0
        obtain ⟨n0, hn0⟩ : ∃ n, n = bnum (z 0) := ⟨_, rfl⟩
        obtain ⟨s0, hs0⟩ : ∃ n, n = bstr (z 0) := ⟨_, rfl⟩
        have e : spF z = ⟨m1, s1, n0, s0, false⟩ := by
          unfold spF; rw [if_neg h0, if_neg h0, decide_eq_false h0, ← hn1, ← hs1, ← hm1, ← hn0, ← hs0]
        rw [e]
        rw [← hn0, ← hs0] at V0
        have k0 : (z 0 == 9223372036854775807) = false := by rw [beq_eq_false_iff_ne]; exact h0
        clear ok hz h1 b1 hn1 hm1 hs1 h0 e hn0 hs0
        unfold spR spV zoneV
        go_enter Try.func22, Try.ntmps22
        go_wp2_with (fail)
        refine (CK.out _).mono ?_; rintro e w' ⟨rfl, q1, rfl⟩
        go_wp2_with (fail)
        refine (V1.out _).mono ?_; rintro e w' ⟨rfl, q2, rfl⟩
        go_wp2_with (fail)
        refine (V0.out _).mono ?_; rintro e w' ⟨rfl, q3, rfl⟩
        go_wp2
        go_returns
        exact gives_end rfl (by (repeat' (first | (with_reducible assumption) | (with_reducible exact Below.refl _ _) | (with_reducible refine below_wov ?_ ?_ _) | (with_reducible refine below_drewN ?_ _) | (with_reducible refine Below.drew ?_) | (with_reducible refine Below.alloc ?_ ?_ _) | (with_reducible refine Below.setCell ?_ ?_ _) | (with_reducible exact Nat.le_refl _) | omega | (simp only [World.size_alloc, World.size_setCell, World.size_drew, Wov_size, World.heap_drewN]; omega))))
end Go.Proofs.Ytbgbhfcnadjhdaa
