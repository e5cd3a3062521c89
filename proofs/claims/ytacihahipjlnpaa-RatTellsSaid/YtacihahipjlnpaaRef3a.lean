/- Contracts of the document's own small functions on fractions (rallentandoref03): Low, Part, common, alone, May, Check, Of. No condition but that numbers are of their kind. -/
import Derived.Test.YtacihahipjlnpaaRat2
namespace Go.Proofs.Ytacihahipjlnpaa
set_option linter.unusedSimpArgs false
set_option linter.unusedVariables false
open Go Go.RowKit

set_option maxHeartbeats 400000 in
theorem refLow_any (n d : Int) (w : World) (h1 : -9223372036854775808 ≤ n) (h2 : n ≤ 9223372036854775807) (h3 : 0 < d) (h4 : d ≤ 9223372036854775807) :
    Calls Try.prog 72 #[.int .i64 n, .int .i64 d] w fun e w' => e = .returned (.int .i64 (n / d)) ∧ w = w' := by
  go_enter Try.func72, Try.ntmps72
  go_wp2
  · go_ret
    have hf := floor_neg n d h3 h4 h1 h2 ‹_›
    exact ⟨ret_int hf.1, rfl⟩
  · go_ret
    have hf := floor_pos n d h3 ‹_›
    exact ⟨ret_int hf.1, rfl⟩

set_option maxHeartbeats 400000 in
theorem refPart_any (n d : Int) (w : World) (h1 : -9223372036854775808 ≤ n) (h2 : n ≤ 9223372036854775807) (h3 : 0 < d) (h4 : d ≤ 9223372036854775807) :
    Calls Try.prog 52 #[.int .i64 n, .int .i64 d] w fun e w' => e = .returned (.int .i64 (n % d)) ∧ w = w' := by
  go_enter Try.func52, Try.ntmps52
  go_wp2
  · go_ret
    have hf := floor_neg n d h3 h4 h1 h2 ‹_›
    exact ⟨ret_int hf.2, rfl⟩
  · go_ret
    have hf := floor_pos n d h3 ‹_›
    exact ⟨ret_int hf.2, rfl⟩

theorem nat_pos_ne {q : Nat} (h : 0 < q) : ((q : Int) != 0) = true := by simp; omega

set_option maxHeartbeats 400000 in
theorem refCommon_any (a b : Nat) (w : World) (h1 : a ≤ 9223372036854775807) (h2 : b ≤ 9223372036854775807) :
    Calls Try.prog 53 #[.int .i64 a, .int .i64 b] w fun e w' => e = .returned (.int .i64 (Nat.gcd a b : Nat)) ∧ ∃ n, w' = w.drewN n := by
  go_enter Try.func53, Try.ntmps53
  go_wp2
  go_loopw [0, 1] (fun x y wr => ∃ p q n : Nat, x = .int .i64 p ∧ y = .int .i64 q ∧ Nat.gcd p q = Nat.gcd a b ∧ p ≤ 9223372036854775807 ∧ q ≤ 9223372036854775807 ∧ wr = w.drewN n) (fun _ y _ => (intOf y).toNat)
  case atStart => exact ⟨a, b, 0, rfl, rfl, rfl, h1, h2, rfl⟩
  case round =>
    obtain ⟨p, q, n, rfl, rfl, hg, hp, hq, rfl⟩ := hrel
    have HG := Lib.hid hg
    clear hg
    by_cases h0 : 0 < q
    · have hm : (p : Int) % (q : Int) = ((p % q : Nat) : Int) := by simp
      have hl : p % q < q := Nat.mod_lt _ h0
      have hn := nat_pos_ne h0
      go_wp2
      go_quiet (fail)
      go_wp2
      go_roundw
      case rel => exact ⟨q, p % q, _, rfl, by first | rw [hm] | rfl, by rw [Nat.gcd_comm, ← Nat.gcd_rec]; exact (Nat.gcd_comm _ _).trans HG.out, hq, by omega, World.drewN_drewN _ _ _⟩
      case measure => simp [intOf]; omega
    · have h0 : q = 0 := by omega
      subst h0
      go_wp2
      go_ret
      exact ⟨ret_int (by have := HG.out; simp at this; rw [this]), n, rfl⟩

theorem gcd_part (n d : Int) (hd : 0 < d) : Nat.gcd (n % d).toNat d.toNat = Nat.gcd n.natAbs d.natAbs := by
  have e1 : (n % d).toNat = (n % d).natAbs := by have := emod_bd n d hd; omega
  have e2 : d.toNat = d.natAbs := by omega
  rw [e1, e2]
  have h := Int.gcd_add_mul_right_left d (n % d) (n / d)
  have e : n % d + n / d * d = n := by have := Int.emod_add_mul_ediv n d; rw [Int.mul_comm]; exact this
  rw [e] at h
  exact h.symm

/-- What is alone: the numbers of a fraction have no common divisor but 1. -/
def aloneB (n d : Int) : Bool := decide (Nat.gcd n.natAbs d.natAbs = 1)

set_option maxHeartbeats 400000 in
theorem alone_any (n d : Int) (h1 : -9223372036854775808 ≤ n) (h2 : n ≤ 9223372036854775807) (h3 : 0 < d) (h4 : d ≤ 9223372036854775807) :
    Pure Try.prog 88 #[.agg #[.int .i64 n, .int .i64 d]] (.bool (aloneB n d)) := by
  intro w
  obtain ⟨hb1, hb2⟩ := emod_bd n d h3
  have hp : n % d = ((n % d).toNat : Int) := by omega
  have hq : d = (d.toNat : Int) := by omega
  have HP := Lib.hid hp
  have HQ := Lib.hid hq
  clear hp hq
  have C1 : ∀ w, Calls Try.prog 53 #[.int .i64 (n % d), .int .i64 d] w fun e w' => e = .returned (.int .i64 (Nat.gcd n.natAbs d.natAbs : Nat)) ∧ ∃ n, w' = w.drewN n := by
    intro w
    have h := refCommon_any (n % d).toNat d.toNat w (by omega) (by omega)
    rw [gcd_part n d h3, ← HP.out, ← HQ.out] at h
    exact h
  go_enter Try.func88, Try.ntmps88
  go_wp2
  refine wp_region_wov (by kernel_rfl) (by kernel_rfl) ?_
  repeat (go_big_quiet_step (first | (go_at_call 52; (first | exact ((Pure.of_same (fun w => refPart_any n d w h1 h2 h3 h4))).at _ _ | exact ((Pure.of_same (fun w => refPart_any n d w h1 h2 h3 h4))).at2 _ _ _ | exact ((Pure.of_same (fun w => refPart_any n d w h1 h2 h3 h4))).at3 _ _ _ _ | exact ((Pure.of_same (fun w => refPart_any n d w h1 h2 h3 h4))).at4 _ _ _ _ _ | exact ((Pure.of_same (fun w => refPart_any n d w h1 h2 h3 h4))).at5 _ _ _ _ _ _ | exact ((Pure.of_same (fun w => refPart_any n d w h1 h2 h3 h4))).at6 _ _ _ _ _ _ _)) | (go_at_call 53; (first | exact ((Pure.of_drewN (fun w => C1 w))).at _ _ | exact ((Pure.of_drewN (fun w => C1 w))).at2 _ _ _ | exact ((Pure.of_drewN (fun w => C1 w))).at3 _ _ _ _ | exact ((Pure.of_drewN (fun w => C1 w))).at4 _ _ _ _ _ | exact ((Pure.of_drewN (fun w => C1 w))).at5 _ _ _ _ _ _ | exact ((Pure.of_drewN (fun w => C1 w))).at6 _ _ _ _ _ _ _))))
  refine wpQuiet_nil ?_
  rintro _ ⟨pq, rfl⟩
  go_wp2
  go_ret
  refine gives_bool ?_ (by (repeat' (first | (with_reducible assumption) | (with_reducible exact Below.refl _ _) | (with_reducible refine below_wov ?_ ?_ _) | (with_reducible refine below_drewN ?_ _) | (with_reducible refine Below.drew ?_) | (with_reducible refine Below.alloc ?_ ?_ _) | (with_reducible refine Below.setCell ?_ ?_ _) | (with_reducible exact Nat.le_refl _) | (simp only [World.size_alloc, World.size_setCell, World.size_drew, Wov_size, World.heap_drewN]; omega))))
  rw [Bool.eq_iff_iff]
  simp [aloneB]
  try omega

theorem okRat_eq (n d : Int) : okRat n d = (!(decide (d < 1)) && (!(decide (1048576 < d)) && (aloneB n d && withinB n d))) := by
  rw [Bool.eq_iff_iff]
  simp [okRat, aloneB]
  intro _ _
  exact And.comm

set_option maxHeartbeats 800000 in
theorem may_any (n d : Int) (h1 : -9223372036854775808 ≤ n) (h2 : n ≤ 9223372036854775807) :
    Pure Try.prog 54 #[.agg #[.int .i64 n, .int .i64 d]] (.bool (okRat n d)) := by
  intro w
  by_cases ha : 1 ≤ d
  · have ga := dec_lt_f ha
    by_cases hb : d ≤ 1048576
    · have gb := dec_lt_f hb
      obtain ⟨A, hA⟩ : ∃ A, A = aloneB n d := ⟨_, rfl⟩
      have CA := alone_any n d h1 h2 (by omega) (by omega)
      rw [← hA] at CA
      have HA := Lib.hid hA
      clear hA
      cases A
      · go_enter Try.func54, Try.ntmps54
        go_wp2_with (go_at_call 88; refine (CA _).mono ?_; rintro e w' ⟨rfl, p, rfl⟩)
        go_ret
        refine gives_bool ?_ (by (repeat' (first | (with_reducible assumption) | (with_reducible exact Below.refl _ _) | (with_reducible refine below_wov ?_ ?_ _) | (with_reducible refine below_drewN ?_ _) | (with_reducible refine Below.drew ?_) | (with_reducible refine Below.alloc ?_ ?_ _) | (with_reducible refine Below.setCell ?_ ?_ _) | (with_reducible exact Nat.le_refl _) | (simp only [World.size_alloc, World.size_setCell, World.size_drew, Wov_size, World.heap_drewN]; omega))))
        rw [okRat_eq, ← HA.out]
        simp
      · have e0 : okRat n d = withinB n d := by
          rw [okRat_eq, ← HA.out, ga, gb]
          rfl
        rw [e0]
        have hI1 : 0 < d := by omega
        have hI2 : d ≤ 9223372036854775807 := by omega
        clear e0
        go_enter Try.func54, Try.ntmps54
        go_wp2_with (first
          | (go_at_call 88; refine (CA _).mono ?_; rintro e w' ⟨rfl, p, rfl⟩)
          | (go_at_call 72; refine (refLow_any n d _ h1 h2 hI1 hI2).mono ?_; rintro e w' ⟨rfl, rfl⟩)
          | (go_at_call 52; refine (refPart_any n d _ h1 h2 hI1 hI2).mono ?_; rintro e w' ⟨rfl, rfl⟩))
        all_goals
          go_ret
          refine gives_bool ?_ (by (repeat' (first | (with_reducible assumption) | (with_reducible exact Below.refl _ _) | (with_reducible refine below_wov ?_ ?_ _) | (with_reducible refine below_drewN ?_ _) | (with_reducible refine Below.drew ?_) | (with_reducible refine Below.alloc ?_ ?_ _) | (with_reducible refine Below.setCell ?_ ?_ _) | (with_reducible exact Nat.le_refl _) | (simp only [World.size_alloc, World.size_setCell, World.size_drew, Wov_size, World.heap_drewN]; omega))))
          rw [Bool.eq_iff_iff]
          simp [withinB]
          try omega
    · have gb : decide (1048576 < d) = true := dec_lt_t (by omega)
      go_enter Try.func54, Try.ntmps54
      go_wp2
      go_ret
      refine gives_bool ?_ (by (repeat' (first | (with_reducible assumption) | (with_reducible exact Below.refl _ _) | (with_reducible refine below_wov ?_ ?_ _) | (with_reducible refine below_drewN ?_ _) | (with_reducible refine Below.drew ?_) | (with_reducible refine Below.alloc ?_ ?_ _) | (with_reducible refine Below.setCell ?_ ?_ _) | (with_reducible exact Nat.le_refl _) | (simp only [World.size_alloc, World.size_setCell, World.size_drew, Wov_size, World.heap_drewN]; omega))))
      rw [okRat_eq]; simp; omega
  · go_enter Try.func54, Try.ntmps54
    go_wp2
    go_ret
    refine gives_bool ?_ (by (repeat' (first | (with_reducible assumption) | (with_reducible exact Below.refl _ _) | (with_reducible refine below_wov ?_ ?_ _) | (with_reducible refine below_drewN ?_ _) | (with_reducible refine Below.drew ?_) | (with_reducible refine Below.alloc ?_ ?_ _) | (with_reducible refine Below.setCell ?_ ?_ _) | (with_reducible exact Nat.le_refl _) | (simp only [World.size_alloc, World.size_setCell, World.size_drew, Wov_size, World.heap_drewN]; omega))))
    rw [okRat_eq]; simp; omega

theorem may_ok {n d : Int} (h1 : -9223372036854775808 ≤ n) (h2 : n ≤ 9223372036854775807) (h : okRat n d = true) :
    Pure Try.prog 54 #[.agg #[.int .i64 n, .int .i64 d]] (.bool true) := by
  have := may_any n d h1 h2
  rwa [h] at this
theorem may_bad {n d : Int} (h1 : -9223372036854775808 ≤ n) (h2 : n ≤ 9223372036854775807) (h : okRat n d = false) :
    Pure Try.prog 54 #[.agg #[.int .i64 n, .int .i64 d]] (.bool false) := by
  have := may_any n d h1 h2
  rwa [h] at this

set_option maxHeartbeats 400000 in
theorem refCheck_any (n d : Int) (h1 : -9223372036854775808 ≤ n) (h2 : n ≤ 9223372036854775807) :
    Pure Try.prog 38 #[.agg #[.int .i64 n, .int .i64 d]] (.int .i64 (rcode (okRat n d))) := by
  intro w
  cases hk : okRat n d
  · have C := may_bad h1 h2 hk
    clear hk
    go_enter Try.func38, Try.ntmps38
    go_wp2_with (go_at_call 54; refine (C _).mono ?_; rintro e w' ⟨rfl, p, rfl⟩)
    go_ret
    exact gives_int rfl (by (repeat' (first | (with_reducible assumption) | (with_reducible exact Below.refl _ _) | (with_reducible refine below_wov ?_ ?_ _) | (with_reducible refine below_drewN ?_ _) | (with_reducible refine Below.drew ?_) | (with_reducible refine Below.alloc ?_ ?_ _) | (with_reducible refine Below.setCell ?_ ?_ _) | (with_reducible exact Nat.le_refl _) | (simp only [World.size_alloc, World.size_setCell, World.size_drew, Wov_size, World.heap_drewN]; omega))))
  · have C := may_ok h1 h2 hk
    clear hk
    go_enter Try.func38, Try.ntmps38
    go_wp2_with (go_at_call 54; refine (C _).mono ?_; rintro e w' ⟨rfl, p, rfl⟩)
    go_ret
    exact gives_int rfl (by (repeat' (first | (with_reducible assumption) | (with_reducible exact Below.refl _ _) | (with_reducible refine below_wov ?_ ?_ _) | (with_reducible refine below_drewN ?_ _) | (with_reducible refine Below.drew ?_) | (with_reducible refine Below.alloc ?_ ?_ _) | (with_reducible refine Below.setCell ?_ ?_ _) | (with_reducible exact Nat.le_refl _) | (simp only [World.size_alloc, World.size_setCell, World.size_drew, Wov_size, World.heap_drewN]; omega))))

set_option maxHeartbeats 800000 in
theorem refOf_any (n d : Int) (h1 : -9223372036854775808 ≤ n) (h2 : n ≤ 9223372036854775807) (h4 : d ≤ 9223372036854775807) :
    Pure Try.prog 20 #[.int .i64 n, .int .i64 d] (rat3 (ofR n d)) := by
  intro w
  by_cases h3 : d < 1
  · go_enter Try.func20, Try.ntmps20
    go_wp2
    go_returns
    exact gives_rat (by simp [ofR, h3]) (by (repeat' (first | (with_reducible assumption) | (with_reducible exact Below.refl _ _) | (with_reducible refine below_wov ?_ ?_ _) | (with_reducible refine below_drewN ?_ _) | (with_reducible refine Below.drew ?_) | (with_reducible refine Below.alloc ?_ ?_ _) | (with_reducible refine Below.setCell ?_ ?_ _) | (with_reducible exact Nat.le_refl _) | (simp only [World.size_alloc, World.size_setCell, World.size_drew, Wov_size, World.heap_drewN]; omega))))
  · have hI1 : 0 < d := by omega
    obtain ⟨hb1, hb2⟩ := emod_bd n d hI1
    obtain ⟨g, HG⟩ : ∃ g, Hid (g = Nat.gcd n.natAbs d.natAbs) := ⟨_, rfl⟩
    have hg0 : 0 < g := by rw [HG.out]; exact Nat.gcd_pos_of_pos_right _ (by omega)
    have hg1 : g ≤ d.natAbs := by rw [HG.out]; exact Nat.gcd_le_right _ (by omega)
    have hgn : (g : Int) ≠ 0 := by omega
    have hb := ediv_bd' n g hg0 h1 h2
    have hb2 := ediv_bd' d g hg0 (by omega) h4
    have T1 := Lib.hid (tdiv_exact n g hg0 (by rw [HG.out]; exact gcd_dvd_l n d))
    have T2 := Lib.hid (tdiv_exact d g hg0 (by rw [HG.out]; exact gcd_dvd_r n d))
    have C1 : ∀ w, Calls Try.prog 53 #[.int .i64 (n % d), .int .i64 d] w fun e w' => e = .returned (.int .i64 g) ∧ ∃ n, w' = w.drewN n := by
      intro w
      have hp : n % d = ((n % d).toNat : Int) := by omega
      have hq : d = (d.toNat : Int) := by omega
      have h := refCommon_any (n % d).toNat d.toNat w (by omega) (by omega)
      rw [gcd_part n d hI1, ← hp, ← hq, ← HG.out] at h
      exact h
    obtain ⟨N, HN⟩ : ∃ N, Hid (N = n / g) := ⟨_, rfl⟩
    obtain ⟨D, HDD⟩ : ∃ D, Hid (D = d / g) := ⟨_, rfl⟩
    rw [← HN.out] at hb T1
    rw [← HDD.out] at hb2 T2
    obtain ⟨b1, b2⟩ := hb
    obtain ⟨b3, b4⟩ := hb2
    have L : Hid (ofR n d = if okRat N D then (N, D, 0) else (0, 0, 10)) := by
      show _ = _
      rw [ofR, if_neg h3, lowR, ← HG.out, ← HN.out, ← HDD.out]
    have t1 : n.tdiv g = N := T1.out
    have t2 : d.tdiv g = D := T2.out
    have HC := Lib.hid C1
    clear C1
    by_cases hD : 1048576 < D
    · have R : Hid (ofR n d = (0, 0, 10)) := by
        show _ = _
        rw [L.out, if_neg]
        intro hk
        have := okRat_bd hk
        omega
      clear L
      go_enter Try.func20, Try.ntmps20
      go_wp2_with (first
        | (go_at_call 52; refine (refPart_any n d _ h1 h2 hI1 h4).mono ?_; rintro e w' ⟨rfl, rfl⟩)
        | (go_at_call 53; refine (HC.out _).mono ?_; rintro e w' ⟨rfl, m, rfl⟩))
      go_returns
      exact gives_rat R.out (by (repeat' (first | (with_reducible assumption) | (with_reducible exact Below.refl _ _) | (with_reducible refine below_wov ?_ ?_ _) | (with_reducible refine below_drewN ?_ _) | (with_reducible refine Below.drew ?_) | (with_reducible refine Below.alloc ?_ ?_ _) | (with_reducible refine Below.setCell ?_ ?_ _) | (with_reducible exact Nat.le_refl _) | (simp only [World.size_alloc, World.size_setCell, World.size_drew, Wov_size, World.heap_drewN]; omega))))
    · cases hok : okRat N D
      · have C := may_bad b1 b2 hok
        have R : Hid (ofR n d = (0, 0, 10)) := by
          show _ = _
          rw [L.out, hok]; rfl
        clear hok L
        go_enter Try.func20, Try.ntmps20
        go_wp2_with (first
          | (go_at_call 52; refine (refPart_any n d _ h1 h2 hI1 h4).mono ?_; rintro e w' ⟨rfl, rfl⟩)
          | (go_at_call 53; refine (HC.out _).mono ?_; rintro e w' ⟨rfl, m, rfl⟩))
        go_region
        go_wp2_with (go_at_call 54; refine (C _).mono ?_; rintro e w' ⟨rfl, p, rfl⟩)
        go_returns
        exact gives_rat R.out (by (repeat' (first | (with_reducible assumption) | (with_reducible exact Below.refl _ _) | (with_reducible refine below_wov ?_ ?_ _) | (with_reducible refine below_drewN ?_ _) | (with_reducible refine Below.drew ?_) | (with_reducible refine Below.alloc ?_ ?_ _) | (with_reducible refine Below.setCell ?_ ?_ _) | (with_reducible exact Nat.le_refl _) | (simp only [World.size_alloc, World.size_setCell, World.size_drew, Wov_size, World.heap_drewN]; omega))))
      · have C := may_ok b1 b2 hok
        have R : Hid (ofR n d = (N, D, 0)) := by
          show _ = _
          rw [L.out, hok]; rfl
        clear hok L
        go_enter Try.func20, Try.ntmps20
        go_wp2_with (first
          | (go_at_call 52; refine (refPart_any n d _ h1 h2 hI1 h4).mono ?_; rintro e w' ⟨rfl, rfl⟩)
          | (go_at_call 53; refine (HC.out _).mono ?_; rintro e w' ⟨rfl, m, rfl⟩))
        go_region
        go_wp2_with (go_at_call 54; refine (C _).mono ?_; rintro e w' ⟨rfl, p, rfl⟩)
        go_returns
        exact gives_rat R.out (by (repeat' (first | (with_reducible assumption) | (with_reducible exact Below.refl _ _) | (with_reducible refine below_wov ?_ ?_ _) | (with_reducible refine below_drewN ?_ _) | (with_reducible refine Below.drew ?_) | (with_reducible refine Below.alloc ?_ ?_ _) | (with_reducible refine Below.setCell ?_ ?_ _) | (with_reducible exact Nat.le_refl _) | (simp only [World.size_alloc, World.size_setCell, World.size_drew, Wov_size, World.heap_drewN]; omega))))
end Go.Proofs.Ytacihahipjlnpaa
