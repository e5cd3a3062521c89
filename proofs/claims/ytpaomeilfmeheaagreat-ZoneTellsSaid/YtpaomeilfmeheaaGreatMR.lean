/- Contracts of the document's own small functions on fractions (rallentandoref03): Low, Part, common, alone, May, Check, Of. No condition but that numbers are of their kind. Contracts of rallentandoref03's Compared and Cmp, Made, Add, Mid, Kept, Keeps, Floor. No condition but that numbers are of their kind. The walk of rallentandoref03.Made. No condition but what its premises say of the numbers between. Contract of rallentandoref03.Made. No condition but that numbers are small enough. Contracts of rallentandoref03's Add and Mid. No condition but that numbers are of their kind. Contract of rallentandoref03.Add. No condition but that numbers are of their kind. The walk of rallentandoref03.Mid. No condition but what its premises say of the numbers between. Contracts of rallentandoref03's Mid, Kept, Keeps, Floor. No condition but that numbers are of their kind. -/
import Derived.Test.YtpaomeilfmeheaaGreatMA
import Derived.Deep.RegionWith
import Derived.Deep.RegionHeld3
namespace Go.Proofs.YtpaomeilfmeheaaGreat
set_option linter.unusedSimpArgs false
set_option linter.unusedVariables false
open Go Go.RowKit

set_option maxHeartbeats 400000 in
theorem refLow_any (n d : Int) (w : World) (h1 : -9223372036854775808 ≤ n) (h2 : n ≤ 9223372036854775807) (h3 : 0 < d) (h4 : d ≤ 9223372036854775807) :
    Calls Tryz.prog 89 #[.int .i64 n, .int .i64 d] w fun e w' => e = .returned (.int .i64 (n / d)) ∧ w = w' := by
  go_enter Tryz.func89, Tryz.ntmps89
  go_wp2
  · go_ret
    have hf := floor_neg n d h3 h4 h1 h2 ‹_›
    exact ⟨ret_int hf.1, rfl⟩
  · go_ret
    have hf := floor_pos n d h3 ‹_›
    exact ⟨ret_int hf.1, rfl⟩

set_option maxHeartbeats 400000 in
theorem refPart_any (n d : Int) (w : World) (h1 : -9223372036854775808 ≤ n) (h2 : n ≤ 9223372036854775807) (h3 : 0 < d) (h4 : d ≤ 9223372036854775807) :
    Calls Tryz.prog 90 #[.int .i64 n, .int .i64 d] w fun e w' => e = .returned (.int .i64 (n % d)) ∧ w = w' := by
  go_enter Tryz.func90, Tryz.ntmps90
  go_wp2
  · go_ret
    have hf := floor_neg n d h3 h4 h1 h2 ‹_›
    exact ⟨ret_int hf.2, rfl⟩
  · go_ret
    have hf := floor_pos n d h3 ‹_›
    exact ⟨ret_int hf.2, rfl⟩

theorem nat_pos_ne {q : Nat} (h : 0 < q) : ((q : Int) != 0) = true := by simp; omega

set_option maxHeartbeats 400000 in
theorem refCommon_any (a b : Nat) (w : World) (h1 : a ≤ 9223372036854775807) (h2 : b ≤ 9223372036854775807) :
    Calls Tryz.prog 108 #[.int .i64 a, .int .i64 b] w fun e w' => e = .returned (.int .i64 (Nat.gcd a b : Nat)) ∧ ∃ n, w' = w.drewN n := by
  go_enter Tryz.func108, Tryz.ntmps108
  go_wp2
  go_loopw [0, 1] (fun x y wr => ∃ p q n : Nat, x = .int .i64 p ∧ y = .int .i64 q ∧ Nat.gcd p q = Nat.gcd a b ∧ p ≤ 9223372036854775807 ∧ q ≤ 9223372036854775807 ∧ wr = w.drewN n) (fun _ y _ => (intOf y).toNat)
  case atStart => exact ⟨a, b, 0, rfl, rfl, rfl, h1, h2, rfl⟩
  case round =>
    obtain ⟨p, q, n, rfl, rfl, hg, hp, hq, rfl⟩ := hrel
    have HG := Lib.hid hg
    clear hg
    by_cases h0 : 0 < q
    · have hm : (p : Int) % (q : Int) = ((p % q : Nat) : Int) := by simp
      have hl : p % q < q := Nat.mod_lt _ h0
      have hn := nat_pos_ne h0
      go_wp2
      go_quiet (fail)
      go_wp2
      go_roundw
      case rel => exact ⟨q, p % q, _, rfl, by first | rw [hm] | rfl, by rw [Nat.gcd_comm, ← Nat.gcd_rec]; exact (Nat.gcd_comm _ _).trans HG.out, hq, by omega, World.drewN_drewN _ _ _⟩
      case measure => simp [intOf]; omega
    · have h0 : q = 0 := by omega
      subst h0
      go_wp2
      go_ret
      exact ⟨ret_int (by have := HG.out; simp at this; rw [this]), n, rfl⟩

theorem gcd_part (n d : Int) (hd : 0 < d) : Nat.gcd (n % d).toNat d.toNat = Nat.gcd n.natAbs d.natAbs := by
  have e1 : (n % d).toNat = (n % d).natAbs := by have := emod_bd n d hd; omega
  have e2 : d.toNat = d.natAbs := by omega
  rw [e1, e2]
  have h := Int.gcd_add_mul_right_left d (n % d) (n / d)
  have e : n % d + n / d * d = n := by have := Int.emod_add_mul_ediv n d; rw [Int.mul_comm]; exact this
  rw [e] at h
  exact h.symm

/-- What is alone: the numbers of a fraction have no common divisor but 1. -/
def aloneB (n d : Int) : Bool := decide (Nat.gcd n.natAbs d.natAbs = 1)

set_option maxHeartbeats 400000 in
theorem alone_any (n d : Int) (h1 : -9223372036854775808 ≤ n) (h2 : n ≤ 9223372036854775807) (h3 : 0 < d) (h4 : d ≤ 9223372036854775807) :
    Pure Tryz.prog 88 #[.agg #[.int .i64 n, .int .i64 d]] (.bool (aloneB n d)) := by
  intro w
  obtain ⟨hb1, hb2⟩ := emod_bd n d h3
  have hp : n % d = ((n % d).toNat : Int) := by omega
  have hq : d = (d.toNat : Int) := by omega
  have HP := Lib.hid hp
  have HQ := Lib.hid hq
  clear hp hq
  have C1 : ∀ w, Calls Tryz.prog 108 #[.int .i64 (n % d), .int .i64 d] w fun e w' => e = .returned (.int .i64 (Nat.gcd n.natAbs d.natAbs : Nat)) ∧ ∃ n, w' = w.drewN n := by
    intro w
    have h := refCommon_any (n % d).toNat d.toNat w (by omega) (by omega)
    rw [gcd_part n d h3, ← HP.out, ← HQ.out] at h
    exact h
  go_enter Tryz.func88, Tryz.ntmps88
  go_wp2
  refine wp_region_wov (by kernel_rfl) (by kernel_rfl) ?_
  repeat (go_big_quiet_step (first | (go_at_call 90; (first | exact ((Pure.of_same (fun w => refPart_any n d w h1 h2 h3 h4))).at _ _ | exact ((Pure.of_same (fun w => refPart_any n d w h1 h2 h3 h4))).at2 _ _ _ | exact ((Pure.of_same (fun w => refPart_any n d w h1 h2 h3 h4))).at3 _ _ _ _ | exact ((Pure.of_same (fun w => refPart_any n d w h1 h2 h3 h4))).at4 _ _ _ _ _ | exact ((Pure.of_same (fun w => refPart_any n d w h1 h2 h3 h4))).at5 _ _ _ _ _ _ | exact ((Pure.of_same (fun w => refPart_any n d w h1 h2 h3 h4))).at6 _ _ _ _ _ _ _)) | (go_at_call 108; (first | exact ((Pure.of_drewN (fun w => C1 w))).at _ _ | exact ((Pure.of_drewN (fun w => C1 w))).at2 _ _ _ | exact ((Pure.of_drewN (fun w => C1 w))).at3 _ _ _ _ | exact ((Pure.of_drewN (fun w => C1 w))).at4 _ _ _ _ _ | exact ((Pure.of_drewN (fun w => C1 w))).at5 _ _ _ _ _ _ | exact ((Pure.of_drewN (fun w => C1 w))).at6 _ _ _ _ _ _ _))))
  refine wpQuiet_nil ?_
  rintro _ ⟨pq, rfl⟩
  go_wp2
  go_ret
  refine gives_bool ?_ (by (repeat' (first | (with_reducible assumption) | (with_reducible exact Below.refl _ _) | (with_reducible refine below_wov ?_ ?_ _) | (with_reducible refine below_drewN ?_ _) | (with_reducible refine Below.drew ?_) | (with_reducible refine Below.alloc ?_ ?_ _) | (with_reducible refine Below.setCell ?_ ?_ _) | (with_reducible exact Nat.le_refl _) | omega | (simp only [World.size_alloc, World.size_setCell, World.size_drew, Wov_size, World.heap_drewN]; omega))))
  rw [Bool.eq_iff_iff]
  simp [aloneB]
  try omega

theorem okRat_eq (n d : Int) : okRat n d = (!(decide (d < 1)) && (!(decide (1048576 < d)) && (aloneB n d && withinB n d))) := by
  rw [Bool.eq_iff_iff]
  simp [okRat, aloneB]
  intro _ _
  exact And.comm

set_option maxHeartbeats 800000 in
theorem ref3May_any (n d : Int) (h1 : -9223372036854775808 ≤ n) (h2 : n ≤ 9223372036854775807) :
    Pure Tryz.prog 61 #[.agg #[.int .i64 n, .int .i64 d]] (.bool (okRat n d)) := by
  intro w
  by_cases ha : 1 ≤ d
  · have ga := dec_lt_f ha
    by_cases hb : d ≤ 1048576
    · have gb := dec_lt_f hb
      obtain ⟨A, hA⟩ : ∃ A, A = aloneB n d := ⟨_, rfl⟩
      have CA := alone_any n d h1 h2 (by omega) (by omega)
      rw [← hA] at CA
      have HA := Lib.hid hA
      clear hA
      cases A
      · go_enter Tryz.func61, Tryz.ntmps61
        go_wp2_with (go_at_call 88; refine (CA _).mono ?_; rintro e w' ⟨rfl, p, rfl⟩)
        go_ret
        refine gives_bool ?_ (by (repeat' (first | (with_reducible assumption) | (with_reducible exact Below.refl _ _) | (with_reducible refine below_wov ?_ ?_ _) | (with_reducible refine below_drewN ?_ _) | (with_reducible refine Below.drew ?_) | (with_reducible refine Below.alloc ?_ ?_ _) | (with_reducible refine Below.setCell ?_ ?_ _) | (with_reducible exact Nat.le_refl _) | omega | (simp only [World.size_alloc, World.size_setCell, World.size_drew, Wov_size, World.heap_drewN]; omega))))
        rw [okRat_eq, ← HA.out]
        simp
      · have e0 : okRat n d = withinB n d := by
          rw [okRat_eq, ← HA.out, ga, gb]
          rfl
        rw [e0]
        have hI1 : 0 < d := by omega
        have hI2 : d ≤ 9223372036854775807 := by omega
        clear e0
        go_enter Tryz.func61, Tryz.ntmps61
        go_wp2_with (first
          | (go_at_call 88; refine (CA _).mono ?_; rintro e w' ⟨rfl, p, rfl⟩)
          | (go_at_call 89; refine (refLow_any n d _ h1 h2 hI1 hI2).mono ?_; rintro e w' ⟨rfl, rfl⟩)
          | (go_at_call 90; refine (refPart_any n d _ h1 h2 hI1 hI2).mono ?_; rintro e w' ⟨rfl, rfl⟩))
        all_goals
          go_ret
          refine gives_bool ?_ (by (repeat' (first | (with_reducible assumption) | (with_reducible exact Below.refl _ _) | (with_reducible refine below_wov ?_ ?_ _) | (with_reducible refine below_drewN ?_ _) | (with_reducible refine Below.drew ?_) | (with_reducible refine Below.alloc ?_ ?_ _) | (with_reducible refine Below.setCell ?_ ?_ _) | (with_reducible exact Nat.le_refl _) | omega | (simp only [World.size_alloc, World.size_setCell, World.size_drew, Wov_size, World.heap_drewN]; omega))))
          rw [Bool.eq_iff_iff]
          simp [withinB]
          try omega
    · have gb : decide (1048576 < d) = true := dec_lt_t (by omega)
      go_enter Tryz.func61, Tryz.ntmps61
      go_wp2
      go_ret
      refine gives_bool ?_ (by (repeat' (first | (with_reducible assumption) | (with_reducible exact Below.refl _ _) | (with_reducible refine below_wov ?_ ?_ _) | (with_reducible refine below_drewN ?_ _) | (with_reducible refine Below.drew ?_) | (with_reducible refine Below.alloc ?_ ?_ _) | (with_reducible refine Below.setCell ?_ ?_ _) | (with_reducible exact Nat.le_refl _) | omega | (simp only [World.size_alloc, World.size_setCell, World.size_drew, Wov_size, World.heap_drewN]; omega))))
      rw [okRat_eq]; simp; omega
  · go_enter Tryz.func61, Tryz.ntmps61
    go_wp2
    go_ret
    refine gives_bool ?_ (by (repeat' (first | (with_reducible assumption) | (with_reducible exact Below.refl _ _) | (with_reducible refine below_wov ?_ ?_ _) | (with_reducible refine below_drewN ?_ _) | (with_reducible refine Below.drew ?_) | (with_reducible refine Below.alloc ?_ ?_ _) | (with_reducible refine Below.setCell ?_ ?_ _) | (with_reducible exact Nat.le_refl _) | omega | (simp only [World.size_alloc, World.size_setCell, World.size_drew, Wov_size, World.heap_drewN]; omega))))
    rw [okRat_eq]; simp; omega

theorem may_ok {n d : Int} (h1 : -9223372036854775808 ≤ n) (h2 : n ≤ 9223372036854775807) (h : okRat n d = true) :
    Pure Tryz.prog 61 #[.agg #[.int .i64 n, .int .i64 d]] (.bool true) := by
  have := ref3May_any n d h1 h2
  rwa [h] at this
theorem may_bad {n d : Int} (h1 : -9223372036854775808 ≤ n) (h2 : n ≤ 9223372036854775807) (h : okRat n d = false) :
    Pure Tryz.prog 61 #[.agg #[.int .i64 n, .int .i64 d]] (.bool false) := by
  have := ref3May_any n d h1 h2
  rwa [h] at this

end Go.Proofs.YtpaomeilfmeheaaGreat

namespace Go.Proofs.YtpaomeilfmeheaaGreat
set_option linter.unusedSimpArgs false
set_option linter.unusedVariables false
open Go Go.RowKit

theorem cmpR_parts {n1 d1 n2 d2 : Int} (h1 : 0 < d1) (h2 : 0 < d2) :
    cmpR n1 d1 n2 d2 = sgn3 (n1 / d1) (n2 / d2) (sgn3 (n1 % d1 * d2) (n2 % d2 * d1) 0) := by
  have k := kept_parts (n1 := n1) (d1 := d1) (n2 := n2) (d2 := d2) (c := 0) h1 h2
  rw [Int.zero_mul] at k
  unfold cmpR sgn3
  generalize n1 % d1 * d2 = A at *
  generalize n2 % d2 * d1 = B at *
  generalize n1 / d1 = X at *
  generalize n2 / d2 = Y at *
  (repeat split) <;> omega

set_option maxRecDepth 10000 in
set_option maxHeartbeats 1000000 in
theorem refCompared_any (n1 d1 n2 d2 : Int) (h1 : fits64 n1) (h2 : fits64 n2) (o1 : okRat n1 d1 = true) (o2 : okRat n2 d2 = true) :
    Pure Tryz.prog 125 #[.agg #[.int .i64 n1, .int .i64 d1], .agg #[.int .i64 n2, .int .i64 d2]] (.int .i64 (cmpR n1 d1 n2 d2)) := by
  intro w
  obtain ⟨p1, p2, p3, p4⟩ := okRat_bd o1
  obtain ⟨q1, q2, q3, q4⟩ := okRat_bd o2
  have hR := emod_bd n1 d1 (by omega)
  have hS := emod_bd n2 d2 (by omega)
  have hA := mul_bd (a := n1 % d1) (b := d2) (M := 1048576) (K := 1048576) hR.1 (by omega) (by omega) q2
  have hB := mul_bd (a := n2 % d2) (b := d1) (M := 1048576) (K := 1048576) hS.1 (by omega) (by omega) p2
  have L1 := Lib.hid (fun w => refLow_any n1 d1 w h1.1 h1.2 (by omega) (by omega))
  have L2 := Lib.hid (fun w => refLow_any n2 d2 w h2.1 h2.2 (by omega) (by omega))
  have P1 := Lib.hid (fun w => refPart_any n1 d1 w h1.1 h1.2 (by omega) (by omega))
  have P2 := Lib.hid (fun w => refPart_any n2 d2 w h2.1 h2.2 (by omega) (by omega))
  have R : Hid (cmpR n1 d1 n2 d2 = sgn3 (n1 / d1) (n2 / d2) (sgn3 (n1 % d1 * d2) (n2 % d2 * d1) 0)) := cmpR_parts (by omega) (by omega)
  obtain ⟨X, hXe⟩ : ∃ X, X = n1 / d1 := ⟨_, rfl⟩
  obtain ⟨Y, hYe⟩ : ∃ Y, Y = n2 / d2 := ⟨_, rfl⟩
  obtain ⟨r, hre⟩ : ∃ r, r = n1 % d1 := ⟨_, rfl⟩
  obtain ⟨s, hse⟩ : ∃ s, s = n2 % d2 := ⟨_, rfl⟩
  rw [← hXe] at L1
  rw [← hYe] at L2
  rw [← hre] at P1 hA
  rw [← hse] at P2 hB
  rw [← hXe, ← hYe, ← hre, ← hse] at R
  obtain ⟨A, eA⟩ : ∃ A, r * d2 = A := ⟨_, rfl⟩
  obtain ⟨B, eB⟩ : ∃ B, s * d1 = B := ⟨_, rfl⟩
  rw [eA] at hA
  rw [eB] at hB
  rw [eA, eB] at R
  obtain ⟨a1, a2⟩ := hA
  obtain ⟨b1, b2⟩ := hB
  clear o1 o2 p1 p2 p3 p4 q1 q2 q3 q4 hR hS hXe hYe hre hse h1 h2
  by_cases hXY : X = Y
  · subst hXY
    rw [R.out, sgn3_eq]
    clear R
    have e : (X == X) = true := by simp
    go_enter Tryz.func125, Tryz.ntmps125
    go_wp2_with (fail)
    refine (L1.out _).mono ?_; rintro e w' ⟨rfl, rfl⟩
    go_wp2_with (fail)
    refine (L2.out _).mono ?_; rintro e w' ⟨rfl, rfl⟩
    go_wp2_with (fail)
    refine wp_region_wov (by kernel_rfl) (by kernel_rfl) ?_
    repeat (go_big_quiet_step ((go_at_call 90; (first | exact ((Pure.of_same (fun w => P1.out w))).at _ _ | exact ((Pure.of_same (fun w => P1.out w))).at2 _ _ _ | exact ((Pure.of_same (fun w => P1.out w))).at3 _ _ _ _ | exact ((Pure.of_same (fun w => P1.out w))).at4 _ _ _ _ _ | exact ((Pure.of_same (fun w => P1.out w))).at5 _ _ _ _ _ _ | exact ((Pure.of_same (fun w => P1.out w))).at6 _ _ _ _ _ _ _))))
    refine wpQuiet_nil ?_
    rintro _ ⟨pq, rfl⟩
    go_wp2_with (fail)
    refine wp_region_wov (by kernel_rfl) (by kernel_rfl) ?_
    repeat (go_big_quiet_step ((go_at_call 90; (first | exact ((Pure.of_same (fun w => P2.out w))).at _ _ | exact ((Pure.of_same (fun w => P2.out w))).at2 _ _ _ | exact ((Pure.of_same (fun w => P2.out w))).at3 _ _ _ _ | exact ((Pure.of_same (fun w => P2.out w))).at4 _ _ _ _ _ | exact ((Pure.of_same (fun w => P2.out w))).at5 _ _ _ _ _ _ | exact ((Pure.of_same (fun w => P2.out w))).at6 _ _ _ _ _ _ _))))
    refine wpQuiet_nil ?_
    rintro _ ⟨pq, rfl⟩
    go_wp2
    all_goals
      go_ret
      refine gives_int ?_ (by (repeat' (first | (with_reducible assumption) | (with_reducible exact Below.refl _ _) | (with_reducible refine below_wov ?_ ?_ _) | (with_reducible refine below_drewN ?_ _) | (with_reducible refine Below.drew ?_) | (with_reducible refine Below.alloc ?_ ?_ _) | (with_reducible refine Below.setCell ?_ ?_ _) | (with_reducible exact Nat.le_refl _) | omega | (simp only [World.size_alloc, World.size_setCell, World.size_drew, Wov_size, World.heap_drewN]; omega))))
      unfold sgn3
      (repeat split) <;> omega
  · have e : (X == Y) = false := beq_f hXY
    rw [R.out, sgn3_ne hXY]
    clear R
    go_enter Tryz.func125, Tryz.ntmps125
    go_wp2_with (fail)
    refine (L1.out _).mono ?_; rintro e w' ⟨rfl, rfl⟩
    go_wp2_with (fail)
    refine (L2.out _).mono ?_; rintro e w' ⟨rfl, rfl⟩
    go_wp2
    all_goals
      go_ret
      refine gives_int ?_ (by (repeat' (first | (with_reducible assumption) | (with_reducible exact Below.refl _ _) | (with_reducible refine below_wov ?_ ?_ _) | (with_reducible refine below_drewN ?_ _) | (with_reducible refine Below.drew ?_) | (with_reducible refine Below.alloc ?_ ?_ _) | (with_reducible refine Below.setCell ?_ ?_ _) | (with_reducible exact Nat.le_refl _) | omega | (simp only [World.size_alloc, World.size_setCell, World.size_drew, Wov_size, World.heap_drewN]; omega))))
      unfold sgn3
      (repeat split) <;> omega

end Go.Proofs.YtpaomeilfmeheaaGreat

namespace Go.Proofs.YtpaomeilfmeheaaGreat
set_option linter.unusedSimpArgs false
set_option linter.unusedVariables false
open Go Go.RowKit

set_option maxRecDepth 10000 in
set_option maxHeartbeats 1000000 in
theorem made_wide (n p k P D : Int) (g : Nat) (w : World)
    (hn : -9223372036854775808 ≤ n ∧ n ≤ 9223372036854775807) (hp : 0 ≤ p ∧ p < k) (hk : 1 ≤ k ∧ k ≤ 9223372036854775807) (hg : 1 ≤ g) (eP : p.tdiv g = P) (eD : k.tdiv g = D) (hP : 0 ≤ P ∧ P < D) (hD : 1 ≤ D ∧ D ≤ k)
    (F1 : Hid (∀ w, Calls Tryz.prog 108 #[.int .i64 p, .int .i64 k] w fun e w' => e = .returned (.int .i64 g) ∧ ∃ m, w' = w.drewN m))
    (h1 : 1048576 < D) :
    Calls Tryz.prog 126 #[.int .i64 n, .int .i64 p, .int .i64 k] w (Gives w (.tuple #[.agg #[.int .i64 0, .int .i64 0], .bool false])) := by
  obtain ⟨a1, a2⟩ := hn
  obtain ⟨a3, a4⟩ := hp
  obtain ⟨a5, a6⟩ := hk
  obtain ⟨a7, a8⟩ := hP
  obtain ⟨a9, a10⟩ := hD
  have a11 : (g : Int) ≠ 0 := by omega
  go_enter Tryz.func126, Tryz.ntmps126
  go_wp2_with (fail)
  refine (F1.out _).mono ?_; rintro e w' ⟨rfl, m1, rfl⟩
  go_wp2
  go_returns
  exact gives_end rfl (by (repeat' (first | (with_reducible assumption) | (with_reducible exact Below.refl _ _) | (with_reducible refine below_wov ?_ ?_ _) | (with_reducible refine below_drewN ?_ _) | (with_reducible refine Below.drew ?_) | (with_reducible refine Below.alloc ?_ ?_ _) | (with_reducible refine Below.setCell ?_ ?_ _) | (with_reducible exact Nat.le_refl _) | omega | (simp only [World.size_alloc, World.size_setCell, World.size_drew, Wov_size, World.heap_drewN]; omega))))

set_option maxRecDepth 10000 in
set_option maxHeartbeats 1000000 in
theorem made_far (n p k P D : Int) (g : Nat) (w : World)
    (hn : -9223372036854775808 ≤ n ∧ n ≤ 9223372036854775807) (hp : 0 ≤ p ∧ p < k) (hk : 1 ≤ k ∧ k ≤ 9223372036854775807) (hg : 1 ≤ g) (eP : p.tdiv g = P) (eD : k.tdiv g = D) (hP : 0 ≤ P ∧ P < D) (hD : 1 ≤ D ∧ D ≤ k)
    (F1 : Hid (∀ w, Calls Tryz.prog 108 #[.int .i64 p, .int .i64 k] w fun e w' => e = .returned (.int .i64 g) ∧ ∃ m, w' = w.drewN m))
    (h1 : D ≤ 1048576) (h2 : n < -2305843009213693952 ∨ 2305843009213693952 < n) :
    Calls Tryz.prog 126 #[.int .i64 n, .int .i64 p, .int .i64 k] w (Gives w (.tuple #[.agg #[.int .i64 0, .int .i64 0], .bool false])) := by
  obtain ⟨a1, a2⟩ := hn
  obtain ⟨a3, a4⟩ := hp
  obtain ⟨a5, a6⟩ := hk
  obtain ⟨a7, a8⟩ := hP
  obtain ⟨a9, a10⟩ := hD
  have a11 : (g : Int) ≠ 0 := by omega
  go_enter Tryz.func126, Tryz.ntmps126
  go_wp2_with (fail)
  refine (F1.out _).mono ?_; rintro e w' ⟨rfl, m1, rfl⟩
  rcases h2 with h2 | h2
  · go_wp2
    go_returns
    exact gives_end rfl (by (repeat' (first | (with_reducible assumption) | (with_reducible exact Below.refl _ _) | (with_reducible refine below_wov ?_ ?_ _) | (with_reducible refine below_drewN ?_ _) | (with_reducible refine Below.drew ?_) | (with_reducible refine Below.alloc ?_ ?_ _) | (with_reducible refine Below.setCell ?_ ?_ _) | (with_reducible exact Nat.le_refl _) | omega | (simp only [World.size_alloc, World.size_setCell, World.size_drew, Wov_size, World.heap_drewN]; omega))))
  · go_wp2
    go_returns
    exact gives_end rfl (by (repeat' (first | (with_reducible assumption) | (with_reducible exact Below.refl _ _) | (with_reducible refine below_wov ?_ ?_ _) | (with_reducible refine below_drewN ?_ _) | (with_reducible refine Below.drew ?_) | (with_reducible refine Below.alloc ?_ ?_ _) | (with_reducible refine Below.setCell ?_ ?_ _) | (with_reducible exact Nat.le_refl _) | omega | (simp only [World.size_alloc, World.size_setCell, World.size_drew, Wov_size, World.heap_drewN]; omega))))

set_option maxRecDepth 10000 in
set_option maxHeartbeats 1000000 in
theorem made_nover (n p k P D : Int) (g : Nat) (w : World)
    (hn : -9223372036854775808 ≤ n ∧ n ≤ 9223372036854775807) (hp : 0 ≤ p ∧ p < k) (hk : 1 ≤ k ∧ k ≤ 9223372036854775807) (hg : 1 ≤ g) (eP : p.tdiv g = P) (eD : k.tdiv g = D) (hP : 0 ≤ P ∧ P < D) (hD : 1 ≤ D ∧ D ≤ k)
    (F1 : Hid (∀ w, Calls Tryz.prog 108 #[.int .i64 p, .int .i64 k] w fun e w' => e = .returned (.int .i64 g) ∧ ∃ m, w' = w.drewN m))
    (h1 : D ≤ 1048576) (h2 : -2305843009213693952 ≤ n) (h3 : n < 0) (ho : 9223372036854775807 / D < n + 1 ∨ n + 1 < (-9223372036854775808 - (P - D)).tdiv D) :
    Calls Tryz.prog 126 #[.int .i64 n, .int .i64 p, .int .i64 k] w (Gives w (.tuple #[.agg #[.int .i64 0, .int .i64 0], .bool false])) := by
  obtain ⟨a1, a2⟩ := hn
  obtain ⟨a3, a4⟩ := hp
  obtain ⟨a5, a6⟩ := hk
  obtain ⟨a7, a8⟩ := hP
  obtain ⟨a9, a10⟩ := hD
  have a11 : (g : Int) ≠ 0 := by omega
  go_enter Tryz.func126, Tryz.ntmps126
  go_wp2_with (fail)
  refine (F1.out _).mono ?_; rintro e w' ⟨rfl, m1, rfl⟩
  go_wp2
  all_goals
    first
      | (go_returns; exact gives_end rfl (by (repeat' (first | (with_reducible assumption) | (with_reducible exact Below.refl _ _) | (with_reducible refine below_wov ?_ ?_ _) | (with_reducible refine below_drewN ?_ _) | (with_reducible refine Below.drew ?_) | (with_reducible refine Below.alloc ?_ ?_ _) | (with_reducible refine Below.setCell ?_ ?_ _) | (with_reducible exact Nat.le_refl _) | omega | (simp only [World.size_alloc, World.size_setCell, World.size_drew, Wov_size, World.heap_drewN]; omega)))))
      | (exfalso; omega)

theorem tdiv_min (D : Int) (h : 0 < D) : 0 ≤ Int.tdiv 9223372036854775808 D ∧ Int.tdiv 9223372036854775808 D ≤ 9223372036854775808 :=
  ⟨Int.tdiv_nonneg (by omega) (by omega), Int.tdiv_le_self _ (by omega)⟩

set_option maxRecDepth 10000 in
set_option maxHeartbeats 1000000 in
theorem made_pover (n p k P D : Int) (g : Nat) (w : World)
    (hn : -9223372036854775808 ≤ n ∧ n ≤ 9223372036854775807) (hp : 0 ≤ p ∧ p < k) (hk : 1 ≤ k ∧ k ≤ 9223372036854775807) (hg : 1 ≤ g) (eP : p.tdiv g = P) (eD : k.tdiv g = D) (hP : 0 ≤ P ∧ P < D) (hD : 1 ≤ D ∧ D ≤ k)
    (F1 : Hid (∀ w, Calls Tryz.prog 108 #[.int .i64 p, .int .i64 k] w fun e w' => e = .returned (.int .i64 g) ∧ ∃ m, w' = w.drewN m))
    (h1 : D ≤ 1048576) (h2 : 0 ≤ n) (h3 : n ≤ 2305843009213693952) (ho : (9223372036854775807 - P) / D < n) :
    Calls Tryz.prog 126 #[.int .i64 n, .int .i64 p, .int .i64 k] w (Gives w (.tuple #[.agg #[.int .i64 0, .int .i64 0], .bool false])) := by
  obtain ⟨a1, a2⟩ := hn
  obtain ⟨a3, a4⟩ := hp
  obtain ⟨a5, a6⟩ := hk
  obtain ⟨a7, a8⟩ := hP
  obtain ⟨a9, a10⟩ := hD
  have a11 : (g : Int) ≠ 0 := by omega
  go_enter Tryz.func126, Tryz.ntmps126
  go_wp2_with (fail)
  refine (F1.out _).mono ?_; rintro e w' ⟨rfl, m1, rfl⟩
  obtain ⟨ht, ht2⟩ := tdiv_min D (by omega)
  by_cases hz : 0 < P
  · go_wp2
    all_goals
      first
        | (go_returns; exact gives_end rfl (by (repeat' (first | (with_reducible assumption) | (with_reducible exact Below.refl _ _) | (with_reducible refine below_wov ?_ ?_ _) | (with_reducible refine below_drewN ?_ _) | (with_reducible refine Below.drew ?_) | (with_reducible refine Below.alloc ?_ ?_ _) | (with_reducible refine Below.setCell ?_ ?_ _) | (with_reducible exact Nat.le_refl _) | omega | (simp only [World.size_alloc, World.size_setCell, World.size_drew, Wov_size, World.heap_drewN]; omega)))))
        | (exfalso; omega)
  · obtain rfl : P = 0 := by omega
    simp only [Int.sub_zero] at ho
    go_wp2
    all_goals
      first
        | (go_returns; exact gives_end rfl (by (repeat' (first | (with_reducible assumption) | (with_reducible exact Below.refl _ _) | (with_reducible refine below_wov ?_ ?_ _) | (with_reducible refine below_drewN ?_ _) | (with_reducible refine Below.drew ?_) | (with_reducible refine Below.alloc ?_ ?_ _) | (with_reducible refine Below.setCell ?_ ?_ _) | (with_reducible exact Nat.le_refl _) | omega | (simp only [World.size_alloc, World.size_setCell, World.size_drew, Wov_size, World.heap_drewN]; omega)))))
        | (exfalso; omega)

set_option maxRecDepth 10000 in
set_option maxHeartbeats 1000000 in
theorem made_nfine (n p k P D : Int) (g : Nat) (w : World)
    (hn : -9223372036854775808 ≤ n ∧ n ≤ 9223372036854775807) (hp : 0 ≤ p ∧ p < k) (hk : 1 ≤ k ∧ k ≤ 9223372036854775807) (hg : 1 ≤ g) (eP : p.tdiv g = P) (eD : k.tdiv g = D) (hP : 0 ≤ P ∧ P < D) (hD : 1 ≤ D ∧ D ≤ k)
    (F1 : Hid (∀ w, Calls Tryz.prog 108 #[.int .i64 p, .int .i64 k] w fun e w' => e = .returned (.int .i64 g) ∧ ∃ m, w' = w.drewN m))
    (h1 : D ≤ 1048576) (h2 : -2305843009213693952 ≤ n) (h3 : n < 0) (hf1 : n + 1 ≤ 9223372036854775807 / D) (hf2 : (-9223372036854775808 - (P - D)).tdiv D ≤ n + 1) (E : Int) (eE : (n + 1) * D = E) (hE : -9223372036854775808 ≤ E ∧ E ≤ 9223372036854775807) (hT : -9223372036854775808 ≤ E + (P - D) ∧ E + (P - D) ≤ 9223372036854775807) (s : Bool) (M : Pure Tryz.prog 61 #[.agg #[.int .i64 (E + (P - D)), .int .i64 D]] (.bool s)) :
    Calls Tryz.prog 126 #[.int .i64 n, .int .i64 p, .int .i64 k] w (Gives w (.tuple #[.agg #[.int .i64 (E + (P - D)), .int .i64 D], .bool s])) := by
  obtain ⟨a1, a2⟩ := hn
  obtain ⟨a3, a4⟩ := hp
  obtain ⟨a5, a6⟩ := hk
  obtain ⟨a7, a8⟩ := hP
  obtain ⟨a9, a10⟩ := hD
  have a11 : (g : Int) ≠ 0 := by omega
  go_enter Tryz.func126, Tryz.ntmps126
  go_wp2_with (fail)
  refine (F1.out _).mono ?_; rintro e w' ⟨rfl, m1, rfl⟩
  obtain ⟨a12, a13⟩ := hE
  obtain ⟨a14, a15⟩ := hT
  go_wp2_with (fail)
  go_region_with (go_at_call 61; refine (M _).mono ?_; rintro e w' ⟨rfl, p1, rfl⟩)
  all_goals
    go_wp2
    go_returns
    exact gives_end rfl (by (repeat' (first | (with_reducible assumption) | (with_reducible exact Below.refl _ _) | (with_reducible refine below_wov ?_ ?_ _) | (with_reducible refine below_drewN ?_ _) | (with_reducible refine Below.drew ?_) | (with_reducible refine Below.alloc ?_ ?_ _) | (with_reducible refine Below.setCell ?_ ?_ _) | (with_reducible exact Nat.le_refl _) | omega | (simp only [World.size_alloc, World.size_setCell, World.size_drew, Wov_size, World.heap_drewN]; omega))))

set_option maxRecDepth 10000 in
set_option maxHeartbeats 1000000 in
theorem made_pfine (n p k P D : Int) (g : Nat) (w : World)
    (hn : -9223372036854775808 ≤ n ∧ n ≤ 9223372036854775807) (hp : 0 ≤ p ∧ p < k) (hk : 1 ≤ k ∧ k ≤ 9223372036854775807) (hg : 1 ≤ g) (eP : p.tdiv g = P) (eD : k.tdiv g = D) (hP : 0 ≤ P ∧ P < D) (hD : 1 ≤ D ∧ D ≤ k)
    (F1 : Hid (∀ w, Calls Tryz.prog 108 #[.int .i64 p, .int .i64 k] w fun e w' => e = .returned (.int .i64 g) ∧ ∃ m, w' = w.drewN m))
    (h1 : D ≤ 1048576) (h2 : 0 ≤ n) (h3 : n ≤ 2305843009213693952) (hf1 : n ≤ (9223372036854775807 - P) / D) (E : Int) (eE : n * D = E) (hE : -9223372036854775808 ≤ E ∧ E ≤ 9223372036854775807) (hT : -9223372036854775808 ≤ E + P ∧ E + P ≤ 9223372036854775807) (s : Bool) (M : Pure Tryz.prog 61 #[.agg #[.int .i64 (E + P), .int .i64 D]] (.bool s)) :
    Calls Tryz.prog 126 #[.int .i64 n, .int .i64 p, .int .i64 k] w (Gives w (.tuple #[.agg #[.int .i64 (E + P), .int .i64 D], .bool s])) := by
  obtain ⟨a1, a2⟩ := hn
  obtain ⟨a3, a4⟩ := hp
  obtain ⟨a5, a6⟩ := hk
  obtain ⟨a7, a8⟩ := hP
  obtain ⟨a9, a10⟩ := hD
  have a11 : (g : Int) ≠ 0 := by omega
  go_enter Tryz.func126, Tryz.ntmps126
  go_wp2_with (fail)
  refine (F1.out _).mono ?_; rintro e w' ⟨rfl, m1, rfl⟩
  obtain ⟨a12, a13⟩ := hE
  obtain ⟨a14, a15⟩ := hT
  obtain ⟨ht, ht2⟩ := tdiv_min D (by omega)
  by_cases hz : 0 < P
  · go_wp2_with (fail)
    go_region_with (go_at_call 61; refine (M _).mono ?_; rintro e w' ⟨rfl, p1, rfl⟩)
    all_goals
      go_wp2
      go_returns
      exact gives_end rfl (by (repeat' (first | (with_reducible assumption) | (with_reducible exact Below.refl _ _) | (with_reducible refine below_wov ?_ ?_ _) | (with_reducible refine below_drewN ?_ _) | (with_reducible refine Below.drew ?_) | (with_reducible refine Below.alloc ?_ ?_ _) | (with_reducible refine Below.setCell ?_ ?_ _) | (with_reducible exact Nat.le_refl _) | omega | (simp only [World.size_alloc, World.size_setCell, World.size_drew, Wov_size, World.heap_drewN]; omega))))
  · obtain rfl : P = 0 := by omega
    simp only [Int.sub_zero, Int.add_zero] at hf1 M ⊢
    go_wp2_with (fail)
    go_region_with (go_at_call 61; refine (M _).mono ?_; rintro e w' ⟨rfl, p1, rfl⟩)
    all_goals
      go_wp2
      go_returns
      exact gives_end (by rw [Int.add_zero]) (by (repeat' (first | (with_reducible assumption) | (with_reducible exact Below.refl _ _) | (with_reducible refine below_wov ?_ ?_ _) | (with_reducible refine below_drewN ?_ _) | (with_reducible refine Below.drew ?_) | (with_reducible refine Below.alloc ?_ ?_ _) | (with_reducible refine Below.setCell ?_ ?_ _) | (with_reducible exact Nat.le_refl _) | omega | (simp only [World.size_alloc, World.size_setCell, World.size_drew, Wov_size, World.heap_drewN]; omega))))
end Go.Proofs.YtpaomeilfmeheaaGreat

namespace Go.Proofs.YtpaomeilfmeheaaGreat
set_option linter.unusedSimpArgs false
set_option linter.unusedVariables false
open Go Go.RowKit

theorem normR_ok {T G : Int} {t D : Int} (h1 : T / (Nat.gcd T.natAbs G.natAbs : Nat) = t) (h2 : G / (Nat.gcd T.natAbs G.natAbs : Nat) = D) :
    normR T G = if fits64 t ∧ okRat t D = true then (t, D, 0) else (0, 0, 10) := by rw [normR, h1, h2]

theorem over_neg {n P D : Int} (hD : 1 ≤ D) (hD2 : D ≤ 1048576) (hP0 : 0 ≤ P) (hP : P < D) (hn : n < 0) (h : 9223372036854775807 / D < n + 1 ∨ n + 1 < (-9223372036854775808 - (P - D)).tdiv D) : ¬ fits64 (n * D + P) := by
  intro hf
  unfold fits64 at hf
  have e : n * D = (n + 1) * D - D := by rw [Int.add_mul]; omega
  rcases h with h | h
  · have : 0 ≤ 9223372036854775807 / D := Int.ediv_nonneg (by omega) (by omega)
    omega
  · have hm : (-9223372036854775808 - (P - D)).tdiv D ≤ -((9223372036854775808 + (P - D)) / D) := by
      rw [show (-9223372036854775808 - (P - D)) = -(9223372036854775808 + (P - D)) by omega, Int.neg_tdiv, Int.tdiv_eq_ediv_of_nonneg (by omega)]
      omega
    have h2 : (n + 1) < -((9223372036854775808 + (P - D)) / D) := by omega
    have h3 : (9223372036854775808 + (P - D)) / D < -(n + 1) := by omega
    have h4 := Int.lt_mul_of_ediv_lt (by omega : 0 < D) h3
    rw [Int.neg_mul] at h4
    omega
theorem fine_neg {n P D : Int} (hD : 1 ≤ D) (hD2 : D ≤ 1048576) (hP0 : 0 ≤ P) (hP : P < D) (hn : n < 0) (hn2 : -2305843009213693952 ≤ n) (h : ¬ (9223372036854775807 / D < n + 1 ∨ n + 1 < (-9223372036854775808 - (P - D)).tdiv D)) :
    n + 1 ≤ 9223372036854775807 / D ∧ (-9223372036854775808 - (P - D)).tdiv D ≤ n + 1 ∧ -9223372036854775808 ≤ (n + 1) * D ∧ (n + 1) * D ≤ 9223372036854775807 ∧ fits64 (n * D + P) := by
  have h1 : n + 1 ≤ 9223372036854775807 / D := by omega
  have h2 : (-9223372036854775808 - (P - D)).tdiv D ≤ n + 1 := by omega
  have e : n * D = (n + 1) * D - D := by rw [Int.add_mul]; omega
  have hm : (-9223372036854775808 - (P - D)).tdiv D = -((9223372036854775808 + (P - D)) / D) := by
    rw [show (-9223372036854775808 - (P - D)) = -(9223372036854775808 + (P - D)) by omega, Int.neg_tdiv, Int.tdiv_eq_ediv_of_nonneg (by omega)]
  have h3 : -(n + 1) ≤ (9223372036854775808 + (P - D)) / D := by omega
  have h4 := Int.mul_le_of_le_ediv (by omega : 0 < D) h3
  rw [Int.neg_mul] at h4
  have h5 : (n + 1) * D ≤ 0 := Int.mul_nonpos_of_nonpos_of_nonneg (by omega) (by omega)
  refine ⟨h1, h2, by omega, by omega, ?_⟩
  unfold fits64
  omega
theorem over_pos {n P D : Int} (hD : 1 ≤ D) (hP0 : 0 ≤ P) (hP : P < D) (hn : 0 ≤ n) (h : (9223372036854775807 - P) / D < n) : ¬ fits64 (n * D + P) := by
  intro hf
  unfold fits64 at hf
  have h4 := Int.lt_mul_of_ediv_lt (by omega : 0 < D) h
  omega
theorem fine_pos {n P D : Int} (hD : 1 ≤ D) (hP0 : 0 ≤ P) (hP : P < D) (hn : 0 ≤ n) (h : n ≤ (9223372036854775807 - P) / D) : -9223372036854775808 ≤ n * D ∧ n * D ≤ 9223372036854775807 ∧ fits64 (n * D + P) := by
  have h4 := Int.mul_le_of_le_ediv (by omega : 0 < D) h
  have h5 : 0 ≤ n * D := Int.mul_nonneg hn (by omega)
  unfold fits64
  omega

theorem made_out (n p k : Int) (hn : -9223372036854775808 ≤ n ∧ n ≤ 9223372036854775807) (hp : 0 ≤ p ∧ p < k) (hk : k ≤ 9223372036854775807) :
    ∃ (x y : Int) (s : Bool), Pure Tryz.prog 126 #[.int .i64 n, .int .i64 p, .int .i64 k] (.tuple #[.agg #[.int .i64 x, .int .i64 y], .bool s]) ∧
      (s = true ∧ normR (n * k + p) k = (x, y, 0) ∨ s = false ∧ normR (n * k + p) k = (0, 0, 10)) := by
  have hk0 : 0 < k := by omega
  have F1 := Lib.hid (fun w => refCommon_any p.natAbs k.natAbs w (by omega) (by omega))
  obtain ⟨g, hg⟩ : ∃ g, g = Nat.gcd p.natAbs k.natAbs := ⟨_, rfl⟩
  rw [← hg, show ((p.natAbs : Nat) : Int) = p by omega, show ((k.natAbs : Nat) : Int) = k by omega] at F1
  obtain ⟨P, hPe⟩ : ∃ P, P = p / g := ⟨_, rfl⟩
  obtain ⟨D, hDe⟩ : ∃ D, D = k / g := ⟨_, rfl⟩
  obtain ⟨g0, P0, PD, D0, DG, e1, e2, e3, tP, tD, gG, wd⟩ := norm_parts (w := n) hk0 hp.1 hp.2 hg hPe hDe
  have RR := normR_ok e1 e2
  have over : ¬ (fits64 (n * D + P) ∧ okRat (n * D + P) D = true) → normR (n * k + p) k = (0, 0, 10) := fun h => by rw [RR, if_neg h]
  by_cases hD2 : 1048576 < D
  · refine ⟨0, 0, false, fun w => made_wide n p k P D g w hn hp ⟨hk0, hk⟩ g0 tP tD ⟨P0, PD⟩ ⟨D0, DG⟩ F1 hD2, .inr ⟨rfl, over ?_⟩⟩
    rintro ⟨_, h⟩
    have := okRat_bd h
    omega
  · by_cases hfar : n < -2305843009213693952 ∨ 2305843009213693952 < n
    · refine ⟨0, 0, false, fun w => made_far n p k P D g w hn hp ⟨hk0, hk⟩ g0 tP tD ⟨P0, PD⟩ ⟨D0, DG⟩ F1 (by omega) hfar, .inr ⟨rfl, over ?_⟩⟩
      rintro ⟨_, h⟩
      have := (okRat_bd h).2.2.1
      have hw : okN n = false := by simp [okN]; omega
      rw [withinB_far wd hw] at this
      cases this
    · by_cases hneg : n < 0
      · by_cases ho : 9223372036854775807 / D < n + 1 ∨ n + 1 < (-9223372036854775808 - (P - D)).tdiv D
        · exact ⟨0, 0, false, fun w => made_nover n p k P D g w hn hp ⟨hk0, hk⟩ g0 tP tD ⟨P0, PD⟩ ⟨D0, DG⟩ F1 (by omega) (by omega) hneg ho, .inr ⟨rfl, over (fun h => over_neg D0 (by omega) P0 PD hneg ho h.1)⟩⟩
        · obtain ⟨f1, f2, f3, f4, f5⟩ := fine_neg D0 (by omega) P0 PD hneg (by omega) ho
          have e : (n + 1) * D + (P - D) = n * D + P := by rw [Int.add_mul]; omega
          have hM := ref3May_any (n * D + P) D f5.1 f5.2
          refine ⟨(n + 1) * D + (P - D), D, okRat (n * D + P) D, fun w => made_nfine n p k P D g w hn hp ⟨hk0, hk⟩ g0 tP tD ⟨P0, PD⟩ ⟨D0, DG⟩ F1 (by omega) (by omega) hneg f1 f2 _ rfl ⟨f3, f4⟩ (by rw [e]; exact f5) _ (by rw [e]; exact hM), ?_⟩
          rw [e]
          cases hok : okRat (n * D + P) D
          · exact .inr ⟨rfl, over (fun h => by rw [hok] at h; cases h.2)⟩
          · exact .inl ⟨rfl, by rw [RR, if_pos ⟨f5, hok⟩]⟩
      · by_cases ho : (9223372036854775807 - P) / D < n
        · exact ⟨0, 0, false, fun w => made_pover n p k P D g w hn hp ⟨hk0, hk⟩ g0 tP tD ⟨P0, PD⟩ ⟨D0, DG⟩ F1 (by omega) (by omega) (by omega) ho, .inr ⟨rfl, over (fun h => over_pos D0 P0 PD (by omega) ho h.1)⟩⟩
        · obtain ⟨f3, f4, f5⟩ := fine_pos D0 P0 PD (by omega) (Int.not_lt.1 ho)
          have hM := ref3May_any (n * D + P) D f5.1 f5.2
          refine ⟨n * D + P, D, okRat (n * D + P) D, fun w => made_pfine n p k P D g w hn hp ⟨hk0, hk⟩ g0 tP tD ⟨P0, PD⟩ ⟨D0, DG⟩ F1 (by omega) (by omega) (by omega) (by omega) _ rfl ⟨f3, f4⟩ f5 _ hM, ?_⟩
          cases hok : okRat (n * D + P) D
          · exact .inr ⟨rfl, over (fun h => by rw [hok] at h; cases h.2)⟩
          · exact .inl ⟨rfl, by rw [RR, if_pos ⟨f5, hok⟩]⟩
end Go.Proofs.YtpaomeilfmeheaaGreat

namespace Go.Proofs.YtpaomeilfmeheaaGreat
set_option linter.unusedSimpArgs false
set_option linter.unusedVariables false
open Go Go.RowKit

set_option maxRecDepth 10000 in
set_option maxHeartbeats 1000000 in
theorem refAdd_walk (n1 d1 n2 d2 X Y R S A B E W T Q L x y : Int) (s : Bool) (w : World) (hd1 : 1 ≤ d1 ∧ d1 ≤ 1048576) (hd2 : 1 ≤ d2 ∧ d2 ≤ 1048576)
    (hX : -2305843009213693952 ≤ X ∧ X ≤ 2305843009213693952) (hY : -2305843009213693952 ≤ Y ∧ Y ≤ 2305843009213693952)
    (hA : 0 ≤ A ∧ A ≤ 1099511627776) (hB : 0 ≤ B ∧ B ≤ 1099511627776) (hE : 1 ≤ E ∧ E ≤ 1099511627776) (hQ : 0 ≤ Q ∧ Q ≤ 2199023255552)
    (eA : R * d2 = A) (eB : S * d1 = B) (eE : d1 * d2 = E) (eQ : (A + B) / E = Q) (eL : (A + B) % E = L)
    (C1 : Pure Tryz.prog 61 #[.agg #[.int .i64 n1, .int .i64 d1]] (.bool true))
    (C2 : Pure Tryz.prog 61 #[.agg #[.int .i64 n2, .int .i64 d2]] (.bool true))
    (L1 : Hid (∀ w, Calls Tryz.prog 89 #[.int .i64 n1, .int .i64 d1] w fun e w' => e = .returned (.int .i64 X) ∧ w = w'))
    (L2 : Hid (∀ w, Calls Tryz.prog 89 #[.int .i64 n2, .int .i64 d2] w fun e w' => e = .returned (.int .i64 Y) ∧ w = w'))
    (P1 : Hid (∀ w, Calls Tryz.prog 90 #[.int .i64 n1, .int .i64 d1] w fun e w' => e = .returned (.int .i64 R) ∧ w = w'))
    (P2 : Hid (∀ w, Calls Tryz.prog 90 #[.int .i64 n2, .int .i64 d2] w fun e w' => e = .returned (.int .i64 S) ∧ w = w'))
    (M : Hid (Pure Tryz.prog 126 #[.int .i64 (X + Y + Q), .int .i64 L, .int .i64 E] (.tuple #[.agg #[.int .i64 x, .int .i64 y], .bool s])))
    (r : Int × Int × Int) (hr : Hid (s = true ∧ r = (x, y, 0) ∨ s = false ∧ r = (0, 0, 10))) :
    Calls Tryz.prog 127 #[.agg #[.int .i64 n1, .int .i64 d1], .agg #[.int .i64 n2, .int .i64 d2]] w (Gives w (rat3 r)) := by
  obtain ⟨a1, a2⟩ := hX
  obtain ⟨a3, a4⟩ := hY
  obtain ⟨a5, a6⟩ := hA
  obtain ⟨a7, a8⟩ := hB
  obtain ⟨a9, a10⟩ := hE
  obtain ⟨a11, a12⟩ := hQ
  obtain ⟨a13, a14⟩ := hd1
  obtain ⟨a15, a16⟩ := hd2
  have hE0 : ¬ E = 0 := by omega
  have q1 : 0 ≤ A + B := by omega
  have tQ : (A + B).tdiv E = Q := by rw [Int.tdiv_eq_ediv_of_nonneg q1]; exact eQ
  have tL : (A + B).tmod E = L := by rw [Int.tmod_eq_emod_of_nonneg q1]; exact eL
  go_enter Tryz.func127, Tryz.ntmps127
  go_wp2_with (fail)
  refine (C1 _).mono ?_; rintro e w' ⟨rfl, p1, rfl⟩
  go_wp2_with (fail)
  refine (C2 _).mono ?_; rintro e w' ⟨rfl, p2, rfl⟩
  go_wp2_with (fail)
  refine wp_region_wov (by kernel_rfl) (by kernel_rfl) ?_
  repeat (go_big_quiet_step (first
    | (go_at_call_of 90 (Value.int IntKind.i64 n1); (first | exact ((Pure.of_same (fun w => P1.out w))).at _ _ | exact ((Pure.of_same (fun w => P1.out w))).at2 _ _ _ | exact ((Pure.of_same (fun w => P1.out w))).at3 _ _ _ _ | exact ((Pure.of_same (fun w => P1.out w))).at4 _ _ _ _ _ | exact ((Pure.of_same (fun w => P1.out w))).at5 _ _ _ _ _ _ | exact ((Pure.of_same (fun w => P1.out w))).at6 _ _ _ _ _ _ _))
    | (go_at_call_of 90 (Value.int IntKind.i64 n2); (first | exact ((Pure.of_same (fun w => P2.out w))).at _ _ | exact ((Pure.of_same (fun w => P2.out w))).at2 _ _ _ | exact ((Pure.of_same (fun w => P2.out w))).at3 _ _ _ _ | exact ((Pure.of_same (fun w => P2.out w))).at4 _ _ _ _ _ | exact ((Pure.of_same (fun w => P2.out w))).at5 _ _ _ _ _ _ | exact ((Pure.of_same (fun w => P2.out w))).at6 _ _ _ _ _ _ _))))
  refine wpQuiet_nil ?_
  rintro _ ⟨pq, rfl⟩
  go_wp2_with (fail)
  refine wp_world (fun W => Below w.heap.size w W ∧ w.heap.size + 2 < W.heap.size ∧ W.cell? ⟨w.heap.size, 0, none⟩ = some (.int .i64 n1) ∧ W.cell? ⟨w.heap.size, 1, none⟩ = some (.int .i64 d1) ∧ W.cell? ⟨w.heap.size + 1, 0, none⟩ = some (.int .i64 n2) ∧ W.cell? ⟨w.heap.size + 1, 1, none⟩ = some (.int .i64 d2) ∧ W.cell? ⟨w.heap.size + 1 + 1, 0, none⟩ = some (.int .i64 0) ∧ W.cell? ⟨w.heap.size + 1 + 1, 1, none⟩ = some (.int .i64 0) ∧ W.frozen? ⟨w.heap.size + 1 + 1, 0, none⟩ = false ∧ W.frozen? ⟨w.heap.size + 1 + 1, 1, none⟩ = false) ⟨by (repeat' (first | (with_reducible assumption) | (with_reducible exact Below.refl _ _) | (with_reducible refine below_wov ?_ ?_ _) | (with_reducible refine below_drewN ?_ _) | (with_reducible refine Below.drew ?_) | (with_reducible refine Below.alloc ?_ ?_ _) | (with_reducible refine Below.setCell ?_ ?_ _) | (with_reducible exact Nat.le_refl _) | omega | (simp only [World.size_alloc, World.size_setCell, World.size_drew, Wov_size, World.heap_drewN]; omega))), by (first | omega | ((simp only [World.size_alloc, World.size_setCell, World.size_drew, Wov_size, World.heap_drewN, Array.size_append]) <;> omega)), by ((repeat (first | (with_reducible refine Eq.trans (World.cell?_drewN _ _ _) ?_) | (with_reducible refine Eq.trans (World.cell?_drew _ _) ?_) | (with_reducible refine Eq.trans (World.cell?_alloc_past _ _ _ ?hsz) ?_; case hsz => (first | omega | ((simp only [World.size_alloc, World.size_setCell, World.size_drew, Wov_size, World.heap_drewN, Array.size_append]) <;> omega))) | (with_reducible refine Eq.trans (Wov_cell_past _ _ _ _ ?hsz) ?_; case hsz => (first | omega | ((simp only [World.size_alloc, World.size_setCell, World.size_drew, Wov_size, World.heap_drewN, Array.size_append]) <;> omega))) | (with_reducible refine Eq.trans (World.cell?_alloc_at _ _ _ _ ?hsz) ?_; case hsz => (first | omega | ((simp only [World.size_alloc, World.size_setCell, World.size_drew, Wov_size, World.heap_drewN, Array.size_append]) <;> omega))))) <;> first | rfl | assumption | (simp; done)), by ((repeat (first | (with_reducible refine Eq.trans (World.cell?_drewN _ _ _) ?_) | (with_reducible refine Eq.trans (World.cell?_drew _ _) ?_) | (with_reducible refine Eq.trans (World.cell?_alloc_past _ _ _ ?hsz) ?_; case hsz => (first | omega | ((simp only [World.size_alloc, World.size_setCell, World.size_drew, Wov_size, World.heap_drewN, Array.size_append]) <;> omega))) | (with_reducible refine Eq.trans (Wov_cell_past _ _ _ _ ?hsz) ?_; case hsz => (first | omega | ((simp only [World.size_alloc, World.size_setCell, World.size_drew, Wov_size, World.heap_drewN, Array.size_append]) <;> omega))) | (with_reducible refine Eq.trans (World.cell?_alloc_at _ _ _ _ ?hsz) ?_; case hsz => (first | omega | ((simp only [World.size_alloc, World.size_setCell, World.size_drew, Wov_size, World.heap_drewN, Array.size_append]) <;> omega))))) <;> first | rfl | assumption | (simp; done)), by ((repeat (first | (with_reducible refine Eq.trans (World.cell?_drewN _ _ _) ?_) | (with_reducible refine Eq.trans (World.cell?_drew _ _) ?_) | (with_reducible refine Eq.trans (World.cell?_alloc_past _ _ _ ?hsz) ?_; case hsz => (first | omega | ((simp only [World.size_alloc, World.size_setCell, World.size_drew, Wov_size, World.heap_drewN, Array.size_append]) <;> omega))) | (with_reducible refine Eq.trans (Wov_cell_past _ _ _ _ ?hsz) ?_; case hsz => (first | omega | ((simp only [World.size_alloc, World.size_setCell, World.size_drew, Wov_size, World.heap_drewN, Array.size_append]) <;> omega))) | (with_reducible refine Eq.trans (World.cell?_alloc_at _ _ _ _ ?hsz) ?_; case hsz => (first | omega | ((simp only [World.size_alloc, World.size_setCell, World.size_drew, Wov_size, World.heap_drewN, Array.size_append]) <;> omega))))) <;> first | rfl | assumption | (simp; done)), by ((repeat (first | (with_reducible refine Eq.trans (World.cell?_drewN _ _ _) ?_) | (with_reducible refine Eq.trans (World.cell?_drew _ _) ?_) | (with_reducible refine Eq.trans (World.cell?_alloc_past _ _ _ ?hsz) ?_; case hsz => (first | omega | ((simp only [World.size_alloc, World.size_setCell, World.size_drew, Wov_size, World.heap_drewN, Array.size_append]) <;> omega))) | (with_reducible refine Eq.trans (Wov_cell_past _ _ _ _ ?hsz) ?_; case hsz => (first | omega | ((simp only [World.size_alloc, World.size_setCell, World.size_drew, Wov_size, World.heap_drewN, Array.size_append]) <;> omega))) | (with_reducible refine Eq.trans (World.cell?_alloc_at _ _ _ _ ?hsz) ?_; case hsz => (first | omega | ((simp only [World.size_alloc, World.size_setCell, World.size_drew, Wov_size, World.heap_drewN, Array.size_append]) <;> omega))))) <;> first | rfl | assumption | (simp; done)), by ((repeat (first | (with_reducible refine Eq.trans (World.cell?_drewN _ _ _) ?_) | (with_reducible refine Eq.trans (World.cell?_drew _ _) ?_) | (with_reducible refine Eq.trans (World.cell?_alloc_past _ _ _ ?hsz) ?_; case hsz => (first | omega | ((simp only [World.size_alloc, World.size_setCell, World.size_drew, Wov_size, World.heap_drewN, Array.size_append]) <;> omega))) | (with_reducible refine Eq.trans (Wov_cell_past _ _ _ _ ?hsz) ?_; case hsz => (first | omega | ((simp only [World.size_alloc, World.size_setCell, World.size_drew, Wov_size, World.heap_drewN, Array.size_append]) <;> omega))) | (with_reducible refine Eq.trans (World.cell?_alloc_at _ _ _ _ ?hsz) ?_; case hsz => (first | omega | ((simp only [World.size_alloc, World.size_setCell, World.size_drew, Wov_size, World.heap_drewN, Array.size_append]) <;> omega))))) <;> first | rfl | assumption | (simp; done)), by ((repeat (first | (with_reducible refine Eq.trans (World.cell?_drewN _ _ _) ?_) | (with_reducible refine Eq.trans (World.cell?_drew _ _) ?_) | (with_reducible refine Eq.trans (World.cell?_alloc_past _ _ _ ?hsz) ?_; case hsz => (first | omega | ((simp only [World.size_alloc, World.size_setCell, World.size_drew, Wov_size, World.heap_drewN, Array.size_append]) <;> omega))) | (with_reducible refine Eq.trans (Wov_cell_past _ _ _ _ ?hsz) ?_; case hsz => (first | omega | ((simp only [World.size_alloc, World.size_setCell, World.size_drew, Wov_size, World.heap_drewN, Array.size_append]) <;> omega))) | (with_reducible refine Eq.trans (World.cell?_alloc_at _ _ _ _ ?hsz) ?_; case hsz => (first | omega | ((simp only [World.size_alloc, World.size_setCell, World.size_drew, Wov_size, World.heap_drewN, Array.size_append]) <;> omega))))) <;> first | rfl | assumption | (simp; done)), by simp [go_sem], by simp [go_sem]⟩ ?_
  rintro W ⟨hB, hsz, f1, f2, f3, f4, f5, f6, f7, f8⟩
  clear C1 C2 P1 P2 eA eB
  have M2 : Hid (∀ w, Calls Tryz.prog 126 #[.int .i64 (X + Y + Q), .int .i64 L, .int .i64 E] w (Gives w (.tuple #[.agg #[.int .i64 x, .int .i64 y], .bool s]))) := M
  clear M
  have u1 : IntKind.i64.wrap (X + Y) = X + Y := IntWalk.i64_in _ (by omega)
  have u2 : IntKind.i64.wrap (X + Y + Q) = X + Y + Q := IntWalk.i64_in _ (by omega)
  have u3 : IntKind.i64.wrap Q = Q := IntWalk.i64_in _ (by omega)
  go_region_held3 (fun w' => w'.cell? ⟨w.heap.size, 0, none⟩ = some (.int .i64 n1) ∧ w'.cell? ⟨w.heap.size, 1, none⟩ = some (.int .i64 d1) ∧ w'.cell? ⟨w.heap.size + 1, 0, none⟩ = some (.int .i64 n2) ∧ w'.cell? ⟨w.heap.size + 1, 1, none⟩ = some (.int .i64 d2))
    ((simp [go_sem, *]))
    (first
    | (go_at_call_of 89 (Value.int IntKind.i64 n1); refine (L1.out _).mono ?_; rintro e w' ⟨rfl, rfl⟩)
    | (go_at_call_of 89 (Value.int IntKind.i64 n2); refine (L2.out _).mono ?_; rintro e w' ⟨rfl, rfl⟩)
    | (go_at_call 126; ((with_reducible refine (M2.out _).mono ?_); rintro e w' ⟨rfl, p3, rfl⟩)))
  all_goals
    rcases hr.out with ⟨rfl, rfl⟩ | ⟨rfl, rfl⟩
    · go_wp2
      refine bodyPost_ret (by simp [results, Tryz.results127, go_sem, f5, f6]; try rfl) rfl ?_
      exact gives_rat rfl (by (repeat' (first | (with_reducible assumption) | (with_reducible exact Below.refl _ _) | (with_reducible refine below_wov ?_ ?_ _) | (with_reducible refine below_drewN ?_ _) | (with_reducible refine Below.drew ?_) | (with_reducible refine Below.alloc ?_ ?_ _) | (with_reducible refine Below.setCell ?_ ?_ _) | (with_reducible exact Nat.le_refl _) | omega | (simp only [World.size_alloc, World.size_setCell, World.size_drew, Wov_size, World.heap_drewN]; omega))))
    · go_wp2
      refine bodyPost_ret (by simp [results, Tryz.results127, go_sem, f5, f6]; try rfl) rfl ?_
      exact gives_rat rfl (by (repeat' (first | (with_reducible assumption) | (with_reducible exact Below.refl _ _) | (with_reducible refine below_wov ?_ ?_ _) | (with_reducible refine below_drewN ?_ _) | (with_reducible refine Below.drew ?_) | (with_reducible refine Below.alloc ?_ ?_ _) | (with_reducible refine Below.setCell ?_ ?_ _) | (with_reducible exact Nat.le_refl _) | omega | (simp only [World.size_alloc, World.size_setCell, World.size_drew, Wov_size, World.heap_drewN]; omega))))

end Go.Proofs.YtpaomeilfmeheaaGreat

namespace Go.Proofs.YtpaomeilfmeheaaGreat
set_option linter.unusedSimpArgs false
set_option linter.unusedVariables false
open Go Go.RowKit

theorem sum_parts {n1 d1 n2 d2 : Int} : n1 * d2 + n2 * d1 = (n1 / d1 + n2 / d2) * (d1 * d2) + (n1 % d1 * d2 + n2 % d2 * d1) := by
  have eX := Int.mul_ediv_add_emod n1 d1
  have eY := Int.mul_ediv_add_emod n2 d2
  have t1 : n1 * d2 = n1 / d1 * (d1 * d2) + n1 % d1 * d2 := by
    conv => lhs; rw [← eX]
    rw [Int.add_mul, Int.mul_comm d1, Int.mul_assoc]
  have t2 : n2 * d1 = n2 / d2 * (d1 * d2) + n2 % d2 * d1 := by
    conv => lhs; rw [← eY]
    rw [Int.add_mul, Int.mul_comm d2 (n2 / d2), Int.mul_assoc, Int.mul_comm d2 d1]
  rw [t1, t2, Int.add_mul]
  omega

set_option maxRecDepth 10000 in
theorem refAdd_any (n1 d1 n2 d2 : Int) (h1 : fits64 n1) (h2 : fits64 n2) :
    Pure Tryz.prog 127 #[.agg #[.int .i64 n1, .int .i64 d1], .agg #[.int .i64 n2, .int .i64 d2]] (rat3 (addPR n1 d1 n2 d2 1)) := by
  intro w
  cases o1 : okRat n1 d1
  · have C1 := may_bad h1.1 h1.2 o1
    have R : Hid (addPR n1 d1 n2 d2 1 = (0, 0, 8)) := by show _ = _; rw [addPR, o1]; rfl
    clear o1 h1 h2
    go_enter Tryz.func127, Tryz.ntmps127
    go_wp2_with (fail)
    refine (C1 _).mono ?_; rintro e w' ⟨rfl, p, rfl⟩
    go_wp2
    go_returns
    exact gives_rat R.out (by (repeat' (first | (with_reducible assumption) | (with_reducible exact Below.refl _ _) | (with_reducible refine below_wov ?_ ?_ _) | (with_reducible refine below_drewN ?_ _) | (with_reducible refine Below.drew ?_) | (with_reducible refine Below.alloc ?_ ?_ _) | (with_reducible refine Below.setCell ?_ ?_ _) | (with_reducible exact Nat.le_refl _) | omega | (simp only [World.size_alloc, World.size_setCell, World.size_drew, Wov_size, World.heap_drewN]; omega))))
  · have C1 := may_ok h1.1 h1.2 o1
    cases o2 : okRat n2 d2
    · have C2 := may_bad h2.1 h2.2 o2
      have R : Hid (addPR n1 d1 n2 d2 1 = (0, 0, 8)) := by show _ = _; rw [addPR, o1, o2]; rfl
      clear o1 o2 h1 h2
      go_enter Tryz.func127, Tryz.ntmps127
      go_wp2_with (fail)
      refine (C1 _).mono ?_; rintro e w' ⟨rfl, p, rfl⟩
      go_wp2_with (fail)
      refine (C2 _).mono ?_; rintro e w' ⟨rfl, p2, rfl⟩
      go_wp2
      go_returns
      exact gives_rat R.out (by (repeat' (first | (with_reducible assumption) | (with_reducible exact Below.refl _ _) | (with_reducible refine below_wov ?_ ?_ _) | (with_reducible refine below_drewN ?_ _) | (with_reducible refine Below.drew ?_) | (with_reducible refine Below.alloc ?_ ?_ _) | (with_reducible refine Below.setCell ?_ ?_ _) | (with_reducible exact Nat.le_refl _) | omega | (simp only [World.size_alloc, World.size_setCell, World.size_drew, Wov_size, World.heap_drewN]; omega))))
    · have C2 := may_ok h2.1 h2.2 o2
      obtain ⟨p1, p2, p3, p4⟩ := okRat_bd o1
      obtain ⟨q1, q2, q3, q4⟩ := okRat_bd o2
      have hX := withinB_bd p3
      have hY := withinB_bd q3
      have hR := emod_bd n1 d1 (by omega)
      have hS := emod_bd n2 d2 (by omega)
      have hA := mul_bd (a := n1 % d1) (b := d2) (M := 1048576) (K := 1048576) hR.1 (by omega) (by omega) q2
      have hB := mul_bd (a := n2 % d2) (b := d1) (M := 1048576) (K := 1048576) hS.1 (by omega) (by omega) p2
      have hE := mul_bd (a := d1) (b := d2) (M := 1048576) (K := 1048576) (by omega) p2 (by omega) q2
      have hE0 : 0 < d1 * d2 := Int.mul_pos (by omega) (by omega)
      have hQ0 : 0 ≤ (n1 % d1 * d2 + n2 % d2 * d1) / (d1 * d2) := Int.ediv_nonneg (by omega) (by omega)
      have hQ1 : (n1 % d1 * d2 + n2 % d2 * d1) / (d1 * d2) ≤ n1 % d1 * d2 + n2 % d2 * d1 := Int.ediv_le_self _ (by omega)
      have hL := emod_bd (n1 % d1 * d2 + n2 % d2 * d1) (d1 * d2) hE0
      have eQ := Int.mul_ediv_add_emod (n1 % d1 * d2 + n2 % d2 * d1) (d1 * d2)
      obtain ⟨x, y, s, M, hxy⟩ := made_out (n1 / d1 + n2 / d2 + (n1 % d1 * d2 + n2 % d2 * d1) / (d1 * d2)) ((n1 % d1 * d2 + n2 % d2 * d1) % (d1 * d2)) (d1 * d2) ⟨by omega, by omega⟩ hL (by omega)
      have eT : (n1 / d1 + n2 / d2 + (n1 % d1 * d2 + n2 % d2 * d1) / (d1 * d2)) * (d1 * d2) + (n1 % d1 * d2 + n2 % d2 * d1) % (d1 * d2) = n1 * d2 + n2 * d1 := by
        rw [sum_parts (n1 := n1) (d1 := d1) (n2 := n2) (d2 := d2), Int.add_mul _ ((n1 % d1 * d2 + n2 % d2 * d1) / (d1 * d2)), Int.mul_comm ((n1 % d1 * d2 + n2 % d2 * d1) / (d1 * d2))]
        omega
      rw [eT] at hxy
      have R : addPR n1 d1 n2 d2 1 = normR (n1 * d2 + n2 * d1) (d1 * d2) := by rw [addPR, o1, o2, sumR, Int.mul_one]; rfl
      rw [R]
      exact refAdd_walk n1 d1 n2 d2 _ _ _ _ _ _ _ 0 0 _ _ x y s w ⟨p1, p2⟩ ⟨q1, q2⟩ hX hY ⟨hA.1, by omega⟩ ⟨hB.1, by omega⟩ ⟨by omega, by omega⟩ ⟨hQ0, by omega⟩ rfl rfl rfl rfl rfl C1 C2
        (fun w => refLow_any n1 d1 w h1.1 h1.2 (by omega) (by omega)) (fun w => refLow_any n2 d2 w h2.1 h2.2 (by omega) (by omega)) (fun w => refPart_any n1 d1 w h1.1 h1.2 (by omega) (by omega)) (fun w => refPart_any n2 d2 w h2.1 h2.2 (by omega) (by omega)) M _ hxy
end Go.Proofs.YtpaomeilfmeheaaGreat

namespace Go.Proofs.YtpaomeilfmeheaaGreat
set_option linter.unusedSimpArgs false
set_option linter.unusedVariables false
open Go Go.RowKit

set_option maxRecDepth 10000 in
set_option maxHeartbeats 2000000 in
theorem refMid_walk (n1 d1 n2 d2 X Y R S A B E H K C G T Q L x y : Int) (s : Bool) (w : World) (hd1 : 1 ≤ d1 ∧ d1 ≤ 1048576) (hd2 : 1 ≤ d2 ∧ d2 ≤ 1048576)
    (hX : -2305843009213693952 ≤ X ∧ X ≤ 2305843009213693952) (hY : -2305843009213693952 ≤ Y ∧ Y ≤ 2305843009213693952) (hH : -4611686018427387904 ≤ H ∧ H ≤ 4611686018427387904) (hK : 0 ≤ K ∧ K ≤ 1)
    (hA : 0 ≤ A ∧ A ≤ 1099511627776) (hB : 0 ≤ B ∧ B ≤ 1099511627776) (hC : 0 ≤ C ∧ C ≤ 1099511627776) (hE : 1 ≤ E ∧ E ≤ 1099511627776) (hQ : 0 ≤ Q ∧ Q ≤ 4398046511104)
    (eA : R * d2 = A) (eB : S * d1 = B) (eE : d1 * d2 = E) (eC : K * E = C) (eQ : (C + A + B) / (2 * E) = Q) (eL : (C + A + B) % (2 * E) = L)
    (C1 : Pure Tryz.prog 61 #[.agg #[.int .i64 n1, .int .i64 d1]] (.bool true))
    (C2 : Pure Tryz.prog 61 #[.agg #[.int .i64 n2, .int .i64 d2]] (.bool true))
    (L1 : Hid (∀ w, Calls Tryz.prog 89 #[.int .i64 n1, .int .i64 d1] w fun e w' => e = .returned (.int .i64 X) ∧ w = w'))
    (L2 : Hid (∀ w, Calls Tryz.prog 89 #[.int .i64 n2, .int .i64 d2] w fun e w' => e = .returned (.int .i64 Y) ∧ w = w'))
    (L3 : Hid (∀ w, Calls Tryz.prog 89 #[.int .i64 (X + Y), .int .i64 2] w fun e w' => e = .returned (.int .i64 H) ∧ w = w'))
    (P1 : Hid (∀ w, Calls Tryz.prog 90 #[.int .i64 n1, .int .i64 d1] w fun e w' => e = .returned (.int .i64 R) ∧ w = w'))
    (P2 : Hid (∀ w, Calls Tryz.prog 90 #[.int .i64 n2, .int .i64 d2] w fun e w' => e = .returned (.int .i64 S) ∧ w = w'))
    (P3 : Hid (∀ w, Calls Tryz.prog 90 #[.int .i64 (X + Y), .int .i64 2] w fun e w' => e = .returned (.int .i64 K) ∧ w = w'))
    (M2 : Hid (∀ w, Calls Tryz.prog 126 #[.int .i64 (H + Q), .int .i64 L, .int .i64 (2 * E)] w (Gives w (.tuple #[.agg #[.int .i64 x, .int .i64 y], .bool s]))))
    (r : Int × Int × Int) (hr : Hid (s = true ∧ r = (x, y, 0) ∨ s = false ∧ r = (0, 0, 10))) :
    Calls Tryz.prog 117 #[.agg #[.int .i64 n1, .int .i64 d1], .agg #[.int .i64 n2, .int .i64 d2]] w (Gives w (rat3 r)) := by
  obtain ⟨a1, a2⟩ := hX
  obtain ⟨a3, a4⟩ := hY
  obtain ⟨a5, a6⟩ := hA
  obtain ⟨a7, a8⟩ := hB
  obtain ⟨a9, a10⟩ := hE
  obtain ⟨a11, a12⟩ := hQ
  obtain ⟨a13, a14⟩ := hd1
  obtain ⟨a15, a16⟩ := hd2
  obtain ⟨a17, a18⟩ := hH
  obtain ⟨a19, a20⟩ := hC
  obtain ⟨a21, a22⟩ := hK
  have hE0 : ¬ 2 * E = 0 := by omega
  have hE1 : ¬ E = 0 := by omega
  have q1 : 0 ≤ C + A + B := by omega
  have q2 : C + A + B ≤ 3298534883328 := by omega
  have tQ : (C + A + B).tdiv (2 * E) = Q := by rw [Int.tdiv_eq_ediv_of_nonneg q1]; exact eQ
  have tL : (C + A + B).tmod (2 * E) = L := by rw [Int.tmod_eq_emod_of_nonneg q1]; exact eL
  have w1 : IntKind.i64.wrap (X + Y) = X + Y := IntWalk.i64_in _ (by omega)
  have w2 : IntKind.i64.wrap (C + A) = C + A := IntWalk.i64_in _ (by omega)
  have w3 : IntKind.i64.wrap (C + A + B) = C + A + B := IntWalk.i64_in _ (by omega)
  have w4 : IntKind.i64.wrap A = A := IntWalk.i64_in _ (by omega)
  have w5 : IntKind.i64.wrap B = B := IntWalk.i64_in _ (by omega)
  have w6 : IntKind.i64.wrap C = C := IntWalk.i64_in _ (by omega)
  go_enter Tryz.func117, Tryz.ntmps117
  go_wp2_with (fail)
  refine (C1 _).mono ?_; rintro e w' ⟨rfl, p1, rfl⟩
  go_wp2_with (fail)
  refine (C2 _).mono ?_; rintro e w' ⟨rfl, p2, rfl⟩
  go_wp2_with (fail)
  refine wp_world (fun W => Below w.heap.size w W ∧ w.heap.size + 2 < W.heap.size ∧ W.cell? ⟨w.heap.size, 0, none⟩ = some (.int .i64 n1) ∧ W.cell? ⟨w.heap.size, 1, none⟩ = some (.int .i64 d1) ∧ W.cell? ⟨w.heap.size + 1, 0, none⟩ = some (.int .i64 n2) ∧ W.cell? ⟨w.heap.size + 1, 1, none⟩ = some (.int .i64 d2) ∧ W.cell? ⟨w.heap.size + 1 + 1, 0, none⟩ = some (.int .i64 0) ∧ W.cell? ⟨w.heap.size + 1 + 1, 1, none⟩ = some (.int .i64 0) ∧ W.frozen? ⟨w.heap.size + 1 + 1, 0, none⟩ = false ∧ W.frozen? ⟨w.heap.size + 1 + 1, 1, none⟩ = false) ⟨by (repeat' (first | (with_reducible assumption) | (with_reducible exact Below.refl _ _) | (with_reducible refine below_wov ?_ ?_ _) | (with_reducible refine below_drewN ?_ _) | (with_reducible refine Below.drew ?_) | (with_reducible refine Below.alloc ?_ ?_ _) | (with_reducible refine Below.setCell ?_ ?_ _) | (with_reducible exact Nat.le_refl _) | omega | (simp only [World.size_alloc, World.size_setCell, World.size_drew, Wov_size, World.heap_drewN]; omega))), by (first | omega | ((simp only [World.size_alloc, World.size_setCell, World.size_drew, Wov_size, World.heap_drewN, Array.size_append]) <;> omega)), by ((repeat (first | (with_reducible refine Eq.trans (World.cell?_drewN _ _ _) ?_) | (with_reducible refine Eq.trans (World.cell?_drew _ _) ?_) | (with_reducible refine Eq.trans (World.cell?_alloc_past _ _ _ ?hsz) ?_; case hsz => (first | omega | ((simp only [World.size_alloc, World.size_setCell, World.size_drew, Wov_size, World.heap_drewN, Array.size_append]) <;> omega))) | (with_reducible refine Eq.trans (Wov_cell_past _ _ _ _ ?hsz) ?_; case hsz => (first | omega | ((simp only [World.size_alloc, World.size_setCell, World.size_drew, Wov_size, World.heap_drewN, Array.size_append]) <;> omega))) | (with_reducible refine Eq.trans (World.cell?_alloc_at _ _ _ _ ?hsz) ?_; case hsz => (first | omega | ((simp only [World.size_alloc, World.size_setCell, World.size_drew, Wov_size, World.heap_drewN, Array.size_append]) <;> omega))))) <;> first | rfl | assumption | (simp; done)), by ((repeat (first | (with_reducible refine Eq.trans (World.cell?_drewN _ _ _) ?_) | (with_reducible refine Eq.trans (World.cell?_drew _ _) ?_) | (with_reducible refine Eq.trans (World.cell?_alloc_past _ _ _ ?hsz) ?_; case hsz => (first | omega | ((simp only [World.size_alloc, World.size_setCell, World.size_drew, Wov_size, World.heap_drewN, Array.size_append]) <;> omega))) | (with_reducible refine Eq.trans (Wov_cell_past _ _ _ _ ?hsz) ?_; case hsz => (first | omega | ((simp only [World.size_alloc, World.size_setCell, World.size_drew, Wov_size, World.heap_drewN, Array.size_append]) <;> omega))) | (with_reducible refine Eq.trans (World.cell?_alloc_at _ _ _ _ ?hsz) ?_; case hsz => (first | omega | ((simp only [World.size_alloc, World.size_setCell, World.size_drew, Wov_size, World.heap_drewN, Array.size_append]) <;> omega))))) <;> first | rfl | assumption | (simp; done)), by ((repeat (first | (with_reducible refine Eq.trans (World.cell?_drewN _ _ _) ?_) | (with_reducible refine Eq.trans (World.cell?_drew _ _) ?_) | (with_reducible refine Eq.trans (World.cell?_alloc_past _ _ _ ?hsz) ?_; case hsz => (first | omega | ((simp only [World.size_alloc, World.size_setCell, World.size_drew, Wov_size, World.heap_drewN, Array.size_append]) <;> omega))) | (with_reducible refine Eq.trans (Wov_cell_past _ _ _ _ ?hsz) ?_; case hsz => (first | omega | ((simp only [World.size_alloc, World.size_setCell, World.size_drew, Wov_size, World.heap_drewN, Array.size_append]) <;> omega))) | (with_reducible refine Eq.trans (World.cell?_alloc_at _ _ _ _ ?hsz) ?_; case hsz => (first | omega | ((simp only [World.size_alloc, World.size_setCell, World.size_drew, Wov_size, World.heap_drewN, Array.size_append]) <;> omega))))) <;> first | rfl | assumption | (simp; done)), by ((repeat (first | (with_reducible refine Eq.trans (World.cell?_drewN _ _ _) ?_) | (with_reducible refine Eq.trans (World.cell?_drew _ _) ?_) | (with_reducible refine Eq.trans (World.cell?_alloc_past _ _ _ ?hsz) ?_; case hsz => (first | omega | ((simp only [World.size_alloc, World.size_setCell, World.size_drew, Wov_size, World.heap_drewN, Array.size_append]) <;> omega))) | (with_reducible refine Eq.trans (Wov_cell_past _ _ _ _ ?hsz) ?_; case hsz => (first | omega | ((simp only [World.size_alloc, World.size_setCell, World.size_drew, Wov_size, World.heap_drewN, Array.size_append]) <;> omega))) | (with_reducible refine Eq.trans (World.cell?_alloc_at _ _ _ _ ?hsz) ?_; case hsz => (first | omega | ((simp only [World.size_alloc, World.size_setCell, World.size_drew, Wov_size, World.heap_drewN, Array.size_append]) <;> omega))))) <;> first | rfl | assumption | (simp; done)), by ((repeat (first | (with_reducible refine Eq.trans (World.cell?_drewN _ _ _) ?_) | (with_reducible refine Eq.trans (World.cell?_drew _ _) ?_) | (with_reducible refine Eq.trans (World.cell?_alloc_past _ _ _ ?hsz) ?_; case hsz => (first | omega | ((simp only [World.size_alloc, World.size_setCell, World.size_drew, Wov_size, World.heap_drewN, Array.size_append]) <;> omega))) | (with_reducible refine Eq.trans (Wov_cell_past _ _ _ _ ?hsz) ?_; case hsz => (first | omega | ((simp only [World.size_alloc, World.size_setCell, World.size_drew, Wov_size, World.heap_drewN, Array.size_append]) <;> omega))) | (with_reducible refine Eq.trans (World.cell?_alloc_at _ _ _ _ ?hsz) ?_; case hsz => (first | omega | ((simp only [World.size_alloc, World.size_setCell, World.size_drew, Wov_size, World.heap_drewN, Array.size_append]) <;> omega))))) <;> first | rfl | assumption | (simp; done)), by ((repeat (first | (with_reducible refine Eq.trans (World.cell?_drewN _ _ _) ?_) | (with_reducible refine Eq.trans (World.cell?_drew _ _) ?_) | (with_reducible refine Eq.trans (World.cell?_alloc_past _ _ _ ?hsz) ?_; case hsz => (first | omega | ((simp only [World.size_alloc, World.size_setCell, World.size_drew, Wov_size, World.heap_drewN, Array.size_append]) <;> omega))) | (with_reducible refine Eq.trans (Wov_cell_past _ _ _ _ ?hsz) ?_; case hsz => (first | omega | ((simp only [World.size_alloc, World.size_setCell, World.size_drew, Wov_size, World.heap_drewN, Array.size_append]) <;> omega))) | (with_reducible refine Eq.trans (World.cell?_alloc_at _ _ _ _ ?hsz) ?_; case hsz => (first | omega | ((simp only [World.size_alloc, World.size_setCell, World.size_drew, Wov_size, World.heap_drewN, Array.size_append]) <;> omega))))) <;> first | rfl | assumption | (simp; done)), by simp [go_sem], by simp [go_sem]⟩ ?_
  rintro W ⟨hB, hsz, f1, f2, f3, f4, f5, f6, f7, f8⟩
  refine wp_region_wov (by kernel_rfl) (by kernel_rfl) ?_
  repeat (go_big_quiet_step (first | (go_at_call_of 89 (Value.int IntKind.i64 n1); (first | exact ((Pure.of_same (fun w => L1.out w))).at _ _ | exact ((Pure.of_same (fun w => L1.out w))).at2 _ _ _ | exact ((Pure.of_same (fun w => L1.out w))).at3 _ _ _ _ | exact ((Pure.of_same (fun w => L1.out w))).at4 _ _ _ _ _ | exact ((Pure.of_same (fun w => L1.out w))).at5 _ _ _ _ _ _ | exact ((Pure.of_same (fun w => L1.out w))).at6 _ _ _ _ _ _ _)) | (go_at_call_of 89 (Value.int IntKind.i64 n2); (first | exact ((Pure.of_same (fun w => L2.out w))).at _ _ | exact ((Pure.of_same (fun w => L2.out w))).at2 _ _ _ | exact ((Pure.of_same (fun w => L2.out w))).at3 _ _ _ _ | exact ((Pure.of_same (fun w => L2.out w))).at4 _ _ _ _ _ | exact ((Pure.of_same (fun w => L2.out w))).at5 _ _ _ _ _ _ | exact ((Pure.of_same (fun w => L2.out w))).at6 _ _ _ _ _ _ _))))
  refine wpQuiet_nil ?_
  rintro _ ⟨pq, rfl⟩
  go_wp2_with (fail)
  refine wp_region_wov (by kernel_rfl) (by kernel_rfl) ?_
  repeat (go_big_quiet_step (first | (go_at_call_of 90 (Value.int IntKind.i64 n1); (first | exact ((Pure.of_same (fun w => P1.out w))).at _ _ | exact ((Pure.of_same (fun w => P1.out w))).at2 _ _ _ | exact ((Pure.of_same (fun w => P1.out w))).at3 _ _ _ _ | exact ((Pure.of_same (fun w => P1.out w))).at4 _ _ _ _ _ | exact ((Pure.of_same (fun w => P1.out w))).at5 _ _ _ _ _ _ | exact ((Pure.of_same (fun w => P1.out w))).at6 _ _ _ _ _ _ _)) | (go_at_call_of 90 (Value.int IntKind.i64 n2); (first | exact ((Pure.of_same (fun w => P2.out w))).at _ _ | exact ((Pure.of_same (fun w => P2.out w))).at2 _ _ _ | exact ((Pure.of_same (fun w => P2.out w))).at3 _ _ _ _ | exact ((Pure.of_same (fun w => P2.out w))).at4 _ _ _ _ _ | exact ((Pure.of_same (fun w => P2.out w))).at5 _ _ _ _ _ _ | exact ((Pure.of_same (fun w => P2.out w))).at6 _ _ _ _ _ _ _)) | (go_at_call_of 90 (Value.int IntKind.i64 2); (first | exact ((Pure.of_same (fun w => P3.out w))).at _ _ | exact ((Pure.of_same (fun w => P3.out w))).at2 _ _ _ | exact ((Pure.of_same (fun w => P3.out w))).at3 _ _ _ _ | exact ((Pure.of_same (fun w => P3.out w))).at4 _ _ _ _ _ | exact ((Pure.of_same (fun w => P3.out w))).at5 _ _ _ _ _ _ | exact ((Pure.of_same (fun w => P3.out w))).at6 _ _ _ _ _ _ _))))
  refine wpQuiet_nil ?_
  rintro _ ⟨pq, rfl⟩
  go_wp2_with (fail)
  refine wp_world (fun V => Below w.heap.size w V ∧ w.heap.size + 2 < V.heap.size ∧ V.cell? ⟨w.heap.size + 1 + 1, 0, none⟩ = some (.int .i64 0) ∧ V.cell? ⟨w.heap.size + 1 + 1, 1, none⟩ = some (.int .i64 0) ∧ V.frozen? ⟨w.heap.size + 1 + 1, 0, none⟩ = false ∧ V.frozen? ⟨w.heap.size + 1 + 1, 1, none⟩ = false) ⟨by (repeat' (first | (with_reducible assumption) | (with_reducible exact Below.refl _ _) | (with_reducible refine below_wov ?_ ?_ _) | (with_reducible refine below_drewN ?_ _) | (with_reducible refine Below.drew ?_) | (with_reducible refine Below.alloc ?_ ?_ _) | (with_reducible refine Below.setCell ?_ ?_ _) | (with_reducible exact Nat.le_refl _) | omega | (simp only [World.size_alloc, World.size_setCell, World.size_drew, Wov_size, World.heap_drewN]; omega))), by (first | omega | ((simp only [World.size_alloc, World.size_setCell, World.size_drew, Wov_size, World.heap_drewN, Array.size_append]) <;> omega)), by simp [go_sem, f5], by simp [go_sem, f6], by simp [go_sem, f5, f7], by simp [go_sem, f6, f8]⟩ ?_
  clear f1 f2 f3 f4 f5 f6 f7 f8 hsz hB
  rintro V ⟨hB, hsz, f5, f6, f7, f8⟩
  have u1 : IntKind.i64.wrap (2 * E) = 2 * E := IntWalk.i64_in _ (by omega)
  have u2 : IntKind.i64.wrap (H + Q) = H + Q := IntWalk.i64_in _ (by omega)
  have u3 : IntKind.i64.wrap Q = Q := IntWalk.i64_in _ (by omega)
  clear C1 C2 P1 P2 P3 L1 L2 eA eB eC
  go_region_held3 (fun _ => True) (trivial)
    (first
    | (go_at_call 89; ((with_reducible refine (L3.out _).mono ?_); rintro e w' ⟨rfl, rfl⟩))
    | (go_at_call 126; ((with_reducible refine (M2.out _).mono ?_); rintro e w' ⟨rfl, p3, rfl⟩)))
  all_goals
    clear u1 u2 u3 w1 w2 w3 w4 w5 w6 L3 M2 tQ tL eQ eL eE hE0 hE1 q1 q2 a1 a2 a3 a4 a5 a6 a7 a8 a9 a10 a11 a12 a13 a14 a15 a16 a17 a18 a19 a20 a21 a22
    rcases hr.out with ⟨rfl, rfl⟩ | ⟨rfl, rfl⟩
    · go_wp2
      refine bodyPost_ret (by simp [results, Tryz.results117, go_sem, f5, f6]; try rfl) rfl ?_
      exact gives_rat rfl (by (repeat' (first | (with_reducible assumption) | (with_reducible exact Below.refl _ _) | (with_reducible refine below_wov ?_ ?_ _) | (with_reducible refine below_drewN ?_ _) | (with_reducible refine Below.drew ?_) | (with_reducible refine Below.alloc ?_ ?_ _) | (with_reducible refine Below.setCell ?_ ?_ _) | (with_reducible exact Nat.le_refl _) | omega | (simp only [World.size_alloc, World.size_setCell, World.size_drew, Wov_size, World.heap_drewN]; omega))))
    · go_wp2
      refine bodyPost_ret (by simp [results, Tryz.results117, go_sem, f5, f6]; try rfl) rfl ?_
      exact gives_rat rfl (by (repeat' (first | (with_reducible assumption) | (with_reducible exact Below.refl _ _) | (with_reducible refine below_wov ?_ ?_ _) | (with_reducible refine below_drewN ?_ _) | (with_reducible refine Below.drew ?_) | (with_reducible refine Below.alloc ?_ ?_ _) | (with_reducible refine Below.setCell ?_ ?_ _) | (with_reducible exact Nat.le_refl _) | omega | (simp only [World.size_alloc, World.size_setCell, World.size_drew, Wov_size, World.heap_drewN]; omega))))
end Go.Proofs.YtpaomeilfmeheaaGreat

namespace Go.Proofs.YtpaomeilfmeheaaGreat
set_option linter.unusedSimpArgs false
set_option linter.unusedVariables false
open Go Go.RowKit

theorem mid_arith {X E A B : Int} : (X / 2 + (X % 2 * E + A + B) / (2 * E)) * (2 * E) + (X % 2 * E + A + B) % (2 * E) = X * E + (A + B) := by
  have h := Int.mul_ediv_add_emod (X % 2 * E + A + B) (2 * E)
  have h2 : X / 2 * (2 * E) + X % 2 * E = X * E := by
    rw [← Int.mul_assoc, ← Int.add_mul]
    congr 1
    omega
  rw [Int.add_mul, Int.mul_comm ((X % 2 * E + A + B) / (2 * E))]
  omega

set_option maxRecDepth 10000 in
theorem refMid_any (n1 d1 n2 d2 : Int) (h1 : fits64 n1) (h2 : fits64 n2) :
    Pure Tryz.prog 117 #[.agg #[.int .i64 n1, .int .i64 d1], .agg #[.int .i64 n2, .int .i64 d2]] (rat3 (addPR n1 d1 n2 d2 2)) := by
  intro w
  cases o1 : okRat n1 d1
  · have C1 := may_bad h1.1 h1.2 o1
    have R : Hid (addPR n1 d1 n2 d2 2 = (0, 0, 8)) := by show _ = _; rw [addPR, o1]; rfl
    clear o1 h1 h2
    go_enter Tryz.func117, Tryz.ntmps117
    go_wp2_with (fail)
    refine (C1 _).mono ?_; rintro e w' ⟨rfl, p, rfl⟩
    go_wp2
    go_returns
    exact gives_rat R.out (by (repeat' (first | (with_reducible assumption) | (with_reducible exact Below.refl _ _) | (with_reducible refine below_wov ?_ ?_ _) | (with_reducible refine below_drewN ?_ _) | (with_reducible refine Below.drew ?_) | (with_reducible refine Below.alloc ?_ ?_ _) | (with_reducible refine Below.setCell ?_ ?_ _) | (with_reducible exact Nat.le_refl _) | omega | (simp only [World.size_alloc, World.size_setCell, World.size_drew, Wov_size, World.heap_drewN]; omega))))
  · have C1 := may_ok h1.1 h1.2 o1
    cases o2 : okRat n2 d2
    · have C2 := may_bad h2.1 h2.2 o2
      have R : Hid (addPR n1 d1 n2 d2 2 = (0, 0, 8)) := by show _ = _; rw [addPR, o1, o2]; rfl
      clear o1 o2 h1 h2
      go_enter Tryz.func117, Tryz.ntmps117
      go_wp2_with (fail)
      refine (C1 _).mono ?_; rintro e w' ⟨rfl, p, rfl⟩
      go_wp2_with (fail)
      refine (C2 _).mono ?_; rintro e w' ⟨rfl, p2, rfl⟩
      go_wp2
      go_returns
      exact gives_rat R.out (by (repeat' (first | (with_reducible assumption) | (with_reducible exact Below.refl _ _) | (with_reducible refine below_wov ?_ ?_ _) | (with_reducible refine below_drewN ?_ _) | (with_reducible refine Below.drew ?_) | (with_reducible refine Below.alloc ?_ ?_ _) | (with_reducible refine Below.setCell ?_ ?_ _) | (with_reducible exact Nat.le_refl _) | omega | (simp only [World.size_alloc, World.size_setCell, World.size_drew, Wov_size, World.heap_drewN]; omega))))
    · have C2 := may_ok h2.1 h2.2 o2
      obtain ⟨p1, p2, p3, p4⟩ := okRat_bd o1
      obtain ⟨q1, q2, q3, q4⟩ := okRat_bd o2
      have hX := withinB_bd p3
      have hY := withinB_bd q3
      have hR := emod_bd n1 d1 (by omega)
      have hS := emod_bd n2 d2 (by omega)
      have hA := mul_bd (a := n1 % d1) (b := d2) (M := 1048576) (K := 1048576) hR.1 (by omega) (by omega) q2
      have hB := mul_bd (a := n2 % d2) (b := d1) (M := 1048576) (K := 1048576) hS.1 (by omega) (by omega) p2
      have hE := mul_bd (a := d1) (b := d2) (M := 1048576) (K := 1048576) (by omega) p2 (by omega) q2
      have hE0 : 0 < d1 * d2 := Int.mul_pos (by omega) (by omega)
      have hK : 0 ≤ (n1 / d1 + n2 / d2) % 2 ∧ (n1 / d1 + n2 / d2) % 2 ≤ 1 := by omega
      have hC := mul_bd (a := (n1 / d1 + n2 / d2) % 2) (b := d1 * d2) (M := 1) (K := 1099511627776) hK.1 hK.2 (by omega) (by omega)
      have sp := sum_parts (n1 := n1) (d1 := d1) (n2 := n2) (d2 := d2)
      have L1 := Lib.hid (fun w => refLow_any n1 d1 w h1.1 h1.2 (by omega) (by omega))
      have L2 := Lib.hid (fun w => refLow_any n2 d2 w h2.1 h2.2 (by omega) (by omega))
      have P1 := Lib.hid (fun w => refPart_any n1 d1 w h1.1 h1.2 (by omega) (by omega))
      have P2 := Lib.hid (fun w => refPart_any n2 d2 w h2.1 h2.2 (by omega) (by omega))
      have L3 := Lib.hid (fun w => refLow_any (n1 / d1 + n2 / d2) 2 w (by omega) (by omega) (by omega) (by omega))
      have P3 := Lib.hid (fun w => refPart_any (n1 / d1 + n2 / d2) 2 w (by omega) (by omega) (by omega) (by omega))
      have RR : addPR n1 d1 n2 d2 2 = normR (n1 * d2 + n2 * d1) (d1 * d2 * 2) := by rw [addPR, o1, o2, sumR]; rfl
      have hE2 : 0 < 2 * (d1 * d2) := by omega
      have hL := emod_bd ((n1 / d1 + n2 / d2) % 2 * (d1 * d2) + n1 % d1 * d2 + n2 % d2 * d1) (2 * (d1 * d2)) hE2
      have hQ0 : 0 ≤ ((n1 / d1 + n2 / d2) % 2 * (d1 * d2) + n1 % d1 * d2 + n2 % d2 * d1) / (2 * (d1 * d2)) := Int.ediv_nonneg (by omega) (by omega)
      have hQ1 : ((n1 / d1 + n2 / d2) % 2 * (d1 * d2) + n1 % d1 * d2 + n2 % d2 * d1) / (2 * (d1 * d2)) ≤ (n1 / d1 + n2 / d2) % 2 * (d1 * d2) + n1 % d1 * d2 + n2 % d2 * d1 := Int.ediv_le_self _ (by omega)
      obtain ⟨x, y, t, M, hxy⟩ := made_out ((n1 / d1 + n2 / d2) / 2 + ((n1 / d1 + n2 / d2) % 2 * (d1 * d2) + n1 % d1 * d2 + n2 % d2 * d1) / (2 * (d1 * d2))) (((n1 / d1 + n2 / d2) % 2 * (d1 * d2) + n1 % d1 * d2 + n2 % d2 * d1) % (2 * (d1 * d2))) (2 * (d1 * d2)) ⟨by omega, by omega⟩ hL (by omega)
      rw [mid_arith, ← sp, ← Int.mul_comm (d1 * d2) 2] at hxy
      rw [RR]
      refine refMid_walk n1 d1 n2 d2 _ _ _ _ _ _ _ ((n1 / d1 + n2 / d2) / 2) ((n1 / d1 + n2 / d2) % 2) _ 0 0 _ _ x y t w ⟨p1, p2⟩ ⟨q1, q2⟩ hX hY ⟨by omega, by omega⟩ hK ⟨hA.1, by omega⟩ ⟨hB.1, by omega⟩ ⟨hC.1, by omega⟩ ⟨by omega, by omega⟩ ⟨hQ0, by omega⟩ rfl rfl rfl rfl rfl rfl C1 C2 L1 L2 L3 P1 P2 P3 M _ hxy

theorem floor_one {n d : Int} (h : okRat n d = true) : decide (n % d = 0) = decide (d = 1) := by
  obtain ⟨h1, h2, h3, h4⟩ := okRat_bd h
  rw [decide_eq_decide]
  constructor
  · intro hm
    have hd : d ∣ n := Int.dvd_of_emod_eq_zero hm
    have : d.natAbs ∣ n.natAbs := Int.natAbs_dvd_natAbs.2 hd
    have e : Nat.gcd n.natAbs d.natAbs = d.natAbs := Nat.gcd_eq_right this
    omega
  · intro hd; subst hd; omega

/-- As the document asks it. -/
theorem keptB_parts {n1 d1 n2 d2 x : Int} (h1 : 0 < d1) (h2 : 0 < d2) (hn : x ≠ noneB) :
    keptB n1 d1 n2 d2 x = if n1 / d1 - n2 / d2 ≠ bnum x then decide (n1 / d1 - n2 / d2 < bnum x) else (decide (n1 % d1 * d2 < n2 % d2 * d1) || (decide (n1 % d1 * d2 = n2 % d2 * d1) && !bstr x)) := by
  have kp := kept_parts (n1 := n1) (d1 := d1) (n2 := n2) (d2 := d2) (c := bnum x) h1 h2
  rw [keptB, decide_eq_false hn, Bool.false_or]
  by_cases hc : n1 / d1 - n2 / d2 = bnum x
  · rw [if_neg (by simpa using hc)]
    exact or_and_dec _ (by rw [kp.1]; simp [hc]) (by rw [kp.2]; simp [hc])
  · rw [if_pos hc]
    have e1 : decide (n1 * d2 - n2 * d1 < bnum x * (d1 * d2)) = decide (n1 / d1 - n2 / d2 < bnum x) := decide_eq_decide.2 (by rw [kp.1]; simp [hc])
    have e2 : decide (n1 * d2 - n2 * d1 = bnum x * (d1 * d2)) = false := decide_eq_false (by rw [kp.2]; simp [hc])
    rw [e1, e2]
    simp

set_option maxRecDepth 10000 in
set_option maxHeartbeats 1000000 in
theorem refKept_any (n1 d1 n2 d2 x : Int) (h1 : fits64 n1) (h2 : fits64 n2) (h3 : fits64 x) (o1 : okRat n1 d1 = true) (o2 : okRat n2 d2 = true) :
    Pure Tryz.prog 91 #[.agg #[.int .i64 n1, .int .i64 d1], .agg #[.int .i64 n2, .int .i64 d2], .int .i64 x] (.bool (keptB n1 d1 n2 d2 x)) := by
  intro w
  by_cases hn : x = noneB
  · have R : Hid (keptB n1 d1 n2 d2 x = true) := by show _ = _; simp [keptB, hn]
    have e := isNone_t hn
    clear hn
    go_enter Tryz.func91, Tryz.ntmps91
    go_wp2
    go_ret
    exact gives_bool R.out.symm (by (repeat' (first | (with_reducible assumption) | (with_reducible exact Below.refl _ _) | (with_reducible refine below_wov ?_ ?_ _) | (with_reducible refine below_drewN ?_ _) | (with_reducible refine Below.drew ?_) | (with_reducible refine Below.alloc ?_ ?_ _) | (with_reducible refine Below.setCell ?_ ?_ _) | (with_reducible exact Nat.le_refl _) | omega | (simp only [World.size_alloc, World.size_setCell, World.size_drew, Wov_size, World.heap_drewN]; omega))))
  · obtain ⟨p1, p2, p3, p4⟩ := okRat_bd o1
    obtain ⟨q1, q2, q3, q4⟩ := okRat_bd o2
    have e := isNone_f hn
    have hX := withinB_bd p3
    have hY := withinB_bd q3
    have hR := emod_bd n1 d1 (by omega)
    have hS := emod_bd n2 d2 (by omega)
    have hA := mul_bd (a := n1 % d1) (b := d2) (M := 1048576) (K := 1048576) hR.1 (by omega) (by omega) q2
    have hB := mul_bd (a := n2 % d2) (b := d1) (M := 1048576) (K := 1048576) hS.1 (by omega) (by omega) p2
    have L1 := Lib.hid (fun w => refLow_any n1 d1 w h1.1 h1.2 (by omega) (by omega))
    have L2 := Lib.hid (fun w => refLow_any n2 d2 w h2.1 h2.2 (by omega) (by omega))
    have P1 := Lib.hid (fun w => refPart_any n1 d1 w h1.1 h1.2 (by omega) (by omega))
    have P2 := Lib.hid (fun w => refPart_any n2 d2 w h2.1 h2.2 (by omega) (by omega))
    have NN := Lib.hid (fun w => refNumber_any x w h3.1 h3.2)
    have SS := Lib.hid (fun w => refStrict_any x w)
    have R := Lib.hid (keptB_parts (n1 := n1) (d1 := d1) (n2 := n2) (d2 := d2) (x := x) (by omega) (by omega) hn)
    obtain ⟨X, hXe⟩ : ∃ X, X = n1 / d1 := ⟨_, rfl⟩
    obtain ⟨Y, hYe⟩ : ∃ Y, Y = n2 / d2 := ⟨_, rfl⟩
    obtain ⟨r, hre⟩ : ∃ r, r = n1 % d1 := ⟨_, rfl⟩
    obtain ⟨s, hse⟩ : ∃ s, s = n2 % d2 := ⟨_, rfl⟩
    obtain ⟨c, hce⟩ : ∃ c, c = bnum x := ⟨_, rfl⟩
    obtain ⟨t, hte⟩ : ∃ t, t = bstr x := ⟨_, rfl⟩
    rw [← hXe] at L1 hX
    rw [← hYe] at L2 hY
    rw [← hre] at P1 hA
    rw [← hse] at P2 hB
    rw [← hce] at NN
    rw [← hte] at SS
    rw [← hXe, ← hYe, ← hre, ← hse, ← hce, ← hte] at R
    obtain ⟨A, eA⟩ : ∃ A, r * d2 = A := ⟨_, rfl⟩
    obtain ⟨B, eB⟩ : ∃ B, s * d1 = B := ⟨_, rfl⟩
    rw [eA] at hA
    rw [eB] at hB
    rw [eA, eB] at R
    obtain ⟨a1, a2⟩ := hA
    obtain ⟨b1, b2⟩ := hB
    obtain ⟨x1, x2⟩ := hX
    obtain ⟨y1, y2⟩ := hY
    clear hn o1 o2 p1 p2 p3 p4 q1 q2 q3 q4 hR hS hXe hYe hre hse hce hte h1 h2 h3
    by_cases hc : X - Y = c
    · have R2 : Hid (keptB n1 d1 n2 d2 x = (decide (A < B) || (decide (A = B) && !t))) := by show _ = _; rw [R.out, if_neg (by simpa using hc)]
      have ec := bne_f hc
      have Hc := Lib.hid hc
      clear R hc
      go_enter Tryz.func91, Tryz.ntmps91
      go_wp2_with (fail)
      refine (NN.out _).mono ?_; rintro e w' ⟨rfl, rfl⟩
      go_wp2_with (fail)
      refine wp_region_wov (by kernel_rfl) (by kernel_rfl) ?_
      repeat (go_big_quiet_step (first | (go_at_call_of 89 (Value.int IntKind.i64 n1); (first | exact ((Pure.of_same (fun w => L1.out w))).at _ _ | exact ((Pure.of_same (fun w => L1.out w))).at2 _ _ _ | exact ((Pure.of_same (fun w => L1.out w))).at3 _ _ _ _ | exact ((Pure.of_same (fun w => L1.out w))).at4 _ _ _ _ _ | exact ((Pure.of_same (fun w => L1.out w))).at5 _ _ _ _ _ _ | exact ((Pure.of_same (fun w => L1.out w))).at6 _ _ _ _ _ _ _)) | (go_at_call_of 89 (Value.int IntKind.i64 n2); (first | exact ((Pure.of_same (fun w => L2.out w))).at _ _ | exact ((Pure.of_same (fun w => L2.out w))).at2 _ _ _ | exact ((Pure.of_same (fun w => L2.out w))).at3 _ _ _ _ | exact ((Pure.of_same (fun w => L2.out w))).at4 _ _ _ _ _ | exact ((Pure.of_same (fun w => L2.out w))).at5 _ _ _ _ _ _ | exact ((Pure.of_same (fun w => L2.out w))).at6 _ _ _ _ _ _ _))))
      refine wpQuiet_nil ?_
      rintro _ ⟨pq, rfl⟩
      go_wp2_with (fail)
      refine wp_region_wov (by kernel_rfl) (by kernel_rfl) ?_
      repeat (go_big_quiet_step ((go_at_call 90; (first | exact ((Pure.of_same (fun w => P1.out w))).at _ _ | exact ((Pure.of_same (fun w => P1.out w))).at2 _ _ _ | exact ((Pure.of_same (fun w => P1.out w))).at3 _ _ _ _ | exact ((Pure.of_same (fun w => P1.out w))).at4 _ _ _ _ _ | exact ((Pure.of_same (fun w => P1.out w))).at5 _ _ _ _ _ _ | exact ((Pure.of_same (fun w => P1.out w))).at6 _ _ _ _ _ _ _))))
      refine wpQuiet_nil ?_
      rintro _ ⟨pq, rfl⟩
      go_wp2_with (fail)
      refine wp_region_wov (by kernel_rfl) (by kernel_rfl) ?_
      repeat (go_big_quiet_step ((go_at_call 90; (first | exact ((Pure.of_same (fun w => P2.out w))).at _ _ | exact ((Pure.of_same (fun w => P2.out w))).at2 _ _ _ | exact ((Pure.of_same (fun w => P2.out w))).at3 _ _ _ _ | exact ((Pure.of_same (fun w => P2.out w))).at4 _ _ _ _ _ | exact ((Pure.of_same (fun w => P2.out w))).at5 _ _ _ _ _ _ | exact ((Pure.of_same (fun w => P2.out w))).at6 _ _ _ _ _ _ _))))
      refine wpQuiet_nil ?_
      rintro _ ⟨pq, rfl⟩
      go_wp2_with (go_at_call 95; refine (SS.out _).mono ?_; rintro e w' ⟨rfl, rfl⟩)
      all_goals
        go_ret
        refine gives_bool ?_ (by (repeat' (first | (with_reducible assumption) | (with_reducible exact Below.refl _ _) | (with_reducible refine below_wov ?_ ?_ _) | (with_reducible refine below_drewN ?_ _) | (with_reducible refine Below.drew ?_) | (with_reducible refine Below.alloc ?_ ?_ _) | (with_reducible refine Below.setCell ?_ ?_ _) | (with_reducible exact Nat.le_refl _) | omega | (simp only [World.size_alloc, World.size_setCell, World.size_drew, Wov_size, World.heap_drewN]; omega))))
        rw [R2.out]
        cases t <;> (rw [Bool.eq_iff_iff]; simp; try omega)
    · have R2 : Hid (keptB n1 d1 n2 d2 x = decide (X - Y < c)) := by show _ = _; rw [R.out, if_pos hc]
      have ec := bne_t hc
      clear R hc
      go_enter Tryz.func91, Tryz.ntmps91
      go_wp2_with (fail)
      refine (NN.out _).mono ?_; rintro e w' ⟨rfl, rfl⟩
      go_wp2_with (fail)
      refine wp_region_wov (by kernel_rfl) (by kernel_rfl) ?_
      repeat (go_big_quiet_step (first | (go_at_call_of 89 (Value.int IntKind.i64 n1); (first | exact ((Pure.of_same (fun w => L1.out w))).at _ _ | exact ((Pure.of_same (fun w => L1.out w))).at2 _ _ _ | exact ((Pure.of_same (fun w => L1.out w))).at3 _ _ _ _ | exact ((Pure.of_same (fun w => L1.out w))).at4 _ _ _ _ _ | exact ((Pure.of_same (fun w => L1.out w))).at5 _ _ _ _ _ _ | exact ((Pure.of_same (fun w => L1.out w))).at6 _ _ _ _ _ _ _)) | (go_at_call_of 89 (Value.int IntKind.i64 n2); (first | exact ((Pure.of_same (fun w => L2.out w))).at _ _ | exact ((Pure.of_same (fun w => L2.out w))).at2 _ _ _ | exact ((Pure.of_same (fun w => L2.out w))).at3 _ _ _ _ | exact ((Pure.of_same (fun w => L2.out w))).at4 _ _ _ _ _ | exact ((Pure.of_same (fun w => L2.out w))).at5 _ _ _ _ _ _ | exact ((Pure.of_same (fun w => L2.out w))).at6 _ _ _ _ _ _ _))))
      refine wpQuiet_nil ?_
      rintro _ ⟨pq, rfl⟩
      go_wp2
      go_ret
      exact gives_bool R2.out.symm (by (repeat' (first | (with_reducible assumption) | (with_reducible exact Below.refl _ _) | (with_reducible refine below_wov ?_ ?_ _) | (with_reducible refine below_drewN ?_ _) | (with_reducible refine Below.drew ?_) | (with_reducible refine Below.alloc ?_ ?_ _) | (with_reducible refine Below.setCell ?_ ?_ _) | (with_reducible exact Nat.le_refl _) | omega | (simp only [World.size_alloc, World.size_setCell, World.size_drew, Wov_size, World.heap_drewN]; omega))))

end Go.Proofs.YtpaomeilfmeheaaGreat
