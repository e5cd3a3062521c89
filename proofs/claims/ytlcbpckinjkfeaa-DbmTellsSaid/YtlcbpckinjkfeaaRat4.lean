/- Contracts of cmp.Compare, rat.first, rat.compare, rat.checked, rat.Cmp. No condition but that numbers are of their kind. -/
import Derived.Test.YtlcbpckinjkfeaaRat3
namespace Go.Proofs.Ytlcbpckinjkfeaa
set_option linter.unusedSimpArgs false
set_option linter.unusedVariables false
open Go Go.RowKit

/-- The sign of a comparison; where the two are the same, c. -/
def sgn3 (a b c : Int) : Int := if a < b then -1 else if b < a then 1 else c

set_option maxHeartbeats 400000 in
theorem cmpInt_any (a b : Int) (w : World) :
    Calls Try.prog 82 #[.int .i64 a, .int .i64 b] w fun e w' => e = .returned (.int .i64 (sgn3 a b 0)) ∧ w = w' := by
  go_enter Try.func82, Try.ntmps82
  go_wp2
  all_goals
    go_ret
    refine ⟨ret_int ?_, rfl⟩
    unfold sgn3
    (repeat split) <;> omega

set_option maxHeartbeats 400000 in
theorem cmpU_any (a b : Int) (w : World) :
    Calls Try.prog 166 #[.int .u64 a, .int .u64 b] w fun e w' => e = .returned (.int .i64 (sgn3 a b 0)) ∧ w = w' := by
  go_enter Try.func166, Try.ntmps166
  go_wp2
  all_goals
    go_ret
    refine ⟨ret_int ?_, rfl⟩
    unfold sgn3
    (repeat split) <;> omega

theorem sgn3_ne {a b : Int} (h : a ≠ b) (c : Int) : sgn3 a b c = sgn3 a b 0 := by unfold sgn3; (repeat split) <;> omega
theorem sgn3_eq (a c : Int) : sgn3 a a c = c := by unfold sgn3; simp

set_option maxHeartbeats 400000 in
theorem first_c1 (a b c : Int) (p1 p2 : Addr) (w : World) (hc : a = b → Calls Try.prog 133 #[.pointer (some p1), .pointer (some p2)] w (Gives w (.int .i64 c))) :
    Calls Try.prog 80 #[.int .i64 a, .int .i64 b, .func (.func 133) #[] #[.pointer (some p1), .pointer (some p2)]] w (Gives w (.int .i64 (sgn3 a b c))) := by
  by_cases h : a = b
  · have C := hc h
    subst h
    rw [sgn3_eq]
    have e : sgn3 a a 0 = 0 := sgn3_eq a 0
    have H := Lib.hid C
    have M := Lib.hid (cmpInt_any a a)
    rw [e] at M
    clear C hc e
    go_enter Try.func80, Try.ntmps80
    go_wp2_with (fail)
    refine (M.out _).mono ?_; rintro e w' ⟨rfl, rfl⟩
    go_wp2_with (fail)
    refine H.out.mono ?_; rintro e w' ⟨rfl, p, rfl⟩
    go_wp2
    go_ret
    exact gives_int rfl (by (repeat' (first | (with_reducible assumption) | (with_reducible exact Below.refl _ _) | (with_reducible refine below_wov ?_ ?_ _) | (with_reducible refine below_drewN ?_ _) | (with_reducible refine Below.drew ?_) | (with_reducible refine Below.alloc ?_ ?_ _) | (with_reducible refine Below.setCell ?_ ?_ _) | (with_reducible exact Nat.le_refl _) | omega | (simp only [World.size_alloc, World.size_setCell, World.size_drew, Wov_size, World.heap_drewN]; omega))))
  · rw [sgn3_ne h]
    have e : (sgn3 a b 0 != 0) = true := by rw [bne_iff_ne]; unfold sgn3; (repeat split) <;> omega
    have M := Lib.hid (cmpInt_any a b)
    obtain ⟨s, hs⟩ : ∃ s, s = sgn3 a b 0 := ⟨_, rfl⟩
    rw [← hs] at M e ⊢
    clear hc hs h
    go_enter Try.func80, Try.ntmps80
    go_wp2_with (fail)
    refine (M.out _).mono ?_; rintro e w' ⟨rfl, rfl⟩
    go_wp2_with (fail)
    go_ret
    exact gives_int rfl (by (repeat' (first | (with_reducible assumption) | (with_reducible exact Below.refl _ _) | (with_reducible refine below_wov ?_ ?_ _) | (with_reducible refine below_drewN ?_ _) | (with_reducible refine Below.drew ?_) | (with_reducible refine Below.alloc ?_ ?_ _) | (with_reducible refine Below.setCell ?_ ?_ _) | (with_reducible exact Nat.le_refl _) | omega | (simp only [World.size_alloc, World.size_setCell, World.size_drew, Wov_size, World.heap_drewN]; omega))))

set_option maxHeartbeats 400000 in
theorem first_k1 (a b c : Int) (p1 p2 p3 p4 : Addr) (w : World) (hc : a = b → Calls Try.prog 81 #[.pointer (some p1), .pointer (some p2), .pointer (some p3), .pointer (some p4)] w (Gives w (.int .i64 c))) :
    Calls Try.prog 80 #[.int .i64 a, .int .i64 b, .func (.func 81) #[] #[.pointer (some p1), .pointer (some p2), .pointer (some p3), .pointer (some p4)]] w (Gives w (.int .i64 (sgn3 a b c))) := by
  by_cases h : a = b
  · have C := hc h
    subst h
    rw [sgn3_eq]
    have e : sgn3 a a 0 = 0 := sgn3_eq a 0
    have H := Lib.hid C
    have M := Lib.hid (cmpInt_any a a)
    rw [e] at M
    clear C hc e
    go_enter Try.func80, Try.ntmps80
    go_wp2_with (fail)
    refine (M.out _).mono ?_; rintro e w' ⟨rfl, rfl⟩
    go_wp2_with (fail)
    refine H.out.mono ?_; rintro e w' ⟨rfl, p, rfl⟩
    go_wp2
    go_ret
    exact gives_int rfl (by (repeat' (first | (with_reducible assumption) | (with_reducible exact Below.refl _ _) | (with_reducible refine below_wov ?_ ?_ _) | (with_reducible refine below_drewN ?_ _) | (with_reducible refine Below.drew ?_) | (with_reducible refine Below.alloc ?_ ?_ _) | (with_reducible refine Below.setCell ?_ ?_ _) | (with_reducible exact Nat.le_refl _) | omega | (simp only [World.size_alloc, World.size_setCell, World.size_drew, Wov_size, World.heap_drewN]; omega))))
  · rw [sgn3_ne h]
    have e : (sgn3 a b 0 != 0) = true := by rw [bne_iff_ne]; unfold sgn3; (repeat split) <;> omega
    have M := Lib.hid (cmpInt_any a b)
    obtain ⟨s, hs⟩ : ∃ s, s = sgn3 a b 0 := ⟨_, rfl⟩
    rw [← hs] at M e ⊢
    clear hc hs h
    go_enter Try.func80, Try.ntmps80
    go_wp2_with (fail)
    refine (M.out _).mono ?_; rintro e w' ⟨rfl, rfl⟩
    go_wp2_with (fail)
    go_ret
    exact gives_int rfl (by (repeat' (first | (with_reducible assumption) | (with_reducible exact Below.refl _ _) | (with_reducible refine below_wov ?_ ?_ _) | (with_reducible refine below_drewN ?_ _) | (with_reducible refine Below.drew ?_) | (with_reducible refine Below.alloc ?_ ?_ _) | (with_reducible refine Below.setCell ?_ ?_ _) | (with_reducible exact Nat.le_refl _) | omega | (simp only [World.size_alloc, World.size_setCell, World.size_drew, Wov_size, World.heap_drewN]; omega))))

set_option maxHeartbeats 400000 in
theorem first_c2 (a b c : Int) (p0 : Addr) (w : World) (hc : a = b → Calls Try.prog 135 #[] w (Gives w (.int .i64 c))) :
    Calls Try.prog 134 #[.int .u64 a, .int .u64 b, .func (.func 135) #[] #[]] w (Gives w (.int .i64 (sgn3 a b c))) := by
  by_cases h : a = b
  · have C := hc h
    subst h
    rw [sgn3_eq]
    have e : sgn3 a a 0 = 0 := sgn3_eq a 0
    have H := Lib.hid C
    have M := Lib.hid (cmpU_any a a)
    rw [e] at M
    clear C hc e
    go_enter Try.func134, Try.ntmps134
    go_wp2_with (fail)
    refine (M.out _).mono ?_; rintro e w' ⟨rfl, rfl⟩
    go_wp2_with (fail)
    refine H.out.mono ?_; rintro e w' ⟨rfl, p, rfl⟩
    go_wp2
    go_ret
    exact gives_int rfl (by (repeat' (first | (with_reducible assumption) | (with_reducible exact Below.refl _ _) | (with_reducible refine below_wov ?_ ?_ _) | (with_reducible refine below_drewN ?_ _) | (with_reducible refine Below.drew ?_) | (with_reducible refine Below.alloc ?_ ?_ _) | (with_reducible refine Below.setCell ?_ ?_ _) | (with_reducible exact Nat.le_refl _) | omega | (simp only [World.size_alloc, World.size_setCell, World.size_drew, Wov_size, World.heap_drewN]; omega))))
  · rw [sgn3_ne h]
    have e : (sgn3 a b 0 != 0) = true := by rw [bne_iff_ne]; unfold sgn3; (repeat split) <;> omega
    have M := Lib.hid (cmpU_any a b)
    obtain ⟨s, hs⟩ : ∃ s, s = sgn3 a b 0 := ⟨_, rfl⟩
    rw [← hs] at M e ⊢
    clear hc hs h
    go_enter Try.func134, Try.ntmps134
    go_wp2_with (fail)
    refine (M.out _).mono ?_; rintro e w' ⟨rfl, rfl⟩
    go_wp2_with (fail)
    go_ret
    exact gives_int rfl (by (repeat' (first | (with_reducible assumption) | (with_reducible exact Below.refl _ _) | (with_reducible refine below_wov ?_ ?_ _) | (with_reducible refine below_drewN ?_ _) | (with_reducible refine Below.drew ?_) | (with_reducible refine Below.alloc ?_ ?_ _) | (with_reducible refine Below.setCell ?_ ?_ _) | (with_reducible exact Nat.le_refl _) | omega | (simp only [World.size_alloc, World.size_setCell, World.size_drew, Wov_size, World.heap_drewN]; omega))))


theorem c2_any (w : World) : Calls Try.prog 135 #[] w (Gives w (.int .i64 0)) := by
  go_enter Try.func135, Try.ntmps135
  go_wp2
  go_ret
  exact gives_int rfl (by (repeat' (first | (with_reducible assumption) | (with_reducible exact Below.refl _ _) | (with_reducible refine below_wov ?_ ?_ _) | (with_reducible refine below_drewN ?_ _) | (with_reducible refine Below.drew ?_) | (with_reducible refine Below.alloc ?_ ?_ _) | (with_reducible refine Below.setCell ?_ ?_ _) | (with_reducible exact Nat.le_refl _) | omega | (simp only [World.size_alloc, World.size_setCell, World.size_drew, Wov_size, World.heap_drewN]; omega))))

set_option maxHeartbeats 400000 in
theorem c1_any (l m : Int) (p1 p2 : Addr) (w : World) (c1 : w.cell? p1 = some (.int .u64 l)) (c2 : w.cell? p2 = some (.int .u64 m)) :
    Calls Try.prog 133 #[.pointer (some p1), .pointer (some p2)] w (Gives w (.int .i64 (sgn3 l m 0))) := by
  have F := Lib.hid (fun w => first_c2 l m 0 p1 w (fun _ => c2_any w))
  go_enter Try.func133, Try.ntmps133
  go_wp2_with (fail)
  refine (F.out _).mono ?_; rintro e w' ⟨rfl, p, rfl⟩
  go_wp2
  go_ret
  exact gives_int rfl (by (repeat' (first | (with_reducible assumption) | (with_reducible exact Below.refl _ _) | (with_reducible refine below_wov ?_ ?_ _) | (with_reducible refine below_drewN ?_ _) | (with_reducible refine Below.drew ?_) | (with_reducible refine Below.alloc ?_ ?_ _) | (with_reducible refine Below.setCell ?_ ?_ _) | (with_reducible exact Nat.le_refl _) | omega | (simp only [World.size_alloc, World.size_setCell, World.size_drew, Wov_size, World.heap_drewN]; omega))))

theorem sgn3_words (X Y : Int) : sgn3 (X / 18446744073709551616) (Y / 18446744073709551616) (sgn3 (X % 18446744073709551616) (Y % 18446744073709551616) 0) = sgn3 X Y 0 := by
  unfold sgn3; (repeat split) <;> omega

def cmpR (n1 d1 n2 d2 : Int) : Int := sgn3 (n1 * d2) (n2 * d1) 0

set_option maxRecDepth 10000 in
set_option maxHeartbeats 800000 in
theorem compare_any (n1 d1 n2 d2 : Int) (h1 : -9223372036854775808 ≤ n1) (h2 : n1 ≤ 9223372036854775807) (h3 : -9223372036854775808 ≤ d1) (h4 : d1 ≤ 9223372036854775807) (h5 : -9223372036854775808 ≤ n2) (h6 : n2 ≤ 9223372036854775807) (h7 : -9223372036854775808 ≤ d2) (h8 : d2 ≤ 9223372036854775807) :
    Pure Try.prog 76 #[.agg #[.int .i64 n1, .int .i64 d1], .agg #[.int .i64 n2, .int .i64 d2]] (.int .i64 (cmpR n1 d1 n2 d2)) := by
  intro w
  have P1 := Lib.hid (fun w => product_any n1 d2 h1 h2 h7 h8 w)
  have P2 := Lib.hid (fun w => product_any n2 d1 h5 h6 h3 h4 w)
  have R : Hid (sgn3 (hiP n1 d2) (hiP n2 d1) (sgn3 (loP n1 d2) (loP n2 d1) 0) = cmpR n1 d1 n2 d2) := by
    show _ = _
    exact sgn3_words _ _
  obtain ⟨h, hh⟩ : ∃ h, h = hiP n1 d2 := ⟨_, rfl⟩
  obtain ⟨l, hl⟩ : ∃ l, l = loP n1 d2 := ⟨_, rfl⟩
  obtain ⟨k, hk⟩ : ∃ k, k = hiP n2 d1 := ⟨_, rfl⟩
  obtain ⟨m, hm⟩ : ∃ m, m = loP n2 d1 := ⟨_, rfl⟩
  rw [← hh, ← hl] at P1 R
  rw [← hk, ← hm] at P2 R
  clear hh hl hk hm
  go_enter Try.func76, Try.ntmps76
  go_wp2_with (fail)
  refine (P1.out _).mono ?_; rintro e w' ⟨rfl, rfl⟩
  go_wp2_with (fail)
  refine (P2.out _).mono ?_; rintro e w' ⟨rfl, rfl⟩
  go_wp2_with (fail)
  refine (first_c1 h k (sgn3 l m 0) _ _ _ (fun _ => c1_any l m _ _ _ (by simp [go_sem]) (by simp [go_sem]))).mono ?_
  rintro e w' ⟨rfl, p, rfl⟩
  go_wp2
  go_ret
  exact gives_int R.out (by (repeat' (first | (with_reducible assumption) | (with_reducible exact Below.refl _ _) | (with_reducible refine below_wov ?_ ?_ _) | (with_reducible refine below_drewN ?_ _) | (with_reducible refine Below.drew ?_) | (with_reducible refine Below.alloc ?_ ?_ _) | (with_reducible refine Below.setCell ?_ ?_ _) | (with_reducible exact Nat.le_refl _) | omega | (simp only [World.size_alloc, World.size_setCell, World.size_drew, Wov_size, World.heap_drewN]; omega))))

set_option maxRecDepth 10000 in
set_option maxHeartbeats 800000 in
theorem checked_any (n1 d1 n2 d2 : Int) (b : Nat) (h1 : -9223372036854775808 ≤ n1) (h2 : n1 ≤ 9223372036854775807) (h5 : -9223372036854775808 ≤ n2) (h6 : n2 ≤ 9223372036854775807) (w : World)
    (c0 : w.cell? ⟨b, 0, none⟩ = some (.int .i64 n1)) (c1 : w.cell? ⟨b, 1, none⟩ = some (.int .i64 d1)) (c2 : w.cell? ⟨b, 2, none⟩ = some (.int .i64 n2)) (c3 : w.cell? ⟨b, 3, none⟩ = some (.int .i64 d2)) :
    Calls Try.prog 75 #[.slice (some ⟨b, 0, none⟩) 2 2] w (Gives w (.int .i64 (rcode (okRat n1 d1 && okRat n2 d2)))) := by
  cases hk : okRat n1 d1
  · have C := ratCheck_bad h1 h2 hk
    clear hk
    go_enter Try.func75, Try.ntmps75
    go_wp2
    refine wp_loop_rounds 1 ?_
    rw [rounds_succ]
    go_wp2_with (go_at_call 51; refine (C _).mono ?_; rintro e w' ⟨rfl, p, rfl⟩)
    go_ret
    exact gives_int rfl (by (repeat' (first | (with_reducible assumption) | (with_reducible exact Below.refl _ _) | (with_reducible refine below_wov ?_ ?_ _) | (with_reducible refine below_drewN ?_ _) | (with_reducible refine Below.drew ?_) | (with_reducible refine Below.alloc ?_ ?_ _) | (with_reducible refine Below.setCell ?_ ?_ _) | (with_reducible exact Nat.le_refl _) | omega | (simp only [World.size_alloc, World.size_setCell, World.size_drew, Wov_size, World.heap_drewN]; omega))))
  · have C := ratCheck_ok h1 h2 hk
    cases hk2 : okRat n2 d2
    · have D := ratCheck_bad h5 h6 hk2
      clear hk hk2
      go_enter Try.func75, Try.ntmps75
      go_wp2
      refine wp_loop_rounds 2 ?_
      rw [rounds_succ]
      go_wp2_with (fail)
      refine (C _).mono ?_; rintro e w' ⟨rfl, p, rfl⟩
      go_wp2_with (fail)
      rw [rounds_succ]
      go_wp2_with (fail)
      refine (D _).mono ?_; rintro e w' ⟨rfl, p2, rfl⟩
      go_wp2
      go_ret
      exact gives_int rfl (by (repeat' (first | (with_reducible assumption) | (with_reducible exact Below.refl _ _) | (with_reducible refine below_wov ?_ ?_ _) | (with_reducible refine below_drewN ?_ _) | (with_reducible refine Below.drew ?_) | (with_reducible refine Below.alloc ?_ ?_ _) | (with_reducible refine Below.setCell ?_ ?_ _) | (with_reducible exact Nat.le_refl _) | omega | (simp only [World.size_alloc, World.size_setCell, World.size_drew, Wov_size, World.heap_drewN]; omega))))
    · have D := ratCheck_ok h5 h6 hk2
      clear hk hk2
      go_enter Try.func75, Try.ntmps75
      go_wp2
      refine wp_loop_rounds 3 ?_
      rw [rounds_succ]
      go_wp2_with (fail)
      refine (C _).mono ?_; rintro e w' ⟨rfl, p, rfl⟩
      go_wp2_with (fail)
      rw [rounds_succ]
      go_wp2_with (fail)
      refine (D _).mono ?_; rintro e w' ⟨rfl, p2, rfl⟩
      go_wp2_with (fail)
      rw [rounds_succ]
      go_wp2
      go_ret
      exact gives_int rfl (by (repeat' (first | (with_reducible assumption) | (with_reducible exact Below.refl _ _) | (with_reducible refine below_wov ?_ ?_ _) | (with_reducible refine below_drewN ?_ _) | (with_reducible refine Below.drew ?_) | (with_reducible refine Below.alloc ?_ ?_ _) | (with_reducible refine Below.setCell ?_ ?_ _) | (with_reducible exact Nat.le_refl _) | omega | (simp only [World.size_alloc, World.size_setCell, World.size_drew, Wov_size, World.heap_drewN]; omega))))

/-- Comparing two, or the error. -/
def cmpPR (n1 d1 n2 d2 : Int) : Int × Int := if okRat n1 d1 && okRat n2 d2 then (cmpR n1 d1 n2 d2, 0) else (0, 8)

set_option maxRecDepth 10000 in
set_option maxHeartbeats 800000 in
theorem ratCmp_any (n1 d1 n2 d2 : Int) (h1 : -9223372036854775808 ≤ n1) (h2 : n1 ≤ 9223372036854775807) (h3 : -9223372036854775808 ≤ d1) (h4 : d1 ≤ 9223372036854775807) (h5 : -9223372036854775808 ≤ n2) (h6 : n2 ≤ 9223372036854775807) (h7 : -9223372036854775808 ≤ d2) (h8 : d2 ≤ 9223372036854775807) :
    Pure Try.prog 23 #[.agg #[.int .i64 n1, .int .i64 d1], .agg #[.int .i64 n2, .int .i64 d2]] (pair2 (cmpPR n1 d1 n2 d2)) := by
  intro w
  have K := Lib.hid (fun b w => checked_any n1 d1 n2 d2 b h1 h2 h5 h6 w)
  cases hk : okRat n1 d1 && okRat n2 d2
  · have R : Hid (cmpPR n1 d1 n2 d2 = (0, 8)) := by show _ = _; rw [cmpPR, hk]; rfl
    rw [hk, show rcode false = 8 from rfl] at K
    clear hk
    go_enter Try.func23, Try.ntmps23
    go_wp2_with (fail)
    refine (K.out _ _ ?_ ?_ ?_ ?_).mono ?_
    · simp [go_sem]
    · simp [go_sem]
    · simp [go_sem]
    · simp [go_sem]
    rintro e w' ⟨rfl, p, rfl⟩
    go_wp2
    go_ret2
    exact gives_pair R.out (by (repeat' (first | (with_reducible assumption) | (with_reducible exact Below.refl _ _) | (with_reducible refine below_wov ?_ ?_ _) | (with_reducible refine below_drewN ?_ _) | (with_reducible refine Below.drew ?_) | (with_reducible refine Below.alloc ?_ ?_ _) | (with_reducible refine Below.setCell ?_ ?_ _) | (with_reducible exact Nat.le_refl _) | omega | (simp only [World.size_alloc, World.size_setCell, World.size_drew, Wov_size, World.heap_drewN]; omega))))
  · have R : Hid (cmpPR n1 d1 n2 d2 = (cmpR n1 d1 n2 d2, 0)) := by show _ = _; rw [cmpPR, hk]; rfl
    rw [hk, show rcode true = 0 from rfl] at K
    have C := compare_any n1 d1 n2 d2 h1 h2 h3 h4 h5 h6 h7 h8
    clear hk
    go_enter Try.func23, Try.ntmps23
    go_wp2_with (fail)
    refine (K.out _ _ ?_ ?_ ?_ ?_).mono ?_
    · simp [go_sem]
    · simp [go_sem]
    · simp [go_sem]
    · simp [go_sem]
    rintro e w' ⟨rfl, p, rfl⟩
    go_wp2_with (fail)
    refine (C _).mono ?_; rintro e w' ⟨rfl, p2, rfl⟩
    go_wp2
    go_ret2
    exact gives_pair R.out (by (repeat' (first | (with_reducible assumption) | (with_reducible exact Below.refl _ _) | (with_reducible refine below_wov ?_ ?_ _) | (with_reducible refine below_drewN ?_ _) | (with_reducible refine Below.drew ?_) | (with_reducible refine Below.alloc ?_ ?_ _) | (with_reducible refine Below.setCell ?_ ?_ _) | (with_reducible exact Nat.le_refl _) | omega | (simp only [World.size_alloc, World.size_setCell, World.size_drew, Wov_size, World.heap_drewN]; omega))))
end Go.Proofs.Ytlcbpckinjkfeaa
