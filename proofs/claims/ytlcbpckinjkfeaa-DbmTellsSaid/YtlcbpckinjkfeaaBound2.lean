/- Contracts of bound.Value, Add, Not, Keeps. No condition but that numbers are of their kind. -/
import Derived.Test.YtlcbpckinjkfeaaBound
namespace Go.Proofs.Ytlcbpckinjkfeaa
set_option linter.unusedSimpArgs false
set_option linter.unusedVariables false
open Go Go.RowKit

theorem boundCheck_ok {b : Int} (h1 : -9223372036854775808 ≤ b) (h2 : b ≤ 9223372036854775807) (h : okB b = true) :
    Pure Try.prog 77 #[.int .i64 b] (.int .i64 0) := by
  have := boundCheck_any b h1 h2
  rwa [h] at this
theorem boundCheck_bad {b : Int} (h1 : -9223372036854775808 ≤ b) (h2 : b ≤ 9223372036854775807) (h : okB b = false) :
    Pure Try.prog 77 #[.int .i64 b] (.int .i64 8) := by
  have := boundCheck_any b h1 h2
  rwa [h] at this

/-- What a value of three numbers or marks ends in. -/
theorem ret3_eq {k l : IntKind} {a b c d : Int} {s t : Bool} (h : a = b) (g : s = t) (i : c = d) : (.tuple #[.int k a, .bool s, .int l c] : Value) = .tuple #[.int k b, .bool t, .int l d] := by rw [h, g, i]

set_option maxRecDepth 10000 in
set_option maxHeartbeats 400000 in
theorem value_bad {b : Int} (h1 : -9223372036854775808 ≤ b) (h2 : b ≤ 9223372036854775807) (h : okB b = false) :
    Pure Try.prog 78 #[.int .i64 b] (.tuple #[.int .i64 0, .bool false, .int .i64 8]) := by
  intro w
  have C := boundCheck_bad h1 h2 h
  clear h
  go_enter Try.func78, Try.ntmps78
  go_wp2_with (go_at_call 77; refine (C _).mono ?_; rintro e w' ⟨rfl, p, rfl⟩)
  go_ret3
  exact gives_end rfl (by (repeat' (first | (with_reducible assumption) | (with_reducible exact Below.refl _ _) | (with_reducible refine below_wov ?_ ?_ _) | (with_reducible refine below_drewN ?_ _) | (with_reducible refine Below.drew ?_) | (with_reducible refine Below.alloc ?_ ?_ _) | (with_reducible refine Below.setCell ?_ ?_ _) | (with_reducible exact Nat.le_refl _) | omega | (simp only [World.size_alloc, World.size_setCell, World.size_drew, Wov_size, World.heap_drewN]; omega))))

set_option maxRecDepth 10000 in
set_option maxHeartbeats 400000 in
theorem value_none :
    Pure Try.prog 78 #[.int .i64 9223372036854775807] (.tuple #[.int .i64 0, .bool false, .int .i64 6]) := by
  intro w
  have C := boundCheck_ok (b := 9223372036854775807) (by decide) (by decide) (by decide)
  go_enter Try.func78, Try.ntmps78
  go_wp2_with (go_at_call 77; refine (C _).mono ?_; rintro e w' ⟨rfl, p, rfl⟩)
  go_ret3
  exact gives_end rfl (by (repeat' (first | (with_reducible assumption) | (with_reducible exact Below.refl _ _) | (with_reducible refine below_wov ?_ ?_ _) | (with_reducible refine below_drewN ?_ _) | (with_reducible refine Below.drew ?_) | (with_reducible refine Below.alloc ?_ ?_ _) | (with_reducible refine Below.setCell ?_ ?_ _) | (with_reducible exact Nat.le_refl _) | omega | (simp only [World.size_alloc, World.size_setCell, World.size_drew, Wov_size, World.heap_drewN]; omega))))

set_option maxRecDepth 10000 in
set_option maxHeartbeats 400000 in
theorem value_ok {b : Int} (h1 : -9223372036854775808 ≤ b) (h2 : b ≤ 9223372036854775807) (h : okB b = true) (hn : b ≠ noneB) :
    Pure Try.prog 78 #[.int .i64 b] (.tuple #[.int .i64 (bnum b), .bool (bstr b), .int .i64 0]) := by
  intro w
  have C := boundCheck_ok h1 h2 h
  have e := isNone_f hn
  have B := boundOf_any b h1 h2
  obtain ⟨c, hc⟩ : ∃ c, c = bnum b := ⟨_, rfl⟩
  obtain ⟨s, hs⟩ : ∃ s, s = bstr b := ⟨_, rfl⟩
  rw [← hc, ← hs] at B ⊢
  clear h hn hc hs
  go_enter Try.func78, Try.ntmps78
  go_wp2_with (first
    | (go_at_call 77; refine (C _).mono ?_; rintro e w' ⟨rfl, p, rfl⟩)
    | (go_at_call 137; refine (B _).mono ?_; rintro e w' ⟨rfl, p2, rfl⟩))
  go_quiet (fail)
  go_wp2
  go_ret3
  exact gives_end rfl (by (repeat' (first | (with_reducible assumption) | (with_reducible exact Below.refl _ _) | (with_reducible refine below_wov ?_ ?_ _) | (with_reducible refine below_drewN ?_ _) | (with_reducible refine Below.drew ?_) | (with_reducible refine Below.alloc ?_ ?_ _) | (with_reducible refine Below.setCell ?_ ?_ _) | (with_reducible exact Nat.le_refl _) | omega | (simp only [World.size_alloc, World.size_setCell, World.size_drew, Wov_size, World.heap_drewN]; omega))))

/-- The sum of two bounds, or the error. -/
def addR (a b : Int) : Int × Int :=
  if okB a && okB b then (if a = noneB ∨ b = noneB then (noneB, 0) else madeR (bnum a + bnum b) (bstr a || bstr b)) else (0, 8)

theorem addR_bad {a b : Int} (h : (okB a && okB b) = false) : addR a b = (0, 8) := by rw [addR, h]; rfl
theorem addR_none {a b : Int} (h1 : okB a = true) (h2 : okB b = true) (h : a = noneB ∨ b = noneB) : addR a b = (noneB, 0) := by rw [addR, h1, h2, if_pos h]; rfl
theorem addR_ok {a b : Int} (h1 : okB a = true) (h2 : okB b = true) (h3 : a ≠ noneB) (h4 : b ≠ noneB) : addR a b = madeR (bnum a + bnum b) (bstr a || bstr b) := by
  simp [addR, h1, h2, h3, h4]
theorem okB_num {b : Int} (h : okB b = true) (hn : b ≠ noneB) : -2305843009213693952 ≤ bnum b ∧ bnum b ≤ 2305843009213693952 := by
  simp [okB, hn] at h; exact okN_bd h

set_option maxRecDepth 10000 in
set_option maxHeartbeats 800000 in
theorem add_any (a b : Int) (h1 : -9223372036854775808 ≤ a) (h2 : a ≤ 9223372036854775807) (h3 : -9223372036854775808 ≤ b) (h4 : b ≤ 9223372036854775807) :
    Pure Try.prog 140 #[.int .i64 a, .int .i64 b] (pair2 (addR a b)) := by
  intro w
  cases ha : okB a
  · have C := boundCheck_bad h1 h2 ha
    have R : Hid (addR a b = (0, 8)) := by show _ = _; exact addR_bad (by rw [ha]; rfl)
    clear ha
    go_enter Try.func140, Try.ntmps140
    go_wp2_with (go_at_call 77; refine (C _).mono ?_; rintro e w' ⟨rfl, p, rfl⟩)
    go_ret2
    exact gives_pair R.out (by (repeat' (first | (with_reducible assumption) | (with_reducible exact Below.refl _ _) | (with_reducible refine below_wov ?_ ?_ _) | (with_reducible refine below_drewN ?_ _) | (with_reducible refine Below.drew ?_) | (with_reducible refine Below.alloc ?_ ?_ _) | (with_reducible refine Below.setCell ?_ ?_ _) | (with_reducible exact Nat.le_refl _) | omega | (simp only [World.size_alloc, World.size_setCell, World.size_drew, Wov_size, World.heap_drewN]; omega))))
  · have CA := boundCheck_ok h1 h2 ha
    cases hb : okB b
    · have CB := boundCheck_bad h3 h4 hb
      have R : Hid (addR a b = (0, 8)) := by show _ = _; exact addR_bad (by rw [ha, hb]; rfl)
      clear ha hb
      go_enter Try.func140, Try.ntmps140
      go_wp2_with (fail)
      refine (CA _).mono ?_; rintro e w' ⟨rfl, p, rfl⟩
      go_wp2_with (fail)
      refine (CB _).mono ?_; rintro e w' ⟨rfl, p2, rfl⟩
      go_wp2
      go_ret2
      exact gives_pair R.out (by (repeat' (first | (with_reducible assumption) | (with_reducible exact Below.refl _ _) | (with_reducible refine below_wov ?_ ?_ _) | (with_reducible refine below_drewN ?_ _) | (with_reducible refine Below.drew ?_) | (with_reducible refine Below.alloc ?_ ?_ _) | (with_reducible refine Below.setCell ?_ ?_ _) | (with_reducible exact Nat.le_refl _) | omega | (simp only [World.size_alloc, World.size_setCell, World.size_drew, Wov_size, World.heap_drewN]; omega))))
    · have CB := boundCheck_ok h3 h4 hb
      by_cases hna : a = noneB
      · have R : Hid (addR a b = (noneB, 0)) := by show _ = _; exact addR_none ha hb (.inl hna)
        have e := isNone_t hna
        clear ha hb hna
        go_enter Try.func140, Try.ntmps140
        go_wp2_with (fail)
        refine (CA _).mono ?_; rintro e w' ⟨rfl, p, rfl⟩
        go_wp2_with (fail)
        refine (CB _).mono ?_; rintro e w' ⟨rfl, p2, rfl⟩
        go_wp2
        go_ret2
        exact gives_pair R.out (by (repeat' (first | (with_reducible assumption) | (with_reducible exact Below.refl _ _) | (with_reducible refine below_wov ?_ ?_ _) | (with_reducible refine below_drewN ?_ _) | (with_reducible refine Below.drew ?_) | (with_reducible refine Below.alloc ?_ ?_ _) | (with_reducible refine Below.setCell ?_ ?_ _) | (with_reducible exact Nat.le_refl _) | omega | (simp only [World.size_alloc, World.size_setCell, World.size_drew, Wov_size, World.heap_drewN]; omega))))
      · have e := isNone_f hna
        by_cases hnb : b = noneB
        · have R : Hid (addR a b = (noneB, 0)) := by show _ = _; exact addR_none ha hb (.inr hnb)
          have e2 := isNone_t hnb
          clear ha hb hna hnb
          go_enter Try.func140, Try.ntmps140
          go_wp2_with (fail)
          refine (CA _).mono ?_; rintro e w' ⟨rfl, p, rfl⟩
          go_wp2_with (fail)
          refine (CB _).mono ?_; rintro e w' ⟨rfl, p2, rfl⟩
          go_wp2
          go_ret2
          exact gives_pair R.out (by (repeat' (first | (with_reducible assumption) | (with_reducible exact Below.refl _ _) | (with_reducible refine below_wov ?_ ?_ _) | (with_reducible refine below_drewN ?_ _) | (with_reducible refine Below.drew ?_) | (with_reducible refine Below.alloc ?_ ?_ _) | (with_reducible refine Below.setCell ?_ ?_ _) | (with_reducible exact Nat.le_refl _) | omega | (simp only [World.size_alloc, World.size_setCell, World.size_drew, Wov_size, World.heap_drewN]; omega))))
        · have e2 := isNone_f hnb
          have na := okB_num ha hna
          have nb := okB_num hb hnb
          have BA := boundOf_any a h1 h2
          have BB := boundOf_any b h3 h4
          obtain ⟨c, hc⟩ : ∃ c, c = bnum a := ⟨_, rfl⟩
          obtain ⟨s, hs⟩ : ∃ s, s = bstr a := ⟨_, rfl⟩
          obtain ⟨d, hd⟩ : ∃ d, d = bnum b := ⟨_, rfl⟩
          obtain ⟨t, ht⟩ : ∃ t, t = bstr b := ⟨_, rfl⟩
          have R : Hid (addR a b = madeR (c + d) (s || t)) := by show _ = _; rw [hc, hs, hd, ht]; exact addR_ok ha hb hna hnb
          rw [← hc, ← hs] at BA
          rw [← hd, ← ht] at BB
          rw [← hc] at na
          rw [← hd] at nb
          obtain ⟨na1, na2⟩ := na
          obtain ⟨nb1, nb2⟩ := nb
          clear ha hb hna hnb hc hs hd ht
          have M := made_any (c + d) (s || t) (by omega) (by omega)
          rw [R.out]
          obtain ⟨⟨x, y⟩, hr⟩ : ∃ r, r = madeR (c + d) (s || t) := ⟨_, rfl⟩
          rw [← hr] at M ⊢
          clear hr R
          simp only [pair2] at M
          cases s
          all_goals
            simp only [Bool.false_or, Bool.true_or] at M
            go_enter Try.func140, Try.ntmps140
            go_wp2_with (fail)
            refine (CA _).mono ?_; rintro e w' ⟨rfl, p, rfl⟩
            go_wp2_with (fail)
            refine (CB _).mono ?_; rintro e w' ⟨rfl, p2, rfl⟩
            go_wp2_with (fail)
            refine (BA _).mono ?_; rintro e w' ⟨rfl, p3, rfl⟩
            go_wp2_with (fail)
            refine (BB _).mono ?_; rintro e w' ⟨rfl, p4, rfl⟩
            go_wp2_with (fail)
            refine (M _).mono ?_; rintro e w' ⟨rfl, p5, rfl⟩
            go_wp2
            go_ret2
            exact gives_pair rfl (by (repeat' (first | (with_reducible assumption) | (with_reducible exact Below.refl _ _) | (with_reducible refine below_wov ?_ ?_ _) | (with_reducible refine below_drewN ?_ _) | (with_reducible refine Below.drew ?_) | (with_reducible refine Below.alloc ?_ ?_ _) | (with_reducible refine Below.setCell ?_ ?_ _) | (with_reducible exact Nat.le_refl _) | omega | (simp only [World.size_alloc, World.size_setCell, World.size_drew, Wov_size, World.heap_drewN]; omega))))

/-- Not a bound, or the error. -/
def notR (b : Int) : Int × Int := if okB b then (if b = noneB then (0, 6) else madeR (-(bnum b)) (!bstr b)) else (0, 8)

set_option maxRecDepth 10000 in
set_option maxHeartbeats 800000 in
theorem not_any (b : Int) (h1 : -9223372036854775808 ≤ b) (h2 : b ≤ 9223372036854775807) :
    Pure Try.prog 25 #[.int .i64 b] (pair2 (notR b)) := by
  intro w
  cases hb : okB b
  · have C := value_bad h1 h2 hb
    have R : Hid (notR b = (0, 8)) := by show _ = _; rw [notR, hb]; rfl
    clear hb
    go_enter Try.func25, Try.ntmps25
    go_wp2_with (go_at_call 78; refine (C _).mono ?_; rintro e w' ⟨rfl, p, rfl⟩)
    go_ret2
    exact gives_pair R.out (by (repeat' (first | (with_reducible assumption) | (with_reducible exact Below.refl _ _) | (with_reducible refine below_wov ?_ ?_ _) | (with_reducible refine below_drewN ?_ _) | (with_reducible refine Below.drew ?_) | (with_reducible refine Below.alloc ?_ ?_ _) | (with_reducible refine Below.setCell ?_ ?_ _) | (with_reducible exact Nat.le_refl _) | omega | (simp only [World.size_alloc, World.size_setCell, World.size_drew, Wov_size, World.heap_drewN]; omega))))
  · by_cases hn : b = noneB
    · have R : Hid (notR b = (0, 6)) := by show _ = _; rw [notR, hb, if_pos hn]; rfl
      have C := value_none
      have e : b = 9223372036854775807 := hn
      subst e
      clear hb hn
      go_enter Try.func25, Try.ntmps25
      go_wp2_with (go_at_call 78; refine (C _).mono ?_; rintro e w' ⟨rfl, p, rfl⟩)
      go_ret2
      exact gives_pair R.out (by (repeat' (first | (with_reducible assumption) | (with_reducible exact Below.refl _ _) | (with_reducible refine below_wov ?_ ?_ _) | (with_reducible refine below_drewN ?_ _) | (with_reducible refine Below.drew ?_) | (with_reducible refine Below.alloc ?_ ?_ _) | (with_reducible refine Below.setCell ?_ ?_ _) | (with_reducible exact Nat.le_refl _) | omega | (simp only [World.size_alloc, World.size_setCell, World.size_drew, Wov_size, World.heap_drewN]; omega))))
    · have C := value_ok h1 h2 hb hn
      have R : Hid (notR b = madeR (-(bnum b)) (!bstr b)) := by show _ = _; rw [notR, hb, if_neg hn]; rfl
      have nb := okB_num hb hn
      obtain ⟨c, hc⟩ : ∃ c, c = bnum b := ⟨_, rfl⟩
      obtain ⟨s, hs⟩ : ∃ s, s = bstr b := ⟨_, rfl⟩
      rw [← hc, ← hs] at C R
      rw [← hc] at nb
      obtain ⟨n1, n2⟩ := nb
      clear hb hn hc hs
      have M := made_any (-c) (!s) (by omega) (by omega)
      rw [R.out]
      obtain ⟨⟨x, y⟩, hr⟩ : ∃ r, r = madeR (-c) (!s) := ⟨_, rfl⟩
      rw [← hr] at M ⊢
      clear hr R
      simp only [pair2] at M
      cases s
      all_goals
        simp only [Bool.not_false, Bool.not_true] at M
        go_enter Try.func25, Try.ntmps25
        go_wp2_with (first
          | (go_at_call 78; refine (C _).mono ?_; rintro e w' ⟨rfl, p, rfl⟩)
          | (go_at_call 83; refine (M _).mono ?_; rintro e w' ⟨rfl, p2, rfl⟩))
        go_ret2
        exact gives_pair rfl (by (repeat' (first | (with_reducible assumption) | (with_reducible exact Below.refl _ _) | (with_reducible refine below_wov ?_ ?_ _) | (with_reducible refine below_drewN ?_ _) | (with_reducible refine Below.drew ?_) | (with_reducible refine Below.alloc ?_ ?_ _) | (with_reducible refine Below.setCell ?_ ?_ _) | (with_reducible exact Nat.le_refl _) | omega | (simp only [World.size_alloc, World.size_setCell, World.size_drew, Wov_size, World.heap_drewN]; omega))))

/-- Whether a difference keeps a bound, or the error. -/
def keepsR (d b : Int) : Bool × Int := if okN d then (if okB b then (decide (mkB d false ≤ b), 0) else (false, 8)) else (false, 10)
def bpair (r : Bool × Int) : Value := .tuple #[.bool r.1, .int .i64 r.2]
theorem gives_bpair {w w' : World} {a : Bool} {b : Int} {r : Bool × Int} (he : r = (a, b)) (h : Below w.heap.size w w') : Gives w (bpair r) (.returned (.tuple #[.bool a, .int .i64 b])) w' := gives_end (by rw [he]; rfl) h

set_option maxRecDepth 10000 in
set_option maxHeartbeats 800000 in
theorem bkeeps_any (d b : Int) (h1 : -9223372036854775808 ≤ d) (h2 : d ≤ 9223372036854775807) (h3 : -9223372036854775808 ≤ b) (h4 : b ≤ 9223372036854775807) :
    Pure Try.prog 27 #[.int .i64 d, .int .i64 b] (bpair (keepsR d b)) := by
  intro w
  have M := most_any d h1 h2
  cases hd : okN d
  · have e : madeR d false = (0, 10) := by rw [madeR, hd]; rfl
    rw [e, pair2] at M
    have R : Hid (keepsR d b = (false, 10)) := by show _ = _; rw [keepsR, hd]; rfl
    clear hd e
    go_enter Try.func27, Try.ntmps27
    go_wp2_with (go_at_call 84; refine (M _).mono ?_; rintro e w' ⟨rfl, p, rfl⟩)
    go_ret2
    exact gives_bpair R.out (by (repeat' (first | (with_reducible assumption) | (with_reducible exact Below.refl _ _) | (with_reducible refine below_wov ?_ ?_ _) | (with_reducible refine below_drewN ?_ _) | (with_reducible refine Below.drew ?_) | (with_reducible refine Below.alloc ?_ ?_ _) | (with_reducible refine Below.setCell ?_ ?_ _) | (with_reducible exact Nat.le_refl _) | omega | (simp only [World.size_alloc, World.size_setCell, World.size_drew, Wov_size, World.heap_drewN]; omega))))
  · have e : madeR d false = (mkB d false, 0) := by rw [madeR, hd]; rfl
    rw [e, pair2] at M
    clear e
    obtain ⟨m, hm⟩ : ∃ m, m = mkB d false := ⟨_, rfl⟩
    rw [← hm] at M
    cases hb : okB b
    · have C := boundCheck_bad h3 h4 hb
      have R : Hid (keepsR d b = (false, 8)) := by show _ = _; rw [keepsR, hd, hb]; rfl
      clear hd hb hm
      go_enter Try.func27, Try.ntmps27
      go_wp2_with (first
        | (go_at_call 84; refine (M _).mono ?_; rintro e w' ⟨rfl, p, rfl⟩)
        | (go_at_call 77; refine (C _).mono ?_; rintro e w' ⟨rfl, p2, rfl⟩))
      go_ret2
      exact gives_bpair R.out (by (repeat' (first | (with_reducible assumption) | (with_reducible exact Below.refl _ _) | (with_reducible refine below_wov ?_ ?_ _) | (with_reducible refine below_drewN ?_ _) | (with_reducible refine Below.drew ?_) | (with_reducible refine Below.alloc ?_ ?_ _) | (with_reducible refine Below.setCell ?_ ?_ _) | (with_reducible exact Nat.le_refl _) | omega | (simp only [World.size_alloc, World.size_setCell, World.size_drew, Wov_size, World.heap_drewN]; omega))))
    · have C := boundCheck_ok h3 h4 hb
      have R : Hid (keepsR d b = (decide (m ≤ b), 0)) := by show _ = _; rw [keepsR, hd, hb, hm]; rfl
      clear hd hb hm
      go_enter Try.func27, Try.ntmps27
      go_wp2_with (first
        | (go_at_call 84; refine (M _).mono ?_; rintro e w' ⟨rfl, p, rfl⟩)
        | (go_at_call 77; refine (C _).mono ?_; rintro e w' ⟨rfl, p2, rfl⟩))
      go_ret2
      exact gives_bpair R.out (by (repeat' (first | (with_reducible assumption) | (with_reducible exact Below.refl _ _) | (with_reducible refine below_wov ?_ ?_ _) | (with_reducible refine below_drewN ?_ _) | (with_reducible refine Below.drew ?_) | (with_reducible refine Below.alloc ?_ ?_ _) | (with_reducible refine Below.setCell ?_ ?_ _) | (with_reducible exact Nat.le_refl _) | omega | (simp only [World.size_alloc, World.size_setCell, World.size_drew, Wov_size, World.heap_drewN]; omega))))
end Go.Proofs.Ytlcbpckinjkfeaa
