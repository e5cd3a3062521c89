/- Contracts of bound.Value (as one), dbm.may, Check, Twin: no condition but that numbers are of their kind. -/
import Derived.Test.YtlcbpckinjkfeaaD5
namespace Go.Proofs.Ytlcbpckinjkfeaa
set_option linter.unusedSimpArgs false
set_option linter.unusedVariables false
open Go Go.RowKit Go.Shelf
attribute [local go_sem] Nat.add_assoc Nat.add_lt_add_iff_left lit_lt_add

/-- May a bound be in a matrix? -/
def mayB (b : Int) : Bool := decide (b = noneB) || (decide (-288230376151711744 ≤ bnum b) && decide (bnum b ≤ 288230376151711744))

theorem may_big {b : Int} (h : okB b = false) : mayB b = false := by
  simp [okB, okN] at h
  simp [mayB]
  refine ⟨h.1, fun h1 => ?_⟩
  have h2 : -2305843009213693952 ≤ bnum b := by omega
  have := h.2 h2
  omega

set_option maxRecDepth 10000 in
set_option maxHeartbeats 800000 in
theorem may_any (b : Int) (h : fits64 b) : Pure Try.prog 97 #[.int .i64 b] (.bool (mayB b)) := by
  intro w
  cases hk : okB b
  · have V := value_bad h.1 h.2 hk
    have R : Hid (mayB b = false) := may_big hk
    have hn : (b == 9223372036854775807) = false := by
      rw [beq_eq_false_iff_ne]
      intro e; subst e
      revert hk; decide
    clear hk
    go_enter Try.func97, Try.ntmps97
    go_wp2_with (fail)
    refine (V _).mono ?_; rintro e w' ⟨rfl, p, rfl⟩
    go_wp2
    go_ret
    exact gives_bool R.out.symm (by (repeat' (first | (with_reducible assumption) | (with_reducible exact Below.refl _ _) | (with_reducible refine below_wov ?_ ?_ _) | (with_reducible refine below_drewN ?_ _) | (with_reducible refine Below.drew ?_) | (with_reducible refine Below.alloc ?_ ?_ _) | (with_reducible refine Below.setCell ?_ ?_ _) | (with_reducible exact Nat.le_refl _) | omega | (simp only [World.size_alloc, World.size_setCell, World.size_drew, Wov_size, World.heap_drewN]; omega))))
  · by_cases hn : b = noneB
    · subst hn
      have V := value_none
      go_enter Try.func97, Try.ntmps97
      go_wp2_with (fail)
      refine (V _).mono ?_; rintro e w' ⟨rfl, p, rfl⟩
      go_wp2
      go_ret
      exact gives_bool (by decide) (by (repeat' (first | (with_reducible assumption) | (with_reducible exact Below.refl _ _) | (with_reducible refine below_wov ?_ ?_ _) | (with_reducible refine below_drewN ?_ _) | (with_reducible refine Below.drew ?_) | (with_reducible refine Below.alloc ?_ ?_ _) | (with_reducible refine Below.setCell ?_ ?_ _) | (with_reducible exact Nat.le_refl _) | omega | (simp only [World.size_alloc, World.size_setCell, World.size_drew, Wov_size, World.heap_drewN]; omega))))
    · have V := value_ok h.1 h.2 hk hn
      have R : Hid (mayB b = (decide (-288230376151711744 ≤ bnum b) && decide (bnum b ≤ 288230376151711744))) := by show _ = _; simp [mayB, hn]
      have e := isNone_f hn
      obtain ⟨c, hc⟩ : ∃ c, c = bnum b := ⟨_, rfl⟩
      obtain ⟨s, hs⟩ : ∃ s, s = bstr b := ⟨_, rfl⟩
      rw [← hc, ← hs] at V
      rw [← hc] at R
      clear hk hn hc hs
      go_enter Try.func97, Try.ntmps97
      go_wp2_with (fail)
      refine (V _).mono ?_; rintro e w' ⟨rfl, p, rfl⟩
      go_wp2
      all_goals
        go_ret
        refine gives_bool ?_ (by (repeat' (first | (with_reducible assumption) | (with_reducible exact Below.refl _ _) | (with_reducible refine below_wov ?_ ?_ _) | (with_reducible refine below_drewN ?_ _) | (with_reducible refine Below.drew ?_) | (with_reducible refine Below.alloc ?_ ?_ _) | (with_reducible refine Below.setCell ?_ ?_ _) | (with_reducible exact Nat.le_refl _) | omega | (simp only [World.size_alloc, World.size_setCell, World.size_drew, Wov_size, World.heap_drewN]; omega))))
        rw [R.out]
        first | rfl | (simp; done) | (simp; omega) | (simp_all; done)

theorem check1_any (b : Int) (h : fits64 b) : Pure Try.prog 96 #[.int .i64 b] (.bool (!mayB b)) := by
  intro w
  have V := may_any b h
  obtain ⟨s, hs⟩ : ∃ s, s = mayB b := ⟨_, rfl⟩
  rw [← hs] at V ⊢
  clear hs
  go_enter Try.func96, Try.ntmps96
  go_wp2_with (fail)
  refine (V _).mono ?_; rintro e w' ⟨rfl, p, rfl⟩
  go_wp2
  go_ret
  exact gives_bool rfl (by (repeat' (first | (with_reducible assumption) | (with_reducible exact Below.refl _ _) | (with_reducible refine below_wov ?_ ?_ _) | (with_reducible refine below_drewN ?_ _) | (with_reducible refine Below.drew ?_) | (with_reducible refine Below.alloc ?_ ?_ _) | (with_reducible refine Below.setCell ?_ ?_ _) | (with_reducible exact Nat.le_refl _) | omega | (simp only [World.size_alloc, World.size_setCell, World.size_drew, Wov_size, World.heap_drewN]; omega))))

/-- A slice's elements: numbers. -/
def SlP (W : World) (p : Option Addr) (N : Nat) (f : Nat → Int) : Prop := N = 0 ∨ ∃ B off, p = some ⟨B, off, none⟩ ∧ B < W.heap.size ∧ ∀ x, x < N → W.cell? ⟨B, off + x, none⟩ = some (.int .i64 (f x))
theorem SlP.wov {W : World} {p : Option Addr} {N : Nat} {f : Nat → Int} (h : SlP W p N f) (q : Gr) : SlP (Wov W q) p N f := by
  rcases h with h | ⟨B, off, h1, h2, h3⟩
  · exact .inl h
  · exact .inr ⟨B, off, h1, by rw [Wov_size]; omega, fun x hx => by rw [Wov_cell_past _ _ _ _ h2]; exact h3 x hx⟩

/-- The first place at which a bound may not be. -/
def badAt (f : Nat → Int) : Nat → Nat → Option Nat
  | 0, _ => none
  | k + 1, t => if mayB (f t) then badAt f k (t + 1) else some t
def allMay (N : Nat) (f : Nat → Int) : Bool := (List.range N).all fun x => mayB (f x)
theorem allMay_t {N : Nat} {f : Nat → Int} (h : ∀ x, x < N → mayB (f x) = true) : allMay N f = true := by
  unfold allMay; rw [List.all_eq_true]; intro x hx; exact h x (by simpa using hx)
theorem allMay_f {N t : Nat} {f : Nat → Int} (ht : t < N) (h : mayB (f t) = false) : allMay N f = false := by
  unfold allMay; rw [List.all_eq_false]; exact ⟨t, by simpa using ht, by simp [h]⟩

def idxPost (w : World) (N : Nat) (f : Nat → Int) (e : Ending) (w' : World) : Prop := ∃ i : Int, e = .returned (.int .i64 i) ∧ decide (0 ≤ i) = !allMay N f ∧ ∃ p, w' = Wov w p

set_option maxRecDepth 10000 in
set_option maxHeartbeats 1000000 in
theorem index_any (p : Option Addr) (N cap : Nat) (f : Nat → Int) (w : World) (hS : SlP w p N f) (hF : Fits N f) (hN : N ≤ 9223372036854775807) :
    Calls Try.prog 149 #[.slice p N cap, .func (.func 96) #[] #[]] w (idxPost w N f) := by
  go_enter Try.func149, Try.ntmps149
  go_wp2
  go_loopw [5, 8, 9, 10, 11, 12, 13, 14, 15, 16, 18] (fun _ i _ _ _ _ _ _ _ _ _ wr => ∃ t : Nat, t ≤ N ∧ i = .int .i64 t ∧ Hid (∀ x, x < t → mayB (f x) = true) ∧ ∃ q, wr = Wov w q)
    (fun _ i _ _ _ _ _ _ _ _ _ _ => N - (intOf i).toNat)
  case atStart => exact ⟨0, Nat.zero_le _, rfl, (fun x hx => by omega), ⟨#[], w.drawn⟩, (Wov_self w).symm⟩
  case round =>
    obtain ⟨t, ht, rfl, hpre, q, rfl⟩ := hrel
    by_cases hlt : t < N
    · obtain ⟨B, off, rfl, hB, hc⟩ : ∃ B off, p = some ⟨B, off, none⟩ ∧ B < w.heap.size ∧ ∀ x, x < N → w.cell? ⟨B, off + x, none⟩ = some (.int .i64 (f x)) := by
        rcases hS with h | h
        · omega
        · exact h
      have ct := hc t hlt
      have C := check1_any (f t) (hF t hlt)
      obtain ⟨v, hv⟩ : ∃ v, v = f t := ⟨_, rfl⟩
      rw [← hv] at ct C
      have HV := Lib.hid hv
      clear hv hc hF
      have HC := Lib.hid C
      clear C
      obtain ⟨b, hb⟩ : ∃ b, b = mayB v := ⟨_, rfl⟩
      rw [← hb] at HC
      have HB := Lib.hid hb
      clear hb
      go_wp2_with (fail)
      refine (HC.out _).mono ?_; rintro e w' ⟨rfl, q2, rfl⟩
      cases b
      · go_wp2
        go_ret
        exact ⟨t, rfl, by rw [allMay_f hlt (by rw [← HV.out, ← HB.out])]; simp, _, rfl⟩
      · go_wp2
        go_roundw
        case rel =>
          refine ⟨t + 1, hlt, by go_num, fun x hx => ?_, _, rfl⟩
          by_cases e : x = t
          · subst e; rw [← HV.out, ← HB.out]
          · exact hpre.out x (by omega)
        case measure => simp [intOf]; omega
    · have e : t = N := by omega
      subst e
      go_wp2
      go_ret
      exact ⟨-1, rfl, by rw [allMay_t hpre.out]; rfl, _, rfl⟩

set_option maxRecDepth 10000 in
set_option maxHeartbeats 400000 in
theorem contains_any (p : Option Addr) (N cap : Nat) (f : Nat → Int) (w : World) (hS : SlP w p N f) (hF : Fits N f) (hN : N ≤ 9223372036854775807) :
    Calls Try.prog 95 #[.slice p N cap, .func (.func 96) #[] #[]] w (Gives w (.bool (!allMay N f))) := by
  have I := Lib.hid (index_any p N cap f w hS hF hN)
  clear hS hF
  go_enter Try.func95, Try.ntmps95
  go_wp2_with (fail)
  refine I.out.mono ?_
  rintro e w' ⟨i, rfl, hi, q, rfl⟩
  have HI := Lib.hid hi
  clear hi
  go_wp2
  go_ret
  exact gives_bool HI.out (by (repeat' (first | (with_reducible assumption) | (with_reducible exact Below.refl _ _) | (with_reducible refine below_wov ?_ ?_ _) | (with_reducible refine below_drewN ?_ _) | (with_reducible refine Below.drew ?_) | (with_reducible refine Below.alloc ?_ ?_ _) | (with_reducible refine Below.setCell ?_ ?_ _) | (with_reducible exact Nat.le_refl _) | omega | (simp only [World.size_alloc, World.size_setCell, World.size_drew, Wov_size, World.heap_drewN]; omega))))
end Go.Proofs.Ytlcbpckinjkfeaa
