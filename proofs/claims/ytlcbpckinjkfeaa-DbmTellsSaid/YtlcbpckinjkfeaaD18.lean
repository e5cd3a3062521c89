/- Slices of fractions; whether one of them may not be. No condition but that numbers are of their kind. -/
import Derived.Test.YtlcbpckinjkfeaaD15
import Derived.Test.YtlcbpckinjkfeaaD16
import Derived.Test.YtlcbpckinjkfeaaRat8
namespace Go.Proofs.Ytlcbpckinjkfeaa
set_option linter.unusedSimpArgs false
set_option linter.unusedVariables false
open Go Go.RowKit Go.Shelf
attribute [local go_sem] Nat.add_assoc Nat.add_lt_add_iff_left lit_lt_add

/-- A slice's elements: fractions. -/
def SlR (W : World) (p : Option Addr) (M : Nat) (T : Nat → Int × Int) : Prop := M = 0 ∨ ∃ B off, p = some ⟨B, off, none⟩ ∧ B < W.heap.size ∧ ∀ x, x < M → W.cell? ⟨B, off + x * 2, none⟩ = some (.int .i64 (T x).1) ∧ W.cell? ⟨B, off + (x * 2 + 1), none⟩ = some (.int .i64 (T x).2)
theorem SlR.below {W W' : World} {p : Option Addr} {N : Nat} {T : Nat → Int × Int} (h : SlR W p N T) (hb : Below W.heap.size W W') : SlR W' p N T := by
  rcases h with h | ⟨B, off, h1, h2, h3⟩
  · exact .inl h
  · exact .inr ⟨B, off, h1, Nat.lt_of_lt_of_le h2 hb.size, fun x hx => ⟨(hb.cell (p := ⟨B, off + x * 2, none⟩) h2).trans (h3 x hx).1, (hb.cell (p := ⟨B, off + (x * 2 + 1), none⟩) h2).trans (h3 x hx).2⟩⟩
def FitsR (M : Nat) (T : Nat → Int × Int) : Prop := ∀ x, x < M → fits64 (T x).1 ∧ fits64 (T x).2
def allRat (M : Nat) (T : Nat → Int × Int) : Bool := (List.range M).all fun x => okRat (T x).1 (T x).2
theorem allRat_t {M : Nat} {T : Nat → Int × Int} (h : ∀ x, x < M → okRat (T x).1 (T x).2 = true) : allRat M T = true := by
  unfold allRat; rw [List.all_eq_true]; intro x hx; exact h x (by simpa using hx)
theorem allRat_f {M t : Nat} {T : Nat → Int × Int} (ht : t < M) (h : okRat (T t).1 (T t).2 = false) : allRat M T = false := by
  unfold allRat; rw [List.all_eq_false]; exact ⟨t, by simpa using ht, by simp [h]⟩
theorem allRat_iff {M : Nat} {T : Nat → Int × Int} : allRat M T = true ↔ ∀ x, x < M → okRat (T x).1 (T x).2 = true := by
  unfold allRat; rw [List.all_eq_true]
  constructor
  · intro h x hx; exact h x (by simpa using hx)
  · intro h x hx; exact h x (by simpa using hx)

set_option maxRecDepth 10000 in
set_option maxHeartbeats 400000 in
theorem keeps1_any (n d : Int) (h : fits64 n) : Pure Try.prog 90 #[.agg #[.int .i64 n, .int .i64 d]] (.bool (!okRat n d)) := by
  intro w
  have C := ratCheck_any n d h.1 h.2
  obtain ⟨s, hs⟩ : ∃ s, s = okRat n d := ⟨_, rfl⟩
  rw [← hs] at C ⊢
  clear hs
  cases s
  all_goals
    simp only [rcode, if_true, Bool.false_eq_true, if_false] at C
    go_enter Try.func90, Try.ntmps90
    go_wp2_with (fail)
    refine (C _).mono ?_; rintro e w' ⟨rfl, p, rfl⟩
    go_wp2
    go_ret
    exact gives_bool rfl (by (repeat' (first | (with_reducible assumption) | (with_reducible exact Below.refl _ _) | (with_reducible refine below_wov ?_ ?_ _) | (with_reducible refine below_drewN ?_ _) | (with_reducible refine Below.drew ?_) | (with_reducible refine Below.alloc ?_ ?_ _) | (with_reducible refine Below.setCell ?_ ?_ _) | (with_reducible exact Nat.le_refl _) | omega | (simp only [World.size_alloc, World.size_setCell, World.size_drew, Wov_size, World.heap_drewN]; omega))))

def idxRPost (w : World) (N : Nat) (T : Nat → Int × Int) (e : Ending) (w' : World) : Prop := ∃ i : Int, e = .returned (.int .i64 i) ∧ decide (0 ≤ i) = !allRat N T ∧ ∃ p, w' = Wov w p

set_option maxRecDepth 10000 in
set_option maxHeartbeats 1000000 in
theorem indexR_any (p : Option Addr) (N cap : Nat) (T : Nat → Int × Int) (w : World) (hS : SlR w p N T) (hF : FitsR N T) (hN : N ≤ 4611686018427387903) :
    Calls Try.prog 143 #[.slice p N cap, .func (.func 90) #[] #[]] w (idxRPost w N T) := by
  go_enter Try.func143, Try.ntmps143
  go_wp2
  go_loopw [5, 8, 9, 10, 11, 12, 13, 14, 15, 16, 18] (fun _ i _ _ _ _ _ _ _ _ _ wr => ∃ t : Nat, t ≤ N ∧ i = .int .i64 t ∧ Hid (∀ x, x < t → okRat (T x).1 (T x).2 = true) ∧ ∃ q, wr = Wov w q)
    (fun _ i _ _ _ _ _ _ _ _ _ _ => N - (intOf i).toNat)
  case atStart => exact ⟨0, Nat.zero_le _, rfl, (fun x hx => by omega), ⟨#[], w.drawn⟩, (Wov_self w).symm⟩
  case round =>
    obtain ⟨t, ht, rfl, hpre, q, rfl⟩ := hrel
    by_cases hlt : t < N
    · obtain ⟨B, off, rfl, hB, hc⟩ : ∃ B off, p = some ⟨B, off, none⟩ ∧ B < w.heap.size ∧ ∀ x, x < N → w.cell? ⟨B, off + x * 2, none⟩ = some (.int .i64 (T x).1) ∧ w.cell? ⟨B, off + (x * 2 + 1), none⟩ = some (.int .i64 (T x).2) := by
        rcases hS with h | h
        · omega
        · exact h
      obtain ⟨ct, cd⟩ := hc t hlt
      have C := keeps1_any (T t).1 (T t).2 (hF t hlt).1
      obtain ⟨a, ha⟩ : ∃ a, a = (T t).1 := ⟨_, rfl⟩
      obtain ⟨b, hb⟩ : ∃ b, b = (T t).2 := ⟨_, rfl⟩
      rw [← ha] at ct C
      rw [← hb] at cd C
      have HA := Lib.hid ha
      have HB := Lib.hid hb
      clear ha hb hc hF
      have HC := Lib.hid C
      clear C
      obtain ⟨s, hs⟩ : ∃ s, s = okRat a b := ⟨_, rfl⟩
      rw [← hs] at HC
      have HS := Lib.hid hs
      clear hs
      go_wp2_with (fail)
      refine (HC.out _).mono ?_; rintro e w' ⟨rfl, q2, rfl⟩
      cases s
      · go_wp2
        go_ret
        exact ⟨t, rfl, by rw [allRat_f hlt (by rw [← HA.out, ← HB.out, ← HS.out])]; simp, _, rfl⟩
      · go_wp2
        go_roundw
        case rel =>
          refine ⟨t + 1, hlt, by go_num, fun x hx => ?_, _, rfl⟩
          by_cases e : x = t
          · subst e; rw [← HA.out, ← HB.out, ← HS.out]
          · exact hpre.out x (by omega)
        case measure => simp [intOf]; omega
    · have e : t = N := by omega
      subst e
      go_wp2
      go_ret
      exact ⟨-1, rfl, by rw [allRat_t hpre.out]; rfl, _, rfl⟩

set_option maxRecDepth 10000 in
set_option maxHeartbeats 400000 in
theorem containsR_any (p : Option Addr) (N cap : Nat) (T : Nat → Int × Int) (w : World) (hS : SlR w p N T) (hF : FitsR N T) (hN : N ≤ 4611686018427387903) :
    Calls Try.prog 89 #[.slice p N cap, .func (.func 90) #[] #[]] w (Gives w (.bool (!allRat N T))) := by
  have I := Lib.hid (indexR_any p N cap T w hS hF hN)
  clear hS hF
  go_enter Try.func89, Try.ntmps89
  go_wp2_with (fail)
  refine I.out.mono ?_
  rintro e w' ⟨i, rfl, hi, q, rfl⟩
  have HI := Lib.hid hi
  clear hi
  go_wp2
  go_ret
  exact gives_bool HI.out (by (repeat' (first | (with_reducible assumption) | (with_reducible exact Below.refl _ _) | (with_reducible refine below_wov ?_ ?_ _) | (with_reducible refine below_drewN ?_ _) | (with_reducible refine Below.drew ?_) | (with_reducible refine Below.alloc ?_ ?_ _) | (with_reducible refine Below.setCell ?_ ?_ _) | (with_reducible exact Nat.le_refl _) | omega | (simp only [World.size_alloc, World.size_setCell, World.size_drew, Wov_size, World.heap_drewN]; omega))))
end Go.Proofs.Ytlcbpckinjkfeaa
