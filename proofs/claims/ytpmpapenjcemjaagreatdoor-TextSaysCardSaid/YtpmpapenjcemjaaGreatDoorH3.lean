/- Zones: contract of slices.Contains over errors. No condition. -/
import Derived.Test.YtpmpapenjcemjaaGreatDoorH2
namespace Go.Proofs.YtpmpapenjcemjaaGreatDoor
set_option linter.unusedSimpArgs false
set_option linter.unusedVariables false
open Go Go.RowKit Go.Shelf
attribute [local go_sem] Nat.add_assoc Nat.add_lt_add_iff_left lit_lt_add

def hasE (N : Nat) (f : Nat → Int) (v : Int) : Bool := (List.range N).any fun x => decide (v = f x)
theorem hasE_f {N : Nat} {f : Nat → Int} {v : Int} (h : ∀ x, x < N → v ≠ f x) : hasE N f v = false := by
  rw [← Bool.not_eq_true]
  intro h'
  simp only [hasE, List.any_eq_true, List.mem_range, decide_eq_true_eq] at h'
  obtain ⟨x, hx, e⟩ := h'
  exact h x hx e
theorem hasE_t {N t : Nat} {f : Nat → Int} {v : Int} (ht : t < N) (h : v = f t) : hasE N f v = true := by
  simp only [hasE, List.any_eq_true, List.mem_range, decide_eq_true_eq]
  exact ⟨t, ht, h⟩
def idxEPost (w : World) (b : Bool) (e : Ending) (w' : World) : Prop := ∃ i : Int, e = .returned (.int .i64 i) ∧ decide (0 ≤ i) = b ∧ ∃ p, w' = Wov w p

set_option maxRecDepth 10000 in
set_option maxHeartbeats 1000000 in
theorem indexE_any (p : Option Addr) (N cap : Nat) (f : Nat → Int) (v : Int) (w : World) (hS : SlP w p N f) (hN : N ≤ 1000) :
    Calls Tryz.prog 168 #[.slice p N cap, .int .i64 v] w (idxEPost w (hasE N f v)) := by
  go_enter Tryz.func168, Tryz.ntmps168
  go_wp2
  go_loopw [5, 8] (fun _ i wr => ∃ t : Nat, t ≤ N ∧ i = .int .i64 t ∧ Hid (∀ x, x < t → v ≠ f x) ∧ Below w.heap.size w wr)
    (fun _ i _ => N - (intOf i).toNat)
  case atStart => exact ⟨0, Nat.zero_le _, rfl, (fun x hx => absurd hx (Nat.not_lt_zero _)), Below.refl _ _⟩
  case round =>
    obtain ⟨t, ht, rfl, hpre, hB⟩ := hrel
    by_cases hlt : t < N
    · obtain ⟨B, off, rfl, hBl, hc⟩ := hS.pos (by omega)
      have k := (hB.cell (p := ⟨B, off + t, none⟩) hBl).trans (hc t hlt)
      obtain ⟨u, hu⟩ : ∃ u, Hid (u = f t) := ⟨_, rfl⟩
      rw [← hu.out] at k
      clear hc hS
      by_cases he : v = u
      · subst he
        have hh := Lib.hid (hasE_t hlt hu.out)
        clear hpre hu
        go_wp2
        go_ret
        exact ⟨t, rfl, by rw [hh.out]; simp, Wov_of_below (by (repeat' (first | (with_reducible assumption) | (with_reducible exact Below.refl _ _) | (with_reducible refine below_wov ?_ ?_ _) | (with_reducible refine below_drewN ?_ _) | (with_reducible refine Below.drew ?_) | (with_reducible refine Below.alloc ?_ ?_ _) | (with_reducible refine Below.setCell ?_ ?_ _) | (with_reducible exact Nat.le_refl _) | omega | (simp only [World.size_alloc, World.size_setCell, World.size_drew, Wov_size, World.heap_drewN]; omega))))⟩
      · have bv : (v == u) = false := by rw [beq_eq_false_iff_ne]; exact he
        have hev := Lib.hid he
        clear he
        go_wp2
        go_roundw
        case rel =>
          refine ⟨t + 1, hlt, by go_num, fun x hx => ?_, by (repeat' (first | (with_reducible assumption) | (with_reducible exact Below.refl _ _) | (with_reducible refine below_wov ?_ ?_ _) | (with_reducible refine below_drewN ?_ _) | (with_reducible refine Below.drew ?_) | (with_reducible refine Below.alloc ?_ ?_ _) | (with_reducible refine Below.setCell ?_ ?_ _) | (with_reducible exact Nat.le_refl _) | omega | (simp only [World.size_alloc, World.size_setCell, World.size_drew, Wov_size, World.heap_drewN]; omega)))⟩
          by_cases e : x = t
          · rw [e, ← hu.out]; exact hev.out
          · exact hpre.out x (by omega)
        case measure => simp [intOf]; omega
    · obtain rfl : t = N := by omega
      have hh := Lib.hid (hasE_f hpre.out)
      clear hpre hS
      go_wp2
      go_ret
      exact ⟨-1, rfl, by rw [hh.out]; rfl, Wov_of_below (by (repeat' (first | (with_reducible assumption) | (with_reducible exact Below.refl _ _) | (with_reducible refine below_wov ?_ ?_ _) | (with_reducible refine below_drewN ?_ _) | (with_reducible refine Below.drew ?_) | (with_reducible refine Below.alloc ?_ ?_ _) | (with_reducible refine Below.setCell ?_ ?_ _) | (with_reducible exact Nat.le_refl _) | omega | (simp only [World.size_alloc, World.size_setCell, World.size_drew, Wov_size, World.heap_drewN]; omega))))⟩

set_option maxRecDepth 10000 in
set_option maxHeartbeats 400000 in
theorem containsE_any (p : Option Addr) (N cap : Nat) (f : Nat → Int) (v : Int) (w : World) (hS : SlP w p N f) (hN : N ≤ 1000) :
    Calls Tryz.prog 124 #[.slice p N cap, .int .i64 v] w (Gives w (.bool (hasE N f v))) := by
  have I := Lib.hid (indexE_any p N cap f v w hS hN)
  clear hS
  go_enter Tryz.func124, Tryz.ntmps124
  go_wp2_with (fail)
  refine I.out.mono ?_
  rintro e w' ⟨i, rfl, hi, q, rfl⟩
  have HI := Lib.hid hi
  clear hi
  go_wp2
  go_ret
  exact gives_bool HI.out (by (repeat' (first | (with_reducible assumption) | (with_reducible exact Below.refl _ _) | (with_reducible refine below_wov ?_ ?_ _) | (with_reducible refine below_drewN ?_ _) | (with_reducible refine Below.drew ?_) | (with_reducible refine Below.alloc ?_ ?_ _) | (with_reducible refine Below.setCell ?_ ?_ _) | (with_reducible exact Nat.le_refl _) | omega | (simp only [World.size_alloc, World.size_setCell, World.size_drew, Wov_size, World.heap_drewN]; omega))))
end Go.Proofs.YtpmpapenjcemjaaGreatDoor
