/- Contracts of rat.low and rat.Of: the fraction in lowest terms, if it may be. No condition but that numbers are of their kind. -/
import Derived.Test.YtlcbpckinjkfeaaRat1
namespace Go.Proofs.Ytlcbpckinjkfeaa
set_option linter.unusedSimpArgs false
set_option linter.unusedVariables false
open Go Go.RowKit

/-- n by d in lowest terms, if it may be: its two numbers, and the error. -/
def lowR (n d : Int) : Int × Int × Int :=
  if okRat (n / (Nat.gcd n.natAbs d.natAbs : Nat)) (d / (Nat.gcd n.natAbs d.natAbs : Nat)) then (n / (Nat.gcd n.natAbs d.natAbs : Nat), d / (Nat.gcd n.natAbs d.natAbs : Nat), 0) else (0, 0, 10)
def rat3 (r : Int × Int × Int) : Value := .tuple #[.agg #[.int .i64 r.1, .int .i64 r.2.1], .int .i64 r.2.2]

theorem okRat_bd {n d : Int} (h : okRat n d = true) : 1 ≤ d ∧ d ≤ 1048576 ∧ withinB n d = true ∧ Nat.gcd n.natAbs d.natAbs = 1 := by
  simp [okRat] at h; exact h

theorem gives_rat {w w' : World} {a b c : Int} {r : Int × Int × Int} (he : r = (a, b, c)) (h : Below w.heap.size w w') : Gives w (rat3 r) (.returned (.tuple #[.agg #[.int .i64 a, .int .i64 b], .int .i64 c])) w' := gives_end (by rw [he]; rfl) h

set_option maxHeartbeats 800000 in
theorem low_any (n d : Int) (h1 : -9223372036854775808 ≤ n) (h2 : n ≤ 9223372036854775807) (h3 : 1 ≤ d) (h4 : d ≤ 9223372036854775807) :
    Pure Try.prog 114 #[.int .i64 n, .int .i64 d] (rat3 (lowR n d)) := by
  intro w
  have hd : (d : Int) = (d.natAbs : Int) := by omega
  have HD := Lib.hid hd
  clear hd
  obtain ⟨g, HG⟩ : ∃ g, Hid (g = Nat.gcd n.natAbs d.natAbs) := ⟨_, rfl⟩
  have hg0 : 0 < g := by rw [HG.out]; exact Nat.gcd_pos_of_pos_right _ (by omega)
  have hg1 : g ≤ d.natAbs := by rw [HG.out]; exact Nat.gcd_le_right _ (by omega)
  have hgn : (g : Int) ≠ 0 := by omega
  have hb := ediv_bd' n g hg0 h1 h2
  have hb2 := ediv_bd' d g hg0 (by omega) h4
  have T1 := Lib.hid (tdiv_exact n g hg0 (by rw [HG.out]; exact gcd_dvd_l n d))
  have T2 := Lib.hid (tdiv_exact d g hg0 (by rw [HG.out]; exact gcd_dvd_r n d))
  obtain ⟨N, HN⟩ : ∃ N, Hid (N = n / g) := ⟨_, rfl⟩
  obtain ⟨D, HDD⟩ : ∃ D, Hid (D = d / g) := ⟨_, rfl⟩
  rw [← HN.out] at hb T1
  rw [← HDD.out] at hb2 T2
  obtain ⟨b1, b2⟩ := hb
  obtain ⟨b3, b4⟩ := hb2
  have L : Hid (lowR n d = if okRat N D then (N, D, 0) else (0, 0, 10)) := by
    show _ = _
    rw [lowR, ← HG.out, ← HN.out, ← HDD.out]
  have t1 : n.tdiv g = N := T1.out
  have t2 : d.tdiv g = D := T2.out
  by_cases hok : okRat N D = true
  · have C := ratCheck_ok b1 b2 hok
    have R : Hid (lowR n d = (N, D, 0)) := by
      show _ = _
      rw [L.out, if_pos hok]
    clear hok L
    go_enter Try.func114, Try.ntmps114
    go_wp2_with (first
      | (go_at_call 120; refine (size_any n _ h1 h2).mono ?_; rintro e w' ⟨rfl, rfl⟩)
      | (go_at_call 119; rw [HD.out]; refine (gcd_any n.natAbs d.natAbs _ (by omega) (by omega)).mono ?_; rw [← HG.out, ← HD.out]; rintro e w' ⟨rfl, m, rfl⟩))
    go_region
    go_wp2_with (go_at_call 51; refine (C _).mono ?_; rintro e w' ⟨rfl, p, rfl⟩)
    go_returns
    exact gives_rat R.out (by (repeat' (first | (with_reducible assumption) | (with_reducible exact Below.refl _ _) | (with_reducible refine below_wov ?_ ?_ _) | (with_reducible refine below_drewN ?_ _) | (with_reducible refine Below.drew ?_) | (with_reducible refine Below.alloc ?_ ?_ _) | (with_reducible refine Below.setCell ?_ ?_ _) | (with_reducible exact Nat.le_refl _) | omega | (simp only [World.size_alloc, World.size_setCell, World.size_drew, Wov_size, World.heap_drewN]; omega))))
  · have C := ratCheck_bad b1 b2 (by simpa using hok)
    have R : Hid (lowR n d = (0, 0, 10)) := by
      show _ = _
      rw [L.out, if_neg hok]
    clear hok L
    go_enter Try.func114, Try.ntmps114
    go_wp2_with (first
      | (go_at_call 120; refine (size_any n _ h1 h2).mono ?_; rintro e w' ⟨rfl, rfl⟩)
      | (go_at_call 119; rw [HD.out]; refine (gcd_any n.natAbs d.natAbs _ (by omega) (by omega)).mono ?_; rw [← HG.out, ← HD.out]; rintro e w' ⟨rfl, m, rfl⟩))
    go_region
    go_wp2_with (go_at_call 51; refine (C _).mono ?_; rintro e w' ⟨rfl, p, rfl⟩)
    go_returns
    exact gives_rat R.out (by (repeat' (first | (with_reducible assumption) | (with_reducible exact Below.refl _ _) | (with_reducible refine below_wov ?_ ?_ _) | (with_reducible refine below_drewN ?_ _) | (with_reducible refine Below.drew ?_) | (with_reducible refine Below.alloc ?_ ?_ _) | (with_reducible refine Below.setCell ?_ ?_ _) | (with_reducible exact Nat.le_refl _) | omega | (simp only [World.size_alloc, World.size_setCell, World.size_drew, Wov_size, World.heap_drewN]; omega))))

def ofR (n d : Int) : Int × Int × Int := if d < 1 then (0, 0, 30) else lowR n d

set_option maxHeartbeats 400000 in
theorem of_any (n d : Int) (h1 : -9223372036854775808 ≤ n) (h2 : n ≤ 9223372036854775807) (h4 : d ≤ 9223372036854775807) :
    Pure Try.prog 46 #[.int .i64 n, .int .i64 d] (rat3 (ofR n d)) := by
  intro w
  by_cases h3 : d < 1
  · go_enter Try.func46, Try.ntmps46
    go_wp2
    go_returns
    exact gives_rat (by simp [ofR, h3]) (by (repeat' (first | (with_reducible assumption) | (with_reducible exact Below.refl _ _) | (with_reducible refine below_wov ?_ ?_ _) | (with_reducible refine below_drewN ?_ _) | (with_reducible refine Below.drew ?_) | (with_reducible refine Below.alloc ?_ ?_ _) | (with_reducible refine Below.setCell ?_ ?_ _) | (with_reducible exact Nat.le_refl _) | omega | (simp only [World.size_alloc, World.size_setCell, World.size_drew, Wov_size, World.heap_drewN]; omega))))
  · have R : Hid (ofR n d = lowR n d) := by
      show _ = _
      rw [ofR, if_neg h3]
    obtain ⟨⟨N, D, E⟩, hr⟩ : ∃ r, r = lowR n d := ⟨_, rfl⟩
    have C := low_any n d h1 h2 (by omega) h4
    rw [← hr] at C
    have HR := Lib.hid (R.out.trans hr.symm)
    clear hr R
    simp only [rat3] at C
    go_enter Try.func46, Try.ntmps46
    go_wp2_with (go_at_call 114; refine (C _).mono ?_; rintro e w' ⟨rfl, p, rfl⟩)
    go_returns
    exact gives_rat HR.out (by (repeat' (first | (with_reducible assumption) | (with_reducible exact Below.refl _ _) | (with_reducible refine below_wov ?_ ?_ _) | (with_reducible refine below_drewN ?_ _) | (with_reducible refine Below.drew ?_) | (with_reducible refine Below.alloc ?_ ?_ _) | (with_reducible refine Below.setCell ?_ ?_ _) | (with_reducible exact Nat.le_refl _) | omega | (simp only [World.size_alloc, World.size_setCell, World.size_drew, Wov_size, World.heap_drewN]; omega))))
end Go.Proofs.Ytlcbpckinjkfeaa
