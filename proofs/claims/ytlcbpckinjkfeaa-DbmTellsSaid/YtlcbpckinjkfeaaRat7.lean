/- Contracts of rat.Add, Mid, Keeps, Floor. No condition but that numbers are of their kind. -/
import Derived.Test.YtlcbpckinjkfeaaRat6
namespace Go.Proofs.Ytlcbpckinjkfeaa
set_option linter.unusedSimpArgs false
set_option linter.unusedVariables false
open Go Go.RowKit

def addPR (n1 d1 n2 d2 k : Int) : Int × Int × Int := if okRat n1 d1 && okRat n2 d2 then sumR n1 d1 n2 d2 k else (0, 0, 8)

set_option maxRecDepth 10000 in
set_option maxHeartbeats 800000 in
theorem ratAdd_any (n1 d1 n2 d2 : Int) (h1 : fits64 n1) (h2 : fits64 n2) :
    Pure Try.prog 52 #[.agg #[.int .i64 n1, .int .i64 d1], .agg #[.int .i64 n2, .int .i64 d2]] (rat3 (addPR n1 d1 n2 d2 1)) := by
  intro w
  have K := Lib.hid (fun b w => checked_any n1 d1 n2 d2 b h1.1 h1.2 h2.1 h2.2 w)
  cases hk : okRat n1 d1 && okRat n2 d2
  · have R : Hid (addPR n1 d1 n2 d2 1 = (0, 0, 8)) := by show _ = _; rw [addPR, hk]; rfl
    rw [hk, show rcode false = 8 from rfl] at K
    clear hk h1 h2
    go_enter Try.func52, Try.ntmps52
    go_wp2_with (fail)
    refine (K.out _ _ ?_ ?_ ?_ ?_).mono ?_
    · simp [go_sem]
    · simp [go_sem]
    · simp [go_sem]
    · simp [go_sem]
    rintro e w' ⟨rfl, p, rfl⟩
    go_wp2
    go_returns
    exact gives_rat R.out (by (repeat' (first | (with_reducible assumption) | (with_reducible exact Below.refl _ _) | (with_reducible refine below_wov ?_ ?_ _) | (with_reducible refine below_drewN ?_ _) | (with_reducible refine Below.drew ?_) | (with_reducible refine Below.alloc ?_ ?_ _) | (with_reducible refine Below.setCell ?_ ?_ _) | (with_reducible exact Nat.le_refl _) | omega | (simp only [World.size_alloc, World.size_setCell, World.size_drew, Wov_size, World.heap_drewN]; omega))))
  · have R : Hid (addPR n1 d1 n2 d2 1 = sumR n1 d1 n2 d2 1) := by show _ = _; rw [addPR, hk]; rfl
    rw [hk, show rcode true = 0 from rfl] at K
    have ho : okRat n1 d1 = true ∧ okRat n2 d2 = true := by simpa using hk
    have C := sum_any n1 d1 n2 d2 1 h1 h2 ho.1 ho.2 (by omega)
    obtain ⟨⟨x, y, z⟩, hr⟩ : ∃ r, r = sumR n1 d1 n2 d2 1 := ⟨_, rfl⟩
    rw [← hr] at C R
    clear hk ho hr h1 h2
    simp only [rat3] at C
    go_enter Try.func52, Try.ntmps52
    go_wp2_with (fail)
    refine (K.out _ _ ?_ ?_ ?_ ?_).mono ?_
    · simp [go_sem]
    · simp [go_sem]
    · simp [go_sem]
    · simp [go_sem]
    rintro e w' ⟨rfl, p, rfl⟩
    go_wp2_with (fail)
    refine (C _).mono ?_; rintro e w' ⟨rfl, p2, rfl⟩
    go_wp2
    go_returns
    exact gives_rat R.out (by (repeat' (first | (with_reducible assumption) | (with_reducible exact Below.refl _ _) | (with_reducible refine below_wov ?_ ?_ _) | (with_reducible refine below_drewN ?_ _) | (with_reducible refine Below.drew ?_) | (with_reducible refine Below.alloc ?_ ?_ _) | (with_reducible refine Below.setCell ?_ ?_ _) | (with_reducible exact Nat.le_refl _) | omega | (simp only [World.size_alloc, World.size_setCell, World.size_drew, Wov_size, World.heap_drewN]; omega))))

set_option maxRecDepth 10000 in
set_option maxHeartbeats 800000 in
theorem ratMid_any (n1 d1 n2 d2 : Int) (h1 : fits64 n1) (h2 : fits64 n2) :
    Pure Try.prog 162 #[.agg #[.int .i64 n1, .int .i64 d1], .agg #[.int .i64 n2, .int .i64 d2]] (rat3 (addPR n1 d1 n2 d2 2)) := by
  intro w
  have K := Lib.hid (fun b w => checked_any n1 d1 n2 d2 b h1.1 h1.2 h2.1 h2.2 w)
  cases hk : okRat n1 d1 && okRat n2 d2
  · have R : Hid (addPR n1 d1 n2 d2 2 = (0, 0, 8)) := by show _ = _; rw [addPR, hk]; rfl
    rw [hk, show rcode false = 8 from rfl] at K
    clear hk h1 h2
    go_enter Try.func162, Try.ntmps162
    go_wp2_with (fail)
    refine (K.out _ _ ?_ ?_ ?_ ?_).mono ?_
    · simp [go_sem]
    · simp [go_sem]
    · simp [go_sem]
    · simp [go_sem]
    rintro e w' ⟨rfl, p, rfl⟩
    go_wp2
    go_returns
    exact gives_rat R.out (by (repeat' (first | (with_reducible assumption) | (with_reducible exact Below.refl _ _) | (with_reducible refine below_wov ?_ ?_ _) | (with_reducible refine below_drewN ?_ _) | (with_reducible refine Below.drew ?_) | (with_reducible refine Below.alloc ?_ ?_ _) | (with_reducible refine Below.setCell ?_ ?_ _) | (with_reducible exact Nat.le_refl _) | omega | (simp only [World.size_alloc, World.size_setCell, World.size_drew, Wov_size, World.heap_drewN]; omega))))
  · have R : Hid (addPR n1 d1 n2 d2 2 = sumR n1 d1 n2 d2 2) := by show _ = _; rw [addPR, hk]; rfl
    rw [hk, show rcode true = 0 from rfl] at K
    have ho : okRat n1 d1 = true ∧ okRat n2 d2 = true := by simpa using hk
    have C := sum_any n1 d1 n2 d2 2 h1 h2 ho.1 ho.2 (by omega)
    obtain ⟨⟨x, y, z⟩, hr⟩ : ∃ r, r = sumR n1 d1 n2 d2 2 := ⟨_, rfl⟩
    rw [← hr] at C R
    clear hk ho hr h1 h2
    simp only [rat3] at C
    go_enter Try.func162, Try.ntmps162
    go_wp2_with (fail)
    refine (K.out _ _ ?_ ?_ ?_ ?_).mono ?_
    · simp [go_sem]
    · simp [go_sem]
    · simp [go_sem]
    · simp [go_sem]
    rintro e w' ⟨rfl, p, rfl⟩
    go_wp2_with (fail)
    refine (C _).mono ?_; rintro e w' ⟨rfl, p2, rfl⟩
    go_wp2
    go_returns
    exact gives_rat R.out (by (repeat' (first | (with_reducible assumption) | (with_reducible exact Below.refl _ _) | (with_reducible refine below_wov ?_ ?_ _) | (with_reducible refine below_drewN ?_ _) | (with_reducible refine Below.drew ?_) | (with_reducible refine Below.alloc ?_ ?_ _) | (with_reducible refine Below.setCell ?_ ?_ _) | (with_reducible exact Nat.le_refl _) | omega | (simp only [World.size_alloc, World.size_setCell, World.size_drew, Wov_size, World.heap_drewN]; omega))))


/-- A whole number below, whether that is all, and the error. -/
def floorPR (n d : Int) : Int × Bool × Int := if okRat n d then (n / d, decide (n % d = 0), 0) else (0, false, 8)
def trip (r : Int × Bool × Int) : Value := .tuple #[.int .i64 r.1, .bool r.2.1, .int .i64 r.2.2]
theorem gives_trip {w w' : World} {a c : Int} {s : Bool} {r : Int × Bool × Int} (he : r = (a, s, c)) (h : Below w.heap.size w w') : Gives w (trip r) (.returned (.tuple #[.int .i64 a, .bool s, .int .i64 c])) w' := gives_end (by rw [he]; rfl) h

set_option maxRecDepth 10000 in
set_option maxHeartbeats 800000 in
theorem ratFloor_any (n d : Int) (h1 : fits64 n) :
    Pure Try.prog 26 #[.agg #[.int .i64 n, .int .i64 d]] (trip (floorPR n d)) := by
  intro w
  cases hk : okRat n d
  · have C := ratCheck_bad h1.1 h1.2 hk
    have R : Hid (floorPR n d = (0, false, 8)) := by show _ = _; rw [floorPR, hk]; rfl
    clear hk h1
    go_enter Try.func26, Try.ntmps26
    go_wp2_with (go_at_call 51; refine (C _).mono ?_; rintro e w' ⟨rfl, p, rfl⟩)
    go_ret3
    exact gives_trip R.out (by (repeat' (first | (with_reducible assumption) | (with_reducible exact Below.refl _ _) | (with_reducible refine below_wov ?_ ?_ _) | (with_reducible refine below_drewN ?_ _) | (with_reducible refine Below.drew ?_) | (with_reducible refine Below.alloc ?_ ?_ _) | (with_reducible refine Below.setCell ?_ ?_ _) | (with_reducible exact Nat.le_refl _) | omega | (simp only [World.size_alloc, World.size_setCell, World.size_drew, Wov_size, World.heap_drewN]; omega))))
  · have C := ratCheck_ok h1.1 h1.2 hk
    have R : Hid (floorPR n d = (n / d, decide (n % d = 0), 0)) := by show _ = _; rw [floorPR, hk]; rfl
    obtain ⟨p1, p2, p3, p4⟩ := okRat_bd hk
    have F := Lib.hid (fun w => floor_any n d w h1.1 h1.2 (by omega) (by omega))
    obtain ⟨x, hx⟩ : ∃ x, x = n / d := ⟨_, rfl⟩
    obtain ⟨y, hy⟩ : ∃ y, y = n % d := ⟨_, rfl⟩
    rw [← hx, ← hy] at F R
    clear hk h1 hx hy p1 p2 p3 p4
    go_enter Try.func26, Try.ntmps26
    go_wp2_with (first
      | (go_at_call 51; refine (C _).mono ?_; rintro e w' ⟨rfl, p, rfl⟩)
      | (go_at_call 79; refine (F.out _).mono ?_; rintro e w' ⟨rfl, m, rfl⟩))
    go_ret3
    exact gives_trip (by rw [R.out]; congr 2) (by (repeat' (first | (with_reducible assumption) | (with_reducible exact Below.refl _ _) | (with_reducible refine below_wov ?_ ?_ _) | (with_reducible refine below_drewN ?_ _) | (with_reducible refine Below.drew ?_) | (with_reducible refine Below.alloc ?_ ?_ _) | (with_reducible refine Below.setCell ?_ ?_ _) | (with_reducible exact Nat.le_refl _) | omega | (simp only [World.size_alloc, World.size_setCell, World.size_drew, Wov_size, World.heap_drewN]; omega))))
end Go.Proofs.Ytlcbpckinjkfeaa
