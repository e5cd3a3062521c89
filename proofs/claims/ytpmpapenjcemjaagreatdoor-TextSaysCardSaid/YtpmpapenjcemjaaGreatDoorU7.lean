/- Zones' texts: contracts of end.bound, text.interval. No condition but on size, and that strconv.ErrRange lies. -/
import Derived.Test.YtpmpapenjcemjaaGreatDoorU6
import Derived.Deep.RegionHeld3
namespace Go.Proofs.YtpmpapenjcemjaaGreatDoor
set_option linter.unusedSimpArgs false
set_option linter.unusedVariables false
open Go Go.RowKit Go.Shelf
attribute [local go_sem] Nat.add_assoc Nat.add_lt_add_iff_left lit_lt_add

/-- What bound tells an end. -/
def bndX (x : EndX) : Int := if x.2.2 then noneB else 2 * x.1 + (if x.2.1 then 1 else 0)
set_option maxRecDepth 10000 in
set_option maxHeartbeats 2000000 in
theorem bound_any (n : Int) (i o : Bool) (h1 : -2305843009213693952 ≤ n) (h2 : n ≤ 2305843009213693952) : Pure Tryz.prog 69 #[end3 n i o] (.int .i64 (bndX (n, i, o))) := by
  intro w
  unfold end3 bndX
  have hsh : wrap64 (n * 2) = n * 2 := wrap64_id (by omega) (by omega)
  have hs1 : wrap64 (n * 2 + 1) = n * 2 + 1 := wrap64_id (by omega) (by omega)
  clear h1 h2
  cases o
  · cases i
    · go_enter Tryz.func69, Tryz.ntmps69
      go_wp2
      go_returns
      exact gives_end (by show Value.int .i64 _ = Value.int .i64 _; congr 1; omega) (by (repeat' (first | (with_reducible assumption) | (with_reducible exact Below.refl _ _) | (with_reducible refine below_wov ?_ ?_ _) | (with_reducible refine below_drewN ?_ _) | (with_reducible refine Below.drew ?_) | (with_reducible refine Below.alloc ?_ ?_ _) | (with_reducible refine Below.setCell ?_ ?_ _) | (with_reducible exact Nat.le_refl _) | omega | (simp only [World.size_alloc, World.size_setCell, World.size_drew, Wov_size, World.heap_drewN]; omega))))
    · go_enter Tryz.func69, Tryz.ntmps69
      go_wp2
      go_returns
      exact gives_end (by show Value.int .i64 _ = Value.int .i64 _; congr 1; omega) (by (repeat' (first | (with_reducible assumption) | (with_reducible exact Below.refl _ _) | (with_reducible refine below_wov ?_ ?_ _) | (with_reducible refine below_drewN ?_ _) | (with_reducible refine Below.drew ?_) | (with_reducible refine Below.alloc ?_ ?_ _) | (with_reducible refine Below.setCell ?_ ?_ _) | (with_reducible exact Nat.le_refl _) | omega | (simp only [World.size_alloc, World.size_setCell, World.size_drew, Wov_size, World.heap_drewN]; omega))))
  · go_enter Tryz.func69, Tryz.ntmps69
    go_wp2
    go_returns
    exact gives_end rfl (by (repeat' (first | (with_reducible assumption) | (with_reducible exact Below.refl _ _) | (with_reducible refine below_wov ?_ ?_ _) | (with_reducible refine below_drewN ?_ _) | (with_reducible refine Below.drew ?_) | (with_reducible refine Below.alloc ?_ ?_ _) | (with_reducible refine Below.setCell ?_ ?_ _) | (with_reducible exact Nat.le_refl _) | omega | (simp only [World.size_alloc, World.size_setCell, World.size_drew, Wov_size, World.heap_drewN]; omega))))
set_option maxRecDepth 10000 in
set_option maxHeartbeats 4000000 in
theorem interval_core (S : ByteArray) (k j : Nat) (hn : S.size = k) (hkj : (k : Int) - 1 = (j : Int)) (hj1 : 1 ≤ j) (hN : k ≤ 140737488355328) (c d : UInt8) (M : ByteArray) (a b : List UInt8) (A0 B0 : Int) (A1 A2 B1 B2 : Bool) (e f : Int) (w : World)
    (g0 : ∀ h, S[0]'h = c) (g1 : ∀ h, S[j]'h = d) (hM : S.extract 1 j = M)
    (CT : Hid (Pure Tryz.prog 112 #[.string M, .string ⟨#[44]⟩] (.tuple #[.string (bs a), .string (bs b), .bool true])))
    (RL : Hid (∀ w', Below w.heap.size w w' → Calls Tryz.prog 113 #[.agg #[.string (bs [40, 91]), .string (bs [45, 111, 111])], .int .u8 c.toNat, .string (bs a)] w' (Gives w' (.tuple #[.agg #[.int .i64 A0, .bool A1, .bool A2], .int .i64 e]))))
    (RH : Hid (∀ w', Below w.heap.size w w' → Calls Tryz.prog 113 #[.agg #[.string (bs [41, 93]), .string (bs [111, 111])], .int .u8 d.toNat, .string (bs b)] w' (Gives w' (.tuple #[.agg #[.int .i64 B0, .bool B1, .bool B2], .int .i64 f])))) :
    Calls Tryz.prog 68 #[.string S] w (Gives w (.tuple #[.agg #[.int .i64 A0, .bool A1, .bool A2], .agg #[.int .i64 B0, .bool B1, .bool B2], .int .i64 (if e = 170 ∨ f = 170 then 170 else max e f)])) := by
  have SI : Hid (Pure Tryz.prog 76 #[] (.agg #[.string (bs [40, 91]), .string (bs [45, 111, 111]), .string (bs [41, 93]), .string (bs [111, 111])])) := sides_any31
  obtain ⟨R, hR⟩ : ∃ R, R = (if e = 170 ∨ f = 170 then 170 else max e f) := ⟨_, rfl⟩
  rw [← hR]
  have HR := Lib.hid hR
  have G0 := g0 (by omega)
  have G1 := g1 (by omega)
  have k1 : ¬ ((j : Int) < 1) := by omega
  have k2 : (1 : Int) ≤ j := by omega
  have k3 : j < k := by omega
  have k4 : (j : Int) < k := by omega
  have k5 : 0 < k := by omega
  have k6 : j ≤ k := by omega
  obtain ⟨q1, hq1⟩ : ∃ q, q = bs [40, 91] := ⟨_, rfl⟩
  obtain ⟨q2, hq2⟩ : ∃ q, q = bs [45, 111, 111] := ⟨_, rfl⟩
  obtain ⟨q3, hq3⟩ : ∃ q, q = bs [41, 93] := ⟨_, rfl⟩
  obtain ⟨q4, hq4⟩ : ∃ q, q = bs [111, 111] := ⟨_, rfl⟩
  rw [← hq1, ← hq2] at RL SI
  rw [← hq3, ← hq4] at RH SI
  clear hR g0 g1 hq1 hq2 hq3 hq4
  go_enter Tryz.func68, Tryz.ntmps68
  go_wp2_with (fail)
  refine (CT.out _).mono ?_; rintro e w' ⟨rfl, p1, rfl⟩
  go_wp2_with (fail)
  refine (SI.out _).mono ?_; rintro e w' ⟨rfl, p2, rfl⟩
  go_wp2_with (fail)
  go_region_held3 (fun w' => w'.cell? ⟨w.heap.size + (2 + (p1.bl.size + p2.bl.size)), 0, none⟩ = some (.string q1) ∧ w'.cell? ⟨w.heap.size + (2 + (p1.bl.size + p2.bl.size)), 1, none⟩ = some (.string q2))
    ((simp [go_sem, *]))
    (first
    | (go_at_call 113; (refine (RL.out _ (by (repeat' (first | (with_reducible assumption) | (with_reducible exact Below.refl _ _) | (with_reducible refine below_wov ?_ ?_ _) | (with_reducible refine below_drewN ?_ _) | (with_reducible refine Below.drew ?_) | (with_reducible refine Below.alloc ?_ ?_ _) | (with_reducible refine Below.setCell ?_ ?_ _) | (with_reducible exact Nat.le_refl _) | omega | (simp only [World.size_alloc, World.size_setCell, World.size_drew, Wov_size, World.heap_drewN]; omega))))).mono ?_); rintro e w' ⟨rfl, qa, rfl⟩))
  go_wp2_with (fail)
  go_region_held3 (fun w' => w'.cell? ⟨w.heap.size + (2 + (p1.bl.size + p2.bl.size)), 2, none⟩ = some (.string q3) ∧ w'.cell? ⟨w.heap.size + (2 + (p1.bl.size + p2.bl.size)), 3, none⟩ = some (.string q4))
    ((simp [go_sem, *]))
    (first
    | (go_at_call 113; (refine (RH.out _ (by (repeat' (first | (with_reducible assumption) | (with_reducible exact Below.refl _ _) | (with_reducible refine below_wov ?_ ?_ _) | (with_reducible refine below_drewN ?_ _) | (with_reducible refine Below.drew ?_) | (with_reducible refine Below.alloc ?_ ?_ _) | (with_reducible refine Below.setCell ?_ ?_ _) | (with_reducible exact Nat.le_refl _) | omega | (simp only [World.size_alloc, World.size_setCell, World.size_drew, Wov_size, World.heap_drewN]; omega))))).mono ?_); rintro e w' ⟨rfl, qb, rfl⟩))
  clear RL RH G0 G1
  by_cases h1 : e = 170
  · have d1 : (e == 170) = true := by rw [beq_iff_eq]; exact h1
    have hR : R = 170 := by rw [HR.out, if_pos (.inl h1)]
    clear h1 HR
    subst hR
    go_wp2_with (fail)
    go_region
    go_wp2_with (fail)
    go_returns
    exact gives_end rfl (by (repeat' (first | (with_reducible assumption) | (with_reducible exact Below.refl _ _) | (with_reducible refine below_wov ?_ ?_ _) | (with_reducible refine below_drewN ?_ _) | (with_reducible refine Below.drew ?_) | (with_reducible refine Below.alloc ?_ ?_ _) | (with_reducible refine Below.setCell ?_ ?_ _) | (with_reducible exact Nat.le_refl _) | omega | (simp only [World.size_alloc, World.size_setCell, World.size_drew, Wov_size, World.heap_drewN]; omega))))
  · have d1 : (e == 170) = false := by rw [beq_eq_false_iff_ne]; exact h1
    by_cases h2 : f = 170
    · have d2 : (f == 170) = true := by rw [beq_iff_eq]; exact h2
      have hR : R = 170 := by rw [HR.out, if_pos (.inr h2)]
      clear h1 h2 HR
      subst hR
      go_wp2_with (fail)
      go_region
      go_wp2_with (fail)
      go_returns
      exact gives_end rfl (by (repeat' (first | (with_reducible assumption) | (with_reducible exact Below.refl _ _) | (with_reducible refine below_wov ?_ ?_ _) | (with_reducible refine below_drewN ?_ _) | (with_reducible refine Below.drew ?_) | (with_reducible refine Below.alloc ?_ ?_ _) | (with_reducible refine Below.setCell ?_ ?_ _) | (with_reducible exact Nat.le_refl _) | omega | (simp only [World.size_alloc, World.size_setCell, World.size_drew, Wov_size, World.heap_drewN]; omega))))
    · have d2 : (f == 170) = false := by rw [beq_eq_false_iff_ne]; exact h2
      have hR : R = max e f := by rw [HR.out, if_neg (by omega)]
      clear h1 h2 HR
      subst hR
      go_wp2_with (fail)
      go_region
      go_wp2_with (fail)
      go_returns
      exact gives_end rfl (by (repeat' (first | (with_reducible assumption) | (with_reducible exact Below.refl _ _) | (with_reducible refine below_wov ?_ ?_ _) | (with_reducible refine below_drewN ?_ _) | (with_reducible refine Below.drew ?_) | (with_reducible refine Below.alloc ?_ ?_ _) | (with_reducible refine Below.setCell ?_ ?_ _) | (with_reducible exact Nat.le_refl _) | omega | (simp only [World.size_alloc, World.size_setCell, World.size_drew, Wov_size, World.heap_drewN]; omega))))
#print axioms interval_core
set_option maxRecDepth 10000 in
set_option maxHeartbeats 2000000 in
theorem interval_short (S : ByteArray) (h : S.size < 2) : Pure Tryz.prog 68 #[.string S] (.tuple #[.agg #[.int .i64 0, .bool false, .bool false], .agg #[.int .i64 0, .bool false, .bool false], .int .i64 170]) := by
  intro w
  obtain ⟨k, hk⟩ : ∃ k, S.size = k := ⟨_, rfl⟩
  have hw : wrap64 ((k : Int) - 1) = (k : Int) - 1 := wrap64_id (by omega) (by omega)
  have hd : decide ((k : Int) - 1 < 1) = true := decide_eq_true (by omega)
  clear h
  go_enter Tryz.func68, Tryz.ntmps68
  go_wp2_with (fail)
  go_region
  go_wp2_with (fail)
  go_returns
  exact gives_end rfl (by (repeat' (first | (with_reducible assumption) | (with_reducible exact Below.refl _ _) | (with_reducible refine below_wov ?_ ?_ _) | (with_reducible refine below_drewN ?_ _) | (with_reducible refine Below.drew ?_) | (with_reducible refine Below.alloc ?_ ?_ _) | (with_reducible refine Below.setCell ?_ ?_ _) | (with_reducible exact Nat.le_refl _) | omega | (simp only [World.size_alloc, World.size_setCell, World.size_drew, Wov_size, World.heap_drewN]; omega))))
set_option maxRecDepth 10000 in
set_option maxHeartbeats 2000000 in
theorem interval_uncut (S : ByteArray) (k j : Nat) (hn : S.size = k) (hkj : (k : Int) - 1 = (j : Int)) (hj1 : 1 ≤ j) (hN : k ≤ 140737488355328) (M x : ByteArray) (y : ByteArray) (hM : S.extract 1 j = M)
    (CT : Hid (Pure Tryz.prog 112 #[.string M, .string ⟨#[44]⟩] (.tuple #[.string x, .string y, .bool false]))) :
    Pure Tryz.prog 68 #[.string S] (.tuple #[.agg #[.int .i64 0, .bool false, .bool false], .agg #[.int .i64 0, .bool false, .bool false], .int .i64 170]) := by
  intro w
  have k1 : ¬ ((j : Int) < 1) := by omega
  have k2 : (1 : Int) ≤ j := by omega
  have k3 : j < k := by omega
  have k4 : (j : Int) < k := by omega
  have k5 : 0 < k := by omega
  have k6 : j ≤ k := by omega
  go_enter Tryz.func68, Tryz.ntmps68
  go_wp2_with (fail)
  refine (CT.out _).mono ?_; rintro e w' ⟨rfl, p1, rfl⟩
  go_wp2_with (fail)
  go_region
  go_wp2_with (fail)
  go_returns
  exact gives_end rfl (by (repeat' (first | (with_reducible assumption) | (with_reducible exact Below.refl _ _) | (with_reducible refine below_wov ?_ ?_ _) | (with_reducible refine below_drewN ?_ _) | (with_reducible refine Below.drew ?_) | (with_reducible refine Below.alloc ?_ ?_ _) | (with_reducible refine Below.setCell ?_ ?_ _) | (with_reducible exact Nat.le_refl _) | omega | (simp only [World.size_alloc, World.size_setCell, World.size_drew, Wov_size, World.heap_drewN]; omega))))
#print axioms interval_uncut
end Go.Proofs.YtpmpapenjcemjaaGreatDoor
