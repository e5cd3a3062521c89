/- A zone's text has the times of its points: plain laws. No condition. A zone's text has the times of its points: contract of law31's keeps. No condition but that the text is a bound's, that the bound may be and is kept. A zone's text has the times of its points: contract of law31's within. No condition but that both ends' texts are kept, and on size. A zone's text has the times of its points: where its three intervals stand; what within answers to each. No condition but that the zone may be and has the point. A zone's text has the times of its points: all three intervals. No condition but that the zone may be and has the point. -/
import Derived.Test.YtpmpapenjcemjaaGreatDoorV4
import Derived.Test.YtpmpapenjcemjaaGreatDoorH6
import Derived.Test.YtpmpapenjcemjaaGreatDoorMV
import Derived.Deep.RegionHeld3
import Derived.Test.YtpmpapenjcemjaaGreatDoorH8
namespace Go.Proofs.YtpmpapenjcemjaaGreatDoor
set_option linter.unusedSimpArgs false
set_option linter.unusedVariables false
open Go Go.RowKit

/-- A point of a zone keeps its six bounds. -/
theorem has_keeps {z : Nat → Int} {a p b q : Int} (h : hasZ z (pt a p b q) = (true, 0)) : okZ z = true ∧ okRat a p = true ∧ okRat b q = true ∧
    keptB a p 0 1 (z 0) = true ∧ keptB 0 1 a p (z 1) = true ∧ keptB b q 0 1 (z 2) = true ∧ keptB 0 1 b q (z 3) = true ∧ keptB b q a p (z 4) = true ∧ keptB a p b q (z 5) = true := by
  obtain ⟨h1, h2, h3⟩ := hasZ_ok h
  have hk := keptAll_iff.1 h3.symm
  have h4 : (okZ z && (okRat a p && okRat b q)) = true := by
    cases hh : (okZ z && (okRat a p && okRat b q))
    · unfold hasZ at h
      rw [show (okZ z && (okRat (pt a p b q 0).1 (pt a p b q 0).2 && okRat (pt a p b q 1).1 (pt a p b q 1).2)) = false from hh] at h
      simp at h
    · rfl
  simp only [Bool.and_eq_true] at h4
  exact ⟨h1, h4.2.1, h4.2.2, hk 1 0 (by omega) (by omega), hk 0 1 (by omega) (by omega), hk 2 0 (by omega) (by omega), hk 0 2 (by omega) (by omega), hk 2 1 (by omega) (by omega), hk 1 2 (by omega) (by omega)⟩
theorem mayB_ok {x : Int} (h : mayB x = true) : okB x = true := by
  rcases mayB_bd h with h' | h'
  · rw [h']; decide
  · unfold okB okN; rw [Bool.or_eq_true]; right; simp; omega
theorem keeps_yes {n1 d1 n2 d2 x : Int} (h1 : okRat n1 d1 = true) (h2 : okRat n2 d2 = true) (hx : mayB x = true) (hk : keptB n1 d1 n2 d2 x = true) : keepsPR n1 d1 n2 d2 x = (true, 0) := by
  unfold keepsPR
  rw [h1, h2, mayB_ok hx, hk]; rfl
theorem valD_app2 : ∀ (a b : List UInt8) (acc : Nat), valD acc (a ++ b) = valD (valD acc a) b
  | [], b, acc => rfl
  | x :: a, b, acc => valD_app2 a b _
theorem valD_ge (l : List UInt8) : ∀ acc : Nat, acc ≤ valD acc l := by
  induction l with
  | nil => intro acc; exact Nat.le_refl _
  | cons c r ih => intro acc; unfold valD; have := ih (acc * 10 + (c.toNat - 48)); omega
theorem valD_take (D : List UInt8) (i : Nat) : valD 0 (D.take i) ≤ valD 0 D := by
  have h := valD_app2 (D.take i) (D.drop i) 0
  rw [List.take_append_drop] at h
  rw [h]; exact valD_ge _ _
theorem says_nums (v d : Nat) (hv : v ≤ 288230376151711744) (h1 : 48 ≤ d) (h2 : d ≤ 57) :
    wrap64 (10 * (v : Int)) = 10 * (v : Int) ∧ wrap64 (10 * (v : Int) + (d : Int)) = 10 * (v : Int) + (d : Int) ∧ wrap64 (10 * (v : Int) + (d : Int) - 48) = ((v * 10 + (d - 48) : Nat) : Int) ∧ wrap64 (d : Int) = (d : Int) :=
  ⟨wrap64_id (by omega) (by omega), wrap64_id (by omega) (by omega), wrap64_id' (by omega) (by omega) (by omega), wrap64_id (by omega) (by omega)⟩
#print axioms has_keeps
end Go.Proofs.YtpmpapenjcemjaaGreatDoor

namespace Go.Proofs.YtpmpapenjcemjaaGreatDoor
set_option linter.unusedSimpArgs false
set_option linter.unusedVariables false
open Go Go.RowKit Go.Shelf
attribute [local go_sem] Nat.add_assoc Nat.add_lt_add_iff_left lit_lt_add

theorem isD_rng {x : UInt8} (h : isD x = true) : 48 ≤ x.toNat ∧ x.toNat ≤ 57 ∧ ((x.toNat : Int) == 45) = false := by
  have h := of_decide_eq_true (show decide (48 ≤ x.toNat ∧ x.toNat ≤ 57) = true from h)
  exact ⟨h.1, h.2, by rw [beq_eq_false_iff_ne]; omega⟩
set_option maxRecDepth 10000 in
set_option maxHeartbeats 2000000 in
theorem keeps31_oo (n1 d1 n2 d2 : Int) (l : List UInt8) (hl : l = [111, 111] ∨ l = [45, 111, 111]) (s : Int) (i : Bool) (w : World) :
    Calls Tryz.prog 44 #[.agg #[.int .i64 n1, .int .i64 d1], .agg #[.int .i64 n2, .int .i64 d2], .string (bs l), .int .i64 s, .bool i] w (Gives w (.bool true)) := by
  rcases hl with rfl | rfl
  · have q1 : (([111, 111] : List UInt8) == [111, 111]) = true := rfl
    go_enter Tryz.func44, Tryz.ntmps44
    go_wp2_with (fail)
    all_goals
      go_ret
      exact gives_bool rfl (by (repeat' (first | (with_reducible assumption) | (with_reducible exact Below.refl _ _) | (with_reducible refine below_wov ?_ ?_ _) | (with_reducible refine below_drewN ?_ _) | (with_reducible refine Below.drew ?_) | (with_reducible refine Below.alloc ?_ ?_ _) | (with_reducible refine Below.setCell ?_ ?_ _) | (with_reducible exact Nat.le_refl _) | omega | (simp only [World.size_alloc, World.size_setCell, World.size_drew, Wov_size, World.heap_drewN]; omega))))
  · have q1 : (([45, 111, 111] : List UInt8) == [111, 111]) = false := by decide
    have q2 : (([45, 111, 111] : List UInt8) == [45, 111, 111]) = true := rfl
    go_enter Tryz.func44, Tryz.ntmps44
    go_wp2_with (fail)
    all_goals
      go_ret
      exact gives_bool rfl (by (repeat' (first | (with_reducible assumption) | (with_reducible exact Below.refl _ _) | (with_reducible refine below_wov ?_ ?_ _) | (with_reducible refine below_drewN ?_ _) | (with_reducible refine Below.drew ?_) | (with_reducible refine Below.alloc ?_ ?_ _) | (with_reducible refine Below.setCell ?_ ?_ _) | (with_reducible exact Nat.le_refl _) | omega | (simp only [World.size_alloc, World.size_setCell, World.size_drew, Wov_size, World.heap_drewN]; omega))))
set_option maxRecDepth 10000 in
set_option maxHeartbeats 4000000 in
theorem keeps31_pos (n1 d1 n2 d2 : Int) (D : List UInt8) (m : Nat) (hm : m = D.length) (hm2 : m ≤ 900000) (hA : D.all isD = true) (hV : valD 0 D ≤ 288230376151711744) (s : Int) (hs : s = 1 ∨ s = -1) (i : Bool) (x0 : Int) (hx0 : x0 = 2 * s * (valD 0 D : Int) + (if i then 1 else 0))
    (hq1 : (D == [111, 111]) = false) (hq2 : (D == [45, 111, 111]) = false) (hk : Pure Tryz.prog 87 #[.agg #[.int .i64 n1, .int .i64 d1], .agg #[.int .i64 n2, .int .i64 d2], .int .i64 x0] (.tuple #[.bool true, .int .i64 0])) (w : World) :
    Calls Tryz.prog 44 #[.agg #[.int .i64 n1, .int .i64 d1], .agg #[.int .i64 n2, .int .i64 d2], .string (bs D), .int .i64 s, .bool i] w (Gives w (.bool true)) := by
  have RK0 := Lib.hid hk
  have HX := Lib.hid hx0
  have HV := Lib.hid hV
  have HA := Lib.hid hA
  have HSG := Lib.hid hs
  have HmD := Lib.hid hm
  have gD := Lib.hid (bs_at D)
  have szD : (bs D).size = m := by rw [bs_size, hm]
  clear hk hx0 hV hA hs hm
  go_enter Tryz.func44, Tryz.ntmps44
  go_wp2_with (fail)
  clear hq1 hq2
  go_loopw [3, 11, 12] (fun s3 s11 s12 wr => ∃ k : Nat, s3 = .int .i64 s ∧ s11 = .int .i64 (valD 0 (D.take k) : Nat) ∧ s12 = .int .i64 k ∧ k ≤ m ∧ wr.cell? ⟨w.heap.size, 0, none⟩ = some (.int .i64 n1) ∧ wr.cell? ⟨w.heap.size, 1, none⟩ = some (.int .i64 d1) ∧ wr.cell? ⟨w.heap.size + 1, 0, none⟩ = some (.int .i64 n2) ∧ wr.cell? ⟨w.heap.size + 1, 1, none⟩ = some (.int .i64 d2) ∧ Below w.heap.size w wr)
    (fun _ _ s12 _ => m - (intOf s12).toNat)
  case atStart => exact ⟨0, rfl, rfl, rfl, Nat.zero_le _, by simp [go_sem], by simp [go_sem], by simp [go_sem], by simp [go_sem], by (repeat' (first | (with_reducible assumption) | (with_reducible exact Below.refl _ _) | (with_reducible refine below_wov ?_ ?_ _) | (with_reducible refine below_drewN ?_ _) | (with_reducible refine Below.drew ?_) | (with_reducible refine Below.alloc ?_ ?_ _) | (with_reducible refine Below.setCell ?_ ?_ _) | (with_reducible exact Nat.le_refl _) | omega | (simp only [World.size_alloc, World.size_setCell, World.size_drew, Wov_size, World.heap_drewN]; omega)))⟩
  case round =>
    obtain ⟨k, rfl, rfl, rfl, hkm, c0, c1, c2, c3, hBl⟩ := hrel
    have hsr := hBl.size
    by_cases hlt : k < m
    · obtain ⟨x, hx⟩ : ∃ x, D[k]? = some x := ⟨_, List.getElem?_eq_getElem (by rw [← HmD.out]; exact hlt)⟩
      have gx := gD.out k x hx
      have i0 : (0 : Int) ≤ (k : Int) := by omega
      have i1 : (k : Int) < (m : Int) := by omega
      have hd := isD_rng (List.all_eq_true.1 HA.out x (List.mem_of_getElem? hx))
      have hv : valD 0 (D.take k) ≤ 288230376151711744 := Nat.le_trans (valD_take D k) HV.out
      have hnx := valD_next hx
      obtain ⟨v, hv0⟩ : ∃ v, v = valD 0 (D.take k) := ⟨_, rfl⟩
      rw [← hv0] at hv hnx ⊢
      obtain ⟨a1, a2, a3, a4⟩ := says_nums v x.toNat hv hd.1 hd.2.1
      have dx := hd.2.2
      have HNX := Lib.hid hnx
      clear hnx hv0 hx hv hd
      go_wp2_with (fail)
      go_roundw
      case rel => exact ⟨k + 1, rfl, by rw [a3, HNX.out], by go_num, hlt, by simp [go_sem, *], by simp [go_sem, *], by simp [go_sem, *], by simp [go_sem, *], by (repeat' (first | (with_reducible assumption) | (with_reducible exact Below.refl _ _) | (with_reducible refine below_wov ?_ ?_ _) | (with_reducible refine below_drewN ?_ _) | (with_reducible refine Below.drew ?_) | (with_reducible refine Below.alloc ?_ ?_ _) | (with_reducible refine Below.setCell ?_ ?_ _) | (with_reducible exact Nat.le_refl _) | omega | (simp only [World.size_alloc, World.size_setCell, World.size_drew, Wov_size, World.heap_drewN]; omega)))⟩
      case measure => simp [intOf]; omega
    · obtain rfl : k = m := by omega
      have ht : D.take k = D := List.take_of_length_le (by rw [HmD.out]; exact Nat.le_refl _)
      rw [ht]
      obtain ⟨V, hV⟩ : ∃ V : Nat, V = valD 0 D := ⟨_, rfl⟩
      rw [← hV] at HV HX ⊢
      obtain ⟨b1, b2, b3⟩ := bnd_nums s (V : Int) HSG.out (by have := HV.out; omega) (by have := HV.out; omega)
      have HB1 := Lib.hid b1
      have HB2 := Lib.hid b2
      have HB3 := Lib.hid b3
      clear ht hV b2 b3
      cases i
      · have RK : Hid (Pure Tryz.prog 87 #[.agg #[.int .i64 n1, .int .i64 d1], .agg #[.int .i64 n2, .int .i64 d2], .int .i64 (wrap64 (2 * s * (V : Int)))] (.tuple #[.bool true, .int .i64 0])) := by
          show Pure _ _ _ _
          rw [HB2.out, show 2 * s * (V : Int) = x0 by rw [HX.out]; simp]
          exact RK0.out
        clear RK0 HX
        go_wp2_with (fail)
        refine (RK.out _).mono ?_; rintro e w' ⟨rfl, q1, rfl⟩
        go_wp2
        all_goals
          go_ret
          exact gives_bool (by simp) (by (repeat' (first | (with_reducible assumption) | (with_reducible exact Below.refl _ _) | (with_reducible refine below_wov ?_ ?_ _) | (with_reducible refine below_drewN ?_ _) | (with_reducible refine Below.drew ?_) | (with_reducible refine Below.alloc ?_ ?_ _) | (with_reducible refine Below.setCell ?_ ?_ _) | (with_reducible exact Nat.le_refl _) | omega | (simp only [World.size_alloc, World.size_setCell, World.size_drew, Wov_size, World.heap_drewN]; omega))))
      · have RK : Hid (Pure Tryz.prog 87 #[.agg #[.int .i64 n1, .int .i64 d1], .agg #[.int .i64 n2, .int .i64 d2], .int .i64 (wrap64 (2 * s * (V : Int) + 1))] (.tuple #[.bool true, .int .i64 0])) := by
          show Pure _ _ _ _
          rw [HB3.out, show 2 * s * (V : Int) + 1 = x0 by rw [HX.out]; simp]
          exact RK0.out
        have b2 := HB2.out
        clear RK0 HX
        go_wp2_with (fail)
        refine (RK.out _).mono ?_; rintro e w' ⟨rfl, q1, rfl⟩
        go_wp2
        all_goals
          go_ret
          exact gives_bool (by simp) (by (repeat' (first | (with_reducible assumption) | (with_reducible exact Below.refl _ _) | (with_reducible refine below_wov ?_ ?_ _) | (with_reducible refine below_drewN ?_ _) | (with_reducible refine Below.drew ?_) | (with_reducible refine Below.alloc ?_ ?_ _) | (with_reducible refine Below.setCell ?_ ?_ _) | (with_reducible exact Nat.le_refl _) | omega | (simp only [World.size_alloc, World.size_setCell, World.size_drew, Wov_size, World.heap_drewN]; omega))))

set_option maxRecDepth 10000 in
set_option maxHeartbeats 4000000 in
theorem keeps31_neg (n1 d1 n2 d2 : Int) (D : List UInt8) (m n : Nat) (hm : m = D.length) (hn : n = m + 1) (hm2 : m ≤ 900000) (hA : D.all isD = true) (hV : valD 0 D ≤ 288230376151711744) (s s' : Int) (hs : s' = 1 ∨ s' = -1) (hss : wrap64 (-s) = s') (i : Bool) (x0 : Int) (hx0 : x0 = 2 * s' * (valD 0 D : Int) + (if i then 1 else 0))
    (hq1 : (45 :: D == [111, 111]) = false) (hq2 : (45 :: D == [45, 111, 111]) = false) (hk : Pure Tryz.prog 87 #[.agg #[.int .i64 n1, .int .i64 d1], .agg #[.int .i64 n2, .int .i64 d2], .int .i64 x0] (.tuple #[.bool true, .int .i64 0])) (w : World) :
    Calls Tryz.prog 44 #[.agg #[.int .i64 n1, .int .i64 d1], .agg #[.int .i64 n2, .int .i64 d2], .string (bs (45 :: D)), .int .i64 s, .bool i] w (Gives w (.bool true)) := by
  have RK0 := Lib.hid hk
  have HX := Lib.hid hx0
  have HV := Lib.hid hV
  have HA := Lib.hid hA
  have HSG := Lib.hid hs
  have HmD := Lib.hid hm
  have Hn := Lib.hid hn
  have gD := Lib.hid (bs_at (45 :: D))
  obtain ⟨L, hL⟩ : ∃ L, L = 45 :: D := ⟨_, rfl⟩
  have szD : (bs (45 :: D)).size = n := by rw [bs_size, hn, hm]; rfl
  rw [← hL] at hq1 hq2 gD szD ⊢
  have HL := Lib.hid hL
  have hn2 : n ≤ 900001 := by omega
  clear hk hx0 hV hA hs hm hn hL
  go_enter Tryz.func44, Tryz.ntmps44
  go_wp2_with (fail)
  clear hq1 hq2
  go_loopw [3, 11, 12] (fun s3 s11 s12 wr => ∃ j : Nat, s12 = .int .i64 j ∧ j ≤ n ∧ ((j = 0 ∧ s3 = .int .i64 s ∧ s11 = .int .i64 0) ∨ ∃ k : Nat, j = k + 1 ∧ s3 = .int .i64 s' ∧ s11 = .int .i64 (valD 0 (D.take k) : Nat)) ∧ wr.cell? ⟨w.heap.size, 0, none⟩ = some (.int .i64 n1) ∧ wr.cell? ⟨w.heap.size, 1, none⟩ = some (.int .i64 d1) ∧ wr.cell? ⟨w.heap.size + 1, 0, none⟩ = some (.int .i64 n2) ∧ wr.cell? ⟨w.heap.size + 1, 1, none⟩ = some (.int .i64 d2) ∧ Below w.heap.size w wr)
    (fun _ _ s12 _ => n - (intOf s12).toNat)
  case atStart => exact ⟨0, rfl, Nat.zero_le _, .inl ⟨rfl, rfl, rfl⟩, by simp [go_sem], by simp [go_sem], by simp [go_sem], by simp [go_sem], by (repeat' (first | (with_reducible assumption) | (with_reducible exact Below.refl _ _) | (with_reducible refine below_wov ?_ ?_ _) | (with_reducible refine below_drewN ?_ _) | (with_reducible refine Below.drew ?_) | (with_reducible refine Below.alloc ?_ ?_ _) | (with_reducible refine Below.setCell ?_ ?_ _) | (with_reducible exact Nat.le_refl _) | omega | (simp only [World.size_alloc, World.size_setCell, World.size_drew, Wov_size, World.heap_drewN]; omega)))⟩
  case round =>
    obtain ⟨j, rfl, hjn, hcase, c0, c1, c2, c3, hBl⟩ := hrel
    have hsr := hBl.size
    rcases hcase with ⟨hj, rfl, rfl⟩ | ⟨k, hj, rfl, rfl⟩
    · have gx := gD.out 0 45 (by rw [HL.out]; rfl)
      have i1 : (0 : Int) < (n : Int) := by have := Hn.out; omega
      have i2 : 0 < n := by have := Hn.out; omega
      subst hj
      go_wp2_with (fail)
      go_roundw
      case rel => exact ⟨1, by go_num, i2, .inr ⟨0, rfl, by rw [hss], rfl⟩, by simp [go_sem, *], by simp [go_sem, *], by simp [go_sem, *], by simp [go_sem, *], by (repeat' (first | (with_reducible assumption) | (with_reducible exact Below.refl _ _) | (with_reducible refine below_wov ?_ ?_ _) | (with_reducible refine below_drewN ?_ _) | (with_reducible refine Below.drew ?_) | (with_reducible refine Below.alloc ?_ ?_ _) | (with_reducible refine Below.setCell ?_ ?_ _) | (with_reducible exact Nat.le_refl _) | omega | (simp only [World.size_alloc, World.size_setCell, World.size_drew, Wov_size, World.heap_drewN]; omega)))⟩
      case measure => simp [intOf]; omega
    · by_cases hlt : j < n
      · obtain ⟨x, hx⟩ : ∃ x, D[k]? = some x := ⟨_, List.getElem?_eq_getElem (by rw [← HmD.out]; have := Hn.out; omega)⟩
        have gx := gD.out j x (by rw [HL.out, hj]; exact hx)
        have i0 : (0 : Int) ≤ (j : Int) := by omega
        have i1 : (j : Int) < (n : Int) := by omega
        have HJ := Lib.hid hj
        clear hj
        have hd := isD_rng (List.all_eq_true.1 HA.out x (List.mem_of_getElem? hx))
        have hv : valD 0 (D.take k) ≤ 288230376151711744 := Nat.le_trans (valD_take D k) HV.out
        have hnx := valD_next hx
        obtain ⟨v, hv0⟩ : ∃ v, v = valD 0 (D.take k) := ⟨_, rfl⟩
        rw [← hv0] at hv hnx ⊢
        obtain ⟨a1, a2, a3, a4⟩ := says_nums v x.toNat hv hd.1 hd.2.1
        have dx := hd.2.2
        have HNX := Lib.hid hnx
        clear hnx hv0 hx hv hd
        go_wp2_with (fail)
        go_roundw
        case rel => exact ⟨j + 1, by go_num, hlt, .inr ⟨k + 1, by rw [HJ.out], rfl, by rw [a3, HNX.out]⟩, by simp [go_sem, *], by simp [go_sem, *], by simp [go_sem, *], by simp [go_sem, *], by (repeat' (first | (with_reducible assumption) | (with_reducible exact Below.refl _ _) | (with_reducible refine below_wov ?_ ?_ _) | (with_reducible refine below_drewN ?_ _) | (with_reducible refine Below.drew ?_) | (with_reducible refine Below.alloc ?_ ?_ _) | (with_reducible refine Below.setCell ?_ ?_ _) | (with_reducible exact Nat.le_refl _) | omega | (simp only [World.size_alloc, World.size_setCell, World.size_drew, Wov_size, World.heap_drewN]; omega)))⟩
        case measure => simp [intOf]; omega
      · obtain rfl : j = n := by omega
        obtain rfl : k = m := by have := Hn.out; omega
        clear hj hlt hjn
        have ht : D.take k = D := List.take_of_length_le (by rw [HmD.out]; exact Nat.le_refl _)
        rw [ht]
        obtain ⟨V, hV⟩ : ∃ V : Nat, V = valD 0 D := ⟨_, rfl⟩
        rw [← hV] at HV HX ⊢
        obtain ⟨b1, b2, b3⟩ := bnd_nums s' (V : Int) HSG.out (by have := HV.out; omega) (by have := HV.out; omega)
        have HB1 := Lib.hid b1
        have HB2 := Lib.hid b2
        have HB3 := Lib.hid b3
        clear ht hV b2 b3
        cases i
        · have RK : Hid (Pure Tryz.prog 87 #[.agg #[.int .i64 n1, .int .i64 d1], .agg #[.int .i64 n2, .int .i64 d2], .int .i64 (wrap64 (2 * s' * (V : Int)))] (.tuple #[.bool true, .int .i64 0])) := by
            show Pure _ _ _ _
            rw [HB2.out, show 2 * s' * (V : Int) = x0 by rw [HX.out]; simp]
            exact RK0.out
          clear RK0 HX
          go_wp2_with (fail)
          refine (RK.out _).mono ?_; rintro e w' ⟨rfl, q1, rfl⟩
          go_wp2
          all_goals
            go_ret
            exact gives_bool (by simp) (by (repeat' (first | (with_reducible assumption) | (with_reducible exact Below.refl _ _) | (with_reducible refine below_wov ?_ ?_ _) | (with_reducible refine below_drewN ?_ _) | (with_reducible refine Below.drew ?_) | (with_reducible refine Below.alloc ?_ ?_ _) | (with_reducible refine Below.setCell ?_ ?_ _) | (with_reducible exact Nat.le_refl _) | omega | (simp only [World.size_alloc, World.size_setCell, World.size_drew, Wov_size, World.heap_drewN]; omega))))
        · have RK : Hid (Pure Tryz.prog 87 #[.agg #[.int .i64 n1, .int .i64 d1], .agg #[.int .i64 n2, .int .i64 d2], .int .i64 (wrap64 (2 * s' * (V : Int) + 1))] (.tuple #[.bool true, .int .i64 0])) := by
            show Pure _ _ _ _
            rw [HB3.out, show 2 * s' * (V : Int) + 1 = x0 by rw [HX.out]; simp]
            exact RK0.out
          have b2 := HB2.out
          clear RK0 HX
          go_wp2_with (fail)
          refine (RK.out _).mono ?_; rintro e w' ⟨rfl, q1, rfl⟩
          go_wp2
          all_goals
            go_ret
            exact gives_bool (by simp) (by (repeat' (first | (with_reducible assumption) | (with_reducible exact Below.refl _ _) | (with_reducible refine below_wov ?_ ?_ _) | (with_reducible refine below_drewN ?_ _) | (with_reducible refine Below.drew ?_) | (with_reducible refine Below.alloc ?_ ?_ _) | (with_reducible refine Below.setCell ?_ ?_ _) | (with_reducible exact Nat.le_refl _) | omega | (simp only [World.size_alloc, World.size_setCell, World.size_drew, Wov_size, World.heap_drewN]; omega))))

#print axioms keeps31_neg
/-- The text of a bound's number, with its sign, tells the bound, which is kept. -/
theorem keeps31_any (n1 d1 n2 d2 x : Int) (hx : mayB x = true) (hr1 : okRat n1 d1 = true) (hr2 : okRat n2 d2 = true) (f1 : fits64 n1) (f2 : fits64 n2) (hk : keptB n1 d1 n2 d2 x = true) (l : List UInt8) (hl : l.length ≤ 900000) (s : Int) (hs : s = 1 ∨ s = -1) (i : Bool)
    (h : (x = noneB ∧ (l = [111, 111] ∨ l = [45, 111, 111])) ∨ (canonT l = true ∧ x ≠ noneB ∧ x = 2 * s * valT l + (if i then 1 else 0))) (w : World) :
    Calls Tryz.prog 44 #[.agg #[.int .i64 n1, .int .i64 d1], .agg #[.int .i64 n2, .int .i64 d2], .string (bs l), .int .i64 s, .bool i] w (Gives w (.bool true)) := by
  rcases h with ⟨_, hoo⟩ | ⟨hc, hne, hxv⟩
  · exact keeps31_oo n1 d1 n2 d2 l hoo s i w
  · have hb : -288230376151711744 ≤ x / 2 ∧ x / 2 ≤ 288230376151711744 := (mayB_bd hx).resolve_left hne
    have RK : Pure Tryz.prog 87 #[.agg #[.int .i64 n1, .int .i64 d1], .agg #[.int .i64 n2, .int .i64 d2], .int .i64 x] (.tuple #[.bool true, .int .i64 0]) := by
      have := ratKeeps_any n1 d1 n2 d2 x f1 f2 (mayB_fits hx)
      rw [keeps_yes hr1 hr2 hx hk] at this
      exact this
    have noo := canon_oo hc
    have q1 : (l == [111, 111]) = false := by rw [beq_eq_false_iff_ne]; exact fun e => noo (.inl e)
    have q2 : (l == [45, 111, 111]) = false := by rw [beq_eq_false_iff_ne]; exact fun e => noo (.inr e)
    have hsv : s * valT l = valT l ∨ s * valT l = -(valT l) := by rcases hs with rfl | rfl <;> omega
    have h2 : 2 * s * valT l = 2 * (s * valT l) := by rw [Int.mul_assoc]
    have hi : (if i then 1 else 0 : Int) = 0 ∨ (if i then 1 else 0 : Int) = 1 := by cases i <;> simp
    have hval : -288230376151711744 ≤ valT l ∧ valT l ≤ 288230376151711744 := by
      rw [h2] at hxv
      omega
    by_cases h45 : l.head? = some 45
    · obtain ⟨D, rfl⟩ : ∃ r, l = 45 :: r := by
        cases l with
        | nil => cases h45
        | cons x r => simp only [List.head?_cons, Option.some.injEq] at h45; exact ⟨r, by rw [h45]⟩
      rw [canonT_neg, Bool.and_eq_true] at hc
      rw [valT_neg] at hxv hval
      have hss : wrap64 (-s) = -s := wrap64_id (by omega) (by omega)
      exact keeps31_neg n1 d1 n2 d2 D D.length (D.length + 1) rfl rfl (by simp at hl; omega) (canonD_ne hc.1).2 (by omega) s (-s) (by omega) hss i x (by rw [hxv, Int.mul_neg, Int.mul_neg, Int.neg_mul]) q1 q2 RK w
    · rw [canonT_pos h45] at hc
      rw [valT_pos h45] at hxv hval
      exact keeps31_pos n1 d1 n2 d2 l l.length rfl hl (canonD_ne hc).2 (by omega) s hs i x hxv q1 q2 RK w
#print axioms keeps31_any
end Go.Proofs.YtpmpapenjcemjaaGreatDoor

namespace Go.Proofs.YtpmpapenjcemjaaGreatDoor
set_option linter.unusedSimpArgs false
set_option linter.unusedVariables false
open Go Go.RowKit Go.Shelf
attribute [local go_sem] Nat.add_assoc Nat.add_lt_add_iff_left lit_lt_add

set_option maxRecDepth 10000 in
set_option maxHeartbeats 8000000 in
theorem within0_any (t1 t2 u1 u2 : Int) (X Y : List UInt8) (hX : (44 : UInt8) ∉ X) (hl : X.length + Y.length ≤ 100000) (low high : Bool) (w : World)
    (K1 : Hid (∀ w', Calls Tryz.prog 44 #[.agg #[.int .i64 0, .int .i64 1], .agg #[.int .i64 t1, .int .i64 t2], .string (bs X), .int .i64 (-1), .bool low] w' (Gives w' (.bool true))))
    (K2 : Hid (∀ w', Calls Tryz.prog 44 #[.agg #[.int .i64 t1, .int .i64 t2], .agg #[.int .i64 0, .int .i64 1], .string (bs Y), .int .i64 1, .bool high] w' (Gives w' (.bool true)))) :
    Calls Tryz.prog 22 #[.string (bs (X ++ 44 :: Y)), .bool low, .bool high, .int .i64 0, .agg #[.int .i64 t1, .int .i64 t2, .int .i64 u1, .int .i64 u2]] w (Gives w (.bool true)) := by
  obtain ⟨c, hc⟩ : ∃ c, c = X.length := ⟨_, rfl⟩
  obtain ⟨n, hn⟩ : ∃ n, n = c + 1 + Y.length := ⟨_, rfl⟩
  have szl : (bs (X ++ 44 :: Y)).size = n := by rw [bs_size, hn, hc]; simp; omega
  have gl := Lib.hid (bs_at (X ++ 44 :: Y))
  have e1 : (bs (X ++ 44 :: Y)).extract 0 c = bs X := by rw [bs_ext, hc]; simp
  have e2 : (bs (X ++ 44 :: Y)).extract (c + 1) n = bs Y := by
    have h := bs_end (X ++ 44 :: Y) (c + 1)
    rw [szl] at h
    rw [h, hc]; simp
  have gx0 : ∀ j, j < c → ∃ x, (X ++ 44 :: Y)[j]? = some x ∧ ((x.toNat : Int) != 44) = true := fun j hj => by
    have hj' : j < X.length := by omega
    refine ⟨X[j], by rw [List.getElem?_append_left hj']; exact List.getElem?_eq_getElem hj', ?_⟩
    rw [bne_iff_ne]; intro h
    exact hX (by
      have : X[j] = 44 := UInt8.toNat_inj.1 (by show (X[j]).toNat = 44; omega)
      rw [← this]; exact List.getElem_mem hj')
  have gc0 : (X ++ 44 :: Y)[c]? = some 44 := by rw [hc, List.getElem?_append_right (Nat.le_refl _)]; simp
  have GX := Lib.hid gx0
  have GC := Lib.hid gc0
  have hcn : c < n := by omega
  have hn2 : n ≤ 200000 := by omega
  obtain ⟨S, hS⟩ : ∃ S, S = bs (X ++ 44 :: Y) := ⟨_, rfl⟩
  rw [← hS] at szl gl e1 e2 ⊢
  obtain ⟨SX, hSX⟩ : ∃ S, S = bs X := ⟨_, rfl⟩
  obtain ⟨SY, hSY⟩ : ∃ S, S = bs Y := ⟨_, rfl⟩
  rw [← hSX] at e1 K1
  rw [← hSY] at e2 K2
  clear hS hc hn gx0 gc0 hX hl hSX hSY
  go_enter Tryz.func22, Tryz.ntmps22
  go_wp2_with (fail)
  go_loopw [14] (fun s14 wr => ∃ j : Nat, s14 = .int .i64 j ∧ j ≤ c ∧ wr.cell? ⟨w.heap.size + 3, 0, none⟩ = some (.int .i64 t1) ∧ wr.cell? ⟨w.heap.size + 3, 1, none⟩ = some (.int .i64 t2) ∧ wr.cell? ⟨w.heap.size + 5, 0, none⟩ = some (.int .i64 0) ∧ wr.cell? ⟨w.heap.size + 5, 1, none⟩ = some (.int .i64 1) ∧ w.heap.size + 6 ≤ wr.heap.size ∧ Below w.heap.size w wr)
    (fun s14 _ => c - (intOf s14).toNat)
  case atStart => exact ⟨0, rfl, Nat.zero_le _, by simp [go_sem], by simp [go_sem], by simp [go_sem], by simp [go_sem], by (first | omega | ((simp only [World.size_alloc, World.size_setCell, World.size_drew, Wov_size, World.heap_drewN, Array.size_append]) <;> omega)), by (repeat' (first | (with_reducible assumption) | (with_reducible exact Below.refl _ _) | (with_reducible refine below_wov ?_ ?_ _) | (with_reducible refine below_drewN ?_ _) | (with_reducible refine Below.drew ?_) | (with_reducible refine Below.alloc ?_ ?_ _) | (with_reducible refine Below.setCell ?_ ?_ _) | (with_reducible exact Nat.le_refl _) | omega | (simp only [World.size_alloc, World.size_setCell, World.size_drew, Wov_size, World.heap_drewN]; omega)))⟩
  case round =>
    obtain ⟨j, rfl, hjc, c0, c1, c2, c3, hsz6, hBl⟩ := hrel
    have hsr := hBl.size
    have i0 : (0 : Int) ≤ (j : Int) := by omega
    have i1 : (j : Int) < (n : Int) := by omega
    have i2 : j < n := by omega
    by_cases hlt : j < c
    · obtain ⟨x, hx, dx⟩ := GX.out j hlt
      have gx := gl.out j x hx
      clear hx e1 e2
      go_wp2_with (fail)
      go_roundw
      case rel => exact ⟨j + 1, by go_num, hlt, c0, c1, c2, c3, hsz6, by (repeat' (first | (with_reducible assumption) | (with_reducible exact Below.refl _ _) | (with_reducible refine below_wov ?_ ?_ _) | (with_reducible refine below_drewN ?_ _) | (with_reducible refine Below.drew ?_) | (with_reducible refine Below.alloc ?_ ?_ _) | (with_reducible refine Below.setCell ?_ ?_ _) | (with_reducible exact Nat.le_refl _) | omega | (simp only [World.size_alloc, World.size_setCell, World.size_drew, Wov_size, World.heap_drewN]; omega)))⟩
      case measure => simp [intOf]; omega
    · obtain rfl : j = c := by omega
      have gx := gl.out j 44 GC.out
      have dn : ((j : Int) == (n : Int)) = false := by rw [beq_eq_false_iff_ne]; omega
      have k1 : j ≤ n := by omega
      have k2 : j + 1 ≤ n := by omega
      have k3 : (j : Int) ≤ (n : Int) := by omega
      have k4 : (j : Int) + 1 ≤ (n : Int) := by omega
      have k5 : (0 : Int) ≤ (j : Int) + 1 := by omega
      have k6 : 1 + j ≤ n := by omega
      have k7 : ((j : Int) + 1).toNat = j + 1 := by omega
      have e3 : S.extract (1 + j) n = SY := by rw [Nat.add_comm]; exact e2
      have w1 : IntKind.i64.wrap ((j : Int) + 1) = (j : Int) + 1 := by rw [IntKind.wrap_i64]; omega
      have w2 : wrap64 ((j : Int) + 1) = (j : Int) + 1 := wrap64_id (by omega) (by omega)
      have HBl := Lib.hid hBl
      clear hlt hjc hBl
      go_wp2_with (fail)
      go_region_held3 (fun w' => w'.cell? ⟨w.heap.size + 3, 0, none⟩ = some (.int .i64 t1) ∧ w'.cell? ⟨w.heap.size + 3, 1, none⟩ = some (.int .i64 t2) ∧ w'.cell? ⟨w.heap.size + 5, 0, none⟩ = some (.int .i64 0) ∧ w'.cell? ⟨w.heap.size + 5, 1, none⟩ = some (.int .i64 1))
        ((simp [go_sem, *]))
        (first
        | (go_at_call_of 44 (Value.string SX); (refine (K1.out _).mono ?_); rintro e w' ⟨rfl, qa, rfl⟩)
        | (go_at_call_of 44 (Value.string SY); (refine (K2.out _).mono ?_); rintro e w' ⟨rfl, qb, rfl⟩))
      have hBl := HBl.out
      go_wp2
      all_goals
        go_ret
        exact gives_bool (by simp) (by (repeat' (first | (with_reducible assumption) | (with_reducible exact Below.refl _ _) | (with_reducible refine below_wov ?_ ?_ _) | (with_reducible refine below_drewN ?_ _) | (with_reducible refine Below.drew ?_) | (with_reducible refine Below.alloc ?_ ?_ _) | (with_reducible refine Below.setCell ?_ ?_ _) | (with_reducible exact Nat.le_refl _) | omega | (simp only [World.size_alloc, World.size_setCell, World.size_drew, Wov_size, World.heap_drewN]; omega))))
set_option maxRecDepth 10000 in
set_option maxHeartbeats 8000000 in
theorem within1_any (t1 t2 u1 u2 : Int) (X Y : List UInt8) (hX : (44 : UInt8) ∉ X) (hl : X.length + Y.length ≤ 100000) (low high : Bool) (w : World)
    (K1 : Hid (∀ w', Calls Tryz.prog 44 #[.agg #[.int .i64 0, .int .i64 1], .agg #[.int .i64 u1, .int .i64 u2], .string (bs X), .int .i64 (-1), .bool low] w' (Gives w' (.bool true))))
    (K2 : Hid (∀ w', Calls Tryz.prog 44 #[.agg #[.int .i64 u1, .int .i64 u2], .agg #[.int .i64 0, .int .i64 1], .string (bs Y), .int .i64 1, .bool high] w' (Gives w' (.bool true)))) :
    Calls Tryz.prog 22 #[.string (bs (X ++ 44 :: Y)), .bool low, .bool high, .int .i64 1, .agg #[.int .i64 t1, .int .i64 t2, .int .i64 u1, .int .i64 u2]] w (Gives w (.bool true)) := by
  obtain ⟨c, hc⟩ : ∃ c, c = X.length := ⟨_, rfl⟩
  obtain ⟨n, hn⟩ : ∃ n, n = c + 1 + Y.length := ⟨_, rfl⟩
  have szl : (bs (X ++ 44 :: Y)).size = n := by rw [bs_size, hn, hc]; simp; omega
  have gl := Lib.hid (bs_at (X ++ 44 :: Y))
  have e1 : (bs (X ++ 44 :: Y)).extract 0 c = bs X := by rw [bs_ext, hc]; simp
  have e2 : (bs (X ++ 44 :: Y)).extract (c + 1) n = bs Y := by
    have h := bs_end (X ++ 44 :: Y) (c + 1)
    rw [szl] at h
    rw [h, hc]; simp
  have gx0 : ∀ j, j < c → ∃ x, (X ++ 44 :: Y)[j]? = some x ∧ ((x.toNat : Int) != 44) = true := fun j hj => by
    have hj' : j < X.length := by omega
    refine ⟨X[j], by rw [List.getElem?_append_left hj']; exact List.getElem?_eq_getElem hj', ?_⟩
    rw [bne_iff_ne]; intro h
    exact hX (by
      have : X[j] = 44 := UInt8.toNat_inj.1 (by show (X[j]).toNat = 44; omega)
      rw [← this]; exact List.getElem_mem hj')
  have gc0 : (X ++ 44 :: Y)[c]? = some 44 := by rw [hc, List.getElem?_append_right (Nat.le_refl _)]; simp
  have GX := Lib.hid gx0
  have GC := Lib.hid gc0
  have hcn : c < n := by omega
  have hn2 : n ≤ 200000 := by omega
  obtain ⟨S, hS⟩ : ∃ S, S = bs (X ++ 44 :: Y) := ⟨_, rfl⟩
  rw [← hS] at szl gl e1 e2 ⊢
  obtain ⟨SX, hSX⟩ : ∃ S, S = bs X := ⟨_, rfl⟩
  obtain ⟨SY, hSY⟩ : ∃ S, S = bs Y := ⟨_, rfl⟩
  rw [← hSX] at e1 K1
  rw [← hSY] at e2 K2
  clear hS hc hn gx0 gc0 hX hl hSX hSY
  go_enter Tryz.func22, Tryz.ntmps22
  go_wp2_with (fail)
  go_loopw [14] (fun s14 wr => ∃ j : Nat, s14 = .int .i64 j ∧ j ≤ c ∧ wr.cell? ⟨w.heap.size + 3, 0, none⟩ = some (.int .i64 u1) ∧ wr.cell? ⟨w.heap.size + 3, 1, none⟩ = some (.int .i64 u2) ∧ wr.cell? ⟨w.heap.size + 5, 0, none⟩ = some (.int .i64 0) ∧ wr.cell? ⟨w.heap.size + 5, 1, none⟩ = some (.int .i64 1) ∧ w.heap.size + 6 ≤ wr.heap.size ∧ Below w.heap.size w wr)
    (fun s14 _ => c - (intOf s14).toNat)
  case atStart => exact ⟨0, rfl, Nat.zero_le _, by simp [go_sem], by simp [go_sem], by simp [go_sem], by simp [go_sem], by (first | omega | ((simp only [World.size_alloc, World.size_setCell, World.size_drew, Wov_size, World.heap_drewN, Array.size_append]) <;> omega)), by (repeat' (first | (with_reducible assumption) | (with_reducible exact Below.refl _ _) | (with_reducible refine below_wov ?_ ?_ _) | (with_reducible refine below_drewN ?_ _) | (with_reducible refine Below.drew ?_) | (with_reducible refine Below.alloc ?_ ?_ _) | (with_reducible refine Below.setCell ?_ ?_ _) | (with_reducible exact Nat.le_refl _) | omega | (simp only [World.size_alloc, World.size_setCell, World.size_drew, Wov_size, World.heap_drewN]; omega)))⟩
  case round =>
    obtain ⟨j, rfl, hjc, c0, c1, c2, c3, hsz6, hBl⟩ := hrel
    have hsr := hBl.size
    have i0 : (0 : Int) ≤ (j : Int) := by omega
    have i1 : (j : Int) < (n : Int) := by omega
    have i2 : j < n := by omega
    by_cases hlt : j < c
    · obtain ⟨x, hx, dx⟩ := GX.out j hlt
      have gx := gl.out j x hx
      clear hx e1 e2
      go_wp2_with (fail)
      go_roundw
      case rel => exact ⟨j + 1, by go_num, hlt, c0, c1, c2, c3, hsz6, by (repeat' (first | (with_reducible assumption) | (with_reducible exact Below.refl _ _) | (with_reducible refine below_wov ?_ ?_ _) | (with_reducible refine below_drewN ?_ _) | (with_reducible refine Below.drew ?_) | (with_reducible refine Below.alloc ?_ ?_ _) | (with_reducible refine Below.setCell ?_ ?_ _) | (with_reducible exact Nat.le_refl _) | omega | (simp only [World.size_alloc, World.size_setCell, World.size_drew, Wov_size, World.heap_drewN]; omega)))⟩
      case measure => simp [intOf]; omega
    · obtain rfl : j = c := by omega
      have gx := gl.out j 44 GC.out
      have dn : ((j : Int) == (n : Int)) = false := by rw [beq_eq_false_iff_ne]; omega
      have k1 : j ≤ n := by omega
      have k2 : j + 1 ≤ n := by omega
      have k3 : (j : Int) ≤ (n : Int) := by omega
      have k4 : (j : Int) + 1 ≤ (n : Int) := by omega
      have k5 : (0 : Int) ≤ (j : Int) + 1 := by omega
      have k6 : 1 + j ≤ n := by omega
      have k7 : ((j : Int) + 1).toNat = j + 1 := by omega
      have e3 : S.extract (1 + j) n = SY := by rw [Nat.add_comm]; exact e2
      have w1 : IntKind.i64.wrap ((j : Int) + 1) = (j : Int) + 1 := by rw [IntKind.wrap_i64]; omega
      have w2 : wrap64 ((j : Int) + 1) = (j : Int) + 1 := wrap64_id (by omega) (by omega)
      have HBl := Lib.hid hBl
      clear hlt hjc hBl
      go_wp2_with (fail)
      go_region_held3 (fun w' => w'.cell? ⟨w.heap.size + 3, 0, none⟩ = some (.int .i64 u1) ∧ w'.cell? ⟨w.heap.size + 3, 1, none⟩ = some (.int .i64 u2) ∧ w'.cell? ⟨w.heap.size + 5, 0, none⟩ = some (.int .i64 0) ∧ w'.cell? ⟨w.heap.size + 5, 1, none⟩ = some (.int .i64 1))
        ((simp [go_sem, *]))
        (first
        | (go_at_call_of 44 (Value.string SX); (refine (K1.out _).mono ?_); rintro e w' ⟨rfl, qa, rfl⟩)
        | (go_at_call_of 44 (Value.string SY); (refine (K2.out _).mono ?_); rintro e w' ⟨rfl, qb, rfl⟩))
      have hBl := HBl.out
      go_wp2
      all_goals
        go_ret
        exact gives_bool (by simp) (by (repeat' (first | (with_reducible assumption) | (with_reducible exact Below.refl _ _) | (with_reducible refine below_wov ?_ ?_ _) | (with_reducible refine below_drewN ?_ _) | (with_reducible refine Below.drew ?_) | (with_reducible refine Below.alloc ?_ ?_ _) | (with_reducible refine Below.setCell ?_ ?_ _) | (with_reducible exact Nat.le_refl _) | omega | (simp only [World.size_alloc, World.size_setCell, World.size_drew, Wov_size, World.heap_drewN]; omega))))
set_option maxRecDepth 10000 in
set_option maxHeartbeats 8000000 in
theorem within2_any (t1 t2 u1 u2 : Int) (X Y : List UInt8) (hX : (44 : UInt8) ∉ X) (hl : X.length + Y.length ≤ 100000) (low high : Bool) (w : World)
    (K1 : Hid (∀ w', Calls Tryz.prog 44 #[.agg #[.int .i64 t1, .int .i64 t2], .agg #[.int .i64 u1, .int .i64 u2], .string (bs X), .int .i64 (-1), .bool low] w' (Gives w' (.bool true))))
    (K2 : Hid (∀ w', Calls Tryz.prog 44 #[.agg #[.int .i64 u1, .int .i64 u2], .agg #[.int .i64 t1, .int .i64 t2], .string (bs Y), .int .i64 1, .bool high] w' (Gives w' (.bool true)))) :
    Calls Tryz.prog 22 #[.string (bs (X ++ 44 :: Y)), .bool low, .bool high, .int .i64 2, .agg #[.int .i64 t1, .int .i64 t2, .int .i64 u1, .int .i64 u2]] w (Gives w (.bool true)) := by
  obtain ⟨c, hc⟩ : ∃ c, c = X.length := ⟨_, rfl⟩
  obtain ⟨n, hn⟩ : ∃ n, n = c + 1 + Y.length := ⟨_, rfl⟩
  have szl : (bs (X ++ 44 :: Y)).size = n := by rw [bs_size, hn, hc]; simp; omega
  have gl := Lib.hid (bs_at (X ++ 44 :: Y))
  have e1 : (bs (X ++ 44 :: Y)).extract 0 c = bs X := by rw [bs_ext, hc]; simp
  have e2 : (bs (X ++ 44 :: Y)).extract (c + 1) n = bs Y := by
    have h := bs_end (X ++ 44 :: Y) (c + 1)
    rw [szl] at h
    rw [h, hc]; simp
  have gx0 : ∀ j, j < c → ∃ x, (X ++ 44 :: Y)[j]? = some x ∧ ((x.toNat : Int) != 44) = true := fun j hj => by
    have hj' : j < X.length := by omega
    refine ⟨X[j], by rw [List.getElem?_append_left hj']; exact List.getElem?_eq_getElem hj', ?_⟩
    rw [bne_iff_ne]; intro h
    exact hX (by
      have : X[j] = 44 := UInt8.toNat_inj.1 (by show (X[j]).toNat = 44; omega)
      rw [← this]; exact List.getElem_mem hj')
  have gc0 : (X ++ 44 :: Y)[c]? = some 44 := by rw [hc, List.getElem?_append_right (Nat.le_refl _)]; simp
  have GX := Lib.hid gx0
  have GC := Lib.hid gc0
  have hcn : c < n := by omega
  have hn2 : n ≤ 200000 := by omega
  obtain ⟨S, hS⟩ : ∃ S, S = bs (X ++ 44 :: Y) := ⟨_, rfl⟩
  rw [← hS] at szl gl e1 e2 ⊢
  obtain ⟨SX, hSX⟩ : ∃ S, S = bs X := ⟨_, rfl⟩
  obtain ⟨SY, hSY⟩ : ∃ S, S = bs Y := ⟨_, rfl⟩
  rw [← hSX] at e1 K1
  rw [← hSY] at e2 K2
  clear hS hc hn gx0 gc0 hX hl hSX hSY
  go_enter Tryz.func22, Tryz.ntmps22
  go_wp2_with (fail)
  go_loopw [14] (fun s14 wr => ∃ j : Nat, s14 = .int .i64 j ∧ j ≤ c ∧ wr.cell? ⟨w.heap.size + 3, 0, none⟩ = some (.int .i64 u1) ∧ wr.cell? ⟨w.heap.size + 3, 1, none⟩ = some (.int .i64 u2) ∧ wr.cell? ⟨w.heap.size + 5, 0, none⟩ = some (.int .i64 t1) ∧ wr.cell? ⟨w.heap.size + 5, 1, none⟩ = some (.int .i64 t2) ∧ w.heap.size + 6 ≤ wr.heap.size ∧ Below w.heap.size w wr)
    (fun s14 _ => c - (intOf s14).toNat)
  case atStart => exact ⟨0, rfl, Nat.zero_le _, by simp [go_sem], by simp [go_sem], by simp [go_sem], by simp [go_sem], by (first | omega | ((simp only [World.size_alloc, World.size_setCell, World.size_drew, Wov_size, World.heap_drewN, Array.size_append]) <;> omega)), by (repeat' (first | (with_reducible assumption) | (with_reducible exact Below.refl _ _) | (with_reducible refine below_wov ?_ ?_ _) | (with_reducible refine below_drewN ?_ _) | (with_reducible refine Below.drew ?_) | (with_reducible refine Below.alloc ?_ ?_ _) | (with_reducible refine Below.setCell ?_ ?_ _) | (with_reducible exact Nat.le_refl _) | omega | (simp only [World.size_alloc, World.size_setCell, World.size_drew, Wov_size, World.heap_drewN]; omega)))⟩
  case round =>
    obtain ⟨j, rfl, hjc, c0, c1, c2, c3, hsz6, hBl⟩ := hrel
    have hsr := hBl.size
    have i0 : (0 : Int) ≤ (j : Int) := by omega
    have i1 : (j : Int) < (n : Int) := by omega
    have i2 : j < n := by omega
    by_cases hlt : j < c
    · obtain ⟨x, hx, dx⟩ := GX.out j hlt
      have gx := gl.out j x hx
      clear hx e1 e2
      go_wp2_with (fail)
      go_roundw
      case rel => exact ⟨j + 1, by go_num, hlt, c0, c1, c2, c3, hsz6, by (repeat' (first | (with_reducible assumption) | (with_reducible exact Below.refl _ _) | (with_reducible refine below_wov ?_ ?_ _) | (with_reducible refine below_drewN ?_ _) | (with_reducible refine Below.drew ?_) | (with_reducible refine Below.alloc ?_ ?_ _) | (with_reducible refine Below.setCell ?_ ?_ _) | (with_reducible exact Nat.le_refl _) | omega | (simp only [World.size_alloc, World.size_setCell, World.size_drew, Wov_size, World.heap_drewN]; omega)))⟩
      case measure => simp [intOf]; omega
    · obtain rfl : j = c := by omega
      have gx := gl.out j 44 GC.out
      have dn : ((j : Int) == (n : Int)) = false := by rw [beq_eq_false_iff_ne]; omega
      have k1 : j ≤ n := by omega
      have k2 : j + 1 ≤ n := by omega
      have k3 : (j : Int) ≤ (n : Int) := by omega
      have k4 : (j : Int) + 1 ≤ (n : Int) := by omega
      have k5 : (0 : Int) ≤ (j : Int) + 1 := by omega
      have k6 : 1 + j ≤ n := by omega
      have k7 : ((j : Int) + 1).toNat = j + 1 := by omega
      have e3 : S.extract (1 + j) n = SY := by rw [Nat.add_comm]; exact e2
      have w1 : IntKind.i64.wrap ((j : Int) + 1) = (j : Int) + 1 := by rw [IntKind.wrap_i64]; omega
      have w2 : wrap64 ((j : Int) + 1) = (j : Int) + 1 := wrap64_id (by omega) (by omega)
      have HBl := Lib.hid hBl
      clear hlt hjc hBl
      go_wp2_with (fail)
      go_region_held3 (fun w' => w'.cell? ⟨w.heap.size + 3, 0, none⟩ = some (.int .i64 u1) ∧ w'.cell? ⟨w.heap.size + 3, 1, none⟩ = some (.int .i64 u2) ∧ w'.cell? ⟨w.heap.size + 5, 0, none⟩ = some (.int .i64 t1) ∧ w'.cell? ⟨w.heap.size + 5, 1, none⟩ = some (.int .i64 t2))
        ((simp [go_sem, *]))
        (first
        | (go_at_call_of 44 (Value.string SX); (refine (K1.out _).mono ?_); rintro e w' ⟨rfl, qa, rfl⟩)
        | (go_at_call_of 44 (Value.string SY); (refine (K2.out _).mono ?_); rintro e w' ⟨rfl, qb, rfl⟩))
      have hBl := HBl.out
      go_wp2
      all_goals
        go_ret
        exact gives_bool (by simp) (by (repeat' (first | (with_reducible assumption) | (with_reducible exact Below.refl _ _) | (with_reducible refine below_wov ?_ ?_ _) | (with_reducible refine below_drewN ?_ _) | (with_reducible refine Below.drew ?_) | (with_reducible refine Below.alloc ?_ ?_ _) | (with_reducible refine Below.setCell ?_ ?_ _) | (with_reducible exact Nat.le_refl _) | omega | (simp only [World.size_alloc, World.size_setCell, World.size_drew, Wov_size, World.heap_drewN]; omega))))
#print axioms within2_any
end Go.Proofs.YtpmpapenjcemjaaGreatDoor

namespace Go.Proofs.YtpmpapenjcemjaaGreatDoor
set_option linter.unusedSimpArgs false
set_option linter.unusedVariables false
open Go Go.RowKit

theorem low_says {c : UInt8} {l : List UInt8} {b : Int} (h : loEnd c l = (0, b)) : (b = noneB ∧ (l = [111, 111] ∨ l = [45, 111, 111])) ∨ (canonT l = true ∧ b = 2 * (-1) * valT l + (if decide (c = 91) then 1 else 0)) := by
  unfold loEnd at h
  split at h
  · rename_i h1
    simp only [Prod.mk.injEq, true_and] at h
    exact .inl ⟨h.symm, .inr h1.2⟩
  · split at h
    · rename_i h2
      simp only [Prod.mk.injEq] at h
      refine .inr ⟨h2.2, ?_⟩
      rw [← h.2]
      rcases h2.1 with rfl | rfl <;> simp <;> omega
    · simp at h
theorem high_says {c : UInt8} {l : List UInt8} {b : Int} (h : hiEnd c l = (0, b)) : (b = noneB ∧ (l = [111, 111] ∨ l = [45, 111, 111])) ∨ (canonT l = true ∧ b = 2 * 1 * valT l + (if decide (c = 93) then 1 else 0)) := by
  unfold hiEnd at h
  split at h
  · rename_i h1
    simp only [Prod.mk.injEq, true_and] at h
    exact .inl ⟨h.symm, .inl h1.2⟩
  · split at h
    · rename_i h2
      simp only [Prod.mk.injEq] at h
      refine .inr ⟨h2.2, ?_⟩
      rw [← h.2]
      rcases h2.1 with rfl | rfl <;> simp
    · simp at h
/-- An interval's text: a bracket, two texts with a comma between, a bracket. -/
structure IvS (l : List UInt8) (c d : UInt8) (X Y : List UInt8) : Prop where
  eq : l = c :: (X ++ 44 :: Y) ++ [d]
  cb : c = 40 ∨ c = 91
  db : d = 41 ∨ d = 93
  xf : ∀ x, x ∈ X → x ≠ 41 ∧ x ≠ 93 ∧ x ≠ 44
  yf : ∀ x, x ∈ Y → x ≠ 41 ∧ x ≠ 93
  xl : X.length ≤ 21
  yl : Y.length ≤ 21
theorem iv_shape {lo hi : Int} (h1 : mayB lo = true) (h2 : mayB hi = true) : ∃ c d X Y, IvS (ivT lo hi) c d X Y ∧ loEnd c X = (0, lo) ∧ hiEnd d Y = (0, hi) := by
  obtain ⟨c, X, e1, r1, k1, n1⟩ := low_read h1
  obtain ⟨d, Y, e2, r2, k2, n2⟩ := high_read h2
  have tl : ∀ b, mayB b = true → (lowT b).length ≤ 22 ∧ (highT b).length ≤ 22 := by
    intro b hb
    unfold lowT highT
    by_cases e : b = noneB
    · rw [if_pos e, if_pos e]; decide
    · have b2 : -288230376151711744 ≤ b / 2 ∧ b / 2 ≤ 288230376151711744 := (mayB_bd hb).resolve_left e
      rw [if_neg e, if_neg e]
      have i1 := Lib.itoa_length_le (-(b / 2)) (by omega) (by omega)
      have i2 := Lib.itoa_length_le (b / 2) (by omega) (by omega)
      simp only [List.length_cons, List.length_append, List.length_nil]
      omega
  have x1 := (tl lo h1).1
  have x2 := (tl hi h2).2
  rw [e1] at x1
  rw [e2] at x2
  simp only [List.length_cons, List.length_append, List.length_nil] at x1 x2
  refine ⟨c, d, X, Y, ⟨?_, k1, k2, fun x hx => ⟨(n1 x hx).2.1, (n1 x hx).2.2.2, (n1 x hx).2.2.1⟩, fun x hx => ⟨(n2 x hx).2.1, (n2 x hx).2.2.2⟩, by omega, by omega⟩, r1, r2⟩
  unfold ivT
  rw [e1, e2]
  simp
/-- What stands where, in a text that an interval's text is a part of. -/
structure IvAt (t : List UInt8) (o m : Nat) (c d : UInt8) (M : List UInt8) : Prop where
  first : t[o]? = some c
  last : t[o + m + 1]? = some d
  db : d = 41 ∨ d = 93
  cb : c = 40 ∨ c = 91
  free : ∀ i, i ≤ m → ∃ x, t[o + i]? = some x ∧ x ≠ 93 ∧ x ≠ 41
  mid : (t.drop (o + 1)).take m = M
  len : m = M.length
theorem iv_at {l : List UInt8} {c d : UInt8} {X Y : List UInt8} (h : IvS l c d X Y) (A B : List UInt8) : IvAt (A ++ (l ++ B)) A.length (X ++ 44 :: Y).length c d (X ++ 44 :: Y) := by
  obtain ⟨e, hc, hd, hx, hy, _, _⟩ := h
  subst e
  obtain ⟨M, hM⟩ : ∃ M, M = X ++ 44 :: Y := ⟨_, rfl⟩
  have hf : ∀ x, x ∈ M → x ≠ 93 ∧ x ≠ 41 := by
    intro x hm
    rw [hM] at hm
    rcases List.mem_append.1 hm with hm | hm
    · exact ⟨(hx x hm).2.1, (hx x hm).1⟩
    · rcases List.mem_cons.1 hm with rfl | hm
      · decide
      · exact ⟨(hy x hm).2, (hy x hm).1⟩
  rw [← hM]
  have at_ : ∀ i, (A ++ ((c :: M ++ [d]) ++ B))[A.length + i]? = ((c :: M ++ [d]) ++ B)[i]? := fun i => by
    rw [List.getElem?_append_right (by omega), show A.length + i - A.length = i by omega]
  refine ⟨?_, ?_, hd, hc, fun i hi => ?_, ?_, rfl⟩
  · have := at_ 0
    rw [Nat.add_zero] at this
    rw [this]; rfl
  · rw [Nat.add_assoc, at_, List.getElem?_append_left (by simp), List.getElem?_append_right (by simp)]
    simp
  · cases i with
    | zero =>
      refine ⟨c, by rw [at_]; rfl, ?_⟩
      rcases hc with rfl | rfl <;> decide
    | succ i =>
      have hi' : i < M.length := by omega
      refine ⟨M[i], ?_, hf _ (List.getElem_mem hi')⟩
      rw [at_, List.getElem?_append_left (by simp; omega), List.cons_append, List.getElem?_cons_succ, List.getElem?_append_left hi', List.getElem?_eq_getElem hi']
  · have : (A ++ ((c :: M ++ [d]) ++ B)).drop (A.length + 1) = M ++ ([d] ++ B) := by
      rw [List.drop_append, List.drop_eq_nil_of_le (by omega), show A.length + 1 - A.length = 1 by omega]
      simp
    rw [this]
    simp
#print axioms iv_at
end Go.Proofs.YtpmpapenjcemjaaGreatDoor

namespace Go.Proofs.YtpmpapenjcemjaaGreatDoor
set_option linter.unusedSimpArgs false
set_option linter.unusedVariables false
open Go Go.RowKit

theorem rat_fits {n d : Int} (h : okRat n d = true) : True := trivial
/-- What the walk needs of a zone's text: where each interval stands, and that within says yes. -/
structure Three31 (t : List UInt8) (a p b q : Int) (o m : Nat → Nat) (c d : Nat → UInt8) (M : Nat → List UInt8) : Prop where
  o0 : o 0 = 0
  o3 : o 3 = t.length
  step : ∀ k, k < 3 → o (k + 1) = o k + m k + 2
  at_ : ∀ k, k < 3 → IvAt t (o k) (m k) (c k) (d k) (M k)
  yes : ∀ k, k < 3 → ∀ w, Calls Tryz.prog 22 #[.string (bs (M k)), .bool (decide (c k = 91)), .bool (decide (d k = 93)), .int .i64 k, .agg #[.int .i64 a, .int .i64 p, .int .i64 b, .int .i64 q]] w (Gives w (.bool true))
theorem three31 {z : Nat → Int} {a p b q : Int} (h : hasZ z (pt a p b q) = (true, 0)) (fa : fits64 a) (fb : fits64 b) : ∃ o m c d M, Three31 (oneT z) a p b q o m c d M := by
  obtain ⟨ok, ra, rb, k0, k1, k2, k3, k4, k5⟩ := has_keeps h
  have mb := fun t (ht : t < 6) => okZ_mayB ok (t := t) ht
  obtain ⟨c0, d0, X0, Y0, s0, l0, h0⟩ := iv_shape (mb 1 (by omega)) (mb 0 (by omega))
  obtain ⟨c1, d1, X1, Y1, s1, l1, h1⟩ := iv_shape (mb 3 (by omega)) (mb 2 (by omega))
  obtain ⟨c2, d2, X2, Y2, s2, l2, h2⟩ := iv_shape (mb 5 (by omega)) (mb 4 (by omega))
  have r01 : okRat 0 1 = true := by decide
  have f0 : fits64 0 := by decide
  have KL : ∀ (n1 d1 n2 d2 x : Int) (c : UInt8) (l : List UInt8), mayB x = true → okRat n1 d1 = true → okRat n2 d2 = true → fits64 n1 → fits64 n2 → keptB n1 d1 n2 d2 x = true → l.length ≤ 21 → loEnd c l = (0, x) →
      ∀ w, Calls Tryz.prog 44 #[.agg #[.int .i64 n1, .int .i64 d1], .agg #[.int .i64 n2, .int .i64 d2], .string (bs l), .int .i64 (-1), .bool (decide (c = 91))] w (Gives w (.bool true)) := fun n1 d1 n2 d2 x c l hx g1 g2 g3 g4 hk hl he w =>
    keeps31_any n1 d1 n2 d2 x hx g1 g2 g3 g4 hk l (by omega) (-1) (.inr rfl) _ (by
      rcases low_says he with h | ⟨h, h'⟩
      · exact .inl h
      · by_cases hn : x = noneB
        · exfalso
          rw [hn] at h'
          have hv := numE_zero (l := l) (by
            unfold loEnd at he
            split at he
            · rename_i h1; exact absurd (show canonT l = true from h) (by rw [h1.2]; decide)
            · split at he
              · simp only [Prod.mk.injEq] at he; exact he.1
              · simp at he)
          have := noneB_val
          have hi : (if decide (c = 91) then 1 else 0 : Int) ≤ 1 := by split <;> omega
          omega
        · exact .inr ⟨h, hn, h'⟩) w
  have KH : ∀ (n1 d1 n2 d2 x : Int) (c : UInt8) (l : List UInt8), mayB x = true → okRat n1 d1 = true → okRat n2 d2 = true → fits64 n1 → fits64 n2 → keptB n1 d1 n2 d2 x = true → l.length ≤ 21 → hiEnd c l = (0, x) →
      ∀ w, Calls Tryz.prog 44 #[.agg #[.int .i64 n1, .int .i64 d1], .agg #[.int .i64 n2, .int .i64 d2], .string (bs l), .int .i64 1, .bool (decide (c = 93))] w (Gives w (.bool true)) := fun n1 d1 n2 d2 x c l hx g1 g2 g3 g4 hk hl he w =>
    keeps31_any n1 d1 n2 d2 x hx g1 g2 g3 g4 hk l (by omega) 1 (.inl rfl) _ (by
      rcases high_says he with h | ⟨h, h'⟩
      · exact .inl h
      · by_cases hn : x = noneB
        · exfalso
          rw [hn] at h'
          have hv := numE_zero (l := l) (by
            unfold hiEnd at he
            split at he
            · rename_i h1; exact absurd (show canonT l = true from h) (by rw [h1.2]; decide)
            · split at he
              · simp only [Prod.mk.injEq] at he; exact he.1
              · simp at he)
          have := noneB_val
          have hi : (if decide (c = 93) then 1 else 0 : Int) ≤ 1 := by split <;> omega
          omega
        · exact .inr ⟨h, hn, h'⟩) w
  have cm : ∀ {l c d X Y}, IvS l c d X Y → (44 : UInt8) ∉ X := fun hh hm => (hh.xf _ hm).2.2 rfl
  have W0 := fun w => within0_any a p b q X0 Y0 (cm s0) (by have := s0.xl; have := s0.yl; omega) (decide (c0 = 91)) (decide (d0 = 93)) w (KL 0 1 a p _ c0 X0 (mb 1 (by omega)) r01 ra f0 fa k1 s0.xl l0) (KH a p 0 1 _ d0 Y0 (mb 0 (by omega)) ra r01 fa f0 k0 s0.yl h0)
  have W1 := fun w => within1_any a p b q X1 Y1 (cm s1) (by have := s1.xl; have := s1.yl; omega) (decide (c1 = 91)) (decide (d1 = 93)) w (KL 0 1 b q _ c1 X1 (mb 3 (by omega)) r01 rb f0 fb k3 s1.xl l1) (KH b q 0 1 _ d1 Y1 (mb 2 (by omega)) rb r01 fb f0 k2 s1.yl h1)
  have W2 := fun w => within2_any a p b q X2 Y2 (cm s2) (by have := s2.xl; have := s2.yl; omega) (decide (c2 = 91)) (decide (d2 = 93)) w (KL a p b q _ c2 X2 (mb 5 (by omega)) ra rb fa fb k5 s2.xl l2) (KH b q a p _ d2 Y2 (mb 4 (by omega)) rb ra fb fa k4 s2.yl h2)
  obtain ⟨L0, hL0⟩ : ∃ l, l = ivT (z 1) (z 0) := ⟨_, rfl⟩
  obtain ⟨L1, hL1⟩ : ∃ l, l = ivT (z 3) (z 2) := ⟨_, rfl⟩
  obtain ⟨L2, hL2⟩ : ∃ l, l = ivT (z 5) (z 4) := ⟨_, rfl⟩
  have ht : oneT z = L0 ++ (L1 ++ L2) := by unfold oneT; rw [hL0, hL1, hL2]
  rw [← hL0] at s0
  rw [← hL1] at s1
  rw [← hL2] at s2
  have n0 : L0.length = (X0 ++ 44 :: Y0).length + 2 := by rw [s0.eq]; simp; omega
  have n1 : L1.length = (X1 ++ 44 :: Y1).length + 2 := by rw [s1.eq]; simp; omega
  have n2 : L2.length = (X2 ++ 44 :: Y2).length + 2 := by rw [s2.eq]; simp; omega
  have a0 := iv_at s0 [] (L1 ++ L2)
  have a1 := iv_at s1 L0 L2
  have a2 := iv_at s2 (L0 ++ L1) []
  rw [List.nil_append] at a0
  rw [List.append_nil, List.append_assoc] at a2
  rw [← ht] at a0 a1 a2
  refine ⟨fun k => match k with | 0 => 0 | 1 => L0.length | 2 => (L0 ++ L1).length | _ => (oneT z).length, fun k => match k with | 0 => (X0 ++ 44 :: Y0).length | 1 => (X1 ++ 44 :: Y1).length | _ => (X2 ++ 44 :: Y2).length,
    fun k => match k with | 0 => c0 | 1 => c1 | _ => c2, fun k => match k with | 0 => d0 | 1 => d1 | _ => d2, fun k => match k with | 0 => X0 ++ 44 :: Y0 | 1 => X1 ++ 44 :: Y1 | _ => X2 ++ 44 :: Y2, ⟨rfl, rfl, ?_, ?_, ?_⟩⟩
  · intro k hk
    have : k = 0 ∨ k = 1 ∨ k = 2 := by omega
    rcases this with rfl | rfl | rfl
    · show L0.length = 0 + (X0 ++ 44 :: Y0).length + 2; omega
    · show (L0 ++ L1).length = L0.length + (X1 ++ 44 :: Y1).length + 2; rw [List.length_append]; omega
    · show (oneT z).length = (L0 ++ L1).length + (X2 ++ 44 :: Y2).length + 2; rw [ht, List.length_append, List.length_append, List.length_append]; omega
  · intro k hk
    have : k = 0 ∨ k = 1 ∨ k = 2 := by omega
    rcases this with rfl | rfl | rfl
    · exact a0
    · exact a1
    · exact a2
  · intro k hk
    have : k = 0 ∨ k = 1 ∨ k = 2 := by omega
    rcases this with rfl | rfl | rfl
    · exact W0
    · exact W1
    · exact W2
#print axioms three31
end Go.Proofs.YtpmpapenjcemjaaGreatDoor
