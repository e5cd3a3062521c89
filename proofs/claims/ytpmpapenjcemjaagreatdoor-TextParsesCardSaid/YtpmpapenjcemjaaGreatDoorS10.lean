/- The document's question whether two lists of zones are the same: contract. No condition but on the count of zones. -/
import Derived.Test.YtpmpapenjcemjaaGreatDoorZ0
import Derived.Test.YtpmpapenjcemjaaGreatDoorH13
namespace Go.Proofs.YtpmpapenjcemjaaGreatDoor
set_option linter.unusedSimpArgs false
set_option linter.unusedVariables false
open Go Go.RowKit Go.Shelf
attribute [local go_sem] Nat.add_assoc Nat.add_lt_add_iff_left lit_lt_add

def eqz (x y : Nat → Int) : Bool := eq6 (x 0) (x 1) (x 2) (x 3) (x 4) (x 5) (y 0) (y 1) (y 2) (y 3) (y 4) (y 5)
/-- Are two lists of zones the same? -/
def sameL (a b : List (Nat → Int)) : Bool := decide (a.length = b.length) && (List.range a.length).all fun i => eqz (nthZ a i) (nthZ b i)
theorem sameL_refl (a : List (Nat → Int)) : sameL a a = true := by
  unfold sameL
  simp only [decide_true, Bool.true_and, List.all_eq_true]
  intro i _
  exact (eq6_iff _ _).2 (fun _ _ => rfl)
theorem sameL_len {a b : List (Nat → Int)} (h : a.length ≠ b.length) : sameL a b = false := by
  unfold sameL; rw [decide_eq_false h]; rfl
theorem sameL_no {a b : List (Nat → Int)} {i : Nat} (hi : i < a.length) (h : eqz (nthZ a i) (nthZ b i) = false) : sameL a b = false := by
  unfold sameL
  rw [Bool.and_eq_false_iff]
  right
  rw [List.all_eq_false]
  exact ⟨i, by simpa using hi, by simp [h]⟩
theorem sameL_yes {a b : List (Nat → Int)} (hl : a.length = b.length) (h : ∀ i, i < a.length → eqz (nthZ a i) (nthZ b i) = true) : sameL a b = true := by
  unfold sameL
  rw [decide_eq_true hl, Bool.true_and, List.all_eq_true]
  intro i hi
  exact h i (by simpa using hi)
set_option maxRecDepth 10000 in
set_option maxHeartbeats 4000000 in
theorem same31_any (p q : Option Addr) (c d : Nat) (a b : List (Nat → Int)) (w : World) (hA : SlZ w p a) (hB : SlZ w q b) (ha : a.length ≤ 1000000) (hb : b.length ≤ 1000000) :
    Calls Tryz.prog 17 #[.slice p a.length c, .slice q b.length d] w (Gives w (.bool (sameL a b))) := by
  by_cases hl : a.length = b.length
  · obtain ⟨n, hn⟩ : ∃ n, n = a.length := ⟨_, rfl⟩
    have hnb : b.length = n := by omega
    have HY : Hid ((∀ i, i < n → eqz (nthZ a i) (nthZ b i) = true) → sameL a b = true) := fun h => sameL_yes hl (fun i hi => h i (by omega))
    have HNO : Hid (∀ i, i < n → eqz (nthZ a i) (nthZ b i) = false → sameL a b = false) := fun i hi h => sameL_no (by omega) h
    have HA : Hid (0 < n → ∃ A o, p = some ⟨A, o, none⟩ ∧ A < w.heap.size ∧ ∀ i j, i < n → j < 6 → w.cell? ⟨A, o + (i * 6 + j), none⟩ = some (.int .i64 (nthZ a i j))) := fun h => by
      rw [hn]; exact hA.resolve_left (fun h' => by rw [h'] at hn; simp at hn; omega)
    have HB : Hid (0 < n → ∃ A o, q = some ⟨A, o, none⟩ ∧ A < w.heap.size ∧ ∀ i j, i < n → j < 6 → w.cell? ⟨A, o + (i * 6 + j), none⟩ = some (.int .i64 (nthZ b i j))) := fun h => by
      rw [← hnb]; exact hB.resolve_left (fun h' => by rw [h'] at hnb; simp at hnb; omega)
    rw [hnb, ← hn]
    obtain ⟨r, hr⟩ : ∃ r, r = sameL a b := ⟨_, rfl⟩
    rw [← hr] at HY HNO ⊢
    have hn1 : n ≤ 1000000 := by omega
    have hne : ((n : Int) != (n : Int)) = false := by simp
    clear hA hB ha hb hl hn hnb hr
    go_enter Tryz.func17, Tryz.ntmps17
    go_wp2
    go_loopw [5] (fun i wr => ∃ t : Nat, t ≤ n ∧ i = .int .i64 t ∧ Below w.heap.size w wr ∧ Hid (∀ i, i < t → eqz (nthZ a i) (nthZ b i) = true))
      (fun i _ => n - (intOf i).toNat)
    case atStart => exact ⟨0, by omega, rfl, Below.refl _ _, fun i hi => by omega⟩
    case round =>
      obtain ⟨t, ht, rfl, hbl, hI⟩ := hrel
      have szr := hbl.size
      by_cases hlt : t < n
      · obtain ⟨A, o, rfl, lA, vA⟩ := HA.out (by omega)
        obtain ⟨B, o2, rfl, lB, vB⟩ := HB.out (by omega)
        have ca := fun j (hj : j < 6) => (hbl.cell (p := ⟨A, o + (t * 6 + j), none⟩) lA).trans (vA t j hlt hj)
        have cb := fun j (hj : j < 6) => (hbl.cell (p := ⟨B, o2 + (t * 6 + j), none⟩) lB).trans (vB t j hlt hj)
        have HNO2 := Lib.hid (HNO.out t hlt)
        obtain ⟨x, hx⟩ : ∃ x, x = nthZ a t := ⟨_, rfl⟩
        obtain ⟨y, hy⟩ : ∃ x, x = nthZ b t := ⟨_, rfl⟩
        rw [← hx] at ca HNO2
        rw [← hy] at cb HNO2
        have a0 := ca 0 (by omega)
        have a1 := ca 1 (by omega)
        have a2 := ca 2 (by omega)
        have a3 := ca 3 (by omega)
        have a4 := ca 4 (by omega)
        have a5 := ca 5 (by omega)
        have b0 := cb 0 (by omega)
        have b1 := cb 1 (by omega)
        have b2 := cb 2 (by omega)
        have b3 := cb 3 (by omega)
        have b4 := cb 4 (by omega)
        have b5 := cb 5 (by omega)
        simp only [Nat.add_zero] at a0 b0
        have HX := Lib.hid hx
        have HYY := Lib.hid hy
        have t0 : (0 : Int) ≤ (t : Int) := by omega
        have t1 : (t : Int) < (n : Int) := by omega
        clear ca cb vA vB HA HB HNO hx hy
        cases he : eqz x y
        · have hF := HNO2.out he
          unfold eqz at he
          have HF := Lib.hid hF
          clear hF HNO2 HY
          go_wp2
          go_region
          go_wp2
          go_ret
          exact gives_bool (by rw [HF.out]) (by (repeat' (first | (with_reducible assumption) | (with_reducible exact Below.refl _ _) | (with_reducible refine below_wov ?_ ?_ _) | (with_reducible refine below_drewN ?_ _) | (with_reducible refine Below.drew ?_) | (with_reducible refine Below.alloc ?_ ?_ _) | (with_reducible refine Below.setCell ?_ ?_ _) | (with_reducible exact Nat.le_refl _) | omega | (simp only [World.size_alloc, World.size_setCell, World.size_drew, Wov_size, World.heap_drewN]; omega))))
        · have hI2 : Hid (∀ i, i < t + 1 → eqz (nthZ a i) (nthZ b i) = true) := fun i hi => by
            by_cases h : i = t
            · subst h; rw [← HX.out, ← HYY.out]; exact he
            · exact hI.out i (by omega)
          unfold eqz at he
          clear HNO2 HY hI
          go_wp2
          go_region
          go_wp2
          go_roundw
          case rel => exact ⟨t + 1, by omega, by go_num, by (repeat' (first | (with_reducible assumption) | (with_reducible exact Below.refl _ _) | (with_reducible refine below_wov ?_ ?_ _) | (with_reducible refine below_drewN ?_ _) | (with_reducible refine Below.drew ?_) | (with_reducible refine Below.alloc ?_ ?_ _) | (with_reducible refine Below.setCell ?_ ?_ _) | (with_reducible exact Nat.le_refl _) | omega | (simp only [World.size_alloc, World.size_setCell, World.size_drew, Wov_size, World.heap_drewN]; omega))), hI2⟩
          case measure => simp [intOf]; omega
      · obtain rfl : t = n := by omega
        have HF := Lib.hid (HY.out hI.out)
        clear HY hI HNO HA HB
        go_wp2
        go_ret
        exact gives_bool (by rw [HF.out]) (by (repeat' (first | (with_reducible assumption) | (with_reducible exact Below.refl _ _) | (with_reducible refine below_wov ?_ ?_ _) | (with_reducible refine below_drewN ?_ _) | (with_reducible refine Below.drew ?_) | (with_reducible refine Below.alloc ?_ ?_ _) | (with_reducible refine Below.setCell ?_ ?_ _) | (with_reducible exact Nat.le_refl _) | omega | (simp only [World.size_alloc, World.size_setCell, World.size_drew, Wov_size, World.heap_drewN]; omega))))
  · rw [sameL_len hl]
    have hne : ((a.length : Int) != (b.length : Int)) = true := by rw [bne_iff_ne]; omega
    clear hA hB
    go_enter Tryz.func17, Tryz.ntmps17
    go_wp2
    go_ret
    exact gives_bool rfl (by (repeat' (first | (with_reducible assumption) | (with_reducible exact Below.refl _ _) | (with_reducible refine below_wov ?_ ?_ _) | (with_reducible refine below_drewN ?_ _) | (with_reducible refine Below.drew ?_) | (with_reducible refine Below.alloc ?_ ?_ _) | (with_reducible refine Below.setCell ?_ ?_ _) | (with_reducible exact Nat.le_refl _) | omega | (simp only [World.size_alloc, World.size_setCell, World.size_drew, Wov_size, World.heap_drewN]; omega))))
end Go.Proofs.YtpmpapenjcemjaaGreatDoor
