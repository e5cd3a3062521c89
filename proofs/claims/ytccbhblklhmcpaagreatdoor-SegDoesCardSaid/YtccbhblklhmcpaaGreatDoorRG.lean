/- What a list of names weighs; the contract of rallentandoref16.GreatNames. No condition but on sizes. -/
import Derived.Test.YtccbhblklhmcpaaGreatDoorQB
namespace Go.Proofs.YtccbhblklhmcpaaGreatDoor
set_option linter.unusedSimpArgs false
set_option linter.unusedVariables false
open Go Go.RowKit
attribute [local go_sem] Nat.add_assoc Nat.add_lt_add_iff_left lit_lt_add

/-- How great names are. -/
def greatN (N : List (List UInt8)) : Nat := (N.map fun x => x.length + 1).sum
theorem greatN_take {N : List (List UInt8)} {i : Nat} {y : List UInt8} (h : N[i]? = some y) : greatN (N.take (i + 1)) = greatN (N.take i) + 1 + y.length := by
  unfold greatN
  rw [List.take_add_one, h, List.map_append, List.sum_append]
  show _ + (y.length + 1 + 0) = _
  omega
theorem greatN_le (N : List (List UInt8)) (i : Nat) : greatN (N.take i) ≤ greatN N := by
  have : greatN N = greatN (N.take i) + greatN (N.drop i) := by
    unfold greatN
    rw [← List.sum_append, ← List.map_append, List.take_append_drop]
  omega
theorem greatN_mem {N : List (List UInt8)} {x : List UInt8} (h : x ∈ N) : x.length < greatN N := by
  obtain ⟨k, hk, rfl⟩ := List.getElem_of_mem h
  have h1 := greatN_take (List.getElem?_eq_getElem hk)
  have h2 := greatN_le N (k + 1)
  omega
theorem greatN_len : ∀ N : List (List UInt8), N.length ≤ greatN N
  | [] => Nat.le_refl _
  | x :: N => by
    have := greatN_len N
    unfold greatN at this ⊢
    rw [List.map_cons, List.sum_cons, List.length_cons]
    omega
theorem great_wrap (m l : Int) (h0 : 0 ≤ m) (h1 : m < 10000) (h2 : 0 ≤ l) (h3 : l ≤ 140737488355328) : wrap64 (m + 1) = m + 1 ∧ wrap64 (m + 1 + l) = m + 1 + l := ⟨wrap64_id (by omega) (by omega), wrap64_id (by omega) (by omega)⟩
set_option maxRecDepth 10000 in
set_option maxHeartbeats 2000000 in
theorem great16_any (q : Option Addr) (c : Nat) (N : List (List UInt8)) (w : World) (hS : SlS w q N) (hN : N.length ≤ 140737488355328) (hL : ∀ x, x ∈ N → x.length ≤ 140737488355328) :
    Calls Tryz.prog 4 #[.slice q N.length c] w (Gives w (.bool (decide (5000 < greatN N)))) := by
  have HS := Lib.hid hS.get
  have HL := Lib.hid hL
  obtain ⟨n, hn⟩ : ∃ n, n = N.length := ⟨_, rfl⟩
  obtain ⟨C, hC⟩ : ∃ C, C = decide (5000 < greatN N) := ⟨_, rfl⟩
  rw [← hn] at hN ⊢
  rw [← hC]
  have Hn := Lib.hid hn
  have HC := Lib.hid hC
  clear hS hn hC hL
  go_enter Tryz.func4, Tryz.ntmps4
  go_wp2_with (fail)
  go_loopw [3, 4] (fun s3 s4 wr => ∃ (i : Nat) (m : Int), 0 ≤ m ∧ s3 = .int .i64 m ∧ s4 = .int .i64 i ∧ i ≤ n ∧ Below w.heap.size w wr ∧ Hid (m = (greatN (N.take i) : Int))) (fun _ s4 _ => n - (intOf s4).toNat)
  case atStart => exact ⟨0, 0, Int.le_refl _, rfl, rfl, Nat.zero_le _, Below.refl _ _, rfl⟩
  case round =>
    obtain ⟨i, m, m0, rfl, rfl, hin, hB, hI⟩ := hrel
    have szr := hB.size
    by_cases hlt : i < n
    · by_cases hm1 : m < 10000
      · have hil : i < N.length := by rw [← Hn.out]; exact hlt
        obtain ⟨A, o, rfl, hA, hv⟩ := HS.out.resolve_left (fun h => by rw [h] at hil; simp at hil)
        obtain ⟨y, hy⟩ : ∃ y, N[i]? = some y := ⟨_, List.getElem?_eq_getElem hil⟩
        have cy := (hB.cell (p := ⟨A, o + i, none⟩) hA).trans (hv i y hy)
        have j0 : (0 : Int) ≤ (i : Int) := by omega
        have j1 : (i : Int) < (n : Int) := by omega
        have j2 : m < 10000 := hm1
        have hyl := HL.out y (List.mem_of_getElem? hy)
        have hsz := bs_size y
        have HI : Hid (m + 1 + (y.length : Int) = (greatN (N.take (i + 1)) : Int)) := by show _ = _; rw [greatN_take hy, hI.out]; omega
        obtain ⟨l, hl⟩ : ∃ l, l = y.length := ⟨_, rfl⟩
        rw [← hl] at hyl HI hsz
        have l0 : (0 : Int) ≤ (l : Int) := by omega
        obtain ⟨Y, hY⟩ : ∃ Y, Y = bs y := ⟨_, rfl⟩
        rw [← hY] at cy hsz
        obtain ⟨hw1, hw2⟩ := great_wrap m l m0 j2 l0 (Int.ofNat_le.2 hyl)
        clear hv hy hl hY hI hm1 hyl
        go_wp2_with (fail)
        go_roundw
        case rel => exact ⟨i + 1, m + 1 + l, by omega, by rw [hw2], by go_num, hlt, by (repeat' (first | (with_reducible assumption) | (with_reducible exact Below.refl _ _) | (with_reducible refine below_wov ?_ ?_ _) | (with_reducible refine below_drewN ?_ _) | (with_reducible refine Below.drew ?_) | (with_reducible refine Below.alloc ?_ ?_ _) | (with_reducible refine Below.setCell ?_ ?_ _) | (with_reducible exact Nat.le_refl _) | omega | (simp only [World.size_alloc, World.size_setCell, World.size_drew, Wov_size, World.heap_drewN]; omega))), HI⟩
        case measure => simp [intOf]; omega
      · have hc : C = true := by
          rw [HC.out, decide_eq_true_eq]
          have := greatN_le N i
          have := hI.out
          omega
        have j1 : (i : Int) < (n : Int) := by omega
        have j2 : 10000 ≤ m := by omega
        have j3 : 5000 < m := by omega
        clear hI HC hm1
        subst hc
        go_wp2_with (fail)
        all_goals
          go_ret
          exact gives_end (by simp; try omega) (by (repeat' (first | (with_reducible assumption) | (with_reducible exact Below.refl _ _) | (with_reducible refine below_wov ?_ ?_ _) | (with_reducible refine below_drewN ?_ _) | (with_reducible refine Below.drew ?_) | (with_reducible refine Below.alloc ?_ ?_ _) | (with_reducible refine Below.setCell ?_ ?_ _) | (with_reducible exact Nat.le_refl _) | omega | (simp only [World.size_alloc, World.size_setCell, World.size_drew, Wov_size, World.heap_drewN]; omega))))
    · obtain rfl : i = n := by omega
      have hc : C = decide (5000 < m) := by
        have h1 := hI.out
        rw [List.take_of_length_le (by rw [← Hn.out]; exact Nat.le_refl _)] at h1
        rw [HC.out, h1, decide_eq_decide]
        omega
      clear hI HC
      subst hc
      go_wp2_with (fail)
      all_goals
        go_ret
        exact gives_end rfl (by (repeat' (first | (with_reducible assumption) | (with_reducible exact Below.refl _ _) | (with_reducible refine below_wov ?_ ?_ _) | (with_reducible refine below_drewN ?_ _) | (with_reducible refine Below.drew ?_) | (with_reducible refine Below.alloc ?_ ?_ _) | (with_reducible refine Below.setCell ?_ ?_ _) | (with_reducible exact Nat.le_refl _) | omega | (simp only [World.size_alloc, World.size_setCell, World.size_drew, Wov_size, World.heap_drewN]; omega))))
#print axioms great16_any
end Go.Proofs.YtccbhblklhmcpaaGreatDoor
