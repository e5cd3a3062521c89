/- The document's names: contracts of rallentandoref16.MayNames, GreatNames. No condition but on sizes. -/
import Derived.Test.YtccbhblklhmcpaaGreatDoorMRA
import Derived.Test.YtccbhblklhmcpaaGreatDoorRG
namespace Go.Proofs.YtccbhblklhmcpaaGreatDoor
set_option linter.unusedSimpArgs false
set_option linter.unusedVariables false
open Go Go.RowKit
attribute [local go_sem] Nat.add_assoc Nat.add_lt_add_iff_left lit_lt_add

theorem may_odd {N : List (List UInt8)} {i : Nat} {y : List UInt8} (h : N[i]? = some y) (hy : mayName y = false) : mayNames N = false := by
  unfold mayNames
  have : N.all mayName = false := by
    rw [Bool.eq_false_iff]; intro ha
    have := List.all_eq_true.1 ha y (List.mem_of_getElem? h)
    rw [hy] at this; cases this
  rw [this, Bool.and_false, Bool.false_and]
theorem may_twice {N : List (List UInt8)} {i : Nat} {y : List UInt8} (h : N[i]? = some y) (hy : idxI N y ≠ i) : mayNames N = false := by
  unfold mayNames
  have : decide N.Nodup = false := decide_eq_false fun hn => by
    obtain ⟨hi, e⟩ := List.getElem?_eq_some_iff.1 h
    have := idxI_at hn hi
    rw [List.getD_eq_getElem?_getD, h] at this
    exact hy this
  rw [this, Bool.and_false]
theorem may_all {N : List (List UInt8)} (h : ∀ k y, k < N.length → N[k]? = some y → mayName y = true ∧ idxI N y = k) : mayNames N = decide (N.length ≤ 8) := by
  unfold mayNames
  have h1 : N.all mayName = true := by
    rw [List.all_eq_true]
    intro x hx
    obtain ⟨k, hk, rfl⟩ := List.getElem_of_mem hx
    exact (h k _ hk (List.getElem?_eq_getElem hk)).1
  have h2 : decide N.Nodup = true := decide_eq_true (by
    rw [List.Nodup, List.pairwise_iff_getElem]
    intro i j hi hj hij e
    have a := (h i _ hi (List.getElem?_eq_getElem hi)).2
    have b := (h j _ hj (List.getElem?_eq_getElem hj)).2
    rw [e] at a
    omega)
  rw [h1, h2, Bool.and_true, Bool.and_true]
set_option maxRecDepth 10000 in
set_option maxHeartbeats 2000000 in
theorem may16_any (q : Option Addr) (c : Nat) (N : List (List UInt8)) (w : World) (hS : SlS w q N) (hN : N.length ≤ 140737488355328) (hL : ∀ x, x ∈ N → x.length ≤ 140737488355328) :
    Calls Tryz.prog 13 #[.slice q N.length c] w (Gives w (.bool (mayNames N))) := by
  have HS := Lib.hid hS.get
  have AT : Hid (∀ x w', Below w.heap.size w w' → Calls Tryz.prog 29 #[.slice q N.length c, .string (bs x)] w' (Gives w' (.int .i64 (idxI N x)))) := fun x w' hb => at16_any q c N x w' (hS.below hb) hN
  have NM : Hid (∀ x, x ∈ N → Pure Tryz.prog 28 #[.string (bs x)] (.bool (mayName x))) := fun x hx => name15_any x (hL x hx)
  obtain ⟨n, hn⟩ : ∃ n, n = N.length := ⟨_, rfl⟩
  obtain ⟨C, hC⟩ : ∃ C, C = mayNames N := ⟨_, rfl⟩
  rw [← hn] at hN AT ⊢
  rw [← hC]
  have Hn := Lib.hid hn
  have HC := Lib.hid hC
  clear hS hn hC hL
  go_enter Tryz.func13, Tryz.ntmps13
  go_wp2_with (fail)
  go_loopw [3] (fun s5 wr => ∃ i : Nat, s5 = .int .i64 i ∧ i ≤ n ∧ Below w.heap.size w wr ∧ Hid (∀ k y, k < i → N[k]? = some y → mayName y = true ∧ idxI N y = k)) (fun s5 _ => n - (intOf s5).toNat)
  case atStart => exact ⟨0, rfl, Nat.zero_le _, Below.refl _ _, fun k y h => absurd h (Nat.not_lt_zero _)⟩
  case round =>
    obtain ⟨i, rfl, hin, hB, hI⟩ := hrel
    have szr := hB.size
    by_cases hlt : i < n
    · have hil : i < N.length := by rw [← Hn.out]; exact hlt
      obtain ⟨A, o, rfl, hA, hv⟩ := HS.out.resolve_left (fun h => by rw [h] at hil; simp at hil)
      obtain ⟨y, hy⟩ : ∃ y, N[i]? = some y := ⟨_, List.getElem?_eq_getElem hil⟩
      have cy := (hB.cell (p := ⟨A, o + i, none⟩) hA).trans (hv i y hy)
      have hA' : A < wr.heap.size := Nat.lt_of_lt_of_le hA szr
      have j0 : (0 : Int) ≤ (i : Int) := by omega
      have j1 : (i : Int) < (n : Int) := by omega
      have NY := Lib.hid (NM.out y (List.mem_of_getElem? hy))
      have AY := Lib.hid (AT.out y)
      have HY := Lib.hid hy
      clear hv hy
      cases hm : mayName y
      · rw [hm] at NY
        obtain rfl : C = false := by rw [HC.out]; exact may_odd HY.out hm
        clear hm hI HC
        go_wp2_with (fail)
        refine (NY.out _).mono ?_; rintro e w' ⟨rfl, q2, rfl⟩
        go_wp2_with (fail)
        all_goals
          go_ret
          exact gives_end rfl (by (repeat' (first | (with_reducible assumption) | (with_reducible exact Below.refl _ _) | (with_reducible refine below_wov ?_ ?_ _) | (with_reducible refine below_drewN ?_ _) | (with_reducible refine Below.drew ?_) | (with_reducible refine Below.alloc ?_ ?_ _) | (with_reducible refine Below.setCell ?_ ?_ _) | (with_reducible exact Nat.le_refl _) | omega | (simp only [World.size_alloc, World.size_setCell, World.size_drew, Wov_size, World.heap_drewN]; omega))))
      · rw [hm] at NY
        by_cases e : idxI N y = i
        · rw [e] at AY
          have HI : Hid (∀ k y, k < i + 1 → N[k]? = some y → mayName y = true ∧ idxI N y = k) := fun k z hk hz => by
            by_cases ek : k = i
            · rw [ek, HY.out] at hz; rw [← Option.some.inj hz, ek]; exact ⟨hm, e⟩
            · exact hI.out k z (by omega) hz
          clear e hm hI
          go_wp2_with (fail)
          refine (NY.out _).mono ?_; rintro e w' ⟨rfl, q2, rfl⟩
          go_wp2_with (fail)
          refine (AY.out _ (by (repeat' (first | (with_reducible assumption) | (with_reducible exact Below.refl _ _) | (with_reducible refine below_wov ?_ ?_ _) | (with_reducible refine below_drewN ?_ _) | (with_reducible refine Below.drew ?_) | (with_reducible refine Below.alloc ?_ ?_ _) | (with_reducible refine Below.setCell ?_ ?_ _) | (with_reducible exact Nat.le_refl _) | omega | (simp only [World.size_alloc, World.size_setCell, World.size_drew, Wov_size, World.heap_drewN]; omega))))).mono ?_; rintro e w' ⟨rfl, q3, rfl⟩
          go_wp2_with (fail)
          go_roundw
          case rel => exact ⟨i + 1, by go_num, hlt, by (repeat' (first | (with_reducible assumption) | (with_reducible exact Below.refl _ _) | (with_reducible refine below_wov ?_ ?_ _) | (with_reducible refine below_drewN ?_ _) | (with_reducible refine Below.drew ?_) | (with_reducible refine Below.alloc ?_ ?_ _) | (with_reducible refine Below.setCell ?_ ?_ _) | (with_reducible exact Nat.le_refl _) | omega | (simp only [World.size_alloc, World.size_setCell, World.size_drew, Wov_size, World.heap_drewN]; omega))), HI⟩
          case measure => simp [intOf]; omega
        · obtain rfl : C = false := by rw [HC.out]; exact may_twice HY.out e
          obtain ⟨k, hk⟩ : ∃ k, k = idxI N y := ⟨_, rfl⟩
          rw [← hk] at AY e
          have hne : (k != (i : Int)) = true := by rw [bne_iff_ne]; exact e
          clear e hm hI HC hk
          go_wp2_with (fail)
          refine (NY.out _).mono ?_; rintro e w' ⟨rfl, q2, rfl⟩
          go_wp2_with (fail)
          refine (AY.out _ (by (repeat' (first | (with_reducible assumption) | (with_reducible exact Below.refl _ _) | (with_reducible refine below_wov ?_ ?_ _) | (with_reducible refine below_drewN ?_ _) | (with_reducible refine Below.drew ?_) | (with_reducible refine Below.alloc ?_ ?_ _) | (with_reducible refine Below.setCell ?_ ?_ _) | (with_reducible exact Nat.le_refl _) | omega | (simp only [World.size_alloc, World.size_setCell, World.size_drew, Wov_size, World.heap_drewN]; omega))))).mono ?_; rintro e w' ⟨rfl, q3, rfl⟩
          go_wp2_with (fail)
          all_goals
            go_ret
            exact gives_end rfl (by (repeat' (first | (with_reducible assumption) | (with_reducible exact Below.refl _ _) | (with_reducible refine below_wov ?_ ?_ _) | (with_reducible refine below_drewN ?_ _) | (with_reducible refine Below.drew ?_) | (with_reducible refine Below.alloc ?_ ?_ _) | (with_reducible refine Below.setCell ?_ ?_ _) | (with_reducible exact Nat.le_refl _) | omega | (simp only [World.size_alloc, World.size_setCell, World.size_drew, Wov_size, World.heap_drewN]; omega))))
    · obtain rfl : i = n := by omega
      have hC : C = decide ((i : Int) ≤ 8) := by
        rw [HC.out, may_all (fun k y hk hy => hI.out k y (by rw [Hn.out]; exact hk) hy), ← Hn.out, decide_eq_decide]
        omega
      clear hI HC
      subst hC
      go_wp2_with (fail)
      all_goals
        go_ret
        exact gives_end rfl (by (repeat' (first | (with_reducible assumption) | (with_reducible exact Below.refl _ _) | (with_reducible refine below_wov ?_ ?_ _) | (with_reducible refine below_drewN ?_ _) | (with_reducible refine Below.drew ?_) | (with_reducible refine Below.alloc ?_ ?_ _) | (with_reducible refine Below.setCell ?_ ?_ _) | (with_reducible exact Nat.le_refl _) | omega | (simp only [World.size_alloc, World.size_setCell, World.size_drew, Wov_size, World.heap_drewN]; omega))))
#print axioms may16_any
end Go.Proofs.YtccbhblklhmcpaaGreatDoor
