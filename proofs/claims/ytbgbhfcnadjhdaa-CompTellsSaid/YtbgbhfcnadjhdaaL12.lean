/- Contracts of the document's composed zones, zones the other way round, and firsts. No condition. -/
import Derived.Test.YtbgbhfcnadjhdaaL7
import Derived.Test.YtbgbhfcnadjhdaaL10
import Derived.Test.YtbgbhfcnadjhdaaK5
import Derived.Deep.Cut
namespace Go.Proofs.Ytbgbhfcnadjhdaa
set_option linter.unusedSimpArgs false
set_option linter.unusedVariables false
open Go Go.RowKit Go.Shelf
attribute [local go_sem] Nat.add_assoc Nat.add_lt_add_iff_left lit_lt_add

set_option maxRecDepth 10000 in
set_option maxHeartbeats 2000000 in
theorem rback_any (z : Nat → Int) (w : World) (hz : FitsZ z) : Calls Try.prog 21 #[zoneV z] w (Gives w (zoneR (backR z).1 (backR z).2)) := by
  have MY : Hid (∀ w, Calls Try.prog 56 #[.agg #[.int .i64 (z 0), .int .i64 (z 1), .int .i64 (z 2), .int .i64 (z 3), .int .i64 (z 4), .int .i64 (z 5)]] w (Gives w (.bool (okZ z)))) := fun w => may8_any z w hz
  unfold backR
  cases ok : okZ z
  · rw [ok] at MY
    simp only [Bool.false_eq_true, if_false]
    clear ok hz
    unfold zoneR zoneV
    go_enter Try.func21, Try.ntmps21
    go_wp2_with (fail)
    refine (MY.out _).mono ?_; rintro e w' ⟨rfl, q1, rfl⟩
    go_wp2
    go_returns
    exact gives_end rfl (by (repeat' (first | (with_reducible assumption) | (with_reducible exact Below.refl _ _) | (with_reducible refine below_wov ?_ ?_ _) | (with_reducible refine below_drewN ?_ _) | (with_reducible refine Below.drew ?_) | (with_reducible refine Below.alloc ?_ ?_ _) | (with_reducible refine Below.setCell ?_ ?_ _) | (with_reducible exact Nat.le_refl _) | omega | (simp only [World.size_alloc, World.size_setCell, World.size_drew, Wov_size, World.heap_drewN]; omega))))
  · rw [ok] at MY
    simp only [if_true]
    clear ok hz
    unfold zoneR zoneV
    show Calls _ _ _ _ (Gives w (.tuple #[.agg #[.int .i64 (z 2), .int .i64 (z 3), .int .i64 (z 0), .int .i64 (z 1), .int .i64 (z 5), .int .i64 (z 4)], .int .i64 0]))
    go_enter Try.func21, Try.ntmps21
    go_wp2_with (fail)
    refine (MY.out _).mono ?_; rintro e w' ⟨rfl, q1, rfl⟩
    go_wp2
    go_returns
    exact gives_end rfl (by (repeat' (first | (with_reducible assumption) | (with_reducible exact Below.refl _ _) | (with_reducible refine below_wov ?_ ?_ _) | (with_reducible refine below_drewN ?_ _) | (with_reducible refine Below.drew ?_) | (with_reducible refine Below.alloc ?_ ?_ _) | (with_reducible refine Below.setCell ?_ ?_ _) | (with_reducible exact Nat.le_refl _) | omega | (simp only [World.size_alloc, World.size_setCell, World.size_drew, Wov_size, World.heap_drewN]; omega))))
/-- A span in a variable of its own, that may be written. -/
structure OwnSp (W : World) (A : Nat) (s : Sp) : Prop where
  lt : A < W.heap.size
  c0 : W.cell? ⟨A, 0, none⟩ = some (.int .i64 s.lo)
  c1 : W.cell? ⟨A, 1, none⟩ = some (.bool s.ls)
  c2 : W.cell? ⟨A, 2, none⟩ = some (.int .i64 s.hi)
  c3 : W.cell? ⟨A, 3, none⟩ = some (.bool s.hs)
  c4 : W.cell? ⟨A, 4, none⟩ = some (.bool s.op)
  n0 : W.frozen? ⟨A, 0, none⟩ = false
  n1 : W.frozen? ⟨A, 1, none⟩ = false
  n2 : W.frozen? ⟨A, 2, none⟩ = false
  n3 : W.frozen? ⟨A, 3, none⟩ = false
  n4 : W.frozen? ⟨A, 4, none⟩ = false
theorem OwnSp.below {W V : World} {A : Nat} {s : Sp} (h : OwnSp W A s) (hb : Below W.heap.size W V) : OwnSp V A s :=
  ⟨Nat.lt_of_lt_of_le h.lt hb.size, (hb.cell (p := ⟨A, 0, none⟩) h.lt).trans h.c0, (hb.cell (p := ⟨A, 1, none⟩) h.lt).trans h.c1, (hb.cell (p := ⟨A, 2, none⟩) h.lt).trans h.c2, (hb.cell (p := ⟨A, 3, none⟩) h.lt).trans h.c3, (hb.cell (p := ⟨A, 4, none⟩) h.lt).trans h.c4,
   (hb.frozen (p := ⟨A, 0, none⟩) h.lt).trans h.n0, (hb.frozen (p := ⟨A, 1, none⟩) h.lt).trans h.n1, (hb.frozen (p := ⟨A, 2, none⟩) h.lt).trans h.n2, (hb.frozen (p := ⟨A, 3, none⟩) h.lt).trans h.n3, (hb.frozen (p := ⟨A, 4, none⟩) h.lt).trans h.n4⟩
set_option maxRecDepth 10000 in
set_option maxHeartbeats 4000000 in
theorem rfirsts_any (z : Nat → Int) (w : World) (hz : FitsZ z) : Calls Try.prog 23 #[zoneV z] w (Gives w (spR (firstsZ z).1 (firstsZ z).2)) := by
  have MY : Hid (∀ w, Calls Try.prog 56 #[.agg #[.int .i64 (z 0), .int .i64 (z 1), .int .i64 (z 2), .int .i64 (z 3), .int .i64 (z 4), .int .i64 (z 5)]] w (Gives w (.bool (okZ z)))) := fun w => may8_any z w hz
  have NU : ∀ t, t < 6 → Pure Try.prog 65 #[.int .i64 (z t)] (.int .i64 (bnum (z t))) := fun t ht w => (refNumber_any (z t) w (hz t ht).1 (hz t ht).2).mono fun e W ⟨he, hW⟩ => ⟨he, ⟨#[], w.drawn⟩, by rw [← hW, Wov_self]⟩
  have ST : ∀ t, Pure Try.prog 66 #[.int .i64 (z t)] (.bool (bstr (z t))) := fun t w => (refStrict_any (z t) w).mono fun e W ⟨he, hW⟩ => ⟨he, ⟨#[], w.drawn⟩, by rw [← hW, Wov_self]⟩
  have N1 : Hid (∀ w, Calls Try.prog 65 #[.int .i64 (z 1)] w (Gives w (.int .i64 (bnum (z 1))))) := NU 1 (by omega)
  have N0 : Hid (∀ w, Calls Try.prog 65 #[.int .i64 (z 0)] w (Gives w (.int .i64 (bnum (z 0))))) := NU 0 (by omega)
  have S1 : Hid (∀ w, Calls Try.prog 66 #[.int .i64 (z 1)] w (Gives w (.bool (bstr (z 1))))) := ST 1
  have S0 : Hid (∀ w, Calls Try.prog 66 #[.int .i64 (z 0)] w (Gives w (.bool (bstr (z 0))))) := ST 0
  unfold firstsZ
  cases ok : okZ z
  · rw [ok] at MY
    simp only [Bool.false_eq_true, if_false]
    clear ok hz NU ST N1 N0 S1 S0
    unfold spR spV zoneV sp0
    go_enter Try.func23, Try.ntmps23
    go_wp2_with (fail)
    refine (MY.out _).mono ?_; rintro e w' ⟨rfl, q1, rfl⟩
    go_wp2
    go_returns
    exact gives_end rfl (by (repeat' (first | (with_reducible assumption) | (with_reducible exact Below.refl _ _) | (with_reducible refine below_wov ?_ ?_ _) | (with_reducible refine below_drewN ?_ _) | (with_reducible refine Below.drew ?_) | (with_reducible refine Below.alloc ?_ ?_ _) | (with_reducible refine Below.setCell ?_ ?_ _) | (with_reducible exact Nat.le_refl _) | omega | (simp only [World.size_alloc, World.size_setCell, World.size_drew, Wov_size, World.heap_drewN]; omega))))
  · rw [ok] at MY
    simp only [if_true]
    by_cases h1 : z 1 = noneB
    · rw [if_pos h1]
      have k1 : (z 1 == 9223372036854775807) = true := by rw [h1]; rfl
      clear ok hz NU ST N1 N0 S1 S0 h1
      unfold spR spV zoneV sp0
      go_enter Try.func23, Try.ntmps23
      go_wp2_with (fail)
      refine (MY.out _).mono ?_; rintro e w' ⟨rfl, q1, rfl⟩
      go_wp2
      go_returns
      exact gives_end rfl (by (repeat' (first | (with_reducible assumption) | (with_reducible exact Below.refl _ _) | (with_reducible refine below_wov ?_ ?_ _) | (with_reducible refine below_drewN ?_ _) | (with_reducible refine Below.drew ?_) | (with_reducible refine Below.alloc ?_ ?_ _) | (with_reducible refine Below.setCell ?_ ?_ _) | (with_reducible exact Nat.le_refl _) | omega | (simp only [World.size_alloc, World.size_setCell, World.size_drew, Wov_size, World.heap_drewN]; omega))))
    · rw [if_neg h1]
      have k1 : (z 1 == 9223372036854775807) = false := by rw [beq_eq_false_iff_ne]; exact h1
      have b1 := (mayB_bd (okZ_may ok (t := 1) (by omega))).resolve_left h1
      obtain ⟨n1, hn1⟩ : ∃ n, n = bnum (z 1) := ⟨_, rfl⟩
      obtain ⟨m1, hm1⟩ : ∃ n, n = -n1 := ⟨_, rfl⟩
      obtain ⟨s1, hs1⟩ : ∃ n, n = bstr (z 1) := ⟨_, rfl⟩
      have hw : IntKind.i64.wrap (0 - n1) = m1 := by rw [IntKind.wrap_i64]; omega
      have hw2 : IntKind.i64.wrap (-n1) = m1 := by rw [IntKind.wrap_i64]; omega
      rw [← hn1] at N1
      rw [← hs1] at S1
      by_cases h0 : z 0 = noneB
      · have e : spF z = ⟨m1, s1, 0, false, true⟩ := by
          unfold spF; rw [if_pos h0, if_pos h0, decide_eq_true h0, ← hn1, ← hs1, ← hm1]
        rw [e]
        have k0 : (z 0 == 9223372036854775807) = true := by rw [h0]; rfl
        clear ok hz h1 b1 hn1 hm1 hs1 h0 e NU ST N0 S0
        unfold spR spV zoneV
        go_enter Try.func23, Try.ntmps23
        go_wp2_with (fail)
        refine (MY.out _).mono ?_; rintro e w' ⟨rfl, q1, rfl⟩
        clear MY
        go_wp2
        refine wp_world (fun W => Below w.heap.size w W ∧ BoxZ W w.heap.size z ∧ OwnSp W (w.heap.size + 1) sp0) ⟨by (repeat' (first | (with_reducible assumption) | (with_reducible exact Below.refl _ _) | (with_reducible refine below_wov ?_ ?_ _) | (with_reducible refine below_drewN ?_ _) | (with_reducible refine Below.drew ?_) | (with_reducible refine Below.alloc ?_ ?_ _) | (with_reducible refine Below.setCell ?_ ?_ _) | (with_reducible exact Nat.le_refl _) | omega | (simp only [World.size_alloc, World.size_setCell, World.size_drew, Wov_size, World.heap_drewN]; omega))), (BoxZ.new (W := w) (t := 24) rfl).below (by (repeat' (first | (with_reducible assumption) | (with_reducible exact Below.refl _ _) | (with_reducible refine below_wov ?_ ?_ _) | (with_reducible refine below_drewN ?_ _) | (with_reducible refine Below.drew ?_) | (with_reducible refine Below.alloc ?_ ?_ _) | (with_reducible refine Below.setCell ?_ ?_ _) | (with_reducible exact Nat.le_refl _) | omega | (simp only [World.size_alloc, World.size_setCell, World.size_drew, Wov_size, World.heap_drewN]; omega)))), ⟨by (first | omega | ((simp only [World.size_alloc, World.size_setCell, World.size_drew, Wov_size, World.heap_drewN, Array.size_append]) <;> omega)), by simp [go_sem, sp0], by simp [go_sem, sp0], by simp [go_sem, sp0], by simp [go_sem, sp0], by simp [go_sem, sp0], by simp [go_sem], by simp [go_sem], by simp [go_sem], by simp [go_sem], by simp [go_sem]⟩⟩ ?_
        rintro W1 ⟨hb1, mZ, mR⟩
        have hs1 := hb1.size
        have z0 := mZ.c0
        have z1 := mZ.c1
        have zl := mZ.lt
        have rl := mR.lt
        have HR := Lib.hid mR
        have HZ := Lib.hid mZ
        clear mZ mR
        go_cut [4] from 35 (fun s V => ∃ A : Nat, s = .pointer (some ⟨A, 0, none⟩) ∧ w.heap.size + 1 < A ∧ Below w.heap.size w V ∧ BoxZ V w.heap.size z ∧ OwnSp V (w.heap.size + 1) sp0 ∧ OwnSp V A ⟨m1, s1, 0, false, false⟩)
        case first =>
          go_region_held3 (fun w' => w'.cell? ⟨w.heap.size, 1, none⟩ = some (.int .i64 (z 1)))
            ((simp [go_sem, *]))
            (first
            | (go_at_call 65; ((with_reducible refine (N1.out _).mono ?_); rintro e w' ⟨rfl, qa, rfl⟩))
            | (go_at_call 66; ((with_reducible refine (S1.out _).mono ?_); rintro e w' ⟨rfl, qb, rfl⟩)))
          all_goals
            go_wp2_with (fail)
            go_meet
            case rel => exact ⟨_, rfl, by omega, by (repeat' (first | (with_reducible assumption) | (with_reducible exact Below.refl _ _) | (with_reducible refine below_wov ?_ ?_ _) | (with_reducible refine below_drewN ?_ _) | (with_reducible refine Below.drew ?_) | (with_reducible refine Below.alloc ?_ ?_ _) | (with_reducible refine Below.setCell ?_ ?_ _) | (with_reducible exact Nat.le_refl _) | omega | (simp only [World.size_alloc, World.size_setCell, World.size_drew, Wov_size, World.heap_drewN]; omega))), HZ.out.below (by (repeat' (first | (with_reducible assumption) | (with_reducible exact Below.refl _ _) | (with_reducible refine below_wov ?_ ?_ _) | (with_reducible refine below_drewN ?_ _) | (with_reducible refine Below.drew ?_) | (with_reducible refine Below.alloc ?_ ?_ _) | (with_reducible refine Below.setCell ?_ ?_ _) | (with_reducible exact Nat.le_refl _) | omega | (simp only [World.size_alloc, World.size_setCell, World.size_drew, Wov_size, World.heap_drewN]; omega)))), HR.out.below (by (repeat' (first | (with_reducible assumption) | (with_reducible exact Below.refl _ _) | (with_reducible refine below_wov ?_ ?_ _) | (with_reducible refine below_drewN ?_ _) | (with_reducible refine Below.drew ?_) | (with_reducible refine Below.alloc ?_ ?_ _) | (with_reducible refine Below.setCell ?_ ?_ _) | (with_reducible exact Nat.le_refl _) | omega | (simp only [World.size_alloc, World.size_setCell, World.size_drew, Wov_size, World.heap_drewN]; omega)))), ⟨by (first | omega | ((simp only [World.size_alloc, World.size_setCell, World.size_drew, Wov_size, World.heap_drewN, Array.size_append]) <;> omega)), by simp [go_sem, hw, hw2], by simp [go_sem], by simp [go_sem], by simp [go_sem], by simp [go_sem], by simp [go_sem], by simp [go_sem], by simp [go_sem], by simp [go_sem], by simp [go_sem]⟩⟩
        case rest =>
          obtain ⟨A, rfl, lA, hbV, mZ, mR, mS⟩ := hcut
          obtain ⟨V, rfl⟩ : ∃ V, V = wc := ⟨_, rfl⟩
          clear N1 S1 HR HZ z0 z1 zl hb1 hs1
          have z0 := mZ.c0
          have zl := mZ.lt
          have sl := mS.lt
          have hsV := hbV.size
          have s0 : V.cell? ⟨A, 0, none⟩ = some (.int .i64 m1) := mS.c0
          have s1' : V.cell? ⟨A, 1, none⟩ = some (.bool s1) := mS.c1
          have s2 : V.cell? ⟨A, 2, none⟩ = some (.int .i64 0) := mS.c2
          have s3 : V.cell? ⟨A, 3, none⟩ = some (.bool false) := mS.c3
          have s4 : V.cell? ⟨A, 4, none⟩ = some (.bool false) := mS.c4
          have f2 := mS.n2
          have f3 := mS.n3
          have f4 := mS.n4
          have r0 : V.cell? ⟨w.heap.size + 1, 0, none⟩ = some (.int .i64 0) := mR.c0
          have r1 : V.cell? ⟨w.heap.size + 1, 1, none⟩ = some (.bool false) := mR.c1
          have r2 : V.cell? ⟨w.heap.size + 1, 2, none⟩ = some (.int .i64 0) := mR.c2
          have r3 : V.cell? ⟨w.heap.size + 1, 3, none⟩ = some (.bool false) := mR.c3
          have r4 : V.cell? ⟨w.heap.size + 1, 4, none⟩ = some (.bool false) := mR.c4
          have n0 := mR.n0
          have n1 := mR.n1
          have n2 := mR.n2
          have n3 := mR.n3
          have n4 := mR.n4
          have rl := mR.lt
          have d1 : ¬ A = w.heap.size + 1 := by omega
          have d2 : ¬ w.heap.size + 1 = A := by omega
          clear mZ mR mS
          go_wp2
          refine bodyPost_ret (by simp [results, Try.results23, go_sem, r0, r1, r2, r3, r4, rl, d1, d2]; try rfl) rfl ?_
          exact gives_end rfl (by (repeat' (first | (with_reducible assumption) | (with_reducible exact Below.refl _ _) | (with_reducible refine below_wov ?_ ?_ _) | (with_reducible refine below_drewN ?_ _) | (with_reducible refine Below.drew ?_) | (with_reducible refine Below.alloc ?_ ?_ _) | (with_reducible refine Below.setCell ?_ ?_ _) | (with_reducible exact Nat.le_refl _) | omega | (simp only [World.size_alloc, World.size_setCell, World.size_drew, Wov_size, World.heap_drewN]; omega))))
      · obtain ⟨n0, hn0⟩ : ∃ n, n = bnum (z 0) := ⟨_, rfl⟩
        obtain ⟨s0, hs0⟩ : ∃ n, n = bstr (z 0) := ⟨_, rfl⟩
        have e : spF z = ⟨m1, s1, n0, s0, false⟩ := by
          unfold spF; rw [if_neg h0, if_neg h0, decide_eq_false h0, ← hn1, ← hs1, ← hm1, ← hn0, ← hs0]
        rw [e]
        rw [← hn0] at N0
        rw [← hs0] at S0
        have k0 : (z 0 == 9223372036854775807) = false := by rw [beq_eq_false_iff_ne]; exact h0
        clear ok hz h1 b1 hn1 hm1 hs1 h0 e hn0 hs0 NU ST
        unfold spR spV zoneV
        go_enter Try.func23, Try.ntmps23
        go_wp2_with (fail)
        refine (MY.out _).mono ?_; rintro e w' ⟨rfl, q1, rfl⟩
        clear MY
        go_wp2
        refine wp_world (fun W => Below w.heap.size w W ∧ BoxZ W w.heap.size z ∧ OwnSp W (w.heap.size + 1) sp0) ⟨by (repeat' (first | (with_reducible assumption) | (with_reducible exact Below.refl _ _) | (with_reducible refine below_wov ?_ ?_ _) | (with_reducible refine below_drewN ?_ _) | (with_reducible refine Below.drew ?_) | (with_reducible refine Below.alloc ?_ ?_ _) | (with_reducible refine Below.setCell ?_ ?_ _) | (with_reducible exact Nat.le_refl _) | omega | (simp only [World.size_alloc, World.size_setCell, World.size_drew, Wov_size, World.heap_drewN]; omega))), (BoxZ.new (W := w) (t := 24) rfl).below (by (repeat' (first | (with_reducible assumption) | (with_reducible exact Below.refl _ _) | (with_reducible refine below_wov ?_ ?_ _) | (with_reducible refine below_drewN ?_ _) | (with_reducible refine Below.drew ?_) | (with_reducible refine Below.alloc ?_ ?_ _) | (with_reducible refine Below.setCell ?_ ?_ _) | (with_reducible exact Nat.le_refl _) | omega | (simp only [World.size_alloc, World.size_setCell, World.size_drew, Wov_size, World.heap_drewN]; omega)))), ⟨by (first | omega | ((simp only [World.size_alloc, World.size_setCell, World.size_drew, Wov_size, World.heap_drewN, Array.size_append]) <;> omega)), by simp [go_sem, sp0], by simp [go_sem, sp0], by simp [go_sem, sp0], by simp [go_sem, sp0], by simp [go_sem, sp0], by simp [go_sem], by simp [go_sem], by simp [go_sem], by simp [go_sem], by simp [go_sem]⟩⟩ ?_
        rintro W1 ⟨hb1, mZ, mR⟩
        have hs1 := hb1.size
        have z0 := mZ.c0
        have z1 := mZ.c1
        have zl := mZ.lt
        have rl := mR.lt
        have HR := Lib.hid mR
        have HZ := Lib.hid mZ
        clear mZ mR
        go_cut [4] from 35 (fun s V => ∃ A : Nat, s = .pointer (some ⟨A, 0, none⟩) ∧ w.heap.size + 1 < A ∧ Below w.heap.size w V ∧ BoxZ V w.heap.size z ∧ OwnSp V (w.heap.size + 1) sp0 ∧ OwnSp V A ⟨m1, s1, 0, false, false⟩)
        case first =>
          go_region_held3 (fun w' => w'.cell? ⟨w.heap.size, 1, none⟩ = some (.int .i64 (z 1)))
            ((simp [go_sem, *]))
            (first
            | (go_at_call 65; ((with_reducible refine (N1.out _).mono ?_); rintro e w' ⟨rfl, qa, rfl⟩))
            | (go_at_call 66; ((with_reducible refine (S1.out _).mono ?_); rintro e w' ⟨rfl, qb, rfl⟩)))
          all_goals
            go_wp2_with (fail)
            go_meet
            case rel => exact ⟨_, rfl, by omega, by (repeat' (first | (with_reducible assumption) | (with_reducible exact Below.refl _ _) | (with_reducible refine below_wov ?_ ?_ _) | (with_reducible refine below_drewN ?_ _) | (with_reducible refine Below.drew ?_) | (with_reducible refine Below.alloc ?_ ?_ _) | (with_reducible refine Below.setCell ?_ ?_ _) | (with_reducible exact Nat.le_refl _) | omega | (simp only [World.size_alloc, World.size_setCell, World.size_drew, Wov_size, World.heap_drewN]; omega))), HZ.out.below (by (repeat' (first | (with_reducible assumption) | (with_reducible exact Below.refl _ _) | (with_reducible refine below_wov ?_ ?_ _) | (with_reducible refine below_drewN ?_ _) | (with_reducible refine Below.drew ?_) | (with_reducible refine Below.alloc ?_ ?_ _) | (with_reducible refine Below.setCell ?_ ?_ _) | (with_reducible exact Nat.le_refl _) | omega | (simp only [World.size_alloc, World.size_setCell, World.size_drew, Wov_size, World.heap_drewN]; omega)))), HR.out.below (by (repeat' (first | (with_reducible assumption) | (with_reducible exact Below.refl _ _) | (with_reducible refine below_wov ?_ ?_ _) | (with_reducible refine below_drewN ?_ _) | (with_reducible refine Below.drew ?_) | (with_reducible refine Below.alloc ?_ ?_ _) | (with_reducible refine Below.setCell ?_ ?_ _) | (with_reducible exact Nat.le_refl _) | omega | (simp only [World.size_alloc, World.size_setCell, World.size_drew, Wov_size, World.heap_drewN]; omega)))), ⟨by (first | omega | ((simp only [World.size_alloc, World.size_setCell, World.size_drew, Wov_size, World.heap_drewN, Array.size_append]) <;> omega)), by simp [go_sem, hw, hw2], by simp [go_sem], by simp [go_sem], by simp [go_sem], by simp [go_sem], by simp [go_sem], by simp [go_sem], by simp [go_sem], by simp [go_sem], by simp [go_sem]⟩⟩
        case rest =>
          obtain ⟨A, rfl, lA, hbV, mZ, mR, mS⟩ := hcut
          obtain ⟨V, rfl⟩ : ∃ V, V = wc := ⟨_, rfl⟩
          clear N1 S1 HR HZ z0 z1 zl hb1 hs1
          have z0 := mZ.c0
          have zl := mZ.lt
          have sl := mS.lt
          have hsV := hbV.size
          have s0 : V.cell? ⟨A, 0, none⟩ = some (.int .i64 m1) := mS.c0
          have s1' : V.cell? ⟨A, 1, none⟩ = some (.bool s1) := mS.c1
          have s2 : V.cell? ⟨A, 2, none⟩ = some (.int .i64 0) := mS.c2
          have s3 : V.cell? ⟨A, 3, none⟩ = some (.bool false) := mS.c3
          have s4 : V.cell? ⟨A, 4, none⟩ = some (.bool false) := mS.c4
          have f2 := mS.n2
          have f3 := mS.n3
          have f4 := mS.n4
          have r0 : V.cell? ⟨w.heap.size + 1, 0, none⟩ = some (.int .i64 0) := mR.c0
          have r1 : V.cell? ⟨w.heap.size + 1, 1, none⟩ = some (.bool false) := mR.c1
          have r2 : V.cell? ⟨w.heap.size + 1, 2, none⟩ = some (.int .i64 0) := mR.c2
          have r3 : V.cell? ⟨w.heap.size + 1, 3, none⟩ = some (.bool false) := mR.c3
          have r4 : V.cell? ⟨w.heap.size + 1, 4, none⟩ = some (.bool false) := mR.c4
          have n0 := mR.n0
          have n1 := mR.n1
          have n2 := mR.n2
          have n3 := mR.n3
          have n4 := mR.n4
          have rl := mR.lt
          have d1 : ¬ A = w.heap.size + 1 := by omega
          have d2 : ¬ w.heap.size + 1 = A := by omega
          clear mZ mR mS
          go_wp2_with (fail)
          refine (N0.out _).mono ?_; rintro e w' ⟨rfl, q2, rfl⟩
          go_wp2_with (fail)
          refine (S0.out _).mono ?_; rintro e w' ⟨rfl, q3, rfl⟩
          go_wp2
          refine bodyPost_ret (by simp [results, Try.results23, go_sem, r0, r1, r2, r3, r4, rl, d1, d2]; try rfl) rfl ?_
          exact gives_end rfl (by (repeat' (first | (with_reducible assumption) | (with_reducible exact Below.refl _ _) | (with_reducible refine below_wov ?_ ?_ _) | (with_reducible refine below_drewN ?_ _) | (with_reducible refine Below.drew ?_) | (with_reducible refine Below.alloc ?_ ?_ _) | (with_reducible refine Below.setCell ?_ ?_ _) | (with_reducible exact Nat.le_refl _) | omega | (simp only [World.size_alloc, World.size_setCell, World.size_drew, Wov_size, World.heap_drewN]; omega))))
set_option maxRecDepth 10000 in
set_option maxHeartbeats 4000000 in
theorem both9_any (a b : Nat → Int) (w : World) : Calls Try.prog 61 #[zoneV a, zoneV b] w (rowPost w 4 16 (jF a b)) := by
  have FA : Hid (∀ w, Calls Try.prog 110 #[.agg #[.int .i64 (a 0), .int .i64 (a 1), .int .i64 (a 2), .int .i64 (a 3), .int .i64 (a 4), .int .i64 (a 5)]] w (rowPost w 3 9 (zF a))) := fun w => full8_any a w
  have FB : Hid (∀ w, Calls Try.prog 110 #[.agg #[.int .i64 (b 0), .int .i64 (b 1), .int .i64 (b 2), .int .i64 (b 3), .int .i64 (b 4), .int .i64 (b 5)]] w (rowPost w 3 9 (zF b))) := fun w => full8_any b w
  unfold rowPost at FA FB
  unfold zoneV
  have fd : ∀ (B c : Nat) (w : World), (Instr.field 59 (.agg #[.int .i64 3, .slice (some ⟨B, 0, none⟩) 9 c]) 1).run Try.prog w = .ok (.slice (some ⟨B, 0, none⟩) 9 c) w := fun _ _ _ => by kernel_rfl
  go_enter Try.func61, Try.ntmps61
  go_wp2_with (fail)
  refine (FA.out _).mono ?_; rintro e w' ⟨B1, c1, rfl, hA1, hB1, hH1, q1, rfl⟩
  have t1 := Lib.hid hH1
  have nA1 : w.heap.size + 2 < B1 := by simp only [World.size_alloc, Wov_size] at hA1; omega
  clear hH1 FA
  go_wp2_with (fail)
  refine (FB.out _).mono ?_; rintro e w' ⟨B2, c2, rfl, hA2, hB2, hH2, q2, rfl⟩
  have t2 := Lib.hid hH2
  have nA2 : w.heap.size + 2 < B2 := by simp only [World.size_alloc, Wov_size] at hA2; omega
  go_wp2
  refine wp_world (fun W => Below w.heap.size w W ∧ ResM W (w.heap.size + 2) ∧ B1 < W.heap.size ∧ B2 < W.heap.size ∧ HoldsI W B1 9 (zF a) ∧ HoldsI W B2 9 (zF b)) ⟨by (repeat' (first | (with_reducible assumption) | (with_reducible exact Below.refl _ _) | (with_reducible refine below_wov ?_ ?_ _) | (with_reducible refine below_drewN ?_ _) | (with_reducible refine Below.drew ?_) | (with_reducible refine Below.alloc ?_ ?_ _) | (with_reducible refine Below.setCell ?_ ?_ _) | (with_reducible exact Nat.le_refl _) | omega | (simp only [World.size_alloc, World.size_setCell, World.size_drew, Wov_size, World.heap_drewN]; omega))), ?b1, ?b2, ?b3, ?b4, ?b5⟩ ?_
  case b1 =>
    have h : ResM (((w.alloc (.cells #[.int .i64 (a 0), .int .i64 (a 1), .int .i64 (a 2), .int .i64 (a 3), .int .i64 (a 4), .int .i64 (a 5)] 24)).alloc (.cells #[.int .i64 (b 0), .int .i64 (b 1), .int .i64 (b 2), .int .i64 (b 3), .int .i64 (b 4), .int .i64 (b 5)] 24)).alloc (.cells #[.int .i64 0, .slice none 0 0] 59)) (w.heap.size + 2) := ⟨by simp, by simp [go_sem], by simp [go_sem], by simp [go_sem], by simp [go_sem]⟩
    exact h.below (by (repeat' (first | (with_reducible assumption) | (with_reducible exact Below.refl _ _) | (with_reducible refine below_wov ?_ ?_ _) | (with_reducible refine below_drewN ?_ _) | (with_reducible refine Below.drew ?_) | (with_reducible refine Below.alloc ?_ ?_ _) | (with_reducible refine Below.setCell ?_ ?_ _) | (with_reducible exact Nat.le_refl _) | omega | (simp only [World.size_alloc, World.size_setCell, World.size_drew, Wov_size, World.heap_drewN]; omega))))
  case b2 => simp only [Wov_size, World.size_alloc, Array.size_append] at hB1 ⊢; omega
  case b3 => simp only [Wov_size, World.size_alloc, Array.size_append] at hB2 ⊢; omega
  case b4 =>
    have h := t1.out.below (below_Wov _ q2) hB1
    simp only [Wov_Wov] at h
    exact h
  case b5 =>
    have h := t2.out
    simp only [Wov_Wov] at h
    exact h
  rintro W ⟨hb, hR, lB1, lB2, hX, hY⟩
  obtain ⟨e0, e1, e2, e3, e4, e5, e6, e7, e8⟩ := zF_vals a
  obtain ⟨g0, g1, g2, g3, g4, g5, g6, g7, g8⟩ := zF_vals b
  have x1 := (hX 1 (by omega)).1
  have x2 := (hX 2 (by omega)).1
  have x3 := (hX 3 (by omega)).1
  have x5 := (hX 5 (by omega)).1
  have x6 := (hX 6 (by omega)).1
  have x7 := (hX 7 (by omega)).1
  have y1 := (hY 1 (by omega)).1
  have y2 := (hY 2 (by omega)).1
  have y3 := (hY 3 (by omega)).1
  have y5 := (hY 5 (by omega)).1
  have y6 := (hY 6 (by omega)).1
  have y7 := (hY 7 (by omega)).1
  rw [e1] at x1
  rw [e2] at x2
  rw [e3] at x3
  rw [e5] at x5
  rw [e6] at x6
  rw [e7] at x7
  rw [g1] at y1
  rw [g2] at y2
  rw [g3] at y3
  rw [g5] at y5
  rw [g6] at y6
  rw [g7] at y7
  have r0 := hR.c0
  have r1 := hR.c1
  have z0 := hR.z0
  have z1 := hR.z1
  have lr := hR.lt
  have hsW := hb.size
  have d1 : ¬ B1 = w.heap.size + 2 := by omega
  have d2 : ¬ w.heap.size + 2 = B1 := by omega
  have d3 : ¬ B2 = w.heap.size + 2 := by omega
  have d4 : ¬ w.heap.size + 2 = B2 := by omega
  clear hA1 hA2
  clear e0 e1 e2 e3 e4 e5 e6 e7 e8 g0 g1 g2 g3 g4 g5 g6 g7 g8 hX hY hR t1 t2 hB1 hB2 fd
  go_region
  go_wp2
  go_region
  go_wp2
  go_region_held3 (fun w' => w'.cell? ⟨B1, 1, none⟩ = some (.int .i64 (a 1)) ∧ w'.cell? ⟨B1, 3, none⟩ = some (.int .i64 (a 0)) ∧ w'.cell? ⟨B1, 5, none⟩ = some (.int .i64 (a 5)) ∧ w'.cell? ⟨B1, 7, none⟩ = some (.int .i64 (a 4)) ∧ w'.cell? ⟨B2, 2, none⟩ = some (.int .i64 (b 3)) ∧ w'.cell? ⟨B2, 5, none⟩ = some (.int .i64 (b 5)) ∧ w'.cell? ⟨B2, 6, none⟩ = some (.int .i64 (b 2)) ∧ w'.cell? ⟨B2, 7, none⟩ = some (.int .i64 (b 4)))
    ((simp [go_sem, *]))
    (fail)
  simp only [Exit.then]
  refine ‹∀ (a : Act) (w_1 : World), Code.wp Try.prog Code.ret (bodyPost Try.prog _ _) a w_1 → _› _ _ ?_
  refine wp_ret ?_
  refine bodyPost_ret (by simp [results, Try.results61, go_sem, r0, r1, lr]; try rfl) rfl ?_
  refine ⟨W.heap.size, 16, rfl, by omega, by (first | omega | ((simp only [World.size_alloc, World.size_setCell, World.size_drew, Wov_size, World.heap_drewN, Array.size_append]) <;> omega)), ?_, Wov_of_below (by (repeat' (first | (with_reducible assumption) | (with_reducible exact Below.refl _ _) | (with_reducible refine below_wov ?_ ?_ _) | (with_reducible refine below_drewN ?_ _) | (with_reducible refine Below.drew ?_) | (with_reducible refine Below.alloc ?_ ?_ _) | (with_reducible refine Below.setCell ?_ ?_ _) | (with_reducible exact Nat.le_refl _) | omega | (simp only [World.size_alloc, World.size_setCell, World.size_drew, Wov_size, World.heap_drewN]; omega))))⟩
  intro x hx
  rcases sixteen hx with rfl | rfl | rfl | rfl | rfl | rfl | rfl | rfl | rfl | rfl | rfl | rfl | rfl | rfl | rfl | rfl
  all_goals (constructor <;> simp [go_sem, jF, noneB])
set_option maxRecDepth 10000 in
set_option maxHeartbeats 4000000 in
theorem rcomp_any (a b : Nat → Int) (w : World) (fa : FitsZ a) (fb : FitsZ b) : Calls Try.prog 19 #[zoneV a, zoneV b] w (Gives w (zoneR (compZ a b).1 (compZ a b).2)) := by
  have MA : Hid (∀ w, Calls Try.prog 56 #[.agg #[.int .i64 (a 0), .int .i64 (a 1), .int .i64 (a 2), .int .i64 (a 3), .int .i64 (a 4), .int .i64 (a 5)]] w (Gives w (.bool (okZ a)))) := fun w => may8_any a w fa
  have MB : Hid (∀ w, Calls Try.prog 56 #[.agg #[.int .i64 (b 0), .int .i64 (b 1), .int .i64 (b 2), .int .i64 (b 3), .int .i64 (b 4), .int .i64 (b 5)]] w (Gives w (.bool (okZ b)))) := fun w => may8_any b w fb
  cases oka : okZ a
  · rw [comp_bad (by rw [oka]; rfl)]
    rw [oka] at MA
    clear oka fa fb MB
    unfold zoneR zoneV
    go_enter Try.func19, Try.ntmps19
    go_wp2_with (fail)
    refine (MA.out _).mono ?_; rintro e w' ⟨rfl, q1, rfl⟩
    go_wp2
    go_returns
    exact gives_end rfl (by (repeat' (first | (with_reducible assumption) | (with_reducible exact Below.refl _ _) | (with_reducible refine below_wov ?_ ?_ _) | (with_reducible refine below_drewN ?_ _) | (with_reducible refine Below.drew ?_) | (with_reducible refine Below.alloc ?_ ?_ _) | (with_reducible refine Below.setCell ?_ ?_ _) | (with_reducible exact Nat.le_refl _) | omega | (simp only [World.size_alloc, World.size_setCell, World.size_drew, Wov_size, World.heap_drewN]; omega))))
  · cases okb : okZ b
    · rw [comp_bad (by rw [oka, okb]; rfl)]
      rw [oka] at MA
      rw [okb] at MB
      clear oka okb fa fb
      unfold zoneR zoneV
      go_enter Try.func19, Try.ntmps19
      go_wp2_with (fail)
      refine (MA.out _).mono ?_; rintro e w' ⟨rfl, q1, rfl⟩
      go_wp2_with (fail)
      refine (MB.out _).mono ?_; rintro e w' ⟨rfl, q2, rfl⟩
      go_wp2
      go_returns
      exact gives_end rfl (by (repeat' (first | (with_reducible assumption) | (with_reducible exact Below.refl _ _) | (with_reducible refine below_wov ?_ ?_ _) | (with_reducible refine below_drewN ?_ _) | (with_reducible refine Below.drew ?_) | (with_reducible refine Below.alloc ?_ ?_ _) | (with_reducible refine Below.setCell ?_ ?_ _) | (with_reducible exact Nat.le_refl _) | omega | (simp only [World.size_alloc, World.size_setCell, World.size_drew, Wov_size, World.heap_drewN]; omega))))
    · rw [oka] at MA
      rw [okb] at MB
      have okj := jF_ok oka okb
      have BO : Hid (∀ w, Calls Try.prog 61 #[.agg #[.int .i64 (a 0), .int .i64 (a 1), .int .i64 (a 2), .int .i64 (a 3), .int .i64 (a 4), .int .i64 (a 5)], .agg #[.int .i64 (b 0), .int .i64 (b 1), .int .i64 (b 2), .int .i64 (b 3), .int .i64 (b 4), .int .i64 (b 5)]] w (rowPost w 4 16 (jF a b))) := fun w => both9_any a b w
      have CL0 : ∀ (p : Option Addr) (cap : Nat) (w : World), SlP w p 16 (jF a b) → Calls Try.prog 60 #[.agg #[.int .i64 4, .slice p 16 cap]] w (matB w (closeM (4 : Nat) (4 * 4) (jF a b)).n (closeM (4 : Nat) (4 * 4) (jF a b)).N (closeM (4 : Nat) (4 * 4) (jF a b)).f (decide ((closeM (4 : Nat) (4 * 4) (jF a b)).e = 0))) := fun p cap w hS => refClosed_any 4 p cap _ w okj hS
      rcases comp_max oka okb with ⟨h1, h2, _⟩ | ⟨c, h1, K, h2, _⟩
      · rw [h1]
        have hc : closeM (4 : Nat) (4 * 4) (jF a b) = errM 6 := by
          rcases closeM_cases okj with ⟨c, hc, _⟩ | ⟨hc, _⟩
          · rw [show closeM 4 16 (jF a b) = ⟨4, 16, c, 0⟩ from hc] at h2; simp at h2
          · exact hc
        rw [hc] at CL0
        have CL : Hid (∀ (p : Option Addr) (cap : Nat) (w : World), SlP w p 16 (jF a b) → Calls Try.prog 60 #[.agg #[.int .i64 4, .slice p 16 cap]] w (matB w 0 0 (fun _ => 0) false)) := CL0
        unfold rowPost at BO
        clear CL0 hc h1 h2 oka okb okj fa fb
        unfold zoneR zoneV
        go_enter Try.func19, Try.ntmps19
        go_wp2_with (fail)
        refine (MA.out _).mono ?_; rintro e w' ⟨rfl, q1, rfl⟩
        go_wp2_with (fail)
        refine (MB.out _).mono ?_; rintro e w' ⟨rfl, q2, rfl⟩
        go_wp2_with (fail)
        refine calls_world (fun W => Below w.heap.size w W ∧ HoldsA W (w.heap.size + 2) 6 (fun _ => 0)) ⟨by (repeat' (first | (with_reducible assumption) | (with_reducible exact Below.refl _ _) | (with_reducible refine below_wov ?_ ?_ _) | (with_reducible refine below_drewN ?_ _) | (with_reducible refine Below.drew ?_) | (with_reducible refine Below.alloc ?_ ?_ _) | (with_reducible refine Below.setCell ?_ ?_ _) | (with_reducible exact Nat.le_refl _) | omega | (simp only [World.size_alloc, World.size_setCell, World.size_drew, Wov_size, World.heap_drewN]; omega))), ?b0⟩ ?_
        case b0 => exact (zero_six (W := World.alloc (World.alloc w (.cells #[.int .i64 (a 0), .int .i64 (a 1), .int .i64 (a 2), .int .i64 (a 3), .int .i64 (a 4), .int .i64 (a 5)] 24)) (.cells #[.int .i64 (b 0), .int .i64 (b 1), .int .i64 (b 2), .int .i64 (b 3), .int .i64 (b 4), .int .i64 (b 5)] 24)) (t := 24) (by simp)).below (by (repeat' (first | (with_reducible assumption) | (with_reducible exact Below.refl _ _) | (with_reducible refine below_wov ?_ ?_ _) | (with_reducible refine below_drewN ?_ _) | (with_reducible refine Below.drew ?_) | (with_reducible refine Below.alloc ?_ ?_ _) | (with_reducible refine Below.setCell ?_ ?_ _) | (with_reducible exact Nat.le_refl _) | omega | (simp only [World.size_alloc, World.size_setCell, World.size_drew, Wov_size, World.heap_drewN]; omega))))
        rintro W0 ⟨hb0, mR0⟩
        have hs0 := hb0.size
        refine (BO.out W0).mono ?_; rintro e w' ⟨B, cp, rfl, hA, hB, hH, q3, rfl⟩
        have t1 := slp_of hH hB
        clear hA hB hH
        go_wp2_with (fail)
        refine (CL.out _ _ _ t1).mono ?_; rintro e w' ⟨⟨p4, c4, rfl, ho⟩, q4, rfl⟩
        have r0 := (mR0.holds 0 (by omega)).1
        have r1 := (mR0.holds 1 (by omega)).1
        have r2 := (mR0.holds 2 (by omega)).1
        have r3 := (mR0.holds 3 (by omega)).1
        have r4 := (mR0.holds 4 (by omega)).1
        have r5 := (mR0.holds 5 (by omega)).1
        have n0 := (mR0.holds 0 (by omega)).2
        have n1 := (mR0.holds 1 (by omega)).2
        have n2 := (mR0.holds 2 (by omega)).2
        have n3 := (mR0.holds 3 (by omega)).2
        have n4 := (mR0.holds 4 (by omega)).2
        have n5 := (mR0.holds 5 (by omega)).2
        have lR := mR0.lt
        clear ho t1 CL BO MA MB mR0
        ((try dsimp only); repeat (first | go_values | go_skip | go_guarded | go_step | go_upon))
        refine bodyPost_ret (by simp [results, Try.results19, go_sem, r0, r1, r2, r3, r4, r5, lR]; try rfl) rfl ?_
        exact gives_end rfl (by (repeat' (first | (with_reducible assumption) | (with_reducible exact Below.refl _ _) | (with_reducible refine below_wov ?_ ?_ _) | (with_reducible refine below_drewN ?_ _) | (with_reducible refine Below.drew ?_) | (with_reducible refine Below.alloc ?_ ?_ _) | (with_reducible refine Below.setCell ?_ ?_ _) | (with_reducible exact Nat.le_refl _) | omega | (simp only [World.size_alloc, World.size_setCell, World.size_drew, Wov_size, World.heap_drewN]; omega))))
      · rw [h2]
        rw [show closeM (4 : Nat) (4 * 4) (jF a b) = ⟨4, 16, c, 0⟩ from h1] at CL0
        have CL : Hid (∀ (p : Option Addr) (cap : Nat) (w : World), SlP w p 16 (jF a b) → Calls Try.prog 60 #[.agg #[.int .i64 4, .slice p 16 cap]] w (matB w 4 16 c true)) := CL0
        have hF : Fits 9 (dropF c) := dropF_fits (closedI_fits K)
        have MY : Hid (∀ (p : Option Addr) (cap : Nat) (w : World), SlP w p 9 (dropF c) → Calls Try.prog 62 #[.agg #[.int .i64 3, .slice p 9 cap]] w (Gives w (.bool (okD 3 9 (dropF c))))) := fun p cap w hS => refMay_any 3 p 9 cap _ w (by decide) hS hF (by omega)
        have SH : Hid (∀ (p : Option Addr) (cap : Nat) (w : World), SlP w p 9 (dropF c) → Calls Try.prog 63 #[.agg #[.int .i64 3, .slice p 9 cap]] w (Gives w (zoneV (shortZ (dropF c))))) := fun p cap w hS => short8_any p cap _ w hS
        unfold rowPost at BO
        unfold toldZ
        obtain ⟨k, hk⟩ : ∃ k, k = okD 3 9 (dropF c) := ⟨_, rfl⟩
        rw [← hk] at MY ⊢
        obtain ⟨s, hs⟩ : ∃ s, s = shortZ (dropF c) := ⟨_, rfl⟩
        rw [← hs] at SH ⊢
        unfold zoneV at SH
        clear CL0 h1 h2 oka okb okj fa fb K hF hk hs
        unfold zoneR zoneV
        obtain ⟨R, hR⟩ : ∃ R, Hid (R = (Value.tuple #[.agg #[.int .i64 ((if k = true then (s, (0 : Int)) else (fun _ => 0, 8)).1 0), .int .i64 ((if k = true then (s, (0 : Int)) else (fun _ => 0, 8)).1 1), .int .i64 ((if k = true then (s, (0 : Int)) else (fun _ => 0, 8)).1 2), .int .i64 ((if k = true then (s, (0 : Int)) else (fun _ => 0, 8)).1 3), .int .i64 ((if k = true then (s, (0 : Int)) else (fun _ => 0, 8)).1 4), .int .i64 ((if k = true then (s, (0 : Int)) else (fun _ => 0, 8)).1 5)], .int .i64 (if k = true then (s, (0 : Int)) else (fun _ => 0, 8)).2])) := ⟨_, rfl⟩
        rw [← hR.out]
        go_enter Try.func19, Try.ntmps19
        go_wp2_with (fail)
        refine (MA.out _).mono ?_; rintro e w' ⟨rfl, q1, rfl⟩
        go_wp2_with (fail)
        refine (MB.out _).mono ?_; rintro e w' ⟨rfl, q2, rfl⟩
        go_wp2_with (fail)
        refine calls_world (fun W => Below w.heap.size w W ∧ HoldsA W (w.heap.size + 2) 6 (fun _ => 0)) ⟨by (repeat' (first | (with_reducible assumption) | (with_reducible exact Below.refl _ _) | (with_reducible refine below_wov ?_ ?_ _) | (with_reducible refine below_drewN ?_ _) | (with_reducible refine Below.drew ?_) | (with_reducible refine Below.alloc ?_ ?_ _) | (with_reducible refine Below.setCell ?_ ?_ _) | (with_reducible exact Nat.le_refl _) | omega | (simp only [World.size_alloc, World.size_setCell, World.size_drew, Wov_size, World.heap_drewN]; omega))), ?b0⟩ ?_
        case b0 => exact (zero_six (W := World.alloc (World.alloc w (.cells #[.int .i64 (a 0), .int .i64 (a 1), .int .i64 (a 2), .int .i64 (a 3), .int .i64 (a 4), .int .i64 (a 5)] 24)) (.cells #[.int .i64 (b 0), .int .i64 (b 1), .int .i64 (b 2), .int .i64 (b 3), .int .i64 (b 4), .int .i64 (b 5)] 24)) (t := 24) (by simp)).below (by (repeat' (first | (with_reducible assumption) | (with_reducible exact Below.refl _ _) | (with_reducible refine below_wov ?_ ?_ _) | (with_reducible refine below_drewN ?_ _) | (with_reducible refine Below.drew ?_) | (with_reducible refine Below.alloc ?_ ?_ _) | (with_reducible refine Below.setCell ?_ ?_ _) | (with_reducible exact Nat.le_refl _) | omega | (simp only [World.size_alloc, World.size_setCell, World.size_drew, Wov_size, World.heap_drewN]; omega))))
        rintro W0 ⟨hb0, mR0⟩
        have hs0 := hb0.size
        refine (BO.out W0).mono ?_; rintro e w' ⟨B, cp, rfl, hA, hB, hH, q3, rfl⟩
        have t1 := slp_of hH hB
        clear hA hB hH
        go_wp2_with (fail)
        refine (CL.out _ _ _ t1).mono ?_; rintro e w' ⟨⟨p4, c4, rfl, ho⟩, q4, rfl⟩
        obtain ⟨B4, rfl, hA4, hB4, hH4⟩ := ho.resolve_left (by omega)
        have t4 := slp_of hH4 hB4
        clear ho t1 CL BO MA MB hA4 hB4 hH4
        go_wp2
        have h4 := t4
        simp only [Wov_Wov] at h4
        refine wp_world (fun W => Below w.heap.size w W ∧ HoldsA W (w.heap.size + 2) 6 (fun _ => 0) ∧ SlP W (some ⟨B4, 0, none⟩) 16 c) ⟨by (repeat' (first | (with_reducible assumption) | (with_reducible exact Below.refl _ _) | (with_reducible refine below_wov ?_ ?_ _) | (with_reducible refine below_drewN ?_ _) | (with_reducible refine Below.drew ?_) | (with_reducible refine Below.alloc ?_ ?_ _) | (with_reducible refine Below.setCell ?_ ?_ _) | (with_reducible exact Nat.le_refl _) | omega | (simp only [World.size_alloc, World.size_setCell, World.size_drew, Wov_size, World.heap_drewN]; omega))), mR0.below (by (repeat' (first | (with_reducible assumption) | (with_reducible exact Below.refl _ _) | (with_reducible refine below_wov ?_ ?_ _) | (with_reducible refine below_drewN ?_ _) | (with_reducible refine Below.drew ?_) | (with_reducible refine Below.alloc ?_ ?_ _) | (with_reducible refine Below.setCell ?_ ?_ _) | (with_reducible exact Nat.le_refl _) | omega | (simp only [World.size_alloc, World.size_setCell, World.size_drew, Wov_size, World.heap_drewN]; omega)))), h4.below (by (repeat' (first | (with_reducible assumption) | (with_reducible exact Below.refl _ _) | (with_reducible refine below_wov ?_ ?_ _) | (with_reducible refine below_drewN ?_ _) | (with_reducible refine Below.drew ?_) | (with_reducible refine Below.alloc ?_ ?_ _) | (with_reducible refine Below.setCell ?_ ?_ _) | (with_reducible exact Nat.le_refl _) | omega | (simp only [World.size_alloc, World.size_setCell, World.size_drew, Wov_size, World.heap_drewN]; omega))))⟩ ?_
        rintro W ⟨hbW, mR, hS4⟩
        obtain ⟨B5, o5, e5, lB, hv⟩ := hS4.resolve_left (by omega)
        cases e5
        have hsW := hbW.size
        have k0 := hv 0 (by omega)
        have k1 := hv 1 (by omega)
        have k3 := hv 3 (by omega)
        have k4 := hv 4 (by omega)
        have k5 := hv 5 (by omega)
        have k7 := hv 7 (by omega)
        have k12 := hv 12 (by omega)
        have k13 := hv 13 (by omega)
        have k15 := hv 15 (by omega)
        simp only [Nat.zero_add] at k0 k1 k3 k4 k5 k7 k12 k13 k15
        have HR0 := Lib.hid mR
        have lR := mR.lt
        clear hv t4 h4 hS4 mR mR0 hb0 hs0
        go_cut [9] from 66 (fun x V => ∃ A B6 : Nat, x = .pointer (some ⟨A, 0, none⟩) ∧ Below w.heap.size w V ∧ HoldsA V (w.heap.size + 2) 6 (fun _ => 0) ∧ BoxM V A 3 (some ⟨B6, 0, none⟩) 9 9 (dropF c))
        case first =>
          go_region_held3 (fun w' => w'.cell? ⟨B4, 0, none⟩ = some (.int .i64 (c 0)) ∧ w'.cell? ⟨B4, 1, none⟩ = some (.int .i64 (c 1)) ∧ w'.cell? ⟨B4, 3, none⟩ = some (.int .i64 (c 3)) ∧ w'.cell? ⟨B4, 4, none⟩ = some (.int .i64 (c 4)) ∧ w'.cell? ⟨B4, 5, none⟩ = some (.int .i64 (c 5)) ∧ w'.cell? ⟨B4, 7, none⟩ = some (.int .i64 (c 7)) ∧ w'.cell? ⟨B4, 12, none⟩ = some (.int .i64 (c 12)) ∧ w'.cell? ⟨B4, 13, none⟩ = some (.int .i64 (c 13)) ∧ w'.cell? ⟨B4, 15, none⟩ = some (.int .i64 (c 15)))
            ((simp [go_sem, *]))
            (fail)
          all_goals
            go_wp2_with (fail)
            go_meet
            case rel =>
              first
              | (refine ⟨_, W.heap.size, rfl, ?_, ?_, ⟨?_, ?_, ?_, .inr ⟨_, 0, rfl, ?_, fun x hx => ?_⟩⟩⟩; rotate_left 4; focus (simp [go_sem]; done))
              | (refine ⟨_, W.heap.size + 1, rfl, ?_, ?_, ⟨?_, ?_, ?_, .inr ⟨_, 0, rfl, ?_, fun x hx => ?_⟩⟩⟩; rotate_left 4; focus (simp [go_sem]; done))
              · (first | omega | ((simp only [World.size_alloc, World.size_setCell, World.size_drew, Wov_size, World.heap_drewN, Array.size_append]) <;> omega))
              · rw [Nat.zero_add]
                rcases nine hx with rfl | rfl | rfl | rfl | rfl | rfl | rfl | rfl | rfl <;> (simp [go_sem, dropF, sel])
              · (repeat' (first | (with_reducible assumption) | (with_reducible exact Below.refl _ _) | (with_reducible refine below_wov ?_ ?_ _) | (with_reducible refine below_drewN ?_ _) | (with_reducible refine Below.drew ?_) | (with_reducible refine Below.alloc ?_ ?_ _) | (with_reducible refine Below.setCell ?_ ?_ _) | (with_reducible exact Nat.le_refl _) | omega | (simp only [World.size_alloc, World.size_setCell, World.size_drew, Wov_size, World.heap_drewN]; omega)))
              · exact HR0.out.below (by (repeat' (first | (with_reducible assumption) | (with_reducible exact Below.refl _ _) | (with_reducible refine below_wov ?_ ?_ _) | (with_reducible refine below_drewN ?_ _) | (with_reducible refine Below.drew ?_) | (with_reducible refine Below.alloc ?_ ?_ _) | (with_reducible refine Below.setCell ?_ ?_ _) | (with_reducible exact Nat.le_refl _) | omega | (simp only [World.size_alloc, World.size_setCell, World.size_drew, Wov_size, World.heap_drewN]; omega))))
              · (first | omega | ((simp only [World.size_alloc, World.size_setCell, World.size_drew, Wov_size, World.heap_drewN, Array.size_append]) <;> omega))
              · simp [go_sem]
        case rest =>
          obtain ⟨A, B6, rfl, hbV, mR, mB⟩ := hcut
          obtain ⟨V, rfl⟩ : ∃ V, V = wc := ⟨_, rfl⟩
          clear k0 k1 k3 k4 k5 k7 k12 k13 k15 HR0 hsW hbW lB
          have hsV := hbV.size
          have m0 := mB.c0
          have m1 := mB.c1
          have ml := mB.lt
          go_wp2_with (fail)
          refine (MY.out _ _ V mB.sl).mono ?_; rintro e w' ⟨rfl, q5, rfl⟩
          cases k
          · have r0 := (mR.holds 0 (by omega)).1
            have r1 := (mR.holds 1 (by omega)).1
            have r2 := (mR.holds 2 (by omega)).1
            have r3 := (mR.holds 3 (by omega)).1
            have r4 := (mR.holds 4 (by omega)).1
            have r5 := (mR.holds 5 (by omega)).1
            have n0 := (mR.holds 0 (by omega)).2
            have n1 := (mR.holds 1 (by omega)).2
            have n2 := (mR.holds 2 (by omega)).2
            have n3 := (mR.holds 3 (by omega)).2
            have n4 := (mR.holds 4 (by omega)).2
            have n5 := (mR.holds 5 (by omega)).2
            have lR2 := mR.lt
            clear mR mB MY SH
            ((try dsimp only); repeat (first | go_values | go_skip | go_guarded | go_step | go_upon))
            refine bodyPost_ret (by simp [results, Try.results19, go_sem, r0, r1, r2, r3, r4, r5, lR2]; try rfl) rfl ?_
            exact gives_end (by rw [hR.out]; rfl) (by (repeat' (first | (with_reducible assumption) | (with_reducible exact Below.refl _ _) | (with_reducible refine below_wov ?_ ?_ _) | (with_reducible refine below_drewN ?_ _) | (with_reducible refine Below.drew ?_) | (with_reducible refine Below.alloc ?_ ?_ _) | (with_reducible refine Below.setCell ?_ ?_ _) | (with_reducible exact Nat.le_refl _) | omega | (simp only [World.size_alloc, World.size_setCell, World.size_drew, Wov_size, World.heap_drewN]; omega))))
          · go_wp2_with (fail)
            refine (SH.out _ _ _ (mB.sl.below (by (repeat' (first | (with_reducible assumption) | (with_reducible exact Below.refl _ _) | (with_reducible refine below_wov ?_ ?_ _) | (with_reducible refine below_drewN ?_ _) | (with_reducible refine Below.drew ?_) | (with_reducible refine Below.alloc ?_ ?_ _) | (with_reducible refine Below.setCell ?_ ?_ _) | (with_reducible exact Nat.le_refl _) | omega | (simp only [World.size_alloc, World.size_setCell, World.size_drew, Wov_size, World.heap_drewN]; omega)))))).mono ?_; rintro e w' ⟨rfl, q6, rfl⟩
            have r0 := (mR.holds 0 (by omega)).1
            have r1 := (mR.holds 1 (by omega)).1
            have r2 := (mR.holds 2 (by omega)).1
            have r3 := (mR.holds 3 (by omega)).1
            have r4 := (mR.holds 4 (by omega)).1
            have r5 := (mR.holds 5 (by omega)).1
            have n0 := (mR.holds 0 (by omega)).2
            have n1 := (mR.holds 1 (by omega)).2
            have n2 := (mR.holds 2 (by omega)).2
            have n3 := (mR.holds 3 (by omega)).2
            have n4 := (mR.holds 4 (by omega)).2
            have n5 := (mR.holds 5 (by omega)).2
            have lR2 := mR.lt
            clear mR mB MY SH
            ((try dsimp only); repeat (first | go_values | go_skip | go_guarded | go_step | go_upon))
            refine bodyPost_ret (by simp [results, Try.results19, go_sem, r0, r1, r2, r3, r4, r5, lR2]; try rfl) rfl ?_
            exact gives_end (by rw [hR.out]; rfl) (by (repeat' (first | (with_reducible assumption) | (with_reducible exact Below.refl _ _) | (with_reducible refine below_wov ?_ ?_ _) | (with_reducible refine below_drewN ?_ _) | (with_reducible refine Below.drew ?_) | (with_reducible refine Below.alloc ?_ ?_ _) | (with_reducible refine Below.setCell ?_ ?_ _) | (with_reducible exact Nat.le_refl _) | omega | (simp only [World.size_alloc, World.size_setCell, World.size_drew, Wov_size, World.heap_drewN]; omega))))
end Go.Proofs.Ytbgbhfcnadjhdaa
