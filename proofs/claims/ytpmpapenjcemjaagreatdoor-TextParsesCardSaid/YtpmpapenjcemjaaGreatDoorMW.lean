/- The document's zones' texts: contract of ends. No condition but on size. The document's zones' texts: contracts of ends (its ways under one statement) and zone. No condition but on size. The document's zones' texts: contract of Parse. No condition but on size. -/
import Derived.Test.YtpmpapenjcemjaaGreatDoorV4
import Derived.Test.YtpmpapenjcemjaaGreatDoorU9
import Derived.Test.YtpmpapenjcemjaaGreatDoorU10
import Derived.Test.YtpmpapenjcemjaaGreatDoorK5
import Derived.Test.YtpmpapenjcemjaaGreatDoorU11
namespace Go.Proofs.YtpmpapenjcemjaaGreatDoor
set_option linter.unusedSimpArgs false
set_option linter.unusedVariables false
open Go Go.RowKit Go.Shelf
attribute [local go_sem] Nat.add_assoc Nat.add_lt_add_iff_left lit_lt_add

def endsV (r : List UInt8 × Bool × List UInt8 × Bool × Bool) : Value := .tuple #[.string (bs r.1), .bool r.2.1, .string (bs r.2.2.1), .bool r.2.2.2.1, .bool r.2.2.2.2]
theorem dec_byte (x : UInt8) (k : Nat) (c : UInt8) (hk : c.toNat = k) : ((x.toNat : Int) == (k : Int)) = decide (x = c) ∧ ((x.toNat : Int) != (k : Int)) = !decide (x = c) := by
  have h : ((x.toNat : Int) == (k : Int)) = decide (x = c) := by
    rw [Bool.eq_iff_iff, beq_iff_eq, decide_eq_true_eq, ← UInt8.toNat_inj, hk]; omega
  exact ⟨h, by rw [bne, h]⟩
set_option maxRecDepth 10000 in
set_option maxHeartbeats 4000000 in
theorem ends_bad (S : ByteArray) (k : Nat) (hk : S.size = k) (hN : k ≤ 900000) (h : k < 5 ∨ (5 ≤ k ∧ ∃ c d : UInt8, (∀ h, S[0]'h = c) ∧ (∀ h, S[k - 1]'h = d) ∧ (¬ (c = 91 ∨ c = 40) ∨ ((c = 91 ∨ c = 40) ∧ ¬ (d = 93 ∨ d = 41))))) (w : World) :
    Calls Tryz.prog 71 #[.string S] w (Gives w (.tuple #[.string ⟨#[]⟩, .bool false, .string ⟨#[]⟩, .bool false, .bool false])) := by
  rcases h with h | ⟨h, c, d, gc, gd, hh⟩
  · have hw : wrap64 ((k : Int) - 1) = (k : Int) - 1 := wrap64_id (by omega) (by omega)
    have hd : decide ((k : Int) - 1 < 4) = true := decide_eq_true (by omega)
    clear h hN
    go_enter Tryz.func71, Tryz.ntmps71
    go_wp2_with (fail)
    all_goals
      refine bodyPost_ret (by simp [results, Tryz.results71, go_sem]; try rfl) rfl ?_
      exact gives_end rfl (by (repeat' (first | (with_reducible assumption) | (with_reducible exact Below.refl _ _) | (with_reducible refine below_wov ?_ ?_ _) | (with_reducible refine below_drewN ?_ _) | (with_reducible refine Below.drew ?_) | (with_reducible refine Below.alloc ?_ ?_ _) | (with_reducible refine Below.setCell ?_ ?_ _) | (with_reducible exact Nat.le_refl _) | omega | (simp only [World.size_alloc, World.size_setCell, World.size_drew, Wov_size, World.heap_drewN]; omega))))
  · obtain ⟨j, hj⟩ : ∃ j, j = k - 1 := ⟨_, rfl⟩
    rw [← hj] at gd
    have hkj : (k : Int) - 1 = (j : Int) := by omega
    have hw : wrap64 (j : Int) = (j : Int) := wrap64_id (by omega) (by omega)
    have hd : decide ((j : Int) < 4) = false := decide_eq_false (by omega)
    have k3 : j < k := by omega
    have k4 : (j : Int) < (k : Int) := by omega
    have k5 : 0 < k := by omega
    have k6 : (0 : Int) < (k : Int) := by omega
    have j0 : (0 : Int) ≤ (j : Int) := by omega
    rcases hh with hc | ⟨hc, hd'⟩
    · have c1 : ((c.toNat : Int) != 91) = true := by
        have := (dec_byte c 91 91 rfl).2; rw [decide_eq_false (fun e => hc (.inl e))] at this; exact this
      have c2 : ((c.toNat : Int) != 40) = true := by
        have := (dec_byte c 40 40 rfl).2; rw [decide_eq_false (fun e => hc (.inr e))] at this; exact this
      clear hc hj gd h hN
      go_enter Tryz.func71, Tryz.ntmps71
      go_wp2_with (fail)
      all_goals
        refine bodyPost_ret (by simp [results, Tryz.results71, go_sem]; try rfl) rfl ?_
        exact gives_end rfl (by (repeat' (first | (with_reducible assumption) | (with_reducible exact Below.refl _ _) | (with_reducible refine below_wov ?_ ?_ _) | (with_reducible refine below_drewN ?_ _) | (with_reducible refine Below.drew ?_) | (with_reducible refine Below.alloc ?_ ?_ _) | (with_reducible refine Below.setCell ?_ ?_ _) | (with_reducible exact Nat.le_refl _) | omega | (simp only [World.size_alloc, World.size_setCell, World.size_drew, Wov_size, World.heap_drewN]; omega))))
    · have d1 : ((d.toNat : Int) != 93) = true := by
        have := (dec_byte d 93 93 rfl).2; rw [decide_eq_false (fun e => hd' (.inl e))] at this; exact this
      have d2 : ((d.toNat : Int) != 41) = true := by
        have := (dec_byte d 41 41 rfl).2; rw [decide_eq_false (fun e => hd' (.inr e))] at this; exact this
      have cc : ((c.toNat : Int) != 91) = false ∨ (((c.toNat : Int) != 91) = true ∧ ((c.toNat : Int) != 40) = false) := by
        rcases hc with rfl | rfl
        · exact .inl rfl
        · exact .inr ⟨rfl, rfl⟩
      clear hc hd' hj h hN
      rcases cc with c1 | ⟨c1, c2⟩
      · go_enter Tryz.func71, Tryz.ntmps71
        go_wp2_with (fail)
        all_goals
          refine bodyPost_ret (by simp [results, Tryz.results71, go_sem]; try rfl) rfl ?_
          exact gives_end rfl (by (repeat' (first | (with_reducible assumption) | (with_reducible exact Below.refl _ _) | (with_reducible refine below_wov ?_ ?_ _) | (with_reducible refine below_drewN ?_ _) | (with_reducible refine Below.drew ?_) | (with_reducible refine Below.alloc ?_ ?_ _) | (with_reducible refine Below.setCell ?_ ?_ _) | (with_reducible exact Nat.le_refl _) | omega | (simp only [World.size_alloc, World.size_setCell, World.size_drew, Wov_size, World.heap_drewN]; omega))))
      · go_enter Tryz.func71, Tryz.ntmps71
        go_wp2_with (fail)
        all_goals
          refine bodyPost_ret (by simp [results, Tryz.results71, go_sem]; try rfl) rfl ?_
          exact gives_end rfl (by (repeat' (first | (with_reducible assumption) | (with_reducible exact Below.refl _ _) | (with_reducible refine below_wov ?_ ?_ _) | (with_reducible refine below_drewN ?_ _) | (with_reducible refine Below.drew ?_) | (with_reducible refine Below.alloc ?_ ?_ _) | (with_reducible refine Below.setCell ?_ ?_ _) | (with_reducible exact Nat.le_refl _) | omega | (simp only [World.size_alloc, World.size_setCell, World.size_drew, Wov_size, World.heap_drewN]; omega))))
set_option maxRecDepth 10000 in
set_option maxHeartbeats 8000000 in
theorem ends_not2 (S : ByteArray) (k j : Nat) (hk : S.size = k) (hkj : (k : Int) - 1 = (j : Int)) (h5 : 4 ≤ j) (hN : k ≤ 900000) (c d : UInt8) (hc : c = 91 ∨ c = 40) (hd : d = 93 ∨ d = 41) (g0 : ∀ h, S[0]'h = c) (g1 : ∀ h, S[j]'h = d) (M : ByteArray) (hM : S.extract 1 j = M) (m : Nat) (hm : m ≠ 2)
    (CU : Hid (∀ w, Calls Tryz.prog 35 #[.string M, .int .u8 44] w (fun e w' => ∃ p cq, Gives w (.slice p m cq) e w'))) (w : World) :
    Calls Tryz.prog 71 #[.string S] w (Gives w (.tuple #[.string ⟨#[]⟩, .bool false, .string ⟨#[]⟩, .bool false, .bool false])) := by
  have hw : wrap64 (j : Int) = (j : Int) := wrap64_id (by omega) (by omega)
  have hd4 : decide ((j : Int) < 4) = false := decide_eq_false (by omega)
  have k1 : (1 : Int) ≤ (j : Int) := by omega
  have k2 : 1 ≤ j := by omega
  have k3 : j < k := by omega
  have k4 : (j : Int) < (k : Int) := by omega
  have k5 : 0 < k := by omega
  have k6 : (0 : Int) < (k : Int) := by omega
  have k7 : j ≤ k := by omega
  have k8 : (j : Int) ≤ (k : Int) := by omega
  have j0 : (0 : Int) ≤ (j : Int) := by omega
  have hm2 : ((m : Int) != 2) = true := by rw [bne_iff_ne]; omega
  clear h5 hN hm
  rcases hc with rfl | rfl <;> rcases hd with rfl | rfl
  all_goals
    go_enter Tryz.func71, Tryz.ntmps71
    go_wp2_with (fail)
    refine (CU.out _).mono ?_; rintro e w' ⟨p, cq, rfl, q1, rfl⟩
    go_wp2_with (fail)
    refine bodyPost_ret (by simp [results, Tryz.results71, go_sem]; try rfl) rfl ?_
    exact gives_end rfl (by (repeat' (first | (with_reducible assumption) | (with_reducible exact Below.refl _ _) | (with_reducible refine below_wov ?_ ?_ _) | (with_reducible refine below_drewN ?_ _) | (with_reducible refine Below.drew ?_) | (with_reducible refine Below.alloc ?_ ?_ _) | (with_reducible refine Below.setCell ?_ ?_ _) | (with_reducible exact Nat.le_refl _) | omega | (simp only [World.size_alloc, World.size_setCell, World.size_drew, Wov_size, World.heap_drewN]; omega))))
set_option maxRecDepth 10000 in
set_option maxHeartbeats 16000000 in
theorem ends_two (S : ByteArray) (k j : Nat) (hk : S.size = k) (hkj : (k : Int) - 1 = (j : Int)) (h5 : 4 ≤ j) (hN : k ≤ 900000) (c d : UInt8) (hc : c = 91 ∨ c = 40) (hd : d = 93 ∨ d = 41) (g0 : ∀ h, S[0]'h = c) (g1 : ∀ h, S[j]'h = d) (M : ByteArray) (hM : S.extract 1 j = M) (a b : List UInt8) (ca cb : Bool)
    (CU : Hid (∀ w, Calls Tryz.prog 35 #[.string M, .int .u8 44] w (fun e w' => ∃ A o cq, Gives w (.slice (some ⟨A, o, none⟩) 2 cq) e w' ∧ A < w'.heap.size ∧ w'.cell? ⟨A, o, none⟩ = some (.string (bs a)) ∧ w'.cell? ⟨A, o + 1, none⟩ = some (.string (bs b)))))
    (DA : Hid (Pure Tryz.prog 114 #[.string (bs a)] (.bool ca))) (DB : Hid (Pure Tryz.prog 114 #[.string (bs b)] (.bool cb))) (one two : Bool)
    (h1 : one = (ca || (decide (a = [45, 111, 111]) && decide (c = 40)))) (h2 : two = (cb || (decide (b = [111, 111]) && decide (d = 41)))) (w : World) :
    Calls Tryz.prog 71 #[.string S] w (Gives w (.tuple #[.string (bs a), .bool (decide (c = 91)), .string (bs b), .bool (decide (d = 93)), .bool (one && two)])) := by
  have hw : wrap64 (j : Int) = (j : Int) := wrap64_id (by omega) (by omega)
  have hd4 : decide ((j : Int) < 4) = false := decide_eq_false (by omega)
  have k1 : (1 : Int) ≤ (j : Int) := by omega
  have k2 : 1 ≤ j := by omega
  have k3 : j < k := by omega
  have k4 : (j : Int) < (k : Int) := by omega
  have k5 : 0 < k := by omega
  have k6 : (0 : Int) < (k : Int) := by omega
  have k7 : j ≤ k := by omega
  have k8 : (j : Int) ≤ (k : Int) := by omega
  have j0 : (0 : Int) ≤ (j : Int) := by omega
  have H1 := Lib.hid h1
  have H2 := Lib.hid h2
  clear h5 hN h1 h2
  rcases hc with rfl | rfl <;> rcases hd with rfl | rfl
  all_goals
    go_enter Tryz.func71, Tryz.ntmps71
    go_wp2_with (fail)
    refine (CU.out _).mono ?_; rintro e w' ⟨A, o, cq, ⟨rfl, q1, rfl⟩, hA, ka, kb⟩
    go_upto_region 7 with (fail)
    (try simp only [drew_Wov, Wov_Wov, Array.append_assoc] at hA ka kb)
    refine wp_world (fun X => Below w.heap.size w X ∧ A < X.heap.size ∧ X.cell? ⟨A, o, none⟩ = some (.string (bs a)) ∧ X.cell? ⟨A, o + 1, none⟩ = some (.string (bs b))) ⟨by (repeat' (first | (with_reducible assumption) | (with_reducible exact Below.refl _ _) | (with_reducible refine below_wov ?_ ?_ _) | (with_reducible refine below_drewN ?_ _) | (with_reducible refine Below.drew ?_) | (with_reducible refine Below.alloc ?_ ?_ _) | (with_reducible refine Below.setCell ?_ ?_ _) | (with_reducible exact Nat.le_refl _) | omega | (simp only [World.size_alloc, World.size_setCell, World.size_drew, Wov_size, World.heap_drewN]; omega))), hA, ka, kb⟩ ?_
    clear hA ka kb
    rintro X ⟨hbX, hA, ka, kb⟩
    have hsX := hbX.size
    go_cut [9] from 11 (fun s9 V => s9 = .bool one ∧ Below w.heap.size w V ∧ A < V.heap.size ∧ V.cell? ⟨A, o, none⟩ = some (.string (bs a)) ∧ V.cell? ⟨A, o + 1, none⟩ = some (.string (bs b)))
    case first =>
      cases ca
      · by_cases ha : a = [45, 111, 111]
        · have q : (a == [45, 111, 111]) = true := by rw [beq_iff_eq]; exact ha
          have ho := H1.out
          rw [decide_eq_true ha] at ho
          have HO := Lib.hid ho
          clear ha ho
          go_wp2_with (fail)
          refine (DA.out _).mono ?_; rintro e w' ⟨rfl, q2, rfl⟩
          go_wp2_with (fail)
          go_meet
          case rel => exact ⟨by rw [HO.out]; rfl, by (repeat' (first | (with_reducible assumption) | (with_reducible exact Below.refl _ _) | (with_reducible refine below_wov ?_ ?_ _) | (with_reducible refine below_drewN ?_ _) | (with_reducible refine Below.drew ?_) | (with_reducible refine Below.alloc ?_ ?_ _) | (with_reducible refine Below.setCell ?_ ?_ _) | (with_reducible exact Nat.le_refl _) | omega | (simp only [World.size_alloc, World.size_setCell, World.size_drew, Wov_size, World.heap_drewN]; omega))), by (first | omega | ((simp only [World.size_alloc, World.size_setCell, World.size_drew, Wov_size, World.heap_drewN, Array.size_append]) <;> omega)), by simp [go_sem, *], by simp [go_sem, *]⟩
        · have q : (a == [45, 111, 111]) = false := by rw [beq_eq_false_iff_ne]; exact ha
          have ho := H1.out
          rw [decide_eq_false ha] at ho
          have HO := Lib.hid ho
          clear ha ho
          go_wp2_with (fail)
          refine (DA.out _).mono ?_; rintro e w' ⟨rfl, q2, rfl⟩
          go_wp2_with (fail)
          go_meet
          case rel => exact ⟨by rw [HO.out]; rfl, by (repeat' (first | (with_reducible assumption) | (with_reducible exact Below.refl _ _) | (with_reducible refine below_wov ?_ ?_ _) | (with_reducible refine below_drewN ?_ _) | (with_reducible refine Below.drew ?_) | (with_reducible refine Below.alloc ?_ ?_ _) | (with_reducible refine Below.setCell ?_ ?_ _) | (with_reducible exact Nat.le_refl _) | omega | (simp only [World.size_alloc, World.size_setCell, World.size_drew, Wov_size, World.heap_drewN]; omega))), by (first | omega | ((simp only [World.size_alloc, World.size_setCell, World.size_drew, Wov_size, World.heap_drewN, Array.size_append]) <;> omega)), by simp [go_sem, *], by simp [go_sem, *]⟩
      · go_wp2_with (fail)
        refine (DA.out _).mono ?_; rintro e w' ⟨rfl, q2, rfl⟩
        go_wp2_with (fail)
        go_meet
        case rel => exact ⟨by rw [H1.out]; rfl, by (repeat' (first | (with_reducible assumption) | (with_reducible exact Below.refl _ _) | (with_reducible refine below_wov ?_ ?_ _) | (with_reducible refine below_drewN ?_ _) | (with_reducible refine Below.drew ?_) | (with_reducible refine Below.alloc ?_ ?_ _) | (with_reducible refine Below.setCell ?_ ?_ _) | (with_reducible exact Nat.le_refl _) | omega | (simp only [World.size_alloc, World.size_setCell, World.size_drew, Wov_size, World.heap_drewN]; omega))), by (first | omega | ((simp only [World.size_alloc, World.size_setCell, World.size_drew, Wov_size, World.heap_drewN, Array.size_append]) <;> omega)), by simp [go_sem, *], by simp [go_sem, *]⟩
    case rest =>
      clear hbX hA ka kb hsX
      obtain ⟨rfl, hbX, hA, ka, kb⟩ := hcut
      obtain ⟨X, rfl⟩ : ∃ V, V = wc := ⟨_, rfl⟩
      have hsX := hbX.size
      go_upto_region 8 with (fail)
      go_cut [10] from 11 (fun s9 V => s9 = .bool two ∧ Below w.heap.size w V ∧ A < V.heap.size ∧ V.cell? ⟨A, o, none⟩ = some (.string (bs a)) ∧ V.cell? ⟨A, o + 1, none⟩ = some (.string (bs b)))
      case first =>
        cases cb
        · by_cases ha : b = [111, 111]
          · have q : (b == [111, 111]) = true := by rw [beq_iff_eq]; exact ha
            have ho := H2.out
            rw [decide_eq_true ha] at ho
            have HO := Lib.hid ho
            clear ha ho
            go_wp2_with (fail)
            refine (DB.out _).mono ?_; rintro e w' ⟨rfl, q2, rfl⟩
            go_wp2_with (fail)
            go_meet
            case rel => exact ⟨by rw [HO.out]; rfl, by (repeat' (first | (with_reducible assumption) | (with_reducible exact Below.refl _ _) | (with_reducible refine below_wov ?_ ?_ _) | (with_reducible refine below_drewN ?_ _) | (with_reducible refine Below.drew ?_) | (with_reducible refine Below.alloc ?_ ?_ _) | (with_reducible refine Below.setCell ?_ ?_ _) | (with_reducible exact Nat.le_refl _) | omega | (simp only [World.size_alloc, World.size_setCell, World.size_drew, Wov_size, World.heap_drewN]; omega))), by (first | omega | ((simp only [World.size_alloc, World.size_setCell, World.size_drew, Wov_size, World.heap_drewN, Array.size_append]) <;> omega)), by simp [go_sem, *], by simp [go_sem, *]⟩
          · have q : (b == [111, 111]) = false := by rw [beq_eq_false_iff_ne]; exact ha
            have ho := H2.out
            rw [decide_eq_false ha] at ho
            have HO := Lib.hid ho
            clear ha ho
            go_wp2_with (fail)
            refine (DB.out _).mono ?_; rintro e w' ⟨rfl, q2, rfl⟩
            go_wp2_with (fail)
            go_meet
            case rel => exact ⟨by rw [HO.out]; rfl, by (repeat' (first | (with_reducible assumption) | (with_reducible exact Below.refl _ _) | (with_reducible refine below_wov ?_ ?_ _) | (with_reducible refine below_drewN ?_ _) | (with_reducible refine Below.drew ?_) | (with_reducible refine Below.alloc ?_ ?_ _) | (with_reducible refine Below.setCell ?_ ?_ _) | (with_reducible exact Nat.le_refl _) | omega | (simp only [World.size_alloc, World.size_setCell, World.size_drew, Wov_size, World.heap_drewN]; omega))), by (first | omega | ((simp only [World.size_alloc, World.size_setCell, World.size_drew, Wov_size, World.heap_drewN, Array.size_append]) <;> omega)), by simp [go_sem, *], by simp [go_sem, *]⟩
        · go_wp2_with (fail)
          refine (DB.out _).mono ?_; rintro e w' ⟨rfl, q2, rfl⟩
          go_wp2_with (fail)
          go_meet
          case rel => exact ⟨by rw [H2.out]; rfl, by (repeat' (first | (with_reducible assumption) | (with_reducible exact Below.refl _ _) | (with_reducible refine below_wov ?_ ?_ _) | (with_reducible refine below_drewN ?_ _) | (with_reducible refine Below.drew ?_) | (with_reducible refine Below.alloc ?_ ?_ _) | (with_reducible refine Below.setCell ?_ ?_ _) | (with_reducible exact Nat.le_refl _) | omega | (simp only [World.size_alloc, World.size_setCell, World.size_drew, Wov_size, World.heap_drewN]; omega))), by (first | omega | ((simp only [World.size_alloc, World.size_setCell, World.size_drew, Wov_size, World.heap_drewN, Array.size_append]) <;> omega)), by simp [go_sem, *], by simp [go_sem, *]⟩
      case rest =>
        clear hbX hA ka kb hsX
        obtain ⟨rfl, hbX, hA, ka, kb⟩ := hcut
        obtain ⟨X, rfl⟩ : ∃ V, V = wc := ⟨_, rfl⟩
        have hsX := hbX.size
        cases one <;> cases two
        all_goals
          go_wp2_with (fail)
          go_region
          go_wp2_with (fail)
          refine bodyPost_ret (by simp [results, Tryz.results71, go_sem]; try rfl) rfl ?_
          exact gives_end rfl (by (repeat' (first | (with_reducible assumption) | (with_reducible exact Below.refl _ _) | (with_reducible refine below_wov ?_ ?_ _) | (with_reducible refine below_drewN ?_ _) | (with_reducible refine Below.drew ?_) | (with_reducible refine Below.alloc ?_ ?_ _) | (with_reducible refine Below.setCell ?_ ?_ _) | (with_reducible exact Nat.le_refl _) | omega | (simp only [World.size_alloc, World.size_setCell, World.size_drew, Wov_size, World.heap_drewN]; omega))))
#print axioms ends_two
end Go.Proofs.YtpmpapenjcemjaaGreatDoor

namespace Go.Proofs.YtpmpapenjcemjaaGreatDoor
set_option linter.unusedSimpArgs false
set_option linter.unusedVariables false
open Go Go.RowKit Go.Shelf
attribute [local go_sem] Nat.add_assoc Nat.add_lt_add_iff_left lit_lt_add

theorem ends31_any (l : List UInt8) (hl : l.length ≤ 900000) (w : World) : Calls Tryz.prog 71 #[.string (bs l)] w (Gives w (endsV (endsD l))) := by
  have hsz := bs_size l
  have g0 : ∀ h, (bs l)[0]'h = l.headD 0 := fun h => by
    cases l with
    | nil => exact absurd h (by decide)
    | cons x r => rfl
  have g1 : ∀ h, (bs l)[l.length - 1]'h = l.getLastD 0 := fun h => by
    have e1 := Lib.data_getElem? (bs l) (l.length - 1) h
    rw [bs_list] at e1
    have e2 : l[l.length - 1]? = l.getLast? := List.getLast?_eq_getElem?.symm
    rw [e2] at e1
    rw [List.getLastD_eq_getLast?, e1]; rfl
  unfold endsV endsD
  by_cases hbad : l.length < 5 ∨ ¬ (l.headD 0 = 91 ∨ l.headD 0 = 40) ∨ ¬ (l.getLastD 0 = 93 ∨ l.getLastD 0 = 41)
  · rw [if_pos hbad]
    refine ends_bad (bs l) l.length hsz hl ?_ w
    by_cases h5 : l.length < 5
    · exact .inl h5
    · refine .inr ⟨by omega, l.headD 0, l.getLastD 0, g0, g1, ?_⟩
      rcases hbad with h | h | h
      · exact absurd h h5
      · exact .inl h
      · by_cases hc : l.headD 0 = 91 ∨ l.headD 0 = 40
        · exact .inr ⟨hc, h⟩
        · exact .inl hc
  · rw [if_neg hbad]
    have h5 : ¬ l.length < 5 := fun h => hbad (.inl h)
    have hc : l.headD 0 = 91 ∨ l.headD 0 = 40 := Classical.byContradiction fun h => hbad (.inr (.inl h))
    have hd : l.getLastD 0 = 93 ∨ l.getLastD 0 = 41 := Classical.byContradiction fun h => hbad (.inr (.inr h))
    have hM : (bs l).extract 1 (l.length - 1) = bs l.tail.dropLast := by
      rw [Lib.extract_eq, bs_list]
      congr 2
      rw [List.dropLast_eq_take, List.length_tail, List.drop_one]
    have hml : l.tail.dropLast.length ≤ 900000 := by rw [List.length_dropLast, List.length_tail]; omega
    have CU := cut31_any l.tail.dropLast 44 hml
    have hmem : ∀ x, x ∈ splitB 44 l.tail.dropLast → x.length ≤ 900000 := fun x hx => Nat.le_trans (split_mem_len hx) hml
    have not2 : (splitB 44 l.tail.dropLast).length ≠ 2 → Calls Tryz.prog 71 #[.string (bs l)] w (Gives w (.tuple #[.string ⟨#[]⟩, .bool false, .string ⟨#[]⟩, .bool false, .bool false])) := fun hn =>
      ends_not2 (bs l) l.length (l.length - 1) hsz (by omega) (by omega) hl _ _ hc hd g0 g1 _ hM _ hn (fun w => (CU w).mono fun e w' ⟨p, cq, hg, _, _⟩ => ⟨p, cq, hg⟩) w
    match hs : splitB 44 l.tail.dropLast with
    | [] => exact absurd hs (splitB_ne 44 _)
    | [x] => exact not2 (by rw [hs]; simp)
    | x :: y :: z :: r => exact not2 (by rw [hs]; simp)
    | [a, b] =>
      rw [hs] at CU hmem
      exact ends_two (bs l) l.length (l.length - 1) hsz (by omega) (by omega) hl _ _ hc hd g0 g1 _ hM a b (canonT a) (canonT b)
        (fun w => (CU w).mono fun e w' ⟨p, cq, hg, _, hS⟩ => by
          obtain ⟨A, o, rfl, hA, hv⟩ := hS.resolve_left (by simp)
          exact ⟨A, o, cq, hg, hA, hv 0 a rfl, hv 1 b rfl⟩)
        (fun w => digits31_any a (hmem a (by simp)) w) (fun w => digits31_any b (hmem b (by simp)) w) _ _ rfl rfl w
theorem bndD_fits (l : List UInt8) {s : Int} (hs : s = 1 ∨ s = -1) (i : Bool) : fits64 (bndD l s i).1 := by
  unfold bndD fits64
  have := noneB_val
  split
  · simp only; omega
  · have hn := numR_fits l
    unfold numR at hn
    simp only at hn ⊢
    rcases hs with rfl | rfl <;> cases i <;> simp <;> omega
theorem bndD_err (l : List UInt8) (s : Int) (i : Bool) : (bndD l s i).2 = 0 ∨ (bndD l s i).2 = 151 := by
  unfold bndD
  split
  · exact .inl rfl
  · exact numE_cases l
theorem holdsA_cells {W : World} {N : Nat} {f : Nat → Int} (h : HoldsA W N 6 f) : (W.cell? ⟨N, 0, none⟩ = some (.int .i64 (f 0)) ∧ W.cell? ⟨N, 1, none⟩ = some (.int .i64 (f 1)) ∧ W.cell? ⟨N, 2, none⟩ = some (.int .i64 (f 2)) ∧ W.cell? ⟨N, 3, none⟩ = some (.int .i64 (f 3)) ∧ W.cell? ⟨N, 4, none⟩ = some (.int .i64 (f 4)) ∧ W.cell? ⟨N, 5, none⟩ = some (.int .i64 (f 5))) ∧ (W.frozen? ⟨N, 0, none⟩ = false ∧ W.frozen? ⟨N, 1, none⟩ = false ∧ W.frozen? ⟨N, 2, none⟩ = false ∧ W.frozen? ⟨N, 3, none⟩ = false ∧ W.frozen? ⟨N, 4, none⟩ = false ∧ W.frozen? ⟨N, 5, none⟩ = false) :=
  ⟨⟨(h.holds 0 (by omega)).1, (h.holds 1 (by omega)).1, (h.holds 2 (by omega)).1, (h.holds 3 (by omega)).1, (h.holds 4 (by omega)).1, (h.holds 5 (by omega)).1⟩, (h.holds 0 (by omega)).2, (h.holds 1 (by omega)).2, (h.holds 2 (by omega)).2, (h.holds 3 (by omega)).2, (h.holds 4 (by omega)).2, (h.holds 5 (by omega)).2⟩
theorem zero6 {W : World} {N : Nat} (hN : N < W.heap.size) (h0 : W.cell? ⟨N, 0, none⟩ = some (.int .i64 0)) (h1 : W.cell? ⟨N, 1, none⟩ = some (.int .i64 0)) (h2 : W.cell? ⟨N, 2, none⟩ = some (.int .i64 0)) (h3 : W.cell? ⟨N, 3, none⟩ = some (.int .i64 0)) (h4 : W.cell? ⟨N, 4, none⟩ = some (.int .i64 0)) (h5 : W.cell? ⟨N, 5, none⟩ = some (.int .i64 0))
    (hf : ∀ i, i < 6 → W.frozen? ⟨N, i, none⟩ = false) : HoldsA W N 6 (fun _ => 0) := ⟨hN, fun x hx => by
  refine ⟨?_, hf x hx⟩
  rcases six hx with rfl | rfl | rfl | rfl | rfl | rfl <;> assumption⟩
theorem not_ints {W : World} {N A o : Nat} {x : ByteArray} {a b c d e f : Int} {t : TypeId} (hb : W.heap[N]? = some (.cells #[.int .i64 a, .int .i64 b, .int .i64 c, .int .i64 d, .int .i64 e, .int .i64 f] t)) (hc : W.cell? ⟨A, o, none⟩ = some (.string x)) : A ≠ N := by
  rintro rfl
  simp only [World.cell?, hb] at hc
  match o, hc with
  | 0, h => simp at h
  | 1, h => simp at h
  | 2, h => simp at h
  | 3, h => simp at h
  | 4, h => simp at h
  | 5, h => simp at h
  | _ + 6, h => simp at h
theorem zone_max {e f g : Int} (he : e = 0 ∨ e = 151) (hf : f = 0 ∨ f = 151) (hg : g = 0 ∨ g = 151) : (if f ≠ 0 ∨ g ≠ 0 then 151 else e) = max e (max f g) := by
  split <;> omega
set_option maxRecDepth 10000 in
set_option maxHeartbeats 8000000 in
theorem zone31_any (l : List UInt8) (hl : l.length ≤ 900000) (w : World) :
    Calls Tryz.prog 36 #[.string (bs l)] w (fun e w' => ∃ z : Nat → Int, Gives w (.tuple #[zoneV z, .int .i64 (zoneE l)]) e w' ∧ FitsZ z ∧ (zoneE l = 0 → ∀ i, i < 6 → z i = zoneZ l i)) := by
  have PC := Lib.hid (pieces31_any l hl)
  have HMEM : Hid (∀ j, ((piecesT l).getD j []).length ≤ 900000) := fun j => by
    by_cases hj : j < (piecesT l).length
    · rw [List.getD_eq_getElem?_getD, List.getElem?_eq_getElem hj]
      exact Nat.le_trans (pieces_mem_len l _ (List.getElem_mem hj)) hl
    · rw [List.getD_eq_getElem?_getD, List.getElem?_eq_none (by omega)]
      simp
  obtain ⟨K, hK⟩ : ∃ K, K = piecesT l := ⟨_, rfl⟩
  rw [← hK] at PC HMEM
  have HK := Lib.hid hK
  obtain ⟨S, hS⟩ : ∃ S, S = bs l := ⟨_, rfl⟩
  rw [← hS] at PC ⊢
  clear hS hl
  by_cases h3 : K.length = 3
  · have H3 := Lib.hid h3
    rw [h3] at PC
    clear h3 hK
    go_enter Tryz.func36, Tryz.ntmps36
    go_wp2_with (fail)
    refine (PC.out _).mono ?_; rintro e w' ⟨p, cq, ⟨rfl, q1, rfl⟩, hcq, hSl⟩
    obtain ⟨A, o, rfl, hA, hcell⟩ := hSl.resolve_left (fun h => by have := H3.out; rw [h] at this; cases this)
    go_upto_region 5 with (fail)
    (try simp only [drew_Wov, Wov_Wov, Array.append_assoc] at hA hcell)
    obtain ⟨R, hR⟩ : ∃ R, R = w.heap.size := ⟨_, rfl⟩
    obtain ⟨N, hN⟩ : ∃ N, N = w.heap.size + 1 := ⟨_, rfl⟩
    have hc0 := hcell 0 (K.getD 0 []) (by
      rw [List.getD_eq_getElem?_getD, List.getElem?_eq_getElem (by rw [H3.out]; omega)]; rfl)
    have hAN : A ≠ N := by
      refine not_ints (t := 49) (a := 0) (b := 0) (c := 0) (d := 0) (e := 0) (f := 0) ?_ hc0
      rw [hN, Wov_heap _ _ _ (by simp)]
      have := World.alloc_heap_new (w.alloc (.cells #[.int .i64 0, .int .i64 0, .int .i64 0, .int .i64 0, .int .i64 0, .int .i64 0] 49)) (.cells #[.int .i64 0, .int .i64 0, .int .i64 0, .int .i64 0, .int .i64 0, .int .i64 0] 49)
      rwa [World.size_alloc] at this
    rw [← hN, ← hR]
    refine wp_world (fun X => Below w.heap.size w X ∧ HoldsA X N 6 (fun _ => 0) ∧ HoldsA X R 6 (fun _ => 0) ∧ A < X.heap.size ∧ ∀ j x, K[j]? = some x → X.cell? ⟨A, o + j, none⟩ = some (.string (bs x))) ⟨by (repeat' (first | (with_reducible assumption) | (with_reducible exact Below.refl _ _) | (with_reducible refine below_wov ?_ ?_ _) | (with_reducible refine below_drewN ?_ _) | (with_reducible refine Below.drew ?_) | (with_reducible refine Below.alloc ?_ ?_ _) | (with_reducible refine Below.setCell ?_ ?_ _) | (with_reducible exact Nat.le_refl _) | omega | (simp only [World.size_alloc, World.size_setCell, World.size_drew, Wov_size, World.heap_drewN]; omega))), ?z1, ?z2, hA, hcell⟩ ?_
    case z1 =>
      rw [hN]
      exact zero6 (by (first | omega | ((simp only [World.size_alloc, World.size_setCell, World.size_drew, Wov_size, World.heap_drewN, Array.size_append]) <;> omega))) (by simp [go_sem]) (by simp [go_sem]) (by simp [go_sem]) (by simp [go_sem]) (by simp [go_sem]) (by simp [go_sem]) (fun i hi => by rcases six hi with rfl | rfl | rfl | rfl | rfl | rfl <;> simp [go_sem])
    case z2 =>
      rw [hR]
      exact zero6 (by (first | omega | ((simp only [World.size_alloc, World.size_setCell, World.size_drew, Wov_size, World.heap_drewN, Array.size_append]) <;> omega))) (by simp [go_sem]) (by simp [go_sem]) (by simp [go_sem]) (by simp [go_sem]) (by simp [go_sem]) (by simp [go_sem]) (fun i hi => by rcases six hi with rfl | rfl | rfl | rfl | rfl | rfl <;> simp [go_sem])
    clear hA hcell hc0
    rintro W1 ⟨hB1, hZ1, hR1, hA, hcell⟩
    have nNR : ¬ N = R := by omega
    have nRN : ¬ R = N := by omega
    have hNw : w.heap.size ≤ N := by omega
    have hRw : w.heap.size ≤ R := by omega
    have HR1 := Lib.hid hR1
    have hPL : Hid (∀ j, j < 3 → W1.cell? ⟨A, o + j, none⟩ = some (.string (bs (K.getD j [])))) := fun j hj => by
      have hj' : j < K.length := by rw [H3.out]; exact hj
      exact hcell j _ (by rw [List.getD_eq_getElem?_getD, List.getElem?_eq_getElem hj']; rfl)
    clear hcell hR hN hR1 PC hcq
    go_wp2_with (fail)
    go_loopw [6, 7] (fun s6 s7 V => ∃ (j : Nat) (e : Int) (f : Nat → Int), j ≤ 3 ∧ s6 = .int .i64 e ∧ s7 = .int .i64 j ∧ Below w.heap.size w V ∧ Chg W1 N V ∧ HoldsA V N 6 f ∧ FitsZ f ∧ Hid ((e = 0 ∨ e = 151) ∧ (∀ k, k < j → (ivR (K.getD k [])).1 ≠ 170) ∧ (e = 0 ↔ ∀ k, k < j → (ivR (K.getD k [])).1 = 0) ∧ (∀ k, k < j → (ivR (K.getD k [])).1 = 0 → f (2 * k) = (ivR (K.getD k [])).2.2 ∧ f (2 * k + 1) = (ivR (K.getD k [])).2.1)))
      (fun _ s7 _ => 3 - (intOf s7).toNat)
    case atStart =>
      exact ⟨0, 0, fun _ => 0, by omega, rfl, rfl, hB1, Chg.refl _ _, hZ1, fun i _ => (by decide : fits64 0), ⟨.inl rfl, fun k hk => by omega, ⟨fun _ k hk => by omega, fun _ => rfl⟩, fun k hk => by omega⟩⟩
    case round =>
      obtain ⟨j, e, f, hj, rfl, rfl, hBV, hCh, hZ, hF, hI⟩ := hrel
      have HRV := Lib.hid (holdsA_chg HR1.out hCh nRN)
      obtain ⟨⟨r0, r1, r2, r3, r4, r5⟩, ⟨s0, s1, s2, s3, s4, s5⟩⟩ := holdsA_cells HRV.out
      obtain ⟨⟨a0, a1, a2, a3, a4, a5⟩, ⟨f0, f1, f2, f3, f4, f5⟩⟩ := holdsA_cells hZ
      have lN := hZ.lt
      have lR := HRV.out.lt
      have HI := Lib.hid hI
      have HZ := Lib.hid hZ
      have HBV := Lib.hid hBV
      have HCH := Lib.hid hCh
      by_cases hlt : j < 3
      · have hpc := hPL.out j hlt
        have hpl := HMEM.out j
        obtain ⟨P, hP⟩ : ∃ P, P = K.getD j [] := ⟨_, rfl⟩
        rw [← hP] at hpc hpl
        have cP : wr.cell? ⟨A, o + j, none⟩ = some (.string (bs P)) := (World.cell?_of_block (hCh.block A hA (fun h => hAN h))).trans hpc
        have hAV : A < wr.heap.size := Nat.lt_of_lt_of_le hA hCh.size
        have jn : (0 : Int) ≤ (j : Int) := by omega
        have j3 : (j : Int) < 3 := by omega
        have HP := Lib.hid hP
        have EN := Lib.hid (ends31_any P hpl)
        unfold endsV at EN
        clear hpc hP hI hPL hZ hBV hCh hZ1
        rcases ends_cases P with ⟨hbad, h170⟩ | ⟨a, b, i1, i2, lo, hi, hE, sa, sb, la, lb, hiv, hlo, hhi⟩
        · obtain ⟨x1, hx1⟩ : ∃ x, x = bs (endsD P).1 := ⟨_, rfl⟩
          obtain ⟨x2, hx2⟩ : ∃ x, x = (endsD P).2.1 := ⟨_, rfl⟩
          obtain ⟨x3, hx3⟩ : ∃ x, x = bs (endsD P).2.2.1 := ⟨_, rfl⟩
          obtain ⟨x4, hx4⟩ : ∃ x, x = (endsD P).2.2.2.1 := ⟨_, rfl⟩
          rw [← hx1, ← hx2, ← hx3, ← hx4, hbad] at EN
          have hz : zoneE l = 170 := by
            unfold zoneE
            rw [← HK.out]
            have h3 := H3.out
            have hP := HP.out
            match K, h3 with
            | [a, b, c], _ =>
              refine (if_pos (c := (ivR a).1 = 170 ∨ (ivR b).1 = 170 ∨ (ivR c).1 = 170) ?_)
              rcases (show j = 0 ∨ j = 1 ∨ j = 2 by omega) with rfl | rfl | rfl
              · exact .inl (by rw [show a = P from hP.symm]; exact h170)
              · exact .inr (.inl (by rw [show b = P from hP.symm]; exact h170))
              · exact .inr (.inr (by rw [show c = P from hP.symm]; exact h170))
          have HZE := Lib.hid hz
          clear hx1 hx2 hx3 hx4 hbad h170 hz
          go_wp2_with (fail)
          refine (EN.out _).mono ?_; rintro e' w' ⟨rfl, p1, rfl⟩
          go_wp2_with (fail)
          refine bodyPost_ret (by simp [results, Tryz.results36, go_sem, r0, r1, r2, r3, r4, r5]; try rfl) rfl ?_
          exact ⟨f, gives_end (by rw [HZE.out]; rfl) (by have := HBV.out; (repeat' (first | (with_reducible assumption) | (with_reducible exact Below.refl _ _) | (with_reducible refine below_wov ?_ ?_ _) | (with_reducible refine below_drewN ?_ _) | (with_reducible refine Below.drew ?_) | (with_reducible refine Below.alloc ?_ ?_ _) | (with_reducible refine Below.setCell ?_ ?_ _) | (with_reducible exact Nat.le_refl _) | omega | (simp only [World.size_alloc, World.size_setCell, World.size_drew, Wov_size, World.heap_drewN]; omega)))), hF, fun h => by rw [HZE.out] at h; exact absurd h (by decide)⟩
        · rw [hE] at EN
          simp only at EN
          have BL := Lib.hid (bound31_any a sa (-1) (.inr rfl) i1 (Nat.le_trans la hpl))
          have BH := Lib.hid (bound31_any b sb 1 (.inl rfl) i2 (Nat.le_trans lb hpl))
          have fl := bndD_fits a (s := -1) (.inr rfl) i1
          have fh := bndD_fits b (s := 1) (.inl rfl) i2
          have el := bndD_err a (-1) i1
          have eh := bndD_err b 1 i2
          obtain ⟨⟨bl, xf⟩, hbl⟩ : ∃ r, r = bndD a (-1) i1 := ⟨_, rfl⟩
          obtain ⟨⟨bh, xg⟩, hbh⟩ : ∃ r, r = bndD b 1 i2 := ⟨_, rfl⟩
          rw [← hbl] at BL fl el hiv hlo
          rw [← hbh] at BH fh eh hiv hhi
          simp only at BL fl el BH fh eh hiv hlo hhi
          have hF2 : FitsZ (upd (upd f (2 * j) bh) (2 * j + 1) bl) := fits_upd (fits_upd hF fh) fl
          have HF2 := Lib.hid hF2
          have hmx := zone_max HI.out.1 el eh
          have hrel := one_rel (e := e) (g := max xf xg) (bh := bh) (bl := bl) (f := f) HP.out HI.out (by rw [hiv]) (by omega) (fun h0 => by
            rw [hiv] at h0 ⊢
            simp only at h0 ⊢
            exact ⟨(hlo (by omega)).symm, (hhi (by omega)).symm⟩)
          rw [← hmx] at hrel
          have HREL := Lib.hid hrel
          obtain ⟨m, hm⟩ : ∃ m : Nat, m = 2 * j := ⟨_, rfl⟩
          have c0 := (HZ.out.holds m (by omega)).1
          have c1 := (HZ.out.holds (m + 1) (by omega)).1
          have d0 := (HZ.out.holds m (by omega)).2
          have d1 := (HZ.out.holds (m + 1) (by omega)).2
          have m0 : (0 : Int) ≤ (m : Int) := by omega
          have m6 : (m : Int) < 6 := by omega
          have n6 : m < 6 := by omega
          have m7 : (m : Int) + 1 < 6 := by omega
          have n7 : m + 1 < 6 := by omega
          have m8 : (0 : Int) ≤ (m : Int) + 1 := by omega
          have wm : IntKind.i64.wrap (2 * (j : Int)) = (m : Int) := by rw [IntKind.wrap_i64]; omega
          have wm1 : IntKind.i64.wrap ((m : Int) + 1) = (m : Int) + 1 := by rw [IntKind.wrap_i64]; omega
          have wm2 : wrap64 (2 * (j : Int)) = (m : Int) := wrap64_id' (by omega) (by omega) (by omega)
          have wm3 : wrap64 ((m : Int) + 1) = (m : Int) + 1 := wrap64_id (by omega) (by omega)
          have tm1 : ((m : Int) + 1).toNat = m + 1 := by omega
          have HM := Lib.hid hm
          have hcases : (xf ≠ 0 ∨ xg ≠ 0) ∧ (((xf != 0) = true) ∨ ((xf != 0) = false ∧ (xg != 0) = true)) ∨ ¬ (xf ≠ 0 ∨ xg ≠ 0) ∧ (xf != 0) = false ∧ (xg != 0) = false := by
            rcases el with rfl | rfl <;> rcases eh with rfl | rfl <;> simp
          clear hE sa sb la lb hiv hlo hhi fl fh el eh hbl hbh hF2 hmx hrel hm a0 a1 a2 a3 a4 a5 f0 f1 f2 f3 f4 f5 r0 r1 r2 r3 r4 r5 s0 s1 s2 s3 s4 s5
          go_wp2_with (fail)
          refine (EN.out _).mono ?_; rintro e' w' ⟨rfl, p1, rfl⟩
          go_wp2_with (fail)
          refine (BL.out _).mono ?_; rintro e' w' ⟨rfl, p2, rfl⟩
          go_wp2_with (fail)
          refine (BH.out _).mono ?_; rintro e' w' ⟨rfl, p3, rfl⟩
          rcases hcases with ⟨hx, hy⟩ | ⟨hx, hy1, hy2⟩
          · rcases hy with hy1 | ⟨hy1, hy2⟩
            · skip
              go_wp2_with (fail)
              go_roundw
              case rel =>
                refine ⟨j + 1, 151, upd (upd f (2 * j) bh) (2 * j + 1) bl, by omega, rfl, by go_num, by have := HBV.out; (repeat' (first | (with_reducible assumption) | (with_reducible exact Below.refl _ _) | (with_reducible refine below_wov ?_ ?_ _) | (with_reducible refine below_drewN ?_ _) | (with_reducible refine Below.drew ?_) | (with_reducible refine Below.alloc ?_ ?_ _) | (with_reducible refine Below.setCell ?_ ?_ _) | (with_reducible exact Nat.le_refl _) | omega | (simp only [World.size_alloc, World.size_setCell, World.size_drew, Wov_size, World.heap_drewN]; omega))), ((HCH.out.trans (Chg.wov _ _ _)).trans (Chg.set _ _ _ _)).trans (Chg.set _ _ _ _), ⟨by simp only [World.size_setCell, Wov_size]; omega, ?_⟩, HF2.out, ?_⟩
                · rw [← HM.out]
                  exact ((HZ.out.below (below_Wov _ _)).holds.set (by omega) bh).set (by omega) bl
                · have := HREL.out
                  rw [if_pos hx] at this
                  exact this
              case measure => simp [intOf]; omega
            · skip
              go_wp2_with (fail)
              go_roundw
              case rel =>
                refine ⟨j + 1, 151, upd (upd f (2 * j) bh) (2 * j + 1) bl, by omega, rfl, by go_num, by have := HBV.out; (repeat' (first | (with_reducible assumption) | (with_reducible exact Below.refl _ _) | (with_reducible refine below_wov ?_ ?_ _) | (with_reducible refine below_drewN ?_ _) | (with_reducible refine Below.drew ?_) | (with_reducible refine Below.alloc ?_ ?_ _) | (with_reducible refine Below.setCell ?_ ?_ _) | (with_reducible exact Nat.le_refl _) | omega | (simp only [World.size_alloc, World.size_setCell, World.size_drew, Wov_size, World.heap_drewN]; omega))), ((HCH.out.trans (Chg.wov _ _ _)).trans (Chg.set _ _ _ _)).trans (Chg.set _ _ _ _), ⟨by simp only [World.size_setCell, Wov_size]; omega, ?_⟩, HF2.out, ?_⟩
                · rw [← HM.out]
                  exact ((HZ.out.below (below_Wov _ _)).holds.set (by omega) bh).set (by omega) bl
                · have := HREL.out
                  rw [if_pos hx] at this
                  exact this
              case measure => simp [intOf]; omega
          · skip
            · skip
              go_wp2_with (fail)
              go_roundw
              case rel =>
                refine ⟨j + 1, e, upd (upd f (2 * j) bh) (2 * j + 1) bl, by omega, rfl, by go_num, by have := HBV.out; (repeat' (first | (with_reducible assumption) | (with_reducible exact Below.refl _ _) | (with_reducible refine below_wov ?_ ?_ _) | (with_reducible refine below_drewN ?_ _) | (with_reducible refine Below.drew ?_) | (with_reducible refine Below.alloc ?_ ?_ _) | (with_reducible refine Below.setCell ?_ ?_ _) | (with_reducible exact Nat.le_refl _) | omega | (simp only [World.size_alloc, World.size_setCell, World.size_drew, Wov_size, World.heap_drewN]; omega))), ((HCH.out.trans (Chg.wov _ _ _)).trans (Chg.set _ _ _ _)).trans (Chg.set _ _ _ _), ⟨by simp only [World.size_setCell, Wov_size]; omega, ?_⟩, HF2.out, ?_⟩
                · rw [← HM.out]
                  exact ((HZ.out.below (below_Wov _ _)).holds.set (by omega) bh).set (by omega) bl
                · have := HREL.out
                  rw [if_neg hx] at this
                  exact this
              case measure => simp [intOf]; omega
      · obtain rfl : j = 3 := by omega
        have hE := one_end HK.out H3.out hI
        have MA : Hid (∀ w, Calls Tryz.prog 73 #[.agg #[.int .i64 (f 0), .int .i64 (f 1), .int .i64 (f 2), .int .i64 (f 3), .int .i64 (f 4), .int .i64 (f 5)]] w (Gives w (.bool (okZ f)))) := fun w => may8_any f w hF
        clear hI hZ hBV hCh hPL hZ1
        rcases hE with ⟨rfl, hz⟩ | ⟨rfl, hz, hzz⟩
        · have HZE := Lib.hid hz
          clear hz MA HK H3
          go_wp2_with (fail)
          refine bodyPost_ret (by simp [results, Tryz.results36, go_sem, r0, r1, r2, r3, r4, r5]; try rfl) rfl ?_
          exact ⟨f, gives_end (by rw [HZE.out]; rfl) (by have := HBV.out; (repeat' (first | (with_reducible assumption) | (with_reducible exact Below.refl _ _) | (with_reducible refine below_wov ?_ ?_ _) | (with_reducible refine below_drewN ?_ _) | (with_reducible refine Below.drew ?_) | (with_reducible refine Below.alloc ?_ ?_ _) | (with_reducible refine Below.setCell ?_ ?_ _) | (with_reducible exact Nat.le_refl _) | omega | (simp only [World.size_alloc, World.size_setCell, World.size_drew, Wov_size, World.heap_drewN]; omega)))), hF, fun h => by rw [HZE.out] at h; exact absurd h (by decide)⟩
        · have HZE := Lib.hid hz
          have HZZ := Lib.hid hzz
          clear hz hzz HK H3
          cases hok : okZ f
          · rw [hok] at MA HZE
            clear hok
            go_wp2_with (fail)
            refine (MA.out _).mono ?_; rintro e' w' ⟨rfl, p1, rfl⟩
            go_wp2_with (fail)
            refine bodyPost_ret (by simp [results, Tryz.results36, go_sem, r0, r1, r2, r3, r4, r5]; try rfl) rfl ?_
            exact ⟨f, gives_end (by rw [HZE.out]; rfl) (by have := HBV.out; (repeat' (first | (with_reducible assumption) | (with_reducible exact Below.refl _ _) | (with_reducible refine below_wov ?_ ?_ _) | (with_reducible refine below_drewN ?_ _) | (with_reducible refine Below.drew ?_) | (with_reducible refine Below.alloc ?_ ?_ _) | (with_reducible refine Below.setCell ?_ ?_ _) | (with_reducible exact Nat.le_refl _) | omega | (simp only [World.size_alloc, World.size_setCell, World.size_drew, Wov_size, World.heap_drewN]; omega)))), hF, fun h => by rw [HZE.out] at h; exact absurd h (by decide)⟩
          · rw [hok] at MA HZE
            clear hok
            go_wp2_with (fail)
            refine (MA.out _).mono ?_; rintro e' w' ⟨rfl, p1, rfl⟩
            go_wp2_with (fail)
            refine bodyPost_ret (by simp [results, Tryz.results36, go_sem, r0, r1, r2, r3, r4, r5]; try rfl) rfl ?_
            exact ⟨f, gives_end (by rw [HZE.out]; rfl) (by have := HBV.out; (repeat' (first | (with_reducible assumption) | (with_reducible exact Below.refl _ _) | (with_reducible refine below_wov ?_ ?_ _) | (with_reducible refine below_drewN ?_ _) | (with_reducible refine Below.drew ?_) | (with_reducible refine Below.alloc ?_ ?_ _) | (with_reducible refine Below.setCell ?_ ?_ _) | (with_reducible exact Nat.le_refl _) | omega | (simp only [World.size_alloc, World.size_setCell, World.size_drew, Wov_size, World.heap_drewN]; omega)))), hF, fun _ => HZZ.out⟩
  · have hz : zoneE l = 170 := by
      unfold zoneE
      rw [← hK]
      match K, h3 with
      | [], _ => rfl
      | [_], _ => rfl
      | [_, _], _ => rfl
      | [_, _, _], h => exact absurd rfl h
      | _ :: _ :: _ :: _ :: _, _ => rfl
    have HZ := Lib.hid hz
    obtain ⟨n, hn⟩ : ∃ n, n = K.length := ⟨_, rfl⟩
    rw [← hn] at h3 PC
    have hd : ((n : Int) != 3) = true := by rw [bne_iff_ne]; omega
    clear hz hn h3 hK
    go_enter Tryz.func36, Tryz.ntmps36
    go_wp2_with (fail)
    refine (PC.out _).mono ?_; rintro e w' ⟨p, cq, ⟨rfl, q1, rfl⟩, hcq, hSl⟩
    go_wp2_with (fail)
    refine bodyPost_ret (by simp [results, Tryz.results36, go_sem]; try rfl) rfl ?_
    exact ⟨fun _ => 0, gives_end (by rw [HZ.out]; rfl) (by (repeat' (first | (with_reducible assumption) | (with_reducible exact Below.refl _ _) | (with_reducible refine below_wov ?_ ?_ _) | (with_reducible refine below_drewN ?_ _) | (with_reducible refine Below.drew ?_) | (with_reducible refine Below.alloc ?_ ?_ _) | (with_reducible refine Below.setCell ?_ ?_ _) | (with_reducible exact Nat.le_refl _) | omega | (simp only [World.size_alloc, World.size_setCell, World.size_drew, Wov_size, World.heap_drewN]; omega)))), fun i _ => (by decide : fits64 0), fun h => by rw [HZ.out] at h; exact absurd h (by decide)⟩
#print axioms zone31_any
end Go.Proofs.YtpmpapenjcemjaaGreatDoor

namespace Go.Proofs.YtpmpapenjcemjaaGreatDoor
set_option linter.unusedSimpArgs false
set_option linter.unusedVariables false
open Go Go.RowKit Go.Shelf
attribute [local go_sem] Nat.add_assoc Nat.add_lt_add_iff_left lit_lt_add

set_option maxRecDepth 10000 in
set_option maxHeartbeats 2000000 in
theorem parse31_early (S : ByteArray) (w : World) (e : Int) (h : (1048576 < S.size ∧ e = 3) ∨ (S.size = 0 ∧ S.toList.isEmpty = true ∧ e = 0)) : Calls Tryz.prog 16 #[.string S] w (zpC w ([], 0, e)) := by
  unfold zpC
  rcases h with ⟨h, rfl⟩ | ⟨h, h2, rfl⟩
  · have h1 : (1048576 : Int) < (S.size : Int) := by omega
    have d1 : decide ((1048576 : Int) < (S.size : Int)) = true := decide_eq_true h1
    clear h h1
    go_enter Tryz.func16, Tryz.ntmps16
    go_wp2
    refine bodyPost_ret (by simp [results, Tryz.results16, go_sem]; try rfl) rfl ?_
    exact ⟨⟨none, 0, rfl, fun _ => rfl, .inl rfl⟩, Wov_of_below (by (repeat' (first | (with_reducible assumption) | (with_reducible exact Below.refl _ _) | (with_reducible refine below_wov ?_ ?_ _) | (with_reducible refine below_drewN ?_ _) | (with_reducible refine Below.drew ?_) | (with_reducible refine Below.alloc ?_ ?_ _) | (with_reducible refine Below.setCell ?_ ?_ _) | (with_reducible exact Nat.le_refl _) | omega | (simp only [World.size_alloc, World.size_setCell, World.size_drew, Wov_size, World.heap_drewN]; omega))))⟩
  · have h1 : ¬ (1048576 : Int) < (S.size : Int) := by omega
    have d1 : decide ((1048576 : Int) < (S.size : Int)) = false := decide_eq_false h1
    clear h1
    go_enter Tryz.func16, Tryz.ntmps16
    go_wp2
    refine bodyPost_ret (by simp [results, Tryz.results16, go_sem]; try rfl) rfl ?_
    exact ⟨⟨none, 0, rfl, fun _ => rfl, .inl rfl⟩, Wov_of_below (by (repeat' (first | (with_reducible assumption) | (with_reducible exact Below.refl _ _) | (with_reducible refine below_wov ?_ ?_ _) | (with_reducible refine below_drewN ?_ _) | (with_reducible refine Below.drew ?_) | (with_reducible refine Below.alloc ?_ ?_ _) | (with_reducible refine Below.setCell ?_ ?_ _) | (with_reducible exact Nat.le_refl _) | omega | (simp only [World.size_alloc, World.size_setCell, World.size_drew, Wov_size, World.heap_drewN]; omega))))⟩
set_option maxRecDepth 10000 in
set_option maxHeartbeats 2000000 in
theorem parse31_many (S : ByteArray) (w : World) (k : Nat) (CU : Hid (∀ w, Calls Tryz.prog 35 #[.string S, .int .u8 32] w (fun e w' => ∃ p cq, Gives w (.slice p k cq) e w'))) (h1 : S.size ≤ 1048576) (h2 : S.toList.isEmpty = false) (hk : 4096 < k) : Calls Tryz.prog 16 #[.string S] w (zpC w ([], 0, 4)) := by
  unfold zpC
  have d1 : decide ((1048576 : Int) < (S.size : Int)) = false := decide_eq_false (by omega)
  have d2 : decide ((4096 : Int) < (k : Int)) = true := decide_eq_true (by omega)
  clear h1 hk
  go_enter Tryz.func16, Tryz.ntmps16
  go_wp2_with (fail)
  refine (CU.out _).mono ?_; rintro e w' ⟨p, cq, rfl, q1, rfl⟩
  go_wp2
  refine bodyPost_ret (by simp [results, Tryz.results16, go_sem]; try rfl) rfl ?_
  exact ⟨⟨none, 0, rfl, fun _ => rfl, .inl rfl⟩, Wov_of_below (by (repeat' (first | (with_reducible assumption) | (with_reducible exact Below.refl _ _) | (with_reducible refine below_wov ?_ ?_ _) | (with_reducible refine below_drewN ?_ _) | (with_reducible refine Below.drew ?_) | (with_reducible refine Below.alloc ?_ ?_ _) | (with_reducible refine Below.setCell ?_ ?_ _) | (with_reducible exact Nat.le_refl _) | omega | (simp only [World.size_alloc, World.size_setCell, World.size_drew, Wov_size, World.heap_drewN]; omega))))⟩
theorem at_nums (aT : Int) (mx m : Nat) (h0 : 0 ≤ aT) (h1 : aT ≤ (m : Int) + 1) (hm : m ≤ 900000) (hx : mx ≤ m) : wrap64 (aT + (mx : Int)) = aT + (mx : Int) ∧ wrap64 (aT + (mx : Int) + 1) = aT + ((mx : Int) + 1) ∧ wrap64 (aT + ((mx : Int) + 1)) = aT + ((mx : Int) + 1) :=
  ⟨wrap64_id (by omega) (by omega), wrap64_id' (by omega) (by omega) (by omega), wrap64_id (by omega) (by omega)⟩
set_option maxRecDepth 100000 in
set_option maxHeartbeats 8000000 in
theorem parse31_in (l : List UInt8) (hl : l.length ≤ 900000) (hne : l ≠ []) (hc : (splitB 32 l).length ≤ 4096) (w : World) :
    Calls Tryz.prog 16 #[.string (bs l)] w (zpC w (readT (splitB 32 l) 0 [])) := by
  obtain ⟨P, hP⟩ : ∃ P, P = splitB 32 l := ⟨_, rfl⟩
  have hPl : ∀ x, x ∈ P → x.length ≤ l.length := fun x hx => split_mem_len (by rw [← hP]; exact hx)
  have hAt : ∀ t, 0 ≤ atT (P.take t) ∧ atT (P.take t) ≤ (l.length : Int) + 1 := fun t => atT_le (q := P.drop t) (by rw [← hP, List.take_append_drop])
  have CU := Lib.hid (cut31_any l 32 hl)
  rw [← hP] at CU hc ⊢
  obtain ⟨⟨RL, RA, RE⟩, hR⟩ : ∃ R, Hid (R = readT P 0 []) := ⟨_, rfl⟩
  rw [← hR.out]
  unfold zpC
  dsimp only
  have ZO : Hid (∀ x, x ∈ P → ∀ w, Calls Tryz.prog 36 #[.string (bs x)] w (fun e w' => ∃ z : Nat → Int, Gives w (.tuple #[zoneV z, .int .i64 (zoneE x)]) e w' ∧ FitsZ z ∧ (zoneE x = 0 → ∀ i, i < 6 → z i = zoneZ x i))) := fun x hx w => zone31_any x (Nat.le_trans (hPl x hx) hl) w
  unfold zoneV at ZO
  have hsz := bs_size l
  have d1 : decide ((1048576 : Int) < ((bs l).size : Int)) = false := by rw [hsz]; exact decide_eq_false (by omega)
  have d2 : (bs l).toList.isEmpty = false := by
    rw [Lib.toList_data, bs_list]
    cases l with
    | nil => exact absurd rfl hne
    | cons => rfl
  obtain ⟨n, hn⟩ : ∃ n, n = P.length := ⟨_, rfl⟩
  have hn1 : 1 ≤ n := by
    rw [hn, hP]
    cases hs : splitB 32 l with
    | nil => exact absurd hs (splitB_ne 32 l)
    | cons => simp
  rw [← hn] at CU hc
  have d3 : decide ((4096 : Int) < (n : Int)) = false := decide_eq_false (by omega)
  obtain ⟨S, hS⟩ : ∃ S, S = bs l := ⟨_, rfl⟩
  rw [← hS] at CU d1 d2 ⊢
  have Hn := Lib.hid hn
  have HAT := Lib.hid hAt
  have HPL := Lib.hid hPl
  clear hP hPl hAt hn hS hsz hne
  go_enter Tryz.func16, Tryz.ntmps16
  go_wp2_with (fail)
  refine (CU.out _).mono ?_; rintro e w' ⟨p, cq, ⟨rfl, q1, rfl⟩, hcq, hSl⟩
  obtain ⟨A, o, rfl, hA, hcell⟩ := hSl.resolve_left (fun h => by have := Hn.out; rw [h] at this; simp at this; omega)
  go_upto_region 6 with (fail)
  (try simp only [drew_Wov, Wov_Wov, Array.append_assoc] at hA hcell)
  refine wp_world (fun X => Below w.heap.size w X ∧ A < X.heap.size ∧ ∀ j x, P[j]? = some x → X.cell? ⟨A, o + j, none⟩ = some (.string (bs x))) ⟨by (repeat' (first | (with_reducible assumption) | (with_reducible exact Below.refl _ _) | (with_reducible refine below_wov ?_ ?_ _) | (with_reducible refine below_drewN ?_ _) | (with_reducible refine Below.drew ?_) | (with_reducible refine Below.alloc ?_ ?_ _) | (with_reducible refine Below.setCell ?_ ?_ _) | (with_reducible exact Nat.le_refl _) | omega | (simp only [World.size_alloc, World.size_setCell, World.size_drew, Wov_size, World.heap_drewN]; omega))), hA, hcell⟩ ?_
  clear hA hcell CU hcq d1 d2
  rintro W1 ⟨hB1, hA, hcell⟩
  have HC := Lib.hid hcell
  have HB1 := Lib.hid hB1
  have sB1 := hB1.size
  clear hcell hB1
  go_wp2_with (fail)
  go_loopw [6, 7, 8] (fun s6 s7 s8 V => ∃ (t : Nat) (v : Value), t ≤ n ∧ v = s6 ∧ s7 = .int .i64 (atT (P.take t)) ∧ s8 = .int .i64 t ∧ Below W1.heap.size W1 V ∧ Hid ((∀ x, x ∈ P.take t → zoneE x = 0) ∧ V.ownsRow W1.heap.size 49 6 v ((P.take t).map zoneZ).length (cellsZ ((P.take t).map zoneZ))))
    (fun _ _ s8 _ => n - (intOf s8).toNat)
  case atStart => exact ⟨0, _, Nat.zero_le _, rfl, by simp [atT], rfl, Below.refl _ _, ⟨fun x hx => by simp at hx, by rw [List.take_zero]; exact World.ownsRow_nil _ _ _ _⟩⟩
  case round =>
    obtain ⟨t, v, ht, rfl, rfl, rfl, hB, hI⟩ := hrel
    have szr := hB.size
    by_cases hlt : t < n
    · have htP : t < P.length := by rw [← Hn.out]; exact hlt
      obtain ⟨x, hx⟩ : ∃ x, x = P[t] := ⟨_, rfl⟩
      have hxs : P[t]? = some x := by rw [hx]; exact List.getElem?_eq_getElem htP
      have hxm : x ∈ P := List.mem_of_getElem? hxs
      have htk : P.take (t + 1) = P.take t ++ [x] := by rw [List.take_add_one, hxs]; rfl
      have hcx : Hid (∀ X, Below W1.heap.size W1 X → X.cell? ⟨A, o + t, none⟩ = some (.string (bs x)) ∧ A < X.heap.size) := fun X hb => ⟨(hb.cell (p := ⟨A, o + t, none⟩) hA).trans (HC.out t x hxs), Nat.lt_of_lt_of_le hA hb.size⟩
      obtain ⟨cx, lx⟩ := hcx.out wr hB
      have ZX := Lib.hid (ZO.out x hxm)
      have hxl := HPL.out x hxm
      obtain ⟨a0, a1⟩ := HAT.out t
      have hszx := bs_size x
      obtain ⟨mx, hmx⟩ : ∃ m, m = x.length := ⟨_, rfl⟩
      rw [← hmx] at hxl hszx
      obtain ⟨aT, haT⟩ : ∃ a, a = atT (P.take t) := ⟨_, rfl⟩
      rw [← haT] at a0 a1 ⊢
      obtain ⟨b1, b2, b3⟩ := at_nums aT mx l.length a0 a1 hl hxl
      have eT : Hid (atT (P.take (t + 1)) = aT + ((mx : Int) + 1)) := by
        show _ = _
        rw [htk, atT_snoc, haT, hmx]
      have HAT2 := Lib.hid haT
      have HTK := Lib.hid htk
      have HSPL : Hid (P = P.take t ++ x :: P.drop (t + 1)) := by
        show _ = _
        rw [← List.singleton_append, ← List.append_assoc, ← htk, List.take_append_drop]
      obtain ⟨SX, hSX⟩ : ∃ S, S = bs x := ⟨_, rfl⟩
      rw [← hSX] at cx ZX hszx
      have HSX := Lib.hid hSX
      have t0 : (0 : Int) ≤ (t : Int) := by omega
      have t1 : (t : Int) < (n : Int) := by omega
      have HB := Lib.hid hB
      clear hx hxs hxm htk a0 a1 hmx haT hSX hB
      by_cases he : zoneE x = 0
      · rw [he] at ZX
        obtain ⟨Y, hY⟩ : ∃ Y, Y = zoneZ x := ⟨_, rfl⟩
        rw [← hY] at ZX
        have HY := Lib.hid hY
        have HE := Lib.hid he
        have B1 := Lib.hid b1
        have B2 := Lib.hid b2
        have B3 := Lib.hid b3
        clear hY he b1 b2 b3
        go_wp2_with (fail)
        refine (ZX.out _).mono ?_; rintro e w' ⟨z, ⟨rfl, p1, rfl⟩, fz, hz⟩
        have HZZ := Lib.hid (hz (by simp))
        clear hz
        go_upto_region 14 with (fail)
        obtain ⟨Z, hZ⟩ : ∃ Z, Z = wr.heap.size + p1.bl.size := ⟨_, rfl⟩
        rw [← hZ]
        refine wp_world (fun V => Below W1.heap.size W1 V ∧ BoxZ V Z z ∧ V.ownsRow W1.heap.size 49 6 v ((P.take t).map zoneZ).length (cellsZ ((P.take t).map zoneZ))) ⟨by have := HB.out; (repeat' (first | (with_reducible assumption) | (with_reducible exact Below.refl _ _) | (with_reducible refine below_wov ?_ ?_ _) | (with_reducible refine below_drewN ?_ _) | (with_reducible refine Below.drew ?_) | (with_reducible refine Below.alloc ?_ ?_ _) | (with_reducible refine Below.setCell ?_ ?_ _) | (with_reducible exact Nat.le_refl _) | omega | (simp only [World.size_alloc, World.size_setCell, World.size_drew, Wov_size, World.heap_drewN]; omega))), BoxZ.new (W := Wov wr p1) (t := 49) (by rw [hZ, Wov_size]), rowS_below hI.out.2 (by (repeat' (first | (with_reducible assumption) | (with_reducible exact Below.refl _ _) | (with_reducible refine below_wov ?_ ?_ _) | (with_reducible refine below_drewN ?_ _) | (with_reducible refine Below.drew ?_) | (with_reducible refine Below.alloc ?_ ?_ _) | (with_reducible refine Below.setCell ?_ ?_ _) | (with_reducible exact Nat.le_refl _) | omega | (simp only [World.size_alloc, World.size_setCell, World.size_drew, Wov_size, World.heap_drewN]; omega))))⟩ ?_
        have HI1 := Lib.hid hI.out.1
        have hlen : ((P.take t).map zoneZ).length ≤ 4096 := by rw [List.length_map, List.length_take]; omega
        clear cx lx hZ hI
        rintro V ⟨hB2, hbz, hrow⟩
        have hsV := hB2.size
        have lz := hbz.lt
        have z0 := hbz.c0
        have z1 := hbz.c1
        have z2 := hbz.c2
        have z3 := hbz.c3
        have z4 := hbz.c4
        have z5 := hbz.c5
        have HROW := Lib.hid hrow
        obtain ⟨cx, lx⟩ := hcx.out V hB2
        rw [← HSX.out] at cx
        have b1 := B1.out
        have b2 := B2.out
        have b3 := B3.out
        clear hrow hbz szr fz
        go_wp2_with (at_builtin; refine wpList_appZ _ W1.heap.size rfl (.tmp 39) (.tmp 41) rfl rfl v ((P.take t).map zoneZ) [z] rfl (rowS_below HROW.out (by (repeat' (first | (with_reducible assumption) | (with_reducible exact Below.refl _ _) | (with_reducible refine below_wov ?_ ?_ _) | (with_reducible refine below_drewN ?_ _) | (with_reducible refine Below.drew ?_) | (with_reducible refine Below.alloc ?_ ?_ _) | (with_reducible refine Below.setCell ?_ ?_ _) | (with_reducible exact Nat.le_refl _) | omega | (simp only [World.size_alloc, World.size_setCell, World.size_drew, Wov_size, World.heap_drewN]; omega))))) (some ⟨_, 0, none⟩) 1 rfl (fun h => by cases h) slz_one (by simp only [List.length_singleton]; omega) (by (first | omega | ((simp only [World.size_alloc, World.size_setCell, World.size_drew, Wov_size, World.heap_drewN, Array.size_append]) <;> omega))) ?_; intro v1 w1 ho1 hg1; have hx1 := rowS_grown (n := W1.heap.size) (rowS_below HROW.out (by (repeat' (first | (with_reducible assumption) | (with_reducible exact Below.refl _ _) | (with_reducible refine below_wov ?_ ?_ _) | (with_reducible refine below_drewN ?_ _) | (with_reducible refine Below.drew ?_) | (with_reducible refine Below.alloc ?_ ?_ _) | (with_reducible refine Below.setCell ?_ ?_ _) | (with_reducible exact Nat.le_refl _) | omega | (simp only [World.size_alloc, World.size_setCell, World.size_drew, Wov_size, World.heap_drewN]; omega))))) (Below.refl _ _) hg1 (by (first | omega | ((simp only [World.size_alloc, World.size_setCell, World.size_drew, Wov_size, World.heap_drewN, Array.size_append]) <;> omega))); have hw1 : Below W1.heap.size W1 w1 := (by refine Below.trans ?_ hx1; (repeat' (first | (with_reducible assumption) | (with_reducible exact Below.refl _ _) | (with_reducible refine below_wov ?_ ?_ _) | (with_reducible refine below_drewN ?_ _) | (with_reducible refine Below.drew ?_) | (with_reducible refine Below.alloc ?_ ?_ _) | (with_reducible refine Below.setCell ?_ ?_ _) | (with_reducible exact Nat.le_refl _) | omega | (simp only [World.size_alloc, World.size_setCell, World.size_drew, Wov_size, World.heap_drewN]; omega)))); have HO1 := Lib.hid ho1; obtain ⟨cx1, lx1⟩ := hcx.out w1 hw1; rw [← HSX.out] at cx1; clear ho1 hg1 hx1 z0 z1 z2 z3 z4 z5)
        go_roundw
        case rel =>
          refine ⟨t + 1, v1, hlt, rfl, by rw [eT.out, B2.out], by go_num, hw1, ⟨fun y hy => ?_, ?_⟩⟩
          · rw [HTK.out] at hy
            rcases List.mem_append.1 hy with hy | hy
            · exact HI1.out y hy
            · rw [List.mem_singleton] at hy; rw [hy]; exact HE.out
          · have := HO1.out
            rw [HTK.out, List.map_append, cellsZ_app, List.length_append]
            rw [cellsZ_app, List.length_append] at this
            have hz : cellsZ [z] = cellsZ [zoneZ x] := by
              rw [← cellsZ_single (z := z) (y := zoneZ x) (fun i hi => by rw [HZZ.out i hi, HY.out])]
              rfl
            rw [hz] at this
            exact this
        case measure => simp [intOf]; omega
      · obtain ⟨E, hE⟩ : ∃ E, E = zoneE x := ⟨_, rfl⟩
        rw [← hE] at ZX he
        have hRR := read_err x (P.drop (t + 1)) (by rw [← hE]; exact he) (P.take t) 0 [] hI.out.1
        rw [← HSPL.out, ← hR.out, Int.zero_add, ← HAT2.out, ← hE] at hRR
        simp only [Prod.mk.injEq] at hRR
        have hb : (E != 0) = true := by rw [bne_iff_ne]; exact he
        obtain ⟨h1, h2, h3⟩ := hRR
        clear hE he hI hR HAT2 eT b1 b2 b3
        subst h1 h2 h3
        go_wp2_with (fail)
        refine (ZX.out _).mono ?_; rintro e w' ⟨z, ⟨rfl, p1, rfl⟩, fz, hz⟩
        clear hz
        go_wp2_with (fail)
        refine bodyPost_ret (by simp [results, Tryz.results16, go_sem]; try rfl) rfl ?_
        refine ⟨⟨none, 0, rfl, fun _ => rfl, .inl rfl⟩, Wov_of_below ?_⟩
        have h1 := HB1.out
        have h2 := HB.out.mono sB1
        have h3 := h1.trans h2
        (repeat' (first | (with_reducible assumption) | (with_reducible exact Below.refl _ _) | (with_reducible refine below_wov ?_ ?_ _) | (with_reducible refine below_drewN ?_ _) | (with_reducible refine Below.drew ?_) | (with_reducible refine Below.alloc ?_ ?_ _) | (with_reducible refine Below.setCell ?_ ?_ _) | (with_reducible exact Nat.le_refl _) | omega | (simp only [World.size_alloc, World.size_setCell, World.size_drew, Wov_size, World.heap_drewN]; omega)))
    · obtain rfl : t = n := by omega
      have htk : P.take t = P := List.take_of_length_le (by rw [Hn.out]; exact Nat.le_refl _)
      rw [htk] at hI
      have hRR := read_all P 0 [] hI.out.1
      rw [← hR.out, List.nil_append] at hRR
      simp only [Prod.mk.injEq] at hRR
      obtain ⟨rfl, rfl, rfl⟩ := hRR
      have hro := hI.out.2
      have hBB := HB1.out.trans (hB.mono sB1)
      obtain ⟨p2, c2, rfl, hpc, ho⟩ := ownZ_of_row (w := w) hro sB1
      have HO := Lib.hid ho
      have HBB := Lib.hid hBB
      clear hI hR hro hBB ho ZO HC HPL HAT
      go_wp2_with (fail)
      refine bodyPost_ret (by simp [results, Tryz.results16, go_sem]; try rfl) rfl ?_
      exact ⟨⟨p2, c2, by rw [List.length_map], hpc, HO.out⟩, Wov_of_below HBB.out⟩
theorem parse31_any (l : List UInt8) (hl : l.length ≤ 900000 ∨ 1048576 < l.length) (w : World) : Calls Tryz.prog 16 #[.string (bs l)] w (zpC w (parseT l)) := by
  have hsz := bs_size l
  unfold parseT
  by_cases h1 : 1048576 < l.length
  · rw [if_pos h1]
    exact parse31_early (bs l) w 3 (.inl ⟨by rw [hsz]; exact h1, rfl⟩)
  · rw [if_neg h1]
    by_cases h2 : l = []
    · rw [if_pos h2]
      subst h2
      exact parse31_early (bs []) w 0 (.inr ⟨rfl, by rw [Lib.toList_data, bs_list]; rfl, rfl⟩)
    · rw [if_neg h2]
      by_cases h3 : 4096 < (splitB 32 l).length
      · rw [if_pos h3]
        refine parse31_many (bs l) w (splitB 32 l).length (fun w => (cut31_any l 32 (hl.resolve_right h1) w).mono fun e w' ⟨p, cq, hg, _, _⟩ => ⟨p, cq, hg⟩) (by rw [hsz]; omega) ?_ h3
        rw [Lib.toList_data, bs_list]
        cases l with
        | nil => exact absurd rfl h2
        | cons => rfl
      · rw [if_neg h3]
        exact parse31_in l (hl.resolve_right h1) h2 (by omega) w
#print axioms parse31_any
end Go.Proofs.YtpmpapenjcemjaaGreatDoor
