/- The document's signals: contracts of its bytes and names. No condition. The document's names: contracts of rallentandoref15.word, Name, rallentandoref16.At, MayNames. No condition but on the count of names. The document's names: contracts of rallentandoref15.Name, rallentandoref16.At, MayNames, GreatNames. No condition but on the count of names. The document's signals: contracts of its 'is' and 'number'. No condition but on sizes. -/
import Derived.Test.YtccbhblklhmcpaaGreatDoorQB
namespace Go.Proofs.YtccbhblklhmcpaaGreatDoor
set_option linter.unusedSimpArgs false
set_option linter.unusedVariables false
open Go Go.RowKit
attribute [local go_sem] Nat.add_assoc Nat.add_lt_add_iff_left lit_lt_add

theorem letter15_any (c : UInt8) : Pure Tryz.prog 58 #[.int .u8 c.toNat] (.bool (isL c)) := by
  intro w
  have e : isL c = decide (97 ≤ c.toNat ∧ c.toNat ≤ 122) := rfl
  rw [e]
  obtain ⟨n, hn⟩ : ∃ n, n = c.toNat := ⟨_, rfl⟩
  rw [← hn]
  clear hn e
  by_cases h1 : 97 ≤ n
  · by_cases h2 : n ≤ 122
    · have d : decide (97 ≤ n ∧ n ≤ 122) = true := decide_eq_true ⟨h1, h2⟩
      have k1 : ((n : Int) < 97) = False := by simp; omega
      have k2 : (122 < (n : Int)) = False := by simp; omega
      rw [d]
      have i1 : (97 : Int) ≤ (n : Int) := by omega
      have i2 : (n : Int) ≤ 122 := by omega
      clear h1 h2 d
      go_enter Tryz.func58, Tryz.ntmps58
      go_wp2
      all_goals
        go_ret
        exact gives_bool (by simp; try omega) (by (repeat' (first | (with_reducible assumption) | (with_reducible exact Below.refl _ _) | (with_reducible refine below_wov ?_ ?_ _) | (with_reducible refine below_drewN ?_ _) | (with_reducible refine Below.drew ?_) | (with_reducible refine Below.alloc ?_ ?_ _) | (with_reducible refine Below.setCell ?_ ?_ _) | (with_reducible exact Nat.le_refl _) | omega | (simp only [World.size_alloc, World.size_setCell, World.size_drew, Wov_size, World.heap_drewN]; omega))))
    · have d : decide (97 ≤ n ∧ n ≤ 122) = false := decide_eq_false (by omega)
      rw [d]
      have i1 : (97 : Int) ≤ (n : Int) := by omega
      have i2 : (122 : Int) < (n : Int) := by omega
      clear h1 h2 d
      go_enter Tryz.func58, Tryz.ntmps58
      go_wp2
      all_goals
        go_ret
        exact gives_bool (by simp; try omega) (by (repeat' (first | (with_reducible assumption) | (with_reducible exact Below.refl _ _) | (with_reducible refine below_wov ?_ ?_ _) | (with_reducible refine below_drewN ?_ _) | (with_reducible refine Below.drew ?_) | (with_reducible refine Below.alloc ?_ ?_ _) | (with_reducible refine Below.setCell ?_ ?_ _) | (with_reducible exact Nat.le_refl _) | omega | (simp only [World.size_alloc, World.size_setCell, World.size_drew, Wov_size, World.heap_drewN]; omega))))
  · have d : decide (97 ≤ n ∧ n ≤ 122) = false := decide_eq_false (by omega)
    rw [d]
    have i1 : (n : Int) < 97 := by omega
    clear h1 d
    go_enter Tryz.func58, Tryz.ntmps58
    go_wp2
    all_goals
      go_ret
      exact gives_bool (by simp; try omega) (by (repeat' (first | (with_reducible assumption) | (with_reducible exact Below.refl _ _) | (with_reducible refine below_wov ?_ ?_ _) | (with_reducible refine below_drewN ?_ _) | (with_reducible refine Below.drew ?_) | (with_reducible refine Below.alloc ?_ ?_ _) | (with_reducible refine Below.setCell ?_ ?_ _) | (with_reducible exact Nat.le_refl _) | omega | (simp only [World.size_alloc, World.size_setCell, World.size_drew, Wov_size, World.heap_drewN]; omega))))
theorem digit15_any (c : UInt8) : Pure Tryz.prog 59 #[.int .u8 c.toNat] (.bool (isD c)) := by
  intro w
  have e : isD c = decide (48 ≤ c.toNat ∧ c.toNat ≤ 57) := rfl
  rw [e]
  obtain ⟨n, hn⟩ : ∃ n, n = c.toNat := ⟨_, rfl⟩
  rw [← hn]
  clear hn e
  by_cases h1 : 48 ≤ n
  · by_cases h2 : n ≤ 57
    · have d : decide (48 ≤ n ∧ n ≤ 57) = true := decide_eq_true ⟨h1, h2⟩
      have k1 : ((n : Int) < 48) = False := by simp; omega
      have k2 : (57 < (n : Int)) = False := by simp; omega
      rw [d]
      have i1 : (48 : Int) ≤ (n : Int) := by omega
      have i2 : (n : Int) ≤ 57 := by omega
      clear h1 h2 d
      go_enter Tryz.func59, Tryz.ntmps59
      go_wp2
      all_goals
        go_ret
        exact gives_bool (by simp; try omega) (by (repeat' (first | (with_reducible assumption) | (with_reducible exact Below.refl _ _) | (with_reducible refine below_wov ?_ ?_ _) | (with_reducible refine below_drewN ?_ _) | (with_reducible refine Below.drew ?_) | (with_reducible refine Below.alloc ?_ ?_ _) | (with_reducible refine Below.setCell ?_ ?_ _) | (with_reducible exact Nat.le_refl _) | omega | (simp only [World.size_alloc, World.size_setCell, World.size_drew, Wov_size, World.heap_drewN]; omega))))
    · have d : decide (48 ≤ n ∧ n ≤ 57) = false := decide_eq_false (by omega)
      rw [d]
      have i1 : (48 : Int) ≤ (n : Int) := by omega
      have i2 : (57 : Int) < (n : Int) := by omega
      clear h1 h2 d
      go_enter Tryz.func59, Tryz.ntmps59
      go_wp2
      all_goals
        go_ret
        exact gives_bool (by simp; try omega) (by (repeat' (first | (with_reducible assumption) | (with_reducible exact Below.refl _ _) | (with_reducible refine below_wov ?_ ?_ _) | (with_reducible refine below_drewN ?_ _) | (with_reducible refine Below.drew ?_) | (with_reducible refine Below.alloc ?_ ?_ _) | (with_reducible refine Below.setCell ?_ ?_ _) | (with_reducible exact Nat.le_refl _) | omega | (simp only [World.size_alloc, World.size_setCell, World.size_drew, Wov_size, World.heap_drewN]; omega))))
  · have d : decide (48 ≤ n ∧ n ≤ 57) = false := decide_eq_false (by omega)
    rw [d]
    have i1 : (n : Int) < 48 := by omega
    clear h1 d
    go_enter Tryz.func59, Tryz.ntmps59
    go_wp2
    all_goals
      go_ret
      exact gives_bool (by simp; try omega) (by (repeat' (first | (with_reducible assumption) | (with_reducible exact Below.refl _ _) | (with_reducible refine below_wov ?_ ?_ _) | (with_reducible refine below_drewN ?_ _) | (with_reducible refine Below.drew ?_) | (with_reducible refine Below.alloc ?_ ?_ _) | (with_reducible refine Below.setCell ?_ ?_ _) | (with_reducible exact Nat.le_refl _) | omega | (simp only [World.size_alloc, World.size_setCell, World.size_drew, Wov_size, World.heap_drewN]; omega))))
theorem letter21_any (c : UInt8) : Pure Tryz.prog 47 #[.int .u8 c.toNat] (.bool (isL c)) := by
  intro w
  have e : isL c = decide (97 ≤ c.toNat ∧ c.toNat ≤ 122) := rfl
  rw [e]
  obtain ⟨n, hn⟩ : ∃ n, n = c.toNat := ⟨_, rfl⟩
  rw [← hn]
  clear hn e
  by_cases h1 : 97 ≤ n
  · by_cases h2 : n ≤ 122
    · have d : decide (97 ≤ n ∧ n ≤ 122) = true := decide_eq_true ⟨h1, h2⟩
      have k1 : ((n : Int) < 97) = False := by simp; omega
      have k2 : (122 < (n : Int)) = False := by simp; omega
      rw [d]
      have i1 : (97 : Int) ≤ (n : Int) := by omega
      have i2 : (n : Int) ≤ 122 := by omega
      clear h1 h2 d
      go_enter Tryz.func47, Tryz.ntmps47
      go_wp2
      all_goals
        go_ret
        exact gives_bool (by simp; try omega) (by (repeat' (first | (with_reducible assumption) | (with_reducible exact Below.refl _ _) | (with_reducible refine below_wov ?_ ?_ _) | (with_reducible refine below_drewN ?_ _) | (with_reducible refine Below.drew ?_) | (with_reducible refine Below.alloc ?_ ?_ _) | (with_reducible refine Below.setCell ?_ ?_ _) | (with_reducible exact Nat.le_refl _) | omega | (simp only [World.size_alloc, World.size_setCell, World.size_drew, Wov_size, World.heap_drewN]; omega))))
    · have d : decide (97 ≤ n ∧ n ≤ 122) = false := decide_eq_false (by omega)
      rw [d]
      have i1 : (97 : Int) ≤ (n : Int) := by omega
      have i2 : (122 : Int) < (n : Int) := by omega
      clear h1 h2 d
      go_enter Tryz.func47, Tryz.ntmps47
      go_wp2
      all_goals
        go_ret
        exact gives_bool (by simp; try omega) (by (repeat' (first | (with_reducible assumption) | (with_reducible exact Below.refl _ _) | (with_reducible refine below_wov ?_ ?_ _) | (with_reducible refine below_drewN ?_ _) | (with_reducible refine Below.drew ?_) | (with_reducible refine Below.alloc ?_ ?_ _) | (with_reducible refine Below.setCell ?_ ?_ _) | (with_reducible exact Nat.le_refl _) | omega | (simp only [World.size_alloc, World.size_setCell, World.size_drew, Wov_size, World.heap_drewN]; omega))))
  · have d : decide (97 ≤ n ∧ n ≤ 122) = false := decide_eq_false (by omega)
    rw [d]
    have i1 : (n : Int) < 97 := by omega
    clear h1 d
    go_enter Tryz.func47, Tryz.ntmps47
    go_wp2
    all_goals
      go_ret
      exact gives_bool (by simp; try omega) (by (repeat' (first | (with_reducible assumption) | (with_reducible exact Below.refl _ _) | (with_reducible refine below_wov ?_ ?_ _) | (with_reducible refine below_drewN ?_ _) | (with_reducible refine Below.drew ?_) | (with_reducible refine Below.alloc ?_ ?_ _) | (with_reducible refine Below.setCell ?_ ?_ _) | (with_reducible exact Nat.le_refl _) | omega | (simp only [World.size_alloc, World.size_setCell, World.size_drew, Wov_size, World.heap_drewN]; omega))))
theorem digit21_any (c : UInt8) : Pure Tryz.prog 46 #[.int .u8 c.toNat] (.bool (isD c)) := by
  intro w
  have e : isD c = decide (48 ≤ c.toNat ∧ c.toNat ≤ 57) := rfl
  rw [e]
  obtain ⟨n, hn⟩ : ∃ n, n = c.toNat := ⟨_, rfl⟩
  rw [← hn]
  clear hn e
  by_cases h1 : 48 ≤ n
  · by_cases h2 : n ≤ 57
    · have d : decide (48 ≤ n ∧ n ≤ 57) = true := decide_eq_true ⟨h1, h2⟩
      have k1 : ((n : Int) < 48) = False := by simp; omega
      have k2 : (57 < (n : Int)) = False := by simp; omega
      rw [d]
      have i1 : (48 : Int) ≤ (n : Int) := by omega
      have i2 : (n : Int) ≤ 57 := by omega
      clear h1 h2 d
      go_enter Tryz.func46, Tryz.ntmps46
      go_wp2
      all_goals
        go_ret
        exact gives_bool (by simp; try omega) (by (repeat' (first | (with_reducible assumption) | (with_reducible exact Below.refl _ _) | (with_reducible refine below_wov ?_ ?_ _) | (with_reducible refine below_drewN ?_ _) | (with_reducible refine Below.drew ?_) | (with_reducible refine Below.alloc ?_ ?_ _) | (with_reducible refine Below.setCell ?_ ?_ _) | (with_reducible exact Nat.le_refl _) | omega | (simp only [World.size_alloc, World.size_setCell, World.size_drew, Wov_size, World.heap_drewN]; omega))))
    · have d : decide (48 ≤ n ∧ n ≤ 57) = false := decide_eq_false (by omega)
      rw [d]
      have i1 : (48 : Int) ≤ (n : Int) := by omega
      have i2 : (57 : Int) < (n : Int) := by omega
      clear h1 h2 d
      go_enter Tryz.func46, Tryz.ntmps46
      go_wp2
      all_goals
        go_ret
        exact gives_bool (by simp; try omega) (by (repeat' (first | (with_reducible assumption) | (with_reducible exact Below.refl _ _) | (with_reducible refine below_wov ?_ ?_ _) | (with_reducible refine below_drewN ?_ _) | (with_reducible refine Below.drew ?_) | (with_reducible refine Below.alloc ?_ ?_ _) | (with_reducible refine Below.setCell ?_ ?_ _) | (with_reducible exact Nat.le_refl _) | omega | (simp only [World.size_alloc, World.size_setCell, World.size_drew, Wov_size, World.heap_drewN]; omega))))
  · have d : decide (48 ≤ n ∧ n ≤ 57) = false := decide_eq_false (by omega)
    rw [d]
    have i1 : (n : Int) < 48 := by omega
    clear h1 d
    go_enter Tryz.func46, Tryz.ntmps46
    go_wp2
    all_goals
      go_ret
      exact gives_bool (by simp; try omega) (by (repeat' (first | (with_reducible assumption) | (with_reducible exact Below.refl _ _) | (with_reducible refine below_wov ?_ ?_ _) | (with_reducible refine below_drewN ?_ _) | (with_reducible refine Below.drew ?_) | (with_reducible refine Below.alloc ?_ ?_ _) | (with_reducible refine Below.setCell ?_ ?_ _) | (with_reducible exact Nat.le_refl _) | omega | (simp only [World.size_alloc, World.size_setCell, World.size_drew, Wov_size, World.heap_drewN]; omega))))
#print axioms digit21_any
end Go.Proofs.YtccbhblklhmcpaaGreatDoor

namespace Go.Proofs.YtccbhblklhmcpaaGreatDoor
set_option linter.unusedSimpArgs false
set_option linter.unusedVariables false
open Go Go.RowKit
attribute [local go_sem] Nat.add_assoc Nat.add_lt_add_iff_left lit_lt_add

def wordB (s : List UInt8) : Bool := decide (1 ≤ s.length ∧ s.length ≤ 8) && headL s && s.tail.all isW
theorem wordB_iff (s : List UInt8) : wordB s = true ↔ wordP s := by
  unfold wordB wordP
  cases s with
  | nil => simp
  | cons c r =>
    simp only [Bool.and_eq_true, decide_eq_true_eq, List.tail_cons, List.all_cons, headL]
    constructor
    · rintro ⟨⟨⟨_, h1⟩, h2⟩, h3⟩
      exact ⟨h1, ⟨by unfold isW; rw [h2]; rfl, h3⟩, c, r, rfl, h2⟩
    · rintro ⟨h1, ⟨_, h3⟩, c', r', e, hc⟩
      simp only [List.cons.injEq] at e
      obtain ⟨rfl, rfl⟩ := e
      exact ⟨⟨⟨by simp, h1⟩, hc⟩, h3⟩
theorem name_word (s : List UInt8) : mayName s = (wordB s && !oddName s) := by
  rw [Bool.eq_iff_iff, mayName_iff, ← wordB_iff]
  simp
theorem wordB_no {s : List UInt8} {i : Nat} {x : UInt8} (h1 : 1 ≤ i) (hx : s[i]? = some x) (hn : isW x = false) : wordB s = false := by
  rw [Bool.eq_false_iff]
  intro h
  unfold wordB at h
  simp only [Bool.and_eq_true] at h
  cases s with
  | nil => cases hx
  | cons c r =>
    cases i with
    | zero => omega
    | succ i =>
      rw [List.getElem?_cons_succ] at hx
      have := List.all_eq_true.1 h.2 x (List.mem_of_getElem? hx)
      rw [hn] at this; cases this
set_option maxRecDepth 10000 in
set_option maxHeartbeats 4000000 in
theorem word_any (s : List UInt8) (hs : s.length ≤ 140737488355328) : Pure Tryz.prog 45 #[.string (bs s)] (.bool (wordB s)) := by
  intro w
  have hsz : (bs s).size = s.length := bs_size s
  have hIX := Lib.hid (bs_at s)
  have LT := Lib.hid letter15_any
  have DG := Lib.hid digit15_any
  obtain ⟨S, hS⟩ : ∃ S, S = bs s := ⟨_, rfl⟩
  obtain ⟨n, hn⟩ : ∃ n, n = s.length := ⟨_, rfl⟩
  obtain ⟨C, hC⟩ : ∃ C, C = wordB s := ⟨_, rfl⟩
  rw [← hS] at hsz hIX ⊢
  have Hn := Lib.hid hn
  have HC := Lib.hid hC
  rw [← hn] at hsz hs
  rw [← hC]
  clear hS hn hC
  by_cases h1 : n < 1
  · obtain rfl : C = false := by rw [HC.out]; unfold wordB; rw [decide_eq_false (by rw [← Hn.out]; omega)]; rfl
    have i1 : (n : Int) < 1 := by omega
    clear h1
    go_enter Tryz.func45, Tryz.ntmps45
    go_wp2_with (fail)
    all_goals
      go_ret
      exact gives_end rfl (by (repeat' (first | (with_reducible assumption) | (with_reducible exact Below.refl _ _) | (with_reducible refine below_wov ?_ ?_ _) | (with_reducible refine below_drewN ?_ _) | (with_reducible refine Below.drew ?_) | (with_reducible refine Below.alloc ?_ ?_ _) | (with_reducible refine Below.setCell ?_ ?_ _) | (with_reducible exact Nat.le_refl _) | omega | (simp only [World.size_alloc, World.size_setCell, World.size_drew, Wov_size, World.heap_drewN]; omega))))
  · by_cases h8 : 8 < n
    · obtain rfl : C = false := by rw [HC.out]; unfold wordB; rw [decide_eq_false (by rw [← Hn.out]; omega)]; rfl
      have i1 : (1 : Int) ≤ (n : Int) := by omega
      have i2 : (8 : Int) < (n : Int) := by omega
      clear h1 h8
      go_enter Tryz.func45, Tryz.ntmps45
      go_wp2_with (fail)
      all_goals
        go_ret
        exact gives_end rfl (by (repeat' (first | (with_reducible assumption) | (with_reducible exact Below.refl _ _) | (with_reducible refine below_wov ?_ ?_ _) | (with_reducible refine below_drewN ?_ _) | (with_reducible refine Below.drew ?_) | (with_reducible refine Below.alloc ?_ ?_ _) | (with_reducible refine Below.setCell ?_ ?_ _) | (with_reducible exact Nat.le_refl _) | omega | (simp only [World.size_alloc, World.size_setCell, World.size_drew, Wov_size, World.heap_drewN]; omega))))
    · obtain ⟨c, r, hcr⟩ : ∃ c r, s = c :: r := by
        cases s with
        | nil => have := Hn.out; simp at this; omega
        | cons c r => exact ⟨c, r, rfl⟩
      have g0 := hIX.out 0 c (by rw [hcr]; rfl)
      have i1 : (1 : Int) ≤ (n : Int) := by omega
      have i2 : (n : Int) ≤ 8 := by omega
      have i3 : (0 : Int) < (n : Int) := by omega
      have i4 : 0 < n := by omega
      have L0 := Lib.hid (LT.out c)
      have HS := Lib.hid hcr
      have HR : Hid (C = (isL c && r.all isW)) := by
        have e1 : decide (1 ≤ s.length ∧ s.length ≤ 8) = true := decide_eq_true (by rw [← Hn.out]; omega)
        show C = _
        rw [HC.out]; unfold wordB; rw [e1, HS.out]; rfl
      clear h1 h8 hcr
      cases hc : isL c
      · rw [hc] at L0
        obtain rfl : C = false := by rw [HR.out, hc]; rfl
        clear hc HR
        go_enter Tryz.func45, Tryz.ntmps45
        go_wp2_with (fail)
        refine (L0.out _).mono ?_; rintro e w' ⟨rfl, q1, rfl⟩
        go_wp2_with (fail)
        all_goals
          go_ret
          exact gives_end rfl (by (repeat' (first | (with_reducible assumption) | (with_reducible exact Below.refl _ _) | (with_reducible refine below_wov ?_ ?_ _) | (with_reducible refine below_drewN ?_ _) | (with_reducible refine Below.drew ?_) | (with_reducible refine Below.alloc ?_ ?_ _) | (with_reducible refine Below.setCell ?_ ?_ _) | (with_reducible exact Nat.le_refl _) | omega | (simp only [World.size_alloc, World.size_setCell, World.size_drew, Wov_size, World.heap_drewN]; omega))))
      · rw [hc] at L0
        have HR2 : Hid (C = r.all isW) := by have := HR.out; rw [hc, Bool.true_and] at this; exact this
        clear hc HR
        go_enter Tryz.func45, Tryz.ntmps45
        go_wp2_with (fail)
        refine (L0.out _).mono ?_; rintro e w' ⟨rfl, q1, rfl⟩
        go_wp2_with (fail)
        go_loopw [3] (fun s3 wr => ∃ i : Nat, s3 = .int .i64 i ∧ 1 ≤ i ∧ i ≤ n ∧ Below w.heap.size w wr ∧ Hid (∀ k x, 1 ≤ k → k < i → s[k]? = some x → isW x = true))
          (fun s3 _ => n - (intOf s3).toNat)
        case atStart => exact ⟨1, rfl, Nat.le_refl _, i4, by (repeat' (first | (with_reducible assumption) | (with_reducible exact Below.refl _ _) | (with_reducible refine below_wov ?_ ?_ _) | (with_reducible refine below_drewN ?_ _) | (with_reducible refine Below.drew ?_) | (with_reducible refine Below.alloc ?_ ?_ _) | (with_reducible refine Below.setCell ?_ ?_ _) | (with_reducible exact Nat.le_refl _) | omega | (simp only [World.size_alloc, World.size_setCell, World.size_drew, Wov_size, World.heap_drewN]; omega))), fun k x h1 h2 => absurd h1 (by omega)⟩
        case round =>
          obtain ⟨i, rfl, hi1, hin, hB, hI⟩ := hrel
          have szr := hB.size
          by_cases hlt : i < n
          · obtain ⟨x, hx⟩ : ∃ x, s[i]? = some x := ⟨_, List.getElem?_eq_getElem (by rw [← Hn.out]; exact hlt)⟩
            have gx := hIX.out i x hx
            have j0 : (0 : Int) ≤ (i : Int) := by omega
            have j1 : (i : Int) < (n : Int) := by omega
            have Lx := Lib.hid (LT.out x)
            have Dx := Lib.hid (DG.out x)
            have HX := Lib.hid hx
            cases hl : isL x
            · cases hd : isD x
              · obtain rfl : C = false := by rw [HC.out]; exact wordB_no hi1 hx (by unfold isW; rw [hl, hd]; rfl)
                rw [hl] at Lx
                rw [hd] at Dx
                clear hl hd hx hI HR2 HC
                go_wp2_with (fail)
                refine (Lx.out _).mono ?_; rintro e w' ⟨rfl, q2, rfl⟩
                go_wp2_with (fail)
                refine (Dx.out _).mono ?_; rintro e w' ⟨rfl, q3, rfl⟩
                go_wp2_with (fail)
                all_goals
                  go_ret
                  exact gives_end rfl (by (repeat' (first | (with_reducible assumption) | (with_reducible exact Below.refl _ _) | (with_reducible refine below_wov ?_ ?_ _) | (with_reducible refine below_drewN ?_ _) | (with_reducible refine Below.drew ?_) | (with_reducible refine Below.alloc ?_ ?_ _) | (with_reducible refine Below.setCell ?_ ?_ _) | (with_reducible exact Nat.le_refl _) | omega | (simp only [World.size_alloc, World.size_setCell, World.size_drew, Wov_size, World.heap_drewN]; omega))))
              · have HI : Hid (∀ k x, 1 ≤ k → k < i + 1 → s[k]? = some x → isW x = true) := fun k y h1 h2 hy => by
                  by_cases e : k = i
                  · rw [e, hx] at hy; rw [← Option.some.inj hy]; unfold isW; rw [hd, Bool.or_true]
                  · exact hI.out k y h1 (by omega) hy
                rw [hl] at Lx
                rw [hd] at Dx
                clear hl hd hx hI
                go_wp2_with (fail)
                refine (Lx.out _).mono ?_; rintro e w' ⟨rfl, q2, rfl⟩
                go_wp2_with (fail)
                refine (Dx.out _).mono ?_; rintro e w' ⟨rfl, q3, rfl⟩
                go_wp2_with (fail)
                go_roundw
                case rel => exact ⟨i + 1, by go_num, by omega, hlt, by (repeat' (first | (with_reducible assumption) | (with_reducible exact Below.refl _ _) | (with_reducible refine below_wov ?_ ?_ _) | (with_reducible refine below_drewN ?_ _) | (with_reducible refine Below.drew ?_) | (with_reducible refine Below.alloc ?_ ?_ _) | (with_reducible refine Below.setCell ?_ ?_ _) | (with_reducible exact Nat.le_refl _) | omega | (simp only [World.size_alloc, World.size_setCell, World.size_drew, Wov_size, World.heap_drewN]; omega))), HI⟩
                case measure => simp [intOf]; omega
            · have HI : Hid (∀ k x, 1 ≤ k → k < i + 1 → s[k]? = some x → isW x = true) := fun k y h1 h2 hy => by
                by_cases e : k = i
                · rw [e, hx] at hy; rw [← Option.some.inj hy]; unfold isW; rw [hl]; rfl
                · exact hI.out k y h1 (by omega) hy
              rw [hl] at Lx
              clear hl hx hI Dx
              go_wp2_with (fail)
              refine (Lx.out _).mono ?_; rintro e w' ⟨rfl, q2, rfl⟩
              go_wp2_with (fail)
              go_roundw
              case rel => exact ⟨i + 1, by go_num, by omega, hlt, by (repeat' (first | (with_reducible assumption) | (with_reducible exact Below.refl _ _) | (with_reducible refine below_wov ?_ ?_ _) | (with_reducible refine below_drewN ?_ _) | (with_reducible refine Below.drew ?_) | (with_reducible refine Below.alloc ?_ ?_ _) | (with_reducible refine Below.setCell ?_ ?_ _) | (with_reducible exact Nat.le_refl _) | omega | (simp only [World.size_alloc, World.size_setCell, World.size_drew, Wov_size, World.heap_drewN]; omega))), HI⟩
              case measure => simp [intOf]; omega
          · obtain rfl : i = n := by omega
            obtain rfl : C = true := by
              rw [HR2.out, List.all_eq_true]
              intro x hx
              obtain ⟨k, hk, rfl⟩ := List.getElem_of_mem hx
              refine hI.out (k + 1) _ (by omega) ?_ (by rw [HS.out, List.getElem?_cons_succ, List.getElem?_eq_getElem hk])
              have := Hn.out
              rw [HS.out, List.length_cons] at this
              omega
            clear hI HR2 HC hlt hin
            go_wp2_with (fail)
            go_ret
            exact gives_end rfl (by (repeat' (first | (with_reducible assumption) | (with_reducible exact Below.refl _ _) | (with_reducible refine below_wov ?_ ?_ _) | (with_reducible refine below_drewN ?_ _) | (with_reducible refine Below.drew ?_) | (with_reducible refine Below.alloc ?_ ?_ _) | (with_reducible refine Below.setCell ?_ ?_ _) | (with_reducible exact Nat.le_refl _) | omega | (simp only [World.size_alloc, World.size_setCell, World.size_drew, Wov_size, World.heap_drewN]; omega))))
#print axioms word_any
end Go.Proofs.YtccbhblklhmcpaaGreatDoor

namespace Go.Proofs.YtccbhblklhmcpaaGreatDoor
set_option linter.unusedSimpArgs false
set_option linter.unusedVariables false
open Go Go.RowKit
attribute [local go_sem] Nat.add_assoc Nat.add_lt_add_iff_left lit_lt_add

theorem idxOf_first : ∀ (N : List (List UInt8)) (i : Nat) (x : List UInt8), N[i]? = some x → (∀ k y, k < i → N[k]? = some y → y ≠ x) → N.idxOf x = i
  | [], i, x, h, _ => by cases h
  | y :: N, 0, x, h, _ => by
    simp only [List.getElem?_cons_zero, Option.some.injEq] at h
    subst h
    exact List.idxOf_cons_self
  | y :: N, i + 1, x, h, hk => by
    have h0 : y ≠ x := hk 0 y (by omega) rfl
    rw [List.getElem?_cons_succ] at h
    have ih := idxOf_first N i x h fun k z hz1 hz2 => hk (k + 1) z (by omega) (by rw [List.getElem?_cons_succ]; exact hz2)
    rw [List.idxOf_cons, show (y == x) = false from beq_eq_false_iff_ne.2 h0, cond_false, ih]
set_option maxRecDepth 10000 in
set_option maxHeartbeats 1000000 in
theorem name15_any (s : List UInt8) (hs : s.length ≤ 140737488355328) : Pure Tryz.prog 28 #[.string (bs s)] (.bool (mayName s)) := by
  intro w
  have WD := Lib.hid (word_any s hs)
  obtain ⟨C, hC⟩ : ∃ C, C = mayName s := ⟨_, rfl⟩
  rw [← hC]
  have HC : Hid (C = (wordB s && !oddName s)) := hC.trans (name_word s)
  clear hC
  cases hw : wordB s
  · rw [hw] at WD
    obtain rfl : C = false := by rw [HC.out, hw]; rfl
    clear hw HC
    go_enter Tryz.func28, Tryz.ntmps28
    go_wp2_with (fail)
    refine (WD.out _).mono ?_; rintro e w' ⟨rfl, q1, rfl⟩
    go_wp2_with (fail)
    all_goals
      go_ret
      exact gives_end rfl (by (repeat' (first | (with_reducible assumption) | (with_reducible exact Below.refl _ _) | (with_reducible refine below_wov ?_ ?_ _) | (with_reducible refine below_drewN ?_ _) | (with_reducible refine Below.drew ?_) | (with_reducible refine Below.alloc ?_ ?_ _) | (with_reducible refine Below.setCell ?_ ?_ _) | (with_reducible exact Nat.le_refl _) | omega | (simp only [World.size_alloc, World.size_setCell, World.size_drew, Wov_size, World.heap_drewN]; omega))))
  · rw [hw] at WD
    have HC2 : Hid (C = !oddName s) := by have := HC.out; rw [hw, Bool.true_and] at this; exact this
    clear hw HC
    by_cases e1 : s = [116, 114, 117, 101]
    · obtain rfl : C = false := by rw [HC2.out, e1]; decide
      have hq : (s == [116, 114, 117, 101]) = true := by rw [beq_iff_eq]; exact e1
      clear e1 HC2
      go_enter Tryz.func28, Tryz.ntmps28
      go_wp2_with (fail)
      refine (WD.out _).mono ?_; rintro e w' ⟨rfl, q1, rfl⟩
      go_wp2_with (fail)
      all_goals
        go_ret
        exact gives_end (by simp [go_sem, hq]) (by (repeat' (first | (with_reducible assumption) | (with_reducible exact Below.refl _ _) | (with_reducible refine below_wov ?_ ?_ _) | (with_reducible refine below_drewN ?_ _) | (with_reducible refine Below.drew ?_) | (with_reducible refine Below.alloc ?_ ?_ _) | (with_reducible refine Below.setCell ?_ ?_ _) | (with_reducible exact Nat.le_refl _) | omega | (simp only [World.size_alloc, World.size_setCell, World.size_drew, Wov_size, World.heap_drewN]; omega))))
    · by_cases e2 : s = [102, 97, 108, 115, 101]
      · obtain rfl : C = false := by rw [HC2.out, e2]; decide
        have hp : (s == [116, 114, 117, 101]) = false := by rw [beq_eq_false_iff_ne]; exact e1
        have hq : (s == [102, 97, 108, 115, 101]) = true := by rw [beq_iff_eq]; exact e2
        clear e1 e2 HC2
        go_enter Tryz.func28, Tryz.ntmps28
        go_wp2_with (fail)
        refine (WD.out _).mono ?_; rintro e w' ⟨rfl, q1, rfl⟩
        go_wp2_with (fail)
        all_goals
          go_ret
          exact gives_end (by simp [go_sem, hq, hp]) (by (repeat' (first | (with_reducible assumption) | (with_reducible exact Below.refl _ _) | (with_reducible refine below_wov ?_ ?_ _) | (with_reducible refine below_drewN ?_ _) | (with_reducible refine Below.drew ?_) | (with_reducible refine Below.alloc ?_ ?_ _) | (with_reducible refine Below.setCell ?_ ?_ _) | (with_reducible exact Nat.le_refl _) | omega | (simp only [World.size_alloc, World.size_setCell, World.size_drew, Wov_size, World.heap_drewN]; omega))))
      · have hp : (s == [116, 114, 117, 101]) = false := by rw [beq_eq_false_iff_ne]; exact e1
        have hq : (s == [102, 97, 108, 115, 101]) = false := by rw [beq_eq_false_iff_ne]; exact e2
        have hr : (s == [111, 111]) = oddName s := by
          unfold oddName
          rw [Bool.eq_iff_iff, beq_iff_eq, decide_eq_true_eq]
          exact ⟨fun h => .inr (.inr h), fun h => h.resolve_left e1 |>.resolve_left e2⟩
        obtain ⟨B, hB⟩ : ∃ B, B = oddName s := ⟨_, rfl⟩
        rw [← hB] at hr HC2
        clear e1 e2 hB
        have HC3 := HC2.out
        subst HC3
        clear HC2
        cases B
        all_goals
          go_enter Tryz.func28, Tryz.ntmps28
          go_wp2_with (fail)
          refine (WD.out _).mono ?_; rintro e w' ⟨rfl, q1, rfl⟩
          go_wp2_with (fail)
          all_goals
            go_ret
            exact gives_end (by simp [go_sem, hq, hp, hr]) (by (repeat' (first | (with_reducible assumption) | (with_reducible exact Below.refl _ _) | (with_reducible refine below_wov ?_ ?_ _) | (with_reducible refine below_drewN ?_ _) | (with_reducible refine Below.drew ?_) | (with_reducible refine Below.alloc ?_ ?_ _) | (with_reducible refine Below.setCell ?_ ?_ _) | (with_reducible exact Nat.le_refl _) | omega | (simp only [World.size_alloc, World.size_setCell, World.size_drew, Wov_size, World.heap_drewN]; omega))))
set_option maxRecDepth 10000 in
set_option maxHeartbeats 1000000 in
theorem at16_any (q : Option Addr) (c : Nat) (N : List (List UInt8)) (x : List UInt8) (w : World) (hS : SlS w q N) (hN : N.length ≤ 140737488355328) :
    Calls Tryz.prog 29 #[.slice q N.length c, .string (bs x)] w (Gives w (.int .i64 (idxI N x))) := by
  have HS := Lib.hid hS.get
  obtain ⟨n, hn⟩ : ∃ n, n = N.length := ⟨_, rfl⟩
  obtain ⟨C, hC⟩ : ∃ C, C = idxI N x := ⟨_, rfl⟩
  rw [← hn] at hN ⊢
  rw [← hC]
  have Hn := Lib.hid hn
  have HC := Lib.hid hC
  clear hS hn hC
  go_enter Tryz.func29, Tryz.ntmps29
  go_wp2_with (fail)
  go_loopw [5] (fun s5 wr => ∃ i : Nat, s5 = .int .i64 i ∧ i ≤ n ∧ Below w.heap.size w wr ∧ Hid (∀ k y, k < i → N[k]? = some y → y ≠ x)) (fun s5 _ => n - (intOf s5).toNat)
  case atStart => exact ⟨0, rfl, Nat.zero_le _, Below.refl _ _, fun k y h => absurd h (Nat.not_lt_zero _)⟩
  case round =>
    obtain ⟨i, rfl, hin, hB, hI⟩ := hrel
    have szr := hB.size
    by_cases hlt : i < n
    · have hil : i < N.length := by rw [← Hn.out]; exact hlt
      obtain ⟨A, o, rfl, hA, hv⟩ := HS.out.resolve_left (fun h => by rw [h] at hil; simp at hil)
      obtain ⟨y, hy⟩ : ∃ y, N[i]? = some y := ⟨_, List.getElem?_eq_getElem hil⟩
      have cy := (hB.cell (p := ⟨A, o + i, none⟩) hA).trans (hv i y hy)
      have j0 : (0 : Int) ≤ (i : Int) := by omega
      have j1 : (i : Int) < (n : Int) := by omega
      have HY := Lib.hid hy
      clear hv
      by_cases e : y = x
      · have hq : (y == x) = true := by rw [beq_iff_eq]; exact e
        obtain rfl : C = (i : Int) := by
          rw [HC.out]
          have hnd : N.idxOf x = i := idxOf_first N i x (by rw [hy, e]) hI.out
          unfold idxI
          rw [if_pos (by rw [← e]; exact List.mem_of_getElem? hy), hnd]
        clear e hI hy HC
        go_wp2_with (fail)
        all_goals
          go_ret
          exact gives_end rfl (by (repeat' (first | (with_reducible assumption) | (with_reducible exact Below.refl _ _) | (with_reducible refine below_wov ?_ ?_ _) | (with_reducible refine below_drewN ?_ _) | (with_reducible refine Below.drew ?_) | (with_reducible refine Below.alloc ?_ ?_ _) | (with_reducible refine Below.setCell ?_ ?_ _) | (with_reducible exact Nat.le_refl _) | omega | (simp only [World.size_alloc, World.size_setCell, World.size_drew, Wov_size, World.heap_drewN]; omega))))
      · have hq : (y == x) = false := by rw [beq_eq_false_iff_ne]; exact e
        have HI : Hid (∀ k y, k < i + 1 → N[k]? = some y → y ≠ x) := fun k z hk hz => by
          by_cases ek : k = i
          · rw [ek, hy] at hz; rw [← Option.some.inj hz]; exact e
          · exact hI.out k z (by omega) hz
        clear e hI hy
        go_wp2_with (fail)
        go_roundw
        case rel => exact ⟨i + 1, by go_num, hlt, by (repeat' (first | (with_reducible assumption) | (with_reducible exact Below.refl _ _) | (with_reducible refine below_wov ?_ ?_ _) | (with_reducible refine below_drewN ?_ _) | (with_reducible refine Below.drew ?_) | (with_reducible refine Below.alloc ?_ ?_ _) | (with_reducible refine Below.setCell ?_ ?_ _) | (with_reducible exact Nat.le_refl _) | omega | (simp only [World.size_alloc, World.size_setCell, World.size_drew, Wov_size, World.heap_drewN]; omega))), HI⟩
        case measure => simp [intOf]; omega
    · obtain rfl : i = n := by omega
      obtain rfl : C = -1 := by
        rw [HC.out]
        unfold idxI
        rw [if_neg]
        intro hm
        obtain ⟨k, hk, e⟩ := List.getElem_of_mem hm
        exact hI.out k _ (by rw [Hn.out]; exact hk) (List.getElem?_eq_getElem hk) e
      clear hI HC
      go_wp2_with (fail)
      all_goals
        go_ret
        exact gives_end rfl (by (repeat' (first | (with_reducible assumption) | (with_reducible exact Below.refl _ _) | (with_reducible refine below_wov ?_ ?_ _) | (with_reducible refine below_drewN ?_ _) | (with_reducible refine Below.drew ?_) | (with_reducible refine Below.alloc ?_ ?_ _) | (with_reducible refine Below.setCell ?_ ?_ _) | (with_reducible exact Nat.le_refl _) | omega | (simp only [World.size_alloc, World.size_setCell, World.size_drew, Wov_size, World.heap_drewN]; omega))))
#print axioms at16_any
end Go.Proofs.YtccbhblklhmcpaaGreatDoor

namespace Go.Proofs.YtccbhblklhmcpaaGreatDoor
set_option linter.unusedSimpArgs false
set_option linter.unusedVariables false
open Go Go.RowKit
attribute [local go_sem] Nat.add_assoc Nat.add_lt_add_iff_left lit_lt_add

theorem run_in {P : UInt8 → Bool} {s : List UInt8} {p i : Nat} (h : i < ((s.drop p).takeWhile P).length) : ∃ x, s[p + i]? = some x ∧ P x = true ∧ ((s.drop p).takeWhile P)[i]? = some x := by
  obtain ⟨x, hx⟩ : ∃ x, ((s.drop p).takeWhile P)[i]? = some x := ⟨_, List.getElem?_eq_getElem h⟩
  refine ⟨x, ?_, List.all_eq_true.1 all_take x (List.mem_of_getElem? hx), hx⟩
  rw [← List.getElem?_drop]
  have e := List.takeWhile_append_dropWhile (p := P) (l := s.drop p)
  rw [← e, List.getElem?_append_left h]
  exact hx
theorem run_end {P : UInt8 → Bool} {s : List UInt8} {p : Nat} {x : UInt8} (h : s[p + ((s.drop p).takeWhile P).length]? = some x) : P x = false := by
  rw [← List.getElem?_drop] at h
  have e := List.takeWhile_append_dropWhile (p := P) (l := s.drop p)
  rw [← e, List.getElem?_append_right (by rw [e]; exact Nat.le_refl _), e, Nat.sub_self, ← List.head?_eq_getElem?] at h
  exact head_drop h
theorem run_le {P : UInt8 → Bool} {s : List UInt8} {p : Nat} (hp : p ≤ s.length) : p + ((s.drop p).takeWhile P).length ≤ s.length := by
  have := len_split (p := P) (s.drop p)
  rw [List.length_drop] at this
  omega
set_option maxRecDepth 10000 in
theorem is21_any (s : List UInt8) (p : Nat) (c : UInt8) (hp : p ≤ 140737488355328) (hs : s.length ≤ 140737488355328) : Pure Tryz.prog 31 #[.string (bs s), .int .i64 p, .int .u8 c.toNat] (.bool (decide (s[p]? = some c))) := by
  intro w
  have hsz : (bs s).size = s.length := bs_size s
  have hIX := Lib.hid (bs_at s)
  obtain ⟨S, hS⟩ : ∃ S, S = bs s := ⟨_, rfl⟩
  obtain ⟨n, hn⟩ : ∃ n, n = s.length := ⟨_, rfl⟩
  obtain ⟨C, hC⟩ : ∃ C, C = decide (s[p]? = some c) := ⟨_, rfl⟩
  rw [← hS] at hsz hIX ⊢
  rw [← hn] at hsz hs
  rw [← hC]
  have Hn := Lib.hid hn
  have HC := Lib.hid hC
  clear hS hn hC
  have p0 : (0 : Int) ≤ (p : Int) := by omega
  by_cases h : p < n
  · obtain ⟨x, hx⟩ : ∃ x, s[p]? = some x := ⟨_, List.getElem?_eq_getElem (by rw [← Hn.out]; exact h)⟩
    have gx := hIX.out p x hx
    have i1 : (p : Int) < (n : Int) := by omega
    by_cases e : x = c
    · obtain rfl : C = true := by rw [HC.out, hx, e]; simp
      rw [← e]
      clear e hx HC
      go_enter Tryz.func31, Tryz.ntmps31
      go_wp2_with (fail)
      all_goals
        go_ret
        exact gives_end (by simp) (by (repeat' (first | (with_reducible assumption) | (with_reducible exact Below.refl _ _) | (with_reducible refine below_wov ?_ ?_ _) | (with_reducible refine below_drewN ?_ _) | (with_reducible refine Below.drew ?_) | (with_reducible refine Below.alloc ?_ ?_ _) | (with_reducible refine Below.setCell ?_ ?_ _) | (with_reducible exact Nat.le_refl _) | omega | (simp only [World.size_alloc, World.size_setCell, World.size_drew, Wov_size, World.heap_drewN]; omega))))
    · obtain rfl : C = false := by rw [HC.out, hx]; simpa using e
      have ne : ((x.toNat : Int) == (c.toNat : Int)) = false := by
        rw [beq_eq_false_iff_ne]
        intro h
        exact e (UInt8.toNat_inj.1 (by omega))
      obtain ⟨k, hk⟩ : ∃ k, k = c.toNat := ⟨_, rfl⟩
      rw [← hk] at ne ⊢
      clear e hx HC hk
      go_enter Tryz.func31, Tryz.ntmps31
      go_wp2_with (fail)
      all_goals
        go_ret
        exact gives_end (by simp; try exact ne) (by (repeat' (first | (with_reducible assumption) | (with_reducible exact Below.refl _ _) | (with_reducible refine below_wov ?_ ?_ _) | (with_reducible refine below_drewN ?_ _) | (with_reducible refine Below.drew ?_) | (with_reducible refine Below.alloc ?_ ?_ _) | (with_reducible refine Below.setCell ?_ ?_ _) | (with_reducible exact Nat.le_refl _) | omega | (simp only [World.size_alloc, World.size_setCell, World.size_drew, Wov_size, World.heap_drewN]; omega))))
  · obtain rfl : C = false := by rw [HC.out, List.getElem?_eq_none (by rw [← Hn.out]; omega)]; rfl
    have i1 : (n : Int) ≤ (p : Int) := by omega
    clear h HC
    go_enter Tryz.func31, Tryz.ntmps31
    go_wp2_with (fail)
    all_goals
      go_ret
      exact gives_end rfl (by (repeat' (first | (with_reducible assumption) | (with_reducible exact Below.refl _ _) | (with_reducible refine below_wov ?_ ?_ _) | (with_reducible refine below_drewN ?_ _) | (with_reducible refine Below.drew ?_) | (with_reducible refine Below.alloc ?_ ?_ _) | (with_reducible refine Below.setCell ?_ ?_ _) | (with_reducible exact Nat.le_refl _) | omega | (simp only [World.size_alloc, World.size_setCell, World.size_drew, Wov_size, World.heap_drewN]; omega))))
theorem valD_lt10 : ∀ (l : List UInt8) (acc : Nat), l.all isD = true → valD acc l < (acc + 1) * 10 ^ l.length
  | [], acc, _ => by show acc < (acc + 1) * 1; omega
  | c :: r, acc, h => by
    simp only [List.all_cons, Bool.and_eq_true] at h
    have hc := of_decide_eq_true (show decide (48 ≤ c.toNat ∧ c.toNat ≤ 57) = true from h.1)
    have ih := valD_lt10 r (acc * 10 + (c.toNat - 48)) h.2
    unfold valD
    refine Nat.lt_of_lt_of_le ih ?_
    rw [List.length_cons, Nat.pow_succ, Nat.mul_comm (10 ^ r.length) 10, ← Nat.mul_assoc]
    exact Nat.mul_le_mul_right _ (by omega)
theorem valD_small {D : List UInt8} (h : D.all isD = true) {i : Nat} (hi : i ≤ D.length) (h18 : i ≤ 18) : valD 0 (D.take i) < 1000000000000000000 := by
  have h1 := valD_lt10 (D.take i) 0 (by
    rw [List.all_eq_true] at h ⊢
    exact fun x hx => h x (List.mem_of_mem_take hx))
  rw [List.length_take, Nat.min_eq_left hi, Nat.zero_add, Nat.one_mul] at h1
  have : 10 ^ i ≤ 10 ^ 18 := Nat.pow_le_pow_right (by omega) h18
  have : (10 : Nat) ^ 18 = 1000000000000000000 := by decide
  omega
theorem valD_small17 {D : List UInt8} (h : D.all isD = true) {i : Nat} (hi : i ≤ D.length) (h17 : i ≤ 17) : valD 0 (D.take i) < 100000000000000000 := by
  have h1 := valD_lt10 (D.take i) 0 (by
    rw [List.all_eq_true] at h ⊢
    exact fun x hx => h x (List.mem_of_mem_take hx))
  rw [List.length_take, Nat.min_eq_left hi, Nat.zero_add, Nat.one_mul] at h1
  have : 10 ^ i ≤ 10 ^ 17 := Nat.pow_le_pow_right (by omega) h17
  have : (10 : Nat) ^ 17 = 100000000000000000 := by decide
  omega
theorem valD_step {D : List UInt8} {i : Nat} {x : UInt8} (hx : D[i]? = some x) : valD 0 (D.take (i + 1)) = valD 0 (D.take i) * 10 + (x.toNat - 48) := by
  rw [List.take_add_one, hx]
  exact valD_app _ _ _
/-- The document's number at a place: which, where it ends, and whether it may be. -/
def numR (s : List UInt8) (p : Nat) : Nat × Nat × Bool :=
  if 18 < ((s.drop p).takeWhile isD).length then (0, p, false)
  else (valD 0 ((s.drop p).takeWhile isD), p + ((s.drop p).takeWhile isD).length, decide (((s.drop p).takeWhile isD).length ≠ 0) && decide (s[p]? ≠ some 48) && decide (valD 0 ((s.drop p).takeWhile isD) < 288230376151711744))
theorem num21 (v d : Nat) (hv : v < 100000000000000000) (h1 : 48 ≤ d) (h2 : d ≤ 57) :
    (IntKind.u8.wrap ((d : Int) - 48) = ((d - 48 : Nat) : Int)) ∧ wrap64 (10 * (v : Int)) = ((10 * v : Nat) : Int) ∧ wrap64 (((10 * v : Nat) : Int) + ((d - 48 : Nat) : Int)) = ((v * 10 + (d - 48) : Nat) : Int) ∧ wrap64 ((d - 48 : Nat) : Int) = ((d - 48 : Nat) : Int) := by
  refine ⟨?_, ?_, ?_, ?_⟩
  · rw [IntKind.wrap_u8]; omega
  · rw [wrap64_id (by omega) (by omega)]; omega
  · rw [wrap64_id (by omega) (by omega)]; omega
  · rw [wrap64_id (by omega) (by omega)]
set_option maxRecDepth 10000 in
set_option maxHeartbeats 2000000 in
theorem number21_any (s : List UInt8) (p : Nat) (hp : p ≤ s.length) (hs : s.length ≤ 140737488355328) (w : World) :
    Calls Tryz.prog 30 #[.string (bs s), .int .i64 p] w (Gives w (.tuple #[.int .i64 (numR s p).1, .int .i64 (numR s p).2.1, .bool (numR s p).2.2])) := by
  have hsz : (bs s).size = s.length := bs_size s
  have hIX := Lib.hid (bs_at s)
  have DG := Lib.hid digit21_any
  have hle := run_le (P := isD) hp
  obtain ⟨S, hS⟩ : ∃ S, S = bs s := ⟨_, rfl⟩
  obtain ⟨n, hn⟩ : ∃ n, n = s.length := ⟨_, rfl⟩
  obtain ⟨l, hl⟩ : ∃ l, l = ((s.drop p).takeWhile isD).length := ⟨_, rfl⟩
  obtain ⟨R1, hR1⟩ : ∃ R, R = (numR s p).1 := ⟨_, rfl⟩
  obtain ⟨R2, hR2⟩ : ∃ R, R = (numR s p).2.1 := ⟨_, rfl⟩
  obtain ⟨R3, hR3⟩ : ∃ R, R = (numR s p).2.2 := ⟨_, rfl⟩
  rw [← hS] at hsz hIX ⊢
  rw [← hn] at hsz hs hp hle
  rw [← hl] at hle
  rw [← hR1, ← hR2, ← hR3]
  have HR := Lib.hid (And.intro hR1 (And.intro hR2 hR3))
  have Hn := Lib.hid hn
  have HL := Lib.hid hl
  have HA : Hid (((s.drop p).takeWhile isD).all isD = true) := all_take
  clear hS hn hl hR1 hR2 hR3
  have p0 : (0 : Int) ≤ (p : Int) := by omega
  go_enter Tryz.func30, Tryz.ntmps30
  go_wp2_with (fail)
  go_loopw [7, 8] (fun s7 s8 wr => ∃ e : Nat, s7 = .int .i64 e ∧ s8 = .int .i64 (valD 0 (((s.drop p).takeWhile isD).take (e - p)) : Nat) ∧ p ≤ e ∧ e ≤ p + l ∧ e ≤ p + 18 ∧ Below w.heap.size w wr)
    (fun s7 _ _ => n - (intOf s7).toNat)
  case atStart => exact ⟨p, rfl, by rw [Nat.sub_self]; rfl, Nat.le_refl _, Nat.le_add_right _ _, Nat.le_add_right _ _, Below.refl _ _⟩
  case round =>
    obtain ⟨e, rfl, rfl, he1, he2, he3, hBl⟩ := hrel
    have szr := hBl.size
    have e0 : (0 : Int) ≤ (e : Int) := by omega
    have hv := valD_small HA.out (i := e - p) (by rw [← HL.out]; omega) (by omega)
    obtain ⟨v, hv0⟩ : ∃ v, v = valD 0 (((s.drop p).takeWhile isD).take (e - p)) := ⟨_, rfl⟩
    rw [← hv0] at hv ⊢
    by_cases hlt : e < p + l
    · obtain ⟨x, hx, hdx, hxD⟩ := run_in (P := isD) (s := s) (p := p) (i := e - p) (by rw [← HL.out]; omega)
      rw [show p + (e - p) = e by omega] at hx
      have gx := hIX.out e x hx
      have i1 : (e : Int) < (n : Int) := by omega
      have Dx := Lib.hid (DG.out x)
      rw [hdx] at Dx
      have hd := of_decide_eq_true (show decide (48 ≤ x.toNat ∧ x.toNat ≤ 57) = true from hdx)
      have hnx := valD_step hxD
      rw [← hv0] at hnx
      have HNX := Lib.hid hnx
      have ws : wrap64 ((e : Int) - (p : Int)) = ((e - p : Nat) : Int) := by rw [wrap64_id (by omega) (by omega)]; omega
      by_cases h18 : e = p + 18
      · obtain ⟨rfl, rfl, rfl⟩ : R1 = 0 ∧ p = R2 ∧ R3 = false := by
          rw [HR.out.1, HR.out.2.1, HR.out.2.2]; unfold numR; rw [if_pos (by rw [← HL.out]; omega)]; exact ⟨rfl, rfl, rfl⟩
        have k18 : (18 : Int) ≤ ((e - p : Nat) : Int) := by omega
        clear hv0 hx hdx hd hnx hxD HR h18
        go_wp2_with (fail)
        refine (Dx.out _).mono ?_; rintro e' w' ⟨rfl, q1, rfl⟩
        go_wp2_with (fail)
        go_ret3
        exact gives_end rfl (by (repeat' (first | (with_reducible assumption) | (with_reducible exact Below.refl _ _) | (with_reducible refine below_wov ?_ ?_ _) | (with_reducible refine below_drewN ?_ _) | (with_reducible refine Below.drew ?_) | (with_reducible refine Below.alloc ?_ ?_ _) | (with_reducible refine Below.setCell ?_ ?_ _) | (with_reducible exact Nat.le_refl _) | omega | (simp only [World.size_alloc, World.size_setCell, World.size_drew, Wov_size, World.heap_drewN]; omega))))
      · have k18 : ((e - p : Nat) : Int) < (18 : Int) := by omega
        obtain ⟨a1, a2, a3, a4⟩ := num21 v x.toNat (by have := valD_small17 HA.out (i := e - p) (by rw [← HL.out]; omega) (by omega); rw [hv0]; exact this) hd.1 hd.2
        clear hv0 hx hdx hd hnx hxD HR
        go_wp2_with (fail)
        refine (Dx.out _).mono ?_; rintro e' w' ⟨rfl, q1, rfl⟩
        go_wp2_with (fail)
        go_roundw
        case rel => exact ⟨e + 1, by go_num, by rw [show e + 1 - p = e - p + 1 by omega, HNX.out]; first | rfl | (congr 1; done) | (congr 1; omega), by omega, by omega, by omega, by (repeat' (first | (with_reducible assumption) | (with_reducible exact Below.refl _ _) | (with_reducible refine below_wov ?_ ?_ _) | (with_reducible refine below_drewN ?_ _) | (with_reducible refine Below.drew ?_) | (with_reducible refine Below.alloc ?_ ?_ _) | (with_reducible refine Below.setCell ?_ ?_ _) | (with_reducible exact Nat.le_refl _) | omega | (simp only [World.size_alloc, World.size_setCell, World.size_drew, Wov_size, World.heap_drewN]; omega)))⟩
        case measure => simp [intOf]; omega
    · have hel : e = p + l := by omega
      have HE := Lib.hid hel
      have HV : Hid (v = valD 0 ((s.drop p).takeWhile isD)) := by
        show _ = _
        rw [hv0, List.take_of_length_le (by rw [← HL.out]; omega)]
      have hR12 : v = R1 ∧ e = R2 := by
        rw [HR.out.1, HR.out.2.1]; unfold numR; rw [if_neg (by rw [← HL.out]; omega), HV.out, ← HL.out, hel]; exact ⟨rfl, rfl⟩
      obtain ⟨rfl, rfl⟩ := hR12
      have hle2 : e ≤ n := by omega
      clear hv0 hlt hel
      by_cases hen : e < n
      · obtain ⟨x, hx⟩ : ∃ x, s[e]? = some x := ⟨_, List.getElem?_eq_getElem (by rw [← Hn.out]; exact hen)⟩
        have hdx : isD x = false := run_end (P := isD) (s := s) (p := p) (by rw [← HL.out, ← HE.out]; exact hx)
        have gx := hIX.out e x hx
        have i1 : (e : Int) < (n : Int) := by omega
        have Dx := Lib.hid (DG.out x)
        rw [hdx] at Dx
        clear hx hdx hen
        go_wp2_with (fail)
        refine (Dx.out _).mono ?_; rintro e' w' ⟨rfl, q1, rfl⟩
        by_cases l0 : l = 0
        · obtain rfl : R3 = false := by rw [HR.out.2.2]; unfold numR; rw [if_neg (by rw [← HL.out]; omega), ← HL.out, l0]; rfl
          have k0 : (e : Int) ≤ (p : Int) := by have := HE.out; omega
          clear HR l0
          go_wp2_with (fail)
          go_ret3
          exact gives_end rfl (by (repeat' (first | (with_reducible assumption) | (with_reducible exact Below.refl _ _) | (with_reducible refine below_wov ?_ ?_ _) | (with_reducible refine below_drewN ?_ _) | (with_reducible refine Below.drew ?_) | (with_reducible refine Below.alloc ?_ ?_ _) | (with_reducible refine Below.setCell ?_ ?_ _) | (with_reducible exact Nat.le_refl _) | omega | (simp only [World.size_alloc, World.size_setCell, World.size_drew, Wov_size, World.heap_drewN]; omega))))
        · obtain ⟨x0, hx0, _, _⟩ := run_in (P := isD) (s := s) (p := p) (i := 0) (by rw [← HL.out]; omega)
          rw [Nat.add_zero] at hx0
          have g0 := hIX.out p x0 hx0
          have k0 : (p : Int) < (e : Int) := by have := HE.out; omega
          have k1 : (p : Int) < (n : Int) := by have := HE.out; omega
          by_cases h48 : x0 = 48
          · obtain rfl : R3 = false := by rw [HR.out.2.2]; unfold numR; rw [if_neg (by rw [← HL.out]; have := HE.out; omega), hx0, h48]; simp
            rw [h48] at g0
            clear HR l0 hx0 h48
            go_wp2_with (fail)
            go_ret3
            exact gives_end rfl (by (repeat' (first | (with_reducible assumption) | (with_reducible exact Below.refl _ _) | (with_reducible refine below_wov ?_ ?_ _) | (with_reducible refine below_drewN ?_ _) | (with_reducible refine Below.drew ?_) | (with_reducible refine Below.alloc ?_ ?_ _) | (with_reducible refine Below.setCell ?_ ?_ _) | (with_reducible exact Nat.le_refl _) | omega | (simp only [World.size_alloc, World.size_setCell, World.size_drew, Wov_size, World.heap_drewN]; omega))))
          · have ne : ((x0.toNat : Int) != 48) = true := by
              rw [bne_iff_ne]
              intro h
              exact h48 (UInt8.toNat_inj.1 (by show x0.toNat = 48; omega))
            have eR : R3 = decide (v < 288230376151711744) := by
              rw [HR.out.2.2]; unfold numR
              rw [if_neg (by rw [← HL.out]; have := HE.out; omega), hx0, ← HL.out, ← HV.out]
              simp [l0, h48]
            by_cases hb : v < 288230376151711744
            · obtain rfl : R3 = true := by rw [eR]; exact decide_eq_true hb
              obtain ⟨y, hy⟩ : ∃ y : Int, y = (v : Int) := ⟨_, rfl⟩
              have kb : y < 288230376151711744 := by omega
              rw [← hy]
              have HY := Lib.hid hy
              clear hy
              clear HR l0 hx0 h48 eR hb hv hle2 he2 he3 hle hp
              go_wp2_with (fail)
              go_ret3
              exact gives_end (by have hy := HY.out; first | (simp [go_sem, kb]; done) | (simp [go_sem]; omega)) (by (repeat' (first | (with_reducible assumption) | (with_reducible exact Below.refl _ _) | (with_reducible refine below_wov ?_ ?_ _) | (with_reducible refine below_drewN ?_ _) | (with_reducible refine Below.drew ?_) | (with_reducible refine Below.alloc ?_ ?_ _) | (with_reducible refine Below.setCell ?_ ?_ _) | (with_reducible exact Nat.le_refl _) | omega | (simp only [World.size_alloc, World.size_setCell, World.size_drew, Wov_size, World.heap_drewN]; omega))))
            · obtain rfl : R3 = false := by rw [eR]; exact decide_eq_false hb
              obtain ⟨y, hy⟩ : ∃ y : Int, y = (v : Int) := ⟨_, rfl⟩
              have kb : 288230376151711744 ≤ y := by omega
              rw [← hy]
              have HY := Lib.hid hy
              clear hy
              clear HR l0 hx0 h48 eR hb hv hle2 he2 he3 hle hp
              go_wp2_with (fail)
              go_ret3
              exact gives_end (by have hy := HY.out; first | (simp [go_sem, kb]; done) | (simp [go_sem]; omega)) (by (repeat' (first | (with_reducible assumption) | (with_reducible exact Below.refl _ _) | (with_reducible refine below_wov ?_ ?_ _) | (with_reducible refine below_drewN ?_ _) | (with_reducible refine Below.drew ?_) | (with_reducible refine Below.alloc ?_ ?_ _) | (with_reducible refine Below.setCell ?_ ?_ _) | (with_reducible exact Nat.le_refl _) | omega | (simp only [World.size_alloc, World.size_setCell, World.size_drew, Wov_size, World.heap_drewN]; omega))))
      · have i1 : (n : Int) ≤ (e : Int) := by omega
        clear hen
        by_cases l0 : l = 0
        · obtain rfl : R3 = false := by rw [HR.out.2.2]; unfold numR; rw [if_neg (by rw [← HL.out]; omega), ← HL.out, l0]; rfl
          have k0 : (e : Int) ≤ (p : Int) := by have := HE.out; omega
          clear HR l0
          go_wp2_with (fail)
          go_ret3
          exact gives_end rfl (by (repeat' (first | (with_reducible assumption) | (with_reducible exact Below.refl _ _) | (with_reducible refine below_wov ?_ ?_ _) | (with_reducible refine below_drewN ?_ _) | (with_reducible refine Below.drew ?_) | (with_reducible refine Below.alloc ?_ ?_ _) | (with_reducible refine Below.setCell ?_ ?_ _) | (with_reducible exact Nat.le_refl _) | omega | (simp only [World.size_alloc, World.size_setCell, World.size_drew, Wov_size, World.heap_drewN]; omega))))
        · obtain ⟨x0, hx0, _, _⟩ := run_in (P := isD) (s := s) (p := p) (i := 0) (by rw [← HL.out]; omega)
          rw [Nat.add_zero] at hx0
          have g0 := hIX.out p x0 hx0
          have k0 : (p : Int) < (e : Int) := by have := HE.out; omega
          have k1 : (p : Int) < (n : Int) := by have := HE.out; omega
          by_cases h48 : x0 = 48
          · obtain rfl : R3 = false := by rw [HR.out.2.2]; unfold numR; rw [if_neg (by rw [← HL.out]; have := HE.out; omega), hx0, h48]; simp
            rw [h48] at g0
            clear HR l0 hx0 h48
            go_wp2_with (fail)
            go_ret3
            exact gives_end rfl (by (repeat' (first | (with_reducible assumption) | (with_reducible exact Below.refl _ _) | (with_reducible refine below_wov ?_ ?_ _) | (with_reducible refine below_drewN ?_ _) | (with_reducible refine Below.drew ?_) | (with_reducible refine Below.alloc ?_ ?_ _) | (with_reducible refine Below.setCell ?_ ?_ _) | (with_reducible exact Nat.le_refl _) | omega | (simp only [World.size_alloc, World.size_setCell, World.size_drew, Wov_size, World.heap_drewN]; omega))))
          · have ne : ((x0.toNat : Int) != 48) = true := by
              rw [bne_iff_ne]
              intro h
              exact h48 (UInt8.toNat_inj.1 (by show x0.toNat = 48; omega))
            have eR : R3 = decide (v < 288230376151711744) := by
              rw [HR.out.2.2]; unfold numR
              rw [if_neg (by rw [← HL.out]; have := HE.out; omega), hx0, ← HL.out, ← HV.out]
              simp [l0, h48]
            by_cases hb : v < 288230376151711744
            · obtain rfl : R3 = true := by rw [eR]; exact decide_eq_true hb
              obtain ⟨y, hy⟩ : ∃ y : Int, y = (v : Int) := ⟨_, rfl⟩
              have kb : y < 288230376151711744 := by omega
              rw [← hy]
              have HY := Lib.hid hy
              clear hy
              clear HR l0 hx0 h48 eR hb hv hle2 he2 he3 hle hp
              go_wp2_with (fail)
              go_ret3
              exact gives_end (by have hy := HY.out; first | (simp [go_sem, kb]; done) | (simp [go_sem]; omega)) (by (repeat' (first | (with_reducible assumption) | (with_reducible exact Below.refl _ _) | (with_reducible refine below_wov ?_ ?_ _) | (with_reducible refine below_drewN ?_ _) | (with_reducible refine Below.drew ?_) | (with_reducible refine Below.alloc ?_ ?_ _) | (with_reducible refine Below.setCell ?_ ?_ _) | (with_reducible exact Nat.le_refl _) | omega | (simp only [World.size_alloc, World.size_setCell, World.size_drew, Wov_size, World.heap_drewN]; omega))))
            · obtain rfl : R3 = false := by rw [eR]; exact decide_eq_false hb
              obtain ⟨y, hy⟩ : ∃ y : Int, y = (v : Int) := ⟨_, rfl⟩
              have kb : 288230376151711744 ≤ y := by omega
              rw [← hy]
              have HY := Lib.hid hy
              clear hy
              clear HR l0 hx0 h48 eR hb hv hle2 he2 he3 hle hp
              go_wp2_with (fail)
              go_ret3
              exact gives_end (by have hy := HY.out; first | (simp [go_sem, kb]; done) | (simp [go_sem]; omega)) (by (repeat' (first | (with_reducible assumption) | (with_reducible exact Below.refl _ _) | (with_reducible refine below_wov ?_ ?_ _) | (with_reducible refine below_drewN ?_ _) | (with_reducible refine Below.drew ?_) | (with_reducible refine Below.alloc ?_ ?_ _) | (with_reducible refine Below.setCell ?_ ?_ _) | (with_reducible exact Nat.le_refl _) | omega | (simp only [World.size_alloc, World.size_setCell, World.size_drew, Wov_size, World.heap_drewN]; omega))))
#print axioms number21_any
end Go.Proofs.YtccbhblklhmcpaaGreatDoor
