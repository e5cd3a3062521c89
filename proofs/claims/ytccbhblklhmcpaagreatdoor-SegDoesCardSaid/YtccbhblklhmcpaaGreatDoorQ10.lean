/- strconv.FormatUint at base 10: the number's text. No condition but that it fits 64 bits, and that the table of powers lies as it is laid. -/
import Derived.Test.YtccbhblklhmcpaaGreatDoorQ8
namespace Go.Proofs.YtccbhblklhmcpaaGreatDoor
set_option linter.unusedSimpArgs false
set_option linter.unusedVariables false
open Go Go.RowKit Go.Shelf Go.Sort
attribute [local go_sem] Nat.add_assoc Nat.add_lt_add_iff_left lit_lt_add

set_option maxRecDepth 100000 in
set_option maxHeartbeats 4000000 in
theorem fuintI_any (u : Nat) (hu : u < 18446744073709551616) (w : World) (ht : Tab w) : Calls Tryz.prog 107 #[.int .u64 u, .int .i64 10] w (Gives w (.string (bs (Lib.decDigits u)))) := by
  by_cases hs : u < 100
  · have hw : IntKind.i64.wrap (u : Int) = (u : Int) := by rw [IntKind.wrap_i64]; omega
    have hw2 : wrap64 (u : Int) = (u : Int) := wrap64_id (by omega) (by omega)
    have k0 : decide ((u : Int) < 100) = true := decide_eq_true (by omega)
    have SM : Hid (∀ w', Calls Tryz.prog 60 #[.int .i64 u] w' (Gives w' (.string (bs (Lib.decDigits u))))) := fun w' =>
      (Any.internal_strconv_small Tryz.lays283 u hs w').mono fun e w'' ⟨h1, h2⟩ => gives_same h1 h2
    obtain ⟨x, hx⟩ : ∃ x : Int, x = (u : Int) := ⟨_, rfl⟩
    rw [← hx] at hw hw2 k0 SM ⊢
    have k0 := of_decide_eq_true k0
    clear hs hx hu ht
    go_enter Tryz.func107, Tryz.ntmps107
    go_wp2_with (fail)
    refine (SM.out _).mono ?_; rintro e w' ⟨rfl, q1, rfl⟩
    go_wp2_with (fail)
    go_ret
    exact gives_end rfl (by (repeat' (first | (with_reducible assumption) | (with_reducible exact Below.refl _ _) | (with_reducible refine below_wov ?_ ?_ _) | (with_reducible refine below_drewN ?_ _) | (with_reducible refine Below.drew ?_) | (with_reducible refine Below.alloc ?_ ?_ _) | (with_reducible refine Below.setCell ?_ ?_ _) | (with_reducible exact Nat.le_refl _) | omega | (simp only [World.size_alloc, World.size_setCell, World.size_drew, Wov_size, World.heap_drewN]; omega))))
  · have hu1 : 1 ≤ u := by omega
    have hnd20 : Lib.nDigits u ≤ 20 := by have := Lib.numDigits_eq u hu1 hu; split at this <;> omega
    have ND : Hid (∀ w', Below w.heap.size w w' → Calls Tryz.prog 61 #[.int .u64 u] w' (fun e w'' => e = .returned (.int .i64 (Lib.nDigits u)) ∧ w'' = w')) := fun w' hb =>
      Any.internal_strconv_numDigits Tryz.lays284 u hu1 hu w' (ht.below hb _ (by kernel_rfl))
    have hal : Tryz.prog.arrayLen 97 = 24 := by simp [Program.arrayLen, Tryz.underlying97]
    have hsl : ∀ W, (Instr.sliceAt 97 (.pointer (some ⟨w.heap.size, 0, none⟩)) none (some (.int .i64 (Lib.nDigits u : Int))) none).run Tryz.prog W = .ok (.slice (some ⟨w.heap.size, 0, none⟩) (Lib.nDigits u) 24) W := fun W => by
      rw [run_sliceAt_array_h W 97 ⟨w.heap.size, 0, none⟩ (by simp [Program.arrayLen, Program.elem, Tryz.underlying97]) .i64 (Lib.nDigits u : Int) (by omega) (by rw [hal]; omega)]
      go_simp
    have hH0 := Lib.holds_zero0 w 97 (Lib.nDigits u) (by omega)
    have hfmt := Any.internal_strconv_formatBase10 Tryz.lays285 w.heap.size 0 24 u (Array.replicate (Lib.nDigits u) 0) (w.alloc (.cells Lib.zeros24 97)) hH0 (by rw [Array.size_replicate]; exact Lib.lt_pow_nDigits u) hu (by rw [Array.size_replicate]; omega)
    rw [Array.size_replicate] at hfmt
    have HH0 := Lib.hid hH0
    have k0 : decide ((u : Int) < 100) = false := decide_eq_false (by omega)
    have HF := Lib.hid hfmt
    clear hH0 hal hs hfmt ht
    go_enter Tryz.func107, Tryz.ntmps107
    go_wp2_with (fail)
    refine (ND.out _ (by (repeat' (first | (with_reducible assumption) | (with_reducible exact Below.refl _ _) | (with_reducible refine below_wov ?_ ?_ _) | (with_reducible refine below_drewN ?_ _) | (with_reducible refine Below.drew ?_) | (with_reducible refine Below.alloc ?_ ?_ _) | (with_reducible refine Below.setCell ?_ ?_ _) | (with_reducible exact Nat.le_refl _) | omega | (simp only [World.size_alloc, World.size_setCell, World.size_drew, Wov_size, World.heap_drewN]; omega))))).mono ?_; rintro e w' ⟨rfl, rfl⟩
    go_wp2_with (fail)
    refine HF.out.mono ?_
    rintro e w' ⟨rfl, k, v', dk, rfl, hF⟩
    have hcv : (convert 72 9 (.slice (some ⟨w.heap.size, 0, none⟩) (Lib.nDigits u) 24)).run Tryz.prog ((putRow (fun (b : UInt8) => Value.int .u8 (b.toNat : Int)) (w.alloc (.cells Lib.zeros24 97)) w.heap.size 0 dk).drewN k) = .ok (.string ⟨(Lib.decDigits u).toArray⟩) ((putRow (fun (b : UInt8) => Value.int .u8 (b.toNat : Int)) (w.alloc (.cells Lib.zeros24 97)) w.heap.size 0 dk).drewN k) := by
      have h := run_convert_bytes_back (P := Tryz.prog) ((putRow (fun (b : UInt8) => Value.int .u8 (b.toNat : Int)) (w.alloc (.cells Lib.zeros24 97)) w.heap.size 0 dk).drewN k) 72 9 5 ⟨w.heap.size, 0, none⟩ 24 (Lib.decDigits u) Tryz.underlying72 Tryz.underlying5 Tryz.underlying9 (fun j hj => by
        rw [Lib.row_is_numeral hF j hj, Lib.add_plain, World.cell?_drewN]
        exact cell?_putRow (fun (b : UInt8) => Value.int .u8 (b.toNat : Int)) _ w.heap.size 0 _ dk HH0.out (by rw [hF.size, Array.size_replicate]) j (by rw [hF.size]; rw [Lib.decDigits_length] at hj; exact hj))
      rw [Lib.decDigits_length] at h
      exact h
    go_wp2_with (fail)
    go_ret
    obtain ⟨os, eo⟩ := Lib.fin_at w (.cells Lib.zeros24 97) dk k 0
    exact gives_below rfl (by rw [eo]; exact Lib.below_grow _ w (Nat.le_refl _) k os)
theorem fuint_any (u : Nat) (hu : u < 18446744073709551616) (w : World) (ht : Tab w) : Calls Tryz.prog 99 #[.int .u64 u, .int .i64 10] w (Gives w (.string (bs (Lib.decDigits u)))) := by
  have F := Lib.hid (fun w' (hb : Below w.heap.size w w') => fuintI_any u hu w' (ht.below hb))
  obtain ⟨B, hB⟩ : ∃ B, B = bs (Lib.decDigits u) := ⟨_, rfl⟩
  obtain ⟨x, hx⟩ : ∃ x : Int, x = (u : Int) := ⟨_, rfl⟩
  rw [← hB, ← hx] at F ⊢
  clear hB hx ht hu
  go_enter Tryz.func99, Tryz.ntmps99
  go_wp2_with (fail)
  refine (F.out _ (by (repeat' (first | (with_reducible assumption) | (with_reducible exact Below.refl _ _) | (with_reducible refine below_wov ?_ ?_ _) | (with_reducible refine below_drewN ?_ _) | (with_reducible refine Below.drew ?_) | (with_reducible refine Below.alloc ?_ ?_ _) | (with_reducible refine Below.setCell ?_ ?_ _) | (with_reducible exact Nat.le_refl _) | omega | (simp only [World.size_alloc, World.size_setCell, World.size_drew, Wov_size, World.heap_drewN]; omega))))).mono ?_; rintro e w' ⟨rfl, q1, rfl⟩
  go_wp2_with (fail)
  go_ret
  exact gives_end rfl (by (repeat' (first | (with_reducible assumption) | (with_reducible exact Below.refl _ _) | (with_reducible refine below_wov ?_ ?_ _) | (with_reducible refine below_drewN ?_ _) | (with_reducible refine Below.drew ?_) | (with_reducible refine Below.alloc ?_ ?_ _) | (with_reducible refine Below.setCell ?_ ?_ _) | (with_reducible exact Nat.le_refl _) | omega | (simp only [World.size_alloc, World.size_setCell, World.size_drew, Wov_size, World.heap_drewN]; omega))))
#print axioms fuint_any
end Go.Proofs.YtccbhblklhmcpaaGreatDoor
