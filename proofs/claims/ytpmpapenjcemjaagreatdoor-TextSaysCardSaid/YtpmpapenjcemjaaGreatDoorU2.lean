/- strings.IndexAny(s, ")]") of any text: the place of its first bracket. No condition but on size. -/
import Derived.Test.YtpmpapenjcemjaaGreatDoorU1
import Derived.Lib.DecodeN
import Derived.Laws.RangeAny
import Derived.Laws.Runes
import Derived.WalkMore
namespace Go.Proofs.YtpmpapenjcemjaaGreatDoor
set_option linter.unusedSimpArgs false
set_option linter.unusedVariables false
open Go Go.RowKit Go.Shelf
attribute [local go_sem] Nat.add_assoc Nat.add_lt_add_iff_left lit_lt_add

theorem get_list (s : ByteArray) (j : Nat) (h : j < s.size) : s.data.toList[j]? = some (s.get! j) := by
  rw [Lib.data_getElem? s j h]
  congr 1
  simp [ByteArray.get!, ByteArray.getElem_eq_getElem_data, getElem!_pos, h]
theorem decode_wide (s : ByteArray) (i : Nat) (hi : i < s.size) (h : 128 ≤ (s.get! i).toNat) :
    128 ≤ (Utf8.decode s i).1 ∧ (Utf8.decode s i).1 ≤ 1114111 ∧ ((Utf8.decode s i).1 < 55296 ∨ 57344 ≤ (Utf8.decode s i).1) ∧ 1 ≤ (Utf8.decode s i).2 ∧ i + (Utf8.decode s i).2 ≤ s.size ∧ ∀ j, i ≤ j → j < i + (Utf8.decode s i).2 → 128 ≤ (s.get! j).toNat := by
  rw [Lib.decode_at]
  obtain ⟨b0, e0⟩ : ∃ b, b = (s.get! i).toNat := ⟨_, rfl⟩
  obtain ⟨b1, e1⟩ : ∃ b, b = (s.get! (i + 1)).toNat := ⟨_, rfl⟩
  obtain ⟨b2, e2⟩ : ∃ b, b = (s.get! (i + 2)).toNat := ⟨_, rfl⟩
  obtain ⟨b3, e3⟩ : ∃ b, b = (s.get! (i + 3)).toNat := ⟨_, rfl⟩
  rw [← e0, ← e1, ← e2, ← e3]
  rw [← e0] at h
  have l0 : b0 < 256 := by rw [e0]; exact UInt8.toNat_lt _
  have l1 : b1 < 256 := by rw [e1]; exact UInt8.toNat_lt _
  have l2 : b2 < 256 := by rw [e2]; exact UInt8.toNat_lt _
  have l3 : b3 < 256 := by rw [e3]; exact UInt8.toNat_lt _
  have at1 : ∀ j, i ≤ j → j < i + 1 → 128 ≤ (s.get! j).toNat := fun j h1 h2 => by rw [show j = i by omega, ← e0]; exact h
  unfold Lib.decodeN
  rw [if_neg (by omega)]
  split
  · rename_i c
    split
    · refine ⟨by show 128 ≤ _; omega, by show _ ≤ 1114111; omega, by show _ < 55296 ∨ _; omega, by show 1 ≤ 2; omega, by show i + 2 ≤ _; omega, fun j h1 h2 => ?_⟩
      have : j < i + 2 := h2
      rcases (show j = i ∨ j = i + 1 by omega) with rfl | rfl
      · omega
      · omega
    · exact ⟨by decide, by decide, by decide, by decide, by show i + 1 ≤ _; omega, at1⟩
  · split
    · rename_i c
      split
      · refine ⟨by show 128 ≤ _; omega, by show _ ≤ 1114111; omega, by show _ < 55296 ∨ _; omega, by show 1 ≤ 3; omega, by show i + 3 ≤ _; omega, fun j h1 h2 => ?_⟩
        have : j < i + 3 := h2
        rcases (show j = i ∨ j = i + 1 ∨ j = i + 2 by omega) with rfl | rfl | rfl
        · omega
        · omega
        · omega
      · exact ⟨by decide, by decide, by decide, by decide, by show i + 1 ≤ _; omega, at1⟩
    · split
      · rename_i c
        split
        · refine ⟨by show 128 ≤ _; omega, by show _ ≤ 1114111; omega, by show _ < 55296 ∨ _; omega, by show 1 ≤ 4; omega, by show i + 4 ≤ _; omega, fun j h1 h2 => ?_⟩
          have : j < i + 4 := h2
          rcases (show j = i ∨ j = i + 1 ∨ j = i + 2 ∨ j = i + 3 by omega) with rfl | rfl | rfl | rfl
          · omega
          · omega
          · omega
          · omega
        · exact ⟨by decide, by decide, by decide, by decide, by show i + 1 ≤ _; omega, at1⟩
      · exact ⟨by decide, by decide, by decide, by decide, by show i + 1 ≤ _; omega, at1⟩
theorem encode_wide (r : Int) (h0 : 128 ≤ r) (h1 : r ≤ 1114111) (hv : r < 55296 ∨ 57344 ≤ r) : (∃ x y : UInt8, Utf8.encode r = ⟨#[x, y]⟩ ∧ 128 ≤ y.toNat) ∨ (3 ≤ (Utf8.encode r).size ∧ (Utf8.encode r).size ≤ 4) := by
  have hval : Utf8.valid r = true := by unfold Utf8.valid; simp; omega
  unfold Utf8.encode
  rw [if_pos hval]
  simp only
  rw [if_neg (by omega)]
  split
  · refine .inl ⟨_, _, rfl, ?_⟩
    rw [UInt8.toNat_ofNat']; omega
  · split
    · exact .inr ⟨by show 3 ≤ 3; omega, by show 3 ≤ 4; omega⟩
    · exact .inr ⟨by show 3 ≤ 4; omega, by show 4 ≤ 4; omega⟩
set_option maxRecDepth 10000 in
set_option maxHeartbeats 1000000 in
theorem validRune_any (r : Int) (h0 : 0 ≤ r) (h1 : r ≤ 1114111) (hv : r < 55296 ∨ 57344 ≤ r) : Pure Tryz.prog 158 #[.int .i32 r] (.bool true) := by
  intro w
  by_cases h : r < 55296
  · go_enter Tryz.func158, Tryz.ntmps158
    go_wp2
    all_goals
      go_ret
      exact gives_end rfl (by (repeat' (first | (with_reducible assumption) | (with_reducible exact Below.refl _ _) | (with_reducible refine below_wov ?_ ?_ _) | (with_reducible refine below_drewN ?_ _) | (with_reducible refine Below.drew ?_) | (with_reducible refine Below.alloc ?_ ?_ _) | (with_reducible refine Below.setCell ?_ ?_ _) | (with_reducible exact Nat.le_refl _) | omega | (simp only [World.size_alloc, World.size_setCell, World.size_drew, Wov_size, World.heap_drewN]; omega))))
  · have h2 : 57343 < r := by omega
    clear hv
    go_enter Tryz.func158, Tryz.ntmps158
    go_wp2
    all_goals
      go_ret
      exact gives_end rfl (by (repeat' (first | (with_reducible assumption) | (with_reducible exact Below.refl _ _) | (with_reducible refine below_wov ?_ ?_ _) | (with_reducible refine below_drewN ?_ _) | (with_reducible refine Below.drew ?_) | (with_reducible refine Below.alloc ?_ ?_ _) | (with_reducible refine Below.setCell ?_ ?_ _) | (with_reducible exact Nat.le_refl _) | omega | (simp only [World.size_alloc, World.size_setCell, World.size_drew, Wov_size, World.heap_drewN]; omega))))
set_option maxRecDepth 10000 in
set_option maxHeartbeats 2000000 in
theorem rune_error : Pure Tryz.prog 108 #[.string ⟨#[41, 93]⟩, .int .i32 65533] (.int .i64 (-1)) := by
  intro w
  have n0 := fun ty => run_next_ascii (P := Tryz.prog) w ⟨#[41, 93]⟩ 0 ty (by decide) (by decide)
  have n1 := fun ty => run_next_ascii (P := Tryz.prog) w ⟨#[41, 93]⟩ 1 ty (by decide) (by decide)
  have n2 := fun ty => run_next_end (P := Tryz.prog) w ⟨#[41, 93]⟩ 2 ty (by decide)
  go_enter Tryz.func108, Tryz.ntmps108
  go_wp2
  go_loopg [5, 6] 2 (fun g _ _ wx => ∃ i : Nat, i + g = 2 ∧ wx = w.iter ⟨#[41, 93]⟩ i)
  case atStart => exact ⟨0, rfl, rfl⟩
  case round =>
    obtain ⟨i, hig, rfl⟩ := hrel
    rcases (show i = 0 ∨ i = 1 ∨ i = 2 by omega) with rfl | rfl | rfl
    · go_wp2
      go_roundg 1
      case measure => omega
      case rel => exact ⟨1, rfl, rfl⟩
    · go_wp2
      go_roundg 0
      case measure => omega
      case rel => exact ⟨2, rfl, rfl⟩
    · go_wp2
      go_ret
      exact gives_end rfl ((Below.refl _ _).alloc (Nat.le_refl _) _)
set_option maxRecDepth 10000 in
set_option maxHeartbeats 2000000 in
theorem rune_two (r : Int) (h0 : 128 ≤ r) (h1 : r ≤ 1114111) (hv : r < 55296 ∨ 57344 ≤ r) (he : r ≠ 65533) (x y : UInt8) (hE : Utf8.encode r = ⟨#[x, y]⟩) (hy : 128 ≤ y.toNat) : Pure Tryz.prog 108 #[.string ⟨#[41, 93]⟩, .int .i32 r] (.int .i64 (-1)) := by
  intro w
  have V := Lib.hid (validRune_any r (by omega) h1 hv)
  have I : Hid (Pure Tryz.prog 157 #[.string ByteArray.empty, .int .u8 y.toNat] (.int .i64 (-1))) := indexByte_any ByteArray.empty y
  have hcv := fun w' => (run_convert_int_string (P := Tryz.prog) w' 21 9 .i32 r (by kernel_rfl) Tryz.underlying9).trans (by rw [hE])
  have hr : (r == 65533) = false := by rw [beq_eq_false_iff_ne]; exact he
  have hd : decide (r < 128) = false := decide_eq_false (by omega)
  have h0' : 0 ≤ r := by omega
  have hyb : ((93 : Int) != (y.toNat : Int)) = true := by rw [bne_iff_ne]; omega
  have sz : (ByteArray.mk #[x, y]).size = 2 := rfl
  have g1 : (ByteArray.mk #[x, y])[1] = y := rfl
  have e0 : (ByteArray.mk #[41, 93]).extract 2 2 = ⟨#[]⟩ := rfl
  have sz2 : (ByteArray.mk #[41, 93]).size = 2 := rfl
  have g2 : (ByteArray.mk #[41, 93])[1] = 93 := rfl
  obtain ⟨E, hEE⟩ : ∃ E, E = ByteArray.mk #[x, y] := ⟨_, rfl⟩
  clear he hv h1 h0 hy hE
  go_enter Tryz.func108, Tryz.ntmps108
  go_wp2_with (fail)
  refine (V.out _).mono ?_; rintro e w' ⟨rfl, q1, rfl⟩
  go_wp2_with (fail)
  go_step3
  go_wp2_with (fail)
  go_loopw [9, 10, 11, 12] (fun i _ _ _ wr => i = .int .i64 1 ∧ Below w.heap.size w wr) (fun _ _ _ _ _ => 0)
  case atStart => exact ⟨rfl, by (repeat' (first | (with_reducible assumption) | (with_reducible exact Below.refl _ _) | (with_reducible refine below_wov ?_ ?_ _) | (with_reducible refine below_drewN ?_ _) | (with_reducible refine Below.drew ?_) | (with_reducible refine Below.alloc ?_ ?_ _) | (with_reducible refine Below.setCell ?_ ?_ _) | (with_reducible exact Nat.le_refl _) | omega | (simp only [World.size_alloc, World.size_setCell, World.size_drew, Wov_size, World.heap_drewN]; omega)))⟩
  case round =>
    obtain ⟨rfl, hB⟩ := hrel
    have szr := hB.size
    go_wp2_with (fail)
    go_step3
    go_wp2_with (fail)
    go_region
    go_wp2_with (fail)
    have D1 := Lib.hid (gives_at (W := wr) (fun w' (_ : Below wr.heap.size wr w') => I.out w'))
    refine wp_region_wov (by kernel_rfl) (by kernel_rfl) ?_
    repeat (go_big_quiet_step ((go_at_call 157; exact D1.out _)))
    refine wpQuiet_nil ?_
    rintro _ ⟨pq, rfl⟩
    clear D1
    go_wp2_with (fail)
    simp only [Exit.noGoto_ret, go_sem]
    go_ret
    exact gives_end rfl (by (repeat' (first | (with_reducible assumption) | (with_reducible exact Below.refl _ _) | (with_reducible refine below_wov ?_ ?_ _) | (with_reducible refine below_drewN ?_ _) | (with_reducible refine Below.drew ?_) | (with_reducible refine Below.alloc ?_ ?_ _) | (with_reducible refine Below.setCell ?_ ?_ _) | (with_reducible exact Nat.le_refl _) | omega | (simp only [World.size_alloc, World.size_setCell, World.size_drew, Wov_size, World.heap_drewN]; omega))))
set_option maxRecDepth 10000 in
set_option maxHeartbeats 2000000 in
theorem rune_many (r : Int) (h0 : 128 ≤ r) (h1 : r ≤ 1114111) (hv : r < 55296 ∨ 57344 ≤ r) (he : r ≠ 65533) (E : ByteArray) (hE : Utf8.encode r = E) (h3 : 3 ≤ E.size) (h4 : E.size ≤ 4) : Pure Tryz.prog 108 #[.string ⟨#[41, 93]⟩, .int .i32 r] (.int .i64 (-1)) := by
  intro w
  have V := Lib.hid (validRune_any r (by omega) h1 hv)
  have hcv := fun w' => (run_convert_int_string (P := Tryz.prog) w' 21 9 .i32 r (by kernel_rfl) Tryz.underlying9).trans (by rw [hE])
  have hr : (r == 65533) = false := by rw [beq_eq_false_iff_ne]; exact he
  have hd : decide (r < 128) = false := decide_eq_false (by omega)
  have h0' : 0 ≤ r := by omega
  have sz2 : (ByteArray.mk #[41, 93]).size = 2 := rfl
  have hl : decide ((E.size : Int) - 1 < 2) = false := decide_eq_false (by omega)
  have hwr : wrap64 ((E.size : Int) - 1) = (E.size : Int) - 1 := wrap64_id (by omega) (by omega)
  clear he hv h1 h0 hE
  go_enter Tryz.func108, Tryz.ntmps108
  go_wp2_with (fail)
  refine (V.out _).mono ?_; rintro e w' ⟨rfl, q1, rfl⟩
  go_wp2_with (fail)
  go_step3
  go_wp2_with (fail)
  go_loopw [9, 10, 11, 12] (fun i _ _ _ wr => i = .int .i64 ((E.size : Int) - 1) ∧ Below w.heap.size w wr) (fun _ _ _ _ _ => 0)
  case atStart => exact ⟨rfl, by (repeat' (first | (with_reducible assumption) | (with_reducible exact Below.refl _ _) | (with_reducible refine below_wov ?_ ?_ _) | (with_reducible refine below_drewN ?_ _) | (with_reducible refine Below.drew ?_) | (with_reducible refine Below.alloc ?_ ?_ _) | (with_reducible refine Below.setCell ?_ ?_ _) | (with_reducible exact Nat.le_refl _) | omega | (simp only [World.size_alloc, World.size_setCell, World.size_drew, Wov_size, World.heap_drewN]; omega)))⟩
  case round =>
    obtain ⟨rfl, hB⟩ := hrel
    have szr := hB.size
    go_wp2_with (fail)
    go_ret
    exact gives_end rfl (by (repeat' (first | (with_reducible assumption) | (with_reducible exact Below.refl _ _) | (with_reducible refine below_wov ?_ ?_ _) | (with_reducible refine below_drewN ?_ _) | (with_reducible refine Below.drew ?_) | (with_reducible refine Below.alloc ?_ ?_ _) | (with_reducible refine Below.setCell ?_ ?_ _) | (with_reducible exact Nat.le_refl _) | omega | (simp only [World.size_alloc, World.size_setCell, World.size_drew, Wov_size, World.heap_drewN]; omega))))
theorem rune_any (r : Int) (h0 : 128 ≤ r) (h1 : r ≤ 1114111) (hv : r < 55296 ∨ 57344 ≤ r) : Pure Tryz.prog 108 #[.string ⟨#[41, 93]⟩, .int .i32 r] (.int .i64 (-1)) := by
  by_cases he : r = 65533
  · rw [he]; exact rune_error
  · rcases encode_wide r h0 h1 hv with ⟨x, y, hE, hy⟩ | ⟨h3, h4⟩
    · exact rune_two r h0 h1 hv he x y hE hy
    · exact rune_many r h0 h1 hv he _ rfl h3 h4
#print axioms rune_any
end Go.Proofs.YtpmpapenjcemjaaGreatDoor
