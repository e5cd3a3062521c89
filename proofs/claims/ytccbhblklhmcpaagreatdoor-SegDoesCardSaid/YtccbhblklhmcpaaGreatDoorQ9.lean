/- strings.ContainsRune of lex's signs, and any rune. No condition but that it is a rune. -/
import Derived.Test.YtccbhblklhmcpaaGreatDoorQ8
import Derived.Lib.DecodeN
import Derived.Laws.RangeAny
import Derived.Laws.Runes
import Derived.WalkMore
import Derived.Lib.OthersKept
namespace Go.Proofs.YtccbhblklhmcpaaGreatDoor
set_option linter.unusedSimpArgs false
set_option linter.unusedVariables false
open Go Go.RowKit Go.Shelf
attribute [local go_sem] Nat.add_assoc Nat.add_lt_add_iff_left lit_lt_add

theorem gives_at {P : Program} {fi : FuncId} {args : Array Value} {v : Value} {W : World} (h : ∀ w', Below W.heap.size W w' → Calls P fi args w' (Gives w' v)) (p : Gr) : Calls P fi args (Wov W p) fun e w'' => e = .returned v ∧ ∃ q, w'' = Wov W q :=
  (h (Wov W p) (below_Wov W p)).mono fun _ _ ⟨he, q, hq⟩ => ⟨he, ⟨p.bl ++ q.bl, q.dr⟩, by rw [hq, Wov_Wov]⟩
theorem get_list (s : ByteArray) (j : Nat) (h : j < s.size) : s.data.toList[j]? = some (s.get! j) := by
  rw [Lib.data_getElem? s j h]
  congr 1
  simp [ByteArray.get!, ByteArray.getElem_eq_getElem_data, getElem!_pos, h]
theorem decode_wide (s : ByteArray) (i : Nat) (hi : i < s.size) (h : 128 ≤ (s.get! i).toNat) :
    128 ≤ (Utf8.decode s i).1 ∧ (Utf8.decode s i).1 ≤ 1114111 ∧ ((Utf8.decode s i).1 < 55296 ∨ 57344 ≤ (Utf8.decode s i).1) ∧ 1 ≤ (Utf8.decode s i).2 ∧ i + (Utf8.decode s i).2 ≤ s.size ∧ ∀ j, i ≤ j → j < i + (Utf8.decode s i).2 → 128 ≤ (s.get! j).toNat := by
  rw [Lib.decode_at]
  obtain ⟨b0, e0⟩ : ∃ b, b = (s.get! i).toNat := ⟨_, rfl⟩
  obtain ⟨b1, e1⟩ : ∃ b, b = (s.get! (i + 1)).toNat := ⟨_, rfl⟩
  obtain ⟨b2, e2⟩ : ∃ b, b = (s.get! (i + 2)).toNat := ⟨_, rfl⟩
  obtain ⟨b3, e3⟩ : ∃ b, b = (s.get! (i + 3)).toNat := ⟨_, rfl⟩
  rw [← e0, ← e1, ← e2, ← e3]
  rw [← e0] at h
  have l0 : b0 < 256 := by rw [e0]; exact UInt8.toNat_lt _
  have l1 : b1 < 256 := by rw [e1]; exact UInt8.toNat_lt _
  have l2 : b2 < 256 := by rw [e2]; exact UInt8.toNat_lt _
  have l3 : b3 < 256 := by rw [e3]; exact UInt8.toNat_lt _
  have at1 : ∀ j, i ≤ j → j < i + 1 → 128 ≤ (s.get! j).toNat := fun j h1 h2 => by rw [show j = i by omega, ← e0]; exact h
  unfold Lib.decodeN
  rw [if_neg (by omega)]
  split
  · rename_i c
    split
    · refine ⟨by show 128 ≤ _; omega, by show _ ≤ 1114111; omega, by show _ < 55296 ∨ _; omega, by show 1 ≤ 2; omega, by show i + 2 ≤ _; omega, fun j h1 h2 => ?_⟩
      have : j < i + 2 := h2
      rcases (show j = i ∨ j = i + 1 by omega) with rfl | rfl
      · omega
      · omega
    · exact ⟨by decide, by decide, by decide, by decide, by show i + 1 ≤ _; omega, at1⟩
  · split
    · rename_i c
      split
      · refine ⟨by show 128 ≤ _; omega, by show _ ≤ 1114111; omega, by show _ < 55296 ∨ _; omega, by show 1 ≤ 3; omega, by show i + 3 ≤ _; omega, fun j h1 h2 => ?_⟩
        have : j < i + 3 := h2
        rcases (show j = i ∨ j = i + 1 ∨ j = i + 2 by omega) with rfl | rfl | rfl
        · omega
        · omega
        · omega
      · exact ⟨by decide, by decide, by decide, by decide, by show i + 1 ≤ _; omega, at1⟩
    · split
      · rename_i c
        split
        · refine ⟨by show 128 ≤ _; omega, by show _ ≤ 1114111; omega, by show _ < 55296 ∨ _; omega, by show 1 ≤ 4; omega, by show i + 4 ≤ _; omega, fun j h1 h2 => ?_⟩
          have : j < i + 4 := h2
          rcases (show j = i ∨ j = i + 1 ∨ j = i + 2 ∨ j = i + 3 by omega) with rfl | rfl | rfl | rfl
          · omega
          · omega
          · omega
          · omega
        · exact ⟨by decide, by decide, by decide, by decide, by show i + 1 ≤ _; omega, at1⟩
      · exact ⟨by decide, by decide, by decide, by decide, by show i + 1 ≤ _; omega, at1⟩
/-- What a wide rune is spelled as: two to four bytes, the last one wide. -/
theorem encode_wide (r : Int) (h0 : 128 ≤ r) (h1 : r ≤ 1114111) (hv : r < 55296 ∨ 57344 ≤ r) : (∃ x y : UInt8, Utf8.encode r = ⟨#[x, y]⟩ ∧ 128 ≤ y.toNat) ∨ (∃ x z y : UInt8, Utf8.encode r = ⟨#[x, z, y]⟩ ∧ 128 ≤ y.toNat) ∨ (∃ x z u y : UInt8, Utf8.encode r = ⟨#[x, z, u, y]⟩ ∧ 128 ≤ y.toNat) := by
  have hval : Utf8.valid r = true := by unfold Utf8.valid; simp; omega
  unfold Utf8.encode
  rw [if_pos hval]
  simp only
  rw [if_neg (by omega)]
  split
  · refine .inl ⟨_, _, rfl, ?_⟩
    rw [UInt8.toNat_ofNat']; omega
  · split
    · refine .inr (.inl ⟨_, _, _, rfl, ?_⟩)
      rw [UInt8.toNat_ofNat']; omega
    · refine .inr (.inr ⟨_, _, _, _, rfl, ?_⟩)
      rw [UInt8.toNat_ofNat']; omega
set_option maxRecDepth 10000 in
set_option maxHeartbeats 1000000 in
theorem validRune_any (r : Int) (h0 : 0 ≤ r) (h1 : r ≤ 1114111) (hv : r < 55296 ∨ 57344 ≤ r) : Pure Tryz.prog 101 #[.int .i32 r] (.bool true) := by
  intro w
  by_cases h : r < 55296
  · go_enter Tryz.func101, Tryz.ntmps101
    go_wp2
    all_goals
      go_ret
      exact gives_end rfl (by (repeat' (first | (with_reducible assumption) | (with_reducible exact Below.refl _ _) | (with_reducible refine below_wov ?_ ?_ _) | (with_reducible refine below_drewN ?_ _) | (with_reducible refine Below.drew ?_) | (with_reducible refine Below.alloc ?_ ?_ _) | (with_reducible refine Below.setCell ?_ ?_ _) | (with_reducible exact Nat.le_refl _) | omega | (simp only [World.size_alloc, World.size_setCell, World.size_drew, Wov_size, World.heap_drewN]; omega))))
  · have h2 : 57343 < r := by omega
    clear hv
    go_enter Tryz.func101, Tryz.ntmps101
    go_wp2
    all_goals
      go_ret
      exact gives_end rfl (by (repeat' (first | (with_reducible assumption) | (with_reducible exact Below.refl _ _) | (with_reducible refine below_wov ?_ ?_ _) | (with_reducible refine below_drewN ?_ _) | (with_reducible refine Below.drew ?_) | (with_reducible refine Below.alloc ?_ ?_ _) | (with_reducible refine Below.setCell ?_ ?_ _) | (with_reducible exact Nat.le_refl _) | omega | (simp only [World.size_alloc, World.size_setCell, World.size_drew, Wov_size, World.heap_drewN]; omega))))
def sgB : ByteArray := ⟨#[124, 38, 59, 43, 60, 62, 95, 91, 93, 40, 41, 44, 33, 123, 125]⟩
theorem sg_ascii : ∀ i, ∀ h : i < sgB.size, (sgB[i]'h).toNat < 128 := by decide
set_option maxRecDepth 10000 in
set_option maxHeartbeats 2000000 in
theorem rune_error : Pure Tryz.prog 86 #[.string ⟨#[124, 38, 59, 43, 60, 62, 95, 91, 93, 40, 41, 44, 33, 123, 125]⟩, .int .i32 65533] (.int .i64 (-1)) := by
  intro w
  show Calls Tryz.prog 86 #[.string sgB, .int .i32 65533] w _
  have hsz : sgB.size = 15 := rfl
  have hA := Lib.hid sg_ascii
  obtain ⟨S, hS⟩ : ∃ S, S = sgB := ⟨_, rfl⟩
  rw [← hS] at hsz hA ⊢
  clear hS
  go_enter Tryz.func86, Tryz.ntmps86
  go_wp2_with (fail)
  go_loopg [5, 6] 15 (fun g _ _ wx => ∃ i : Nat, i + g = 15 ∧ wx = w.iter S i)
  case atStart => exact ⟨0, rfl, rfl⟩
  case round =>
    obtain ⟨i, hig, rfl⟩ := hrel
    by_cases hi : i < 15
    · have hi' : i < S.size := by omega
      have nx := fun ty => run_next_ascii (P := Tryz.prog) w S i ty hi' (hA.out i hi')
      have ne : (((S[i]'hi').toNat : Int) == 65533) = false := by
        have := hA.out i hi'
        rw [beq_eq_false_iff_ne]; omega
      obtain ⟨b, hb⟩ : ∃ b, b = (S[i]'hi').toNat := ⟨_, rfl⟩
      rw [← hb] at ne
      simp only [← hb] at nx
      clear hb hA
      go_wp2_with (fail)
      go_roundg (14 - i)
      case measure => omega
      case rel => exact ⟨i + 1, by omega, rfl⟩
    · obtain rfl : i = 15 := by omega
      have nx := fun ty => run_next_end (P := Tryz.prog) w S 15 ty (by omega)
      clear hi hA
      go_wp2_with (fail)
      go_ret
      exact gives_end rfl ((Below.refl _ _).alloc (Nat.le_refl _) _)
set_option maxRecDepth 10000 in
set_option maxHeartbeats 2000000 in
theorem rune_two (r : Int) (h0 : 128 ≤ r) (h1 : r ≤ 1114111) (hv : r < 55296 ∨ 57344 ≤ r) (he : r ≠ 65533) (x y : UInt8) (hE : Utf8.encode r = ⟨#[x, y]⟩) (hy : 128 ≤ y.toNat) : Pure Tryz.prog 86 #[.string ⟨#[124, 38, 59, 43, 60, 62, 95, 91, 93, 40, 41, 44, 33, 123, 125]⟩, .int .i32 r] (.int .i64 (-1)) := by
  intro w
  show Calls Tryz.prog 86 #[.string sgB, .int .i32 r] w _
  have V := Lib.hid (validRune_any r (by omega) h1 hv)
  obtain ⟨T, hT⟩ : ∃ T, T = sgB.extract 2 15 := ⟨_, rfl⟩
  have I : Hid (Calls Tryz.prog 100 #[.string T, .int .u8 y.toNat] = fun w' => Calls Tryz.prog 100 #[.string T, .int .u8 y.toNat] w') := rfl
  have IB : Hid (Pure Tryz.prog 100 #[.string T, .int .u8 y.toNat] (.int .i64 (-1))) := by
    intro w'
    have := indexByte_any T y w'
    have e : Lib.indexByte T.data.toList y = -1 := by
      have h3 := Lib.contains_iff_indexByte T.data.toList y
      have h4 : T.data.toList.contains y = false := by
        rw [Bool.eq_false_iff]; intro hm
        have hm := List.contains_iff_mem.1 hm
        rw [hT] at hm
        have : ∀ b ∈ (sgB.extract 2 15).data.toList, b.toNat < 128 := by decide
        have := this y hm
        omega
      rw [h4] at h3
      have h5 : ¬ 0 ≤ Lib.indexByte T.data.toList y := of_decide_eq_false h3.symm
      have := Lib.indexByte_ge T.data.toList y
      omega
    rwa [e] at this
  have hcv := fun w' => (run_convert_int_string (P := Tryz.prog) w' 21 9 .i32 r (by kernel_rfl) Tryz.underlying9).trans (by rw [hE])
  have hr : (r == 65533) = false := by rw [beq_eq_false_iff_ne]; exact he
  have hd : decide (r < 128) = false := decide_eq_false (by omega)
  have h0' : 0 ≤ r := by omega
  have hyb : ((38 : Int) != (y.toNat : Int)) = true := by rw [bne_iff_ne]; omega
  have sz : (ByteArray.mk #[x, y]).size = 2 := rfl
  have g1 : (ByteArray.mk #[x, y])[1] = y := rfl
  have e0 : sgB.extract 2 15 = T := hT.symm
  have sz2 : sgB.size = 15 := rfl
  have g2 : ∀ h, (sgB[1]'h) = 38 := fun _ => rfl
  clear he hv h1 h0 hy hE hT I
  revert e0 sz2 g2
  generalize sgB = S
  intro e0 sz2 g2
  go_enter Tryz.func86, Tryz.ntmps86
  go_wp2_with (fail)
  refine (V.out _).mono ?_; rintro e w' ⟨rfl, q1, rfl⟩
  go_wp2_with (fail)
  go_step3
  go_wp2_with (fail)
  go_loopw [9, 10, 11, 12] (fun i _ _ _ wr => i = .int .i64 1 ∧ Below w.heap.size w wr) (fun _ _ _ _ _ => 0)
  case atStart => exact ⟨rfl, by (repeat' (first | (with_reducible assumption) | (with_reducible exact Below.refl _ _) | (with_reducible refine below_wov ?_ ?_ _) | (with_reducible refine below_drewN ?_ _) | (with_reducible refine Below.drew ?_) | (with_reducible refine Below.alloc ?_ ?_ _) | (with_reducible refine Below.setCell ?_ ?_ _) | (with_reducible exact Nat.le_refl _) | omega | (simp only [World.size_alloc, World.size_setCell, World.size_drew, Wov_size, World.heap_drewN]; omega)))⟩
  case round =>
    obtain ⟨rfl, hB⟩ := hrel
    have szr := hB.size
    go_wp2_with (fail)
    go_step3
    go_wp2_with (fail)
    go_region
    go_wp2_with (fail)
    have D1 := Lib.hid (gives_at (W := wr) (fun w' (_ : Below wr.heap.size wr w') => IB.out w'))
    refine wp_region_wov (by kernel_rfl) (by kernel_rfl) ?_
    repeat (go_big_quiet_step ((go_at_call 100; exact D1.out _)))
    refine wpQuiet_nil ?_
    rintro _ ⟨pq, rfl⟩
    clear D1
    go_wp2_with (fail)
    simp only [Exit.noGoto_ret, go_sem]
    go_ret
    exact gives_end rfl (by (repeat' (first | (with_reducible assumption) | (with_reducible exact Below.refl _ _) | (with_reducible refine below_wov ?_ ?_ _) | (with_reducible refine below_drewN ?_ _) | (with_reducible refine Below.drew ?_) | (with_reducible refine Below.alloc ?_ ?_ _) | (with_reducible refine Below.setCell ?_ ?_ _) | (with_reducible exact Nat.le_refl _) | omega | (simp only [World.size_alloc, World.size_setCell, World.size_drew, Wov_size, World.heap_drewN]; omega))))
set_option maxRecDepth 10000 in
set_option maxHeartbeats 2000000 in
theorem rune_three (r : Int) (h0 : 128 ≤ r) (h1 : r ≤ 1114111) (hv : r < 55296 ∨ 57344 ≤ r) (he : r ≠ 65533) (x z y : UInt8) (hE : Utf8.encode r = ⟨#[x, z, y]⟩) (hy : 128 ≤ y.toNat) : Pure Tryz.prog 86 #[.string ⟨#[124, 38, 59, 43, 60, 62, 95, 91, 93, 40, 41, 44, 33, 123, 125]⟩, .int .i32 r] (.int .i64 (-1)) := by
  intro w
  show Calls Tryz.prog 86 #[.string sgB, .int .i32 r] w _
  have V := Lib.hid (validRune_any r (by omega) h1 hv)
  obtain ⟨T, hT⟩ : ∃ T, T = sgB.extract 3 15 := ⟨_, rfl⟩
  have I : Hid (Calls Tryz.prog 100 #[.string T, .int .u8 y.toNat] = fun w' => Calls Tryz.prog 100 #[.string T, .int .u8 y.toNat] w') := rfl
  have IB : Hid (Pure Tryz.prog 100 #[.string T, .int .u8 y.toNat] (.int .i64 (-1))) := by
    intro w'
    have := indexByte_any T y w'
    have e : Lib.indexByte T.data.toList y = -1 := by
      have h3 := Lib.contains_iff_indexByte T.data.toList y
      have h4 : T.data.toList.contains y = false := by
        rw [Bool.eq_false_iff]; intro hm
        have hm := List.contains_iff_mem.1 hm
        rw [hT] at hm
        have : ∀ b ∈ (sgB.extract 3 15).data.toList, b.toNat < 128 := by decide
        have := this y hm
        omega
      rw [h4] at h3
      have h5 : ¬ 0 ≤ Lib.indexByte T.data.toList y := of_decide_eq_false h3.symm
      have := Lib.indexByte_ge T.data.toList y
      omega
    rwa [e] at this
  have hcv := fun w' => (run_convert_int_string (P := Tryz.prog) w' 21 9 .i32 r (by kernel_rfl) Tryz.underlying9).trans (by rw [hE])
  have hr : (r == 65533) = false := by rw [beq_eq_false_iff_ne]; exact he
  have hd : decide (r < 128) = false := decide_eq_false (by omega)
  have h0' : 0 ≤ r := by omega
  have hyb : ((59 : Int) != (y.toNat : Int)) = true := by rw [bne_iff_ne]; omega
  have sz : (ByteArray.mk #[x, z, y]).size = 3 := rfl
  have g1 : (ByteArray.mk #[x, z, y])[2] = y := rfl
  have e0 : sgB.extract 3 15 = T := hT.symm
  have sz2 : sgB.size = 15 := rfl
  have g2 : ∀ h, (sgB[2]'h) = 59 := fun _ => rfl
  clear he hv h1 h0 hy hE hT I
  revert e0 sz2 g2
  generalize sgB = S
  intro e0 sz2 g2
  go_enter Tryz.func86, Tryz.ntmps86
  go_wp2_with (fail)
  refine (V.out _).mono ?_; rintro e w' ⟨rfl, q1, rfl⟩
  go_wp2_with (fail)
  go_step3
  go_wp2_with (fail)
  go_loopw [9, 10, 11, 12] (fun i _ _ _ wr => i = .int .i64 2 ∧ Below w.heap.size w wr) (fun _ _ _ _ _ => 0)
  case atStart => exact ⟨rfl, by (repeat' (first | (with_reducible assumption) | (with_reducible exact Below.refl _ _) | (with_reducible refine below_wov ?_ ?_ _) | (with_reducible refine below_drewN ?_ _) | (with_reducible refine Below.drew ?_) | (with_reducible refine Below.alloc ?_ ?_ _) | (with_reducible refine Below.setCell ?_ ?_ _) | (with_reducible exact Nat.le_refl _) | omega | (simp only [World.size_alloc, World.size_setCell, World.size_drew, Wov_size, World.heap_drewN]; omega)))⟩
  case round =>
    obtain ⟨rfl, hB⟩ := hrel
    have szr := hB.size
    go_wp2_with (fail)
    go_step3
    go_wp2_with (fail)
    go_region
    go_wp2_with (fail)
    have D1 := Lib.hid (gives_at (W := wr) (fun w' (_ : Below wr.heap.size wr w') => IB.out w'))
    refine wp_region_wov (by kernel_rfl) (by kernel_rfl) ?_
    repeat (go_big_quiet_step ((go_at_call 100; exact D1.out _)))
    refine wpQuiet_nil ?_
    rintro _ ⟨pq, rfl⟩
    clear D1
    go_wp2_with (fail)
    simp only [Exit.noGoto_ret, go_sem]
    go_ret
    exact gives_end rfl (by (repeat' (first | (with_reducible assumption) | (with_reducible exact Below.refl _ _) | (with_reducible refine below_wov ?_ ?_ _) | (with_reducible refine below_drewN ?_ _) | (with_reducible refine Below.drew ?_) | (with_reducible refine Below.alloc ?_ ?_ _) | (with_reducible refine Below.setCell ?_ ?_ _) | (with_reducible exact Nat.le_refl _) | omega | (simp only [World.size_alloc, World.size_setCell, World.size_drew, Wov_size, World.heap_drewN]; omega))))
set_option maxRecDepth 10000 in
set_option maxHeartbeats 2000000 in
theorem rune_four (r : Int) (h0 : 128 ≤ r) (h1 : r ≤ 1114111) (hv : r < 55296 ∨ 57344 ≤ r) (he : r ≠ 65533) (x z u y : UInt8) (hE : Utf8.encode r = ⟨#[x, z, u, y]⟩) (hy : 128 ≤ y.toNat) : Pure Tryz.prog 86 #[.string ⟨#[124, 38, 59, 43, 60, 62, 95, 91, 93, 40, 41, 44, 33, 123, 125]⟩, .int .i32 r] (.int .i64 (-1)) := by
  intro w
  show Calls Tryz.prog 86 #[.string sgB, .int .i32 r] w _
  have V := Lib.hid (validRune_any r (by omega) h1 hv)
  obtain ⟨T, hT⟩ : ∃ T, T = sgB.extract 4 15 := ⟨_, rfl⟩
  have I : Hid (Calls Tryz.prog 100 #[.string T, .int .u8 y.toNat] = fun w' => Calls Tryz.prog 100 #[.string T, .int .u8 y.toNat] w') := rfl
  have IB : Hid (Pure Tryz.prog 100 #[.string T, .int .u8 y.toNat] (.int .i64 (-1))) := by
    intro w'
    have := indexByte_any T y w'
    have e : Lib.indexByte T.data.toList y = -1 := by
      have h3 := Lib.contains_iff_indexByte T.data.toList y
      have h4 : T.data.toList.contains y = false := by
        rw [Bool.eq_false_iff]; intro hm
        have hm := List.contains_iff_mem.1 hm
        rw [hT] at hm
        have : ∀ b ∈ (sgB.extract 4 15).data.toList, b.toNat < 128 := by decide
        have := this y hm
        omega
      rw [h4] at h3
      have h5 : ¬ 0 ≤ Lib.indexByte T.data.toList y := of_decide_eq_false h3.symm
      have := Lib.indexByte_ge T.data.toList y
      omega
    rwa [e] at this
  have hcv := fun w' => (run_convert_int_string (P := Tryz.prog) w' 21 9 .i32 r (by kernel_rfl) Tryz.underlying9).trans (by rw [hE])
  have hr : (r == 65533) = false := by rw [beq_eq_false_iff_ne]; exact he
  have hd : decide (r < 128) = false := decide_eq_false (by omega)
  have h0' : 0 ≤ r := by omega
  have hyb : ((43 : Int) != (y.toNat : Int)) = true := by rw [bne_iff_ne]; omega
  have sz : (ByteArray.mk #[x, z, u, y]).size = 4 := rfl
  have g1 : (ByteArray.mk #[x, z, u, y])[3] = y := rfl
  have e0 : sgB.extract 4 15 = T := hT.symm
  have sz2 : sgB.size = 15 := rfl
  have g2 : ∀ h, (sgB[3]'h) = 43 := fun _ => rfl
  clear he hv h1 h0 hy hE hT I
  revert e0 sz2 g2
  generalize sgB = S
  intro e0 sz2 g2
  go_enter Tryz.func86, Tryz.ntmps86
  go_wp2_with (fail)
  refine (V.out _).mono ?_; rintro e w' ⟨rfl, q1, rfl⟩
  go_wp2_with (fail)
  go_step3
  go_wp2_with (fail)
  go_loopw [9, 10, 11, 12] (fun i _ _ _ wr => i = .int .i64 3 ∧ Below w.heap.size w wr) (fun _ _ _ _ _ => 0)
  case atStart => exact ⟨rfl, by (repeat' (first | (with_reducible assumption) | (with_reducible exact Below.refl _ _) | (with_reducible refine below_wov ?_ ?_ _) | (with_reducible refine below_drewN ?_ _) | (with_reducible refine Below.drew ?_) | (with_reducible refine Below.alloc ?_ ?_ _) | (with_reducible refine Below.setCell ?_ ?_ _) | (with_reducible exact Nat.le_refl _) | omega | (simp only [World.size_alloc, World.size_setCell, World.size_drew, Wov_size, World.heap_drewN]; omega)))⟩
  case round =>
    obtain ⟨rfl, hB⟩ := hrel
    have szr := hB.size
    go_wp2_with (fail)
    go_step3
    go_wp2_with (fail)
    go_region
    go_wp2_with (fail)
    have D1 := Lib.hid (gives_at (W := wr) (fun w' (_ : Below wr.heap.size wr w') => IB.out w'))
    refine wp_region_wov (by kernel_rfl) (by kernel_rfl) ?_
    repeat (go_big_quiet_step ((go_at_call 100; exact D1.out _)))
    refine wpQuiet_nil ?_
    rintro _ ⟨pq, rfl⟩
    clear D1
    go_wp2_with (fail)
    simp only [Exit.noGoto_ret, go_sem]
    go_ret
    exact gives_end rfl (by (repeat' (first | (with_reducible assumption) | (with_reducible exact Below.refl _ _) | (with_reducible refine below_wov ?_ ?_ _) | (with_reducible refine below_drewN ?_ _) | (with_reducible refine Below.drew ?_) | (with_reducible refine Below.alloc ?_ ?_ _) | (with_reducible refine Below.setCell ?_ ?_ _) | (with_reducible exact Nat.le_refl _) | omega | (simp only [World.size_alloc, World.size_setCell, World.size_drew, Wov_size, World.heap_drewN]; omega))))
theorem rune_any (r : Int) (h0 : 128 ≤ r) (h1 : r ≤ 1114111) (hv : r < 55296 ∨ 57344 ≤ r) : Pure Tryz.prog 86 #[.string ⟨#[124, 38, 59, 43, 60, 62, 95, 91, 93, 40, 41, 44, 33, 123, 125]⟩, .int .i32 r] (.int .i64 (-1)) := by
  by_cases he : r = 65533
  · rw [he]; exact rune_error
  · rcases encode_wide r h0 h1 hv with ⟨x, y, hE, hy⟩ | ⟨x, z, y, hE, hy⟩ | ⟨x, z, u, y, hE, hy⟩
    · exact rune_two r h0 h1 hv he x y hE hy
    · exact rune_three r h0 h1 hv he x z y hE hy
    · exact rune_four r h0 h1 hv he x z u y hE hy
theorem crune_wide (r : Int) (h0 : 128 ≤ r) (h1 : r ≤ 1114111) (hv : r < 55296 ∨ 57344 ≤ r) : Pure Tryz.prog 69 #[.string ⟨#[124, 38, 59, 43, 60, 62, 95, 91, 93, 40, 41, 44, 33, 123, 125]⟩, .int .i32 r] (.bool false) := by
  intro w
  have R := Lib.hid (rune_any r h0 h1 hv)
  clear h0 h1 hv
  go_enter Tryz.func69, Tryz.ntmps69
  go_wp2_with (fail)
  refine (R.out _).mono ?_; rintro e w' ⟨rfl, q1, rfl⟩
  go_wp2_with (fail)
  go_ret
  exact gives_end rfl (by (repeat' (first | (with_reducible assumption) | (with_reducible exact Below.refl _ _) | (with_reducible refine below_wov ?_ ?_ _) | (with_reducible refine below_drewN ?_ _) | (with_reducible refine Below.drew ?_) | (with_reducible refine Below.alloc ?_ ?_ _) | (with_reducible refine Below.setCell ?_ ?_ _) | (with_reducible exact Nat.le_refl _) | omega | (simp only [World.size_alloc, World.size_setCell, World.size_drew, Wov_size, World.heap_drewN]; omega))))
#print axioms crune_wide
end Go.Proofs.YtccbhblklhmcpaaGreatDoor
