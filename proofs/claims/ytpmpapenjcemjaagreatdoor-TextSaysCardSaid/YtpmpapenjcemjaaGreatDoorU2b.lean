/- strings.IndexAny(s, ")]") of any text: the place of its first bracket. No condition but on size. -/
import Derived.Test.YtpmpapenjcemjaaGreatDoorU2
import Derived.Lib.OthersKept
namespace Go.Proofs.YtpmpapenjcemjaaGreatDoor
set_option linter.unusedSimpArgs false
set_option linter.unusedVariables false
open Go Go.RowKit Go.Shelf
attribute [local go_sem] Nat.add_assoc Nat.add_lt_add_iff_left lit_lt_add

theorem brackets_index (x : UInt8) : (x = 41 ∨ x = 93) ∧ 0 ≤ Lib.indexByte [41, 93] x ∧ ([41, 93] : List UInt8).contains x = true ∨ (x ≠ 41 ∧ x ≠ 93) ∧ Lib.indexByte [41, 93] x = -1 ∧ ([41, 93] : List UInt8).contains x = false := by
  by_cases h1 : x = 41
  · subst h1; exact .inl ⟨.inl rfl, by decide, by decide⟩
  · by_cases h2 : x = 93
    · subst h2; exact .inl ⟨.inr rfl, by decide, by decide⟩
    · refine .inr ⟨⟨h1, h2⟩, ?_, ?_⟩
      · have e1 : ((41 : UInt8) == x) = false := by rw [beq_eq_false_iff_ne]; exact fun e => h1 e.symm
        have e2 : ((93 : UInt8) == x) = false := by rw [beq_eq_false_iff_ne]; exact fun e => h2 e.symm
        simp [Lib.indexByte, e1, e2]
      · simp [h1, h2]
theorem below_iterAt {B k : Nat} {w V : World} (hb : Below B w V) (s : ByteArray) (pos : Nat) (h : B ≤ k) : Below B w (V.iterAt k s pos) :=
  Below.trans hb ⟨rfl, rfl, rfl, by simp [World.iterAt], fun j hj => by
    show (V.heap.setIfInBounds k (.stringIter s pos))[j]? = V.heap[j]?
    rw [Array.getElem?_setIfInBounds_ne (by omega)]⟩
theorem noAny_more {l : List UInt8} {i j : Nat} (h : Lib.NoAny l [41, 93] i) (hm : ∀ k x, i ≤ k → k < j → l[k]? = some x → 128 ≤ x.toNat) : Lib.NoAny l [41, 93] j := fun k b hk hb => by
  by_cases hi : k < i
  · exact h k b hi hb
  · have := hm k b (by omega) hk hb
    rcases brackets_index b with ⟨h1, _⟩ | ⟨_, _, h1⟩
    · rcases h1 with rfl | rfl <;> exact absurd this (by decide)
    · exact h1
set_option maxRecDepth 100000 in
set_option maxHeartbeats 4000000 in
theorem indexAny_short (s : ByteArray) (h8 : s.size ≤ 8) : Pure Tryz.prog 67 #[.string s, .string ⟨#[41, 93]⟩] (.int .i64 (Lib.indexAny s.data.toList [41, 93])) := by
  intro w
  have RA := Lib.hid (fun r h0 h1 => rune_ascii ⟨#[41, 93]⟩ r h0 h1)
  have RW := Lib.hid (fun r h0 h1 h2 => rune_any r h0 h1 h2)
  have SU : Hid (∀ w, Calls Tryz.prog 109 #[.int .i64 s.size] w (Gives w (.bool false))) := fun w =>
    (Any.strings_shouldUseASCIISet { Tryz.lays153 with } s.size w).mono fun e w' ⟨h1, h2⟩ => gives_same (by rw [h1, decide_eq_false (by omega)]) h2
  obtain ⟨R, hR⟩ : ∃ R, R = Lib.indexAny s.data.toList [41, 93] := ⟨_, rfl⟩
  rw [← hR]
  have HR := Lib.hid hR
  have sz2 : (ByteArray.mk #[41, 93]).size = 2 := rfl
  clear hR
  go_enter Tryz.func67, Tryz.ntmps67
  go_wp2_with (fail)
  refine (SU.out _).mono ?_; rintro e w' ⟨rfl, q1, rfl⟩
  go_wp2_with (fail)
  obtain ⟨k, hk⟩ : ∃ k, w.heap.size + q1.bl.size = k := ⟨_, rfl⟩
  rw [hk]
  have hwk : w.heap.size ≤ k := by omega
  go_loopg [9, 10] s.size (fun g _ _ wx => ∃ i : Nat, i + g = s.size ∧ Below w.heap.size w wx ∧ Hid (wx.heap[k]? = some (.stringIter s i) ∧ Lib.NoAny s.data.toList [41, 93] i))
  case atStart =>
    refine ⟨0, by omega, (below_wov (Below.refl _ w) (Nat.le_refl _) q1).alloc (by rw [Wov_size]; omega) _, ⟨?_, Lib.NoAny.zero _ _⟩⟩
    have := World.alloc_heap_new (Wov w q1) (.stringIter s 0)
    rw [Wov_size, hk] at this
    exact this
  case round =>
    obtain ⟨i, hig, hB, hI⟩ := hrel
    cases gk with
    | zero =>
      obtain rfl : i = s.size := by omega
      have hnx := fun ty => Lib.run_next_end_at (P := Tryz.prog) wr k s s.size ty hI.out.1 (by omega)
      go_wp2_with (fail)
      go_ret
      exact gives_end (by rw [HR.out, Lib.indexAny_none (by rw [← Lib.size_eq]; exact hI.out.2)]; rfl) hB
    | succ g =>
      have hi : i < s.size := by omega
      obtain ⟨x, hx⟩ : ∃ x : UInt8, s.get! i = x := ⟨_, rfl⟩
      have hxl : s.data.toList[i]? = some x := by rw [← hx]; exact get_list s i hi
      by_cases h128 : x.toNat < 128
      · have hsx : s[i]'hi = x := Option.some.inj ((Lib.data_getElem? s i hi).symm.trans hxl)
        have hnx := fun ty => Lib.run_next_ascii_at (P := Tryz.prog) wr k s i ty hI.out.1 hi (by rw [hsx]; exact h128)
        rw [hsx] at hnx
        have RAx : Hid (Pure Tryz.prog 108 #[.string ⟨#[41, 93]⟩, .int .i32 (x.toNat : Int)] (.int .i64 (Lib.indexByte [41, 93] x))) := by
          have := RA.out (x.toNat : Int) (by omega) (by omega)
          rw [show ((x.toNat : Int)).toNat.toUInt8 = x by simp] at this
          exact this
        have hB2 : Below w.heap.size w (wr.iterAt k s (i + 1)) := below_iterAt hB s _ hwk
        have hI2 : Hid ((wr.iterAt k s (i + 1)).heap[k]? = some (.stringIter s (i + 1)) ∧ s.data.toList[i]? = some x ∧ Lib.NoAny s.data.toList [41, 93] i) := ⟨Lib.iterAt_heap wr k s i (i + 1) hI.out.1, hxl, hI.out.2⟩
        obtain ⟨V, hV⟩ : ∃ V, V = wr.iterAt k s (i + 1) := ⟨_, rfl⟩
        rw [← hV] at hnx hB2 hI2
        have szv := hB2.size
        clear hI hB hsx hxl hx h128 hV RA RW
        rcases brackets_index x with ⟨_, h2, h3⟩ | ⟨_, h2, h3⟩
        · obtain ⟨n, hn⟩ : ∃ n, n = Lib.indexByte [41, 93] x := ⟨_, rfl⟩
          rw [← hn] at h2 RAx
          have H3 := Lib.hid h3
          clear hn h3
          go_wp2_with (fail)
          refine (RAx.out _).mono ?_; rintro e w' ⟨rfl, q2, rfl⟩
          go_wp2_with (fail)
          go_ret
          exact gives_end (by rw [HR.out, Lib.indexAny_hit hI2.out.2.2 hI2.out.2.1 H3.out]; rfl) (by (repeat' (first | (with_reducible assumption) | (with_reducible exact Below.refl _ _) | (with_reducible refine below_wov ?_ ?_ _) | (with_reducible refine below_drewN ?_ _) | (with_reducible refine Below.drew ?_) | (with_reducible refine Below.alloc ?_ ?_ _) | (with_reducible refine Below.setCell ?_ ?_ _) | (with_reducible exact Nat.le_refl _) | omega | (simp only [World.size_alloc, World.size_setCell, World.size_drew, Wov_size, World.heap_drewN]; omega))))
        · rw [h2] at RAx
          have H3 := Lib.hid h3
          clear h2 h3
          go_wp2_with (fail)
          refine (RAx.out _).mono ?_; rintro e w' ⟨rfl, q2, rfl⟩
          go_wp2_with (fail)
          go_roundg g
          case measure => omega
          case rel => exact ⟨i + 1, by omega, by (repeat' (first | (with_reducible assumption) | (with_reducible exact Below.refl _ _) | (with_reducible refine below_wov ?_ ?_ _) | (with_reducible refine below_drewN ?_ _) | (with_reducible refine Below.drew ?_) | (with_reducible refine Below.alloc ?_ ?_ _) | (with_reducible refine Below.setCell ?_ ?_ _) | (with_reducible exact Nat.le_refl _) | omega | (simp only [World.size_alloc, World.size_setCell, World.size_drew, Wov_size, World.heap_drewN]; omega))), ⟨((below_Wov V q2).block k (Array.getElem?_eq_some_iff.1 hI2.out.1).1).trans hI2.out.1, hI2.out.2.2.succ hI2.out.2.1 H3.out⟩⟩
      · obtain ⟨d1, d2, d3, d4, d5, d6⟩ := decode_wide s i hi (by rw [hx]; omega)
        have hnx := fun ty => Lib.run_next_any_at (P := Tryz.prog) wr k s i ty hI.out.1 hi
        obtain ⟨c, hc⟩ : ∃ c, c = (Utf8.decode s i).1 := ⟨_, rfl⟩
        obtain ⟨d, hd⟩ : ∃ d, d = (Utf8.decode s i).2 := ⟨_, rfl⟩
        rw [← hc] at d1 d2 d3 hnx
        rw [← hd] at d4 d5 d6 hnx
        have RWx : Hid (Pure Tryz.prog 108 #[.string ⟨#[41, 93]⟩, .int .i32 (c : Int)] (.int .i64 (-1))) := RW.out c (by omega) (by omega) (by omega)
        have hB2 : Below w.heap.size w (wr.iterAt k s (i + d)) := below_iterAt hB s _ hwk
        have hno : Lib.NoAny s.data.toList [41, 93] (i + d) := noAny_more hI.out.2 fun j y h1 h2 hy => by
          rw [get_list s j (by omega)] at hy
          injection hy with hy
          rw [← hy]; exact d6 j h1 h2
        have hI2 : Hid ((wr.iterAt k s (i + d)).heap[k]? = some (.stringIter s (i + d)) ∧ Lib.NoAny s.data.toList [41, 93] (i + d)) := ⟨Lib.iterAt_heap wr k s i (i + d) hI.out.1, hno⟩
        obtain ⟨V, hV⟩ : ∃ V, V = wr.iterAt k s (i + d) := ⟨_, rfl⟩
        rw [← hV] at hnx hB2 hI2
        have szv := hB2.size
        clear hI hB hxl hx h128 hV RA RW hno d1 d2 d3 d6 hc hd
        go_wp2_with (fail)
        refine (RWx.out _).mono ?_; rintro e w' ⟨rfl, q2, rfl⟩
        go_wp2_with (fail)
        go_roundg (s.size - (i + d))
        case measure => omega
        case rel => exact ⟨i + d, by omega, by (repeat' (first | (with_reducible assumption) | (with_reducible exact Below.refl _ _) | (with_reducible refine below_wov ?_ ?_ _) | (with_reducible refine below_drewN ?_ _) | (with_reducible refine Below.drew ?_) | (with_reducible refine Below.alloc ?_ ?_ _) | (with_reducible refine Below.setCell ?_ ?_ _) | (with_reducible exact Nat.le_refl _) | omega | (simp only [World.size_alloc, World.size_setCell, World.size_drew, Wov_size, World.heap_drewN]; omega))), ⟨((below_Wov V q2).block k (Array.getElem?_eq_some_iff.1 hI2.out.1).1).trans hI2.out.1, hI2.out.2⟩⟩
theorem indexAny_any (l : List UInt8) (hl : l.length < 4294967281) : Pure Tryz.prog 67 #[.string (bs l), .string ⟨#[41, 93]⟩] (.int .i64 (Lib.indexAny l [41, 93])) := by
  by_cases h : 8 < l.length
  · exact indexAny_long l h hl
  · have := indexAny_short (bs l) (by rw [bs_size]; omega)
    rw [bs_list] at this
    exact this
#print axioms indexAny_any
end Go.Proofs.YtpmpapenjcemjaaGreatDoor
