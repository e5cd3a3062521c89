/- Contracts of strings' and strconv's functions that text.Parse calls, off the shelf, in words of my own. No condition but on sizes, and that strconv.ErrRange lies. -/
import Derived.Test.YtpmpapenjcemjaaGreatDoorSh2
import Derived.Test.YtpmpapenjcemjaaGreatDoorS1
import Derived.Test.YtpmpapenjcemjaaGreatDoorT31c
import Derived.Lib.SlTrimSet
import Derived.Lib.SmallJoins
namespace Go.Proofs.YtpmpapenjcemjaaGreatDoor
set_option linter.unusedSimpArgs false
set_option linter.unusedVariables false
open Go Go.RowKit Go.Shelf

theorem gives_same {v : Value} {e : Ending} {w w' : World} (h1 : e = .returned v) (h2 : w' = w) : Gives w v e w' := ⟨h1, ⟨#[], w.drawn⟩, by rw [h2, Wov_self]⟩
theorem gives_below {v : Value} {e : Ending} {w w' : World} (h1 : e = .returned v) (h2 : Below w.heap.size w w') : Gives w v e w' := ⟨h1, Wov_of_below h2⟩
theorem trimPrefix_any (s : List UInt8) : Pure Tryz.prog 193 #[.string (bs s), .string ⟨#[45]⟩] (.string (bs (if s.head? = some 45 then s.tail else s))) := fun w =>
  (Any.strings_TrimPrefix Tryz.lays101 (bs s) ⟨#[45]⟩ w).mono fun e w' ⟨h1, h2⟩ => gives_same (by
    rw [h1, bs_list]
    congr 3
    show (Lib.trimPrefix s [45]).toArray = _
    congr 1
    unfold Lib.trimPrefix Lib.hasPrefix
    cases s with
    | nil => rfl
    | cons x r =>
      by_cases hx : x = 45
      · subst hx; simp
      · have h1 : ¬ ((x == 45) = true) := by simpa using hx
        have h2 : ¬ ((45 : UInt8) == x) = true := by simpa using fun e => hx (Eq.symm e)
        simp [hx, h1, h2, Ne.symm hx]) h2
def tenB : List UInt8 := [48, 49, 50, 51, 52, 53, 54, 55, 56, 57]
theorem ten_isD (b : UInt8) : tenB.contains b = isD b := by
  have := b.toNat_lt
  rw [Bool.eq_iff_iff]
  unfold isD tenB
  simp only [List.contains_cons, List.contains_nil, Bool.or_false, Bool.or_eq_true, beq_iff_eq, decide_eq_true_eq, ← UInt8.toNat_inj]
  show _ ↔ _
  simp
  omega
theorem dropWhile_nil {p : UInt8 → Bool} : ∀ {l : List UInt8}, l.dropWhile p = [] ↔ ∀ x, x ∈ l → p x = true
  | [] => by simp
  | a :: l => by
    rw [List.dropWhile_cons]
    by_cases h : p a = true
    · rw [if_pos h, dropWhile_nil]
      simp [h]
    · rw [if_neg h]
      simp [h]
theorem trimS_nil (l : List UInt8) : Lib.trimS l tenB = [] ↔ l.all isD = true := by
  unfold Lib.trimS Lib.trimLeftS Lib.trimRightS
  rw [dropWhile_nil]
  constructor
  · intro h
    rw [List.all_eq_true]
    intro x hx
    by_cases hn : (l.reverse.dropWhile fun x => tenB.contains x) = []
    · rw [dropWhile_nil] at hn
      rw [← ten_isD]; exact hn x (by simpa using hx)
    · have h0 := List.head_dropWhile_not (fun x => tenB.contains x) hn
      have := h ((l.reverse.dropWhile fun x => tenB.contains x).head hn) (by simp)
      rw [h0] at this; cases this
  · intro h x hx
    rw [List.all_eq_true] at h
    rw [ten_isD]
    refine h x ?_
    have := (List.dropWhile_sublist (fun x => tenB.contains x) (l := l.reverse)).mem (List.mem_reverse.1 hx)
    simpa using this
theorem trim_any (s : List UInt8) (hs : s.length ≤ 140737488355328) : Pure Tryz.prog 194 #[.string (bs s), .string ⟨#[48, 49, 50, 51, 52, 53, 54, 55, 56, 57]⟩] (.string (bs (Lib.trimS s tenB))) := fun w =>
  (Any.strings_Trim_laid Tryz.lays160 (by kernel_rfl) (bs s) ⟨#[48, 49, 50, 51, 52, 53, 54, 55, 56, 57]⟩ w (by rw [bs_size]; omega) (by decide) (ascii_of_all (by decide))).mono fun e w' ⟨h1, h2⟩ => gives_below (by rw [h1, bs_list]; rfl) h2
theorem count_any (s : List UInt8) (c : UInt8) : Pure Tryz.prog 32 #[.string (bs s), .string ⟨#[c]⟩] (.int .i64 (s.count c)) := fun w =>
  (Any.strings_Count_one Tryz.lays138 (bs s) c w).mono fun e w' ⟨h1, h2⟩ => gives_same (by rw [h1, bs_list]; rfl) h2
theorem strIndex_any (s : List UInt8) (c : UInt8) : Pure Tryz.prog 65 #[.string (bs s), .string ⟨#[c]⟩] (.int .i64 (Lib.indexByte s c)) := fun w =>
  (Any.strings_Index_one Tryz.lays143 (bs s) c w).mono fun e w' ⟨h1, h2⟩ => gives_same (by rw [h1, bs_list]) h2
theorem sindex_any (s : List UInt8) (c : UInt8) : Pure Tryz.prog 105 #[.string (bs s), .string ⟨#[c]⟩] (.int .i64 (Lib.indexByte s c)) := fun w =>
  (Any.stringslite_Index_one Tryz.lays219 (bs s) c w).mono fun e w' ⟨h1, h2⟩ => gives_same (by rw [h1, bs_list]) h2
theorem indexByte_any (s : ByteArray) (c : UInt8) : Pure Tryz.prog 157 #[.string s, .int .u8 c.toNat] (.int .i64 (Lib.indexByte s.data.toList c)) := fun w =>
  (Any.strings_IndexByte Tryz.lays137 s c.toNat w).mono fun e w' ⟨h1, h2⟩ => gives_same (by rw [h1]; simp) h2
theorem set256 : (Tryz.prog.info? (Tryz.lays153_ren.t 116)).map (fun i => (i.zero, i.size)) = some (some (.agg (Array.replicate 256 (.bool false))), 256) := by kernel_rfl
theorem indexAny_long (s : List UInt8) (h8 : 8 < s.length) (hs : s.length < 4294967281) : Pure Tryz.prog 67 #[.string (bs s), .string ⟨#[41, 93]⟩] (.int .i64 (Lib.indexAny s [41, 93])) := fun w =>
  (Any.strings_IndexAny_long Tryz.lays153 (zero_of_info set256).1 (zero_of_info set256).2 (bs s) ⟨#[41, 93]⟩ w (by decide) (by rw [bs_size]; exact h8) (by rw [bs_size]; exact hs) (by decide) (ascii_of_all (by decide))).mono fun e w' ⟨h1, h2⟩ => gives_below (by rw [h1, bs_list]) (by
    rw [h2]
    exact ((Below.refl _ _).alloc (Nat.le_refl _) _).alloc (by simp) _)
theorem rune_ascii (s : ByteArray) (r : Int) (h0 : 0 ≤ r) (h1 : r < 128) : Pure Tryz.prog 108 #[.string s, .int .i32 r] (.int .i64 (Lib.indexByte s.data.toList r.toNat.toUInt8)) := fun w =>
  (Any.strings_IndexRune_ascii Tryz.lays152 s r w h0 h1).mono fun e w' ⟨h1, h2⟩ => gives_same h1 h2
/-- The error that strconv gives where a number's text is out of bounds lies as it is laid. -/
def ErrR (w : World) : Prop := ∃ tp p, w.var? Tryz.prog "strconv.ErrRange" = some #[.iface tp p]
theorem atoi_ok (l : List UInt8) (hc : canonT l = true) (hl : l.length ≤ 140737488355328) (h0 : -9223372036854775808 ≤ valT l) (h1 : valT l ≤ 9223372036854775807) : Pure Tryz.prog 95 #[.string (bs l)] (.tuple #[.int .i64 (valT l), .nilIface]) := fun w =>
  (Any.strconv_Atoi_ok Tryz.lays172 (bs l) (by rw [bs_size]; omega) (valT l) (by rw [bs_list, atoi_canon hc, if_pos ⟨h0, h1⟩]) w).mono fun e w' ⟨h1, h2⟩ => gives_below h1 (by
    rcases h2 with rfl | ⟨t, rfl⟩
    · exact Below.refl _ _
    · exact Go.Joins.below_bytesWorld _ _ _ _ (Nat.le_refl _))
theorem atoi_range (l : List UInt8) (hc : canonT l = true) (hl : l.length ≤ 140737488355328) (h : ¬ (-9223372036854775808 ≤ valT l ∧ valT l ≤ 9223372036854775807)) (w : World) (hv : ErrR w) : Calls Tryz.prog 95 #[.string (bs l)] w fun e w' => ∃ n N, Gives w (.tuple #[.int .i64 n, .iface 260 (.pointer (some ⟨N, 0, none⟩))]) e w' := by
  obtain ⟨tp, p, hv⟩ := hv
  refine (Any.strconv_Atoi_range_var Tryz.lays172 (bs l) (by rw [bs_size]; omega) (by rw [bs_list, atoi_canon hc, if_neg h]) tp p w hv).mono ?_
  rintro e w' ⟨N, h1, _, _, h2⟩
  exact ⟨_, N, gives_below h1 h2⟩
#print axioms atoi_range
end Go.Proofs.YtpmpapenjcemjaaGreatDoor
