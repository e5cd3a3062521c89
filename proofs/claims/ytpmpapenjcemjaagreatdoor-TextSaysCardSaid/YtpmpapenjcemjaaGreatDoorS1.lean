/- Contracts of strconv.Itoa and strings.Join, off the shelf, in words of my own; a slice of strings in memory. No condition but on sizes. -/
import Derived.Test.YtpmpapenjcemjaaGreatDoorSh1
import Derived.Test.YtpmpapenjcemjaaGreatDoorMA
import Derived.Lib.AppendIntMem
import Derived.Lib.SmallJoins
import Derived.Lib.ItoaLen
namespace Go.Proofs.YtpmpapenjcemjaaGreatDoor
set_option linter.unusedSimpArgs false
set_option linter.unusedVariables false
open Go Go.RowKit Go.Shelf

/-- A string of bytes. -/
abbrev bs (l : List UInt8) : ByteArray := ⟨l.toArray⟩
theorem bs_size (l : List UInt8) : (bs l).size = l.length := by show l.toArray.size = _; simp
theorem bs_app (a b : List UInt8) : bs a ++ bs b = bs (a ++ b) := ByteArray.mk_append_mk a b
theorem bs_list (l : List UInt8) : (bs l).data.toList = l := by simp [bs]
/-- The table of powers of ten lies as the program's text lays it. -/
def Tab (w : World) : Prop := ∀ nm, Tryz.prog.globalNamed nm = some 1 → Lib.TabIs Tryz.prog w nm .u64 Lib.pow10Tab
theorem Tab.below {W V : World} (h : Tab W) (hb : Below W.heap.size W V) : Tab V := fun nm hn => Go.Joins.tab_stays hn (h nm hn) hb (Nat.le_refl _)
theorem itoa_any (n : Int) (h0 : -9223372036854775808 ≤ n) (h1 : n ≤ 9223372036854775807) (w : World) (ht : Tab w) : Calls Tryz.prog 29 #[.int .i64 n] w (Gives w (.string (bs (Lib.itoa n)))) :=
  (Any.strconv_Itoa Tryz.lays171 n h0 h1 w (ht _ (by kernel_rfl))).mono fun e w' ⟨he, k, os, hw⟩ => ⟨he, Wov_of_below (by rw [hw]; exact Lib.below_grow _ w (Nat.le_refl _) k os)⟩
theorem builder156 : Go.Proofs.Builder.Extra Tryz.prog Tryz.lays156_ren := { sizeBuilder := by kernel_rfl, liesBuilder := by kernel_rfl, t5 := Tryz.underlying5, a5 := Tryz.isAgg5, z5 := Tryz.sizeOf5, v5 := Tryz.zeroValue5, infoByte := by kernel_rfl, cellsByte := by kernel_rfl, sizeByte := by kernel_rfl, neB5 := by decide }
/-- Strings in memory, one behind the other. -/
def SlS (W : World) (p : Option Addr) (xs : List (List UInt8)) : Prop := xs = [] ∨ ∃ A o, p = some ⟨A, o, none⟩ ∧ A < W.heap.size ∧ ∀ j x, xs[j]? = some x → W.cell? ⟨A, o + j, none⟩ = some (.string (bs x))
theorem SlS.below {W V : World} {p : Option Addr} {xs : List (List UInt8)} (h : SlS W p xs) (hb : Below W.heap.size W V) : SlS V p xs := by
  rcases h with h | ⟨A, o, rfl, h1, h2⟩
  · exact .inl h
  · exact .inr ⟨A, o, rfl, Nat.lt_of_lt_of_le h1 hb.size, fun j x hx => (hb.cell (p := ⟨A, o + j, none⟩) h1).trans (h2 j x hx)⟩
theorem join_any (p : Option Addr) (xs : List (List UInt8)) (c : Nat) (sep : List UInt8) (w : World) (hS : SlS w p xs) (hc : xs.length ≤ c) (hl : (Lib.join xs sep).length ≤ 140737488355328) (hn : xs.length ≤ 140737488355328) :
    Calls Tryz.prog 30 #[.slice p xs.length c, .string (bs sep)] w (Gives w (.string (bs (Lib.join xs sep)))) := by
  cases xs with
  | nil =>
    refine (Any.strings_Join_none Tryz.lays156 builder156 _ c (bs sep) w).mono fun e w' ⟨he, hw⟩ => ⟨?_, ⟨#[], w.drawn⟩, by rw [hw, Wov_self]⟩
    rw [he]; rfl
  | cons x r =>
    obtain ⟨A, o, rfl, hA, hcell⟩ := hS.resolve_left (by simp)
    have hm : ((x :: r).map bs).map (·.data.toList) = x :: r := by rw [List.map_map]; simp [Function.comp_def]
    have := Any.strings_Join Tryz.lays156 builder156 A o c ((x :: r).map bs) (bs sep) w (fun j y hy => by
      rw [List.getElem?_map] at hy
      cases hx : (x :: r)[j]? with
      | none => rw [hx] at hy; cases hy
      | some z =>
        rw [hx] at hy
        simp only [Option.map_some, Option.some.injEq] at hy
        rw [← hy]; exact hcell j z hx) hA (by simpa using hn) (by simpa using hc) (by rw [hm, bs_list]; exact hl)
    rw [hm, bs_list, List.length_map] at this
    exact this.mono fun e w' ⟨he, hb⟩ => ⟨he, Wov_of_below hb⟩
#print axioms join_any
end Go.Proofs.YtpmpapenjcemjaaGreatDoor
