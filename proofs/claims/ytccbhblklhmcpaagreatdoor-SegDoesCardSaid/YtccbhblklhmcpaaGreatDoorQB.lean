/- Strings of bytes; strings, segments and tokens in memory. No condition. -/
import Derived.Test.YtccbhblklhmcpaaGreatDoorQR
import Derived.Test.YtccbhblklhmcpaaGreatDoorQ5
import Derived.Lib.CutLaws
import Derived.Deep.Cut
namespace Go.Proofs.YtccbhblklhmcpaaGreatDoor
set_option linter.unusedSimpArgs false
set_option linter.unusedVariables false
set_option maxRecDepth 10000
open Go Go.RowKit

/-- A string of bytes. -/
abbrev bs (l : List UInt8) : ByteArray := ⟨l.toArray⟩
theorem bs_size (l : List UInt8) : (bs l).size = l.length := by show l.toArray.size = _; simp
theorem bs_app (a b : List UInt8) : bs a ++ bs b = bs (a ++ b) := ByteArray.mk_append_mk a b
theorem bs_list (l : List UInt8) : (bs l).data.toList = l := by simp [bs]
theorem bs_ext (l : List UInt8) (f i : Nat) : (bs l).extract f i = bs ((l.drop f).take (i - f)) := by rw [Lib.extract_eq, bs_list]
theorem bs_end (l : List UInt8) (f : Nat) : (bs l).extract f (bs l).size = bs (l.drop f) := by
  rw [bs_ext, bs_size, List.take_of_length_le (by rw [List.length_drop]; omega)]
theorem bs_at (l : List UInt8) (i : Nat) (x : UInt8) (hx : l[i]? = some x) : ∀ h, (bs l)[i]'h = x := fun h => by
  have e1 := Lib.data_getElem? (bs l) i h
  rw [bs_list, hx] at e1
  exact (Option.some.inj e1).symm
theorem bs_inj {a b : List UInt8} (h : bs a = bs b) : a = b := by rw [← bs_list a, h, bs_list]
theorem bs_beq (a b : List UInt8) : ((bs a).toList == (bs b).toList) = decide (a = b) := by
  rw [Lib.toList_data, Lib.toList_data, bs_list, bs_list]
  rw [Bool.eq_iff_iff, beq_iff_eq, decide_eq_true_eq]
def strD : EK (List UInt8) := ⟨22, 9, 1, 16, .string ⟨#[]⟩, fun x => [.string (bs x)]⟩
theorem strD_ok : strD.Ok := ⟨Tryz.underlying22, by kernel_rfl, by kernel_rfl, by kernel_rfl, by decide, fun _ => rfl, fun x u hu => by rw [List.mem_singleton.1 hu]; rfl, by decide⟩
/-- A segment's cells. -/
def sgD : EK Sg := ⟨23, 49, 2, 16, .agg #[.int .i64 0, .int .u8 0], fun s => [.int .i64 s.1, .int .u8 s.2]⟩
theorem sgD_ok : sgD.Ok := ⟨Tryz.underlying23, by kernel_rfl, by kernel_rfl, by kernel_rfl, by decide, fun _ => rfl, fun x u hu => by
  simp only [sgD, List.mem_cons, List.not_mem_nil, or_false] at hu
  rcases hu with rfl | rfl <;> rfl, by decide⟩
def tkD : EK Tk := ⟨91, 79, 3, 32, .agg #[.int .u8 0, .string ⟨#[]⟩, .int .i64 0], fun t => [.int .u8 t.kind, .string (bs t.text), .int .i64 t.at_]⟩
theorem tkD_ok : tkD.Ok := ⟨Tryz.underlying91, by kernel_rfl, by kernel_rfl, by kernel_rfl, by decide, fun _ => rfl, fun x u hu => by
  simp only [tkD, List.mem_cons, List.not_mem_nil, or_false] at hu
  rcases hu with rfl | rfl | rfl <;> rfl, by decide⟩
abbrev SlS (W : World) (p : Option Addr) (xs : List (List UInt8)) : Prop := SlK strD W p xs
theorem SlS.get {W : World} {p : Option Addr} {xs : List (List UInt8)} (h : SlS W p xs) : xs = [] ∨ ∃ A o, p = some ⟨A, o, none⟩ ∧ A < W.heap.size ∧ ∀ j x, xs[j]? = some x → W.cell? ⟨A, o + j, none⟩ = some (.string (bs x)) := by
  rcases h with h | ⟨A, o, h1, h2, h3⟩
  · exact .inl h
  · refine .inr ⟨A, o, h1, h2, fun j x hx => ?_⟩
    have := h3 j 0 x (.string (bs x)) hx rfl
    have e : strD.k = 1 := rfl
    rwa [e, Nat.mul_one, Nat.add_zero] at this
theorem SlK.seg {W : World} {p : Option Addr} {xs : List Sg} (h : SlK sgD W p xs) : xs = [] ∨ ∃ A o, p = some ⟨A, o, none⟩ ∧ A < W.heap.size ∧ ∀ j x, xs[j]? = some x → W.cell? ⟨A, o + j * 2, none⟩ = some (.int .i64 x.1) ∧ W.cell? ⟨A, o + (j * 2 + 1), none⟩ = some (.int .u8 x.2) := by
  rcases h with h | ⟨A, o, h1, h2, h3⟩
  · exact .inl h
  · exact .inr ⟨A, o, h1, h2, fun j x hx => ⟨h3 j 0 x _ hx rfl, h3 j 1 x _ hx rfl⟩⟩
#print axioms SlK.seg
end Go.Proofs.YtccbhblklhmcpaaGreatDoor
