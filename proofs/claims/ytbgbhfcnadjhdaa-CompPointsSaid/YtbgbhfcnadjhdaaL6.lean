/- Contract of slices.Delete over ints of this program: the kit's, laid. No condition but that the places lie in the slice. -/
import Derived.Test.YtbgbhfcnadjhdaaL5
import Derived.Shelf.Slices.Delete
namespace Go.Proofs
open Go.Shelf
def Try.laysDel_ren : Go.Shelf.Ren := ⟨fun | 23 => 97 | n => n, fun | 0 => 0 | 3 => 3 | 4 => 4 | 22 => 152 | n => n, fun | n => n⟩
theorem Try.laysDel : Go.Proofs.Lays2.n23 Try.prog Try.laysDel_ren := {
  mixed := by kernel_rfl
  f23 := Try.func97.trans (congrArg some (by kernel_rfl))
  t0 := Try.underlying0
  a0 := Try.isAgg0
  z0 := Try.sizeOf0
  v0 := Try.zeroValue0
  t3 := Try.underlying3
  a3 := Try.isAgg3
  z3 := Try.sizeOf3
  v3 := Try.zeroValue3
  t4 := Try.underlying4
  a4 := Try.isAgg4
  z4 := Try.sizeOf4
  v4 := Try.zeroValue4
  t22 := Try.underlying152
  a22 := Try.isAgg152
  z22 := Try.sizeOf152
  v22 := Try.zeroValue152
  i3 := by kernel_rfl }
end Go.Proofs
namespace Go.Proofs.Ytbgbhfcnadjhdaa
set_option linter.unusedSimpArgs false
set_option linter.unusedVariables false
open Go Go.RowKit Go.Shelf
/-- The place of what stays at i when what stood at k is gone. -/
def skip (k i : Nat) : Nat := if i < k then i else i + 1
theorem skip_lt {k i n : Nat} (hk : k < n) (hi : i < n - 1) : skip k i < n := by unfold skip; split <;> omega
def del (k : Nat) (l : List Int) : List Int := l.take k ++ l.drop (k + 1) ++ List.replicate (k + 1 - k) 0
theorem del_size {k : Nat} {l : List Int} (hk : k < l.length) : (del k l).toArray.size = l.toArray.size := by
  unfold del
  simp only [List.size_toArray, List.length_append, List.length_take, List.length_drop, List.length_replicate]
  omega
theorem rng_at {f : Nat → Int} {n i : Nat} (h : i < n) : ((List.range n).map f)[i]? = some (f i) := by
  rw [List.getElem?_map, List.getElem?_range h]; rfl
theorem del_at {k : Nat} {f : Nat → Int} {n i : Nat} (hk : k < n) (hi : i < n - 1) : (del k ((List.range n).map f)).toArray[i]! = f (skip k i) := by
  have hl : ((List.range n).map f).length = n := by simp
  have h : (del k ((List.range n).map f))[i]? = some (f (skip k i)) := by
    unfold del skip
    rw [List.getElem?_append_left (by rw [List.length_append, List.length_take, List.length_drop, hl]; omega)]
    by_cases h : i < k
    · rw [if_pos h, List.getElem?_append_left (by rw [List.length_take, hl]; omega), List.getElem?_take, if_pos h, rng_at (by omega)]
    · rw [if_neg h, List.getElem?_append_right (by rw [List.length_take, hl]; omega), List.getElem?_drop, List.length_take, hl, show k + 1 + (i - min k n) = i + 1 by omega, rng_at (by omega)]
  simp [h]
theorem chg_putRow {α : Type} [Inhabited α] (enc : α → Value) (w : World) (q B : Nat) (d : Array α) : Chg w B (Sort.putRow enc (Sort.ahead w q) B 0 d) := by
  refine ⟨rfl, rfl, rfl, by simp [Sort.putRow, Sort.mapBlock, Sort.ahead], fun b hb hB => ?_⟩
  simp only [Sort.putRow, Sort.mapBlock, Sort.ahead, Array.getElem?_modify]
  rw [if_neg (fun e => hB e.symm)]
theorem delete_HI (B cap n k : Nat) (f : Nat → Int) (w : World) (hH : HoldsI w B n f) (hcap : n ≤ cap) (hm : cap ≤ 9223372036854775807) (hk : k < n) :
    Calls Try.prog 97 #[.slice (some ⟨B, 0, none⟩) n cap, .int .i64 k, .int .i64 ((k : Int) + 1)] w (fun e W => e = .returned (.slice (some ⟨B, 0, none⟩) (n - 1) cap) ∧ Chg w B W ∧ HoldsI W B (n - 1) (fun i => f (skip k i))) := by
  have hl : ((List.range n).map f).length = n := by simp
  have h0 : Sort.Holds (Value.int .i64) w B 0 ((List.range n).map f).toArray := by
    intro j hj
    have hj : j < n := by simpa using hj
    obtain ⟨h1, h2⟩ := hH j hj
    rw [Nat.zero_add]
    refine ⟨?_, h2⟩
    rw [h1]
    simp [hj]
  have h := Any.slices_Delete_int Try.laysDel B 0 cap k (k + 1) ((List.range n).map f) w h0 (by rw [hl]; exact hcap) hm (by omega) (by rw [hl]; omega)
  rw [hl] at h
  refine (h : Calls Try.prog _ _ w _).mono ?_
  rintro e W ⟨rfl, q, rfl⟩
  have hs := del_size (k := k) (l := (List.range n).map f) (by rw [hl]; exact hk)
  have h2 := Sort.holds_putRow (Value.int .i64) (Sort.ahead w q) B 0 _ (del k ((List.range n).map f)).toArray (Sort.holds_ahead _ w q B 0 _ h0) hs
  refine ⟨by rw [show n - (k + 1 - k) = n - 1 by omega], chg_putRow _ _ _ _ _, fun i hi => ?_⟩
  have := h2 i (by rw [hs]; simp; omega)
  rw [Nat.zero_add, del_at hk hi] at this
  exact this
end Go.Proofs.Ytbgbhfcnadjhdaa
