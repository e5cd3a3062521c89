/- Plain words for how a signal is printed. -/
import Derived.Test.YtccbhblklhmcpaaGreatDoorQ31
namespace Go.Proofs.YtccbhblklhmcpaaGreatDoor
set_option linter.unusedSimpArgs false
set_option linter.unusedVariables false
open Go Go.RowKit Go.Shelf

/-- The names of what is on, of the first few. -/
def onTo (N : List (List UInt8)) (m k : Nat) : List (List UInt8) := (bitsF k m).map fun k => N.getD k []
theorem onTo_zero (N : List (List UInt8)) (m : Nat) : onTo N m 0 = [] := rfl
theorem onTo_yes {N : List (List UInt8)} {m k : Nat} {x : List UInt8} (hx : N[k]? = some x) (h : m.testBit k = true) : onTo N m (k + 1) = onTo N m k ++ [x] := by
  unfold onTo bitsF
  rw [List.range_succ, List.filter_append, List.map_append]
  simp [h, List.getD_eq_getElem?_getD, hx]
theorem onTo_no {N : List (List UInt8)} {m k : Nat} (h : m.testBit k = false) : onTo N m (k + 1) = onTo N m k := by
  unfold onTo bitsF
  rw [List.range_succ, List.filter_append, List.map_append]
  simp [h]
theorem onTo_all (N : List (List UInt8)) (m : Nat) : onTo N m N.length = onNames N m := rfl
theorem onTo_len (N : List (List UInt8)) (m k : Nat) : (onTo N m k).length ≤ k := by
  unfold onTo bitsF
  rw [List.length_map]
  exact Nat.le_trans (List.length_filter_le _ _) (by simp)
theorem onTo_mem {N : List (List UInt8)} {m k : Nat} {x : List UInt8} (h : x ∈ onTo N m k) : x = [] ∨ x ∈ N := by
  unfold onTo at h
  obtain ⟨j, _, rfl⟩ := List.mem_map.1 h
  rw [List.getD_eq_getElem?_getD]
  cases hj : N[j]? with
  | none => exact .inl rfl
  | some y => exact .inr (List.mem_of_getElem? hj)
theorem join_le (sep : List UInt8) (B : Nat) : ∀ (l : List (List UInt8)), (∀ x, x ∈ l → x.length ≤ B) → (Lib.join l sep).length ≤ l.length * (B + sep.length)
  | [], _ => Nat.zero_le _
  | [x], h => by
    rw [Lib.join_one]
    have := h x List.mem_cons_self
    simp only [List.length_cons, List.length_nil, Nat.zero_add, Nat.one_mul]
    omega
  | x :: y :: r, h => by
    rw [join_two, List.length_append, List.length_append]
    have h1 := h x List.mem_cons_self
    have h2 := join_le sep B (y :: r) fun z hz => h z (List.mem_cons_of_mem _ hz)
    rw [List.length_cons (a := x), Nat.succ_mul]
    omega
theorem mayName_len {x : List UInt8} (h : mayName x = true) : x.length ≤ 8 := by
  unfold mayName at h
  simp only [Bool.and_eq_true, decide_eq_true_eq] at h
  exact h.1.1.1.1
theorem mayNames_len {N : List (List UInt8)} (h : mayNames N = true) : N.length ≤ 8 ∧ ∀ x, x ∈ N → x.length ≤ 8 := by
  unfold mayNames at h
  simp only [Bool.and_eq_true, decide_eq_true_eq, List.all_eq_true] at h
  exact ⟨h.1.1, fun x hx => mayName_len (h.1.2 x hx)⟩
theorem onJoin_len {N : List (List UInt8)} (h : mayNames N = true) (m k : Nat) (hk : k ≤ 8) : (Lib.join (onTo N m k) [44]).length ≤ 72 := by
  obtain ⟨h1, h2⟩ := mayNames_len h
  have := join_le [44] 8 (onTo N m k) fun x hx => by
    rcases onTo_mem hx with rfl | hx
    · exact Nat.zero_le _
    · exact h2 x hx
  have h3 := onTo_len N m k
  have h4 : (onTo N m k).length * (8 + [(44 : UInt8)].length) ≤ 8 * 9 := Nat.mul_le_mul (by omega) (Nat.le_refl _)
  omega
theorem bit_all2 : ∀ k : Fin 8, ∀ on : Fin 256, bits .and .u8 ((on.val : Int) / 2 ^ k.val) 1 = if on.val.testBit k.val then 1 else 0 := by decide +kernel
/-- The test of a bit, as the program makes it. -/
theorem bit_test {on k : Nat} (h : on < 256) (hk : k < 8) : bits .and .u8 ((on : Int) / 2 ^ k) 1 = if on.testBit k then 1 else 0 := bit_all2 ⟨k, hk⟩ ⟨on, h⟩
theorem SlS.one {W : World} {A : Nat} {x : List UInt8} (hA : A < W.heap.size) (hc : W.cell? ⟨A, 0, none⟩ = some (.string (bs x))) : SlS W (some ⟨A, 0, none⟩) [x] := by
  refine SlK.one hA fun j u hu => ?_
  have hj : j < 1 := (List.getElem?_eq_some_iff.1 hu).1
  obtain rfl : j = 0 := by omega
  have hu : some (Value.string (bs x)) = some u := hu
  injection hu with hu
  subst hu
  exact hc
#print axioms bit_test
end Go.Proofs.YtccbhblklhmcpaaGreatDoor
