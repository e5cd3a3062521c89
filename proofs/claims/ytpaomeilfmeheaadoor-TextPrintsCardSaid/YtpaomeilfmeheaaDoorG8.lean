/- Contracts of incl.shift, of the closure that puts ends together, of incl.pick and incl.Pick. -/
import Derived.Test.YtpaomeilfmeheaaDoorG7
namespace Go.Proofs.YtpaomeilfmeheaaDoor
set_option linter.unusedSimpArgs false
set_option linter.unusedVariables false
open Go Go.RowKit Go.Shelf
attribute [local go_sem] Nat.add_assoc Nat.add_lt_add_iff_left lit_lt_add

theorem ofR_one {n : Int} (h : ok8 (8 * n)) : ofR n 1 = (n, 1, 0) := by
  have hk := q8_ok h
  rw [q8_whole] at hk
  unfold ofR
  rw [if_neg (by omega), lowR_one (by simp), if_pos hk]
theorem ok8_fits {n : Int} (h : ok8 (8 * n)) : fits64 n := by
  have := q8_fits h
  rwa [q8_whole] at this

/-- An end as a value: whether there is one, where, whether it is strict. -/
def endV (i : Bool) (r : Int × Int) (s : Bool) : Value := .agg #[.bool i, .int .i64 r.1, .int .i64 r.2, .bool s]

def endL : EndE → Value
  | none => .agg #[.bool false, .int .i64 0, .int .i64 0, .bool false]
  | some (y, s) => .agg #[.bool true, .int .i64 (q8 y).1, .int .i64 (q8 y).2, .bool s]
def endH : EndE → Value
  | none => .agg #[.bool false, .int .i64 0, .int .i64 0, .bool false]
  | some (y, s) => .agg #[.bool true, .int .i64 (q8 (-y)).1, .int .i64 (q8 (-y)).2, .bool s]
def EOK (x : EndE) : Prop := ∀ y s, x = some (y, s) → ok8 y

theorem cmpPR_zero {a : Int} (ha : ok8 a) : cmpPR (q8 a).1 (q8 a).2 0 0 = (0, 8) := by
  unfold cmpPR; rw [q8_ok ha]; rfl
theorem cmpPR_q8 {a b : Int} (ha : ok8 a) (hb : ok8 b) : cmpPR (q8 a).1 (q8 a).2 (q8 b).1 (q8 b).2 = (sgn3 a b 0, 0) := by
  unfold cmpPR; rw [q8_ok ha, q8_ok hb, cmp8]; rfl
theorem bd_fits64 {b : Int} (h : bd 864691128455135232 b) : fits64 b := by
  rcases h with h | h
  · rw [h]; unfold noneB fits64; omega
  · unfold bnum at h; unfold fits64; omega
theorem value_bd {b : Int} (h : bd 864691128455135232 b) (hn : b ≠ noneB) : Pure Tryd.prog 93 #[.int .i64 b] (.tuple #[.int .i64 (b / 2), .bool (bstr b), .int .i64 0]) :=
  value_ok (bd_fits64 h).1 (bd_fits64 h).2 (bd_okB h (by omega)) hn

end Go.Proofs.YtpaomeilfmeheaaDoor
