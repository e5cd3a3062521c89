/- Opening a matrix among a law's arguments; the law package's alive. No condition. -/
import Derived.Test.YtlcbpckinjkfeaaD14
import Derived.Deep.RegionHeld3
import Derived.OpenShut
namespace Go.Proofs.Ytlcbpckinjkfeaa
open Go.ChangeShapes Go.WideShapes Go.ChangeAt Go.RowKit Go.Joins
set_option linter.unusedVariables false
set_option linter.unusedSimpArgs false
attribute [local go_sem] Nat.add_assoc Nat.add_lt_add_iff_left lit_lt_add

theorem cellsDbm : Try.prog.cellsOf 39 = 2 := by kernel_rfl
theorem cellsBound : Try.prog.cellsOf 24 = 1 := by kernel_rfl

/-- A slice of bounds that came in. -/
theorem open_bounds {H : Type} {enc : TypeId × Value → H} {W : World} {n : Nat} {v : Value} {x : DataW H × List MemPlace} (h : DataW.trod enc Try.prog W 0 (fun _ => true) true n 37 [v] = some x) :
    ∃ (p : Option Addr) (N cap : Nat) (f : Nat → Int), v = .slice p N cap ∧ SlP W p N f ∧ Fits N f ∧ N ≤ maxLen := by
  rcases open_ints Try.underlying37 Try.underlying24 cellsBound h with ⟨h1, _⟩ | ⟨a, len, cap, zs, h1, hb, hl, hm, hz, _, hc, hw⟩
  · simp only [List.cons.injEq, and_true] at h1
    exact ⟨none, 0, 0, fun _ => 0, h1, .inl rfl, (fun x hx => by omega), by simp [maxLen]⟩
  · simp only [List.cons.injEq, and_true] at h1
    simp only [if_true] at hz
    refine ⟨some a, len, cap, fun x => zs.getD x 0, h1, ?_, fun x hx => ?_, by omega⟩
    · by_cases h0 : len = 0
      · exact .inl h0
      · obtain ⟨B, off, rfl, hc2⟩ := ints_at hc (by omega)
        refine .inr ⟨B, off, rfl, ?_, fun x hx => hc2 x (by omega)⟩
        have := World.block_lt_of_cell? W _ (hc2 0 (by omega))
        exact this
    · have hx2 : x < zs.length := by omega
      have : zs.getD x 0 ∈ zs := by rw [List.getD_eq_getElem?_getD, List.getElem?_eq_getElem hx2]; exact List.getElem_mem hx2
      exact fits_of_wf (hw _ this)

set_option maxRecDepth 100000 in
theorem open_dbm {H : Type} {enc : TypeId × Value → H} {W : World} {base : Nat} {v : Value} {d : DataW H} {p : List MemPlace}
    (hv : Value.okWide Try.prog W .any base 39 v) (h : DataW.Trod enc Try.prog W 0 (fun _ => true) true 39 v d p) :
    ∃ (n : Int) (p : Option Addr) (N cap : Nat) (f : Nat → Int), v = .agg #[.int .i64 n, .slice p N cap] ∧ fits64 n ∧ SlP W p N f ∧ Fits N f ∧ N ≤ maxLen := by
  obtain ⟨c0, c1, y0, y1, k, rfl, rfl, rfl, hy0, hy1⟩ := open_agg2 Try.underlying39 (by kernel_rfl) cellsDbm hv h
  obtain ⟨a, e0, rfl, wa⟩ := DataW.trod_int Try.underlying3 hy0
  simp at e0
  subst e0
  obtain ⟨p, N, cap, f, rfl, h1, h2, h3⟩ := open_bounds hy1
  exact ⟨a, p, N, cap, f, rfl, fits_of_wf wa, h1, h2, h3⟩

/-- A closed one's bounds, one by one. -/
def closeVals (n : Nat) (f : Nat → Int) : Option (List Int) := (closeI n f).map fun c => (List.range (n * n)).map c
theorem vals_some {n : Nat} {f : Nat → Int} {l : List Int} (h : closeVals n f = some l) (hok : okD n (n * n) f = true) : ∃ c, closeR n (n * n) f = (some c, 0) ∧ ∀ x, x < n * n → l[x]? = some (c x) := by
  unfold closeVals at h
  cases hc : closeI n f with
  | none => rw [hc] at h; cases h
  | some c =>
    rw [hc] at h
    simp only [Option.map_some, Option.some.injEq] at h
    refine ⟨c, ?_, fun x hx => ?_⟩
    · unfold closeR; rw [hok, if_pos rfl, show ((n : Int)).toNat = n from rfl, hc]
    · rw [← h]; simp [hx]
theorem vals_none {n : Nat} {f : Nat → Int} (h : closeVals n f = none) (hok : okD n (n * n) f = true) : closeR n (n * n) f = (none, 6) := by
  unfold closeVals at h
  cases hc : closeI n f with
  | none => unfold closeR; rw [hok, if_pos rfl, show ((n : Int)).toNat = n from rfl, hc]
  | some c => rw [hc] at h; cases h
theorem four_vals {a b c d : Int} {g : Nat → Int} (h : ∀ x, x < 2 * 2 → [a, b, c, d][x]? = some (g x)) : ∀ x, x < 4 → g x = four a b c d x := by
  intro x hx
  have := h x hx
  rcases x with _ | _ | _ | _ | x
  all_goals first | omega | (simpa [four] using this.symm)
theorem eq4 {n1 : Int} {f g : Nat → Int} (h : ∀ x, x < 4 → f x = g x) : sameB n1 4 f n1 4 g = true := by
  simp only [sameB, decide_true, Bool.true_and]
  exact eqB_t h
theorem four_fits {a b c d : Int} (ha : fits64 a) (hb : fits64 b) (hc : fits64 c) (hd : fits64 d) : Fits 4 (four a b c d) := by
  intro x hx
  rcases x with _ | _ | _ | _ | x
  all_goals first | omega | assumption

end Go.Proofs.Ytlcbpckinjkfeaa
