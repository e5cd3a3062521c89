/- Opening a list of times among a law's arguments. No condition. -/
import Derived.Test.YtlcbpckinjkfeaaD15
import Derived.Test.YtlcbpckinjkfeaaD18
import Derived.Test.YtlcbpckinjkfeaaFrame2
import Derived.Deep.SlicePairs
namespace Go.Proofs.Ytlcbpckinjkfeaa
open Go.ChangeShapes Go.WideShapes Go.ChangeAt Go.RowKit Go.Joins Go.Deep
set_option linter.unusedVariables false
set_option linter.unusedSimpArgs false
set_option maxRecDepth 10000

/-- A slice of times that came in. -/
theorem open_rats {H : Type} {enc : TypeId × Value → H} {W : World} {base : Nat} {v : Value} {d : DataW H} {p : List MemPlace}
    (hv : Value.okWide Try.prog W .any base 40 v) (h : DataW.Trod enc Try.prog W 0 (fun _ => true) true 40 v d p) :
    ∃ (q : Option Addr) (M cq : Nat) (T : Nat → Int × Int), v = .slice q M cq ∧ SlR W q M T ∧ FitsR M T ∧ M ≤ maxLen := by
  obtain ⟨a0, l0, k0, rfl⟩ := okWide_slice Try.underlying40 hv
  obtain ⟨n, h⟩ := h
  rcases open_slice_pairs Try.underlying40 (e := 23) Try.underlying23 cellsRat (by kernel_rfl) (by kernel_rfl) (by kernel_rfl) (by kernel_rfl) h with ⟨h1, _⟩ | ⟨a, len, cap, m, n', V0, V1, D0, D1, P0, P1, h1, hb, hl, hm, hmm, _, hx⟩
  · have h1 : Value.slice a0 l0 k0 = .slice none 0 0 := by simpa [Value.cells] using h1
    exact ⟨none, 0, 0, fun _ => (0, 0), h1, .inl rfl, (fun x hx => by omega), by simp [maxLen]⟩
  · have h1 : Value.slice a0 l0 k0 = .slice (some a) len cap := by simpa [Value.cells] using h1
    simp only [if_true] at hmm
    subst hmm
    have hg : ∀ i, ∃ r : Int × Int, i < m → V0 i = .int .i64 r.1 ∧ V1 i = .int .i64 r.2 ∧ fits64 r.1 ∧ fits64 r.2 := by
      intro i
      by_cases hi : i < m
      · obtain ⟨_, _, t0, t1⟩ := hx i hi
        obtain ⟨x, e0, _, wx⟩ := DataW.trod_int Try.underlying3 t0
        obtain ⟨y, e1, _, wy⟩ := DataW.trod_int Try.underlying3 t1
        simp only [List.cons.injEq, and_true] at e0 e1
        exact ⟨(x, y), fun _ => ⟨e0, e1, fits_of_wf wx, fits_of_wf wy⟩⟩
      · exact ⟨(0, 0), fun h => absurd h hi⟩
    obtain ⟨T, hT⟩ := Classical.axiomOfChoice hg
    refine ⟨some a, len, m, T, h1, ?_, fun x hx => ⟨(hT x (by omega)).2.2.1, (hT x (by omega)).2.2.2⟩, by omega⟩
    by_cases h0 : len = 0
    · exact .inl h0
    · obtain ⟨B, off, spot⟩ := a
      have c00 := (hx 0 (by omega)).1
      have hspot : spot = none := by simpa [Addr.add] using World.cell?_spot c00
      subst hspot
      have hcc : ∀ x, x < len → W.cell? ⟨B, off + x * 2, none⟩ = some (.int .i64 (T x).1) ∧ W.cell? ⟨B, off + (x * 2 + 1), none⟩ = some (.int .i64 (T x).2) := fun x hxl => by
        obtain ⟨k0, k1, _, _⟩ := hx x (by omega)
        rw [add_plain] at k0 k1
        obtain ⟨e0, e1, _, _⟩ := hT x (by omega)
        exact ⟨by rw [k0, e0], by rw [k1, e1]⟩
      refine .inr ⟨B, off, rfl, World.block_lt_of_cell? W _ (hcc 0 (by omega)).1, hcc⟩
#print axioms open_rats
end Go.Proofs.Ytlcbpckinjkfeaa
