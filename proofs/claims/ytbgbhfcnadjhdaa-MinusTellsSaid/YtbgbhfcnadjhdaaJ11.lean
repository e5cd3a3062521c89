/- Opening a list of zones among a law's arguments. No condition. -/
import Derived.Test.YtbgbhfcnadjhdaaJ5
import Derived.Test.YtbgbhfcnadjhdaaH11
import Derived.Test.YtbgbhfcnadjhdaaMK
import Derived.Deep.Slices
namespace Go.Proofs.Ytbgbhfcnadjhdaa
open Go.ChangeShapes Go.WideShapes Go.ChangeAt Go.RowKit Go.Joins Go.Deep
set_option linter.unusedVariables false
set_option linter.unusedSimpArgs false
set_option maxRecDepth 10000

/-- The cells of one zone. -/
theorem trod_zone {H : Type} {enc : TypeId × Value → H} {W : World} {n : Nat} {sp : Nat → Bool} {he : Bool} {cs : List Value} {d : DataW H} {p : List MemPlace} (hl : cs.length = 6) (h : DataW.trod enc Try.prog W 0 sp he n 24 cs = some (d, p)) :
    ∃ z : Nat → Int, FitsZ z ∧ ∀ j, j < 6 → cs[j]? = some (.int .i64 (z j)) := by
  have hu := Try.underlying24
  obtain ⟨xs, m, _, _, _, hlen, hx⟩ := DataW.trod_array hu h
  match cs, hl, xs, hlen with
  | [c0, c1, c2, c3, c4, c5], _, [y0, y1, y2, y3, y4, y5], _ =>
    have h0 := hx 0 (by omega)
    have h1 := hx 1 (by omega)
    have h2 := hx 2 (by omega)
    have h3 := hx 3 (by omega)
    have h4 := hx 4 (by omega)
    have h5 := hx 5 (by omega)
    simp [cellsBnd, Value.cells] at h0 h1 h2 h3 h4 h5
    obtain ⟨a0, e0, _, w0⟩ := DataW.trod_int Try.underlying22 h0
    obtain ⟨a1, e1, _, w1⟩ := DataW.trod_int Try.underlying22 h1
    obtain ⟨a2, e2, _, w2⟩ := DataW.trod_int Try.underlying22 h2
    obtain ⟨a3, e3, _, w3⟩ := DataW.trod_int Try.underlying22 h3
    obtain ⟨a4, e4, _, w4⟩ := DataW.trod_int Try.underlying22 h4
    obtain ⟨a5, e5, _, w5⟩ := DataW.trod_int Try.underlying22 h5
    simp at e0 e1 e2 e3 e4 e5
    subst e0 e1 e2 e3 e4 e5
    refine ⟨row6 a0 a1 a2 a3 a4 a5, fun i hi => ?_, fun j hj => ?_⟩
    · rcases six hi with rfl | rfl | rfl | rfl | rfl | rfl
      · exact fits_of_wf w0
      · exact fits_of_wf w1
      · exact fits_of_wf w2
      · exact fits_of_wf w3
      · exact fits_of_wf w4
      · exact fits_of_wf w5
    · rcases six hj with rfl | rfl | rfl | rfl | rfl | rfl <;> rfl
theorem nthZ_range {f : Nat → Nat → Int} {n i : Nat} (h : i < n) : nthZ ((List.range n).map f) i = f i := by
  rw [nthZ_eq (by simpa using h)]; simp
/-- A slice of zones that came in. -/
theorem open_zones {H : Type} {enc : TypeId × Value → H} {W : World} {base : Nat} {v : Value} {d : DataW H} {p : List MemPlace}
    (hv : Value.okWide Try.prog W .any base 25 v) (h : DataW.Trod enc Try.prog W 0 (fun _ => true) true 25 v d p) :
    ∃ (q : Option Addr) (cq : Nat) (L : List (Nat → Int)), v = .slice q L.length cq ∧ SlZ W q L ∧ (∀ z, z ∈ L → FitsZ z) ∧ L.length ≤ maxLen := by
  obtain ⟨a0, l0, k0, rfl⟩ := okWide_slice Try.underlying25 hv
  obtain ⟨n, h⟩ := h
  rcases open_slice Try.underlying25 h with ⟨h1, _⟩ | ⟨a, len, cap, m, n', D, Pl, h1, hb, hl, hm, hmm, _, hx⟩
  · have h1 : Value.slice a0 l0 k0 = .slice none 0 0 := by simpa [Value.cells] using h1
    exact ⟨none, 0, [], h1, .inl rfl, (fun z hz => by cases hz), by simp [maxLen]⟩
  · have h1 : Value.slice a0 l0 k0 = .slice (some a) len cap := by simpa [Value.cells] using h1
    simp only [if_true] at hmm
    subst hmm
    have hg : ∀ i, ∃ z : Nat → Int, i < m → FitsZ z ∧ ∀ j, j < 6 → W.cell? ((a.add (i * 6)).add j) = some (.int .i64 (z j)) := by
      intro i
      by_cases hi : i < m
      · obtain ⟨cs', c1, c2⟩ := hx i hi
        rw [cellsZone] at c1
        obtain ⟨_, hlen, hcell⟩ := World.cells?_some c1
        obtain ⟨z, hf, hz⟩ := trod_zone hlen c2
        refine ⟨z, fun _ => ⟨hf, fun j hj => ?_⟩⟩
        exact (hcell j hj).trans (hz j hj)
      · exact ⟨fun _ => 0, fun h => absurd h hi⟩
    obtain ⟨Z, hZ⟩ := Classical.axiomOfChoice hg
    refine ⟨some a, m, (List.range len).map Z, by rw [h1]; simp, ?_, ?_, by simp; omega⟩
    · by_cases h0 : len = 0
      · subst h0; exact .inl rfl
      · obtain ⟨B, off, spot⟩ := a
        have c00 := (hZ 0 (by omega)).2 0 (by omega)
        have hspot : spot = none := by simpa [Addr.add] using World.cell?_spot c00
        subst hspot
        refine .inr ⟨B, off, rfl, ?_, fun i j hi hj => ?_⟩
        · have := World.block_lt_of_cell? W _ c00
          simpa [Addr.add] using this
        · rw [List.length_map, List.length_range] at hi
          rw [nthZ_range hi]
          have := (hZ i (by omega)).2 j hj
          rw [Addr.add_lit, Addr.add_lit, Nat.add_assoc] at this
          exact this
    · intro z hz
      obtain ⟨i, hi, rfl⟩ := List.mem_map.1 hz
      rw [List.mem_range] at hi
      exact (hZ i (by omega)).1
#print axioms open_zones
end Go.Proofs.Ytbgbhfcnadjhdaa
