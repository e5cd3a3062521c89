/- Opening zones and points among a law's arguments. No condition. -/
import Derived.Test.YtpaomeilfmeheaaDoorH2
namespace Go.Proofs.YtpaomeilfmeheaaDoor
open Go.ChangeShapes Go.WideShapes Go.ChangeAt Go.RowKit Go.Joins Go.Deep
set_option linter.unusedSimpArgs false
set_option linter.unusedVariables false
set_option maxRecDepth 10000

theorem cellsZone : Tryd.prog.cellsOf 44 = 6 := by kernel_rfl
theorem cellsBnd : Tryd.prog.cellsOf 42 = 1 := by kernel_rfl
theorem arr6 {α : Type} {cs : Array α} (h : cs.size = 6) : ∃ c0 c1 c2 c3 c4 c5, cs = #[c0, c1, c2, c3, c4, c5] := by
  obtain ⟨l⟩ := cs
  match l, h with
  | [c0, c1, c2, c3, c4, c5], _ => exact ⟨c0, c1, c2, c3, c4, c5, rfl⟩
theorem arr4 {α : Type} {cs : Array α} (h : cs.size = 4) : ∃ c0 c1 c2 c3, cs = #[c0, c1, c2, c3] := by
  obtain ⟨l⟩ := cs
  match l, h with
  | [c0, c1, c2, c3], _ => exact ⟨c0, c1, c2, c3, rfl⟩
def row6 (a b c d e f : Int) : Nat → Int
  | 0 => a | 1 => b | 2 => c | 3 => d | 4 => e | _ => f
theorem open_zone {H : Type} {enc : TypeId × Value → H} {W : World} {base : Nat} {v : Value} {d : DataW H} {p : List MemPlace}
    (hv : Value.okWide Tryd.prog W .any base 44 v) (h : DataW.Trod enc Tryd.prog W 0 (fun _ => true) true 44 v d p) :
    ∃ z : Nat → Int, v = zoneV z ∧ FitsZ z := by
  have hu := Tryd.underlying44
  have hv' : ∃ cs : Array Value, v = .agg cs ∧ cs.size = 6 := by
    simp only [Value.okWide, hu] at hv
    obtain ⟨cs, h1, h2, _⟩ := hv
    exact ⟨cs, h1, by rw [h2, cellsZone]⟩
  obtain ⟨cs, rfl, hsz⟩ := hv'
  obtain ⟨c0, c1, c2, c3, c4, c5, rfl⟩ := arr6 hsz
  obtain ⟨fuel, hf⟩ := h
  obtain ⟨xs, m, _, _, _, hlen, hx⟩ := DataW.trod_array hu hf
  match xs, hlen with
  | [y0, y1, y2, y3, y4, y5], _ =>
    have h0 := hx 0 (by omega)
    have h1 := hx 1 (by omega)
    have h2 := hx 2 (by omega)
    have h3 := hx 3 (by omega)
    have h4 := hx 4 (by omega)
    have h5 := hx 5 (by omega)
    simp [cellsBnd, Value.cells] at h0 h1 h2 h3 h4 h5
    obtain ⟨a0, e0, _, w0⟩ := DataW.trod_int Tryd.underlying42 h0
    obtain ⟨a1, e1, _, w1⟩ := DataW.trod_int Tryd.underlying42 h1
    obtain ⟨a2, e2, _, w2⟩ := DataW.trod_int Tryd.underlying42 h2
    obtain ⟨a3, e3, _, w3⟩ := DataW.trod_int Tryd.underlying42 h3
    obtain ⟨a4, e4, _, w4⟩ := DataW.trod_int Tryd.underlying42 h4
    obtain ⟨a5, e5, _, w5⟩ := DataW.trod_int Tryd.underlying42 h5
    simp at e0 e1 e2 e3 e4 e5
    subst e0 e1 e2 e3 e4 e5
    refine ⟨row6 a0 a1 a2 a3 a4 a5, rfl, fun i hi => ?_⟩
    have : i = 0 ∨ i = 1 ∨ i = 2 ∨ i = 3 ∨ i = 4 ∨ i = 5 := by omega
    rcases this with rfl | rfl | rfl | rfl | rfl | rfl
    · exact fits_of_wf w0
    · exact fits_of_wf w1
    · exact fits_of_wf w2
    · exact fits_of_wf w3
    · exact fits_of_wf w4
    · exact fits_of_wf w5
end Go.Proofs.YtpaomeilfmeheaaDoor
