/- Opening zones and points among a law's arguments. No condition. -/
import Derived.Test.YtpmpapenjcemjaaGreatDoorH2
namespace Go.Proofs.YtpmpapenjcemjaaGreatDoor
open Go.ChangeShapes Go.WideShapes Go.ChangeAt Go.RowKit Go.Joins Go.Deep
set_option linter.unusedSimpArgs false
set_option linter.unusedVariables false
set_option maxRecDepth 10000

theorem cellsZone : Tryz.prog.cellsOf 49 = 6 := by kernel_rfl
theorem cellsBnd : Tryz.prog.cellsOf 47 = 1 := by kernel_rfl
theorem cellsPoint : Tryz.prog.cellsOf 53 = 4 := by kernel_rfl
theorem arr6 {α : Type} {cs : Array α} (h : cs.size = 6) : ∃ c0 c1 c2 c3 c4 c5, cs = #[c0, c1, c2, c3, c4, c5] := by
  obtain ⟨l⟩ := cs
  match l, h with
  | [c0, c1, c2, c3, c4, c5], _ => exact ⟨c0, c1, c2, c3, c4, c5, rfl⟩
theorem arr4 {α : Type} {cs : Array α} (h : cs.size = 4) : ∃ c0 c1 c2 c3, cs = #[c0, c1, c2, c3] := by
  obtain ⟨l⟩ := cs
  match l, h with
  | [c0, c1, c2, c3], _ => exact ⟨c0, c1, c2, c3, rfl⟩
def row6 (a b c d e f : Int) : Nat → Int
  | 0 => a | 1 => b | 2 => c | 3 => d | 4 => e | _ => f
theorem open_zone {H : Type} {enc : TypeId × Value → H} {W : World} {base : Nat} {v : Value} {d : DataW H} {p : List MemPlace}
    (hv : Value.okWide Tryz.prog W .any base 49 v) (h : DataW.Trod enc Tryz.prog W 0 (fun _ => true) true 49 v d p) :
    ∃ z : Nat → Int, v = zoneV z ∧ FitsZ z := by
  have hu := Tryz.underlying49
  have hv' : ∃ cs : Array Value, v = .agg cs ∧ cs.size = 6 := by
    simp only [Value.okWide, hu] at hv
    obtain ⟨cs, h1, h2, _⟩ := hv
    exact ⟨cs, h1, by rw [h2, cellsZone]⟩
  obtain ⟨cs, rfl, hsz⟩ := hv'
  obtain ⟨c0, c1, c2, c3, c4, c5, rfl⟩ := arr6 hsz
  obtain ⟨fuel, hf⟩ := h
  obtain ⟨xs, m, _, _, _, hlen, hx⟩ := DataW.trod_array hu hf
  match xs, hlen with
  | [y0, y1, y2, y3, y4, y5], _ =>
    have h0 := hx 0 (by omega)
    have h1 := hx 1 (by omega)
    have h2 := hx 2 (by omega)
    have h3 := hx 3 (by omega)
    have h4 := hx 4 (by omega)
    have h5 := hx 5 (by omega)
    simp [cellsBnd, Value.cells] at h0 h1 h2 h3 h4 h5
    obtain ⟨a0, e0, _, w0⟩ := DataW.trod_int Tryz.underlying47 h0
    obtain ⟨a1, e1, _, w1⟩ := DataW.trod_int Tryz.underlying47 h1
    obtain ⟨a2, e2, _, w2⟩ := DataW.trod_int Tryz.underlying47 h2
    obtain ⟨a3, e3, _, w3⟩ := DataW.trod_int Tryz.underlying47 h3
    obtain ⟨a4, e4, _, w4⟩ := DataW.trod_int Tryz.underlying47 h4
    obtain ⟨a5, e5, _, w5⟩ := DataW.trod_int Tryz.underlying47 h5
    simp at e0 e1 e2 e3 e4 e5
    subst e0 e1 e2 e3 e4 e5
    refine ⟨row6 a0 a1 a2 a3 a4 a5, rfl, fun i hi => ?_⟩
    have : i = 0 ∨ i = 1 ∨ i = 2 ∨ i = 3 ∨ i = 4 ∨ i = 5 := by omega
    rcases this with rfl | rfl | rfl | rfl | rfl | rfl
    · exact fits_of_wf w0
    · exact fits_of_wf w1
    · exact fits_of_wf w2
    · exact fits_of_wf w3
    · exact fits_of_wf w4
    · exact fits_of_wf w5
theorem open_point {H : Type} {enc : TypeId × Value → H} {W : World} {base : Nat} {v : Value} {d : DataW H} {p : List MemPlace}
    (hv : Value.okWide Tryz.prog W .any base 53 v) (h : DataW.Trod enc Tryz.prog W 0 (fun _ => true) true 53 v d p) :
    ∃ a b c d : Int, v = .agg #[.int .i64 a, .int .i64 b, .int .i64 c, .int .i64 d] ∧ fits64 a ∧ fits64 b ∧ fits64 c ∧ fits64 d := by
  obtain ⟨cs, rfl, hsz⟩ := okWide_struct Tryz.underlying53 hv
  obtain ⟨c0, c1, c2, c3, rfl⟩ := arr4 (hsz.trans cellsPoint)
  obtain ⟨fuel, hf⟩ := h
  obtain ⟨y0, y1, n, _, _, h0, h1⟩ := trod_struct2 Tryz.underlying53 hf
  simp [Value.cells, cellsRat] at h0 h1
  obtain ⟨x0, x1, m, _, _, g0, g1⟩ := trod_struct2 Tryz.underlying51 h0
  obtain ⟨x2, x3, m', _, _, g2, g3⟩ := trod_struct2 Tryz.underlying51 h1
  have hI : Tryz.prog.cellsOf 3 = 1 := by kernel_rfl
  simp [hI] at g0 g1 g2 g3
  obtain ⟨a0, e0, _, w0⟩ := DataW.trod_int Tryz.underlying3 g0
  obtain ⟨a1, e1, _, w1⟩ := DataW.trod_int Tryz.underlying3 g1
  obtain ⟨a2, e2, _, w2⟩ := DataW.trod_int Tryz.underlying3 g2
  obtain ⟨a3, e3, _, w3⟩ := DataW.trod_int Tryz.underlying3 g3
  simp at e0 e1 e2 e3
  subst e0 e1 e2 e3
  exact ⟨a0, a1, a2, a3, rfl, fits_of_wf w0, fits_of_wf w1, fits_of_wf w2, fits_of_wf w3⟩
end Go.Proofs.YtpmpapenjcemjaaGreatDoor
