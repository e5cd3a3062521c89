/- What a law's listed variables give its walk: strconv.ErrRange; a string among a law's arguments. No condition. -/
import Derived.Test.YtpmpapenjcemjaaGreatDoorDoor
import Derived.Test.YtpmpapenjcemjaaGreatDoorU1
import Derived.ChangeMaps
namespace Go.Proofs.YtpmpapenjcemjaaGreatDoor
set_option linter.unusedSimpArgs false
set_option linter.unusedVariables false
open Go Go.RowKit Go.ChangeShapes Go.WideShapes
set_option maxRecDepth 100000 in
theorem err_of_reads {W : World} {nm : String} {d : DataW Unit} (hg : Tryz.prog.globalNamed "strconv.ErrRange" = some 5) (h : Lib.VarReads Tryz.prog W "strconv.ErrRange" (.iface nm d)) : ErrR W := by
  obtain ⟨g, t, cs, fuel, p, h1, h2, h3, h4⟩ := h
  obtain rfl := Option.some.inj (hg.symm.trans h1)
  have hty : (Tryz.prog.globals[5]?).map (·.type) = some 63 := by kernel_rfl
  obtain rfl := Option.some.inj (hty.symm.trans h2)
  cases fuel with
  | zero => cases h4
  | succ k =>
    have hcs : ∃ u v, cs.toList = [.iface u v] := by
      unfold DataW.trod at h4
      rw [Tryz.underlying63] at h4
      rcases hl : cs.toList with _ | ⟨a, _ | ⟨b, r⟩⟩
      · rw [hl] at h4; simp at h4
      · rw [hl] at h4
        cases a <;> first | exact ⟨_, _, rfl⟩ | (exfalso; simp at h4)
      · rw [hl] at h4; simp at h4
    obtain ⟨u, v, hl⟩ := hcs
    refine ⟨u, v, ?_⟩
    rw [h3]
    congr 1
    apply Array.ext'
    rw [hl]
set_option maxRecDepth 100000 in
theorem open_str {H : Type} {enc : TypeId × Value → H} {W : World} {base : Nat} {v : Value} {d : DataW H} {p : List MemPlace}
    (hv : Value.okWide Tryz.prog W .any base 9 v) (h : DataW.Trod enc Tryz.prog W 0 (fun _ => true) true 9 v d p) :
    ∃ l : List UInt8, v = .string (bs l) ∧ d = .lit (.string l) ∧ p = [] ∧ l.length ≤ maxLen := by
  obtain ⟨s, rfl, rfl, rfl, hs⟩ := Go.ChangeMaps.open_string Tryz.underlying9 hv h
  refine ⟨s.data.toList, ?_, rfl, rfl, ?_⟩
  · congr 1
  · simpa using hs
#print axioms open_str
end Go.Proofs.YtpmpapenjcemjaaGreatDoor
