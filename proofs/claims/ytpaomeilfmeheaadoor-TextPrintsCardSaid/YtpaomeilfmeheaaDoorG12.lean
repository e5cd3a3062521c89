/- Plain laws: what lies in what, what is apart, in common, and kept, of all matrices. No condition. -/
import Derived.Test.YtpaomeilfmeheaaDoorG6
import Derived.Test.YtpaomeilfmeheaaDoorG7
import Derived.Test.YtpaomeilfmeheaaDoorG10
namespace Go.Proofs.YtpaomeilfmeheaaDoor
set_option linter.unusedSimpArgs false
set_option linter.unusedVariables false
open Go Go.RowKit

theorem inR_cases {n1 : Int} {N1 : Nat} {f1 : Nat → Int} {n2 : Int} {N2 : Nat} {f2 : Nat → Int} {x : Bool} {e : Int} (h : (x, e) = inR n1 N1 f1 n2 N2 f2) : e = twoE n1 N1 f1 n2 N2 f2 ∧ (e ≠ 0 → x = false) ∧
    (e = 0 → ∃ m : Nat, n1 = (m : Int) ∧ n2 = (m : Int) ∧ N1 = m * m ∧ N2 = m * m ∧ 1 ≤ m ∧ m ≤ 4 ∧ okD m (m * m) f1 = true ∧ okD m (m * m) f2 = true ∧ (x = true ↔ InP m f1 f2)) := by
  rcases twoE_cases n1 N1 f1 n2 N2 f2 with ⟨hne, _⟩ | ⟨m, rfl, rfl, rfl, rfl, hm0, hm4, o1, o2, hz⟩
  · rw [inR_bad hne] at h
    simp only [Prod.mk.injEq] at h
    obtain ⟨rfl, rfl⟩ := h
    exact ⟨rfl, fun _ => rfl, fun h => absurd h hne⟩
  · rw [inR_ok hz] at h
    simp only [Prod.mk.injEq] at h
    obtain ⟨rfl, rfl⟩ := h
    exact ⟨hz.symm, fun h => absurd rfl h, fun _ => ⟨m, rfl, rfl, rfl, rfl, hm0, hm4, o1, o2, inB_iff o1 o2⟩⟩
theorem apR_cases {n1 : Int} {N1 : Nat} {f1 : Nat → Int} {n2 : Int} {N2 : Nat} {f2 : Nat → Int} {x : Bool} {e : Int} (h : (x, e) = apR n1 N1 f1 n2 N2 f2) : e = twoE n1 N1 f1 n2 N2 f2 ∧ (e ≠ 0 → x = false) ∧
    (e = 0 → ∀ m : Nat, n1 = (m : Int) → n2 = (m : Int) → N1 = m * m → N2 = m * m → okD m (m * m) f1 = true → okD m (m * m) f2 = true → (x = true ↔ ApP m f1 f2)) := by
  by_cases hz : twoE n1 N1 f1 n2 N2 f2 = 0
  · rw [apR_ok hz] at h
    simp only [Prod.mk.injEq] at h
    obtain ⟨rfl, rfl⟩ := h
    refine ⟨hz.symm, fun h => absurd rfl h, fun _ m h1 h2 h3 h4 o1 o2 => ?_⟩
    subst h1 h2 h3 h4
    rw [decide_eq_true_iff, meet_e o1 o2, away_iff o1 o2]
  · rw [apR_bad hz] at h
    simp only [Prod.mk.injEq] at h
    obtain ⟨rfl, rfl⟩ := h
    exact ⟨rfl, fun _ => rfl, fun h => absurd h hz⟩

/-- InclChain. -/
theorem chain_law {na : Int} {Na : Nat} {fa : Nat → Int} {nb : Int} {Nb : Nat} {fb : Nat → Int} {nd : Int} {Nd : Nat} {fd : Nat → Int} {x y z far near : Bool} {e f g h i : Int}
    (h1 : (x, e) = inR na Na fa nb Nb fb) (h2 : (y, f) = inR nb Nb fb nd Nd fd) (h3 : (z, g) = inR na Na fa nd Nd fd) (h4 : (far, h) = apR nb Nb fb nd Nd fd) (h5 : (near, i) = apR na Na fa nd Nd fd) :
    f = h ∧ g = i ∧ (e = 0 → f = 0 → g = 0 → (x = true → y = true → z = true) ∧ (x = true → far = true → near = true)) := by
  obtain ⟨a1, a2, a3⟩ := inR_cases h1
  obtain ⟨b1, b2, b3⟩ := inR_cases h2
  obtain ⟨c1, c2, c3⟩ := inR_cases h3
  obtain ⟨d1, d2, d3⟩ := apR_cases h4
  obtain ⟨e1, e2, e3⟩ := apR_cases h5
  refine ⟨by rw [d1, b1], by rw [e1, c1], fun he hf hg => ?_⟩
  obtain ⟨m, rfl, rfl, rfl, rfl, hm0, hm4, oa, ob, hx⟩ := a3 he
  obtain ⟨m2, k1, rfl, k3, rfl, _, _, _, od, hy⟩ := b3 hf
  obtain rfl : m = m2 := by omega
  obtain ⟨m3, k1, _, k3, _, _, _, _, _, hz⟩ := c3 hg
  obtain rfl : m = m3 := by omega
  have hfar := d3 (by rw [d1, ← b1]; exact hf) m rfl rfl rfl rfl ob od
  have hnear := e3 (by rw [e1, ← c1]; exact hg) m rfl rfl rfl rfl oa od
  exact ⟨fun hx' hy' => hz.2 fun q hq hu => hy.1 hy' q hq (hx.1 hx' q hq hu), fun hx' hf' => hnear.2 fun q hq hu => hfar.1 hf' q hq (hx.1 hx' q hq hu)⟩
#print axioms chain_law
end Go.Proofs.YtpaomeilfmeheaaDoor
