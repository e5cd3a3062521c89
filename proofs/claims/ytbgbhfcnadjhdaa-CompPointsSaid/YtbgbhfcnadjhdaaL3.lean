/- Plain laws of law09: firsts. No condition. -/
import Derived.Test.YtbgbhfcnadjhdaaL2
namespace Go.Proofs.Ytbgbhfcnadjhdaa
set_option linter.unusedSimpArgs false
set_option linter.unusedVariables false
open Go Go.RowKit

/-- The span of a zone's first times. -/
def spF (a : Nat → Int) : Sp := ⟨-(bnum (a 1)), bstr (a 1), if a 0 = noneB then 0 else bnum (a 0), if a 0 = noneB then false else bstr (a 0), decide (a 0 = noneB)⟩
def sp0 : Sp := ⟨0, false, 0, false, false⟩
def firstsZ (a : Nat → Int) : Sp × Int := if okZ a then (if a 1 = noneB then (sp0, 6) else (spF a, 0)) else (sp0, 8)
theorem mkB_of (x : Int) : mkB (bnum x) (bstr x) = x := by
  unfold mkB bnum bstr
  by_cases h : x % 2 = 0
  · rw [decide_eq_true h]; simp; omega
  · rw [decide_eq_false h]; simp; omega
theorem spF_bel (a : Nat → Int) : (spF a).bel = a 1 := by
  show mkB (-(-(bnum (a 1)))) (bstr (a 1)) = a 1
  rw [Int.neg_neg, mkB_of]
theorem spF_abo (a : Nat → Int) : (spF a).abo = a 0 := by
  show (if decide (a 0 = noneB) = true then noneB else mkB (if a 0 = noneB then 0 else bnum (a 0)) (if a 0 = noneB then false else bstr (a 0))) = a 0
  by_cases h : a 0 = noneB
  · rw [if_pos (by simpa using h), h]
  · rw [if_neg (by simpa using h), if_neg h, if_neg h, mkB_of]
theorem spF_ok {a : Nat → Int} (h : okZ a = true) (h1 : a 1 ≠ noneB) : (spF a).ok = true := by
  have m0 := okZ_may h (t := 0) (by omega)
  have m1 := (mayB_bd (okZ_may h (t := 1) (by omega))).resolve_left h1
  obtain ⟨_, _, _, _, _⟩ := zF_vals a
  show spanB (-(bnum (a 1))) (if a 0 = noneB then 0 else bnum (a 0)) (if a 0 = noneB then false else bstr (a 0)) (decide (a 0 = noneB)) = true
  unfold spanB
  by_cases h0 : a 0 = noneB
  · rw [if_pos h0, if_pos h0, decide_eq_true h0]
    simp only [if_true, Bool.and_eq_true, decide_eq_true_eq]
    refine ⟨by omega, by omega, by omega, ?_⟩
    decide
  · have m0' := (mayB_bd m0).resolve_left h0
    rw [if_neg h0, if_neg h0, decide_eq_false h0]
    have cl := (okZ_iff.1 h).2
    have t := cl.2 0 0 1 (by omega) (by omega) (by omega)
    rw [cl.1 0 (by omega), show mE 3 (zF a) 0 1 = some (a 1) from eb_some h1, show mE 3 (zF a) 1 0 = some (a 0) from eb_some h0] at t
    have hn : (1 : Int) / 2 ≤ a 1 / 2 + a 0 / 2 := by
      simp only [eadd, ele] at t
      split at t <;> omega
    simp only [Bool.and_eq_true, decide_eq_true_eq]
    unfold bnum at *
    refine ⟨by omega, by omega, by omega, ?_⟩
    simp
    omega
/-- The matrix of a zone's first times. -/
def ownF (a : Nat → Int) : Nat → Int
  | 0 => 1 | 1 => a 1 | 2 => a 0 | _ => 1
theorem first_bw {a : Nat → Int} (h : okZ a = true) (h1 : a 1 ≠ noneB) : (spF a).bw.n = 2 ∧ (spF a).bw.N = 4 ∧ (spF a).bw.e = 0 ∧ ∀ x, x < 4 → (spF a).bw.f x = ownF a x := by
  have ok := spF_ok h h1
  have cl := (okZ_iff.1 h).2
  have he : (spF a).bw.e = 0 := by
    refine span_some (ls := (spF a).ls) ok cl (a := 0) (b := 1) (by omega) (by omega) ?_ ?_
    · show ele (mE 3 (zF a) 0 1) (eb (spF a).bel)
      rw [spF_bel]; exact ele_refl _
    · show ele (mE 3 (zF a) 1 0) (eb (spF a).abo)
      rw [spF_abo]; exact ele_refl _
  have hb : (spF a).bw = closeM (2 : Nat) (2 * 2) (spanG (spF a).lo (spF a).ls (spF a).hi (spF a).hs (spF a).op) := betwS_ok ok
  rcases closeM_cases (spanG_ok (ls := (spF a).ls) ok) with ⟨c, hc, K⟩ | ⟨hc, _⟩
  · rw [hb, hc]
    refine ⟨rfl, rfl, rfl, fun x hx => ?_⟩
    obtain ⟨k1, k2⟩ := spanG_closed (ls := (spF a).ls) ok K
    have d0 : c 0 = 1 := K.diag (i := 0) (by omega)
    have d3 : c 3 = 1 := K.diag (i := 1) (by omega)
    have : x = 0 ∨ x = 1 ∨ x = 2 ∨ x = 3 := by omega
    rcases this with rfl | rfl | rfl | rfl
    · exact d0
    · show c 1 = a 1; rw [k1]; exact spF_bel a
    · show c 2 = a 0; rw [k2]; exact spF_abo a
    · exact d3
  · rw [hb, hc] at he; simp [errM] at he
theorem ownF_ok {a : Nat → Int} (h : okZ a = true) : okD (2 : Nat) (2 * 2) (ownF a) = true := by
  refine okD_of (f := topF 2) (by decide) fun x hx => ?_
  have : x = 0 ∨ x = 1 ∨ x = 2 ∨ x = 3 := by omega
  rcases this with rfl | rfl | rfl | rfl
  · rfl
  · exact okZ_may h (t := 1) (by omega)
  · exact okZ_may h (t := 0) (by omega)
  · rfl
theorem okD_cong {n : Nat} {f g : Nat → Int} (h : ∀ x, x < n * n → f x = g x) (hf : okD n (n * n) f = true) : okD n (n * n) g = true := okD_of hf fun x hx => by rw [← h x hx]; exact okD_may hf x hx
theorem kept2 {f : Nat → Int} {T : Nat → Int × Int} (h0 : f 0 = 1) (h3 : f 3 = 1) : keptAll 2 f T = (keptB 0 1 (T 0).1 (T 0).2 (f 1) && keptB (T 0).1 (T 0).2 0 1 (f 2)) := by
  rw [Bool.eq_iff_iff, keptAll_iff, Bool.and_eq_true]
  constructor
  · intro h
    exact ⟨h 0 1 (by omega) (by omega), h 1 0 (by omega) (by omega)⟩
  · rintro ⟨h1, h2⟩ i j hi hj
    have hi : i = 0 ∨ i = 1 := by omega
    have hj : j = 0 ∨ j = 1 := by omega
    rcases hi with rfl | rfl <;> rcases hj with rfl | rfl
    · show keptB 0 1 0 1 (f 0) = true
      rw [h0]; decide
    · exact h1
    · exact h2
    · show keptB _ _ _ _ (f 3) = true
      rw [h3]; exact kept_self _ _
/-- CompFirsts. -/
theorem firsts_law {a : Nat → Int} (h : okZ a = true) (h1 : a 1 ≠ noneB) {f g : Nat → Int} (hf : ∀ x, x < 4 → f x = ownF a x) (hg : ∀ x, x < 4 → g x = ownF a x) :
    okD 2 4 f = true ∧ okD 2 4 g = true ∧ keptAll 2 f (pickZ a).1 = true ∧ (∀ T, keptAll 2 f T = keptAll 2 g T) ∧ inB 2 f g = true ∧ (pickZ a).2 = 0 ∧ allRat 2 (pickZ a).1 = true := by
  have of : okD (2 : Nat) (2 * 2) f = true := okD_cong (fun x hx => (hf x hx).symm) (ownF_ok h)
  have og : okD (2 : Nat) (2 * 2) g = true := okD_cong (fun x hx => (hg x hx).symm) (ownF_ok h)
  have f0 : f 0 = 1 := hf 0 (by omega)
  have f3 : f 3 = 1 := hf 3 (by omega)
  have g0 : g 0 = 1 := hg 0 (by omega)
  have g3 : g 3 = 1 := hg 3 (by omega)
  have hfg : ∀ x, x < 4 → f x = g x := fun x hx => (hf x hx).trans (hg x hx).symm
  obtain ⟨⟨T, e⟩, hp⟩ : ∃ r, r = pickZ a := ⟨_, rfl⟩
  have hl := zpicks_law (a := a) (T := T) (e := e) hp
  have e0 : e = 0 := Classical.byContradiction fun hn => by have := (hl.1 hn).2; rw [h] at this; cases this
  obtain ⟨_, fT, hh, _⟩ := hl.2 e0
  obtain ⟨_, hr, hk⟩ := hasZ_ok hh
  have hk2 := keptAll_iff.1 hk.symm
  obtain ⟨a0, a1, a2, a3, _⟩ := zF_vals a
  have k01 := hk2 0 1 (by omega) (by omega)
  have k10 := hk2 1 0 (by omega) (by omega)
  rw [show 0 * 3 + 1 = 1 from rfl, a1] at k01
  rw [show 1 * 3 + 0 = 3 from rfl, a3] at k10
  have kf : ∀ T, keptAll 2 f T = keptAll 2 g T := fun T => by
    rw [kept2 f0 f3, kept2 g0 g3, hfg 1 (by omega), hfg 2 (by omega)]
  rw [← hp]
  refine ⟨of, og, ?_, kf, ?_, e0, hr⟩
  · rw [kept2 f0 f3, hf 1 (by omega), hf 2 (by omega)]
    show (keptB 0 1 (T 0).1 (T 0).2 (a 1) && keptB (T 0).1 (T 0).2 0 1 (a 0)) = true
    rw [Bool.and_eq_true]
    exact ⟨k01, k10⟩
  · refine (inB_iff of og).2 fun q hq hu i j hi hj => ?_
    have hx : i * 2 + j < 4 := by have := place_lt hi hj; omega
    show ele _ (eb (g (i * 2 + j)))
    rw [← hfg _ hx]
    exact hu i j hi hj
end Go.Proofs.Ytbgbhfcnadjhdaa
