/- Times keep a matrix just if they keep the closed one: plain. No condition. -/
import Derived.Test.YtlcbpckinjkfeaaD16
import Derived.Test.YtlcbpckinjkfeaaD19
namespace Go.Proofs.Ytlcbpckinjkfeaa
set_option linter.unusedSimpArgs false
set_option linter.unusedVariables false

/-- The least bound that a difference A / E keeps. -/
def leastB (A E : Int) : Int := 2 * (A / E) + (if A % E = 0 then 1 else 2)
theorem kept_core {A E x : Int} (hE : 0 < E) : (A < x / 2 * E ∨ (A = x / 2 * E ∧ ¬ x % 2 = 0)) ↔ leastB A E ≤ x := by
  have h1 := Int.emod_nonneg A (show E ≠ 0 by omega)
  have h2 := Int.emod_lt_of_pos A hE
  have h3 := Int.mul_ediv_add_emod A E
  obtain ⟨f, hf⟩ : ∃ f, f = A / E := ⟨_, rfl⟩
  obtain ⟨r, hr⟩ : ∃ r, r = A % E := ⟨_, rfl⟩
  obtain ⟨c, hc⟩ : ∃ c, c = x / 2 := ⟨_, rfl⟩
  unfold leastB
  rw [← hf, ← hr] at h3
  rw [← hr] at h1 h2
  rw [← hf, ← hr]
  clear hf hr
  rw [← hc]
  rcases Int.lt_trichotomy f c with h | h | h
  · have : E * f + E ≤ c * E := by
      have := Int.mul_le_mul_of_nonneg_right (show f + 1 ≤ c by omega) (show (0 : Int) ≤ E by omega)
      rw [Int.add_mul, Int.one_mul, Int.mul_comm f E] at this; exact this
    constructor
    · intro _; split <;> omega
    · intro _; exact .inl (by omega)
  · subst h
    have e : f * E = E * f := Int.mul_comm _ _
    rw [e]
    constructor
    · rintro (h | ⟨h, g⟩)
      · omega
      · rw [if_pos (by omega)]; omega
    · intro h
      right
      split at h <;> omega
  · have : c * E + E ≤ E * f := by
      have := Int.mul_le_mul_of_nonneg_right (show c + 1 ≤ f by omega) (show (0 : Int) ≤ E by omega)
      rw [Int.add_mul, Int.one_mul, Int.mul_comm f E] at this; exact this
    constructor
    · rintro (h | ⟨h, _⟩) <;> omega
    · intro h; exfalso; split at h <;> omega

theorem keptB_iff {n1 d1 n2 d2 x : Int} (h1 : 0 < d1) (h2 : 0 < d2) : keptB n1 d1 n2 d2 x = true ↔ ele (some (leastB (n1 * d2 - n2 * d1) (d1 * d2))) (eb x) := by
  unfold keptB eb
  by_cases hx : x = noneB
  · rw [if_pos hx]; simp [hx, ele]
  · rw [if_neg hx, decide_eq_false hx, Bool.false_or, ele_some, ← kept_core (Int.mul_pos h1 h2)]
    simp only [bstr, Bool.or_eq_true, Bool.and_eq_true, decide_eq_true_eq, Bool.not_eq_true', decide_eq_false_iff_not]
    exact Iff.rfl

/-- Sums of kept bounds are kept. -/
theorem least_add {a p b q c r : Int} (hp : 0 < p) (hq : 0 < q) (hr : 0 < r) :
    ele (some (leastB (a * r - c * p) (p * r))) (eadd (some (leastB (a * q - b * p) (p * q))) (some (leastB (b * r - c * q) (q * r)))) := by
  obtain ⟨x, hx⟩ : ∃ x, x = leastB (a * q - b * p) (p * q) := ⟨_, rfl⟩
  obtain ⟨y, hy⟩ : ∃ y, y = leastB (b * r - c * q) (q * r) := ⟨_, rfl⟩
  rw [← hx, ← hy]
  have kx := (kept_core (x := x) (A := a * q - b * p) (Int.mul_pos hp hq)).2 (by omega)
  have ky := (kept_core (x := y) (A := b * r - c * q) (Int.mul_pos hq hr)).2 (by omega)
  show leastB _ _ ≤ _
  rw [← kept_core (Int.mul_pos hp hr)]
  obtain ⟨u, hu⟩ : ∃ u, u = x / 2 := ⟨_, rfl⟩
  obtain ⟨v, hv⟩ : ∃ v, v = y / 2 := ⟨_, rfl⟩
  have hs : (2 * (x / 2 + y / 2) + (if x % 2 = 0 ∨ y % 2 = 0 then 0 else 1)) / 2 = u + v := by rw [← hu, ← hv]; split <;> omega
  rw [hs]
  rw [← hu] at kx
  rw [← hv] at ky
  have ex : (a * q - b * p < u * (p * q) ↔ (a * q - b * p) * r < u * (p * q) * r) := ⟨fun h => Int.mul_lt_mul_of_pos_right h hr, fun h => Int.lt_of_mul_lt_mul_right h (by omega)⟩
  have ey : (b * r - c * q < v * (q * r) ↔ (b * r - c * q) * p < v * (q * r) * p) := ⟨fun h => Int.mul_lt_mul_of_pos_right h hp, fun h => Int.lt_of_mul_lt_mul_right h (by omega)⟩
  have ez : (a * r - c * p < (u + v) * (p * r) ↔ (a * r - c * p) * q < (u + v) * (p * r) * q) := ⟨fun h => Int.mul_lt_mul_of_pos_right h hq, fun h => Int.lt_of_mul_lt_mul_right h (by omega)⟩
  have fx : (a * q - b * p = u * (p * q) → (a * q - b * p) * r = u * (p * q) * r) := fun h => by rw [h]
  have fy : (b * r - c * q = v * (q * r) → (b * r - c * q) * p = v * (q * r) * p) := fun h => by rw [h]
  have fz : ((a * r - c * p) * q = (u + v) * (p * r) * q → a * r - c * p = (u + v) * (p * r)) := fun h => Int.eq_of_mul_eq_mul_right (by omega) h
  have g1 : (a * q - b * p) * r = a * q * r - b * p * r := Int.sub_mul _ _ _
  have g2 : (b * r - c * q) * p = b * p * r - c * p * q := by rw [Int.sub_mul, Int.mul_right_comm b r p, Int.mul_right_comm c q p]
  have g3 : (a * r - c * p) * q = a * q * r - c * p * q := by rw [Int.sub_mul, Int.mul_right_comm a r q]
  have g4 : u * (p * q) * r = u * (p * q * r) := Int.mul_assoc _ _ _
  have g5 : v * (q * r) * p = v * (p * q * r) := by rw [Int.mul_assoc, Int.mul_comm (q * r) p, ← Int.mul_assoc p q r]
  have g6 : (u + v) * (p * r) * q = u * (p * q * r) + v * (p * q * r) := by rw [Int.mul_assoc, Int.mul_right_comm p r q, Int.add_mul]
  rw [g1, g4] at ex fx
  rw [g2, g5] at ey fy
  rw [g3, g6] at ez fz
  obtain ⟨X, hX⟩ : ∃ X, X = a * q * r := ⟨_, rfl⟩
  obtain ⟨Y, hY⟩ : ∃ Y, Y = b * p * r := ⟨_, rfl⟩
  obtain ⟨Z, hZ⟩ : ∃ Z, Z = c * p * q := ⟨_, rfl⟩
  obtain ⟨U, hU⟩ : ∃ U, U = u * (p * q * r) := ⟨_, rfl⟩
  obtain ⟨V, hV⟩ : ∃ V, V = v * (p * q * r) := ⟨_, rfl⟩
  rw [← hX, ← hY, ← hU] at ex fx
  rw [← hY, ← hZ, ← hV] at ey fy
  rw [← hX, ← hZ, ← hU, ← hV] at ez fz
  rcases kx with kx | ⟨kx, ox⟩
  · have := ex.1 kx
    rcases ky with ky | ⟨ky, oy⟩
    · have := ey.1 ky
      exact .inl (ez.2 (by omega))
    · have := fy ky
      exact .inl (ez.2 (by omega))
  · have := fx kx
    rcases ky with ky | ⟨ky, oy⟩
    · have := ey.1 ky
      exact .inl (ez.2 (by omega))
    · have := fy ky
      refine .inr ⟨fz (by omega), ?_⟩
      rw [if_neg (by omega)]; omega

/-- The matrix of the least bounds that times keep. -/
def tmE (T : Nat → Int × Int) : Nat → Nat → EB := fun i j => some (leastB ((tm T i).1 * (tm T j).2 - (tm T j).1 * (tm T i).2) ((tm T i).2 * (tm T j).2))
theorem tmE_closed {n : Nat} {T : Nat → Int × Int} (h : ∀ i, i < n → 0 < (tm T i).2) : Closed n (tmE T) := by
  refine ⟨fun i hi => ?_, fun i j k hi hj hk => least_add (h i hi) (h k hk) (h j hj)⟩
  unfold tmE leastB
  rw [Int.sub_self]; simp
theorem tm_pos {M : Nat} {T : Nat → Int × Int} (h : allRat M T = true) : ∀ i, i < M + 1 → 0 < (tm T i).2 := by
  intro i hi
  cases i with
  | zero => exact (by decide : (0 : Int) < 1)
  | succ i =>
    have := allRat_iff.1 h i (by omega)
    unfold okRat at this
    simp only [Bool.and_eq_true, decide_eq_true_eq] at this
    show 0 < (T i).2
    omega
theorem kept_under {n : Nat} {f : Nat → Int} {T : Nat → Int × Int} (h : ∀ i, i < n → 0 < (tm T i).2) : keptAll n f T = true ↔ Under n (tmE T) (mE n f) := by
  rw [keptAll_iff]
  exact ⟨fun g i j hi hj => (keptB_iff (h i hi) (h j hj)).1 (g i j hi hj), fun g i j hi hj => (keptB_iff (h i hi) (h j hj)).2 (g i j hi hj)⟩

theorem kept_none {n : Nat} {f : Nat → Int} {T : Nat → Int × Int} (h : ∀ i, i < n → 0 < (tm T i).2) (hn : n ≤ 4) (hb : ∀ i j, i < n → j < n → bd 288230376151711744 (f (i * n + j))) (hc : closeI n f = none) : keptAll n f T = false := by
  cases hk : keptAll n f T
  · rfl
  · obtain ⟨c, h1, _⟩ := closeE_greatest (tmE_closed h) ((kept_under h).1 hk)
    rw [close_none hn hb hc] at h1; cases h1
theorem kept_same {n : Nat} {f c : Nat → Int} {T : Nat → Int × Int} (h : ∀ i, i < n → 0 < (tm T i).2) (K : ClosedI n f c) : keptAll n f T = keptAll n c T := by
  rw [Bool.eq_iff_iff, kept_under h, kept_under h]
  constructor
  · intro hu
    obtain ⟨e, he, hce⟩ := K.ex
    obtain ⟨c', h1, h2⟩ := closeE_greatest (tmE_closed h) hu
    rw [he] at h1; cases h1
    intro i j hi hj
    show ele _ (eb (c (i * n + j)))
    rw [hce i j hi hj]; exact h2 i j hi hj
  · exact fun hu => under_trans hu K.closed.2
#print axioms kept_none
#print axioms kept_same
end Go.Proofs.Ytlcbpckinjkfeaa
