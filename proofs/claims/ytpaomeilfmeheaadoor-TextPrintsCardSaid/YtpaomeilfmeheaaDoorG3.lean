/- Plain laws: the time that is picked keeps all bounds. No condition. -/
import Derived.Test.YtpaomeilfmeheaaDoorG2
namespace Go.Proofs.YtpaomeilfmeheaaDoor
set_option linter.unusedSimpArgs false
set_option linter.unusedVariables false
open Go Go.RowKit

/-- An end, in eighths: where, and whether it is strict. -/
abbrev EndE := Option (Int × Bool)
def lowE (x : EndE) (b t : Int) : EndE :=
  if b = noneB then x else match x with
    | none => some (t - 8 * (b / 2), bstr b)
    | some (y, st) => if y < t - 8 * (b / 2) then some (t - 8 * (b / 2), bstr b) else if t - 8 * (b / 2) = y then some (y, st || bstr b) else some (y, st)
def lowF (g t : Nat → Int) : Nat → EndE
  | 0 => none
  | k + 1 => lowE (lowF g t k) (g k) (t k)
/-- The time between two ends: the upper one's sign is turned. -/
def pickE : EndE → EndE → Int
  | some (y, false), _ => y
  | _, some (z, false) => -z
  | some (y, true), some (z, true) => (y + -z) / 2
  | some (y, true), none => y + 8
  | none, some (z, true) => -z - 8
  | none, none => 0

theorem low_none {g t : Nat → Int} : ∀ K, lowF g t K = none → ∀ k, k < K → g k = noneB
  | 0, _, k, hk => by omega
  | K + 1, h, k, hk => by
    unfold lowF lowE at h
    by_cases hb : g K = noneB
    · rw [if_pos hb] at h
      rcases Nat.lt_succ_iff_lt_or_eq.1 hk with h1 | h1
      · exact low_none K h k h1
      · rw [h1]; exact hb
    · rw [if_neg hb] at h
      exfalso
      split at h
      · cases h
      · split at h
        · cases h
        · split at h <;> cases h
theorem low_some {g t : Nat → Int} : ∀ K y st, lowF g t K = some (y, st) →
    (∀ k, k < K → g k ≠ noneB → t k - 8 * (g k / 2) ≤ y ∧ (t k - 8 * (g k / 2) = y → g k % 2 = 0 → st = true)) ∧
    (∃ k, k < K ∧ g k ≠ noneB ∧ y = t k - 8 * (g k / 2) ∧ (st = true → g k % 2 = 0))
  | 0, y, st, h => by cases h
  | K + 1, y, st, h => by
    unfold lowF lowE at h
    by_cases hb : g K = noneB
    · rw [if_pos hb] at h
      obtain ⟨h1, k, hk, h2⟩ := low_some K y st h
      refine ⟨fun k hk hg => ?_, k, by omega, h2⟩
      rcases Nat.lt_succ_iff_lt_or_eq.1 hk with h3 | h3
      · exact h1 k h3 hg
      · exact absurd (h3 ▸ hb) hg
    · rw [if_neg hb] at h
      split at h
      · rename_i hx
        cases h
        refine ⟨fun k hk hg => ?_, K, by omega, hb, rfl, fun h => by simpa [bstr] using h⟩
        rcases Nat.lt_succ_iff_lt_or_eq.1 hk with h3 | h3
        · exact absurd (low_none K hx k h3) hg
        · rw [h3]; exact ⟨Int.le_refl _, fun _ h => by simp [bstr, h]⟩
      · rename_i y' st' hx
        obtain ⟨h1, k0, hk0, h2, h2', h2''⟩ := low_some K y' st' hx
        split at h
        · rename_i hlt
          cases h
          refine ⟨fun k hk hg => ?_, K, by omega, hb, rfl, fun h => by simpa [bstr] using h⟩
          rcases Nat.lt_succ_iff_lt_or_eq.1 hk with h3 | h3
          · have := (h1 k h3 hg).1; exact ⟨by omega, fun h => by omega⟩
          · rw [h3]; exact ⟨Int.le_refl _, fun _ h => by simp [bstr, h]⟩
        · rename_i hlt
          split at h
          · rename_i he
            cases h
            refine ⟨fun k hk hg => ?_, ?_⟩
            · rcases Nat.lt_succ_iff_lt_or_eq.1 hk with h3 | h3
              · exact ⟨(h1 k h3 hg).1, fun h g => by rw [(h1 k h3 hg).2 h g]; rfl⟩
              · rw [h3]; exact ⟨by omega, fun _ h => by simp [bstr, h]⟩
            · cases st' with
              | true => exact ⟨k0, by omega, h2, h2', fun _ => h2'' rfl⟩
              | false => exact ⟨K, by omega, hb, by omega, fun h => by simpa [bstr] using h⟩
          · cases h
            refine ⟨fun k hk hg => ?_, k0, by omega, h2, h2', h2''⟩
            rcases Nat.lt_succ_iff_lt_or_eq.1 hk with h3 | h3
            · exact h1 k h3 hg
            · rw [h3]; exact ⟨by omega, fun h => by omega⟩

/-- What lies between two ends. -/
structure Between (L H : EndE) (t : Int) : Prop where
  lo : ∀ y st, L = some (y, st) → y ≤ t ∧ (st = true → y < t)
  hi : ∀ z st, H = some (z, st) → t ≤ -z ∧ (st = true → t < -z)
theorem pick_between {L H : EndE} (h : ∀ y st z st', L = some (y, st) → H = some (z, st') → y ≤ -z ∧ (st = true ∨ st' = true → y < -z) ∧ (y + -z) % 2 = 0) : Between L H (pickE L H) := by
  rcases L with _ | ⟨y, _ | _⟩ <;> rcases H with _ | ⟨z, _ | _⟩
  all_goals (constructor <;> intro a s e <;> cases e <;> simp only [pickE])
  all_goals first
    | (simp; done)
    | (simp; omega)
    | (have := h _ _ _ _ rfl rfl; simp at this ⊢; omega)

theorem tri_int {n : Nat} {f c : Nat → Int} (K : ClosedI n f c) {i j k : Nat} (hi : i < n) (hj : j < n) (hk : k < n) (h1 : c (i * n + k) ≠ noneB) (h2 : c (k * n + j) ≠ noneB) :
    c (i * n + j) ≠ noneB ∧ c (i * n + j) / 2 ≤ c (i * n + k) / 2 + c (k * n + j) / 2 ∧ (c (i * n + j) / 2 = c (i * n + k) / 2 + c (k * n + j) / 2 → c (i * n + k) % 2 = 0 ∨ c (k * n + j) % 2 = 0 → c (i * n + j) % 2 = 0) := by
  have h := K.closed.1.2 i j k hi hj hk
  unfold mE at h
  rw [eb_some h1, eb_some h2] at h
  by_cases h3 : c (i * n + j) = noneB
  · rw [h3, eb_none] at h; exact h.elim
  · rw [eb_some h3] at h
    simp only [eadd, ele] at h
    refine ⟨h3, ?_, fun e s => ?_⟩
    · split at h <;> omega
    · rw [if_pos s] at h; omega

/-- A time more, beside times that keep all bounds of theirs. -/
theorem pick_keeps {n m : Nat} {f c t : Nat → Int} (K : ClosedI n f c) (hm : m < n)
    (ht : ∀ k l, k < m → l < m → keepE (t k - t l) (c (k * n + l))) (he : ∀ k, k < m → t k % 2 = 0) {L H : EndE}
    (hL : L = lowF (fun k => c (k * n + m)) t m) (hH : H = lowF (fun k => c (m * n + k)) (fun k => -(t k)) m) :
    ∀ k, k < m → keepE (t k - pickE L H) (c (k * n + m)) ∧ keepE (pickE L H - t k) (c (m * n + k)) := by
  have hb : Between L H (pickE L H) := pick_between fun y st z st' e1 e2 => by
    rw [hL] at e1
    rw [hH] at e2
    obtain ⟨_, k, hk, a1, a2, a3⟩ := low_some m y st e1
    obtain ⟨_, l, hl, b1, b2, b3⟩ := low_some m z st' e2
    (try simp only at a1 a2 a3 b1 b2 b3)
    obtain ⟨c1, c2, c3⟩ := tri_int K (show k < n by omega) (show l < n by omega) hm a1 b1
    have hkl := ht k l hk hl
    have p1 := he k hk
    have p2 := he l hl
    rcases hkl with h | h | ⟨h, h'⟩
    · exact absurd h c1
    · refine ⟨by omega, fun hs => by omega, by omega⟩
    · refine ⟨by omega, fun hs => ?_, by omega⟩
      have : c (k * n + m) % 2 = 0 ∨ c (m * n + l) % 2 = 0 := hs.imp a3 b3
      refine Classical.byContradiction fun hno => h' (c3 (by omega) this)
  intro k hk
  constructor
  · by_cases hn : c (k * n + m) = noneB
    · exact .inl hn
    · right
      cases e : L with
      | none => rw [hL] at e; exact absurd (low_none m e k hk) hn
      | some v =>
        obtain ⟨y, st⟩ := v
        obtain ⟨x1, x2⟩ := hb.lo y st e
        rw [hL] at e
        obtain ⟨h1, h2⟩ := (low_some m y st e).1 k hk hn
        (try simp only at h1 h2)
        rw [← hL] at e
        rw [e] at x1 x2
        by_cases hs : c (k * n + m) % 2 = 0
        · left
          by_cases he2 : t k - 8 * (c (k * n + m) / 2) = y
          · have := x2 (h2 he2 hs); omega
          · omega
        · omega
  · by_cases hn : c (m * n + k) = noneB
    · exact .inl hn
    · right
      cases e : H with
      | none => rw [hH] at e; exact absurd (low_none m e k hk) hn
      | some v =>
        obtain ⟨z, st⟩ := v
        obtain ⟨x1, x2⟩ := hb.hi z st e
        rw [hH] at e
        obtain ⟨h1, h2⟩ := (low_some m z st e).1 k hk hn
        (try simp only at h1 h2)
        rw [← hH] at e
        rw [e] at x1 x2
        by_cases hs : c (m * n + k) % 2 = 0
        · left
          by_cases he2 : -(t k) - 8 * (c (m * n + k) / 2) = z
          · have := x2 (h2 he2 hs); omega
          · omega
        · omega
#print axioms pick_keeps
end Go.Proofs.YtpaomeilfmeheaaDoor
