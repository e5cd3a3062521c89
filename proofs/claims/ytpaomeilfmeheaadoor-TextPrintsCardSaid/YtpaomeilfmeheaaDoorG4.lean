/- Plain laws: the times that are picked of a closed matrix are fractions that may be, and keep it. No condition. -/
import Derived.Test.YtpaomeilfmeheaaDoorG3
namespace Go.Proofs.YtpaomeilfmeheaaDoor
set_option linter.unusedSimpArgs false
set_option linter.unusedVariables false
open Go Go.RowKit

/-- A bound of a closed one goes by a third clock, or is that of at most two bounds. -/
theorem way3 {n : Nat} {f c : Nat → Int} (hn : n ≤ 4) (hb : ∀ i j, i < n → j < n → bd 288230376151711744 (f (i * n + j))) (K : ClosedI n f c) {i j m : Nat} (hi : i < n) (hj : j < n) (hm : m < n) (hij : i ≠ j) (him : i ≠ m) (hjm : j ≠ m) :
    c (i * n + j) = noneB ∨ (c (i * n + m) ≠ noneB ∧ c (m * n + j) ≠ noneB ∧ c (i * n + j) / 2 = c (i * n + m) / 2 + c (m * n + j) / 2) ∨ (-576460752303423488 ≤ c (i * n + j) / 2 ∧ c (i * n + j) / 2 ≤ 576460752303423488) := by
  obtain ⟨e, he, hc⟩ := K.ex
  have he2 := he
  unfold closeE at he2
  split at he2
  · have hd := fun i (_ : i < n) => diag1_diag (mE n f) i
    have inv := rounds_inv hd n e (Nat.le_refl _) he2
    have cl := closeE_closed he
    have hD : ∀ i j, i < n → j < n → ebd 288230376151711744 (diag1 (mE n f) i j) := fun i j hi hj => by
      unfold diag1
      by_cases e : i = j
      · rw [if_pos e]; simp [ebd]
      · rw [if_neg e]; exact bd_iff.1 (hb i j hi hj)
    rcases rounds_simple hd n e (Nat.le_refl _) he2 i j hi hj with h | ⟨h, _⟩ | ⟨_, l, h1, h2, h3⟩
    · left
      have := hc i j hi hj
      rw [h] at this
      refine Classical.byContradiction fun hno => ?_
      rw [eb_some hno] at this; cases this
    · exact absurd h hij
    · by_cases hml : m ∈ l
      · obtain ⟨p, q, hpq⟩ := List.append_of_mem hml
        rw [hpq, wsum_append] at h3
        have hp := le_wsum inv p i m hi hm (fun v hv => by have := (h2 v (by rw [hpq]; simp [hv])).1; exact ⟨this, this⟩)
        have hq := le_wsum inv q m j hm hj (fun v hv => by have := (h2 v (by rw [hpq]; simp [hv])).1; exact ⟨this, this⟩)
        have h4 : ele (eadd (e i m) (e m j)) (e i j) := by rw [h3]; exact eadd_mono hp hq
        have h5 := ele_antisymm (cl.1.2 i j m hi hj hm) h4
        rw [← hc i j hi hj, ← hc i m hi hm, ← hc m j hm hj] at h5
        by_cases n1 : c (i * n + j) = noneB
        · exact .inl n1
        · right; left
          rw [eb_some n1] at h5
          by_cases n2 : c (i * n + m) = noneB
          · rw [n2, eb_none, none_eadd] at h5; cases h5
          · by_cases n3 : c (m * n + j) = noneB
            · rw [n3, eb_none, eadd_none] at h5; cases h5
            · rw [eb_some n2, eb_some n3] at h5
              simp only [eadd, Option.some.injEq] at h5
              refine ⟨n2, n3, ?_⟩
              split at h5 <;> omega
      · have hlen : (i :: j :: m :: l).length ≤ n := nodup_len n _ (by
          refine List.nodup_cons.2 ⟨?_, List.nodup_cons.2 ⟨?_, List.nodup_cons.2 ⟨hml, h1⟩⟩⟩
          · intro h
            simp only [List.mem_cons] at h
            rcases h with h | h | h
            · exact hij h
            · exact him h
            · exact (h2 i h).2.1 rfl
          · intro h
            simp only [List.mem_cons] at h
            rcases h with h | h
            · exact hjm h
            · exact (h2 j h).2.2 rfl) (fun v hv => by
          simp only [List.mem_cons] at hv
          rcases hv with rfl | rfl | rfl | h
          · exact hi
          · exact hj
          · exact hm
          · exact (h2 v h).1)
        simp only [List.length_cons] at hlen
        have hw := wsum_bd hD l i j hi hj (fun v hv => (h2 v hv).1)
        have hw2 : ebd 576460752303423488 (e i j) := by
          rw [h3]; exact ebd_mono hw (by have : (l.length : Int) ≤ 1 := by omega
                                         omega)
        rw [← hc i j hi hj] at hw2
        rcases bd_iff.2 hw2 with h | h
        · exact .inl h
        · right; right; exact h
  · cases he2

/-- How far a second time may go, upwards. -/
theorem up2 {N B c01 c10 c02 c20 c12 c21 t1 t2 : Int} (hB : 0 < B)
    (b01 : Hid (c01 ≠ N → -(3 * B) ≤ c01 / 2 ∧ c01 / 2 ≤ 3 * B)) (b02 : Hid (c02 ≠ N → -(3 * B) ≤ c02 / 2 ∧ c02 / 2 ≤ 3 * B))
    (b20 : Hid (c20 ≠ N → -(3 * B) ≤ c20 / 2 ∧ c20 / 2 ≤ 3 * B)) (b12 : Hid (c12 ≠ N → -(3 * B) ≤ c12 / 2 ∧ c12 / 2 ≤ 3 * B)) (b21 : Hid (c21 ≠ N → -(3 * B) ≤ c21 / 2 ∧ c21 / 2 ≤ 3 * B))
    (u10 : Hid (c10 ≠ N → t1 ≤ 8 * (c10 / 2))) (u20 : Hid (c20 ≠ N → t2 ≤ 8 * (c20 / 2))) (u21 : Hid (c21 ≠ N → t2 ≤ t1 + 8 * (c21 / 2)))
    (P1 : Hid ((c01 ≠ N ∧ t1 = -(8 * (c01 / 2))) ∨ c10 ≠ N ∨ (c01 ≠ N ∧ t1 = -(8 * (c01 / 2)) + 8) ∨ t1 = 0))
    (P2 : Hid ((c02 ≠ N ∧ t2 ≤ -(8 * (c02 / 2)) + 8) ∨ (c12 ≠ N ∧ t2 ≤ t1 - 8 * (c12 / 2) + 8) ∨ c20 ≠ N ∨ c21 ≠ N ∨ t2 = 0))
    (W12 : Hid (c12 = N ∨ (c10 ≠ N ∧ c02 ≠ N ∧ c12 / 2 = c10 / 2 + c02 / 2) ∨ (-(2 * B) ≤ c12 / 2 ∧ c12 / 2 ≤ 2 * B)))
    (W10 : Hid (c10 = N ∨ (c12 ≠ N ∧ c20 ≠ N ∧ c10 / 2 = c12 / 2 + c20 / 2) ∨ (-(2 * B) ≤ c10 / 2 ∧ c10 / 2 ≤ 2 * B)))
    (W01 : Hid (c01 = N ∨ (c02 ≠ N ∧ c21 ≠ N ∧ c01 / 2 = c02 / 2 + c21 / 2) ∨ (-(2 * B) ≤ c01 / 2 ∧ c01 / 2 ≤ 2 * B)))
    (W21 : Hid (c21 = N ∨ (c20 ≠ N ∧ c01 ≠ N ∧ c21 / 2 = c20 / 2 + c01 / 2) ∨ (-(2 * B) ≤ c21 / 2 ∧ c21 / 2 ≤ 2 * B)))
    (T20 : Hid (c21 ≠ N → c10 ≠ N → c20 ≠ N)) (T02 : Hid (c01 ≠ N → c12 ≠ N → c02 ≠ N ∧ c02 / 2 ≤ c01 / 2 + c12 / 2)) : t2 ≤ 32 * B + 16 := by
  by_cases h20 : c20 = N
  · rcases P2.out with ⟨h, e⟩ | ⟨h, e⟩ | h | h | e
    · have := b02.out h; omega
    · rcases W12.out with h' | ⟨h1, h2, h3⟩ | h3
      · exact absurd h' h
      · have := u10.out h1; have := b02.out h2; omega
      · rcases P1.out with ⟨p, q⟩ | p | ⟨p, q⟩ | q
        · obtain ⟨x, y⟩ := T02.out p h; have := b02.out x; omega
        · rcases W10.out with h' | ⟨_, h', _⟩ | h4
          · exact absurd h' p
          · exact absurd h20 h'
          · have := u10.out p; omega
        · obtain ⟨x, y⟩ := T02.out p h; have := b02.out x; omega
        · omega
    · exact absurd h20 h
    · have hu := u21.out h
      by_cases h10 : c10 = N
      · rcases P1.out with ⟨p, q⟩ | p | ⟨p, q⟩ | q
        · rcases W01.out with h' | ⟨h1, h2, h3⟩ | h3
          · exact absurd h' p
          · have := b02.out h1; omega
          · rcases W21.out with h' | ⟨h', _⟩ | h4
            · exact absurd h' h
            · exact absurd h20 h'
            · omega
        · exact absurd h10 p
        · rcases W01.out with h' | ⟨h1, h2, h3⟩ | h3
          · exact absurd h' p
          · have := b02.out h1; omega
          · rcases W21.out with h' | ⟨h', _⟩ | h4
            · exact absurd h' h
            · exact absurd h20 h'
            · omega
        · have := b21.out h; omega
      · exact absurd h20 (T20.out h h10)
    · omega
  · have := u20.out h20; have := b20.out h20; omega

theorem lowF_congr {g t u : Nat → Int} : ∀ {m : Nat}, (∀ k, k < m → t k = u k) → lowF g t m = lowF g u m
  | 0, _ => rfl
  | m + 1, h => by unfold lowF; rw [lowF_congr (fun k hk => h k (by omega)), h m (by omega)]
/-- The times that are picked, in eighths: of the first clocks. -/
def pickS (n : Nat) (c : Nat → Int) : Nat → Nat → Int
  | 0 => fun _ => 0
  | m + 1 => upd (pickS n c m) (m + 1) (pickE (lowF (fun k => c (k * n + (m + 1))) (pickS n c m) (m + 1)) (lowF (fun k => c ((m + 1) * n + k)) (fun k => -(pickS n c m k)) (m + 1)))
def pickT (n : Nat) (c : Nat → Int) (k : Nat) : Int := pickS n c k k
theorem pickS_eq (n : Nat) (c : Nat → Int) : ∀ m k, k ≤ m → pickS n c m k = pickT n c k
  | 0, k, hk => by rw [show k = 0 from by omega]; rfl
  | m + 1, k, hk => by
    rcases Nat.lt_or_eq_of_le hk with h | h
    · show upd _ _ _ k = _
      unfold upd
      rw [if_neg (by omega)]
      exact pickS_eq n c m k (by omega)
    · rw [h]; rfl
theorem pickT_zero (n : Nat) (c : Nat → Int) : pickT n c 0 = 0 := rfl
theorem pickT_succ (n : Nat) (c : Nat → Int) (m : Nat) : pickT n c (m + 1) = pickE (lowF (fun k => c (k * n + (m + 1))) (pickT n c) (m + 1)) (lowF (fun k => c ((m + 1) * n + k)) (fun k => -(pickT n c k)) (m + 1)) := by
  show upd _ _ _ (m + 1) = _
  unfold upd
  rw [if_pos rfl, lowF_congr (t := pickS n c m) (u := pickT n c) (fun k hk => pickS_eq n c m k (by omega)), lowF_congr (t := fun k => -(pickS n c m k)) (u := fun k => -(pickT n c k)) (fun k hk => by rw [pickS_eq n c m k (by omega)])]

/-- Which time is picked. -/
theorem pick_cases (g h t : Nat → Int) (m : Nat) (p : Int) (hp : p = pickE (lowF g t m) (lowF h (fun k => -(t k)) m)) :
    (∃ k, k < m ∧ g k ≠ noneB ∧ p = t k - 8 * (g k / 2)) ∨ (∃ k, k < m ∧ h k ≠ noneB ∧ p = t k + 8 * (h k / 2)) ∨
    (∃ k l, k < m ∧ l < m ∧ g k ≠ noneB ∧ h l ≠ noneB ∧ p = (t k - 8 * (g k / 2) + (t l + 8 * (h l / 2))) / 2) ∨
    ((∀ k, k < m → h k = noneB) ∧ ∃ k, k < m ∧ g k ≠ noneB ∧ p = t k - 8 * (g k / 2) + 8) ∨
    ((∀ k, k < m → g k = noneB) ∧ ∃ k, k < m ∧ h k ≠ noneB ∧ p = t k + 8 * (h k / 2) - 8) ∨
    ((∀ k, k < m → g k = noneB ∧ h k = noneB) ∧ p = 0) := by
  cases eL : lowF g t m with
  | none =>
    have gn := low_none m eL
    cases eH : lowF h (fun k => -(t k)) m with
    | none =>
      have hn := low_none m eH
      rw [eL, eH] at hp
      exact .inr (.inr (.inr (.inr (.inr ⟨fun k hk => ⟨gn k hk, hn k hk⟩, hp⟩))))
    | some v =>
      obtain ⟨z, st⟩ := v
      obtain ⟨_, k, hk, h1, h2, _⟩ := low_some m z st eH
      rw [eL, eH] at hp
      cases st with
      | false => exact .inr (.inl ⟨k, hk, h1, by simp only [pickE] at hp; omega⟩)
      | true => exact .inr (.inr (.inr (.inr (.inl ⟨gn, k, hk, h1, by simp only [pickE] at hp; omega⟩))))
  | some u =>
    obtain ⟨y, su⟩ := u
    obtain ⟨_, k, hk, k1, k2, _⟩ := low_some m y su eL
    cases su with
    | false =>
      rw [eL] at hp
      exact .inl ⟨k, hk, k1, by simp only [pickE] at hp; omega⟩
    | true =>
      cases eH : lowF h (fun k => -(t k)) m with
      | none =>
        rw [eL, eH] at hp
        exact .inr (.inr (.inr (.inl ⟨low_none m eH, k, hk, k1, by simp only [pickE] at hp; omega⟩)))
      | some v =>
        obtain ⟨z, st⟩ := v
        obtain ⟨_, l, hl, h1, h2, _⟩ := low_some m z st eH
        rw [eL, eH] at hp
        cases st with
        | false => exact .inr (.inl ⟨l, hl, h1, by simp only [pickE] at hp; omega⟩)
        | true => exact .inr (.inr (.inl ⟨k, l, hk, hl, k1, h1, by simp only [pickE] at hp; omega⟩))
#print axioms pick_cases
end Go.Proofs.YtpaomeilfmeheaaDoor
