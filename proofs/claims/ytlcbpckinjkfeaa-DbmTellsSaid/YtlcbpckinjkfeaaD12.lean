/- Plain laws: the rounds of the code are those of bounds that add up without end, as no sum comes beyond what may be. No condition. -/
import Derived.Test.YtlcbpckinjkfeaaD9
import Derived.Test.YtlcbpckinjkfeaaD1
namespace Go.Proofs.Ytlcbpckinjkfeaa
set_option linter.unusedSimpArgs false
set_option linter.unusedVariables false
open Go Go.RowKit

/-! ### Sums along ways -/
def wsum (m : Nat → Nat → EB) : Nat → List Nat → Nat → EB
  | i, [], j => m i j
  | i, v :: l, j => eadd (m i v) (wsum m v l j)
theorem wsum_append (m : Nat → Nat → EB) (v : Nat) (q : List Nat) (j : Nat) : ∀ (p : List Nat) (i : Nat), wsum m i (p ++ v :: q) j = eadd (wsum m i p v) (wsum m v q j)
  | [], i => rfl
  | u :: p, i => by
    show eadd (m i u) (wsum m u (p ++ v :: q) j) = eadd (eadd (m i u) (wsum m u p v)) (wsum m v q j)
    rw [wsum_append m v q j p u, eadd_assoc]
theorem le_wsum {n k : Nat} {m a : Nat → Nat → EB} (h : RoundInv n k m a) : ∀ (l : List Nat) (i j : Nat), i < n → j < n → (∀ v ∈ l, v < k ∧ v < n) → ele (a i j) (wsum m i l j)
  | [], i, j, hi, hj, _ => h.le i j hi hj
  | v :: l, i, j, hi, hj, hl => by
    obtain ⟨hv1, hv2⟩ := hl v (List.mem_cons_self ..)
    exact ele_trans (h.tri v i j hv1 hv2 hi hj) (eadd_mono (h.le i v hi hv2) (le_wsum h l v j hv2 hj (fun u hu => hl u (List.mem_cons_of_mem _ hu))))

theorem nodup_len : ∀ (k : Nat) (l : List Nat), l.Nodup → (∀ v ∈ l, v < k) → l.length ≤ k
  | 0, l, _, h => by
    cases l with
    | nil => simp
    | cons v l => exact absurd (h v (List.mem_cons_self ..)) (by omega)
  | k + 1, l, hn, h => by
    have h1 : (l.erase k).length ≤ k := nodup_len k (l.erase k) (hn.erase k) (fun v hv => by
      have := (hn.mem_erase_iff).1 hv
      have := h v this.2
      omega)
    have : l.length ≤ (l.erase k).length + 1 := by
      rw [List.length_erase]
      split <;> omega
    omega

/-- What a bound is behind some rounds: none, 0 of a clock to itself, or the sum along a way that comes to no clock twice. -/
def SimpleW (m : Nat → Nat → EB) (k i j : Nat) (x : EB) : Prop := x = none ∨ (i = j ∧ x = some 1) ∨ (i ≠ j ∧ ∃ l : List Nat, l.Nodup ∧ (∀ v ∈ l, v < k ∧ v ≠ i ∧ v ≠ j) ∧ x = wsum m i l j)

theorem rounds_simple {n : Nat} {m : Nat → Nat → EB} (h : ∀ i, i < n → m i i = some 1) : ∀ k a, k ≤ n → roundsR n m k = some a → ∀ i j, i < n → j < n → SimpleW m k i j (a i j)
  | 0, a, _, e => by
    intro i j hi hj
    simp only [roundsR, Option.some.injEq] at e
    subst e
    by_cases hij : i = j
    · subst hij; exact .inr (.inl ⟨rfl, h i hi⟩)
    · exact .inr (.inr ⟨hij, [], List.nodup_nil, (fun v hv => by cases hv), rfl⟩)
  | k + 1, a, hk, e => by
    unfold roundsR at e
    split at e
    · cases e
    rename_i b hb
    split at e
    case isFalse => cases e
    rename_i hd
    simp only [Option.some.injEq] at e
    subst e
    intro i j hi hj
    have hkn : k < n := by omega
    have hs := rounds_simple h k b (by omega) hb
    have ri := rounds_inv h k b (by omega) hb
    have cyc : ∀ v, v < n → ele (some 1) (eadd (b v k) (b k v)) := fun v hv => ele_trans (hd v hv) (viaR_le2 b k v v)
    rcases emin_cases (b i j) (eadd (b i k) (b k j)) with e | ⟨e, hne⟩
    · rw [show viaR b k i j = b i j from e]
      rcases hs i j hi hj with h1 | h1 | ⟨h1, l, h2, h3, h4⟩
      · exact .inl h1
      · exact .inr (.inl h1)
      · exact .inr (.inr ⟨h1, l, h2, fun v hv => by have := h3 v hv; omega, h4⟩)
    · rw [show viaR b k i j = _ from e]
      have e' : viaR b k i j = eadd (b i k) (b k j) := e
      have hij : i ≠ j := by
        intro hij; subst hij
        apply hne
        rw [ri.diag i hi]
        exact cyc i hi
      have hik : i ≠ k := by
        intro hik; subst hik
        apply hne
        rw [ri.diag i hi, one_eadd]; exact ele_refl _
      have hjk : j ≠ k := by
        intro hjk; subst hjk
        apply hne
        rw [ri.diag j hj, eadd_one]; exact ele_refl _
      rcases hs i k hi hkn with h1 | ⟨h1, _⟩ | ⟨_, l1, h2, h3, h4⟩
      · exact absurd (by rw [h1, none_eadd]; exact ele_none _) hne
      · exact absurd h1 hik
      rcases hs k j hkn hj with g1 | ⟨g1, _⟩ | ⟨_, l2, g2, g3, g4⟩
      · exact absurd (by rw [g1, eadd_none]; exact ele_none _) hne
      · exact absurd g1.symm hjk
      have A1 : ∀ v ∈ l1, v < k ∧ v < n := fun v hv => by have := h3 v hv; omega
      have A2 : ∀ v ∈ l2, v < k ∧ v < n := fun v hv => by have := g3 v hv; omega
      refine .inr (.inr ⟨hij, l1 ++ k :: l2, ?_, ?_, by rw [wsum_append, ← h4, ← g4]⟩)
      · rw [List.nodup_append]
        refine ⟨h2, List.nodup_cons.2 ⟨fun hm => by have := A2 k hm; omega, g2⟩, fun x hx y hy hxy => ?_⟩
        subst hxy
        rcases List.mem_cons.1 hy with hy | hy
        · subst hy; have := A1 x hx; omega
        · apply hne
          obtain ⟨p, q, hp⟩ := List.append_of_mem hx
          obtain ⟨r, s, hr⟩ := List.append_of_mem hy
          have vx := A1 x hx
          have P := le_wsum ri p i x hi vx.2 (fun v hv => A1 v (by rw [hp]; simp [hv]))
          have Q := le_wsum ri q x k vx.2 hkn (fun v hv => A1 v (by rw [hp]; simp [hv]))
          have R := le_wsum ri r k x hkn vx.2 (fun v hv => A2 v (by rw [hr]; simp [hv]))
          have S := le_wsum ri s x j vx.2 hj (fun v hv => A2 v (by rw [hr]; simp [hv]))
          rw [h4, g4, hp, hr, wsum_append, wsum_append, eadd4]
          refine ele_trans (ri.tri x i j vx.1 vx.2 hi hj) (eadd_mono P ?_)
          exact ele_trans (ele_one_add (cyc x vx.2)) (eadd_mono (eadd_mono Q R) S)
      · intro v hv
        rcases List.mem_append.1 hv with hv | hv
        · have := h3 v hv
          refine ⟨by omega, this.2.1, fun hvj => ?_⟩
          subst hvj
          apply hne
          obtain ⟨p, q, hp⟩ := List.append_of_mem hv
          have P := le_wsum ri p i v hi hj (fun u hu => A1 u (by rw [hp]; simp [hu]))
          have Q := le_wsum ri q v k hj hkn (fun u hu => A1 u (by rw [hp]; simp [hu]))
          rw [h4, hp, wsum_append, eadd_assoc]
          refine ele_trans P (ele_add_one ?_)
          exact ele_trans (cyc v hj) (eadd_mono_l _ Q)
        · rcases List.mem_cons.1 hv with hv | hv
          · subst hv; exact ⟨by omega, Ne.symm hik, Ne.symm hjk⟩
          · have := g3 v hv
            refine ⟨by omega, fun hvi => ?_, this.2.2⟩
            subst hvi
            apply hne
            obtain ⟨r, s, hr⟩ := List.append_of_mem hv
            have R := le_wsum ri r k v hkn hi (fun u hu => A2 u (by rw [hr]; simp [hu]))
            have S := le_wsum ri s v j hi hj (fun u hu => A2 u (by rw [hr]; simp [hu]))
            rw [g4, hr, wsum_append, ← eadd_assoc]
            refine ele_trans S (ele_one_add ?_)
            exact ele_trans (cyc v hi) (eadd_mono_r _ R)

/-! ### How great -/
def ebd (K : Int) : EB → Prop
  | none => True
  | some x => -K ≤ x / 2 ∧ x / 2 ≤ K
theorem ebd_add {K L : Int} {a b : EB} (h : ebd K a) (g : ebd L b) : ebd (K + L) (eadd a b) := by
  cases a <;> cases b <;> simp_all [ebd, eadd]
  split <;> omega
theorem ebd_mono {K L : Int} {a : EB} (h : ebd K a) (hl : K ≤ L) : ebd L a := by
  cases a <;> simp_all [ebd]; omega
theorem wsum_bd {n : Nat} {m : Nat → Nat → EB} {C : Int} (h : ∀ i j, i < n → j < n → ebd C (m i j)) : ∀ (l : List Nat) (i j : Nat), i < n → j < n → (∀ v ∈ l, v < n) → ebd (((l.length : Int) + 1) * C) (wsum m i l j)
  | [], i, j, hi, hj, _ => by simpa [wsum] using h i j hi hj
  | v :: l, i, j, hi, hj, hl => by
    have hv := hl v (List.mem_cons_self ..)
    have := ebd_add (h i v hi hv) (wsum_bd h l v j hv hj (fun u hu => hl u (List.mem_cons_of_mem _ hu)))
    have e : C + ((l.length : Int) + 1) * C = (((v :: l).length : Int) + 1) * C := by
      simp only [List.length_cons, Int.natCast_add, Int.natCast_one, Int.add_mul, Int.one_mul]
      omega
    rw [e] at this
    exact this
theorem rounds_bd {n : Nat} {m : Nat → Nat → EB} {C : Int} (hC : 0 ≤ C) (h : ∀ i, i < n → m i i = some 1) (hb : ∀ i j, i < n → j < n → ebd C (m i j)) {k : Nat} {a : Nat → Nat → EB} (hk : k ≤ n) (e : roundsR n m k = some a) : ∀ i j, i < n → j < n → ebd (((k : Int) + 1) * C) (a i j) := by
  intro i j hi hj
  have hkC : 0 ≤ ((k : Int) + 1) * C := Int.mul_nonneg (by omega) hC
  rcases rounds_simple h k a hk e i j hi hj with h1 | ⟨_, h1⟩ | ⟨_, l, h2, h3, h4⟩
  · rw [h1]; trivial
  · rw [h1]; simp [ebd]; omega
  · rw [h4]
    refine ebd_mono (wsum_bd hb l i j hi hj (fun v hv => by have := h3 v hv; omega)) ?_
    have := nodup_len k l h2 (fun v hv => (h3 v hv).1)
    exact Int.mul_le_mul_of_nonneg_right (by omega) hC
end Go.Proofs.Ytlcbpckinjkfeaa
