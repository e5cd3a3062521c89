/- Plain laws: the code's rounds over numbers are the rounds over bounds that add up without end. No condition. -/
import Derived.Test.YtlcbpckinjkfeaaD12
namespace Go.Proofs.Ytlcbpckinjkfeaa
set_option linter.unusedSimpArgs false
set_option linter.unusedVariables false
open Go Go.RowKit

def eb (x : Int) : EB := if x = noneB then none else some x
def mE (n : Nat) (f : Nat → Int) : Nat → Nat → EB := fun i j => eb (f (i * n + j))
/-- A bound whose number is at most so great, or none. -/
def bd (K x : Int) : Prop := x = noneB ∨ (-K ≤ bnum x ∧ bnum x ≤ K)
theorem eb_none : eb noneB = none := if_pos rfl
theorem eb_some {x : Int} (h : x ≠ noneB) : eb x = some x := if_neg h
theorem eb_inj {x y : Int} (h : eb x = eb y) : x = y := by
  unfold eb at h
  split at h <;> split at h <;> simp_all
theorem bd_mono {K L x : Int} (h : bd K x) (hl : K ≤ L) : bd L x := h.imp id (fun h => ⟨by omega, by omega⟩)
theorem bd_iff {K x : Int} : bd K x ↔ ebd K (eb x) := by
  unfold bd
  by_cases h : x = noneB
  · subst h; simp [eb_none, ebd]
  · rw [eb_some h]; simp [h, ebd, bnum]
theorem bd_okB {K x : Int} (h : bd K x) (hK : K ≤ 2305843009213693952) : okB x = true := by
  rcases h with h | h
  · simp [okB, h]
  · simp [okB, okN]
    right; omega
theorem eb_one : eb 1 = some 1 := eb_some (by decide)

theorem addR_exact {K L a b : Int} (ha : bd K a) (hb : bd L b) (hK : 0 ≤ K) (hL : 0 ≤ L) (h : K + L ≤ 2305843009213693952) : eb (addR a b).1 = eadd (eb a) (eb b) ∧ (addR a b).2 = 0 ∧ bd (K + L) (addR a b).1 := by
  have oa := bd_okB ha (by omega)
  have ob := bd_okB hb (by omega)
  by_cases na : a = noneB
  · rw [addR_none oa ob (.inl na), na, eb_none, none_eadd]
    exact ⟨rfl, rfl, .inl rfl⟩
  · by_cases nb : b = noneB
    · rw [addR_none oa ob (.inr nb), nb, eb_none, eadd_none]
      exact ⟨rfl, rfl, .inl rfl⟩
    · have ha := ha.resolve_left na
      have hb := hb.resolve_left nb
      rw [addR_ok oa ob na nb]
      have hok : okN (bnum a + bnum b) = true := by simp [okN]; omega
      unfold madeR
      rw [if_pos hok]
      have hne : mkB (bnum a + bnum b) (bstr a || bstr b) ≠ noneB := by
        unfold mkB noneB
        split <;> omega
      refine ⟨?_, rfl, .inr ?_⟩
      · rw [eb_some hne, eb_some na, eb_some nb]
        simp only [eadd, mkB, bnum, bstr, Option.some.injEq]
        by_cases h1 : a % 2 = 0 <;> by_cases h2 : b % 2 = 0 <;> simp [h1, h2]
      · unfold mkB
        simp only [bnum] at *
        split <;> omega

theorem lt_iff_ele {K L a b : Int} (ha : bd K a) (hb : bd L b) (hK : K ≤ 2305843009213693952) (hL : L ≤ 2305843009213693952) : a < b ↔ ¬ ele (eb b) (eb a) := by
  by_cases na : a = noneB
  · subst na
    rw [eb_none]
    simp [ele_none]
    rcases hb with hb | hb
    · omega
    · unfold bnum noneB at *; omega
  · rw [eb_some na]
    have ha := ha.resolve_left na
    by_cases nb : b = noneB
    · subst nb
      rw [eb_none]
      simp [ele]
      unfold bnum noneB at *; omega
    · rw [eb_some nb]
      simp [ele]
theorem ele_one_iff {K a : Int} (ha : bd K a) (hK : 0 ≤ K) (hK2 : K ≤ 2305843009213693952) : 1 ≤ a ↔ ele (some 1) (eb a) := by
  have := lt_iff_ele ha (b := 1) (L := 0) (.inr ⟨by decide, by decide⟩) hK2 (by omega)
  rw [eb_one] at this
  constructor
  · intro h
    exact Classical.byContradiction fun hn => by have := this.2 hn; omega
  · intro h
    exact Classical.byContradiction fun hn => this.1 (by omega) h

theorem place_inj {n i j i' j' : Nat} (hj : j < n) (hj' : j' < n) (h : i * n + j = i' * n + j') : i = i' ∧ j = j' := by
  have hn : 0 < n := by omega
  have e1 : (i * n + j) / n = i := by rw [Nat.mul_comm, Nat.mul_add_div hn, Nat.div_eq_of_lt hj]; omega
  have e2 : (i' * n + j') / n = i' := by rw [Nat.mul_comm, Nat.mul_add_div hn, Nat.div_eq_of_lt hj']; omega
  rw [h, e2] at e1
  subst e1
  exact ⟨rfl, by omega⟩

/-- What the pairs so far have turned. -/
structure FoldInv (n k : Nat) (K : Int) (f : Nat → Int) (done : List (PairC n)) (g : Nat → Int) : Prop where
  bound : ∀ i j, i < n → j < n → bd (K + K) (g (i * n + j))
  yes : ∀ i j, i < n → j < n → (∃ x ∈ done, x.1 = (i, j)) → eb (g (i * n + j)) = viaR (mE n f) k i j
  no : ∀ i j, i < n → j < n → (¬ ∃ x ∈ done, x.1 = (i, j)) → g (i * n + j) = f (i * n + j)

theorem fold_inv {n k : Nat} {K : Int} {f : Nat → Int} (hk : k < n) (hK : 0 ≤ K) (hK2 : K + K ≤ 2305843009213693952) (h1 : f (k * n + k) = 1) (hb : ∀ i j, i < n → j < n → bd K (f (i * n + j))) :
    ∀ (l done : List (PairC n)) (g : Nat → Int), FoldInv n k K f done g → FoldInv n k K f (done ++ l) (l.foldl (stepP n k) g)
  | [], done, g, h => by simpa using h
  | ⟨⟨i, j⟩, hi, hj⟩ :: l, done, g, h => by
    have hi : i < n := hi
    have hj : j < n := hj
    have hkk : mE n f k k = some 1 := by simp [mE, h1, eb_one]
    have hrow : ∀ a b, a < n → b < n → a = k ∨ b = k → g (a * n + b) = f (a * n + b) := by
      intro a b ha hb' hab
      by_cases hd : ∃ x ∈ done, x.1 = (a, b)
      · have e := h.yes a b ha hb' hd
        have e2 : viaR (mE n f) k a b = mE n f a b := by
          rcases hab with rfl | rfl
          · exact viaR_row hkk b
          · exact viaR_col hkk a
        rw [e2] at e
        exact eb_inj e
      · exact h.no a b ha hb' hd
    have e1 := hrow i k hi hk (.inr rfl)
    have e2 := hrow k j hk hj (.inl rfl)
    obtain ⟨x1, x2, x3⟩ := addR_exact (hb i k hi hk) (hb k j hk hj) hK hK hK2
    have hs : stepP n k g ⟨(i, j), hi, hj⟩ = if (addR (f (i * n + k)) (f (k * n + j))).1 < g (i * n + j) then upd g (i * n + j) (addR (f (i * n + k)) (f (k * n + j))).1 else g := by
      show (if (addR (g (i * n + k)) (g (k * n + j))).1 < g (i * n + j) then _ else _) = _
      rw [e1, e2]
    have key : FoldInv n k K f (done ++ [⟨(i, j), hi, hj⟩]) (stepP n k g ⟨(i, j), hi, hj⟩) := by
      rw [hs]
      have cur : eb (g (i * n + j)) = mE n f i j ∨ eb (g (i * n + j)) = viaR (mE n f) k i j := by
        by_cases hd : ∃ x ∈ done, x.1 = (i, j)
        · exact .inr (h.yes i j hi hj hd)
        · exact .inl (by rw [h.no i j hi hj hd]; rfl)
      have newv : eb (if (addR (f (i * n + k)) (f (k * n + j))).1 < g (i * n + j) then (addR (f (i * n + k)) (f (k * n + j))).1 else g (i * n + j)) = viaR (mE n f) k i j := by
        have hl := lt_iff_ele x3 (h.bound i j hi hj) hK2 hK2
        have se : eb (addR (f (i * n + k)) (f (k * n + j))).1 = eadd (mE n f i k) (mE n f k j) := x1
        split
        · rename_i hlt
          have hn := hl.1 hlt
          rw [se] at hn ⊢
          rcases cur with c | c
          · rw [c] at hn
            unfold viaR emin
            rw [if_neg hn]
          · rw [c] at hn
            exact absurd (viaR_le2 _ _ _ _) hn
        · rename_i hlt
          have hle : ele (eb (g (i * n + j))) (eb (addR (f (i * n + k)) (f (k * n + j))).1) := Classical.byContradiction fun hn => hlt (hl.2 hn)
          rw [se] at hle
          rcases cur with c | c
          · rw [c] at hle ⊢
            unfold viaR emin
            rw [if_pos hle]
          · exact c
      have pt : ∀ a b, a < n → b < n → (if (addR (f (i * n + k)) (f (k * n + j))).1 < g (i * n + j) then upd g (i * n + j) (addR (f (i * n + k)) (f (k * n + j))).1 else g) (a * n + b) =
          if a = i ∧ b = j then (if (addR (f (i * n + k)) (f (k * n + j))).1 < g (i * n + j) then (addR (f (i * n + k)) (f (k * n + j))).1 else g (i * n + j)) else g (a * n + b) := by
        intro a b ha hb'
        by_cases hab : a = i ∧ b = j
        · rw [if_pos hab]
          obtain ⟨rfl, rfl⟩ := hab
          split
          · simp [upd]
          · rfl
        · rw [if_neg hab]
          split
          · unfold upd
            rw [if_neg (fun e => hab (place_inj hb' hj e))]
          · rfl
      refine ⟨fun a b ha hb' => ?_, fun a b ha hb' hd => ?_, fun a b ha hb' hd => ?_⟩
      · rw [pt a b ha hb']
        split
        · split
          · exact x3
          · exact h.bound i j hi hj
        · exact h.bound a b ha hb'
      · rw [pt a b ha hb']
        by_cases hab : a = i ∧ b = j
        · rw [if_pos hab]
          obtain ⟨rfl, rfl⟩ := hab
          exact newv
        · rw [if_neg hab]
          refine h.yes a b ha hb' ?_
          obtain ⟨x, hx, hxe⟩ := hd
          rcases List.mem_append.1 hx with hx | hx
          · exact ⟨x, hx, hxe⟩
          · simp only [List.mem_singleton] at hx
            subst hx
            simp at hxe
            exact absurd ⟨hxe.1.symm, hxe.2.symm⟩ hab
      · rw [pt a b ha hb']
        rw [if_neg (fun hab => hd ⟨_, List.mem_append_right _ (List.mem_singleton.2 rfl), by rw [hab.1, hab.2]⟩)]
        exact h.no a b ha hb' (fun ⟨x, hx, hxe⟩ => hd ⟨x, List.mem_append_left _ hx, hxe⟩)
    have := fold_inv hk hK hK2 h1 hb l _ _ key
    rw [List.append_assoc] at this
    exact this

theorem pairsUpto_mem {n : Nat} : ∀ (k : Nat) (h : k ≤ n * n) (i j : Nat), j < n → i * n + j < k → ∃ x ∈ pairsUpto n k h, x.1 = (i, j)
  | 0, _, i, j, _, h => by omega
  | k + 1, hk, i, j, hj, h => by
    have hn : 0 < n := by omega
    by_cases e : i * n + j = k
    · refine ⟨pairAt n k (by omega), List.mem_append_right _ (List.mem_singleton.2 rfl), ?_⟩
      show (k / n, k % n) = (i, j)
      rw [← e, Nat.mul_comm, Nat.mul_add_div hn, Nat.div_eq_of_lt hj, Nat.mul_add_mod, Nat.mod_eq_of_lt hj, Nat.add_zero]
    · obtain ⟨x, hx, he⟩ := pairsUpto_mem k (by omega) i j hj (by omega)
      exact ⟨x, List.mem_append_left _ hx, he⟩

/-- A round of the code is a round. -/
theorem round_is {n k : Nat} {K : Int} {f : Nat → Int} (hk : k < n) (hK : 0 ≤ K) (hK2 : K + K ≤ 2305843009213693952) (h1 : f (k * n + k) = 1) (hb : ∀ i j, i < n → j < n → bd K (f (i * n + j))) :
    ∀ i j, i < n → j < n → eb (((pairsAll n).foldl (stepP n k) f) (i * n + j)) = viaR (mE n f) k i j ∧ bd (K + K) (((pairsAll n).foldl (stepP n k) f) (i * n + j)) := by
  have := fold_inv hk hK hK2 h1 hb (pairsAll n) [] f ⟨fun i j hi hj => bd_mono (hb i j hi hj) (by omega), (fun i j _ _ hd => by obtain ⟨x, hx, _⟩ := hd; cases hx), fun i j _ _ _ => rfl⟩
  intro i j hi hj
  exact ⟨this.yes i j hi hj (pairsUpto_mem (n * n) (Nat.le_refl _) i j hj (place_lt hi hj)), this.bound i j hi hj⟩

theorem diagB_iff {n : Nat} {g : Nat → Int} : diagB n g = true ↔ ∀ i, i < n → 1 ≤ g (i * n + i) := by
  unfold diagB
  rw [List.all_eq_true]
  constructor
  · intro h i hi; simpa using h i (by simpa using hi)
  · intro h x hx; simpa using h x (by simpa using hx)

theorem viaR_congr {n k : Nat} {a b : Nat → Nat → EB} (hk : k < n) (h : ∀ i j, i < n → j < n → a i j = b i j) : ∀ i j, i < n → j < n → viaR a k i j = viaR b k i j := by
  intro i j hi hj
  unfold viaR
  rw [h i j hi hj, h i k hi hk, h k j hk hj]

/-- The rounds of the code are the rounds, none going beyond what may be. -/
theorem rounds_is {n : Nat} {C : Int} {g : Nat → Int} {m : Nat → Nat → EB} (hn : n ≤ 4) (hC : 0 ≤ C) (hC2 : C ≤ 288230376151711744) (hm : ∀ i j, i < n → j < n → eb (g (i * n + j)) = m i j) (h1 : ∀ i, i < n → m i i = some 1) (hb : ∀ i j, i < n → j < n → ebd C (m i j)) :
    ∀ k, k ≤ n → match roundsI n g k, roundsR n m k with
      | none, none => True
      | some a, some b => ∀ i j, i < n → j < n → eb (a (i * n + j)) = b i j
      | _, _ => False
  | 0, _ => by simpa [roundsI, roundsR] using hm
  | k + 1, hk => by
    have ih := rounds_is hn hC hC2 hm h1 hb k (by omega)
    have hkn : k < n := by omega
    unfold roundsI roundsR
    cases ha : roundsI n g k with
    | none =>
      rw [ha] at ih
      cases hr : roundsR n m k with
      | none => trivial
      | some b => rw [hr] at ih; exact ih.elim
    | some a =>
      rw [ha] at ih
      cases hr : roundsR n m k with
      | none => rw [hr] at ih; exact ih.elim
      | some b =>
        rw [hr] at ih
        simp only at ih ⊢
        have ri := rounds_inv h1 k b (by omega) hr
        have rb := rounds_bd hC h1 hb (k := k) (by omega) hr
        have hkC : ((k : Int) + 1) * C ≤ 4 * C := Int.mul_le_mul_of_nonneg_right (by omega) hC
        have hab : ∀ i j, i < n → j < n → bd (4 * C) (a (i * n + j)) := fun i j hi hj => bd_iff.2 (by rw [ih i j hi hj]; exact ebd_mono (rb i j hi hj) hkC)
        have ha1 : a (k * n + k) = 1 := eb_inj (by rw [ih k k hkn hkn, ri.diag k hkn, eb_one])
        have hr2 := round_is (K := 4 * C) hkn (by omega) (by omega) ha1 hab
        have hv := viaR_congr hkn (a := mE n a) (b := b) (fun i j hi hj => ih i j hi hj)
        have hd : diagB n ((pairsAll n).foldl (stepP n k) a) = true ↔ ∀ i, i < n → ele (some 1) (viaR b k i i) := by
          rw [diagB_iff]
          constructor
          · intro h i hi
            have := (ele_one_iff (hr2 i i hi hi).2 (by omega) (by omega)).1 (h i hi)
            rwa [(hr2 i i hi hi).1, hv i i hi hi] at this
          · intro h i hi
            refine (ele_one_iff (hr2 i i hi hi).2 (by omega) (by omega)).2 ?_
            rw [(hr2 i i hi hi).1, hv i i hi hi]
            exact h i hi
        by_cases hD : ∀ i, i < n → ele (some 1) (viaR b k i i)
        · rw [if_pos (hd.2 hD), if_pos hD]
          intro i j hi hj
          rw [(hr2 i j hi hj).1, hv i j hi hj]
        · rw [if_neg (fun h => hD (hd.1 h)), if_neg hD]
          trivial

theorem diagLoop_is {n : Nat} {f : Nat → Int} : ∀ t, t ≤ n → match diagLoop n f t with
    | none => ∃ i, i < t ∧ f (i * n + i) < 1
    | some g => (∀ i, i < t → 1 ≤ f (i * n + i)) ∧ ∀ i j, i < n → j < n → g (i * n + j) = if i = j ∧ i < t then 1 else f (i * n + j)
  | 0, _ => by simp [diagLoop]
  | t + 1, ht => by
    have ih := diagLoop_is (n := n) (f := f) t (by omega)
    unfold diagLoop
    cases hg : diagLoop n f t with
    | none =>
      rw [hg] at ih
      obtain ⟨i, hi, hv⟩ := ih
      exact ⟨i, by omega, hv⟩
    | some g =>
      rw [hg] at ih
      obtain ⟨i1, i2⟩ := ih
      have htn : t < n := by omega
      have hgt : g (t * n + t) = f (t * n + t) := by rw [i2 t t htn htn, if_neg (by omega)]
      simp only
      by_cases hv : 1 ≤ g (t * n + t)
      · rw [if_pos hv]
        refine ⟨fun i hi => ?_, fun i j hi hj => ?_⟩
        · by_cases e : i = t
          · subst e; rw [← hgt]; exact hv
          · exact i1 i (by omega)
        · unfold upd
          by_cases e : i * n + j = t * n + t
          · obtain ⟨rfl, rfl⟩ := place_inj hj htn e
            rw [if_pos rfl, if_pos ⟨rfl, by omega⟩]
          · rw [if_neg e, i2 i j hi hj]
            by_cases hij : i = j
            · subst hij
              have : i ≠ t := fun h => e (by rw [h])
              by_cases h2 : i < t
              · rw [if_pos ⟨rfl, h2⟩, if_pos ⟨rfl, by omega⟩]
              · rw [if_neg (by omega), if_neg (by omega)]
            · rw [if_neg (by omega), if_neg (by omega)]
      · rw [if_neg hv]
        exact ⟨t, by omega, by rw [← hgt]; omega⟩

/-- The closed one of the code is the closed one. -/
theorem closeI_is {n : Nat} {f : Nat → Int} (hn : n ≤ 4) (hb : ∀ i j, i < n → j < n → bd 288230376151711744 (f (i * n + j))) : match closeI n f, closeE n (mE n f) with
    | none, none => True
    | some c, some e => ∀ i j, i < n → j < n → eb (c (i * n + j)) = e i j
    | _, _ => False := by
  have hd := diagLoop_is (n := n) (f := f) n (Nat.le_refl _)
  have one := fun i (hi : i < n) => ele_one_iff (hb i i hi hi) (by omega) (by omega)
  unfold closeI closeE
  cases hg : diagLoop n f n with
  | none =>
    rw [hg] at hd
    obtain ⟨i, hi, hv⟩ := hd
    rw [if_neg (fun (h : ∀ i, i < n → ele (some 1) (mE n f i i)) => by have := (one i hi).2 (h i hi); omega)]
    trivial
  | some g =>
    rw [hg] at hd
    obtain ⟨h1, h2⟩ := hd
    rw [if_pos (show ∀ i, i < n → ele (some 1) (mE n f i i) from fun i hi => (one i hi).1 (h1 i hi))]
    refine rounds_is (C := 288230376151711744) hn (by omega) (by omega) (fun i j hi hj => ?_) (fun i _ => diag1_diag _ i) (fun i j hi hj => ?_) n (Nat.le_refl _)
    · rw [h2 i j hi hj]
      unfold diag1
      by_cases e : i = j
      · rw [if_pos ⟨e, hi⟩, if_pos e]; exact eb_one
      · rw [if_neg (by omega), if_neg e]; rfl
    · unfold diag1
      by_cases e : i = j
      · rw [if_pos e]; simp [ebd]
      · rw [if_neg e]; exact bd_iff.1 (hb i j hi hj)
end Go.Proofs.Ytlcbpckinjkfeaa
