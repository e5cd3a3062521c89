/- Plain laws of bounds that add up, none being above all, and of rounds by a clock. No condition. Plain laws: the rounds of the code are those of bounds that add up without end, as no sum comes beyond what may be. No condition. Plain laws: the code's rounds over numbers are the rounds over bounds that add up without end. No condition. Plain laws of closed matrices of the code. No condition. Contracts of the document's Same, slices.Equal, dbm.Same, and the law package's two. No condition but on the count of bounds. Contracts of dbm.Top, the document's All and Top. No condition but that the number is of its kind. Contracts of the document's All and Top. No condition but that the number is of its kind. Opening a matrix among a law's arguments; the law package's alive. No condition. Contract of the document's Twin; plain law: of lesser bounds the closed one is lesser. No condition but on the count of bounds. -/
import Derived.Test.YtpmpapenjcemjaaGreatDoorMA
import Derived.Test.YtpmpapenjcemjaaGreatDoorMD
import Derived.Deep.RegionHeld3
import Derived.OpenShut
import Derived.Deep.AppendLies
namespace Go.Proofs.YtpmpapenjcemjaaGreatDoor
set_option linter.unusedSimpArgs false
set_option linter.unusedVariables false
open Go Go.RowKit

/-- A bound, none standing above all. -/
abbrev EB := Option Int
def eadd : EB → EB → EB
  | some x, some y => some (2 * (x / 2 + y / 2) + (if x % 2 = 0 ∨ y % 2 = 0 then 0 else 1))
  | _, _ => none
def ele : EB → EB → Prop
  | _, none => True
  | none, some _ => False
  | some x, some y => x ≤ y
instance (a b : EB) : Decidable (ele a b) := by
  cases a <;> cases b <;> (unfold ele; infer_instance)

theorem ele_refl (a : EB) : ele a a := by cases a <;> simp [ele]
theorem ele_none (a : EB) : ele a none := by cases a <;> simp [ele]
theorem ele_some {x y : Int} : ele (some x) (some y) ↔ x ≤ y := Iff.rfl
theorem ele_trans {a b c : EB} (h : ele a b) (g : ele b c) : ele a c := by
  cases a <;> cases b <;> cases c <;> simp_all [ele]; omega
theorem ele_antisymm {a b : EB} (h : ele a b) (g : ele b a) : a = b := by
  cases a <;> cases b <;> simp_all [ele]; omega
theorem ele_total (a b : EB) : ele a b ∨ ele b a := by
  cases a <;> cases b <;> simp [ele]; omega
theorem ele_of_not {a b : EB} (h : ¬ ele a b) : ele b a := (ele_total a b).resolve_left h
theorem eadd_comm (a b : EB) : eadd a b = eadd b a := by
  cases a <;> cases b <;> simp [eadd]
  split <;> split <;> omega
theorem eadd_none (a : EB) : eadd a none = none := by cases a <;> rfl
theorem none_eadd (a : EB) : eadd none a = none := by cases a <;> rfl
theorem eadd_assoc (a b c : EB) : eadd (eadd a b) c = eadd a (eadd b c) := by
  cases a <;> cases b <;> cases c <;> simp [eadd]
  repeat' split
  all_goals omega
theorem eadd_one (a : EB) : eadd a (some 1) = a := by
  cases a <;> simp [eadd]
  split <;> omega
theorem one_eadd (a : EB) : eadd (some 1) a = a := by rw [eadd_comm, eadd_one]
theorem eadd_mono {a b c d : EB} (h : ele a b) (g : ele c d) : ele (eadd a c) (eadd b d) := by
  cases a <;> cases b <;> cases c <;> cases d <;> simp_all [ele, eadd]
  repeat' split
  all_goals omega
theorem eadd_mono_l {a b : EB} (c : EB) (h : ele a b) : ele (eadd a c) (eadd b c) := eadd_mono h (ele_refl c)
theorem eadd_mono_r {a b : EB} (c : EB) (h : ele a b) : ele (eadd c a) (eadd c b) := eadd_mono (ele_refl c) h
theorem ele_add_one {a b : EB} (h : ele (some 1) b) : ele a (eadd a b) := by
  have := eadd_mono_r a h
  rwa [eadd_one] at this
theorem ele_one_add {a b : EB} (h : ele (some 1) b) : ele a (eadd b a) := by rw [eadd_comm]; exact ele_add_one h

/-- The lesser of two, the first where they are the same. -/
def emin (a b : EB) : EB := if ele a b then a else b
theorem emin_le_l (a b : EB) : ele (emin a b) a := by
  unfold emin; split
  · exact ele_refl a
  · rename_i h; exact ele_of_not h
theorem emin_le_r (a b : EB) : ele (emin a b) b := by
  unfold emin; split
  · assumption
  · exact ele_refl b
theorem le_emin {c a b : EB} (h : ele c a) (g : ele c b) : ele c (emin a b) := by
  unfold emin; split <;> assumption
theorem emin_cases (a b : EB) : emin a b = a ∨ (emin a b = b ∧ ¬ ele a b) := by
  unfold emin; split
  · exact .inl rfl
  · rename_i h; exact .inr ⟨rfl, h⟩
theorem emin_eq_l {a b : EB} (h : ele a b) : emin a b = a := if_pos h

/-- A matrix of bounds of n clocks that is closed: 0 of each clock to itself, none greater than the sum by a third one. -/
def Closed (n : Nat) (q : Nat → Nat → EB) : Prop :=
  (∀ i, i < n → q i i = some 1) ∧ ∀ i j k, i < n → j < n → k < n → ele (q i j) (eadd (q i k) (q k j))
def Under (n : Nat) (q d : Nat → Nat → EB) : Prop := ∀ i j, i < n → j < n → ele (q i j) (d i j)

/-- A round by clock k. -/
def viaR (m : Nat → Nat → EB) (k i j : Nat) : EB := emin (m i j) (eadd (m i k) (m k j))

theorem viaR_le (m : Nat → Nat → EB) (k i j : Nat) : ele (viaR m k i j) (m i j) := emin_le_l _ _
theorem viaR_le2 (m : Nat → Nat → EB) (k i j : Nat) : ele (viaR m k i j) (eadd (m i k) (m k j)) := emin_le_r _ _
theorem viaR_row {m : Nat → Nat → EB} {k : Nat} (h : m k k = some 1) (j : Nat) : viaR m k k j = m k j := by
  unfold viaR; rw [h, one_eadd]; exact emin_eq_l (ele_refl _)
theorem viaR_col {m : Nat → Nat → EB} {k : Nat} (h : m k k = some 1) (i : Nat) : viaR m k i k = m i k := by
  unfold viaR; rw [h, eadd_one]; exact emin_eq_l (ele_refl _)

/-- The sums by a clock are none less: of all clocks below k. -/
def TriB (n k : Nat) (m : Nat → Nat → EB) : Prop := ∀ t i j, t < k → t < n → i < n → j < n → ele (m i j) (eadd (m i t) (m t j))

theorem eadd4 (a b c d : EB) : eadd (eadd a b) (eadd c d) = eadd a (eadd (eadd b c) d) := by
  rw [eadd_assoc, eadd_assoc]

/-- Behind a round by k, what held of the clocks before holds, and holds of k. -/
theorem viaR_tri {n k : Nat} {m : Nat → Nat → EB} (hk : k < n) (h1 : m k k = some 1) (h : TriB n k m) : TriB n (k + 1) (viaR m k) := by
  intro t i j ht htn hi hj
  by_cases htk : t = k
  · subst htk
    rw [viaR_row h1, viaR_col h1]
    exact viaR_le2 _ _ _ _
  · have ht' : t < k := by omega
    have T := fun a b ha hb => h t a b ht' htn ha hb
    rcases emin_cases (m i t) (eadd (m i k) (m k t)) with e1 | ⟨e1, _⟩
    · rcases emin_cases (m t j) (eadd (m t k) (m k j)) with e2 | ⟨e2, _⟩
      · rw [show viaR m k i t = m i t from e1, show viaR m k t j = m t j from e2]
        exact ele_trans (viaR_le _ _ _ _) (T i j hi hj)
      · rw [show viaR m k i t = m i t from e1, show viaR m k t j = _ from e2]
        refine ele_trans (viaR_le2 _ _ _ _) ?_
        rw [← eadd_assoc]
        exact eadd_mono_l _ (T i k hi hk)
    · rcases emin_cases (m t j) (eadd (m t k) (m k j)) with e2 | ⟨e2, _⟩
      · rw [show viaR m k i t = _ from e1, show viaR m k t j = m t j from e2]
        refine ele_trans (viaR_le2 _ _ _ _) ?_
        rw [eadd_assoc]
        exact eadd_mono_r _ (T k j hk hj)
      · rw [show viaR m k i t = _ from e1, show viaR m k t j = _ from e2]
        refine ele_trans (viaR_le2 _ _ _ _) ?_
        rw [eadd4]
        refine eadd_mono_r _ (ele_one_add ?_)
        have := T k k hk hk
        rwa [h1] at this

/-- What is closed and lies under stays under. -/
theorem viaR_under {n k : Nat} {q m : Nat → Nat → EB} (hk : k < n) (hq : Closed n q) (h : Under n q m) : Under n q (viaR m k) := by
  intro i j hi hj
  exact le_emin (h i j hi hj) (ele_trans (hq.2 i j k hi hj hk) (eadd_mono (h i k hi hk) (h k j hk hj)))

/-- The rounds by the clocks from 0 on, up to below k; none: a clock's bound of itself is below 0. -/
def roundsR (n : Nat) (m : Nat → Nat → EB) : Nat → Option (Nat → Nat → EB)
  | 0 => some m
  | k + 1 => match roundsR n m k with
    | none => none
    | some a => if ∀ i, i < n → ele (some 1) (viaR a k i i) then some (viaR a k) else none

/-- The matrix with 0 of each clock to itself. -/
def diag1 (d : Nat → Nat → EB) : Nat → Nat → EB := fun i j => if i = j then some 1 else d i j
/-- The closed one; none: it is empty. -/
def closeE (n : Nat) (d : Nat → Nat → EB) : Option (Nat → Nat → EB) :=
  if ∀ i, i < n → ele (some 1) (d i i) then roundsR n (diag1 d) n else none

theorem diag1_diag (d : Nat → Nat → EB) (i : Nat) : diag1 d i i = some 1 := if_pos rfl
theorem diag1_off (d : Nat → Nat → EB) {i j : Nat} (h : i ≠ j) : diag1 d i j = d i j := if_neg h

/-- What holds of the matrix behind each round. -/
structure RoundInv (n k : Nat) (m a : Nat → Nat → EB) : Prop where
  diag : ∀ i, i < n → a i i = some 1
  tri : TriB n k a
  le : ∀ i j, i < n → j < n → ele (a i j) (m i j)

theorem rounds_inv {n : Nat} {m : Nat → Nat → EB} (h : ∀ i, i < n → m i i = some 1) : ∀ k a, k ≤ n → roundsR n m k = some a → RoundInv n k m a
  | 0, a, _, e => by
    simp only [roundsR, Option.some.injEq] at e
    subst e
    exact ⟨h, fun t i j ht => by omega, fun i j _ _ => ele_refl _⟩
  | k + 1, a, hk, e => by
    unfold roundsR at e
    split at e
    · cases e
    · rename_i b hb
      split at e
      · rename_i hd
        simp only [Option.some.injEq] at e
        subst e
        obtain ⟨d1, t1, l1⟩ := rounds_inv h k b (by omega) hb
        refine ⟨fun i hi => ?_, viaR_tri (by omega) (d1 k (by omega)) t1, fun i j hi hj => ele_trans (viaR_le _ _ _ _) (l1 i j hi hj)⟩
        refine ele_antisymm ?_ (hd i hi)
        have := viaR_le b k i i
        rwa [d1 i hi] at this
      · cases e

theorem rounds_under {n : Nat} {m q : Nat → Nat → EB} (hq : Closed n q) (h : Under n q m) : ∀ k, k ≤ n → ∃ a, roundsR n m k = some a ∧ Under n q a
  | 0, _ => ⟨m, rfl, h⟩
  | k + 1, hk => by
    obtain ⟨b, hb, hu⟩ := rounds_under hq h k (by omega)
    have hv := viaR_under (k := k) (by omega) hq hu
    refine ⟨viaR b k, ?_, hv⟩
    simp only [roundsR, hb]
    rw [if_pos]
    intro i hi
    have := hv i i hi hi
    rwa [hq.1 i hi] at this

/-- The closed one is closed, and lies under. -/
theorem closeE_closed {n : Nat} {d c : Nat → Nat → EB} (h : closeE n d = some c) : Closed n c ∧ Under n c d := by
  unfold closeE at h
  split at h
  · rename_i hd
    obtain ⟨d1, t1, l1⟩ := rounds_inv (fun i _ => diag1_diag d i) n c (Nat.le_refl _) h
    refine ⟨⟨d1, fun i j k hi hj hk => t1 k i j hk hk hi hj⟩, fun i j hi hj => ?_⟩
    by_cases e : i = j
    · subst e
      rw [d1 i hi]; exact hd i hi
    · have := l1 i j hi hj
      rwa [diag1_off d e] at this
  · cases h

/-- What is closed and lies under lies under the closed one. -/
theorem closeE_greatest {n : Nat} {d q : Nat → Nat → EB} (hq : Closed n q) (h : Under n q d) : ∃ c, closeE n d = some c ∧ Under n q c := by
  have hd : ∀ i, i < n → ele (some 1) (d i i) := fun i hi => by
    have := h i i hi hi
    rwa [hq.1 i hi] at this
  unfold closeE
  rw [if_pos hd]
  refine rounds_under hq (fun i j hi hj => ?_) n (Nat.le_refl _)
  by_cases e : i = j
  · subst e
    rw [diag1_diag, hq.1 i hi]; exact ele_refl _
  · rw [diag1_off d e]; exact h i j hi hj

theorem under_trans {n : Nat} {a b c : Nat → Nat → EB} (h : Under n a b) (g : Under n b c) : Under n a c := fun i j hi hj => ele_trans (h i j hi hj) (g i j hi hj)
theorem under_refl (n : Nat) (a : Nat → Nat → EB) : Under n a a := fun _ _ _ _ => ele_refl _

/-- What is closed is closed to itself. -/
theorem closeE_self {n : Nat} {q : Nat → Nat → EB} (hq : Closed n q) : ∃ c, closeE n q = some c ∧ ∀ i j, i < n → j < n → c i j = q i j := by
  obtain ⟨c, hc, hu⟩ := closeE_greatest hq (under_refl n q)
  exact ⟨c, hc, fun i j hi hj => ele_antisymm ((closeE_closed hc).2 i j hi hj) (hu i j hi hj)⟩
end Go.Proofs.YtpmpapenjcemjaaGreatDoor

namespace Go.Proofs.YtpmpapenjcemjaaGreatDoor
set_option linter.unusedSimpArgs false
set_option linter.unusedVariables false
open Go Go.RowKit

/-! ### Sums along ways -/
def wsum (m : Nat → Nat → EB) : Nat → List Nat → Nat → EB
  | i, [], j => m i j
  | i, v :: l, j => eadd (m i v) (wsum m v l j)
theorem wsum_append (m : Nat → Nat → EB) (v : Nat) (q : List Nat) (j : Nat) : ∀ (p : List Nat) (i : Nat), wsum m i (p ++ v :: q) j = eadd (wsum m i p v) (wsum m v q j)
  | [], i => rfl
  | u :: p, i => by
    show eadd (m i u) (wsum m u (p ++ v :: q) j) = eadd (eadd (m i u) (wsum m u p v)) (wsum m v q j)
    rw [wsum_append m v q j p u, eadd_assoc]
theorem le_wsum {n k : Nat} {m a : Nat → Nat → EB} (h : RoundInv n k m a) : ∀ (l : List Nat) (i j : Nat), i < n → j < n → (∀ v ∈ l, v < k ∧ v < n) → ele (a i j) (wsum m i l j)
  | [], i, j, hi, hj, _ => h.le i j hi hj
  | v :: l, i, j, hi, hj, hl => by
    obtain ⟨hv1, hv2⟩ := hl v (List.mem_cons_self ..)
    exact ele_trans (h.tri v i j hv1 hv2 hi hj) (eadd_mono (h.le i v hi hv2) (le_wsum h l v j hv2 hj (fun u hu => hl u (List.mem_cons_of_mem _ hu))))

theorem nodup_len : ∀ (k : Nat) (l : List Nat), l.Nodup → (∀ v ∈ l, v < k) → l.length ≤ k
  | 0, l, _, h => by
    cases l with
    | nil => simp
    | cons v l => exact absurd (h v (List.mem_cons_self ..)) (by omega)
  | k + 1, l, hn, h => by
    have h1 : (l.erase k).length ≤ k := nodup_len k (l.erase k) (hn.erase k) (fun v hv => by
      have := (hn.mem_erase_iff).1 hv
      have := h v this.2
      omega)
    have : l.length ≤ (l.erase k).length + 1 := by
      rw [List.length_erase]
      split <;> omega
    omega

/-- What a bound is behind some rounds: none, 0 of a clock to itself, or the sum along a way that comes to no clock twice. -/
def SimpleW (m : Nat → Nat → EB) (k i j : Nat) (x : EB) : Prop := x = none ∨ (i = j ∧ x = some 1) ∨ (i ≠ j ∧ ∃ l : List Nat, l.Nodup ∧ (∀ v ∈ l, v < k ∧ v ≠ i ∧ v ≠ j) ∧ x = wsum m i l j)

theorem rounds_simple {n : Nat} {m : Nat → Nat → EB} (h : ∀ i, i < n → m i i = some 1) : ∀ k a, k ≤ n → roundsR n m k = some a → ∀ i j, i < n → j < n → SimpleW m k i j (a i j)
  | 0, a, _, e => by
    intro i j hi hj
    simp only [roundsR, Option.some.injEq] at e
    subst e
    by_cases hij : i = j
    · subst hij; exact .inr (.inl ⟨rfl, h i hi⟩)
    · exact .inr (.inr ⟨hij, [], List.nodup_nil, (fun v hv => by cases hv), rfl⟩)
  | k + 1, a, hk, e => by
    unfold roundsR at e
    split at e
    · cases e
    rename_i b hb
    split at e
    case isFalse => cases e
    rename_i hd
    simp only [Option.some.injEq] at e
    subst e
    intro i j hi hj
    have hkn : k < n := by omega
    have hs := rounds_simple h k b (by omega) hb
    have ri := rounds_inv h k b (by omega) hb
    have cyc : ∀ v, v < n → ele (some 1) (eadd (b v k) (b k v)) := fun v hv => ele_trans (hd v hv) (viaR_le2 b k v v)
    rcases emin_cases (b i j) (eadd (b i k) (b k j)) with e | ⟨e, hne⟩
    · rw [show viaR b k i j = b i j from e]
      rcases hs i j hi hj with h1 | h1 | ⟨h1, l, h2, h3, h4⟩
      · exact .inl h1
      · exact .inr (.inl h1)
      · exact .inr (.inr ⟨h1, l, h2, fun v hv => by have := h3 v hv; omega, h4⟩)
    · rw [show viaR b k i j = _ from e]
      have e' : viaR b k i j = eadd (b i k) (b k j) := e
      have hij : i ≠ j := by
        intro hij; subst hij
        apply hne
        rw [ri.diag i hi]
        exact cyc i hi
      have hik : i ≠ k := by
        intro hik; subst hik
        apply hne
        rw [ri.diag i hi, one_eadd]; exact ele_refl _
      have hjk : j ≠ k := by
        intro hjk; subst hjk
        apply hne
        rw [ri.diag j hj, eadd_one]; exact ele_refl _
      rcases hs i k hi hkn with h1 | ⟨h1, _⟩ | ⟨_, l1, h2, h3, h4⟩
      · exact absurd (by rw [h1, none_eadd]; exact ele_none _) hne
      · exact absurd h1 hik
      rcases hs k j hkn hj with g1 | ⟨g1, _⟩ | ⟨_, l2, g2, g3, g4⟩
      · exact absurd (by rw [g1, eadd_none]; exact ele_none _) hne
      · exact absurd g1.symm hjk
      have A1 : ∀ v ∈ l1, v < k ∧ v < n := fun v hv => by have := h3 v hv; omega
      have A2 : ∀ v ∈ l2, v < k ∧ v < n := fun v hv => by have := g3 v hv; omega
      refine .inr (.inr ⟨hij, l1 ++ k :: l2, ?_, ?_, by rw [wsum_append, ← h4, ← g4]⟩)
      · rw [List.nodup_append]
        refine ⟨h2, List.nodup_cons.2 ⟨fun hm => by have := A2 k hm; omega, g2⟩, fun x hx y hy hxy => ?_⟩
        subst hxy
        rcases List.mem_cons.1 hy with hy | hy
        · subst hy; have := A1 x hx; omega
        · apply hne
          obtain ⟨p, q, hp⟩ := List.append_of_mem hx
          obtain ⟨r, s, hr⟩ := List.append_of_mem hy
          have vx := A1 x hx
          have P := le_wsum ri p i x hi vx.2 (fun v hv => A1 v (by rw [hp]; simp [hv]))
          have Q := le_wsum ri q x k vx.2 hkn (fun v hv => A1 v (by rw [hp]; simp [hv]))
          have R := le_wsum ri r k x hkn vx.2 (fun v hv => A2 v (by rw [hr]; simp [hv]))
          have S := le_wsum ri s x j vx.2 hj (fun v hv => A2 v (by rw [hr]; simp [hv]))
          rw [h4, g4, hp, hr, wsum_append, wsum_append, eadd4]
          refine ele_trans (ri.tri x i j vx.1 vx.2 hi hj) (eadd_mono P ?_)
          exact ele_trans (ele_one_add (cyc x vx.2)) (eadd_mono (eadd_mono Q R) S)
      · intro v hv
        rcases List.mem_append.1 hv with hv | hv
        · have := h3 v hv
          refine ⟨by omega, this.2.1, fun hvj => ?_⟩
          subst hvj
          apply hne
          obtain ⟨p, q, hp⟩ := List.append_of_mem hv
          have P := le_wsum ri p i v hi hj (fun u hu => A1 u (by rw [hp]; simp [hu]))
          have Q := le_wsum ri q v k hj hkn (fun u hu => A1 u (by rw [hp]; simp [hu]))
          rw [h4, hp, wsum_append, eadd_assoc]
          refine ele_trans P (ele_add_one ?_)
          exact ele_trans (cyc v hj) (eadd_mono_l _ Q)
        · rcases List.mem_cons.1 hv with hv | hv
          · subst hv; exact ⟨by omega, Ne.symm hik, Ne.symm hjk⟩
          · have := g3 v hv
            refine ⟨by omega, fun hvi => ?_, this.2.2⟩
            subst hvi
            apply hne
            obtain ⟨r, s, hr⟩ := List.append_of_mem hv
            have R := le_wsum ri r k v hkn hi (fun u hu => A2 u (by rw [hr]; simp [hu]))
            have S := le_wsum ri s v j hi hj (fun u hu => A2 u (by rw [hr]; simp [hu]))
            rw [g4, hr, wsum_append, ← eadd_assoc]
            refine ele_trans S (ele_one_add ?_)
            exact ele_trans (cyc v hi) (eadd_mono_r _ R)

/-! ### How great -/
def ebd (K : Int) : EB → Prop
  | none => True
  | some x => -K ≤ x / 2 ∧ x / 2 ≤ K
theorem ebd_add {K L : Int} {a b : EB} (h : ebd K a) (g : ebd L b) : ebd (K + L) (eadd a b) := by
  cases a <;> cases b <;> simp_all [ebd, eadd]
  split <;> omega
theorem ebd_mono {K L : Int} {a : EB} (h : ebd K a) (hl : K ≤ L) : ebd L a := by
  cases a <;> simp_all [ebd]; omega
theorem wsum_bd {n : Nat} {m : Nat → Nat → EB} {C : Int} (h : ∀ i j, i < n → j < n → ebd C (m i j)) : ∀ (l : List Nat) (i j : Nat), i < n → j < n → (∀ v ∈ l, v < n) → ebd (((l.length : Int) + 1) * C) (wsum m i l j)
  | [], i, j, hi, hj, _ => by simpa [wsum] using h i j hi hj
  | v :: l, i, j, hi, hj, hl => by
    have hv := hl v (List.mem_cons_self ..)
    have := ebd_add (h i v hi hv) (wsum_bd h l v j hv hj (fun u hu => hl u (List.mem_cons_of_mem _ hu)))
    have e : C + ((l.length : Int) + 1) * C = (((v :: l).length : Int) + 1) * C := by
      simp only [List.length_cons, Int.natCast_add, Int.natCast_one, Int.add_mul, Int.one_mul]
      omega
    rw [e] at this
    exact this
theorem rounds_bd {n : Nat} {m : Nat → Nat → EB} {C : Int} (hC : 0 ≤ C) (h : ∀ i, i < n → m i i = some 1) (hb : ∀ i j, i < n → j < n → ebd C (m i j)) {k : Nat} {a : Nat → Nat → EB} (hk : k ≤ n) (e : roundsR n m k = some a) : ∀ i j, i < n → j < n → ebd (((k : Int) + 1) * C) (a i j) := by
  intro i j hi hj
  have hkC : 0 ≤ ((k : Int) + 1) * C := Int.mul_nonneg (by omega) hC
  rcases rounds_simple h k a hk e i j hi hj with h1 | ⟨_, h1⟩ | ⟨_, l, h2, h3, h4⟩
  · rw [h1]; trivial
  · rw [h1]; simp [ebd]; omega
  · rw [h4]
    refine ebd_mono (wsum_bd hb l i j hi hj (fun v hv => by have := h3 v hv; omega)) ?_
    have := nodup_len k l h2 (fun v hv => (h3 v hv).1)
    exact Int.mul_le_mul_of_nonneg_right (by omega) hC
end Go.Proofs.YtpmpapenjcemjaaGreatDoor

namespace Go.Proofs.YtpmpapenjcemjaaGreatDoor
set_option linter.unusedSimpArgs false
set_option linter.unusedVariables false
open Go Go.RowKit

def eb (x : Int) : EB := if x = noneB then none else some x
def mE (n : Nat) (f : Nat → Int) : Nat → Nat → EB := fun i j => eb (f (i * n + j))
/-- A bound whose number is at most so great, or none. -/
def bd (K x : Int) : Prop := x = noneB ∨ (-K ≤ bnum x ∧ bnum x ≤ K)
theorem eb_none : eb noneB = none := if_pos rfl
theorem eb_some {x : Int} (h : x ≠ noneB) : eb x = some x := if_neg h
theorem eb_inj {x y : Int} (h : eb x = eb y) : x = y := by
  unfold eb at h
  split at h <;> split at h <;> simp_all
theorem bd_mono {K L x : Int} (h : bd K x) (hl : K ≤ L) : bd L x := h.imp id (fun h => ⟨by omega, by omega⟩)
theorem bd_iff {K x : Int} : bd K x ↔ ebd K (eb x) := by
  unfold bd
  by_cases h : x = noneB
  · subst h; simp [eb_none, ebd]
  · rw [eb_some h]; simp [h, ebd, bnum]
theorem bd_okB {K x : Int} (h : bd K x) (hK : K ≤ 2305843009213693952) : okB x = true := by
  rcases h with h | h
  · simp [okB, h]
  · simp [okB, okN]
    right; omega
theorem eb_one : eb 1 = some 1 := eb_some (by decide)

theorem addR_exact {K L a b : Int} (ha : bd K a) (hb : bd L b) (hK : 0 ≤ K) (hL : 0 ≤ L) (h : K + L ≤ 2305843009213693952) : eb (addR a b).1 = eadd (eb a) (eb b) ∧ (addR a b).2 = 0 ∧ bd (K + L) (addR a b).1 := by
  have oa := bd_okB ha (by omega)
  have ob := bd_okB hb (by omega)
  by_cases na : a = noneB
  · rw [addR_none oa ob (.inl na), na, eb_none, none_eadd]
    exact ⟨rfl, rfl, .inl rfl⟩
  · by_cases nb : b = noneB
    · rw [addR_none oa ob (.inr nb), nb, eb_none, eadd_none]
      exact ⟨rfl, rfl, .inl rfl⟩
    · have ha := ha.resolve_left na
      have hb := hb.resolve_left nb
      rw [addR_ok oa ob na nb]
      have hok : okN (bnum a + bnum b) = true := by simp [okN]; omega
      unfold madeR
      rw [if_pos hok]
      have hne : mkB (bnum a + bnum b) (bstr a || bstr b) ≠ noneB := by
        unfold mkB noneB
        split <;> omega
      refine ⟨?_, rfl, .inr ?_⟩
      · rw [eb_some hne, eb_some na, eb_some nb]
        simp only [eadd, mkB, bnum, bstr, Option.some.injEq]
        by_cases h1 : a % 2 = 0 <;> by_cases h2 : b % 2 = 0 <;> simp [h1, h2]
      · unfold mkB
        simp only [bnum] at *
        split <;> omega

theorem lt_iff_ele {K L a b : Int} (ha : bd K a) (hb : bd L b) (hK : K ≤ 2305843009213693952) (hL : L ≤ 2305843009213693952) : a < b ↔ ¬ ele (eb b) (eb a) := by
  by_cases na : a = noneB
  · subst na
    rw [eb_none]
    simp [ele_none]
    rcases hb with hb | hb
    · omega
    · unfold bnum noneB at *; omega
  · rw [eb_some na]
    have ha := ha.resolve_left na
    by_cases nb : b = noneB
    · subst nb
      rw [eb_none]
      simp [ele]
      unfold bnum noneB at *; omega
    · rw [eb_some nb]
      simp [ele]
theorem ele_one_iff {K a : Int} (ha : bd K a) (hK : 0 ≤ K) (hK2 : K ≤ 2305843009213693952) : 1 ≤ a ↔ ele (some 1) (eb a) := by
  have := lt_iff_ele ha (b := 1) (L := 0) (.inr ⟨by decide, by decide⟩) hK2 (by omega)
  rw [eb_one] at this
  constructor
  · intro h
    exact Classical.byContradiction fun hn => by have := this.2 hn; omega
  · intro h
    exact Classical.byContradiction fun hn => this.1 (by omega) h

theorem place_inj {n i j i' j' : Nat} (hj : j < n) (hj' : j' < n) (h : i * n + j = i' * n + j') : i = i' ∧ j = j' := by
  have hn : 0 < n := by omega
  have e1 : (i * n + j) / n = i := by rw [Nat.mul_comm, Nat.mul_add_div hn, Nat.div_eq_of_lt hj]; omega
  have e2 : (i' * n + j') / n = i' := by rw [Nat.mul_comm, Nat.mul_add_div hn, Nat.div_eq_of_lt hj']; omega
  rw [h, e2] at e1
  subst e1
  exact ⟨rfl, by omega⟩

/-- What the pairs so far have turned. -/
structure FoldInv (n k : Nat) (K : Int) (f : Nat → Int) (done : List (PairC n)) (g : Nat → Int) : Prop where
  bound : ∀ i j, i < n → j < n → bd (K + K) (g (i * n + j))
  yes : ∀ i j, i < n → j < n → (∃ x ∈ done, x.1 = (i, j)) → eb (g (i * n + j)) = viaR (mE n f) k i j
  no : ∀ i j, i < n → j < n → (¬ ∃ x ∈ done, x.1 = (i, j)) → g (i * n + j) = f (i * n + j)

theorem fold_inv {n k : Nat} {K : Int} {f : Nat → Int} (hk : k < n) (hK : 0 ≤ K) (hK2 : K + K ≤ 2305843009213693952) (h1 : f (k * n + k) = 1) (hb : ∀ i j, i < n → j < n → bd K (f (i * n + j))) :
    ∀ (l done : List (PairC n)) (g : Nat → Int), FoldInv n k K f done g → FoldInv n k K f (done ++ l) (l.foldl (stepP n k) g)
  | [], done, g, h => by simpa using h
  | ⟨⟨i, j⟩, hi, hj⟩ :: l, done, g, h => by
    have hi : i < n := hi
    have hj : j < n := hj
    have hkk : mE n f k k = some 1 := by simp [mE, h1, eb_one]
    have hrow : ∀ a b, a < n → b < n → a = k ∨ b = k → g (a * n + b) = f (a * n + b) := by
      intro a b ha hb' hab
      by_cases hd : ∃ x ∈ done, x.1 = (a, b)
      · have e := h.yes a b ha hb' hd
        have e2 : viaR (mE n f) k a b = mE n f a b := by
          rcases hab with rfl | rfl
          · exact viaR_row hkk b
          · exact viaR_col hkk a
        rw [e2] at e
        exact eb_inj e
      · exact h.no a b ha hb' hd
    have e1 := hrow i k hi hk (.inr rfl)
    have e2 := hrow k j hk hj (.inl rfl)
    obtain ⟨x1, x2, x3⟩ := addR_exact (hb i k hi hk) (hb k j hk hj) hK hK hK2
    have hs : stepP n k g ⟨(i, j), hi, hj⟩ = if (addR (f (i * n + k)) (f (k * n + j))).1 < g (i * n + j) then upd g (i * n + j) (addR (f (i * n + k)) (f (k * n + j))).1 else g := by
      show (if (addR (g (i * n + k)) (g (k * n + j))).1 < g (i * n + j) then _ else _) = _
      rw [e1, e2]
    have key : FoldInv n k K f (done ++ [⟨(i, j), hi, hj⟩]) (stepP n k g ⟨(i, j), hi, hj⟩) := by
      rw [hs]
      have cur : eb (g (i * n + j)) = mE n f i j ∨ eb (g (i * n + j)) = viaR (mE n f) k i j := by
        by_cases hd : ∃ x ∈ done, x.1 = (i, j)
        · exact .inr (h.yes i j hi hj hd)
        · exact .inl (by rw [h.no i j hi hj hd]; rfl)
      have newv : eb (if (addR (f (i * n + k)) (f (k * n + j))).1 < g (i * n + j) then (addR (f (i * n + k)) (f (k * n + j))).1 else g (i * n + j)) = viaR (mE n f) k i j := by
        have hl := lt_iff_ele x3 (h.bound i j hi hj) hK2 hK2
        have se : eb (addR (f (i * n + k)) (f (k * n + j))).1 = eadd (mE n f i k) (mE n f k j) := x1
        split
        · rename_i hlt
          have hn := hl.1 hlt
          rw [se] at hn ⊢
          rcases cur with c | c
          · rw [c] at hn
            unfold viaR emin
            rw [if_neg hn]
          · rw [c] at hn
            exact absurd (viaR_le2 _ _ _ _) hn
        · rename_i hlt
          have hle : ele (eb (g (i * n + j))) (eb (addR (f (i * n + k)) (f (k * n + j))).1) := Classical.byContradiction fun hn => hlt (hl.2 hn)
          rw [se] at hle
          rcases cur with c | c
          · rw [c] at hle ⊢
            unfold viaR emin
            rw [if_pos hle]
          · exact c
      have pt : ∀ a b, a < n → b < n → (if (addR (f (i * n + k)) (f (k * n + j))).1 < g (i * n + j) then upd g (i * n + j) (addR (f (i * n + k)) (f (k * n + j))).1 else g) (a * n + b) =
          if a = i ∧ b = j then (if (addR (f (i * n + k)) (f (k * n + j))).1 < g (i * n + j) then (addR (f (i * n + k)) (f (k * n + j))).1 else g (i * n + j)) else g (a * n + b) := by
        intro a b ha hb'
        by_cases hab : a = i ∧ b = j
        · rw [if_pos hab]
          obtain ⟨rfl, rfl⟩ := hab
          split
          · simp [upd]
          · rfl
        · rw [if_neg hab]
          split
          · unfold upd
            rw [if_neg (fun e => hab (place_inj hb' hj e))]
          · rfl
      refine ⟨fun a b ha hb' => ?_, fun a b ha hb' hd => ?_, fun a b ha hb' hd => ?_⟩
      · rw [pt a b ha hb']
        split
        · split
          · exact x3
          · exact h.bound i j hi hj
        · exact h.bound a b ha hb'
      · rw [pt a b ha hb']
        by_cases hab : a = i ∧ b = j
        · rw [if_pos hab]
          obtain ⟨rfl, rfl⟩ := hab
          exact newv
        · rw [if_neg hab]
          refine h.yes a b ha hb' ?_
          obtain ⟨x, hx, hxe⟩ := hd
          rcases List.mem_append.1 hx with hx | hx
          · exact ⟨x, hx, hxe⟩
          · simp only [List.mem_singleton] at hx
            subst hx
            simp at hxe
            exact absurd ⟨hxe.1.symm, hxe.2.symm⟩ hab
      · rw [pt a b ha hb']
        rw [if_neg (fun hab => hd ⟨_, List.mem_append_right _ (List.mem_singleton.2 rfl), by rw [hab.1, hab.2]⟩)]
        exact h.no a b ha hb' (fun ⟨x, hx, hxe⟩ => hd ⟨x, List.mem_append_left _ hx, hxe⟩)
    have := fold_inv hk hK hK2 h1 hb l _ _ key
    rw [List.append_assoc] at this
    exact this

theorem pairsUpto_mem {n : Nat} : ∀ (k : Nat) (h : k ≤ n * n) (i j : Nat), j < n → i * n + j < k → ∃ x ∈ pairsUpto n k h, x.1 = (i, j)
  | 0, _, i, j, _, h => by omega
  | k + 1, hk, i, j, hj, h => by
    have hn : 0 < n := by omega
    by_cases e : i * n + j = k
    · refine ⟨pairAt n k (by omega), List.mem_append_right _ (List.mem_singleton.2 rfl), ?_⟩
      show (k / n, k % n) = (i, j)
      rw [← e, Nat.mul_comm, Nat.mul_add_div hn, Nat.div_eq_of_lt hj, Nat.mul_add_mod, Nat.mod_eq_of_lt hj, Nat.add_zero]
    · obtain ⟨x, hx, he⟩ := pairsUpto_mem k (by omega) i j hj (by omega)
      exact ⟨x, List.mem_append_left _ hx, he⟩

/-- A round of the code is a round. -/
theorem round_is {n k : Nat} {K : Int} {f : Nat → Int} (hk : k < n) (hK : 0 ≤ K) (hK2 : K + K ≤ 2305843009213693952) (h1 : f (k * n + k) = 1) (hb : ∀ i j, i < n → j < n → bd K (f (i * n + j))) :
    ∀ i j, i < n → j < n → eb (((pairsAll n).foldl (stepP n k) f) (i * n + j)) = viaR (mE n f) k i j ∧ bd (K + K) (((pairsAll n).foldl (stepP n k) f) (i * n + j)) := by
  have := fold_inv hk hK hK2 h1 hb (pairsAll n) [] f ⟨fun i j hi hj => bd_mono (hb i j hi hj) (by omega), (fun i j _ _ hd => by obtain ⟨x, hx, _⟩ := hd; cases hx), fun i j _ _ _ => rfl⟩
  intro i j hi hj
  exact ⟨this.yes i j hi hj (pairsUpto_mem (n * n) (Nat.le_refl _) i j hj (place_lt hi hj)), this.bound i j hi hj⟩

theorem diagB_iff {n : Nat} {g : Nat → Int} : diagB n g = true ↔ ∀ i, i < n → 1 ≤ g (i * n + i) := by
  unfold diagB
  rw [List.all_eq_true]
  constructor
  · intro h i hi; simpa using h i (by simpa using hi)
  · intro h x hx; simpa using h x (by simpa using hx)

theorem viaR_congr {n k : Nat} {a b : Nat → Nat → EB} (hk : k < n) (h : ∀ i j, i < n → j < n → a i j = b i j) : ∀ i j, i < n → j < n → viaR a k i j = viaR b k i j := by
  intro i j hi hj
  unfold viaR
  rw [h i j hi hj, h i k hi hk, h k j hk hj]

/-- The rounds of the code are the rounds, none going beyond what may be. -/
theorem rounds_is {n : Nat} {C : Int} {g : Nat → Int} {m : Nat → Nat → EB} (hn : n ≤ 4) (hC : 0 ≤ C) (hC2 : C ≤ 288230376151711744) (hm : ∀ i j, i < n → j < n → eb (g (i * n + j)) = m i j) (h1 : ∀ i, i < n → m i i = some 1) (hb : ∀ i j, i < n → j < n → ebd C (m i j)) :
    ∀ k, k ≤ n → match roundsI n g k, roundsR n m k with
      | none, none => True
      | some a, some b => ∀ i j, i < n → j < n → eb (a (i * n + j)) = b i j
      | _, _ => False
  | 0, _ => by simpa [roundsI, roundsR] using hm
  | k + 1, hk => by
    have ih := rounds_is hn hC hC2 hm h1 hb k (by omega)
    have hkn : k < n := by omega
    unfold roundsI roundsR
    cases ha : roundsI n g k with
    | none =>
      rw [ha] at ih
      cases hr : roundsR n m k with
      | none => trivial
      | some b => rw [hr] at ih; exact ih.elim
    | some a =>
      rw [ha] at ih
      cases hr : roundsR n m k with
      | none => rw [hr] at ih; exact ih.elim
      | some b =>
        rw [hr] at ih
        simp only at ih ⊢
        have ri := rounds_inv h1 k b (by omega) hr
        have rb := rounds_bd hC h1 hb (k := k) (by omega) hr
        have hkC : ((k : Int) + 1) * C ≤ 4 * C := Int.mul_le_mul_of_nonneg_right (by omega) hC
        have hab : ∀ i j, i < n → j < n → bd (4 * C) (a (i * n + j)) := fun i j hi hj => bd_iff.2 (by rw [ih i j hi hj]; exact ebd_mono (rb i j hi hj) hkC)
        have ha1 : a (k * n + k) = 1 := eb_inj (by rw [ih k k hkn hkn, ri.diag k hkn, eb_one])
        have hr2 := round_is (K := 4 * C) hkn (by omega) (by omega) ha1 hab
        have hv := viaR_congr hkn (a := mE n a) (b := b) (fun i j hi hj => ih i j hi hj)
        have hd : diagB n ((pairsAll n).foldl (stepP n k) a) = true ↔ ∀ i, i < n → ele (some 1) (viaR b k i i) := by
          rw [diagB_iff]
          constructor
          · intro h i hi
            have := (ele_one_iff (hr2 i i hi hi).2 (by omega) (by omega)).1 (h i hi)
            rwa [(hr2 i i hi hi).1, hv i i hi hi] at this
          · intro h i hi
            refine (ele_one_iff (hr2 i i hi hi).2 (by omega) (by omega)).2 ?_
            rw [(hr2 i i hi hi).1, hv i i hi hi]
            exact h i hi
        by_cases hD : ∀ i, i < n → ele (some 1) (viaR b k i i)
        · rw [if_pos (hd.2 hD), if_pos hD]
          intro i j hi hj
          rw [(hr2 i j hi hj).1, hv i j hi hj]
        · rw [if_neg (fun h => hD (hd.1 h)), if_neg hD]
          trivial

theorem diagLoop_is {n : Nat} {f : Nat → Int} : ∀ t, t ≤ n → match diagLoop n f t with
    | none => ∃ i, i < t ∧ f (i * n + i) < 1
    | some g => (∀ i, i < t → 1 ≤ f (i * n + i)) ∧ ∀ i j, i < n → j < n → g (i * n + j) = if i = j ∧ i < t then 1 else f (i * n + j)
  | 0, _ => by simp [diagLoop]
  | t + 1, ht => by
    have ih := diagLoop_is (n := n) (f := f) t (by omega)
    unfold diagLoop
    cases hg : diagLoop n f t with
    | none =>
      rw [hg] at ih
      obtain ⟨i, hi, hv⟩ := ih
      exact ⟨i, by omega, hv⟩
    | some g =>
      rw [hg] at ih
      obtain ⟨i1, i2⟩ := ih
      have htn : t < n := by omega
      have hgt : g (t * n + t) = f (t * n + t) := by rw [i2 t t htn htn, if_neg (by omega)]
      simp only
      by_cases hv : 1 ≤ g (t * n + t)
      · rw [if_pos hv]
        refine ⟨fun i hi => ?_, fun i j hi hj => ?_⟩
        · by_cases e : i = t
          · subst e; rw [← hgt]; exact hv
          · exact i1 i (by omega)
        · unfold upd
          by_cases e : i * n + j = t * n + t
          · obtain ⟨rfl, rfl⟩ := place_inj hj htn e
            rw [if_pos rfl, if_pos ⟨rfl, by omega⟩]
          · rw [if_neg e, i2 i j hi hj]
            by_cases hij : i = j
            · subst hij
              have : i ≠ t := fun h => e (by rw [h])
              by_cases h2 : i < t
              · rw [if_pos ⟨rfl, h2⟩, if_pos ⟨rfl, by omega⟩]
              · rw [if_neg (by omega), if_neg (by omega)]
            · rw [if_neg (by omega), if_neg (by omega)]
      · rw [if_neg hv]
        exact ⟨t, by omega, by rw [← hgt]; omega⟩

/-- The closed one of the code is the closed one. -/
theorem closeI_is {n : Nat} {f : Nat → Int} (hn : n ≤ 4) (hb : ∀ i j, i < n → j < n → bd 288230376151711744 (f (i * n + j))) : match closeI n f, closeE n (mE n f) with
    | none, none => True
    | some c, some e => ∀ i j, i < n → j < n → eb (c (i * n + j)) = e i j
    | _, _ => False := by
  have hd := diagLoop_is (n := n) (f := f) n (Nat.le_refl _)
  have one := fun i (hi : i < n) => ele_one_iff (hb i i hi hi) (by omega) (by omega)
  unfold closeI closeE
  cases hg : diagLoop n f n with
  | none =>
    rw [hg] at hd
    obtain ⟨i, hi, hv⟩ := hd
    rw [if_neg (fun (h : ∀ i, i < n → ele (some 1) (mE n f i i)) => by have := (one i hi).2 (h i hi); omega)]
    trivial
  | some g =>
    rw [hg] at hd
    obtain ⟨h1, h2⟩ := hd
    rw [if_pos (show ∀ i, i < n → ele (some 1) (mE n f i i) from fun i hi => (one i hi).1 (h1 i hi))]
    refine rounds_is (C := 288230376151711744) hn (by omega) (by omega) (fun i j hi hj => ?_) (fun i _ => diag1_diag _ i) (fun i j hi hj => ?_) n (Nat.le_refl _)
    · rw [h2 i j hi hj]
      unfold diag1
      by_cases e : i = j
      · rw [if_pos ⟨e, hi⟩, if_pos e]; exact eb_one
      · rw [if_neg (by omega), if_neg e]; rfl
    · unfold diag1
      by_cases e : i = j
      · rw [if_pos e]; simp [ebd]
      · rw [if_neg e]; exact bd_iff.1 (hb i j hi hj)
end Go.Proofs.YtpmpapenjcemjaaGreatDoor

namespace Go.Proofs.YtpmpapenjcemjaaGreatDoor
set_option linter.unusedSimpArgs false
set_option linter.unusedVariables false
open Go Go.RowKit

theorem rounds_bd3 {n : Nat} {m : Nat → Nat → EB} {C : Int} (hn0 : 1 ≤ n) (hC : 0 ≤ C) (h : ∀ i, i < n → m i i = some 1) (hb : ∀ i j, i < n → j < n → ebd C (m i j)) {a : Nat → Nat → EB} (e : roundsR n m n = some a) : ∀ i j, i < n → j < n → ebd (((n : Int) - 1) * C) (a i j) := by
  intro i j hi hj
  have hkC : 0 ≤ ((n : Int) - 1) * C := Int.mul_nonneg (by omega) hC
  rcases rounds_simple h n a (Nat.le_refl _) e i j hi hj with h1 | ⟨_, h1⟩ | ⟨hij, l, h2, h3, h4⟩
  · rw [h1]; trivial
  · rw [h1]; simp [ebd]; omega
  · rw [h4]
    refine ebd_mono (wsum_bd hb l i j hi hj (fun v hv => (h3 v hv).1)) ?_
    have h5 : (i :: j :: l).Nodup := by
      refine List.nodup_cons.2 ⟨fun hm => ?_, List.nodup_cons.2 ⟨fun hm => (h3 j hm).2.2 rfl, h2⟩⟩
      rcases List.mem_cons.1 hm with hm | hm
      · exact hij hm
      · exact (h3 i hm).2.1 rfl
    have := nodup_len n (i :: j :: l) h5 (fun v hv => by
      rcases List.mem_cons.1 hv with hv | hv
      · omega
      · rcases List.mem_cons.1 hv with hv | hv
        · omega
        · exact (h3 v hv).1)
    simp only [List.length_cons] at this
    exact Int.mul_le_mul_of_nonneg_right (by omega) hC

theorem mayB_bd {x : Int} (h : mayB x = true) : bd 288230376151711744 x := by
  simp [mayB] at h
  rcases h with h | h
  · exact .inl h
  · exact .inr ⟨by omega, by omega⟩
theorem bd_mayB {x : Int} (h : bd 288230376151711744 x) : mayB x = true := by
  simp [mayB]
  rcases h with h | h
  · exact .inl h
  · exact .inr ⟨by omega, by omega⟩
theorem allMay_iff {N : Nat} {f : Nat → Int} : allMay N f = true ↔ ∀ x, x < N → mayB (f x) = true := by
  unfold allMay; rw [List.all_eq_true]
  constructor
  · intro h x hx; exact h x (by simpa using hx)
  · intro h x hx; exact h x (by simpa using hx)
/-- What may be. -/
theorem okD_bd {n : Nat} {f : Nat → Int} (h : okD n (n * n) f = true) : 1 ≤ n ∧ n ≤ 4 ∧ ∀ i j, i < n → j < n → bd 288230376151711744 (f (i * n + j)) := by
  simp only [okD, Bool.and_eq_true, decide_eq_true_eq] at h
  obtain ⟨h1, h2, _, h4⟩ := h
  exact ⟨by omega, by omega, fun i j hi hj => mayB_bd (allMay_iff.1 h4 _ (place_lt hi hj))⟩
theorem okD_form {n : Int} {N : Nat} {f : Nat → Int} (h : okD n N f = true) : ∃ m : Nat, n = (m : Int) ∧ N = m * m ∧ 1 ≤ m ∧ m ≤ 4 := by
  simp only [okD, Bool.and_eq_true, decide_eq_true_eq] at h
  obtain ⟨h1, h2, h3, _⟩ := h
  obtain ⟨m, rfl⟩ : ∃ m : Nat, n = (m : Int) := ⟨n.toNat, by omega⟩
  exact ⟨m, rfl, by exact_mod_cast h3, by omega, by omega⟩

/-- All that is known of a closed one. -/
structure ClosedI (n : Nat) (f c : Nat → Int) : Prop where
  ex : ∃ e, closeE n (mE n f) = some e ∧ ∀ i j, i < n → j < n → eb (c (i * n + j)) = e i j
  bound : ∀ i j, i < n → j < n → bd 864691128455135232 (c (i * n + j))

theorem close_facts {n : Nat} {f c : Nat → Int} (hn0 : 1 ≤ n) (hn : n ≤ 4) (hb : ∀ i j, i < n → j < n → bd 288230376151711744 (f (i * n + j))) (h : closeI n f = some c) : ClosedI n f c := by
  have hi := closeI_is hn hb
  rw [h] at hi
  cases he : closeE n (mE n f) with
  | none => rw [he] at hi; exact hi.elim
  | some e =>
    rw [he] at hi
    refine ⟨⟨e, he, hi⟩, fun i j hi' hj => bd_iff.2 ?_⟩
    rw [hi i j hi' hj]
    have he2 := he
    unfold closeE at he2
    split at he2
    · have := rounds_bd3 (C := 288230376151711744) hn0 (by omega) (fun i _ => diag1_diag (mE n f) i) (fun i j hi hj => by
        unfold diag1
        by_cases e : i = j
        · rw [if_pos e]; simp [ebd]
        · rw [if_neg e]; exact bd_iff.1 (hb i j hi hj)) he2 i j hi' hj
      exact ebd_mono this (by omega)
    · cases he2
theorem close_none {n : Nat} {f : Nat → Int} (hn : n ≤ 4) (hb : ∀ i j, i < n → j < n → bd 288230376151711744 (f (i * n + j))) (h : closeI n f = none) : closeE n (mE n f) = none := by
  have hi := closeI_is hn hb
  rw [h] at hi
  cases he : closeE n (mE n f) with
  | none => rfl
  | some e => rw [he] at hi; exact hi.elim

theorem ClosedI.closed {n : Nat} {f c : Nat → Int} (h : ClosedI n f c) : Closed n (mE n c) ∧ Under n (mE n c) (mE n f) := by
  obtain ⟨e, he, hc⟩ := h.ex
  obtain ⟨⟨h1, h2⟩, h3⟩ := closeE_closed he
  have hm : ∀ i j, i < n → j < n → mE n c i j = e i j := hc
  refine ⟨⟨fun i hi => by rw [hm i i hi hi]; exact h1 i hi, fun i j k hi hj hk => by rw [hm i j hi hj, hm i k hi hk, hm k j hk hj]; exact h2 i j k hi hj hk⟩, fun i j hi hj => by rw [hm i j hi hj]; exact h3 i j hi hj⟩
theorem ClosedI.diag {n : Nat} {f c : Nat → Int} (h : ClosedI n f c) {i : Nat} (hi : i < n) : c (i * n + i) = 1 := by
  have := h.closed.1.1 i hi
  exact eb_inj (by rw [eb_one]; exact this)
/-- No bound is greater than the sum by a third clock. -/
theorem ClosedI.tri {n : Nat} {f c : Nat → Int} (h : ClosedI n f c) {i j k : Nat} (hi : i < n) (hj : j < n) (hk : k < n) : (addR (c (i * n + k)) (c (k * n + j))).2 = 0 ∧ c (i * n + j) ≤ (addR (c (i * n + k)) (c (k * n + j))).1 := by
  obtain ⟨x1, x2, x3⟩ := addR_exact (h.bound i k hi hk) (h.bound k j hk hj) (by omega) (by omega) (by omega)
  refine ⟨x2, ?_⟩
  have hl := lt_iff_ele x3 (h.bound i j hi hj) (by omega) (by omega)
  have ht := h.closed.1.2 i j k hi hj hk
  rw [x1] at hl
  have := mt hl.1 (fun hn => hn ht)
  omega
theorem mE_under {n : Nat} {K L : Int} {f g : Nat → Int} (hK : K ≤ 2305843009213693952) (hL : L ≤ 2305843009213693952) (hf : ∀ i j, i < n → j < n → bd K (f (i * n + j))) (hg : ∀ i j, i < n → j < n → bd L (g (i * n + j))) : Under n (mE n f) (mE n g) ↔ ∀ i j, i < n → j < n → f (i * n + j) ≤ g (i * n + j) := by
  constructor
  · intro h i j hi hj
    have := mt (lt_iff_ele (hg i j hi hj) (hf i j hi hj) hL hK).1 (fun hn => hn (h i j hi hj))
    omega
  · intro h i j hi hj
    exact Classical.byContradiction fun hn => by
      have := (lt_iff_ele (hg i j hi hj) (hf i j hi hj) hL hK).2 hn
      have := h i j hi hj
      omega
theorem at_place {n x : Nat} (hx : x < n * n) : ∃ i j, i < n ∧ j < n ∧ x = i * n + j := by
  have hn : 0 < n := by
    rcases Nat.eq_zero_or_pos n with h | h
    · subst h; omega
    · exact h
  refine ⟨x / n, x % n, Nat.div_lt_of_lt_mul hx, Nat.mod_lt _ hn, ?_⟩
  have := Nat.div_add_mod x n
  rw [Nat.mul_comm] at this
  omega
/-- A closed one that may be handed in is closed to itself. -/
theorem ClosedI.again {n : Nat} {f c : Nat → Int} (h : ClosedI n f c) (hn0 : 1 ≤ n) (hn : n ≤ 4) (hok : okD n (n * n) c = true) : ∃ c2, closeR n (n * n) c = (some c2, 0) ∧ ∀ x, x < n * n → c2 x = c x := by
  obtain ⟨_, _, hb⟩ := okD_bd hok
  obtain ⟨e, he, hee⟩ := closeE_self h.closed.1
  have hi := closeI_is hn hb
  rw [he] at hi
  cases hc : closeI n c with
  | none => rw [hc] at hi; exact hi.elim
  | some c2 =>
    rw [hc] at hi
    refine ⟨c2, ?_, fun x hx => ?_⟩
    · unfold closeR; rw [hok, if_pos rfl, show ((n : Int)).toNat = n from rfl, hc]
    · obtain ⟨i, j, hi', hj, rfl⟩ := at_place hx
      exact eb_inj (by rw [hi i j hi' hj, hee i j hi' hj]; rfl)
end Go.Proofs.YtpmpapenjcemjaaGreatDoor

namespace Go.Proofs.YtpmpapenjcemjaaGreatDoor
set_option linter.unusedSimpArgs false
set_option linter.unusedVariables false
open Go Go.RowKit Go.Shelf
attribute [local go_sem] Nat.add_assoc Nat.add_lt_add_iff_left lit_lt_add

/-- Are two lists of numbers the same? -/
def eqB (N : Nat) (f1 f2 : Nat → Int) : Bool := (List.range N).all fun x => decide (f1 x = f2 x)
def sameB (n1 : Int) (N1 : Nat) (f1 : Nat → Int) (n2 : Int) (N2 : Nat) (f2 : Nat → Int) : Bool := decide (n1 = n2) && (decide (N1 = N2) && eqB N1 f1 f2)
theorem eqB_t {N : Nat} {f1 f2 : Nat → Int} (h : ∀ x, x < N → f1 x = f2 x) : eqB N f1 f2 = true := by
  unfold eqB; rw [List.all_eq_true]; intro x hx; simpa using h x (by simpa using hx)
theorem eqB_f {N t : Nat} {f1 f2 : Nat → Int} (ht : t < N) (h : f1 t ≠ f2 t) : eqB N f1 f2 = false := by
  unfold eqB; rw [List.all_eq_false]; exact ⟨t, by simpa using ht, by simpa using h⟩
theorem eqB_iff {N : Nat} {f1 f2 : Nat → Int} : eqB N f1 f2 = true ↔ ∀ x, x < N → f1 x = f2 x := by
  unfold eqB; rw [List.all_eq_true]
  constructor
  · intro h x hx; simpa using h x (by simpa using hx)
  · intro h x hx; simpa using h x (by simpa using hx)

theorem SlP.pos {W : World} {p : Option Addr} {N : Nat} {f : Nat → Int} (h : SlP W p N f) (h0 : 0 < N) : ∃ B off, p = some ⟨B, off, none⟩ ∧ B < W.heap.size ∧ ∀ x, x < N → W.cell? ⟨B, off + x, none⟩ = some (.int .i64 (f x)) := by
  rcases h with h | h
  · omega
  · exact h

set_option maxRecDepth 10000 in
set_option maxHeartbeats 2000000 in
theorem refSame_any (n1 n2 : Int) (p1 p2 : Option Addr) (N1 N2 c1 c2 : Nat) (f1 f2 : Nat → Int) (w : World) (hS1 : SlP w p1 N1 f1) (hS2 : SlP w p2 N2 f2) (hN : N1 ≤ 1000000) :
    Calls Tryz.prog 119 #[.agg #[.int .i64 n1, .slice p1 N1 c1], .agg #[.int .i64 n2, .slice p2 N2 c2]] w (Gives w (.bool (sameB n1 N1 f1 n2 N2 f2))) := by
  by_cases hn : n1 = n2
  · have e1 := bne_f hn
    by_cases hNN : N1 = N2
    · subst hNN
      subst hn
      have R : Hid (sameB n1 N1 f1 n1 N1 f2 = eqB N1 f1 f2) := by show _ = _; simp [sameB]
      go_enter Tryz.func119, Tryz.ntmps119
      go_wp2
      go_loopw [5] (fun i wr => ∃ t : Nat, t ≤ N1 ∧ i = .int .i64 t ∧ Hid (∀ x, x < t → f1 x = f2 x) ∧ ∃ m, wr = (((w.alloc (.cells #[.int .i64 n1, .slice p1 N1 c1] 96)).alloc (.cells #[.int .i64 n1, .slice p2 N1 c2] 96)).drewN m))
        (fun i _ => N1 - (intOf i).toNat)
      case atStart => exact ⟨0, Nat.zero_le _, rfl, (fun x hx => by omega), 0, rfl⟩
      case round =>
        obtain ⟨t, ht, rfl, hpre, m, rfl⟩ := hrel
        by_cases hlt : t < N1
        · obtain ⟨B1, o1, rfl, hB1, h1⟩ := hS1.pos (by omega)
          obtain ⟨B2, o2, rfl, hB2, h2⟩ := hS2.pos (by omega)
          have g1 := h1 t hlt
          have g2 := h2 t hlt
          obtain ⟨v1, hv1⟩ : ∃ v, v = f1 t := ⟨_, rfl⟩
          obtain ⟨v2, hv2⟩ : ∃ v, v = f2 t := ⟨_, rfl⟩
          rw [← hv1] at g1
          rw [← hv2] at g2
          have HV1 := Lib.hid hv1
          have HV2 := Lib.hid hv2
          clear hv1 hv2 h1 h2
          have u1 : (0 : Int) ≤ (t : Int) := by omega
          have u2 : (t : Int) < (N1 : Int) := by omega
          by_cases hv : v1 = v2
          · have e2 := bne_f hv
            have HV := Lib.hid hv
            clear hv
            go_wp2
            go_quiet (fail)
            go_wp2
            go_roundw
            case rel =>
              refine ⟨t + 1, hlt, by go_num, fun x hx => ?_, _, rfl⟩
              by_cases e : x = t
              · subst e; rw [← HV1.out, ← HV2.out]; exact HV.out
              · exact hpre.out x (by omega)
            case measure => simp [intOf]; omega
          · have e2 := bne_t hv
            go_wp2
            go_quiet (fail)
            go_wp2
            go_ret
            exact gives_bool (by rw [R.out, eqB_f hlt (by rw [← HV1.out, ← HV2.out]; exact hv)]) (by (repeat' (first | (with_reducible assumption) | (with_reducible exact Below.refl _ _) | (with_reducible refine below_wov ?_ ?_ _) | (with_reducible refine below_drewN ?_ _) | (with_reducible refine Below.drew ?_) | (with_reducible refine Below.alloc ?_ ?_ _) | (with_reducible refine Below.setCell ?_ ?_ _) | (with_reducible exact Nat.le_refl _) | omega | (simp only [World.size_alloc, World.size_setCell, World.size_drew, Wov_size, World.heap_drewN]; omega))))
        · have e : t = N1 := by omega
          subst e
          go_wp2
          go_ret
          exact gives_bool (by rw [R.out, eqB_t hpre.out]) (by (repeat' (first | (with_reducible assumption) | (with_reducible exact Below.refl _ _) | (with_reducible refine below_wov ?_ ?_ _) | (with_reducible refine below_drewN ?_ _) | (with_reducible refine Below.drew ?_) | (with_reducible refine Below.alloc ?_ ?_ _) | (with_reducible refine Below.setCell ?_ ?_ _) | (with_reducible exact Nat.le_refl _) | omega | (simp only [World.size_alloc, World.size_setCell, World.size_drew, Wov_size, World.heap_drewN]; omega))))
    · have R : Hid (sameB n1 N1 f1 n2 N2 f2 = false) := by show _ = _; simp [sameB, hNN]
      have e2 : ((N1 : Int) != (N2 : Int)) = true := by rw [bne_iff_ne]; omega
      clear hS1 hS2 hn
      go_enter Tryz.func119, Tryz.ntmps119
      go_wp2
      all_goals
        go_ret
        exact gives_bool (by rw [R.out]) (by (repeat' (first | (with_reducible assumption) | (with_reducible exact Below.refl _ _) | (with_reducible refine below_wov ?_ ?_ _) | (with_reducible refine below_drewN ?_ _) | (with_reducible refine Below.drew ?_) | (with_reducible refine Below.alloc ?_ ?_ _) | (with_reducible refine Below.setCell ?_ ?_ _) | (with_reducible exact Nat.le_refl _) | omega | (simp only [World.size_alloc, World.size_setCell, World.size_drew, Wov_size, World.heap_drewN]; omega))))
  · have R : Hid (sameB n1 N1 f1 n2 N2 f2 = false) := by show _ = _; simp [sameB, hn]
    have e1 := bne_t hn
    clear hS1 hS2
    go_enter Tryz.func119, Tryz.ntmps119
    go_wp2
    all_goals
      go_ret
      exact gives_bool (by rw [R.out]) (by (repeat' (first | (with_reducible assumption) | (with_reducible exact Below.refl _ _) | (with_reducible refine below_wov ?_ ?_ _) | (with_reducible refine below_drewN ?_ _) | (with_reducible refine Below.drew ?_) | (with_reducible refine Below.alloc ?_ ?_ _) | (with_reducible refine Below.setCell ?_ ?_ _) | (with_reducible exact Nat.le_refl _) | omega | (simp only [World.size_alloc, World.size_setCell, World.size_drew, Wov_size, World.heap_drewN]; omega))))

set_option maxRecDepth 10000 in
set_option maxHeartbeats 2000000 in
theorem equal_any (p1 p2 : Option Addr) (N1 N2 c1 c2 : Nat) (f1 f2 : Nat → Int) (w : World) (hS1 : SlP w p1 N1 f1) (hS2 : SlP w p2 N2 f2) (hN : N1 ≤ 1000000) :
    Calls Tryz.prog 122 #[.slice p1 N1 c1, .slice p2 N2 c2] w (Gives w (.bool (decide (N1 = N2) && eqB N1 f1 f2))) := by
  by_cases hNN : N1 = N2
  · subst hNN
    have R : Hid ((decide (N1 = N1) && eqB N1 f1 f2) = eqB N1 f1 f2) := by show _ = _; simp
    go_enter Tryz.func122, Tryz.ntmps122
    go_wp2
    go_loopw [5, 13] (fun _ i wr => ∃ t : Nat, t ≤ N1 ∧ i = .int .i64 t ∧ Hid (∀ x, x < t → f1 x = f2 x) ∧ ∃ m, wr = w.drewN m)
      (fun _ i _ => N1 - (intOf i).toNat)
    case atStart => exact ⟨0, Nat.zero_le _, rfl, (fun x hx => by omega), 0, rfl⟩
    case round =>
      obtain ⟨t, ht, rfl, hpre, m, rfl⟩ := hrel
      by_cases hlt : t < N1
      · obtain ⟨B1, o1, rfl, hB1, h1⟩ := hS1.pos (by omega)
        obtain ⟨B2, o2, rfl, hB2, h2⟩ := hS2.pos (by omega)
        have g1 := h1 t hlt
        have g2 := h2 t hlt
        obtain ⟨v1, hv1⟩ : ∃ v, v = f1 t := ⟨_, rfl⟩
        obtain ⟨v2, hv2⟩ : ∃ v, v = f2 t := ⟨_, rfl⟩
        rw [← hv1] at g1
        rw [← hv2] at g2
        have HV1 := Lib.hid hv1
        have HV2 := Lib.hid hv2
        clear hv1 hv2 h1 h2
        have u1 : (0 : Int) ≤ (t : Int) := by omega
        have u2 : (t : Int) < (N1 : Int) := by omega
        by_cases hv : v1 = v2
        · have e2 := bne_f hv
          have HV := Lib.hid hv
          clear hv
          go_wp2
          go_quiet (fail)
          go_wp2
          go_roundw
          case rel =>
            refine ⟨t + 1, hlt, by go_num, fun x hx => ?_, _, rfl⟩
            by_cases e : x = t
            · subst e; rw [← HV1.out, ← HV2.out]; exact HV.out
            · exact hpre.out x (by omega)
          case measure => simp [intOf]; omega
        · have e2 := bne_t hv
          go_wp2
          go_quiet (fail)
          go_wp2
          go_ret
          exact gives_bool (by rw [eqB_f hlt (by rw [← HV1.out, ← HV2.out]; exact hv)]; try rfl) (by (repeat' (first | (with_reducible assumption) | (with_reducible exact Below.refl _ _) | (with_reducible refine below_wov ?_ ?_ _) | (with_reducible refine below_drewN ?_ _) | (with_reducible refine Below.drew ?_) | (with_reducible refine Below.alloc ?_ ?_ _) | (with_reducible refine Below.setCell ?_ ?_ _) | (with_reducible exact Nat.le_refl _) | omega | (simp only [World.size_alloc, World.size_setCell, World.size_drew, Wov_size, World.heap_drewN]; omega))))
      · have e : t = N1 := by omega
        subst e
        go_wp2
        go_ret
        exact gives_bool (by rw [eqB_t hpre.out]; try rfl) (by (repeat' (first | (with_reducible assumption) | (with_reducible exact Below.refl _ _) | (with_reducible refine below_wov ?_ ?_ _) | (with_reducible refine below_drewN ?_ _) | (with_reducible refine Below.drew ?_) | (with_reducible refine Below.alloc ?_ ?_ _) | (with_reducible refine Below.setCell ?_ ?_ _) | (with_reducible exact Nat.le_refl _) | omega | (simp only [World.size_alloc, World.size_setCell, World.size_drew, Wov_size, World.heap_drewN]; omega))))
  · have R : Hid ((decide (N1 = N2) && eqB N1 f1 f2) = false) := by show _ = _; simp [hNN]
    have e2 : ((N1 : Int) != (N2 : Int)) = true := by rw [bne_iff_ne]; omega
    clear hS1 hS2
    go_enter Tryz.func122, Tryz.ntmps122
    go_wp2
    all_goals
      go_ret
      exact gives_bool (by first | rw [R.out] | simp [hNN]) (by (repeat' (first | (with_reducible assumption) | (with_reducible exact Below.refl _ _) | (with_reducible refine below_wov ?_ ?_ _) | (with_reducible refine below_drewN ?_ _) | (with_reducible refine Below.drew ?_) | (with_reducible refine Below.alloc ?_ ?_ _) | (with_reducible refine Below.setCell ?_ ?_ _) | (with_reducible exact Nat.le_refl _) | omega | (simp only [World.size_alloc, World.size_setCell, World.size_drew, Wov_size, World.heap_drewN]; omega))))

set_option maxRecDepth 10000 in
set_option maxHeartbeats 2000000 in
theorem same_any (n1 n2 : Int) (p1 p2 : Option Addr) (N1 N2 c1 c2 : Nat) (f1 f2 : Nat → Int) (w : World) (hS1 : SlP w p1 N1 f1) (hS2 : SlP w p2 N2 f2) (hN : N1 ≤ 1000000) :
    Calls Tryz.prog 75 #[.agg #[.int .i64 n1, .slice p1 N1 c1], .agg #[.int .i64 n2, .slice p2 N2 c2]] w (Gives w (.bool (sameB n1 N1 f1 n2 N2 f2))) := by
  by_cases hn : n1 = n2
  · have e1 : (n1 == n2) = true := by simpa using hn
    have R : Hid (sameB n1 N1 f1 n2 N2 f2 = (decide (N1 = N2) && eqB N1 f1 f2)) := by show _ = _; simp [sameB, hn]
    have C : Hid (∀ w', Below w.heap.size w w' → Calls Tryz.prog 122 #[.slice p1 N1 c1, .slice p2 N2 c2] w' (Gives w' (.bool (decide (N1 = N2) && eqB N1 f1 f2)))) := fun w' hb =>
      equal_any p1 p2 N1 N2 c1 c2 f1 f2 w' (hS1.below hb) (hS2.below hb) hN
    obtain ⟨b, hb⟩ : ∃ b, b = (decide (N1 = N2) && eqB N1 f1 f2) := ⟨_, rfl⟩
    rw [← hb] at C R
    clear hS1 hS2 hn hb
    go_enter Tryz.func75, Tryz.ntmps75
    go_wp2_with (fail)
    refine (C.out _ (by (repeat' (first | (with_reducible assumption) | (with_reducible exact Below.refl _ _) | (with_reducible refine below_wov ?_ ?_ _) | (with_reducible refine below_drewN ?_ _) | (with_reducible refine Below.drew ?_) | (with_reducible refine Below.alloc ?_ ?_ _) | (with_reducible refine Below.setCell ?_ ?_ _) | (with_reducible exact Nat.le_refl _) | omega | (simp only [World.size_alloc, World.size_setCell, World.size_drew, Wov_size, World.heap_drewN]; omega))))).mono ?_; rintro e w' ⟨rfl, q, rfl⟩
    go_wp2
    go_ret
    exact gives_bool (by rw [R.out]) (by (repeat' (first | (with_reducible assumption) | (with_reducible exact Below.refl _ _) | (with_reducible refine below_wov ?_ ?_ _) | (with_reducible refine below_drewN ?_ _) | (with_reducible refine Below.drew ?_) | (with_reducible refine Below.alloc ?_ ?_ _) | (with_reducible refine Below.setCell ?_ ?_ _) | (with_reducible exact Nat.le_refl _) | omega | (simp only [World.size_alloc, World.size_setCell, World.size_drew, Wov_size, World.heap_drewN]; omega))))
  · have R : Hid (sameB n1 N1 f1 n2 N2 f2 = false) := by show _ = _; simp [sameB, hn]
    have e1 := beq_f hn
    clear hS1 hS2
    go_enter Tryz.func75, Tryz.ntmps75
    go_wp2
    go_ret
    exact gives_bool (by rw [R.out]) (by (repeat' (first | (with_reducible assumption) | (with_reducible exact Below.refl _ _) | (with_reducible refine below_wov ?_ ?_ _) | (with_reducible refine below_drewN ?_ _) | (with_reducible refine Below.drew ?_) | (with_reducible refine Below.alloc ?_ ?_ _) | (with_reducible refine Below.setCell ?_ ?_ _) | (with_reducible exact Nat.le_refl _) | omega | (simp only [World.size_alloc, World.size_setCell, World.size_drew, Wov_size, World.heap_drewN]; omega))))

def four (a b c d : Int) : Nat → Int
  | 0 => a
  | 1 => b
  | 2 => c
  | _ => d
def twoPost (w : World) (a b c d : Int) (e : Ending) (W : World) : Prop := ∃ B, e = .returned (.agg #[.int .i64 2, .slice (some ⟨B, 0, none⟩) 4 4]) ∧ w.heap.size ≤ B ∧ B < W.heap.size ∧ HoldsI W B 4 (four a b c d) ∧ ∃ q, W = Wov w q
end Go.Proofs.YtpmpapenjcemjaaGreatDoor

namespace Go.Proofs.YtpmpapenjcemjaaGreatDoor
set_option linter.unusedSimpArgs false
set_option linter.unusedVariables false
open Go Go.RowKit Go.Shelf
attribute [local go_sem] Oper.semAt_some Nat.add_assoc Nat.add_lt_add_iff_left lit_lt_add

/-- The matrix that all times keep, of n clocks. -/
def topF (n : Nat) : Nat → Int := fun x => if x / n = x % n then 1 else noneB
def topV {n : Nat} (x : PairC n) : Int := if x.1.1 = x.1.2 then 1 else noneB
theorem topV_upto (n : Nat) : ∀ (k : Nat) (h : k ≤ n * n), (pairsUpto n k h).map (fun x => Value.int .i64 (topV x)) = cellsI k (topF n)
  | 0, _ => rfl
  | k + 1, h => by rw [pairsUpto, List.map_append, topV_upto n k, cellsI_succ]; rfl

/-- What holds between two rounds of Top, of All: the matrix under way lies in block D, its bounds in a row of the call's own. -/
structure TopI (w : World) (n H D base : Nat) (vs : List Value) (W : World) : Prop where
  below : Below w.heap.size w W
  size : base ≤ W.heap.size
  d0 : W.cell? ⟨D, 0, none⟩ = some (.int .i64 n)
  res0 : W.cell? ⟨H, 0, none⟩ = some (.int .i64 0)
  res1 : W.cell? ⟨H, 1, none⟩ = some (.slice none 0 0)
  fr0 : W.frozen? ⟨H, 0, none⟩ = false
  fr1 : W.frozen? ⟨H, 1, none⟩ = false
  fd : W.frozen? ⟨D, 1, none⟩ = false
  row : ∃ v, W.cell? ⟨D, 1, none⟩ = some v ∧ W.ownsRow base 47 1 v vs.length vs

theorem topI_own (w : World) (n H D base : Nat) {β : Type} (F : β → List Value) (n0 : Nat) (hw : w.heap.size ≤ n0) : OwnFrom n0 (fun (s : β) W => TopI w n H D base (F s) W) := fun s A B row hs hg hr => by
  have hr2 := fun r e => (hr r e).2
  refine ⟨?_, Nat.le_trans hs.size hg.size, cell_kept hs.d0 hg hr2, cell_kept hs.res0 hg hr2, cell_kept hs.res1 hg hr2, (frozen_kept hs.res0 hg hr2).trans hs.fr0, (frozen_kept hs.res1 hg hr2).trans hs.fr1, ?_, ?_⟩
  · exact hs.below.trans ⟨hg.os, hg.tape, hg.output, by have := hg.size; have := hs.below.size; omega, fun k hk => hg.block k (Nat.lt_of_lt_of_le hk hs.below.size) (fun e => by have := (hr k e.symm).1; omega)⟩
  · obtain ⟨v, hv, _⟩ := hs.row
    exact (frozen_kept hv hg hr2).trans hs.fd
  · obtain ⟨v, hv, ho⟩ := hs.row
    refine ⟨v, cell_kept hv hg hr2, ho.kept hg ?_⟩
    rcases ho.2 with ⟨rfl, _⟩ | ⟨g, cap, cur, rfl, _, hgb, _⟩
    · exact .inl rfl
    · refine .inr fun e => ?_
      obtain ⟨o, ho1, ho2⟩ := hr2 g (by simpa [Value.ownBlock] using e.symm)
      rw [hgb] at ho1; cases ho1; cases ho2

/-- Behind an append to a row of the call's own: what lies below the rows is as it was. -/
theorem app_below {W w1 : World} {base e k : Nat} {v : Value} {xs : List Value} {tmp : Obj} (hrow : W.ownsRow base e 1 v k xs) (hb : base ≤ W.heap.size) (hgrow : (W.alloc tmp).grownBy w1 v.ownBlock) : Below base W w1 :=
  ((Below.refl base W).alloc hb tmp).grown hgrow (by simp; omega) (fun j ej => by
    rcases hrow.2 with ⟨rfl, _⟩ | ⟨g, cap, cur, rfl, hg, _⟩
    · simp [Value.ownBlock] at ej
    · obtain rfl : g = j := by simpa [Value.ownBlock] using ej
      exact hg)
theorem app_keeps {W w1 : World} {base e k : Nat} {v : Value} {xs : List Value} {tmp : Obj} (hrow : W.ownsRow base e 1 v k xs) (hgrow : (W.alloc tmp).grownBy w1 v.ownBlock) : KeepsOthers W w1 :=
  (KeepsOthers.alloc W tmp).trans (KeepsOthers.of_grownBy hgrow fun j o ej hj => by
    rcases (hrow.alloc tmp).2 with ⟨rfl, _⟩ | ⟨g, cap, cur, rfl, _, hgb, _⟩
    · simp [Value.ownBlock] at ej
    · obtain rfl : g = j := by simpa [Value.ownBlock] using ej
      rw [hgb] at hj; cases hj; rfl)
theorem row_set {W : World} {base e k D x : Nat} {v v2 : Value} {xs : List Value} (hrow : W.ownsRow base e 1 v k xs) (hD : D < base) : (W.setCell ⟨D, x, none⟩ v2).ownsRow base e 1 v k xs := by
  refine hrow.kept (row := some D) ⟨rfl, rfl, rfl, by simp [World.setCell], fun j hj hne => Below.heap_setCell _ _ _ j (fun e => hne (by rw [e]))⟩ ?_
  rcases hrow.2 with ⟨rfl, _⟩ | ⟨g, cap, cur, rfl, hg, _⟩
  · exact .inl rfl
  · refine .inr fun e => ?_
    have : g = D := by simpa [Value.ownBlock] using e
    omega

/-- The invariant behind one more append, and the store back. -/
theorem TopI.step {w W w1 : World} {n H D base : Nat} {vs : List Value} {v v' u : Value} {tmp : Obj} (h : TopI w n H D base vs W) (hwH : w.heap.size ≤ H) (hHD : H < D) (hD : D < base) (hv : W.cell? ⟨D, 1, none⟩ = some v) (hrow : W.ownsRow base 47 1 v vs.length vs)
    (hown : w1.ownsRow base 47 1 v' (vs.length + 1) (vs ++ [u])) (hgrow : (W.alloc tmp).grownBy w1 v.ownBlock) : TopI w n H D base (vs ++ [u]) (w1.setCell ⟨D, 1, none⟩ v') := by
  have hb := app_below hrow h.size hgrow
  have c1 := (hb.cell (p := ⟨D, 1, none⟩) hD).trans hv
  refine ⟨((h.below.trans (hb.mono (by omega))).setCell (p := ⟨D, 1, none⟩) (by simp; omega) _), by have := h.size; have := hb.size; simp [World.setCell]; omega, ?_, ?_, ?_, ?_, ?_, ?_, v', ?_, ?_⟩
  · rw [World.cell?_setCell_other _ _ _ _ (by simp)]; exact (hb.cell (p := ⟨D, 0, none⟩) hD).trans h.d0
  · rw [World.cell?_setCell_other _ _ _ _ (fun e => by have := congrArg Addr.block e; simp at this; omega)]; exact (hb.cell (p := ⟨H, 0, none⟩) (by simp; omega)).trans h.res0
  · rw [World.cell?_setCell_other _ _ _ _ (fun e => by have := congrArg Addr.block e; simp at this; omega)]; exact (hb.cell (p := ⟨H, 1, none⟩) (by simp; omega)).trans h.res1
  · rw [World.frozen?_setCell]; exact (hb.frozen (p := ⟨H, 0, none⟩) (by simp; omega)).trans h.fr0
  · rw [World.frozen?_setCell]; exact (hb.frozen (p := ⟨H, 1, none⟩) (by simp; omega)).trans h.fr1
  · rw [World.frozen?_setCell]; exact (hb.frozen (p := ⟨D, 1, none⟩) hD).trans h.fd
  · rw [setCell_cell_self, c1]; rfl
  · rw [List.length_append]; exact row_set hown hD

def topPost (w : World) (n : Nat) (e : Ending) (W : World) : Prop := ∃ B cap, e = .returned (.tuple #[.agg #[.int .i64 n, .slice (some ⟨B, 0, none⟩) (n * n) cap], .int .i64 0]) ∧ w.heap.size ≤ B ∧ B < W.heap.size ∧ HoldsI W B (n * n) (topF n) ∧ ∃ q, W = Wov w q
theorem wpIn_world {F : Fence} {r : Nat} {P : Program} {c : Code} {Q : Exit → Act → World → Prop} {a : Act} {W0 : World} (S : World → Prop) (hS : S W0) (h : ∀ W, S W → c.wpIn F r P Q a W) : c.wpIn F r P Q a W0 := h _ hS

set_option maxRecDepth 100000 in
set_option maxHeartbeats 4000000 in
theorem top_in (n : Nat) (w : World) (hn0 : 1 ≤ n) (hn : n ≤ 4) : CallsIn Fence.wide 3 Tryz.prog 89 #[.int .i64 n] w (topPost w n) := by
  have hq0 : n * n ≤ 4 * 4 := Nat.mul_le_mul hn hn
  have hq1 : 1 * 1 ≤ n * n := Nat.mul_le_mul hn0 hn0
  obtain ⟨i0, hi, hz0, hz1, hz2⟩ := info_parts infoB
  have HI := Lib.hid hi
  have HZ := Lib.hid hz0
  have H1 := Lib.hid hz1
  have H2 := Lib.hid hz2
  clear hi hz0 hz1 hz2
  refine callsIn_of_wp_marks Tryz.func89 rfl trivial ?_ rfl
  simp only [Tryz.ntmps89, List.size_toArray, List.length_cons, List.length_nil, Nat.reduceAdd, Nat.reduceSub, Array.replicate_succ, Array.replicate_zero, List.push_toArray, List.append_toArray, List.nil_append, List.cons_append]
  gi_wp2_with (refine ⟨trivial, ?_⟩; gi_at_call 86; refine (callsIn_wide.2 (pairs_any _ _)).mono ?_; rintro e w' ⟨rfl, rfl⟩)
  refine wpIn_world (fun W => W.heap.size = w.heap.size + 3 ∧ TopI w n w.heap.size (w.heap.size + 1) W.heap.size [] W ∧ W.cell? ⟨w.heap.size + 2, 0, none⟩ = some (.int .i64 n)) ⟨by simp, ⟨by (repeat' (first | (with_reducible assumption) | (with_reducible exact Below.refl _ _) | (with_reducible refine below_wov ?_ ?_ _) | (with_reducible refine below_drewN ?_ _) | (with_reducible refine Below.drew ?_) | (with_reducible refine Below.alloc ?_ ?_ _) | (with_reducible refine Below.setCell ?_ ?_ _) | (with_reducible exact Nat.le_refl _) | omega | (simp only [World.size_alloc, World.size_setCell, World.size_drew, Wov_size, World.heap_drewN]; omega))), by simp, by simp [go_sem], by simp [go_sem], by simp [go_sem], by simp [go_sem], by simp [go_sem], by simp [go_sem], .slice none 0 0, by simp [go_sem], World.ownsRow_nil _ _ _ _⟩, by simp [go_sem]⟩ ?_
  rintro w3 ⟨hz, hT, b2⟩
  apply wpIn_pairs hn0 hn (Bx := w.heap.size + 2) rfl rfl (by omega) b2 (fun pre W => TopI w n w.heap.size (w.heap.size + 1) w3.heap.size (pre.map fun x => Value.int .i64 (topV x)) W ∧ pre.length ≤ n * n ∧ W.cell? ⟨w.heap.size + 2, 0, none⟩ = some (.int .i64 n)) (fun _ _ _ => False) ?own (fun _ _ _ _ _ h _ _ => h) ⟨hT, by simp, b2⟩
  case own =>
    have h1 := topI_own w n w.heap.size (w.heap.size + 1) w3.heap.size (fun pre : List (PairC n) => pre.map fun x => Value.int .i64 (topV x)) w3.heap.size (by omega)
    exact fun s A B row hs hg hr => ⟨h1 s A B row hs.1 hg hr, hs.2.1, cell_kept hs.2.2 hg (fun r e => (hr r e).2)⟩
  case hassign =>
    intro l x W K hK
    simp only [pairE]
    gi_wp2
    exact hK
  case hbody =>
    rintro l pre ⟨⟨i, j⟩, hi, hj⟩ W ⟨hT, hlen, e2⟩ hlt
    obtain ⟨v, hv, hrow⟩ := hT.row
    have hfd := hT.fd
    have hsz := hT.size
    rw [List.length_map] at hrow
    have HT := Lib.hid hT
    have HR := Lib.hid hrow
    have hD1 : w.heap.size + 1 < w3.heap.size := by omega
    clear hT hrow b2
    have step : Hid (∀ (u : Int), u = topV (⟨(i, j), hi, hj⟩ : PairC n) → ∀ v' w1, w1.ownsRow w3.heap.size 47 1 v' (pre.length + 1) (pre.map (fun x => Value.int .i64 (topV x)) ++ [.int .i64 u]) → (W.alloc (.cells #[.int .i64 u] 47)).grownBy w1 v.ownBlock →
        (w1.cell? ⟨w.heap.size + 1, 1, none⟩ = some v ∧ w1.frozen? ⟨w.heap.size + 1, 1, none⟩ = false) ∧
        ownPostK (KeepsBox (w.heap.size + 2) (.int .i64 n)) (fun pre W => TopI w n w.heap.size (w.heap.size + 1) w3.heap.size (pre.map fun x => Value.int .i64 (topV x)) W ∧ pre.length ≤ n * n ∧ W.cell? ⟨w.heap.size + 2, 0, none⟩ = some (.int .i64 n)) (fun _ _ _ => False) (pre ++ [⟨(i, j), hi, hj⟩]) W .normal ⟨#[], []⟩ (w1.setCell ⟨w.heap.size + 1, 1, none⟩ v')) := by
      intro u hu v' w1 hown hgrow
      have hb := app_below HR.out hsz hgrow
      have hlm : (pre.map fun x => Value.int .i64 (topV x)).length = pre.length := List.length_map _
      have hst := HT.out.step (Nat.le_refl _) (by omega) hD1 hv (by rw [hlm]; exact HR.out) (by rw [hlm]; exact hown) hgrow
      have hbx : (w1.setCell ⟨w.heap.size + 1, 1, none⟩ v').cell? ⟨w.heap.size + 2, 0, none⟩ = some (.int .i64 n) := by
        rw [World.cell?_setCell_other _ _ _ _ (fun e => by have := congrArg Addr.block e; simp at this)]
        exact (hb.cell (p := ⟨w.heap.size + 2, 0, none⟩) (by simp; omega)).trans e2
      refine ⟨⟨(hb.cell (p := ⟨w.heap.size + 1, 1, none⟩) hD1).trans hv, (hb.frozen (p := ⟨w.heap.size + 1, 1, none⟩) hD1).trans hfd⟩, (app_keeps HR.out hgrow).trans (KeepsOthers.setCell _ _ _), fun _ => hbx, ?_, ?_, hbx⟩
      · rw [List.map_append, List.map_singleton, ← hu]; exact hst
      · simp; omega
    by_cases hij : i = j
    · have hb1 : ((i : Int) == (j : Int)) = true := by rw [beq_iff_eq]; omega
      have htv : Hid ((1 : Int) = topV (⟨(i, j), hi, hj⟩ : PairC n)) := by show _ = _; simp [topV, hij]
      have HIJ := Lib.hid hij
      clear hij
      gi_wp2_with (gi_at_builtin; refine wpListIn_append_own _ rfl _ _ 94 rfl w3.heap.size 47 i0 (.int .i64 0) 1 8 Tryz.underlying94 HI.out HZ.out H1.out H2.out rfl (by decide) _ _ _ rfl (HR.out.alloc _) ⟨W.heap.size, 0, none⟩ 1 1 [.int .i64 1] rfl rfl (cell_one_new _ _ _) (by simp [Value.oneCell']) (by unfold maxLen; omega) (by omega) (by simp; omega) ?_; intro v' w1 hown' hgrow _; obtain ⟨g', cap', rfl⟩ := ownsRow_succ hown'; obtain ⟨⟨k1, k2⟩, k3⟩ := step.out 1 htv.out _ w1 hown' hgrow)
      exact k3
    · have hb1 : ((i : Int) == (j : Int)) = false := by rw [beq_eq_false_iff_ne]; omega
      have htv : Hid ((9223372036854775807 : Int) = topV (⟨(i, j), hi, hj⟩ : PairC n)) := by show _ = _; simp [topV, hij, noneB]
      have HIJ := Lib.hid hij
      clear hij
      gi_wp2_with (gi_at_builtin; refine wpListIn_append_own _ rfl _ _ 94 rfl w3.heap.size 47 i0 (.int .i64 0) 1 8 Tryz.underlying94 HI.out HZ.out H1.out H2.out rfl (by decide) _ _ _ rfl (HR.out.alloc _) ⟨W.heap.size, 0, none⟩ 1 1 [.int .i64 9223372036854775807] rfl rfl (cell_one_new _ _ _) (by simp [Value.oneCell']) (by unfold maxLen; omega) (by omega) (by simp; omega) ?_; intro v' w1 hown' hgrow _; obtain ⟨g', cap', rfl⟩ := ownsRow_succ hown'; obtain ⟨⟨k1, k2⟩, k3⟩ := step.out 9223372036854775807 htv.out _ w1 hown' hgrow)
      exact k3
  case hdone =>
    rintro D0 W hD0 ⟨hT, hlen, e2⟩ hK
    obtain ⟨v, hv, hrow⟩ := hT.row
    rw [List.length_map, show (pairsAll n).map (fun x => Value.int .i64 (topV x)) = cellsI (n * n) (topF n) from topV_upto n _ _, pairsAll, pairsUpto_len] at hrow
    obtain ⟨B, cap, rfl, hB1, hB2, hH⟩ := holds_of_row (by omega) hrow
    have d0 := hT.d0
    have r0 := hT.res0
    have r1 := hT.res1
    have s0 := hT.fr0
    have s1 := hT.fr1
    have hbl := hT.below
    have HH := Lib.hid hH
    clear hT hrow hlen e2 b2 hH
    gi_wp2
    have q0 : ((W.setCell ⟨w.heap.size, 0, none⟩ (.int .i64 n)).setCell ⟨w.heap.size, 1, none⟩ (.slice (some ⟨B, 0, none⟩) (n * n) cap)).heap[D0]? = some (.deferred (some [])) :=
      ((KeepsOthers.setCell W ⟨w.heap.size, 0, none⟩ (.int .i64 n)).trans (KeepsOthers.setCell _ ⟨w.heap.size, 1, none⟩ (.slice (some ⟨B, 0, none⟩) (n * n) cap))).same D0 _ hK rfl
    refine ⟨by simp, .inl ⟨_, _, rfl, run_takeDeferred q0, ?_⟩⟩
    have n0 : ((W.setCell ⟨w.heap.size, 0, none⟩ (.int .i64 n)).setCell ⟨w.heap.size, 1, none⟩ (.slice (some ⟨B, 0, none⟩) (n * n) cap)).cell? ⟨w.heap.size, 0, none⟩ = some (.int .i64 n) := by
      rw [World.cell?_setCell_other _ _ _ _ (by simp), setCell_cell_self, r0]; rfl
    have n1 : ((W.setCell ⟨w.heap.size, 0, none⟩ (.int .i64 n)).setCell ⟨w.heap.size, 1, none⟩ (.slice (some ⟨B, 0, none⟩) (n * n) cap)).cell? ⟨w.heap.size, 1, none⟩ = some (.slice (some ⟨B, 0, none⟩) (n * n) cap) := by
      rw [setCell_cell_self, World.cell?_setCell_other _ _ _ _ (by simp), r1]; rfl
    have k0 := cell_kept n0 (grownBy_putObj' _ D0 (.deferred none)) (fun r e => by cases e; exact ⟨_, q0, rfl⟩)
    have k1 := cell_kept n1 (grownBy_putObj' _ D0 (.deferred none)) (fun r e => by cases e; exact ⟨_, q0, rfl⟩)
    refine ⟨.tuple #[.agg #[.int .i64 n, .slice (some ⟨B, 0, none⟩) (n * n) cap], .int .i64 0], ?_, ?_⟩
    · simp [results, Tryz.results89, Tryz.f89, go_sem, k0, k1]
    · refine ⟨B, cap, rfl, by omega, ?_, ?_, Wov_of_below ?_⟩
      · simp [World.setCell, World.putObj]; omega
      · exact (HH.out.of_block (((Chg.set W w.heap.size 0 _).trans (Chg.set _ w.heap.size 1 _)).block B hB2 (by omega))).own (grownBy_putObj' _ D0 _) (fun r e => by cases e; exact ⟨_, q0, rfl⟩)
      · exact ((hbl.setCell (p := ⟨w.heap.size, 0, none⟩) (Nat.le_refl _) _).setCell (p := ⟨w.heap.size, 1, none⟩) (Nat.le_refl _) _).grown (grownBy_putObj' _ D0 _) (by simp [World.setCell]; exact hbl.size) (fun k e => by cases e; omega)
  case hstop =>
    rintro D c pre W _ h _
    exact h.elim

theorem top_ok (n : Nat) (w : World) (hn0 : 1 ≤ n) (hn : n ≤ 4) : Calls Tryz.prog 89 #[.int .i64 n] w (topPost w n) := callsIn_wide.1 (top_in n w hn0 hn)
theorem top_bad (n : Int) (w : World) (h : n < 1 ∨ 4 < n) : Calls Tryz.prog 89 #[.int .i64 n] w (Gives w (.tuple #[.agg #[.int .i64 0, .slice none 0 0], .int .i64 2])) := by
  rcases h with h | h
  · go_enter Tryz.func89, Tryz.ntmps89
    go_wp2
    go_returns
    exact gives_end rfl (by (repeat' (first | (with_reducible assumption) | (with_reducible exact Below.refl _ _) | (with_reducible refine below_wov ?_ ?_ _) | (with_reducible refine below_drewN ?_ _) | (with_reducible refine Below.drew ?_) | (with_reducible refine Below.alloc ?_ ?_ _) | (with_reducible refine Below.setCell ?_ ?_ _) | (with_reducible exact Nat.le_refl _) | omega | (simp only [World.size_alloc, World.size_setCell, World.size_drew, Wov_size, World.heap_drewN]; omega))))
  · have h2 : ¬ n < 1 := by omega
    go_enter Tryz.func89, Tryz.ntmps89
    go_wp2
    go_returns
    exact gives_end rfl (by (repeat' (first | (with_reducible assumption) | (with_reducible exact Below.refl _ _) | (with_reducible refine below_wov ?_ ?_ _) | (with_reducible refine below_drewN ?_ _) | (with_reducible refine Below.drew ?_) | (with_reducible refine Below.alloc ?_ ?_ _) | (with_reducible refine Below.setCell ?_ ?_ _) | (with_reducible exact Nat.le_refl _) | omega | (simp only [World.size_alloc, World.size_setCell, World.size_drew, Wov_size, World.heap_drewN]; omega))))
#print axioms top_ok
end Go.Proofs.YtpmpapenjcemjaaGreatDoor

namespace Go.Proofs.YtpmpapenjcemjaaGreatDoor
set_option linter.unusedSimpArgs false
set_option linter.unusedVariables false
open Go Go.RowKit Go.Shelf
attribute [local go_sem] Nat.add_assoc Nat.add_lt_add_iff_left lit_lt_add

theorem topF_at {n i j : Nat} (hj : j < n) : topF n (i * n + j) = if i = j then 1 else noneB := by
  have hn : 0 < n := by omega
  unfold topF
  rw [Nat.mul_comm, Nat.mul_add_div hn, Nat.div_eq_of_lt hj, Nat.mul_add_mod, Nat.mod_eq_of_lt hj, Nat.add_zero]
def allPost (w : World) (n : Nat) (e : Ending) (W : World) : Prop := ∃ B cap, e = .returned (.agg #[.int .i64 n, .slice (some ⟨B, 0, none⟩) (n * n) cap]) ∧ w.heap.size ≤ B ∧ B < W.heap.size ∧ HoldsI W B (n * n) (topF n) ∧ ∃ q, W = Wov w q

theorem slp_of {W : World} {B N : Nat} {f : Nat → Int} (h : HoldsI W B N f) (hB : B < W.heap.size) : SlP W (some ⟨B, 0, none⟩) N f := .inr ⟨B, 0, rfl, hB, fun x hx => by rw [Nat.zero_add]; exact (h x hx).1⟩
theorem slp_nil (W : World) (f : Nat → Int) : SlP W none 0 f := .inl rfl
theorem slp_later {W V : World} {B N : Nat} {f : Nat → Int} (h : HoldsI W B N f) (hB : B < W.heap.size) (hb : Below W.heap.size W V) : SlP V (some ⟨B, 0, none⟩) N f := slp_of (h.below hb hB) (Nat.lt_of_lt_of_le hB hb.size)
theorem sameB_refl (n : Int) (N : Nat) (f : Nat → Int) : sameB n N f n N f = true := by simp [sameB, eqB]
end Go.Proofs.YtpmpapenjcemjaaGreatDoor

namespace Go.Proofs.YtpmpapenjcemjaaGreatDoor
open Go.ChangeShapes Go.WideShapes Go.ChangeAt Go.RowKit Go.Joins
set_option linter.unusedVariables false
set_option linter.unusedSimpArgs false
attribute [local go_sem] Nat.add_assoc Nat.add_lt_add_iff_left lit_lt_add

theorem cellsDbm : Tryz.prog.cellsOf 96 = 2 := by kernel_rfl
theorem cellsBound : Tryz.prog.cellsOf 47 = 1 := by kernel_rfl

/-- A slice of bounds that came in. -/
theorem open_bounds {H : Type} {enc : TypeId × Value → H} {W : World} {n : Nat} {v : Value} {x : DataW H × List MemPlace} (h : DataW.trod enc Tryz.prog W 0 (fun _ => true) true n 94 [v] = some x) :
    ∃ (p : Option Addr) (N cap : Nat) (f : Nat → Int), v = .slice p N cap ∧ SlP W p N f ∧ Fits N f ∧ N ≤ maxLen := by
  rcases open_ints Tryz.underlying94 Tryz.underlying47 cellsBound h with ⟨h1, _⟩ | ⟨a, len, cap, zs, h1, hb, hl, hm, hz, _, hc, hw⟩
  · simp only [List.cons.injEq, and_true] at h1
    exact ⟨none, 0, 0, fun _ => 0, h1, .inl rfl, (fun x hx => by omega), by simp [maxLen]⟩
  · simp only [List.cons.injEq, and_true] at h1
    simp only [if_true] at hz
    refine ⟨some a, len, cap, fun x => zs.getD x 0, h1, ?_, fun x hx => ?_, by omega⟩
    · by_cases h0 : len = 0
      · exact .inl h0
      · obtain ⟨B, off, rfl, hc2⟩ := ints_at hc (by omega)
        refine .inr ⟨B, off, rfl, ?_, fun x hx => hc2 x (by omega)⟩
        have := World.block_lt_of_cell? W _ (hc2 0 (by omega))
        exact this
    · have hx2 : x < zs.length := by omega
      have : zs.getD x 0 ∈ zs := by rw [List.getD_eq_getElem?_getD, List.getElem?_eq_getElem hx2]; exact List.getElem_mem hx2
      exact fits_of_wf (hw _ this)

set_option maxRecDepth 100000 in
theorem open_dbm {H : Type} {enc : TypeId × Value → H} {W : World} {base : Nat} {v : Value} {d : DataW H} {p : List MemPlace}
    (hv : Value.okWide Tryz.prog W .any base 96 v) (h : DataW.Trod enc Tryz.prog W 0 (fun _ => true) true 96 v d p) :
    ∃ (n : Int) (p : Option Addr) (N cap : Nat) (f : Nat → Int), v = .agg #[.int .i64 n, .slice p N cap] ∧ fits64 n ∧ SlP W p N f ∧ Fits N f ∧ N ≤ maxLen := by
  obtain ⟨c0, c1, y0, y1, k, rfl, rfl, rfl, hy0, hy1⟩ := open_agg2 Tryz.underlying96 (by kernel_rfl) cellsDbm hv h
  obtain ⟨a, e0, rfl, wa⟩ := DataW.trod_int Tryz.underlying3 hy0
  simp at e0
  subst e0
  obtain ⟨p, N, cap, f, rfl, h1, h2, h3⟩ := open_bounds hy1
  exact ⟨a, p, N, cap, f, rfl, fits_of_wf wa, h1, h2, h3⟩

/-- A closed one's bounds, one by one. -/
def closeVals (n : Nat) (f : Nat → Int) : Option (List Int) := (closeI n f).map fun c => (List.range (n * n)).map c
theorem vals_some {n : Nat} {f : Nat → Int} {l : List Int} (h : closeVals n f = some l) (hok : okD n (n * n) f = true) : ∃ c, closeR n (n * n) f = (some c, 0) ∧ ∀ x, x < n * n → l[x]? = some (c x) := by
  unfold closeVals at h
  cases hc : closeI n f with
  | none => rw [hc] at h; cases h
  | some c =>
    rw [hc] at h
    simp only [Option.map_some, Option.some.injEq] at h
    refine ⟨c, ?_, fun x hx => ?_⟩
    · unfold closeR; rw [hok, if_pos rfl, show ((n : Int)).toNat = n from rfl, hc]
    · rw [← h]; simp [hx]
theorem vals_none {n : Nat} {f : Nat → Int} (h : closeVals n f = none) (hok : okD n (n * n) f = true) : closeR n (n * n) f = (none, 6) := by
  unfold closeVals at h
  cases hc : closeI n f with
  | none => unfold closeR; rw [hok, if_pos rfl, show ((n : Int)).toNat = n from rfl, hc]
  | some c => rw [hc] at h; cases h
theorem four_vals {a b c d : Int} {g : Nat → Int} (h : ∀ x, x < 2 * 2 → [a, b, c, d][x]? = some (g x)) : ∀ x, x < 4 → g x = four a b c d x := by
  intro x hx
  have := h x hx
  rcases x with _ | _ | _ | _ | x
  all_goals first | omega | (simpa [four] using this.symm)
theorem eq4 {n1 : Int} {f g : Nat → Int} (h : ∀ x, x < 4 → f x = g x) : sameB n1 4 f n1 4 g = true := by
  simp only [sameB, decide_true, Bool.true_and]
  exact eqB_t h
theorem four_fits {a b c d : Int} (ha : fits64 a) (hb : fits64 b) (hc : fits64 c) (hd : fits64 d) : Fits 4 (four a b c d) := by
  intro x hx
  rcases x with _ | _ | _ | _ | x
  all_goals first | omega | assumption

end Go.Proofs.YtpmpapenjcemjaaGreatDoor

namespace Go.Proofs.YtpmpapenjcemjaaGreatDoor
set_option linter.unusedSimpArgs false
set_option linter.unusedVariables false
open Go Go.RowKit Go.Shelf
attribute [local go_sem] Nat.add_assoc Nat.add_lt_add_iff_left lit_lt_add

/-- Of a matrix whose bounds are none greater the closed one is none greater. -/
theorem close_mono {n : Nat} {f f' c' : Nat → Int} (hn : n ≤ 4) (hb : ∀ i j, i < n → j < n → bd 288230376151711744 (f (i * n + j))) (hu : Under n (mE n f') (mE n f)) (h : ClosedI n f' c') :
    ∃ c, closeI n f = some c ∧ Under n (mE n c') (mE n c) := by
  obtain ⟨e, he, heu⟩ := closeE_greatest h.closed.1 (under_trans h.closed.2 hu)
  have hi := closeI_is hn hb
  rw [he] at hi
  cases hc : closeI n f with
  | none => rw [hc] at hi; exact hi.elim
  | some c =>
    rw [hc] at hi
    refine ⟨c, rfl, fun i j hi' hj => ?_⟩
    show ele _ (eb (c (i * n + j)))
    rw [hi i j hi' hj]
    exact heu i j hi' hj
end Go.Proofs.YtpmpapenjcemjaaGreatDoor
