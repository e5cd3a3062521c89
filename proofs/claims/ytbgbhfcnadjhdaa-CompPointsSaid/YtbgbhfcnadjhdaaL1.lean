/- Plain laws of law09: a closed one gets a clock more (amalgamation); what composed zones hold. No condition. -/
import Derived.Test.YtbgbhfcnadjhdaaK1
namespace Go.Proofs.Ytbgbhfcnadjhdaa
set_option linter.unusedSimpArgs false
set_option linter.unusedVariables false
open Go Go.RowKit

/-- Closed on some clocks. -/
def ClosedL (T : List Nat) (q : Nat → Nat → EB) : Prop :=
  (∀ i, i ∈ T → q i i = some 1) ∧ ∀ i j k, i ∈ T → j ∈ T → k ∈ T → ele (q i j) (eadd (q i k) (q k j))
theorem ClosedL.sub {S T : List Nat} {q : Nat → Nat → EB} (h : ClosedL T q) (hs : ∀ i, i ∈ S → i ∈ T) : ClosedL S q :=
  ⟨fun i hi => h.1 i (hs i hi), fun i j k hi hj hk => h.2 i j k (hs i hi) (hs j hj) (hs k hk)⟩
def lmin : List EB → EB
  | [] => none
  | x :: l => emin x (lmin l)
theorem lmin_le {x : EB} : ∀ {l : List EB}, x ∈ l → ele (lmin l) x
  | y :: l, h => by
    rcases List.mem_cons.1 h with rfl | h
    · exact emin_le_l _ _
    · exact ele_trans (emin_le_r _ _) (lmin_le h)
theorem lmin_at : ∀ l : List EB, lmin l = none ∨ ∃ x, x ∈ l ∧ lmin l = x
  | [] => .inl rfl
  | y :: l => by
    rcases emin_cases y (lmin l) with h | ⟨h, _⟩
    · exact .inr ⟨y, List.mem_cons_self, h⟩
    · rcases lmin_at l with e | ⟨x, hx, e⟩
      · left; show emin y (lmin l) = none; rw [h, e]
      · exact .inr ⟨x, List.mem_cons_of_mem _ hx, h.trans e⟩
theorem lmin_map_le {S : List Nat} {f : Nat → EB} {k : Nat} (h : k ∈ S) : ele (lmin (S.map f)) (f k) := lmin_le (List.mem_map_of_mem h)
theorem lmin_map_at (S : List Nat) (f : Nat → EB) : lmin (S.map f) = none ∨ ∃ k, k ∈ S ∧ lmin (S.map f) = f k := by
  rcases lmin_at (S.map f) with h | ⟨x, hx, h⟩
  · exact .inl h
  · obtain ⟨k, hk, rfl⟩ := List.mem_map.1 hx
    exact .inr ⟨k, hk, h⟩
/-- A closed one, and one clock more by what another one says of it. -/
def joinQ (S : List Nat) (s : Nat) (Q c : Nat → Nat → EB) : Nat → Nat → EB := fun i j =>
  if i = s then (if j = s then some 1 else lmin (S.map fun k => eadd (c s k) (Q k j)))
  else if j = s then lmin (S.map fun k => eadd (Q i k) (c k s)) else Q i j
section
variable {S T : List Nat} {s : Nat} {Q c : Nat → Nat → EB}
theorem joinQ_ss : joinQ S s Q c s s = some 1 := by unfold joinQ; rw [if_pos rfl, if_pos rfl]
theorem joinQ_sj {j : Nat} (h : j ≠ s) : joinQ S s Q c s j = lmin (S.map fun k => eadd (c s k) (Q k j)) := by unfold joinQ; rw [if_pos rfl, if_neg h]
theorem joinQ_is {i : Nat} (h : i ≠ s) : joinQ S s Q c i s = lmin (S.map fun k => eadd (Q i k) (c k s)) := by unfold joinQ; rw [if_neg h, if_pos rfl]
theorem joinQ_old {i j : Nat} (hi : i ≠ s) (hj : j ≠ s) : joinQ S s Q c i j = Q i j := by unfold joinQ; rw [if_neg hi, if_neg hj]
theorem joinQ_closed (hQ : ClosedL T Q) (hc : ClosedL (s :: S) c) (hS : ∀ i, i ∈ S → i ∈ T) (hs : s ∉ T) (hle : ∀ i j, i ∈ S → j ∈ S → ele (Q i j) (c i j)) : ClosedL (s :: T) (joinQ S s Q c) := by
  have cs : ∀ {i}, i ∈ S → i ∈ s :: S := fun h => List.mem_cons_of_mem _ h
  have s0 : s ∈ s :: S := List.mem_cons_self
  have inT : ∀ {i}, i ∈ s :: T → i ≠ s → i ∈ T := fun h hn => (List.mem_cons.1 h).resolve_left hn
  refine ⟨fun i hi => ?_, fun i j k hi hj hk => ?_⟩
  · by_cases e : i = s
    · subst e; exact joinQ_ss
    · rw [joinQ_old e e]; exact hQ.1 i (inT hi e)
  · by_cases ei : i = s <;> by_cases ej : j = s <;> by_cases ek : k = s
    · rw [ei, ej, ek, joinQ_ss, eadd_one]; exact ele_refl _
    · rw [ei, ej, joinQ_ss, joinQ_sj ek, joinQ_is ek]
      rcases lmin_map_at S (fun l => eadd (c s l) (Q l k)) with h1 | ⟨k1, m1, h1⟩
      · rw [h1, none_eadd]; exact ele_none _
      rcases lmin_map_at S (fun l => eadd (Q k l) (c l s)) with h2 | ⟨k2, m2, h2⟩
      · rw [h2, eadd_none]; exact ele_none _
      rw [h1, h2]
      show ele _ (eadd (eadd (c s k1) (Q k1 k)) (eadd (Q k k2) (c k2 s)))
      rw [eadd4]
      have a1 := hQ.2 k1 k2 k (hS _ m1) (hS _ m2) (inT hk ek)
      refine ele_trans ?_ (eadd_mono_r (c s k1) (eadd_mono_l (c k2 s) a1))
      have a2 := hc.2 k2 k1 s (cs m2) (cs m1) s0
      have a3 := hQ.2 k2 k2 k1 (hS _ m2) (hS _ m2) (hS _ m1)
      rw [hQ.1 k2 (hS _ m2)] at a3
      have a4 := ele_trans a3 (eadd_mono_l (Q k1 k2) (ele_trans (hle k2 k1 m2 m1) a2))
      have e : eadd (eadd (c k2 s) (c s k1)) (Q k1 k2) = eadd (c s k1) (eadd (Q k1 k2) (c k2 s)) := by
        rw [eadd_comm (c k2 s), eadd_assoc, eadd_comm (c k2 s)]
      rw [e] at a4
      exact a4
    · rw [ei, ek, joinQ_ss, one_eadd]; exact ele_refl _
    · rw [ei, joinQ_sj ej, joinQ_sj ek, joinQ_old ek ej]
      rcases lmin_map_at S (fun l => eadd (c s l) (Q l k)) with h1 | ⟨k1, m1, h1⟩
      · rw [h1, none_eadd]; exact ele_none _
      rw [h1]
      show ele _ (eadd (eadd (c s k1) (Q k1 k)) (Q k j))
      refine ele_trans (lmin_map_le (f := fun l => eadd (c s l) (Q l j)) m1) ?_
      show ele (eadd (c s k1) (Q k1 j)) _
      rw [eadd_assoc]
      exact eadd_mono_r _ (hQ.2 k1 j k (hS _ m1) (inT hj ej) (inT hk ek))
    · rw [ej, ek, joinQ_ss, eadd_one]; exact ele_refl _
    · rw [ej, joinQ_is ei, joinQ_is ek, joinQ_old ei ek]
      rcases lmin_map_at S (fun l => eadd (Q k l) (c l s)) with h1 | ⟨k1, m1, h1⟩
      · rw [h1, eadd_none]; exact ele_none _
      rw [h1]
      show ele _ (eadd (Q i k) (eadd (Q k k1) (c k1 s)))
      refine ele_trans (lmin_map_le (f := fun l => eadd (Q i l) (c l s)) m1) ?_
      show ele (eadd (Q i k1) (c k1 s)) _
      rw [← eadd_assoc]
      exact eadd_mono_l _ (hQ.2 i k1 k (inT hi ei) (hS _ m1) (inT hk ek))
    · rw [ek, joinQ_old ei ej, joinQ_is ei, joinQ_sj ej]
      rcases lmin_map_at S (fun l => eadd (Q i l) (c l s)) with h1 | ⟨k1, m1, h1⟩
      · rw [h1, none_eadd]; exact ele_none _
      rcases lmin_map_at S (fun l => eadd (c s l) (Q l j)) with h2 | ⟨k2, m2, h2⟩
      · rw [h2, eadd_none]; exact ele_none _
      rw [h1, h2]
      show ele _ (eadd (eadd (Q i k1) (c k1 s)) (eadd (c s k2) (Q k2 j)))
      rw [eadd4]
      have a1 := hQ.2 i j k1 (inT hi ei) (inT hj ej) (hS _ m1)
      refine ele_trans a1 (eadd_mono_r _ ?_)
      have a2 := hQ.2 k1 j k2 (hS _ m1) (inT hj ej) (hS _ m2)
      refine ele_trans a2 (eadd_mono_l _ ?_)
      exact ele_trans (hle k1 k2 m1 m2) (hc.2 k1 k2 s (cs m1) (cs m2) s0)
    · rw [joinQ_old ei ej, joinQ_old ei ek, joinQ_old ek ej]
      exact hQ.2 i j k (inT hi ei) (inT hj ej) (inT hk ek)
theorem joinQ_le (hQ : ClosedL T Q) (hc : ClosedL (s :: S) c) (hS : ∀ i, i ∈ S → i ∈ T) (hs : s ∉ S) (hle : ∀ i j, i ∈ S → j ∈ S → ele (Q i j) (c i j)) : ∀ i j, i ∈ s :: S → j ∈ s :: S → ele (joinQ S s Q c i j) (c i j) := by
  intro i j hi hj
  have ne : ∀ {x : Nat}, x ∈ S → x ≠ s := fun hx e => hs (by rw [← e]; exact hx)
  rcases List.mem_cons.1 hi with ei | hi' <;> rcases List.mem_cons.1 hj with ej | hj'
  · rw [ei, ej, joinQ_ss, hc.1 s List.mem_cons_self]; exact ele_refl _
  · rw [ei, joinQ_sj (ne hj')]
    refine ele_trans (lmin_map_le (f := fun l => eadd (c s l) (Q l j)) hj') ?_
    show ele (eadd (c s j) (Q j j)) _
    rw [hQ.1 j (hS j hj'), eadd_one]; exact ele_refl _
  · rw [ej, joinQ_is (ne hi')]
    refine ele_trans (lmin_map_le (f := fun l => eadd (Q i l) (c l s)) hi') ?_
    show ele (eadd (Q i i) (c i s)) _
    rw [hQ.1 i (hS i hi'), one_eadd]; exact ele_refl _
  · rw [joinQ_old (ne hi') (ne hj')]
    exact hle i j hi' hj'
end

/-- Three clocks of some. -/
def sel (a b c : Nat) : Nat → Nat
  | 0 => a | 1 => b | _ => c
def res (Q : Nat → Nat → EB) (a b c : Nat) : Nat → Nat → EB := fun i j => Q (sel a b c i) (sel a b c j)
theorem sel_mem {T : List Nat} {a b c : Nat} (ha : a ∈ T) (hb : b ∈ T) (hc : c ∈ T) (i : Nat) : sel a b c i ∈ T := by
  match i with
  | 0 => exact ha
  | 1 => exact hb
  | n + 2 => exact hc
theorem res_closed {T : List Nat} {Q : Nat → Nat → EB} (h : ClosedL T Q) {a b c : Nat} (ha : a ∈ T) (hb : b ∈ T) (hc : c ∈ T) : Closed 3 (res Q a b c) :=
  ⟨fun i _ => h.1 _ (sel_mem ha hb hc i), fun i j k _ _ _ => h.2 _ _ _ (sel_mem ha hb hc i) (sel_mem ha hb hc j) (sel_mem ha hb hc k)⟩
theorem res_under {T : List Nat} {Q R : Nat → Nat → EB} (h : ∀ i j, i ∈ T → j ∈ T → ele (Q i j) (R i j)) {a b c : Nat} (ha : a ∈ T) (hb : b ∈ T) (hc : c ∈ T) : Under 3 (res Q a b c) (res R a b c) :=
  fun i j _ _ => h _ _ (sel_mem ha hb hc i) (sel_mem ha hb hc j)
theorem ZU_le {z : Nat → Int} {q r : Nat → Nat → EB} (h : Under 3 q r) (hr : ZU z r) : ZU z q := under_trans h hr
theorem res_eq {Q R : Nat → Nat → EB} {a b c a' b' c' : Nat} (h : ∀ i j, i < 3 → j < 3 → res Q a b c i j = res R a' b' c' i j) : Under 3 (res Q a b c) (res R a' b' c') := fun i j hi hj => by rw [h i j hi hj]; exact ele_refl _
/-- What two zones hold, one behind the other. -/
def CompIn (a b : Nat → Int) (q : Nat → Nat → EB) : Prop := ∃ Q, ClosedL [0, 1, 2, 3] Q ∧ ZU a (res Q 0 1 2) ∧ ZU b (res Q 0 2 3) ∧ ∀ i j, i < 3 → j < 3 → res Q 0 1 3 i j = q i j
def sel4 (a b c d : Nat) : Nat → Nat
  | 0 => a | 1 => b | 2 => c | _ => d
theorem sel4_mem {T : List Nat} {a b c d : Nat} (ha : a ∈ T) (hb : b ∈ T) (hc : c ∈ T) (hd : d ∈ T) (i : Nat) : sel4 a b c d i ∈ T := by
  match i with
  | 0 => exact ha
  | 1 => exact hb
  | 2 => exact hc
  | n + 3 => exact hd
theorem compIn_of {T : List Nat} {R : Nat → Nat → EB} (h : ClosedL T R) {x y z w : Nat} {a b : Nat → Int} (hx : x ∈ T) (hy : y ∈ T) (hz : z ∈ T) (hw : w ∈ T) (h1 : ZU a (res R x y z)) (h2 : ZU b (res R x z w)) : CompIn a b (res R x y w) := by
  refine ⟨fun i j => R (sel4 x y z w i) (sel4 x y z w j), ⟨fun i _ => h.1 _ (sel4_mem hx hy hz hw i), fun i j k _ _ _ => h.2 _ _ _ (sel4_mem hx hy hz hw i) (sel4_mem hx hy hz hw j) (sel4_mem hx hy hz hw k)⟩, ?_, ?_, ?_⟩
  · refine ZU_le (fun i j hi hj => ?_) h1
    have hi : i = 0 ∨ i = 1 ∨ i = 2 := by omega
    have hj : j = 0 ∨ j = 1 ∨ j = 2 := by omega
    rcases hi with rfl | rfl | rfl <;> rcases hj with rfl | rfl | rfl <;> exact ele_refl _
  · refine ZU_le (fun i j hi hj => ?_) h2
    have hi : i = 0 ∨ i = 1 ∨ i = 2 := by omega
    have hj : j = 0 ∨ j = 1 ∨ j = 2 := by omega
    rcases hi with rfl | rfl | rfl <;> rcases hj with rfl | rfl | rfl <;> exact ele_refl _
  · intro i j hi hj
    have hi : i = 0 ∨ i = 1 ∨ i = 2 := by omega
    have hj : j = 0 ∨ j = 1 ∨ j = 2 := by omega
    rcases hi with rfl | rfl | rfl <;> rcases hj with rfl | rfl | rfl <;> rfl
theorem compIn_le {a b a' b' : Nat → Int} (ha : ∀ q, Closed 3 q → ZU a q → ZU a' q) (hb : ∀ q, Closed 3 q → ZU b q → ZU b' q) {q : Nat → Nat → EB} (h : CompIn a b q) : CompIn a' b' q := by
  obtain ⟨Q, h1, h2, h3, h4⟩ := h
  exact ⟨Q, h1, ha _ (res_closed h1 (by simp) (by simp) (by simp)) h2, hb _ (res_closed h1 (by simp) (by simp) (by simp)) h3, h4⟩
def renA : Nat → Nat
  | 2 => 3 | 4 => 2 | i => i
def renB : Nat → Nat
  | 2 => 1 | 4 => 2 | i => i
/-- Which two of three come first turns nothing: one way. -/
theorem comp_assoc1 {a b c x y : Nat → Int} (hx : ∀ q, Closed 3 q → ZU x q → CompIn a b q) (hy : ∀ q, Closed 3 q → CompIn b c q → ZU y q) {q : Nat → Nat → EB} (h : CompIn x c q) : CompIn a y q := by
  obtain ⟨Q, q1, q2, q3, q4⟩ := h
  obtain ⟨P, p1, p2, p3, p4⟩ := hx _ (res_closed q1 (by simp) (by simp) (by simp)) q2
  obtain ⟨e, he⟩ : ∃ e : Nat → Nat → EB, e = fun i j => P (renA i) (renA j) := ⟨_, rfl⟩
  have hren : ∀ i, i ∈ [4, 0, 1, 2] → renA i ∈ [0, 1, 2, 3] := by decide
  have hc : ClosedL [4, 0, 1, 2] e := by
    rw [he]
    exact ⟨fun i hi => p1.1 _ (hren i hi), fun i j k hi hj hk => p1.2 _ _ _ (hren i hi) (hren j hj) (hren k hk)⟩
  have heq : ∀ i j, i ∈ [0, 1, 2] → j ∈ [0, 1, 2] → ele (Q i j) (e i j) := by
    intro i j hi hj
    have hi : i = 0 ∨ i = 1 ∨ i = 2 := by simpa using hi
    have hj : j = 0 ∨ j = 1 ∨ j = 2 := by simpa using hj
    have hh : Q i j = e i j := by
      rw [he]
      rcases hi with rfl | rfl | rfl <;> rcases hj with rfl | rfl | rfl
      · exact (p4 0 0 (by decide) (by decide)).symm
      · exact (p4 0 1 (by decide) (by decide)).symm
      · exact (p4 0 2 (by decide) (by decide)).symm
      · exact (p4 1 0 (by decide) (by decide)).symm
      · exact (p4 1 1 (by decide) (by decide)).symm
      · exact (p4 1 2 (by decide) (by decide)).symm
      · exact (p4 2 0 (by decide) (by decide)).symm
      · exact (p4 2 1 (by decide) (by decide)).symm
      · exact (p4 2 2 (by decide) (by decide)).symm
    rw [hh]; exact ele_refl _
  have hS : ∀ i, i ∈ [0, 1, 2] → i ∈ [0, 1, 2, 3] := by decide
  have R1 := joinQ_closed q1 hc hS (by decide) heq
  have R2 := joinQ_le q1 hc hS (by decide) heq
  obtain ⟨R, hR⟩ : ∃ R, R = joinQ [0, 1, 2] 4 Q e := ⟨_, rfl⟩
  have old : ∀ i j, i ≠ 4 → j ≠ 4 → R i j = Q i j := fun i j hi hj => by rw [hR]; exact joinQ_old hi hj
  rw [← hR] at R1 R2
  have ha : ZU a (res R 0 1 4) := by
    refine ZU_le (under_trans (res_under R2 (by simp) (by simp) (by simp)) (res_eq (R := P) (a' := 0) (b' := 1) (c' := 2) ?_)) p2
    intro i j hi hj
    have hi : i = 0 ∨ i = 1 ∨ i = 2 := by omega
    have hj : j = 0 ∨ j = 1 ∨ j = 2 := by omega
    rw [he]
    rcases hi with rfl | rfl | rfl <;> rcases hj with rfl | rfl | rfl <;> rfl
  have hb : ZU b (res R 0 4 2) := by
    refine ZU_le (under_trans (res_under R2 (by simp) (by simp) (by simp)) (res_eq (R := P) (a' := 0) (b' := 2) (c' := 3) ?_)) p3
    intro i j hi hj
    have hi : i = 0 ∨ i = 1 ∨ i = 2 := by omega
    have hj : j = 0 ∨ j = 1 ∨ j = 2 := by omega
    rw [he]
    rcases hi with rfl | rfl | rfl <;> rcases hj with rfl | rfl | rfl <;> rfl
  have hcc : ZU c (res R 0 2 3) := by
    refine ZU_le (res_eq (R := Q) (a' := 0) (b' := 2) (c' := 3) ?_) q3
    intro i j hi hj
    have hi : i = 0 ∨ i = 1 ∨ i = 2 := by omega
    have hj : j = 0 ∨ j = 1 ∨ j = 2 := by omega
    rcases hi with rfl | rfl | rfl <;> rcases hj with rfl | rfl | rfl <;> exact old _ _ (by decide) (by decide)
  have k1 := hy _ (res_closed R1 (by simp) (by simp) (by simp)) (compIn_of R1 (x := 0) (y := 4) (z := 2) (w := 3) (by simp) (by simp) (by simp) (by simp) hb hcc)
  obtain ⟨V, v1, v2, v3, v4⟩ := compIn_of R1 (x := 0) (y := 1) (z := 4) (w := 3) (by simp) (by simp) (by simp) (by simp) ha k1
  refine ⟨V, v1, v2, v3, fun i j hi hj => (v4 i j hi hj).trans ?_⟩
  rw [← q4 i j hi hj]
  have hi : i = 0 ∨ i = 1 ∨ i = 2 := by omega
  have hj : j = 0 ∨ j = 1 ∨ j = 2 := by omega
  rcases hi with rfl | rfl | rfl <;> rcases hj with rfl | rfl | rfl <;> exact old _ _ (by decide) (by decide)
/-- The other way. -/
theorem comp_assoc2 {a b c x y : Nat → Int} (hy : ∀ q, Closed 3 q → ZU y q → CompIn b c q) (hx : ∀ q, Closed 3 q → CompIn a b q → ZU x q) {q : Nat → Nat → EB} (h : CompIn a y q) : CompIn x c q := by
  obtain ⟨Q, q1, q2, q3, q4⟩ := h
  obtain ⟨P, p1, p2, p3, p4⟩ := hy _ (res_closed q1 (by simp) (by simp) (by simp)) q3
  obtain ⟨e, he⟩ : ∃ e : Nat → Nat → EB, e = fun i j => P (renB i) (renB j) := ⟨_, rfl⟩
  have hren : ∀ i, i ∈ [4, 0, 2, 3] → renB i ∈ [0, 1, 2, 3] := by decide
  have hc : ClosedL [4, 0, 2, 3] e := by
    rw [he]
    exact ⟨fun i hi => p1.1 _ (hren i hi), fun i j k hi hj hk => p1.2 _ _ _ (hren i hi) (hren j hj) (hren k hk)⟩
  have heq : ∀ i j, i ∈ [0, 2, 3] → j ∈ [0, 2, 3] → ele (Q i j) (e i j) := by
    intro i j hi hj
    have hi : i = 0 ∨ i = 2 ∨ i = 3 := by simpa using hi
    have hj : j = 0 ∨ j = 2 ∨ j = 3 := by simpa using hj
    have hh : Q i j = e i j := by
      rw [he]
      rcases hi with rfl | rfl | rfl <;> rcases hj with rfl | rfl | rfl
      · exact (p4 0 0 (by decide) (by decide)).symm
      · exact (p4 0 1 (by decide) (by decide)).symm
      · exact (p4 0 2 (by decide) (by decide)).symm
      · exact (p4 1 0 (by decide) (by decide)).symm
      · exact (p4 1 1 (by decide) (by decide)).symm
      · exact (p4 1 2 (by decide) (by decide)).symm
      · exact (p4 2 0 (by decide) (by decide)).symm
      · exact (p4 2 1 (by decide) (by decide)).symm
      · exact (p4 2 2 (by decide) (by decide)).symm
    rw [hh]; exact ele_refl _
  have hS : ∀ i, i ∈ [0, 2, 3] → i ∈ [0, 1, 2, 3] := by decide
  have R1 := joinQ_closed q1 hc hS (by decide) heq
  have R2 := joinQ_le q1 hc hS (by decide) heq
  obtain ⟨R, hR⟩ : ∃ R, R = joinQ [0, 2, 3] 4 Q e := ⟨_, rfl⟩
  have old : ∀ i j, i ≠ 4 → j ≠ 4 → R i j = Q i j := fun i j hi hj => by rw [hR]; exact joinQ_old hi hj
  rw [← hR] at R1 R2
  have ha : ZU a (res R 0 1 2) := by
    refine ZU_le (res_eq (R := Q) (a' := 0) (b' := 1) (c' := 2) ?_) q2
    intro i j hi hj
    have hi : i = 0 ∨ i = 1 ∨ i = 2 := by omega
    have hj : j = 0 ∨ j = 1 ∨ j = 2 := by omega
    rcases hi with rfl | rfl | rfl <;> rcases hj with rfl | rfl | rfl <;> exact old _ _ (by decide) (by decide)
  have hb : ZU b (res R 0 2 4) := by
    refine ZU_le (under_trans (res_under R2 (by simp) (by simp) (by simp)) (res_eq (R := P) (a' := 0) (b' := 1) (c' := 2) ?_)) p2
    intro i j hi hj
    have hi : i = 0 ∨ i = 1 ∨ i = 2 := by omega
    have hj : j = 0 ∨ j = 1 ∨ j = 2 := by omega
    rw [he]
    rcases hi with rfl | rfl | rfl <;> rcases hj with rfl | rfl | rfl <;> rfl
  have hcc : ZU c (res R 0 4 3) := by
    refine ZU_le (under_trans (res_under R2 (by simp) (by simp) (by simp)) (res_eq (R := P) (a' := 0) (b' := 2) (c' := 3) ?_)) p3
    intro i j hi hj
    have hi : i = 0 ∨ i = 1 ∨ i = 2 := by omega
    have hj : j = 0 ∨ j = 1 ∨ j = 2 := by omega
    rw [he]
    rcases hi with rfl | rfl | rfl <;> rcases hj with rfl | rfl | rfl <;> rfl
  have k1 := hx _ (res_closed R1 (by simp) (by simp) (by simp)) (compIn_of R1 (x := 0) (y := 1) (z := 2) (w := 4) (by simp) (by simp) (by simp) (by simp) ha hb)
  obtain ⟨V, v1, v2, v3, v4⟩ := compIn_of R1 (x := 0) (y := 1) (z := 4) (w := 3) (by simp) (by simp) (by simp) (by simp) k1 hcc
  refine ⟨V, v1, v2, v3, fun i j hi hj => (v4 i j hi hj).trans ?_⟩
  rw [← q4 i j hi hj]
  have hi : i = 0 ∨ i = 1 ∨ i = 2 := by omega
  have hj : j = 0 ∨ j = 1 ∨ j = 2 := by omega
  rcases hi with rfl | rfl | rfl <;> rcases hj with rfl | rfl | rfl <;> exact old _ _ (by decide) (by decide)
end Go.Proofs.Ytbgbhfcnadjhdaa
