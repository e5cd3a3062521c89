/- Plain laws: what lies in what, and what is apart, by closed ones. No condition. -/
import Derived.Test.YtpaomeilfmeheaaDoorMF
import Derived.Test.YtpaomeilfmeheaaDoorME
namespace Go.Proofs.YtpaomeilfmeheaaDoor
set_option linter.unusedSimpArgs false
set_option linter.unusedVariables false
open Go Go.RowKit

/-- Each closed one under one is under the other. -/
def InP (n : Nat) (f g : Nat → Int) : Prop := ∀ q, Closed n q → Under n q (mE n f) → Under n q (mE n g)
/-- No closed one is under both. -/
def ApP (n : Nat) (f g : Nat → Int) : Prop := ∀ q, Closed n q → Under n q (mE n f) → ¬ Under n q (mE n g)

def diagK (n : Nat) (g : Nat → Int) : Bool := (List.range n).all fun i => decide (1 ≤ g (i * (n + 1)))
def underK (n : Nat) (c g : Nat → Int) : Bool := (List.range (n * n)).all fun x => decide (x % (n + 1) = 0) || decide (c x ≤ g x)
def inB (n : Nat) (f g : Nat → Int) : Bool := match closeI n f with
  | none => true
  | some c => diagK n g && underK n c g
def twoE (n1 : Int) (N1 : Nat) (f1 : Nat → Int) (n2 : Int) (N2 : Nat) (f2 : Nat → Int) : Int :=
  if okD n1 N1 f1 && okD n2 N2 f2 then (if n1 = n2 then 0 else 40) else 8
def inR (n1 : Int) (N1 : Nat) (f1 : Nat → Int) (n2 : Int) (N2 : Nat) (f2 : Nat → Int) : Bool × Int :=
  if twoE n1 N1 f1 n2 N2 f2 = 0 then (inB n1.toNat f1 f2, 0) else (false, twoE n1 N1 f1 n2 N2 f2)
def apR (n1 : Int) (N1 : Nat) (f1 : Nat → Int) (n2 : Int) (N2 : Nat) (f2 : Nat → Int) : Bool × Int :=
  if twoE n1 N1 f1 n2 N2 f2 = 0 then (decide ((meetM n1 N1 f1 n2 N2 f2).e = 6), 0) else (false, twoE n1 N1 f1 n2 N2 f2)

theorem diagK_iff {n : Nat} {g : Nat → Int} : diagK n g = true ↔ ∀ i, i < n → 1 ≤ g (i * (n + 1)) := by
  simp [diagK, List.all_eq_true]
theorem underK_iff {n : Nat} {c g : Nat → Int} : underK n c g = true ↔ ∀ x, x < n * n → x % (n + 1) = 0 ∨ c x ≤ g x := by
  simp [underK, List.all_eq_true]
theorem mod_diag {n i j : Nat} (hn : n ≤ 4) (hi : i < n) (hj : j < n) : (i * n + j) % (n + 1) = 0 ↔ i = j := by
  have h1 : n = 1 ∨ n = 2 ∨ n = 3 ∨ n = 4 := by omega
  rcases h1 with rfl | rfl | rfl | rfl <;> omega

/-- The code's question is: is the closed one under the other. -/
theorem inB_some {n : Nat} {c g : Nat → Int} (hn : n ≤ 4) (hc : ∀ i, i < n → c (i * n + i) = 1) : (diagK n g && underK n c g) = true ↔ ∀ i j, i < n → j < n → c (i * n + j) ≤ g (i * n + j) := by
  rw [Bool.and_eq_true, diagK_iff, underK_iff]
  constructor
  · rintro ⟨h1, h2⟩ i j hi hj
    by_cases e : i = j
    · subst e
      have := h1 i hi
      rw [hc i hi]
      rwa [Nat.mul_add, Nat.mul_one] at this
    · rcases h2 (i * n + j) (place_lt hi hj) with h | h
      · exact absurd ((mod_diag hn hi hj).1 h) e
      · exact h
  · intro h
    refine ⟨fun i hi => ?_, fun x hx => ?_⟩
    · have := h i i hi hi
      rw [hc i hi] at this
      rwa [Nat.mul_add, Nat.mul_one]
    · obtain ⟨i, j, hi, hj, rfl⟩ := at_place hx
      exact .inr (h i j hi hj)

theorem inB_iff {n : Nat} {f g : Nat → Int} (hf : okD n (n * n) f = true) (hg : okD n (n * n) g = true) : inB n f g = true ↔ InP n f g := by
  obtain ⟨h1, h2, hb⟩ := okD_bd hf
  obtain ⟨_, _, hb'⟩ := okD_bd hg
  unfold inB
  cases hc : closeI n f with
  | none =>
    simp only [true_iff]
    exact fun q hq hu => absurd hu (none_no (close_none h2 hb hc) hq)
  | some c =>
    have K := close_facts h1 h2 hb hc
    simp only
    rw [inB_some h2 (fun i hi => K.diag hi), ← mE_under (K := 864691128455135232) (L := 288230376151711744) (by omega) (by omega) K.bound hb']
    exact ⟨fun h q hq hu => under_trans ((K.iff hq).1 hu) h, fun h => h _ K.closed.1 K.closed.2⟩

theorem away_iff {n : Nat} {f g : Nat → Int} (hf : okD n (n * n) f = true) (hg : okD n (n * n) g = true) : (closeM n (n * n) (lessF f g)).e = 6 ↔ ApP n f g := by
  have hu := fun q => under_less (q := q) (okD_le hf) (okD_le hg)
  rcases closeM_cases (okD_less hf hg) with ⟨c, h, K⟩ | ⟨h, hno⟩
  · rw [h]
    constructor
    · intro e; simp at e
    · intro h2
      obtain ⟨a, b⟩ := (hu _).1 K.closed.2
      exact absurd b (h2 _ K.closed.1 a)
  · rw [h]
    exact ⟨fun _ q hq h1 h2 => none_no hno hq ((hu q).2 ⟨h1, h2⟩), fun _ => rfl⟩
theorem meet_e {n : Nat} {f g : Nat → Int} (hf : okD n (n * n) f = true) (hg : okD n (n * n) g = true) : meetM n (n * n) f n (n * n) g = closeM n (n * n) (lessF f g) := by
  unfold meetM; rw [hf, hg]; simp

/-- The bound of what a bound leaves out. -/
def otherB (x : Int) : Int := mkB (-(bnum x)) (!bstr x)
theorem other_may {x : Int} (h : mayB x = true) (hx : x ≠ noneB) : mayB (otherB x) = true := by
  rcases mayB_bd h with h | h
  · exact absurd h hx
  · exact mkB_may (by omega) (by omega)
theorem other_ne {x : Int} (h : mayB x = true) (hx : x ≠ noneB) : otherB x ≠ noneB := by
  rcases mayB_bd h with h | h
  · exact absurd h hx
  · exact mkB_some (by omega) (by omega)
theorem other_zero (x : Int) : eadd (some x) (some (otherB x)) = some 0 := by
  unfold otherB mkB bnum bstr eadd
  simp only [Option.some.injEq]
  by_cases h : x % 2 = 0 <;> simp [h] <;> omega
theorem other_one {x : Int} {y : EB} (h : ¬ ele y (some x)) : ele (some 1) (eadd y (some (otherB x))) := by
  cases y with
  | none => exact ele_none _
  | some y =>
    unfold otherB mkB bnum bstr eadd
    simp only [ele] at h ⊢
    by_cases h1 : x % 2 = 0 <;> by_cases h2 : y % 2 = 0 <;> simp [h1, h2] <;> omega

/-- A closed one with a bound more is closed, if that makes nothing empty. -/
def oneMore (q : Nat → Nat → EB) (i j : Nat) (v : EB) : Nat → Nat → EB := fun a b => emin (q a b) (eadd (eadd (q a j) v) (q i b))
theorem eadd_swap (a b c d : EB) : eadd (eadd a b) (eadd c d) = eadd (eadd a c) (eadd b d) := by
  rw [eadd_assoc, eadd_assoc, ← eadd_assoc b, ← eadd_assoc c, eadd_comm b c]
theorem oneMore_closed {n i j : Nat} {q : Nat → Nat → EB} {v : EB} (hq : Closed n q) (hi : i < n) (hj : j < n) (h : ele (some 1) (eadd (q i j) v)) : Closed n (oneMore q i j v) := by
  have r := fun a b k ha hb hk => hq.2 a b k ha hb hk
  refine ⟨fun a ha => ?_, fun a b k ha hb hk => ?_⟩
  · unfold oneMore
    rw [hq.1 a ha]
    refine emin_eq_l (ele_trans h ?_)
    have h1 := eadd_mono_l v (r i j a hi hj ha)
    refine ele_trans h1 ?_
    rw [eadd_assoc, eadd_comm (q i a)]
    exact ele_refl _
  · have X : ele (oneMore q i j v a b) (q a b) := emin_le_l _ _
    have Y : ele (oneMore q i j v a b) (eadd (eadd (q a j) v) (q i b)) := emin_le_r _ _
    rcases emin_cases (q a k) (eadd (eadd (q a j) v) (q i k)) with e1 | ⟨e1, _⟩ <;> rcases emin_cases (q k b) (eadd (eadd (q k j) v) (q i b)) with e2 | ⟨e2, _⟩
    · show ele _ (eadd (emin (q a k) _) (emin (q k b) _))
      rw [e1, e2]; exact ele_trans X (r a b k ha hb hk)
    · show ele _ (eadd (emin (q a k) _) (emin (q k b) _))
      rw [e1, e2]
      refine ele_trans Y ?_
      rw [← eadd_assoc, ← eadd_assoc]
      exact eadd_mono_l _ (eadd_mono_l _ (r a j k ha hj hk))
    · show ele _ (eadd (emin (q a k) _) (emin (q k b) _))
      rw [e1, e2]
      refine ele_trans Y ?_
      rw [eadd_assoc (eadd (q a j) v) (q i k)]
      exact eadd_mono_r _ (r i b k hi hb hk)
    · show ele _ (eadd (emin (q a k) _) (emin (q k b) _))
      rw [e1, e2]
      refine ele_trans Y ?_
      have h2 : ele (some 1) (eadd (eadd (q i k) (q k j)) v) := ele_trans h (eadd_mono_l _ (r i j k hi hj hk))
      have h3 : ele (eadd (eadd (q a j) v) (q i b)) (eadd (eadd (eadd (q a j) v) (q i b)) (eadd (eadd (q i k) (q k j)) v)) := ele_add_one h2
      refine ele_trans h3 ?_
      rw [show eadd (eadd (eadd (q a j) v) (q i b)) (eadd (eadd (q i k) (q k j)) v) = eadd (eadd (eadd (q a j) v) (q i k)) (eadd (eadd (q k j) v) (q i b)) from by
        rw [eadd_assoc (q i k), eadd_swap _ (q i b), eadd_comm (q i b)]]
      exact ele_refl _
theorem oneMore_le {q : Nat → Nat → EB} {i j : Nat} {v : EB} {n : Nat} (hq : Closed n q) (hi : i < n) (hj : j < n) : Under n (oneMore q i j v) q ∧ ele (oneMore q i j v j i) v := by
  refine ⟨fun a b _ _ => emin_le_l _ _, ele_trans (emin_le_r _ _) ?_⟩
  rw [hq.1 j hj, hq.1 i hi, one_eadd, eadd_one]
  exact ele_refl _

/-- Nothing in common with what a bound leaves out: all keep the bound. -/
theorem out_iff {n i j : Nat} {f : Nat → Int} {x : Int} (hi : i < n) (hj : j < n) (hx : mayB x = true) (hn : x ≠ noneB) :
    ApP n f (upd (topF n) (j * n + i) (otherB x)) ↔ ∀ q, Closed n q → Under n q (mE n f) → ele (q i j) (eb x) := by
  rw [eb_some hn]
  constructor
  · intro h q hq hu
    refine Classical.byContradiction fun hno => ?_
    have hc := oneMore_closed (v := some (otherB x)) hq hi hj (other_one hno)
    obtain ⟨l1, l2⟩ := oneMore_le (v := some (otherB x)) hq hi hj
    refine h _ hc (under_trans l1 hu) ((under_one hc hj hi).2 ?_)
    rw [eb_some (other_ne hx hn)]; exact l2
  · intro h q hq hu ho
    have h1 := h q hq hu
    have h2 := (under_one hq hj hi).1 ho
    rw [eb_some (other_ne hx hn)] at h2
    have h3 := hq.2 i i j hi hi hj
    rw [hq.1 i hi] at h3
    have h4 := ele_trans h3 (eadd_mono h1 h2)
    rw [other_zero] at h4
    simp [ele] at h4

/-- The document's question: has it nothing in common with what each bound leaves out. -/
def outB (n : Nat) (f g : Nat → Int) (x : Nat) : Bool := decide (g x = noneB) || decide ((closeM n (n * n) (lessF f (upd (topF n) (x % n * n + x / n) (otherB (g x))))).e = 6)
theorem oneF_ok {n : Nat} {f : Nat → Int} {a : Nat} {b : Int} (h : okD n (n * n) f = true) (hb : mayB b = true) : okD n (n * n) (upd (topF n) a b) = true := by
  refine okD_of h fun y hy => ?_
  unfold upd
  split
  · exact hb
  · exact topF_may n y
theorem outB_iff {n i j : Nat} {f g : Nat → Int} (hf : okD n (n * n) f = true) (hg : okD n (n * n) g = true) (hi : i < n) (hj : j < n) :
    outB n f g (i * n + j) = true ↔ ∀ q, Closed n q → Under n q (mE n f) → ele (q i j) (mE n g i j) := by
  have hm := okD_may hg (i * n + j) (place_lt hi hj)
  have e1 : (i * n + j) % n = j := by rw [Nat.mul_comm, Nat.mul_add_mod]; exact Nat.mod_eq_of_lt hj
  have e2 : (i * n + j) / n = i := by rw [Nat.mul_comm, Nat.mul_add_div (by omega), Nat.div_eq_of_lt hj, Nat.add_zero]
  unfold outB
  rw [e1, e2]
  show _ ↔ ∀ q, Closed n q → Under n q (mE n f) → ele (q i j) (eb (g (i * n + j)))
  obtain ⟨x, hx⟩ : ∃ x, x = g (i * n + j) := ⟨_, rfl⟩
  rw [← hx] at hm ⊢
  by_cases hn : x = noneB
  · subst hn
    simp [eb_none, ele_none]
  · rw [decide_eq_false hn, Bool.false_or, decide_eq_true_iff, away_iff hf (oneF_ok hf (other_may hm hn)), out_iff hi hj hm hn]
theorem refIn_iff {n : Nat} {f g : Nat → Int} (hf : okD n (n * n) f = true) (hg : okD n (n * n) g = true) : (∀ x, x < n * n → outB n f g x = true) ↔ inB n f g = true := by
  rw [inB_iff hf hg]
  constructor
  · intro h q hq hu i j hi hj
    exact (outB_iff hf hg hi hj).1 (h _ (place_lt hi hj)) q hq hu
  · intro h x hx
    obtain ⟨i, j, hi, hj, rfl⟩ := at_place hx
    exact (outB_iff hf hg hi hj).2 fun q hq hu => h q hq hu i j hi hj
#print axioms refIn_iff
end Go.Proofs.YtpaomeilfmeheaaDoor
