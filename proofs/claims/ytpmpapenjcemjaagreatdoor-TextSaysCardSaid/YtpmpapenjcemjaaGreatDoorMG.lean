/- Plain laws: what lies in what, and what is apart, by closed ones. No condition. Contracts of incl.checked, incl.root, order.under, incl.In and incl.Apart, of all matrices. Contracts of the document's two, Away, Inside, In and Apart (layer 6), of all matrices. Plain laws: fractions of eighths: sums, middles, which is less, which bounds are kept. No condition but that they are not too great. Plain laws: the time that is picked keeps all bounds. No condition. Plain laws: the times that are picked of a closed matrix are fractions that may be, and keep it. No condition. Plain laws: all picked times are fractions that may be, none in between goes too far, and they keep the closed matrix. No condition. Contracts of incl.shift, of the closure that puts ends together, of incl.pick and incl.Pick. Contract of incl.pick: the time of a clock more. Contract of incl.Pick, of all matrices. What law06's statements begin with: its two and its alive. Plain laws: what lies in what, what is apart, in common, and kept, of all matrices. No condition. Plain laws: picked times keep the matrix; what two have in common; what is kept. No condition. -/
import Derived.Test.YtpmpapenjcemjaaGreatDoorMF
import Derived.Test.YtpmpapenjcemjaaGreatDoorME
import Derived.Test.YtpmpapenjcemjaaGreatDoorMK
import Derived.StillTailTactics
namespace Go.Proofs.YtpmpapenjcemjaaGreatDoor
set_option linter.unusedSimpArgs false
set_option linter.unusedVariables false
open Go Go.RowKit

/-- Each closed one under one is under the other. -/
def InP (n : Nat) (f g : Nat → Int) : Prop := ∀ q, Closed n q → Under n q (mE n f) → Under n q (mE n g)
/-- No closed one is under both. -/
def ApP (n : Nat) (f g : Nat → Int) : Prop := ∀ q, Closed n q → Under n q (mE n f) → ¬ Under n q (mE n g)

def diagK (n : Nat) (g : Nat → Int) : Bool := (List.range n).all fun i => decide (1 ≤ g (i * (n + 1)))
def underK (n : Nat) (c g : Nat → Int) : Bool := (List.range (n * n)).all fun x => decide (x % (n + 1) = 0) || decide (c x ≤ g x)
def inB (n : Nat) (f g : Nat → Int) : Bool := match closeI n f with
  | none => true
  | some c => diagK n g && underK n c g
def twoE (n1 : Int) (N1 : Nat) (f1 : Nat → Int) (n2 : Int) (N2 : Nat) (f2 : Nat → Int) : Int :=
  if okD n1 N1 f1 && okD n2 N2 f2 then (if n1 = n2 then 0 else 40) else 8
def inR (n1 : Int) (N1 : Nat) (f1 : Nat → Int) (n2 : Int) (N2 : Nat) (f2 : Nat → Int) : Bool × Int :=
  if twoE n1 N1 f1 n2 N2 f2 = 0 then (inB n1.toNat f1 f2, 0) else (false, twoE n1 N1 f1 n2 N2 f2)
def apR (n1 : Int) (N1 : Nat) (f1 : Nat → Int) (n2 : Int) (N2 : Nat) (f2 : Nat → Int) : Bool × Int :=
  if twoE n1 N1 f1 n2 N2 f2 = 0 then (decide ((meetM n1 N1 f1 n2 N2 f2).e = 6), 0) else (false, twoE n1 N1 f1 n2 N2 f2)

theorem diagK_iff {n : Nat} {g : Nat → Int} : diagK n g = true ↔ ∀ i, i < n → 1 ≤ g (i * (n + 1)) := by
  simp [diagK, List.all_eq_true]
theorem underK_iff {n : Nat} {c g : Nat → Int} : underK n c g = true ↔ ∀ x, x < n * n → x % (n + 1) = 0 ∨ c x ≤ g x := by
  simp [underK, List.all_eq_true]
theorem mod_diag {n i j : Nat} (hn : n ≤ 4) (hi : i < n) (hj : j < n) : (i * n + j) % (n + 1) = 0 ↔ i = j := by
  have h1 : n = 1 ∨ n = 2 ∨ n = 3 ∨ n = 4 := by omega
  rcases h1 with rfl | rfl | rfl | rfl <;> omega

/-- The code's question is: is the closed one under the other. -/
theorem inB_some {n : Nat} {c g : Nat → Int} (hn : n ≤ 4) (hc : ∀ i, i < n → c (i * n + i) = 1) : (diagK n g && underK n c g) = true ↔ ∀ i j, i < n → j < n → c (i * n + j) ≤ g (i * n + j) := by
  rw [Bool.and_eq_true, diagK_iff, underK_iff]
  constructor
  · rintro ⟨h1, h2⟩ i j hi hj
    by_cases e : i = j
    · subst e
      have := h1 i hi
      rw [hc i hi]
      rwa [Nat.mul_add, Nat.mul_one] at this
    · rcases h2 (i * n + j) (place_lt hi hj) with h | h
      · exact absurd ((mod_diag hn hi hj).1 h) e
      · exact h
  · intro h
    refine ⟨fun i hi => ?_, fun x hx => ?_⟩
    · have := h i i hi hi
      rw [hc i hi] at this
      rwa [Nat.mul_add, Nat.mul_one]
    · obtain ⟨i, j, hi, hj, rfl⟩ := at_place hx
      exact .inr (h i j hi hj)

theorem inB_iff {n : Nat} {f g : Nat → Int} (hf : okD n (n * n) f = true) (hg : okD n (n * n) g = true) : inB n f g = true ↔ InP n f g := by
  obtain ⟨h1, h2, hb⟩ := okD_bd hf
  obtain ⟨_, _, hb'⟩ := okD_bd hg
  unfold inB
  cases hc : closeI n f with
  | none =>
    simp only [true_iff]
    exact fun q hq hu => absurd hu (none_no (close_none h2 hb hc) hq)
  | some c =>
    have K := close_facts h1 h2 hb hc
    simp only
    rw [inB_some h2 (fun i hi => K.diag hi), ← mE_under (K := 864691128455135232) (L := 288230376151711744) (by omega) (by omega) K.bound hb']
    exact ⟨fun h q hq hu => under_trans ((K.iff hq).1 hu) h, fun h => h _ K.closed.1 K.closed.2⟩

theorem away_iff {n : Nat} {f g : Nat → Int} (hf : okD n (n * n) f = true) (hg : okD n (n * n) g = true) : (closeM n (n * n) (lessF f g)).e = 6 ↔ ApP n f g := by
  have hu := fun q => under_less (q := q) (okD_le hf) (okD_le hg)
  rcases closeM_cases (okD_less hf hg) with ⟨c, h, K⟩ | ⟨h, hno⟩
  · rw [h]
    constructor
    · intro e; simp at e
    · intro h2
      obtain ⟨a, b⟩ := (hu _).1 K.closed.2
      exact absurd b (h2 _ K.closed.1 a)
  · rw [h]
    exact ⟨fun _ q hq h1 h2 => none_no hno hq ((hu q).2 ⟨h1, h2⟩), fun _ => rfl⟩
theorem meet_e {n : Nat} {f g : Nat → Int} (hf : okD n (n * n) f = true) (hg : okD n (n * n) g = true) : meetM n (n * n) f n (n * n) g = closeM n (n * n) (lessF f g) := by
  unfold meetM; rw [hf, hg]; simp

/-- The bound of what a bound leaves out. -/
def otherB (x : Int) : Int := mkB (-(bnum x)) (!bstr x)
theorem other_may {x : Int} (h : mayB x = true) (hx : x ≠ noneB) : mayB (otherB x) = true := by
  rcases mayB_bd h with h | h
  · exact absurd h hx
  · exact mkB_may (by omega) (by omega)
theorem other_ne {x : Int} (h : mayB x = true) (hx : x ≠ noneB) : otherB x ≠ noneB := by
  rcases mayB_bd h with h | h
  · exact absurd h hx
  · exact mkB_some (by omega) (by omega)
theorem other_zero (x : Int) : eadd (some x) (some (otherB x)) = some 0 := by
  unfold otherB mkB bnum bstr eadd
  simp only [Option.some.injEq]
  by_cases h : x % 2 = 0 <;> simp [h] <;> omega
theorem other_one {x : Int} {y : EB} (h : ¬ ele y (some x)) : ele (some 1) (eadd y (some (otherB x))) := by
  cases y with
  | none => exact ele_none _
  | some y =>
    unfold otherB mkB bnum bstr eadd
    simp only [ele] at h ⊢
    by_cases h1 : x % 2 = 0 <;> by_cases h2 : y % 2 = 0 <;> simp [h1, h2] <;> omega

/-- A closed one with a bound more is closed, if that makes nothing empty. -/
def oneMore (q : Nat → Nat → EB) (i j : Nat) (v : EB) : Nat → Nat → EB := fun a b => emin (q a b) (eadd (eadd (q a j) v) (q i b))
theorem eadd_swap (a b c d : EB) : eadd (eadd a b) (eadd c d) = eadd (eadd a c) (eadd b d) := by
  rw [eadd_assoc, eadd_assoc, ← eadd_assoc b, ← eadd_assoc c, eadd_comm b c]
theorem oneMore_closed {n i j : Nat} {q : Nat → Nat → EB} {v : EB} (hq : Closed n q) (hi : i < n) (hj : j < n) (h : ele (some 1) (eadd (q i j) v)) : Closed n (oneMore q i j v) := by
  have r := fun a b k ha hb hk => hq.2 a b k ha hb hk
  refine ⟨fun a ha => ?_, fun a b k ha hb hk => ?_⟩
  · unfold oneMore
    rw [hq.1 a ha]
    refine emin_eq_l (ele_trans h ?_)
    have h1 := eadd_mono_l v (r i j a hi hj ha)
    refine ele_trans h1 ?_
    rw [eadd_assoc, eadd_comm (q i a)]
    exact ele_refl _
  · have X : ele (oneMore q i j v a b) (q a b) := emin_le_l _ _
    have Y : ele (oneMore q i j v a b) (eadd (eadd (q a j) v) (q i b)) := emin_le_r _ _
    rcases emin_cases (q a k) (eadd (eadd (q a j) v) (q i k)) with e1 | ⟨e1, _⟩ <;> rcases emin_cases (q k b) (eadd (eadd (q k j) v) (q i b)) with e2 | ⟨e2, _⟩
    · show ele _ (eadd (emin (q a k) _) (emin (q k b) _))
      rw [e1, e2]; exact ele_trans X (r a b k ha hb hk)
    · show ele _ (eadd (emin (q a k) _) (emin (q k b) _))
      rw [e1, e2]
      refine ele_trans Y ?_
      rw [← eadd_assoc, ← eadd_assoc]
      exact eadd_mono_l _ (eadd_mono_l _ (r a j k ha hj hk))
    · show ele _ (eadd (emin (q a k) _) (emin (q k b) _))
      rw [e1, e2]
      refine ele_trans Y ?_
      rw [eadd_assoc (eadd (q a j) v) (q i k)]
      exact eadd_mono_r _ (r i b k hi hb hk)
    · show ele _ (eadd (emin (q a k) _) (emin (q k b) _))
      rw [e1, e2]
      refine ele_trans Y ?_
      have h2 : ele (some 1) (eadd (eadd (q i k) (q k j)) v) := ele_trans h (eadd_mono_l _ (r i j k hi hj hk))
      have h3 : ele (eadd (eadd (q a j) v) (q i b)) (eadd (eadd (eadd (q a j) v) (q i b)) (eadd (eadd (q i k) (q k j)) v)) := ele_add_one h2
      refine ele_trans h3 ?_
      rw [show eadd (eadd (eadd (q a j) v) (q i b)) (eadd (eadd (q i k) (q k j)) v) = eadd (eadd (eadd (q a j) v) (q i k)) (eadd (eadd (q k j) v) (q i b)) from by
        rw [eadd_assoc (q i k), eadd_swap _ (q i b), eadd_comm (q i b)]]
      exact ele_refl _
theorem oneMore_le {q : Nat → Nat → EB} {i j : Nat} {v : EB} {n : Nat} (hq : Closed n q) (hi : i < n) (hj : j < n) : Under n (oneMore q i j v) q ∧ ele (oneMore q i j v j i) v := by
  refine ⟨fun a b _ _ => emin_le_l _ _, ele_trans (emin_le_r _ _) ?_⟩
  rw [hq.1 j hj, hq.1 i hi, one_eadd, eadd_one]
  exact ele_refl _

/-- Nothing in common with what a bound leaves out: all keep the bound. -/
theorem out_iff {n i j : Nat} {f : Nat → Int} {x : Int} (hi : i < n) (hj : j < n) (hx : mayB x = true) (hn : x ≠ noneB) :
    ApP n f (upd (topF n) (j * n + i) (otherB x)) ↔ ∀ q, Closed n q → Under n q (mE n f) → ele (q i j) (eb x) := by
  rw [eb_some hn]
  constructor
  · intro h q hq hu
    refine Classical.byContradiction fun hno => ?_
    have hc := oneMore_closed (v := some (otherB x)) hq hi hj (other_one hno)
    obtain ⟨l1, l2⟩ := oneMore_le (v := some (otherB x)) hq hi hj
    refine h _ hc (under_trans l1 hu) ((under_one hc hj hi).2 ?_)
    rw [eb_some (other_ne hx hn)]; exact l2
  · intro h q hq hu ho
    have h1 := h q hq hu
    have h2 := (under_one hq hj hi).1 ho
    rw [eb_some (other_ne hx hn)] at h2
    have h3 := hq.2 i i j hi hi hj
    rw [hq.1 i hi] at h3
    have h4 := ele_trans h3 (eadd_mono h1 h2)
    rw [other_zero] at h4
    simp [ele] at h4

/-- The document's question: has it nothing in common with what each bound leaves out. -/
def outB (n : Nat) (f g : Nat → Int) (x : Nat) : Bool := decide (g x = noneB) || decide ((closeM n (n * n) (lessF f (upd (topF n) (x % n * n + x / n) (otherB (g x))))).e = 6)
theorem oneF_ok {n : Nat} {f : Nat → Int} {a : Nat} {b : Int} (h : okD n (n * n) f = true) (hb : mayB b = true) : okD n (n * n) (upd (topF n) a b) = true := by
  refine okD_of h fun y hy => ?_
  unfold upd
  split
  · exact hb
  · exact topF_may n y
theorem outB_iff {n i j : Nat} {f g : Nat → Int} (hf : okD n (n * n) f = true) (hg : okD n (n * n) g = true) (hi : i < n) (hj : j < n) :
    outB n f g (i * n + j) = true ↔ ∀ q, Closed n q → Under n q (mE n f) → ele (q i j) (mE n g i j) := by
  have hm := okD_may hg (i * n + j) (place_lt hi hj)
  have e1 : (i * n + j) % n = j := by rw [Nat.mul_comm, Nat.mul_add_mod]; exact Nat.mod_eq_of_lt hj
  have e2 : (i * n + j) / n = i := by rw [Nat.mul_comm, Nat.mul_add_div (by omega), Nat.div_eq_of_lt hj, Nat.add_zero]
  unfold outB
  rw [e1, e2]
  show _ ↔ ∀ q, Closed n q → Under n q (mE n f) → ele (q i j) (eb (g (i * n + j)))
  obtain ⟨x, hx⟩ : ∃ x, x = g (i * n + j) := ⟨_, rfl⟩
  rw [← hx] at hm ⊢
  by_cases hn : x = noneB
  · subst hn
    simp [eb_none, ele_none]
  · rw [decide_eq_false hn, Bool.false_or, decide_eq_true_iff, away_iff hf (oneF_ok hf (other_may hm hn)), out_iff hi hj hm hn]
theorem refIn_iff {n : Nat} {f g : Nat → Int} (hf : okD n (n * n) f = true) (hg : okD n (n * n) g = true) : (∀ x, x < n * n → outB n f g x = true) ↔ inB n f g = true := by
  rw [inB_iff hf hg]
  constructor
  · intro h q hq hu i j hi hj
    exact (outB_iff hf hg hi hj).1 (h _ (place_lt hi hj)) q hq hu
  · intro h x hx
    obtain ⟨i, j, hi, hj, rfl⟩ := at_place hx
    exact (outB_iff hf hg hi hj).2 fun q hq hu => h q hq hu i j hi hj
#print axioms refIn_iff
end Go.Proofs.YtpmpapenjcemjaaGreatDoor

namespace Go.Proofs.YtpmpapenjcemjaaGreatDoor
set_option linter.unusedSimpArgs false
set_option linter.unusedVariables false
open Go Go.RowKit Go.Shelf
attribute [local go_sem] Nat.add_assoc Nat.add_lt_add_iff_left lit_lt_add

/-- How far the bounds are under. -/
theorem underK_step {n : Nat} {c g : Nat → Int} (h : ∀ x, x < n * n → x % (n + 1) = 0 ∨ c x ≤ g x) : underK n c g = true := underK_iff.2 h
theorem underK_stop {n t : Nat} {c g : Nat → Int} (ht : t < n * n) (h1 : ¬ t % (n + 1) = 0) (h2 : ¬ c t ≤ g t) : underK n c g = false := by
  rw [← Bool.not_eq_true, underK_iff]
  exact fun h => (h t ht).elim h1 h2

theorem inB_none {n : Nat} {f g : Nat → Int} (hok : okD n (n * n) f = true) (h : closeM n (n * n) f = errM 6) : inB n f g = true := by
  unfold inB
  cases hc : closeI n f with
  | none => rfl
  | some c =>
    exfalso
    have : closeM n (n * n) f = ⟨n, n * n, c, 0⟩ := by
      unfold closeM closeR
      rw [hok, if_pos rfl, show ((n : Int)).toNat = n from rfl, hc]; rfl
    rw [this] at h
    have := congrArg MR.e h
    simp [errM] at this
theorem inB_closed {n : Nat} {f g c : Nat → Int} (hok : okD n (n * n) f = true) (h : closeM n (n * n) f = ⟨n, n * n, c, 0⟩) : inB n f g = (diagK n g && underK n c g) := by
  unfold inB
  unfold closeM closeR at h
  rw [hok, if_pos rfl, show ((n : Int)).toNat = n from rfl] at h
  cases hc : closeI n f with
  | none => rw [hc] at h; have := congrArg MR.e h; simp [mR, errM] at this
  | some c' =>
    rw [hc] at h
    have := congrArg MR.f h
    simp only [mR] at this
    rw [this]
theorem diagK_stop {n t : Nat} {g : Nat → Int} (ht : t < n) (h : ¬ 1 ≤ g (t * (n + 1))) : diagK n g = false := by
  rw [← Bool.not_eq_true, diagK_iff]
  exact fun h' => h (h' t ht)
def pairBE (r : Bool × Int) : Value := .tuple #[.bool r.1, .int .i64 r.2]
theorem gives_be {w w' : World} {b : Bool} {c : Int} {r : Bool × Int} (he : r = (b, c)) (h : Below w.heap.size w w') : Gives w (pairBE r) (.returned (.tuple #[.bool b, .int .i64 c])) w' := gives_end (by rw [he]; rfl) h

theorem twoE_cases (n1 : Int) (N1 : Nat) (f1 : Nat → Int) (n2 : Int) (N2 : Nat) (f2 : Nat → Int) :
    (twoE n1 N1 f1 n2 N2 f2 ≠ 0 ∧ (twoE n1 N1 f1 n2 N2 f2 = 8 ∨ twoE n1 N1 f1 n2 N2 f2 = 40)) ∨
    (∃ m : Nat, n1 = (m : Int) ∧ n2 = (m : Int) ∧ N1 = m * m ∧ N2 = m * m ∧ 1 ≤ m ∧ m ≤ 4 ∧ okD m (m * m) f1 = true ∧ okD m (m * m) f2 = true ∧ twoE n1 N1 f1 n2 N2 f2 = 0) := by
  unfold twoE
  cases o1 : okD n1 N1 f1
  · left; simp
  · cases o2 : okD n2 N2 f2
    · left; simp
    · by_cases e : n1 = n2
      · right
        subst e
        obtain ⟨m, rfl, rfl, h1, h2⟩ := okD_form o1
        obtain ⟨m', h, rfl, _, _⟩ := okD_form o2
        obtain rfl : m = m' := by omega
        exact ⟨m, rfl, rfl, rfl, rfl, h1, h2, o1, o2, by simp⟩
      · left; simp [e]
theorem inR_ok {n : Nat} {f1 f2 : Nat → Int} (h : twoE n (n * n) f1 n (n * n) f2 = 0) : inR n (n * n) f1 n (n * n) f2 = (inB n f1 f2, 0) := by
  unfold inR; rw [if_pos h]; rfl
theorem inR_bad {n1 : Int} {N1 : Nat} {f1 : Nat → Int} {n2 : Int} {N2 : Nat} {f2 : Nat → Int} (h : twoE n1 N1 f1 n2 N2 f2 ≠ 0) : inR n1 N1 f1 n2 N2 f2 = (false, twoE n1 N1 f1 n2 N2 f2) := if_neg h
theorem apR_ok {n1 : Int} {N1 : Nat} {f1 : Nat → Int} {n2 : Int} {N2 : Nat} {f2 : Nat → Int} (h : twoE n1 N1 f1 n2 N2 f2 = 0) : apR n1 N1 f1 n2 N2 f2 = (decide ((meetM n1 N1 f1 n2 N2 f2).e = 6), 0) := if_pos h
theorem apR_bad {n1 : Int} {N1 : Nat} {f1 : Nat → Int} {n2 : Int} {N2 : Nat} {f2 : Nat → Int} (h : twoE n1 N1 f1 n2 N2 f2 ≠ 0) : apR n1 N1 f1 n2 N2 f2 = (false, twoE n1 N1 f1 n2 N2 f2) := if_neg h

end Go.Proofs.YtpmpapenjcemjaaGreatDoor

namespace Go.Proofs.YtpmpapenjcemjaaGreatDoor
set_option linter.unusedSimpArgs false
set_option linter.unusedVariables false
open Go Go.RowKit Go.Shelf
attribute [local go_sem] Nat.add_assoc Nat.add_lt_add_iff_left lit_lt_add

theorem close_e6 {n : Nat} {f : Nat → Int} (hok : okD n (n * n) f = true) : (!decide ((closeM n (n * n) f).e = 0)) = decide ((closeM n (n * n) f).e = 6) := by
  rcases closeM_cases hok with ⟨c, h, _⟩ | ⟨h, _⟩ <;> rw [h] <;> rfl

/-- What a round of the document's question asks. -/
theorem outB_none {n x : Nat} {f g : Nat → Int} (h : g x = noneB) : outB n f g x = true := by unfold outB; rw [decide_eq_true h]; rfl
theorem outB_some {n i j : Nat} {f g : Nat → Int} (hj : j < n) (h : g (i * n + j) ≠ noneB) : outB n f g (i * n + j) = decide ((closeM n (n * n) (lessF f (upd (topF n) (j * n + i) (otherB (g (i * n + j)))))).e = 6) := by
  have e1 : (i * n + j) % n = j := by rw [Nat.mul_comm, Nat.mul_add_mod]; exact Nat.mod_eq_of_lt hj
  have e2 : (i * n + j) / n = i := by rw [Nat.mul_comm, Nat.mul_add_div (by omega), Nat.div_eq_of_lt hj, Nat.add_zero]
  unfold outB
  rw [decide_eq_false h, Bool.false_or, e1, e2]
theorem refIn_stop {n x : Nat} {f g : Nat → Int} (hf : okD n (n * n) f = true) (hg : okD n (n * n) g = true) (hx : x < n * n) (h : outB n f g x = false) : inB n f g = false := by
  rw [← Bool.not_eq_true, ← refIn_iff hf hg]
  intro h'
  rw [h' x hx] at h; cases h

/-- What stays while the document asks bound by bound. -/
structure InI (w : World) (n N : Nat) (p1 p2 : Option Addr) (c1 c2 : Nat) (W : World) : Prop where
  below : Below w.heap.size w W
  size : w.heap.size + 1 < W.heap.size
  a0 : W.cell? ⟨w.heap.size, 0, none⟩ = some (.int .i64 n)
  a1 : W.cell? ⟨w.heap.size, 1, none⟩ = some (.slice p1 N c1)
  b0 : W.cell? ⟨w.heap.size + 1, 0, none⟩ = some (.int .i64 n)
  b1 : W.cell? ⟨w.heap.size + 1, 1, none⟩ = some (.slice p2 N c2)
theorem InI.later {w : World} {n N : Nat} {p1 p2 : Option Addr} {c1 c2 : Nat} {W W' : World} (h : InI w n N p1 p2 c1 c2 W) (hb : Below W.heap.size W W') : InI w n N p1 p2 c1 c2 W' :=
  ⟨h.below.trans (hb.mono h.below.size), Nat.lt_of_lt_of_le h.size hb.size, (hb.cell (p := ⟨w.heap.size, 0, none⟩) (by have := h.size; show w.heap.size < _; omega)).trans h.a0, (hb.cell (p := ⟨w.heap.size, 1, none⟩) (by have := h.size; show w.heap.size < _; omega)).trans h.a1, (hb.cell (p := ⟨w.heap.size + 1, 0, none⟩) h.size).trans h.b0, (hb.cell (p := ⟨w.heap.size + 1, 1, none⟩) h.size).trans h.b1⟩

end Go.Proofs.YtpmpapenjcemjaaGreatDoor

namespace Go.Proofs.YtpmpapenjcemjaaGreatDoor
set_option linter.unusedSimpArgs false
set_option linter.unusedVariables false
open Go Go.RowKit

theorem gcd8 (a : Nat) : Nat.gcd a 8 = if a % 8 = 0 then 8 else if a % 4 = 0 then 4 else if a % 2 = 0 then 2 else 1 := by
  have h : ∀ r, r < 8 → Nat.gcd r 8 = if r % 8 = 0 then 8 else if r % 4 = 0 then 4 else if r % 2 = 0 then 2 else 1 := by decide
  have e : Nat.gcd a 8 = Nat.gcd (a % 8) 8 := by rw [Nat.gcd_comm, Nat.gcd_rec]
  rw [e, h _ (Nat.mod_lt _ (by omega))]
  simp only [show a % 8 % 8 = a % 8 from by omega, show a % 8 % 4 = a % 4 from by omega, show a % 8 % 2 = a % 2 from by omega]

/-- So many eighths in lowest terms. -/
def q8 (t : Int) : Int × Int := if t % 8 = 0 then (t / 8, 1) else if t % 4 = 0 then (t / 4, 2) else if t % 2 = 0 then (t / 2, 4) else (t, 8)
theorem q8_eq (t : Int) : (q8 t).1 * 8 = t * (q8 t).2 ∧ ((q8 t).2 = 1 ∨ (q8 t).2 = 2 ∨ (q8 t).2 = 4 ∨ (q8 t).2 = 8) := by
  unfold q8
  split
  · exact ⟨show t / 8 * 8 = t * 1 by omega, .inl rfl⟩
  · split
    · exact ⟨show t / 4 * 8 = t * 2 by omega, .inr (.inl rfl)⟩
    · split
      · exact ⟨show t / 2 * 8 = t * 4 by omega, .inr (.inr (.inl rfl))⟩
      · exact ⟨rfl, .inr (.inr (.inr rfl))⟩
theorem q8_pos (t : Int) : 0 < (q8 t).2 := by have := (q8_eq t).2; omega
theorem q8_neg (t : Int) : q8 (-t) = (-(q8 t).1, (q8 t).2) := by
  unfold q8
  by_cases h8 : t % 8 = 0
  · rw [if_pos (by omega), if_pos h8]; simp only; congr 1; omega
  · rw [if_neg (by omega), if_neg h8]
    by_cases h4 : t % 4 = 0
    · rw [if_pos (by omega), if_pos h4]; simp only; congr 1; omega
    · rw [if_neg (by omega), if_neg h4]
      by_cases h2 : t % 2 = 0
      · rw [if_pos (by omega), if_pos h2]; simp only; congr 1; omega
      · rw [if_neg (by omega), if_neg h2]
theorem q8_whole (n : Int) : q8 (8 * n) = (n, 1) := by
  unfold q8; rw [if_pos (by omega)]; congr 1; omega
theorem q8_zero : q8 0 = (0, 1) := q8_whole 0
theorem q8_inj {a b : Int} (h : q8 a = q8 b) : a = b := by
  have h1 := (q8_eq a).1
  have h2 := (q8_eq b).1
  have h3 := (q8_eq b).2
  rw [h] at h1
  have : a * (q8 b).2 = b * (q8 b).2 := by omega
  exact Int.eq_of_mul_eq_mul_right (by omega) this

theorem normR_scale (T G m : Int) (hm : 0 < m) : normR (T * m) (G * m) = normR T G := by
  unfold normR
  have e : ((Nat.gcd (T * m).natAbs (G * m).natAbs : Nat) : Int) = (Nat.gcd T.natAbs G.natAbs : Nat) * m := by
    rw [Int.natAbs_mul, Int.natAbs_mul, Nat.gcd_mul_right]
    push_cast
    rw [Int.natAbs_of_nonneg (by omega)]
  rw [e, Int.mul_ediv_mul_of_pos_left _ _ hm, Int.mul_ediv_mul_of_pos_left _ _ hm]
theorem normR_same {T G t : Int} (hG : 0 < G) (h : T * 8 = t * G) : normR T G = normR t 8 := by
  rw [← normR_scale T G 8 (by omega), h, Int.mul_comm G 8, normR_scale t 8 G hG]
/-- Not too great: of whole numbers, halves and quarters up to 2^61, of eighths up to 2^60. -/
def ok8 (t : Int) : Prop := -18446744073709551616 < t ∧ t < 18446744073709551616 ∧ (t % 2 ≠ 0 → -9223372036854775808 < t ∧ t < 9223372036854775808)
theorem ok8.neg {t : Int} (h : ok8 t) : ok8 (-t) := by unfold ok8 at *; omega
theorem q8_fits {t : Int} (h : ok8 t) : fits64 (q8 t).1 := by
  obtain ⟨h1, h2, h3⟩ := h
  unfold q8 fits64
  split
  · show _ ≤ t / 8 ∧ t / 8 ≤ _; omega
  · split
    · show _ ≤ t / 4 ∧ t / 4 ≤ _; omega
    · split
      · show _ ≤ t / 2 ∧ t / 2 ≤ _; omega
      · show _ ≤ t ∧ t ≤ _; have := h3 (by omega); omega
theorem q8_fits2 (t : Int) : fits64 (q8 t).2 := by have := (q8_eq t).2; unfold fits64; omega
theorem q8_floor (t : Int) : (q8 t).1 / (q8 t).2 = t / 8 ∧ ((q8 t).1 % (q8 t).2 = 0 ↔ t % 8 = 0) := by
  unfold q8
  split
  · show t / 8 / 1 = t / 8 ∧ (t / 8 % 1 = 0 ↔ t % 8 = 0); omega
  · split
    · show t / 4 / 2 = t / 8 ∧ (t / 4 % 2 = 0 ↔ t % 8 = 0); omega
    · split
      · show t / 2 / 4 = t / 8 ∧ (t / 2 % 4 = 0 ↔ t % 8 = 0); omega
      · show t / 8 = t / 8 ∧ (t % 8 = 0 ↔ t % 8 = 0); omega
theorem q8_norm {t : Int} : (t / (Nat.gcd t.natAbs (8 : Int).natAbs : Nat), 8 / ((Nat.gcd t.natAbs (8 : Int).natAbs : Nat) : Int)) = q8 t := by
  rw [show (8 : Int).natAbs = 8 from rfl, gcd8]
  unfold q8
  by_cases h8 : t % 8 = 0
  · rw [if_pos (show t.natAbs % 8 = 0 by omega), if_pos h8]; rfl
  · rw [if_neg (show ¬ t.natAbs % 8 = 0 by omega), if_neg h8]
    by_cases h4 : t % 4 = 0
    · rw [if_pos (show t.natAbs % 4 = 0 by omega), if_pos h4]; rfl
    · rw [if_neg (show ¬ t.natAbs % 4 = 0 by omega), if_neg h4]
      by_cases h2 : t % 2 = 0
      · rw [if_pos (show t.natAbs % 2 = 0 by omega), if_pos h2]; rfl
      · rw [if_neg (show ¬ t.natAbs % 2 = 0 by omega), if_neg h2]; simp
theorem q8_co (t : Int) : Nat.gcd (q8 t).1.natAbs (q8 t).2.natAbs = 1 := by
  have h := div_gcd_co t 8 (by omega)
  have e := q8_norm (t := t)
  rw [Prod.ext_iff] at e
  simp only at e
  rw [e.1, e.2] at h
  exact h
theorem q8_ok {t : Int} (h : ok8 t) : okRat (q8 t).1 (q8 t).2 = true := by
  obtain ⟨h1, h2, h3⟩ := h
  have hf := q8_floor t
  have hd := (q8_eq t).2
  unfold okRat withinB
  have hc := q8_co t
  simp only [Bool.and_eq_true, decide_eq_true_iff, hf.1]
  exact ⟨by omega, by omega, by omega, hc⟩
theorem normR_q8 {T G t : Int} (hG : 0 < G) (h : T * 8 = t * G) (ho : ok8 t) : normR T G = ((q8 t).1, (q8 t).2, 0) := by
  have hk := q8_ok ho
  have hf := q8_fits ho
  have e := q8_norm (t := t)
  rw [Prod.ext_iff] at e
  simp only at e
  rw [normR_same hG h]
  unfold normR
  rw [e.1, e.2, if_pos ⟨hf, hk⟩]

theorem add8 {a n : Int} (ha : ok8 a) (hn : ok8 (8 * n)) (hr : ok8 (a + 8 * n)) : addPR (q8 a).1 (q8 a).2 n 1 1 = ((q8 (a + 8 * n)).1, (q8 (a + 8 * n)).2, 0) := by
  have h1 := q8_ok ha
  have h2 := q8_ok hn
  rw [q8_whole] at h2
  unfold addPR sumR
  rw [h1, h2]
  simp only [Bool.and_self, if_true]
  refine normR_q8 (by have := q8_pos a; omega) ?_ hr
  have := (q8_eq a).1
  generalize (q8 a).1 = p at *
  generalize (q8 a).2 = q at *
  rw [Int.mul_one, Int.mul_one, Int.mul_one, Int.add_mul, Int.add_mul, this]
  congr 1
  rw [Int.mul_comm 8 n, Int.mul_assoc, Int.mul_assoc, Int.mul_comm q 8]
theorem mid8 {a b m : Int} (ha : ok8 a) (hb : ok8 b) (hm : a + b = 2 * m) (hr : ok8 m) : addPR (q8 a).1 (q8 a).2 (q8 b).1 (q8 b).2 2 = ((q8 m).1, (q8 m).2, 0) := by
  have h1 := q8_ok ha
  have h2 := q8_ok hb
  unfold addPR sumR
  rw [h1, h2]
  simp only [Bool.and_self, if_true]
  have p1 := q8_pos a
  have p2 := q8_pos b
  refine normR_q8 (by have := Int.mul_pos p1 p2; omega) ?_ hr
  have e1 := (q8_eq a).1
  have e2 := (q8_eq b).1
  generalize (q8 a).1 = p at *
  generalize (q8 a).2 = q at *
  generalize (q8 b).1 = r at *
  generalize (q8 b).2 = s at *
  have x1 : p * s * 8 = a * (q * s) := by rw [Int.mul_right_comm, e1, Int.mul_assoc]
  have x2 : r * q * 8 = b * (q * s) := by rw [Int.mul_right_comm, e2, Int.mul_assoc, Int.mul_comm s q]
  rw [Int.add_mul, x1, x2, ← Int.add_mul, hm, Int.mul_comm 2 m, Int.mul_assoc, Int.mul_comm 2]
theorem cmp8 (a b : Int) : cmpR (q8 a).1 (q8 a).2 (q8 b).1 (q8 b).2 = sgn3 a b 0 := by
  have p1 := q8_pos a
  have p2 := q8_pos b
  have e1 := (q8_eq a).1
  have e2 := (q8_eq b).1
  unfold cmpR
  generalize (q8 a).1 = p at *
  generalize (q8 a).2 = q at *
  generalize (q8 b).1 = r at *
  generalize (q8 b).2 = s at *
  have hqs := Int.mul_pos p1 p2
  have x1 : p * s * 8 = a * (q * s) := by rw [Int.mul_right_comm, e1, Int.mul_assoc]
  have x2 : r * q * 8 = b * (q * s) := by rw [Int.mul_right_comm, e2, Int.mul_assoc, Int.mul_comm s q]
  generalize p * s = X at *
  generalize r * q = Y at *
  generalize q * s = Z at *
  unfold sgn3
  by_cases h : a < b
  · have := Int.mul_lt_mul_of_pos_right h hqs
    rw [if_pos h, if_pos (by omega)]
  · rw [if_neg h]
    by_cases h' : b < a
    · have := Int.mul_lt_mul_of_pos_right h' hqs
      rw [if_pos h', if_neg (by omega), if_pos (by omega)]
    · obtain rfl : a = b := by omega
      rw [if_neg h', if_neg (by omega), if_neg (by omega)]
/-- A difference of eighths keeps a bound. -/
def keepE (a b : Int) : Prop := b = noneB ∨ a < 8 * (b / 2) ∨ (a = 8 * (b / 2) ∧ ¬ b % 2 = 0)
instance (a b : Int) : Decidable (keepE a b) := by unfold keepE; infer_instance
theorem keep8 (a b x : Int) : keptB (q8 a).1 (q8 a).2 (q8 b).1 (q8 b).2 x = decide (keepE (a - b) x) := by
  have p1 := q8_pos a
  have p2 := q8_pos b
  have e1 := (q8_eq a).1
  have e2 := (q8_eq b).1
  have hk := keptB_iff (x := x) (n1 := (q8 a).1) (n2 := (q8 b).1) p1 p2
  generalize (q8 a).1 = p at *
  generalize (q8 a).2 = q at *
  generalize (q8 b).1 = r at *
  generalize (q8 b).2 = s at *
  have hqs := Int.mul_pos p1 p2
  have x1 : p * s * 8 = a * (q * s) := by rw [Int.mul_right_comm, e1, Int.mul_assoc]
  have x2 : r * q * 8 = b * (q * s) := by rw [Int.mul_right_comm, e2, Int.mul_assoc, Int.mul_comm s q]
  rw [Bool.eq_iff_iff, hk, decide_eq_true_iff]
  unfold keepE
  by_cases hn : x = noneB
  · subst hn; simp [eb_none, ele_none]
  · rw [eb_some hn, ele_some, ← kept_core hqs]
    simp only [hn, false_or]
    generalize p * s = X at *
    generalize r * q = Y at *
    generalize q * s = Z at *
    have hz : (a - b) * Z = (X - Y) * 8 := by rw [Int.sub_mul]; omega
    have hl : X - Y < x / 2 * Z ↔ a - b < 8 * (x / 2) := by
      have e : 8 * (x / 2) * Z = x / 2 * Z * 8 := by rw [Int.mul_assoc, Int.mul_comm]
      constructor
      · intro h
        refine Int.lt_of_mul_lt_mul_right ?_ (Int.le_of_lt hqs)
        rw [hz, e]; omega
      · intro h
        have := Int.mul_lt_mul_of_pos_right h hqs
        rw [hz, e] at this; omega
    have he : X - Y = x / 2 * Z ↔ a - b = 8 * (x / 2) := by
      have e : 8 * (x / 2) * Z = x / 2 * Z * 8 := by rw [Int.mul_assoc, Int.mul_comm]
      constructor
      · intro h
        refine Int.eq_of_mul_eq_mul_right (Int.ne_of_gt hqs) ?_
        rw [hz, e, h]
      · intro h
        have : (a - b) * Z = 8 * (x / 2) * Z := by rw [h]
        rw [hz, e] at this; omega
    rw [hl, he]
#print axioms keep8
end Go.Proofs.YtpmpapenjcemjaaGreatDoor

namespace Go.Proofs.YtpmpapenjcemjaaGreatDoor
set_option linter.unusedSimpArgs false
set_option linter.unusedVariables false
open Go Go.RowKit

/-- An end, in eighths: where, and whether it is strict. -/
abbrev EndE := Option (Int × Bool)
def lowE (x : EndE) (b t : Int) : EndE :=
  if b = noneB then x else match x with
    | none => some (t - 8 * (b / 2), bstr b)
    | some (y, st) => if y < t - 8 * (b / 2) then some (t - 8 * (b / 2), bstr b) else if t - 8 * (b / 2) = y then some (y, st || bstr b) else some (y, st)
def lowF (g t : Nat → Int) : Nat → EndE
  | 0 => none
  | k + 1 => lowE (lowF g t k) (g k) (t k)
/-- The time between two ends: the upper one's sign is turned. -/
def pickE : EndE → EndE → Int
  | some (y, false), _ => y
  | _, some (z, false) => -z
  | some (y, true), some (z, true) => (y + -z) / 2
  | some (y, true), none => y + 8
  | none, some (z, true) => -z - 8
  | none, none => 0

theorem low_none {g t : Nat → Int} : ∀ K, lowF g t K = none → ∀ k, k < K → g k = noneB
  | 0, _, k, hk => by omega
  | K + 1, h, k, hk => by
    unfold lowF lowE at h
    by_cases hb : g K = noneB
    · rw [if_pos hb] at h
      rcases Nat.lt_succ_iff_lt_or_eq.1 hk with h1 | h1
      · exact low_none K h k h1
      · rw [h1]; exact hb
    · rw [if_neg hb] at h
      exfalso
      split at h
      · cases h
      · split at h
        · cases h
        · split at h <;> cases h
theorem low_some {g t : Nat → Int} : ∀ K y st, lowF g t K = some (y, st) →
    (∀ k, k < K → g k ≠ noneB → t k - 8 * (g k / 2) ≤ y ∧ (t k - 8 * (g k / 2) = y → g k % 2 = 0 → st = true)) ∧
    (∃ k, k < K ∧ g k ≠ noneB ∧ y = t k - 8 * (g k / 2) ∧ (st = true → g k % 2 = 0))
  | 0, y, st, h => by cases h
  | K + 1, y, st, h => by
    unfold lowF lowE at h
    by_cases hb : g K = noneB
    · rw [if_pos hb] at h
      obtain ⟨h1, k, hk, h2⟩ := low_some K y st h
      refine ⟨fun k hk hg => ?_, k, by omega, h2⟩
      rcases Nat.lt_succ_iff_lt_or_eq.1 hk with h3 | h3
      · exact h1 k h3 hg
      · exact absurd (h3 ▸ hb) hg
    · rw [if_neg hb] at h
      split at h
      · rename_i hx
        cases h
        refine ⟨fun k hk hg => ?_, K, by omega, hb, rfl, fun h => by simpa [bstr] using h⟩
        rcases Nat.lt_succ_iff_lt_or_eq.1 hk with h3 | h3
        · exact absurd (low_none K hx k h3) hg
        · rw [h3]; exact ⟨Int.le_refl _, fun _ h => by simp [bstr, h]⟩
      · rename_i y' st' hx
        obtain ⟨h1, k0, hk0, h2, h2', h2''⟩ := low_some K y' st' hx
        split at h
        · rename_i hlt
          cases h
          refine ⟨fun k hk hg => ?_, K, by omega, hb, rfl, fun h => by simpa [bstr] using h⟩
          rcases Nat.lt_succ_iff_lt_or_eq.1 hk with h3 | h3
          · have := (h1 k h3 hg).1; exact ⟨by omega, fun h => by omega⟩
          · rw [h3]; exact ⟨Int.le_refl _, fun _ h => by simp [bstr, h]⟩
        · rename_i hlt
          split at h
          · rename_i he
            cases h
            refine ⟨fun k hk hg => ?_, ?_⟩
            · rcases Nat.lt_succ_iff_lt_or_eq.1 hk with h3 | h3
              · exact ⟨(h1 k h3 hg).1, fun h g => by rw [(h1 k h3 hg).2 h g]; rfl⟩
              · rw [h3]; exact ⟨by omega, fun _ h => by simp [bstr, h]⟩
            · cases st' with
              | true => exact ⟨k0, by omega, h2, h2', fun _ => h2'' rfl⟩
              | false => exact ⟨K, by omega, hb, by omega, fun h => by simpa [bstr] using h⟩
          · cases h
            refine ⟨fun k hk hg => ?_, k0, by omega, h2, h2', h2''⟩
            rcases Nat.lt_succ_iff_lt_or_eq.1 hk with h3 | h3
            · exact h1 k h3 hg
            · rw [h3]; exact ⟨by omega, fun h => by omega⟩

/-- What lies between two ends. -/
structure Between (L H : EndE) (t : Int) : Prop where
  lo : ∀ y st, L = some (y, st) → y ≤ t ∧ (st = true → y < t)
  hi : ∀ z st, H = some (z, st) → t ≤ -z ∧ (st = true → t < -z)
theorem pick_between {L H : EndE} (h : ∀ y st z st', L = some (y, st) → H = some (z, st') → y ≤ -z ∧ (st = true ∨ st' = true → y < -z) ∧ (y + -z) % 2 = 0) : Between L H (pickE L H) := by
  rcases L with _ | ⟨y, _ | _⟩ <;> rcases H with _ | ⟨z, _ | _⟩
  all_goals (constructor <;> intro a s e <;> cases e <;> simp only [pickE])
  all_goals first
    | (simp; done)
    | (simp; omega)
    | (have := h _ _ _ _ rfl rfl; simp at this ⊢; omega)

theorem tri_int {n : Nat} {f c : Nat → Int} (K : ClosedI n f c) {i j k : Nat} (hi : i < n) (hj : j < n) (hk : k < n) (h1 : c (i * n + k) ≠ noneB) (h2 : c (k * n + j) ≠ noneB) :
    c (i * n + j) ≠ noneB ∧ c (i * n + j) / 2 ≤ c (i * n + k) / 2 + c (k * n + j) / 2 ∧ (c (i * n + j) / 2 = c (i * n + k) / 2 + c (k * n + j) / 2 → c (i * n + k) % 2 = 0 ∨ c (k * n + j) % 2 = 0 → c (i * n + j) % 2 = 0) := by
  have h := K.closed.1.2 i j k hi hj hk
  unfold mE at h
  rw [eb_some h1, eb_some h2] at h
  by_cases h3 : c (i * n + j) = noneB
  · rw [h3, eb_none] at h; exact h.elim
  · rw [eb_some h3] at h
    simp only [eadd, ele] at h
    refine ⟨h3, ?_, fun e s => ?_⟩
    · split at h <;> omega
    · rw [if_pos s] at h; omega

/-- A time more, beside times that keep all bounds of theirs. -/
theorem pick_keeps {n m : Nat} {f c t : Nat → Int} (K : ClosedI n f c) (hm : m < n)
    (ht : ∀ k l, k < m → l < m → keepE (t k - t l) (c (k * n + l))) (he : ∀ k, k < m → t k % 2 = 0) {L H : EndE}
    (hL : L = lowF (fun k => c (k * n + m)) t m) (hH : H = lowF (fun k => c (m * n + k)) (fun k => -(t k)) m) :
    ∀ k, k < m → keepE (t k - pickE L H) (c (k * n + m)) ∧ keepE (pickE L H - t k) (c (m * n + k)) := by
  have hb : Between L H (pickE L H) := pick_between fun y st z st' e1 e2 => by
    rw [hL] at e1
    rw [hH] at e2
    obtain ⟨_, k, hk, a1, a2, a3⟩ := low_some m y st e1
    obtain ⟨_, l, hl, b1, b2, b3⟩ := low_some m z st' e2
    (try simp only at a1 a2 a3 b1 b2 b3)
    obtain ⟨c1, c2, c3⟩ := tri_int K (show k < n by omega) (show l < n by omega) hm a1 b1
    have hkl := ht k l hk hl
    have p1 := he k hk
    have p2 := he l hl
    rcases hkl with h | h | ⟨h, h'⟩
    · exact absurd h c1
    · refine ⟨by omega, fun hs => by omega, by omega⟩
    · refine ⟨by omega, fun hs => ?_, by omega⟩
      have : c (k * n + m) % 2 = 0 ∨ c (m * n + l) % 2 = 0 := hs.imp a3 b3
      refine Classical.byContradiction fun hno => h' (c3 (by omega) this)
  intro k hk
  constructor
  · by_cases hn : c (k * n + m) = noneB
    · exact .inl hn
    · right
      cases e : L with
      | none => rw [hL] at e; exact absurd (low_none m e k hk) hn
      | some v =>
        obtain ⟨y, st⟩ := v
        obtain ⟨x1, x2⟩ := hb.lo y st e
        rw [hL] at e
        obtain ⟨h1, h2⟩ := (low_some m y st e).1 k hk hn
        (try simp only at h1 h2)
        rw [← hL] at e
        rw [e] at x1 x2
        by_cases hs : c (k * n + m) % 2 = 0
        · left
          by_cases he2 : t k - 8 * (c (k * n + m) / 2) = y
          · have := x2 (h2 he2 hs); omega
          · omega
        · omega
  · by_cases hn : c (m * n + k) = noneB
    · exact .inl hn
    · right
      cases e : H with
      | none => rw [hH] at e; exact absurd (low_none m e k hk) hn
      | some v =>
        obtain ⟨z, st⟩ := v
        obtain ⟨x1, x2⟩ := hb.hi z st e
        rw [hH] at e
        obtain ⟨h1, h2⟩ := (low_some m z st e).1 k hk hn
        (try simp only at h1 h2)
        rw [← hH] at e
        rw [e] at x1 x2
        by_cases hs : c (m * n + k) % 2 = 0
        · left
          by_cases he2 : -(t k) - 8 * (c (m * n + k) / 2) = z
          · have := x2 (h2 he2 hs); omega
          · omega
        · omega
#print axioms pick_keeps
end Go.Proofs.YtpmpapenjcemjaaGreatDoor

namespace Go.Proofs.YtpmpapenjcemjaaGreatDoor
set_option linter.unusedSimpArgs false
set_option linter.unusedVariables false
open Go Go.RowKit

/-- A bound of a closed one goes by a third clock, or is that of at most two bounds. -/
theorem way3 {n : Nat} {f c : Nat → Int} (hn : n ≤ 4) (hb : ∀ i j, i < n → j < n → bd 288230376151711744 (f (i * n + j))) (K : ClosedI n f c) {i j m : Nat} (hi : i < n) (hj : j < n) (hm : m < n) (hij : i ≠ j) (him : i ≠ m) (hjm : j ≠ m) :
    c (i * n + j) = noneB ∨ (c (i * n + m) ≠ noneB ∧ c (m * n + j) ≠ noneB ∧ c (i * n + j) / 2 = c (i * n + m) / 2 + c (m * n + j) / 2) ∨ (-576460752303423488 ≤ c (i * n + j) / 2 ∧ c (i * n + j) / 2 ≤ 576460752303423488) := by
  obtain ⟨e, he, hc⟩ := K.ex
  have he2 := he
  unfold closeE at he2
  split at he2
  · have hd := fun i (_ : i < n) => diag1_diag (mE n f) i
    have inv := rounds_inv hd n e (Nat.le_refl _) he2
    have cl := closeE_closed he
    have hD : ∀ i j, i < n → j < n → ebd 288230376151711744 (diag1 (mE n f) i j) := fun i j hi hj => by
      unfold diag1
      by_cases e : i = j
      · rw [if_pos e]; simp [ebd]
      · rw [if_neg e]; exact bd_iff.1 (hb i j hi hj)
    rcases rounds_simple hd n e (Nat.le_refl _) he2 i j hi hj with h | ⟨h, _⟩ | ⟨_, l, h1, h2, h3⟩
    · left
      have := hc i j hi hj
      rw [h] at this
      refine Classical.byContradiction fun hno => ?_
      rw [eb_some hno] at this; cases this
    · exact absurd h hij
    · by_cases hml : m ∈ l
      · obtain ⟨p, q, hpq⟩ := List.append_of_mem hml
        rw [hpq, wsum_append] at h3
        have hp := le_wsum inv p i m hi hm (fun v hv => by have := (h2 v (by rw [hpq]; simp [hv])).1; exact ⟨this, this⟩)
        have hq := le_wsum inv q m j hm hj (fun v hv => by have := (h2 v (by rw [hpq]; simp [hv])).1; exact ⟨this, this⟩)
        have h4 : ele (eadd (e i m) (e m j)) (e i j) := by rw [h3]; exact eadd_mono hp hq
        have h5 := ele_antisymm (cl.1.2 i j m hi hj hm) h4
        rw [← hc i j hi hj, ← hc i m hi hm, ← hc m j hm hj] at h5
        by_cases n1 : c (i * n + j) = noneB
        · exact .inl n1
        · right; left
          rw [eb_some n1] at h5
          by_cases n2 : c (i * n + m) = noneB
          · rw [n2, eb_none, none_eadd] at h5; cases h5
          · by_cases n3 : c (m * n + j) = noneB
            · rw [n3, eb_none, eadd_none] at h5; cases h5
            · rw [eb_some n2, eb_some n3] at h5
              simp only [eadd, Option.some.injEq] at h5
              refine ⟨n2, n3, ?_⟩
              split at h5 <;> omega
      · have hlen : (i :: j :: m :: l).length ≤ n := nodup_len n _ (by
          refine List.nodup_cons.2 ⟨?_, List.nodup_cons.2 ⟨?_, List.nodup_cons.2 ⟨hml, h1⟩⟩⟩
          · intro h
            simp only [List.mem_cons] at h
            rcases h with h | h | h
            · exact hij h
            · exact him h
            · exact (h2 i h).2.1 rfl
          · intro h
            simp only [List.mem_cons] at h
            rcases h with h | h
            · exact hjm h
            · exact (h2 j h).2.2 rfl) (fun v hv => by
          simp only [List.mem_cons] at hv
          rcases hv with rfl | rfl | rfl | h
          · exact hi
          · exact hj
          · exact hm
          · exact (h2 v h).1)
        simp only [List.length_cons] at hlen
        have hw := wsum_bd hD l i j hi hj (fun v hv => (h2 v hv).1)
        have hw2 : ebd 576460752303423488 (e i j) := by
          rw [h3]; exact ebd_mono hw (by have : (l.length : Int) ≤ 1 := by omega
                                         omega)
        rw [← hc i j hi hj] at hw2
        rcases bd_iff.2 hw2 with h | h
        · exact .inl h
        · right; right; exact h
  · cases he2

/-- How far a second time may go, upwards. -/
theorem up2 {N B c01 c10 c02 c20 c12 c21 t1 t2 : Int} (hB : 0 < B)
    (b01 : Hid (c01 ≠ N → -(3 * B) ≤ c01 / 2 ∧ c01 / 2 ≤ 3 * B)) (b02 : Hid (c02 ≠ N → -(3 * B) ≤ c02 / 2 ∧ c02 / 2 ≤ 3 * B))
    (b20 : Hid (c20 ≠ N → -(3 * B) ≤ c20 / 2 ∧ c20 / 2 ≤ 3 * B)) (b12 : Hid (c12 ≠ N → -(3 * B) ≤ c12 / 2 ∧ c12 / 2 ≤ 3 * B)) (b21 : Hid (c21 ≠ N → -(3 * B) ≤ c21 / 2 ∧ c21 / 2 ≤ 3 * B))
    (u10 : Hid (c10 ≠ N → t1 ≤ 8 * (c10 / 2))) (u20 : Hid (c20 ≠ N → t2 ≤ 8 * (c20 / 2))) (u21 : Hid (c21 ≠ N → t2 ≤ t1 + 8 * (c21 / 2)))
    (P1 : Hid ((c01 ≠ N ∧ t1 = -(8 * (c01 / 2))) ∨ c10 ≠ N ∨ (c01 ≠ N ∧ t1 = -(8 * (c01 / 2)) + 8) ∨ t1 = 0))
    (P2 : Hid ((c02 ≠ N ∧ t2 ≤ -(8 * (c02 / 2)) + 8) ∨ (c12 ≠ N ∧ t2 ≤ t1 - 8 * (c12 / 2) + 8) ∨ c20 ≠ N ∨ c21 ≠ N ∨ t2 = 0))
    (W12 : Hid (c12 = N ∨ (c10 ≠ N ∧ c02 ≠ N ∧ c12 / 2 = c10 / 2 + c02 / 2) ∨ (-(2 * B) ≤ c12 / 2 ∧ c12 / 2 ≤ 2 * B)))
    (W10 : Hid (c10 = N ∨ (c12 ≠ N ∧ c20 ≠ N ∧ c10 / 2 = c12 / 2 + c20 / 2) ∨ (-(2 * B) ≤ c10 / 2 ∧ c10 / 2 ≤ 2 * B)))
    (W01 : Hid (c01 = N ∨ (c02 ≠ N ∧ c21 ≠ N ∧ c01 / 2 = c02 / 2 + c21 / 2) ∨ (-(2 * B) ≤ c01 / 2 ∧ c01 / 2 ≤ 2 * B)))
    (W21 : Hid (c21 = N ∨ (c20 ≠ N ∧ c01 ≠ N ∧ c21 / 2 = c20 / 2 + c01 / 2) ∨ (-(2 * B) ≤ c21 / 2 ∧ c21 / 2 ≤ 2 * B)))
    (T20 : Hid (c21 ≠ N → c10 ≠ N → c20 ≠ N)) (T02 : Hid (c01 ≠ N → c12 ≠ N → c02 ≠ N ∧ c02 / 2 ≤ c01 / 2 + c12 / 2)) : t2 ≤ 32 * B + 16 := by
  by_cases h20 : c20 = N
  · rcases P2.out with ⟨h, e⟩ | ⟨h, e⟩ | h | h | e
    · have := b02.out h; omega
    · rcases W12.out with h' | ⟨h1, h2, h3⟩ | h3
      · exact absurd h' h
      · have := u10.out h1; have := b02.out h2; omega
      · rcases P1.out with ⟨p, q⟩ | p | ⟨p, q⟩ | q
        · obtain ⟨x, y⟩ := T02.out p h; have := b02.out x; omega
        · rcases W10.out with h' | ⟨_, h', _⟩ | h4
          · exact absurd h' p
          · exact absurd h20 h'
          · have := u10.out p; omega
        · obtain ⟨x, y⟩ := T02.out p h; have := b02.out x; omega
        · omega
    · exact absurd h20 h
    · have hu := u21.out h
      by_cases h10 : c10 = N
      · rcases P1.out with ⟨p, q⟩ | p | ⟨p, q⟩ | q
        · rcases W01.out with h' | ⟨h1, h2, h3⟩ | h3
          · exact absurd h' p
          · have := b02.out h1; omega
          · rcases W21.out with h' | ⟨h', _⟩ | h4
            · exact absurd h' h
            · exact absurd h20 h'
            · omega
        · exact absurd h10 p
        · rcases W01.out with h' | ⟨h1, h2, h3⟩ | h3
          · exact absurd h' p
          · have := b02.out h1; omega
          · rcases W21.out with h' | ⟨h', _⟩ | h4
            · exact absurd h' h
            · exact absurd h20 h'
            · omega
        · have := b21.out h; omega
      · exact absurd h20 (T20.out h h10)
    · omega
  · have := u20.out h20; have := b20.out h20; omega

theorem lowF_congr {g t u : Nat → Int} : ∀ {m : Nat}, (∀ k, k < m → t k = u k) → lowF g t m = lowF g u m
  | 0, _ => rfl
  | m + 1, h => by unfold lowF; rw [lowF_congr (fun k hk => h k (by omega)), h m (by omega)]
/-- The times that are picked, in eighths: of the first clocks. -/
def pickS (n : Nat) (c : Nat → Int) : Nat → Nat → Int
  | 0 => fun _ => 0
  | m + 1 => upd (pickS n c m) (m + 1) (pickE (lowF (fun k => c (k * n + (m + 1))) (pickS n c m) (m + 1)) (lowF (fun k => c ((m + 1) * n + k)) (fun k => -(pickS n c m k)) (m + 1)))
def pickT (n : Nat) (c : Nat → Int) (k : Nat) : Int := pickS n c k k
theorem pickS_eq (n : Nat) (c : Nat → Int) : ∀ m k, k ≤ m → pickS n c m k = pickT n c k
  | 0, k, hk => by rw [show k = 0 from by omega]; rfl
  | m + 1, k, hk => by
    rcases Nat.lt_or_eq_of_le hk with h | h
    · show upd _ _ _ k = _
      unfold upd
      rw [if_neg (by omega)]
      exact pickS_eq n c m k (by omega)
    · rw [h]; rfl
theorem pickT_zero (n : Nat) (c : Nat → Int) : pickT n c 0 = 0 := rfl
theorem pickT_succ (n : Nat) (c : Nat → Int) (m : Nat) : pickT n c (m + 1) = pickE (lowF (fun k => c (k * n + (m + 1))) (pickT n c) (m + 1)) (lowF (fun k => c ((m + 1) * n + k)) (fun k => -(pickT n c k)) (m + 1)) := by
  show upd _ _ _ (m + 1) = _
  unfold upd
  rw [if_pos rfl, lowF_congr (t := pickS n c m) (u := pickT n c) (fun k hk => pickS_eq n c m k (by omega)), lowF_congr (t := fun k => -(pickS n c m k)) (u := fun k => -(pickT n c k)) (fun k hk => by rw [pickS_eq n c m k (by omega)])]

/-- Which time is picked. -/
theorem pick_cases (g h t : Nat → Int) (m : Nat) (p : Int) (hp : p = pickE (lowF g t m) (lowF h (fun k => -(t k)) m)) :
    (∃ k, k < m ∧ g k ≠ noneB ∧ p = t k - 8 * (g k / 2)) ∨ (∃ k, k < m ∧ h k ≠ noneB ∧ p = t k + 8 * (h k / 2)) ∨
    (∃ k l, k < m ∧ l < m ∧ g k ≠ noneB ∧ h l ≠ noneB ∧ p = (t k - 8 * (g k / 2) + (t l + 8 * (h l / 2))) / 2) ∨
    ((∀ k, k < m → h k = noneB) ∧ ∃ k, k < m ∧ g k ≠ noneB ∧ p = t k - 8 * (g k / 2) + 8) ∨
    ((∀ k, k < m → g k = noneB) ∧ ∃ k, k < m ∧ h k ≠ noneB ∧ p = t k + 8 * (h k / 2) - 8) ∨
    ((∀ k, k < m → g k = noneB ∧ h k = noneB) ∧ p = 0) := by
  cases eL : lowF g t m with
  | none =>
    have gn := low_none m eL
    cases eH : lowF h (fun k => -(t k)) m with
    | none =>
      have hn := low_none m eH
      rw [eL, eH] at hp
      exact .inr (.inr (.inr (.inr (.inr ⟨fun k hk => ⟨gn k hk, hn k hk⟩, hp⟩))))
    | some v =>
      obtain ⟨z, st⟩ := v
      obtain ⟨_, k, hk, h1, h2, _⟩ := low_some m z st eH
      rw [eL, eH] at hp
      cases st with
      | false => exact .inr (.inl ⟨k, hk, h1, by simp only [pickE] at hp; omega⟩)
      | true => exact .inr (.inr (.inr (.inr (.inl ⟨gn, k, hk, h1, by simp only [pickE] at hp; omega⟩))))
  | some u =>
    obtain ⟨y, su⟩ := u
    obtain ⟨_, k, hk, k1, k2, _⟩ := low_some m y su eL
    cases su with
    | false =>
      rw [eL] at hp
      exact .inl ⟨k, hk, k1, by simp only [pickE] at hp; omega⟩
    | true =>
      cases eH : lowF h (fun k => -(t k)) m with
      | none =>
        rw [eL, eH] at hp
        exact .inr (.inr (.inr (.inl ⟨low_none m eH, k, hk, k1, by simp only [pickE] at hp; omega⟩)))
      | some v =>
        obtain ⟨z, st⟩ := v
        obtain ⟨_, l, hl, h1, h2, _⟩ := low_some m z st eH
        rw [eL, eH] at hp
        cases st with
        | false => exact .inr (.inl ⟨l, hl, h1, by simp only [pickE] at hp; omega⟩)
        | true => exact .inr (.inr (.inl ⟨k, l, hk, hl, k1, h1, by simp only [pickE] at hp; omega⟩))
#print axioms pick_cases
end Go.Proofs.YtpmpapenjcemjaaGreatDoor

namespace Go.Proofs.YtpmpapenjcemjaaGreatDoor
set_option linter.unusedSimpArgs false
set_option linter.unusedVariables false
open Go Go.RowKit

/-- All that the code reckons for one time may be. -/
structure PickOK (g h t : Nat → Int) (m : Nat) : Prop where
  ts : ∀ k, k < m → ok8 (t k)
  even : ∀ k, k < m → t k % 2 = 0
  lo : ∀ k, k < m → g k ≠ noneB → ok8 (8 * (g k / 2)) ∧ ok8 (t k - 8 * (g k / 2))
  hi : ∀ k, k < m → h k ≠ noneB → ok8 (8 * (h k / 2)) ∧ ok8 (t k + 8 * (h k / 2))
  lob : ∀ k, k < m → bd 864691128455135232 (g k)
  hib : ∀ k, k < m → bd 864691128455135232 (h k)
  res : ok8 (pickE (lowF g t m) (lowF h (fun k => -(t k)) m))

/-- The first time. -/
theorem pick1 {n : Nat} {c : Nat → Int} (h1 : 1 < n) : (c (0 * n + 1) ≠ noneB ∧ pickT n c 1 = -(8 * (c (0 * n + 1) / 2))) ∨ (c (1 * n + 0) ≠ noneB ∧ pickT n c 1 = 8 * (c (1 * n + 0) / 2)) ∨
    (c (0 * n + 1) ≠ noneB ∧ c (1 * n + 0) ≠ noneB ∧ pickT n c 1 = (-(8 * (c (0 * n + 1) / 2)) + 8 * (c (1 * n + 0) / 2)) / 2) ∨
    (c (1 * n + 0) = noneB ∧ c (0 * n + 1) ≠ noneB ∧ pickT n c 1 = -(8 * (c (0 * n + 1) / 2)) + 8) ∨
    (c (0 * n + 1) = noneB ∧ c (1 * n + 0) ≠ noneB ∧ pickT n c 1 = 8 * (c (1 * n + 0) / 2) - 8) ∨ pickT n c 1 = 0 := by
  have h0 := pickT_zero n c
  rcases pick_cases (fun k => c (k * n + 1)) (fun k => c (1 * n + k)) (pickT n c) 1 (pickT n c 1) (pickT_succ n c 0) with ⟨k, hk, a, b⟩ | ⟨k, hk, a, b⟩ | ⟨k, l, hk, hl, a, a', b⟩ | ⟨z, k, hk, a, b⟩ | ⟨z, k, hk, a, b⟩ | ⟨z, b⟩
  · obtain rfl : k = 0 := by omega
    exact .inl ⟨a, by rw [b, h0]; (try simp only); omega⟩
  · obtain rfl : k = 0 := by omega
    exact .inr (.inl ⟨a, by rw [b, h0]; (try simp only); omega⟩)
  · obtain rfl : k = 0 := by omega
    obtain rfl : l = 0 := by omega
    exact .inr (.inr (.inl ⟨a, a', by rw [b, h0]; (try simp only); congr 1; omega⟩))
  · obtain rfl : k = 0 := by omega
    exact .inr (.inr (.inr (.inl ⟨z 0 (by omega), a, by rw [b, h0]; (try simp only); omega⟩)))
  · obtain rfl : k = 0 := by omega
    exact .inr (.inr (.inr (.inr (.inl ⟨z 0 (by omega), a, by rw [b, h0]; (try simp only); omega⟩))))
  · exact .inr (.inr (.inr (.inr (.inr b))))
theorem pick1_even {n : Nat} {c : Nat → Int} (h1 : 1 < n) : pickT n c 1 % 4 = 0 ∧ (pickT n c 1 % 8 ≠ 0 → c (0 * n + 1) ≠ noneB ∧ c (1 * n + 0) ≠ noneB) := by
  rcases pick1 (c := c) h1 with ⟨_, h⟩ | ⟨_, h⟩ | ⟨a, b, h⟩ | ⟨_, _, h⟩ | ⟨_, _, h⟩ | h
  · exact ⟨by omega, fun h' => by omega⟩
  · exact ⟨by omega, fun h' => by omega⟩
  · exact ⟨by omega, fun _ => ⟨a, b⟩⟩
  · exact ⟨by omega, fun h' => by omega⟩
  · exact ⟨by omega, fun h' => by omega⟩
  · exact ⟨by omega, fun h' => by omega⟩

section
variable {n : Nat} {f c : Nat → Int} (K : ClosedI n f c)
include K

theorem pickB {i j : Nat} (hi : i < n) (hj : j < n) (h : c (i * n + j) ≠ noneB) : -864691128455135232 ≤ c (i * n + j) / 2 ∧ c (i * n + j) / 2 ≤ 864691128455135232 :=
  (K.bound i j hi hj).resolve_left h

theorem pick1_bd (h1 : 1 < n) : -6917529027641081864 ≤ pickT n c 1 ∧ pickT n c 1 ≤ 6917529027641081864 := by
  rcases pick1 (c := c) h1 with ⟨a, h⟩ | ⟨a, h⟩ | ⟨a, b, h⟩ | ⟨_, a, h⟩ | ⟨_, a, h⟩ | h
  · have := pickB K (show 0 < n by omega) h1 a; omega
  · have := pickB K h1 (show 0 < n by omega) a; omega
  · have := pickB K (show 0 < n by omega) h1 a; have := pickB K h1 (show 0 < n by omega) b; omega
  · have := pickB K (show 0 < n by omega) h1 a; omega
  · have := pickB K h1 (show 0 < n by omega) a; omega
  · omega

/-- The second time. -/
theorem pick2_even (h2 : 2 < n) : pickT n c 2 % 2 = 0 ∧ (pickT n c 2 % 4 ≠ 0 → c (0 * n + 1) ≠ noneB ∧ c (1 * n + 0) ≠ noneB ∧ c (0 * n + 2) ≠ noneB ∧ c (2 * n + 0) ≠ noneB) := by
  have h0 := pickT_zero n c
  obtain ⟨e1, e2⟩ := pick1_even (c := c) (show 1 < n by omega)
  have ek : ∀ k, k < 2 → pickT n c k % 4 = 0 := fun k hk => by
    have : k = 0 ∨ k = 1 := by omega
    rcases this with rfl | rfl
    · rw [h0]; rfl
    · exact e1
  rcases pick_cases (fun k => c (k * n + 2)) (fun k => c (2 * n + k)) (pickT n c) 2 (pickT n c 2) (pickT_succ n c 1) with ⟨k, hk, a, b⟩ | ⟨k, hk, a, b⟩ | ⟨k, l, hk, hl, a, a', b⟩ | ⟨z, k, hk, a, b⟩ | ⟨z, k, hk, a, b⟩ | ⟨z, b⟩
  · have := ek k hk; (try simp only at b); exact ⟨by omega, fun h' => by omega⟩
  · have := ek k hk; (try simp only at b); exact ⟨by omega, fun h' => by omega⟩
  · have x1 := ek k hk
    have x2 := ek l hl
    (try simp only at b a a')
    refine ⟨by omega, fun h' => ?_⟩
    have hk' : k = 0 ∨ k = 1 := by omega
    have hl' : l = 0 ∨ l = 1 := by omega
    have t1 : pickT n c 1 % 8 ≠ 0 := by
      rcases hk' with rfl | rfl <;> rcases hl' with rfl | rfl
      · omega
      · omega
      · omega
      · omega
    obtain ⟨g1, g2⟩ := e2 t1
    refine ⟨g1, g2, ?_, ?_⟩
    · rcases hk' with rfl | rfl
      · exact a
      · exact (tri_int K (show 0 < n by omega) h2 (show 1 < n by omega) g1 a).1
    · rcases hl' with rfl | rfl
      · exact a'
      · exact (tri_int K h2 (show 0 < n by omega) (show 1 < n by omega) a' g2).1
  · have := ek k hk; (try simp only at b); exact ⟨by omega, fun h' => by omega⟩
  · have := ek k hk; (try simp only at b); exact ⟨by omega, fun h' => by omega⟩
  · exact ⟨by omega, fun h' => by omega⟩
theorem pick2_bd (h2 : 2 < n) : -13835058055282163728 ≤ pickT n c 2 ∧ pickT n c 2 ≤ 13835058055282163728 := by
  have h0 := pickT_zero n c
  have b1 := pick1_bd K (show 1 < n by omega)
  have ek : ∀ k, k < 2 → -6917529027641081864 ≤ pickT n c k ∧ pickT n c k ≤ 6917529027641081864 := fun k hk => by
    have : k = 0 ∨ k = 1 := by omega
    rcases this with rfl | rfl
    · rw [h0]; omega
    · exact b1
  rcases pick_cases (fun k => c (k * n + 2)) (fun k => c (2 * n + k)) (pickT n c) 2 (pickT n c 2) (pickT_succ n c 1) with ⟨k, hk, a, b⟩ | ⟨k, hk, a, b⟩ | ⟨k, l, hk, hl, a, a', b⟩ | ⟨z, k, hk, a, b⟩ | ⟨z, k, hk, a, b⟩ | ⟨z, b⟩
  · have := ek k hk; have := pickB K (show k < n by omega) h2 a; (try simp only at b); omega
  · have := ek k hk; have := pickB K h2 (show k < n by omega) a; (try simp only at b); omega
  · have := ek k hk; have := ek l hl; have := pickB K (show k < n by omega) h2 a; have := pickB K h2 (show l < n by omega) a'; (try simp only at b); omega
  · have := ek k hk; have := pickB K (show k < n by omega) h2 a; (try simp only at b); omega
  · have := ek k hk; have := pickB K h2 (show k < n by omega) a; (try simp only at b); omega
  · omega

/-- The third time. -/
theorem pick3_even (h3 : 3 < n) : pickT n c 3 % 2 ≠ 0 → c (0 * n + 3) ≠ noneB ∧ c (3 * n + 0) ≠ noneB := by
  have h0 := pickT_zero n c
  obtain ⟨e1, _⟩ := pick1_even (c := c) (show 1 < n by omega)
  obtain ⟨e2, e3⟩ := pick2_even K (show 2 < n by omega)
  have ek : ∀ k, k < 3 → pickT n c k % 2 = 0 := fun k hk => by
    have : k = 0 ∨ k = 1 ∨ k = 2 := by omega
    rcases this with rfl | rfl | rfl
    · rw [h0]; rfl
    · omega
    · exact e2
  intro ho
  rcases pick_cases (fun k => c (k * n + 3)) (fun k => c (3 * n + k)) (pickT n c) 3 (pickT n c 3) (pickT_succ n c 2) with ⟨k, hk, a, b⟩ | ⟨k, hk, a, b⟩ | ⟨k, l, hk, hl, a, a', b⟩ | ⟨z, k, hk, a, b⟩ | ⟨z, k, hk, a, b⟩ | ⟨z, b⟩
  · have := ek k hk; (try simp only at b); omega
  · have := ek k hk; (try simp only at b); omega
  · (try simp only at b a a')
    have hk' : k = 0 ∨ k = 1 ∨ k = 2 := by omega
    have hl' : l = 0 ∨ l = 1 ∨ l = 2 := by omega
    have t2 : pickT n c 2 % 4 ≠ 0 := by
      rcases hk' with rfl | rfl | rfl <;> rcases hl' with rfl | rfl | rfl <;> omega
    obtain ⟨g1, g2, g3, g4⟩ := e3 t2
    constructor
    · rcases hk' with rfl | rfl | rfl
      · exact a
      · exact (tri_int K (show 0 < n by omega) h3 (show 1 < n by omega) g1 a).1
      · exact (tri_int K (show 0 < n by omega) h3 (show 2 < n by omega) g3 a).1
    · rcases hl' with rfl | rfl | rfl
      · exact a'
      · exact (tri_int K h3 (show 0 < n by omega) (show 1 < n by omega) a' g2).1
      · exact (tri_int K h3 (show 0 < n by omega) (show 2 < n by omega) a' g4).1
  · have := ek k hk; (try simp only at b); omega
  · have := ek k hk; (try simp only at b); omega
  · omega

/-- The times that are picked keep all bounds. -/
theorem picks_keep_upto : ∀ m, m < n → n ≤ 4 → ∀ i j, i ≤ m → j ≤ m → keepE (pickT n c i - pickT n c j) (c (i * n + j))
  | 0, hm, hn, i, j, hi, hj => by
    obtain rfl : i = 0 := by omega
    obtain rfl : j = 0 := by omega
    rw [K.diag hm]; unfold keepE; omega
  | m + 1, hm, hn, i, j, hi, hj => by
    have ih := picks_keep_upto m (by omega) hn
    have he : ∀ k, k < m + 1 → pickT n c k % 2 = 0 := fun k hk => by
      have : k = 0 ∨ k = 1 ∨ k = 2 := by omega
      rcases this with rfl | rfl | rfl
      · rfl
      · have := (pick1_even (c := c) (show 1 < n by omega)).1; omega
      · exact (pick2_even K (show 2 < n by omega)).1
    have hk := pick_keeps K hm (t := pickT n c) (fun k l hk hl => ih k l (by omega) (by omega)) he rfl rfl
    rw [← pickT_succ] at hk
    rcases Nat.lt_or_eq_of_le hi with hi' | rfl
    · rcases Nat.lt_or_eq_of_le hj with hj' | rfl
      · exact ih i j (by omega) (by omega)
      · exact (hk i hi').1
    · rcases Nat.lt_or_eq_of_le hj with hj' | rfl
      · exact (hk j hj').2
      · rw [K.diag hm]; unfold keepE; omega
theorem picks_keep (hn : n ≤ 4) {i j : Nat} (hi : i < n) (hj : j < n) : keepE (pickT n c i - pickT n c j) (c (i * n + j)) :=
  picks_keep_upto K (n - 1) (by omega) hn i j (by omega) (by omega)
end

theorem hid_way {a N : Int} {P : Prop} (h : a ≠ N → P) : Hid (a ≠ N → P) := h
/-- The second of three times does not go too far. -/
theorem pick2_near {n : Nat} {f c : Nat → Int} (hn : n ≤ 4) (hb : ∀ i j, i < n → j < n → bd 288230376151711744 (f (i * n + j))) (K : ClosedI n f c) (h2 : 2 < n) :
    -9223372036854775824 ≤ pickT n c 2 ∧ pickT n c 2 ≤ 9223372036854775824 := by
  have l0 : 0 < n := by omega
  have l1 : 1 < n := by omega
  have h0 := pickT_zero n c
  have kp : ∀ i j, i < n → j < n → c (i * n + j) ≠ noneB → pickT n c i - pickT n c j ≤ 8 * (c (i * n + j) / 2) := fun i j hi hj hne => by
    rcases picks_keep K hn hi hj with h | h | h
    · exact absurd h hne
    · omega
    · omega
  have k01 := kp 0 1 l0 l1
  have k10 := kp 1 0 l1 l0
  have k02 := kp 0 2 l0 h2
  have k20 := kp 2 0 h2 l0
  have k12 := kp 1 2 l1 h2
  have k21 := kp 2 1 h2 l1
  rw [h0] at k01 k10 k02 k20
  have b01 := pickB K l0 l1
  have b10 := pickB K l1 l0
  have b02 := pickB K l0 h2
  have b20 := pickB K h2 l0
  have b12 := pickB K l1 h2
  have b21 := pickB K h2 l1
  have W12 := way3 hn hb K (i := 1) (j := 2) (m := 0) l1 h2 l0 (by omega) (by omega) (by omega)
  have W21 := way3 hn hb K (i := 2) (j := 1) (m := 0) h2 l1 l0 (by omega) (by omega) (by omega)
  have W10 := way3 hn hb K (i := 1) (j := 0) (m := 2) l1 l0 h2 (by omega) (by omega) (by omega)
  have W01 := way3 hn hb K (i := 0) (j := 1) (m := 2) l0 l1 h2 (by omega) (by omega) (by omega)
  have T20 := fun (x : c (2 * n + 1) ≠ noneB) (y : c (1 * n + 0) ≠ noneB) => tri_int K h2 l0 l1 x y
  have T02 := fun (x : c (0 * n + 1) ≠ noneB) (y : c (1 * n + 2) ≠ noneB) => tri_int K l0 h2 l1 x y
  have Q1 := pick1 (c := c) l1
  have Q2 := pick_cases (fun k => c (k * n + 2)) (fun k => c (2 * n + k)) (pickT n c) 2 (pickT n c 2) (pickT_succ n c 1)
  have k2 : ∀ k, k < 2 → k = 0 ∨ k = 1 := fun k hk => by omega
  obtain ⟨t1, ht1⟩ : ∃ t1, t1 = pickT n c 1 := ⟨_, rfl⟩
  obtain ⟨t2, ht2⟩ : ∃ t2, t2 = pickT n c 2 := ⟨_, rfl⟩
  rw [← ht1] at k01 k10 k12 k21 Q1
  rw [← ht2] at k02 k20 k12 k21 Q2 ⊢
  have R2 : ((c (0 * n + 2) ≠ noneB ∧ t2 ≤ -(8 * (c (0 * n + 2) / 2)) + 8) ∨ (c (1 * n + 2) ≠ noneB ∧ t2 ≤ t1 - 8 * (c (1 * n + 2) / 2) + 8) ∨ c (2 * n + 0) ≠ noneB ∨ c (2 * n + 1) ≠ noneB ∨ t2 = 0) ∧
      ((c (2 * n + 0) ≠ noneB ∧ -t2 ≤ -(8 * (c (2 * n + 0) / 2)) + 8) ∨ (c (2 * n + 1) ≠ noneB ∧ -t2 ≤ -t1 - 8 * (c (2 * n + 1) / 2) + 8) ∨ c (0 * n + 2) ≠ noneB ∨ c (1 * n + 2) ≠ noneB ∨ -t2 = 0) := by
    rcases Q2 with ⟨k, hk, a, b⟩ | ⟨k, hk, a, b⟩ | ⟨k, l, hk, hl, a, a', b⟩ | ⟨z, k, hk, a, b⟩ | ⟨z, k, hk, a, b⟩ | ⟨z, b⟩
    · rcases k2 k hk with rfl | rfl
      · rw [h0] at b; exact ⟨.inl ⟨a, by omega⟩, .inr (.inr (.inl a))⟩
      · rw [← ht1] at b; exact ⟨.inr (.inl ⟨a, by omega⟩), .inr (.inr (.inr (.inl a)))⟩
    · rcases k2 k hk with rfl | rfl
      · rw [h0] at b; exact ⟨.inr (.inr (.inl a)), .inl ⟨a, by omega⟩⟩
      · rw [← ht1] at b; exact ⟨.inr (.inr (.inr (.inl a))), .inr (.inl ⟨a, by omega⟩)⟩
    · refine ⟨?_, ?_⟩
      · rcases k2 l hl with rfl | rfl
        · exact .inr (.inr (.inl a'))
        · exact .inr (.inr (.inr (.inl a')))
      · rcases k2 k hk with rfl | rfl
        · exact .inr (.inr (.inl a))
        · exact .inr (.inr (.inr (.inl a)))
    · rcases k2 k hk with rfl | rfl
      · rw [h0] at b; exact ⟨.inl ⟨a, by omega⟩, .inr (.inr (.inl a))⟩
      · rw [← ht1] at b; exact ⟨.inr (.inl ⟨a, by omega⟩), .inr (.inr (.inr (.inl a)))⟩
    · rcases k2 k hk with rfl | rfl
      · rw [h0] at b; exact ⟨.inr (.inr (.inl a)), .inl ⟨a, by omega⟩⟩
      · rw [← ht1] at b; exact ⟨.inr (.inr (.inr (.inl a))), .inr (.inl ⟨a, by omega⟩)⟩
    · exact ⟨.inr (.inr (.inr (.inr b))), .inr (.inr (.inr (.inr (by omega))))⟩
  have R1 : ((c (0 * n + 1) ≠ noneB ∧ t1 = -(8 * (c (0 * n + 1) / 2))) ∨ c (1 * n + 0) ≠ noneB ∨ (c (0 * n + 1) ≠ noneB ∧ t1 = -(8 * (c (0 * n + 1) / 2)) + 8) ∨ t1 = 0) ∧
      ((c (1 * n + 0) ≠ noneB ∧ -t1 = -(8 * (c (1 * n + 0) / 2))) ∨ c (0 * n + 1) ≠ noneB ∨ (c (1 * n + 0) ≠ noneB ∧ -t1 = -(8 * (c (1 * n + 0) / 2)) + 8) ∨ -t1 = 0) := by
    rcases Q1 with ⟨a, h⟩ | ⟨a, h⟩ | ⟨a, b, h⟩ | ⟨_, a, h⟩ | ⟨_, a, h⟩ | h
    · exact ⟨.inl ⟨a, h⟩, .inr (.inl a)⟩
    · exact ⟨.inr (.inl a), .inl ⟨a, by omega⟩⟩
    · exact ⟨.inr (.inl b), .inr (.inl a)⟩
    · exact ⟨.inr (.inr (.inl ⟨a, h⟩)), .inr (.inl a)⟩
    · exact ⟨.inr (.inl a), .inr (.inr (.inl ⟨a, by omega⟩))⟩
    · exact ⟨.inr (.inr (.inr h)), .inr (.inr (.inr (by omega)))⟩
  have up := up2 (N := noneB) (B := 288230376151711744) (t1 := t1) (t2 := t2) (by omega) (hid_way fun h => by have := b01 h; omega) (hid_way fun h => by have := b02 h; omega) (hid_way fun h => by have := b20 h; omega) (hid_way fun h => by have := b12 h; omega) (hid_way fun h => by have := b21 h; omega)
    (hid_way fun h => by have := k10 h; omega) (hid_way fun h => by have := k20 h; omega) (hid_way fun h => by have := k21 h; omega) (Lib.hid R1.1) (Lib.hid R2.1)
    (Lib.hid W12) (Lib.hid W10) (Lib.hid W01) (Lib.hid W21) (hid_way fun x y => (T20 x y).1) (hid_way fun x y => ⟨(T02 x y).1, (T02 x y).2.1⟩)
  have dn := up2 (N := noneB) (B := 288230376151711744) (t1 := -t1) (t2 := -t2) (c01 := c (1 * n + 0)) (c10 := c (0 * n + 1)) (c02 := c (2 * n + 0)) (c20 := c (0 * n + 2)) (c12 := c (2 * n + 1)) (c21 := c (1 * n + 2)) (by omega) (hid_way fun h => by have := b10 h; omega) (hid_way fun h => by have := b20 h; omega) (hid_way fun h => by have := b02 h; omega) (hid_way fun h => by have := b21 h; omega) (hid_way fun h => by have := b12 h; omega)
    (hid_way fun h => by have := k01 h; omega) (hid_way fun h => by have := k02 h; omega) (hid_way fun h => by have := k12 h; omega) (Lib.hid R1.2) (Lib.hid R2.2)
    (Lib.hid (by rcases W21 with h | ⟨a, b, h⟩ | h
                 · exact .inl h
                 · exact .inr (.inl ⟨b, a, by omega⟩)
                 · exact .inr (.inr h))) (Lib.hid (by
                 rcases W01 with h | ⟨a, b, h⟩ | h
                 · exact .inl h
                 · exact .inr (.inl ⟨b, a, by omega⟩)
                 · exact .inr (.inr h))) (Lib.hid (by
                 rcases W10 with h | ⟨a, b, h⟩ | h
                 · exact .inl h
                 · exact .inr (.inl ⟨b, a, by omega⟩)
                 · exact .inr (.inr h))) (Lib.hid (by
                 rcases W12 with h | ⟨a, b, h⟩ | h
                 · exact .inl h
                 · exact .inr (.inl ⟨b, a, by omega⟩)
                 · exact .inr (.inr h))) (hid_way fun x y => (T02 y x).1) (hid_way fun x y => ⟨(T20 y x).1, by have := (T20 y x).2.1; omega⟩)
  omega

theorem ok8_even {t : Int} (h : t % 2 = 0) (h1 : -18446744073709551616 < t) (h2 : t < 18446744073709551616) : ok8 t := ⟨h1, h2, fun h' => absurd h h'⟩
/-- All times before the last one: even, and not too far. -/
theorem pick_before {n : Nat} {f c : Nat → Int} (hn : n ≤ 4) (hb : ∀ i j, i < n → j < n → bd 288230376151711744 (f (i * n + j))) (K : ClosedI n f c) {m : Nat} (hm : m < n) : ∀ k, k < m → pickT n c k % 2 = 0 ∧ -9223372036854775824 ≤ pickT n c k ∧ pickT n c k ≤ 9223372036854775824 := fun k hk => by
  have : k = 0 ∨ k = 1 ∨ k = 2 := by omega
  rcases this with rfl | rfl | rfl
  · rw [pickT_zero]; omega
  · have := (pick1_even (c := c) (show 1 < n by omega)).1
    have := pick1_bd K (show 1 < n by omega)
    omega
  · have := (pick2_even K (show 2 < n by omega)).1
    have := pick2_near hn hb K (show 2 < n by omega)
    omega
/-- All that the code reckons for a closed one may be. -/
theorem picks_ok {n : Nat} {f c : Nat → Int} (hn : n ≤ 4) (hb : ∀ i j, i < n → j < n → bd 288230376151711744 (f (i * n + j))) (K : ClosedI n f c) {m : Nat} (hm0 : 1 ≤ m) (hm : m < n) :
    PickOK (fun k => c (k * n + m)) (fun k => c (m * n + k)) (pickT n c) m ∧ ok8 (pickT n c m) := by
  have B := pick_before hn hb K hm
  have hres : ok8 (pickT n c m) := by
    have : m = 1 ∨ m = 2 ∨ m = 3 := by omega
    rcases this with rfl | rfl | rfl
    · have h1 := (pick1_even (c := c) (show 1 < n by omega)).1
      have := pick1_bd K (show 1 < n by omega)
      exact ok8_even (by omega) (by omega) (by omega)
    · have := (pick2_even K (show 2 < n by omega)).1
      have := pick2_near hn hb K (show 2 < n by omega)
      exact ok8_even (by omega) (by omega) (by omega)
    · have ho := pick3_even K hm
      have kp : ∀ i j, i < n → j < n → c (i * n + j) ≠ noneB → pickT n c i - pickT n c j ≤ 8 * (c (i * n + j) / 2) := fun i j hi hj hne => by
        rcases picks_keep K hn hi hj with h | h | h
        · exact absurd h hne
        · omega
        · omega
      have far : -18446744073709551616 < pickT n c 3 ∧ pickT n c 3 < 18446744073709551616 := by
        rcases pick_cases (fun k => c (k * n + 3)) (fun k => c (3 * n + k)) (pickT n c) 3 (pickT n c 3) (pickT_succ n c 2) with ⟨k, hk, a, b⟩ | ⟨k, hk, a, b⟩ | ⟨k, l, hk, hl, a, a', b⟩ | ⟨z, k, hk, a, b⟩ | ⟨z, k, hk, a, b⟩ | ⟨z, b⟩
        · have := B k hk; have := pickB K (show k < n by omega) hm a; (try simp only at b); omega
        · have := B k hk; have := pickB K hm (show k < n by omega) a; (try simp only at b); omega
        · have := B k hk; have := B l hl; have := pickB K (show k < n by omega) hm a; have := pickB K hm (show l < n by omega) a'; (try simp only at b); omega
        · have := B k hk; have := pickB K (show k < n by omega) hm a; (try simp only at b); omega
        · have := B k hk; have := pickB K hm (show k < n by omega) a; (try simp only at b); omega
        · omega
      refine ⟨far.1, far.2, fun h => ?_⟩
      obtain ⟨g1, g2⟩ := ho h
      have x1 := kp 0 3 (by omega) hm g1
      have x2 := kp 3 0 hm (by omega) g2
      have x3 := pickB K (show 0 < n by omega) hm g1
      have x4 := pickB K hm (show 0 < n by omega) g2
      rw [pickT_zero] at x1 x2
      omega
  refine ⟨⟨fun k hk => ?_, fun k hk => (B k hk).1, fun k hk hne => ?_, fun k hk hne => ?_, fun k hk => K.bound k m (by omega) hm, fun k hk => K.bound m k hm (by omega), ?_⟩, hres⟩
  · obtain ⟨x, y, z⟩ := B k hk
    exact ok8_even x (by omega) (by omega)
  · obtain ⟨x, y, z⟩ := B k hk
    have := pickB K (show k < n by omega) hm hne
    exact ⟨ok8_even (by omega) (by omega) (by omega), ok8_even (by omega) (by omega) (by omega)⟩
  · obtain ⟨x, y, z⟩ := B k hk
    have := pickB K hm (show k < n by omega) hne
    exact ⟨ok8_even (by omega) (by omega) (by omega), ok8_even (by omega) (by omega) (by omega)⟩
  · obtain ⟨m', rfl⟩ : ∃ m', m = m' + 1 := ⟨m - 1, by omega⟩
    rw [← pickT_succ]; exact hres
#print axioms picks_ok
end Go.Proofs.YtpmpapenjcemjaaGreatDoor

namespace Go.Proofs.YtpmpapenjcemjaaGreatDoor
set_option linter.unusedSimpArgs false
set_option linter.unusedVariables false
open Go Go.RowKit Go.Shelf
attribute [local go_sem] Nat.add_assoc Nat.add_lt_add_iff_left lit_lt_add

theorem ofR_one {n : Int} (h : ok8 (8 * n)) : ofR n 1 = (n, 1, 0) := by
  have hk := q8_ok h
  rw [q8_whole] at hk
  unfold ofR
  rw [if_neg (by omega), lowR_one (by simp), if_pos hk]
theorem ok8_fits {n : Int} (h : ok8 (8 * n)) : fits64 n := by
  have := q8_fits h
  rwa [q8_whole] at this

/-- An end as a value: whether there is one, where, whether it is strict. -/
def endV (i : Bool) (r : Int × Int) (s : Bool) : Value := .agg #[.bool i, .int .i64 r.1, .int .i64 r.2, .bool s]

def endL : EndE → Value
  | none => .agg #[.bool false, .int .i64 0, .int .i64 0, .bool false]
  | some (y, s) => .agg #[.bool true, .int .i64 (q8 y).1, .int .i64 (q8 y).2, .bool s]
def endH : EndE → Value
  | none => .agg #[.bool false, .int .i64 0, .int .i64 0, .bool false]
  | some (y, s) => .agg #[.bool true, .int .i64 (q8 (-y)).1, .int .i64 (q8 (-y)).2, .bool s]
def EOK (x : EndE) : Prop := ∀ y s, x = some (y, s) → ok8 y

theorem cmpPR_zero {a : Int} (ha : ok8 a) : cmpPR (q8 a).1 (q8 a).2 0 0 = (0, 8) := by
  unfold cmpPR; rw [q8_ok ha]; rfl
theorem cmpPR_q8 {a b : Int} (ha : ok8 a) (hb : ok8 b) : cmpPR (q8 a).1 (q8 a).2 (q8 b).1 (q8 b).2 = (sgn3 a b 0, 0) := by
  unfold cmpPR; rw [q8_ok ha, q8_ok hb, cmp8]; rfl
theorem bd_fits64 {b : Int} (h : bd 864691128455135232 b) : fits64 b := by
  rcases h with h | h
  · rw [h]; unfold noneB fits64; omega
  · unfold bnum at h; unfold fits64; omega
theorem value_bd {b : Int} (h : bd 864691128455135232 b) (hn : b ≠ noneB) : Pure Tryz.prog 134 #[.int .i64 b] (.tuple #[.int .i64 (b / 2), .bool (bstr b), .int .i64 0]) :=
  value_ok (bd_fits64 h).1 (bd_fits64 h).2 (bd_okB h (by omega)) hn

end Go.Proofs.YtpmpapenjcemjaaGreatDoor

namespace Go.Proofs.YtpmpapenjcemjaaGreatDoor
set_option linter.unusedSimpArgs false
set_option linter.unusedVariables false
open Go Go.RowKit Go.Shelf
attribute [local go_sem] Nat.add_assoc Nat.add_lt_add_iff_left lit_lt_add

/-- An end in memory. -/
structure EndAt (W : World) (B : Nat) (i : Bool) (a d : Int) (s : Bool) : Prop where
  lt : B < W.heap.size
  c0 : W.cell? ⟨B, 0, none⟩ = some (.bool i)
  c1 : W.cell? ⟨B, 1, none⟩ = some (.int .i64 a)
  c2 : W.cell? ⟨B, 2, none⟩ = some (.int .i64 d)
  c3 : W.cell? ⟨B, 3, none⟩ = some (.bool s)
  z0 : W.frozen? ⟨B, 0, none⟩ = false
  z1 : W.frozen? ⟨B, 1, none⟩ = false
  z2 : W.frozen? ⟨B, 2, none⟩ = false
  z3 : W.frozen? ⟨B, 3, none⟩ = false
theorem EndAt.below {W V : World} {B : Nat} {i : Bool} {a d : Int} {s : Bool} (h : EndAt W B i a d s) (hb : Below W.heap.size W V) : EndAt V B i a d s :=
  ⟨Nat.lt_of_lt_of_le h.lt hb.size, (hb.cell (p := ⟨B, 0, none⟩) h.lt).trans h.c0, (hb.cell (p := ⟨B, 1, none⟩) h.lt).trans h.c1, (hb.cell (p := ⟨B, 2, none⟩) h.lt).trans h.c2, (hb.cell (p := ⟨B, 3, none⟩) h.lt).trans h.c3,
    (hb.frozen (p := ⟨B, 0, none⟩) h.lt).trans h.z0, (hb.frozen (p := ⟨B, 1, none⟩) h.lt).trans h.z1, (hb.frozen (p := ⟨B, 2, none⟩) h.lt).trans h.z2, (hb.frozen (p := ⟨B, 3, none⟩) h.lt).trans h.z3⟩
theorem EndAt.chg {W V : World} {B C : Nat} {i : Bool} {a d : Int} {s : Bool} (h : EndAt W B i a d s) (hb : Chg W C V) (hn : B ≠ C) : EndAt V B i a d s :=
  ⟨Nat.lt_of_lt_of_le h.lt hb.size, (hb.cell h.lt hn).trans h.c0, (hb.cell h.lt hn).trans h.c1, (hb.cell h.lt hn).trans h.c2, (hb.cell h.lt hn).trans h.c3, (hb.frozen h.lt hn).trans h.z0, (hb.frozen h.lt hn).trans h.z1, (hb.frozen h.lt hn).trans h.z2, (hb.frozen h.lt hn).trans h.z3⟩
theorem set_four {X : World} {B : Nat} {i : Bool} {a d : Int} {s : Bool} (h : EndAt X B i a d s) (i' : Bool) (a' d' : Int) (s' : Bool) :
    EndAt ((((X.setCell ⟨B, 0, none⟩ (.bool i')).setCell ⟨B, 1, none⟩ (.int .i64 a')).setCell ⟨B, 2, none⟩ (.int .i64 d')).setCell ⟨B, 3, none⟩ (.bool s')) B i' a' d' s' ∧
    Chg X B ((((X.setCell ⟨B, 0, none⟩ (.bool i')).setCell ⟨B, 1, none⟩ (.int .i64 a')).setCell ⟨B, 2, none⟩ (.int .i64 d')).setCell ⟨B, 3, none⟩ (.bool s')) := by
  have k0 := h.c0
  have k1 := h.c1
  have k2 := h.c2
  have k3 := h.c3
  have n01 : (⟨B, 0, none⟩ : Addr) ≠ ⟨B, 1, none⟩ := fun e => by cases e
  refine ⟨⟨by have := h.lt; simp [World.setCell]; omega, ?_, ?_, ?_, ?_, ?_, ?_, ?_, ?_⟩, (((Chg.set X B 0 _).trans (Chg.set _ B 1 _)).trans (Chg.set _ B 2 _)).trans (Chg.set _ B 3 _)⟩
  · rw [World.cell?_setCell_other _ _ _ _ (fun e => by cases e), World.cell?_setCell_other _ _ _ _ (fun e => by cases e), World.cell?_setCell_other _ _ _ _ (fun e => by cases e), setCell_cell_self, k0]; rfl
  · rw [World.cell?_setCell_other _ _ _ _ (fun e => by cases e), World.cell?_setCell_other _ _ _ _ (fun e => by cases e), setCell_cell_self, World.cell?_setCell_other _ _ _ _ (fun e => by cases e), k1]; rfl
  · rw [World.cell?_setCell_other _ _ _ _ (fun e => by cases e), setCell_cell_self, World.cell?_setCell_other _ _ _ _ (fun e => by cases e), World.cell?_setCell_other _ _ _ _ (fun e => by cases e), k2]; rfl
  · rw [setCell_cell_self, World.cell?_setCell_other _ _ _ _ (fun e => by cases e), World.cell?_setCell_other _ _ _ _ (fun e => by cases e), World.cell?_setCell_other _ _ _ _ (fun e => by cases e), k3]; rfl
  all_goals (rw [World.frozen?_setCell, World.frozen?_setCell, World.frozen?_setCell, World.frozen?_setCell])
  · exact h.z0
  · exact h.z1
  · exact h.z2
  · exact h.z3
theorem endL_raw (x : EndE) : ∃ i a d s, endL x = .agg #[.bool i, .int .i64 a, .int .i64 d, .bool s] := by
  rcases x with _ | ⟨y, s⟩
  · exact ⟨_, _, _, _, rfl⟩
  · exact ⟨_, _, _, _, rfl⟩
theorem endH_raw (x : EndE) : ∃ i a d s, endH x = .agg #[.bool i, .int .i64 a, .int .i64 d, .bool s] := by
  rcases x with _ | ⟨y, s⟩
  · exact ⟨_, _, _, _, rfl⟩
  · exact ⟨_, _, _, _, rfl⟩
def AtV (W : World) (B : Nat) (v : Value) : Prop := ∃ i a d s, v = .agg #[.bool i, .int .i64 a, .int .i64 d, .bool s] ∧ EndAt W B i a d s

/-- What stays while the ends are put together. -/
structure PickI (w : World) (n : Nat) (N : Nat) (p : Option Addr) (c : Nat) (L H : EndE) (W : World) : Prop where
  below : Below w.heap.size w W
  d0 : W.cell? ⟨w.heap.size, 0, none⟩ = some (.int .i64 n)
  d1 : W.cell? ⟨w.heap.size, 1, none⟩ = some (.slice p N c)
  r0 : W.cell? ⟨w.heap.size + 1, 0, none⟩ = some (.int .i64 0)
  r1 : W.cell? ⟨w.heap.size + 1, 1, none⟩ = some (.int .i64 0)
  z0 : W.frozen? ⟨w.heap.size + 1, 0, none⟩ = false
  z1 : W.frozen? ⟨w.heap.size + 1, 1, none⟩ = false
  lo : AtV W (w.heap.size + 2) (endL L)
  hi : AtV W (w.heap.size + 3) (endH H)

/-- Times in eighths, as a list holds them. -/
def q8T (t : Nat → Int) : Nat → Int × Int := fun k => q8 (t k)

theorem low_ok {g t : Nat → Int} : ∀ {m : Nat}, (∀ k, k < m → g k ≠ noneB → ok8 (t k - 8 * (g k / 2))) → EOK (lowF g t m)
  | 0, _ => fun y s h => by cases h
  | m + 1, h => fun y s e => by
    obtain ⟨_, k, hk, h1, h2, _⟩ := low_some (m + 1) y s e
    rw [h2]; exact h k hk h1
theorem ok8_of_neg {t : Int} (h : ok8 (-t)) : ok8 t := by have := h.neg; rwa [Int.neg_neg] at this

theorem AtV.at_ {W : World} {B : Nat} {i : Bool} {a d : Int} {s : Bool} (h : AtV W B (.agg #[.bool i, .int .i64 a, .int .i64 d, .bool s])) : EndAt W B i a d s := by
  obtain ⟨i', a', d', s', e, h⟩ := h
  have e1 : i = i' ∧ a = a' ∧ d = d' ∧ s = s' := by simpa using e
  obtain ⟨rfl, rfl, rfl, rfl⟩ := e1
  exact h
theorem AtV.lt' {W : World} {B : Nat} {v : Value} (h : AtV W B v) : B < W.heap.size := by
  obtain ⟨_, _, _, _, _, h⟩ := h; exact h.lt
/-- What is known of the ends. -/
structure PickF (L H : EndE) : Prop where
  lo : EOK L
  hi : EOK H
  even : ∀ y s z s', L = some (y, s) → H = some (z, s') → (y + -z) % 2 = 0
  res : ok8 (pickE L H)
theorem pick_facts {g h t : Nat → Int} {m : Nat} {L H : EndE} (OK : PickOK g h t m) (hL : L = lowF g t m) (hH : H = lowF h (fun k => -(t k)) m) : PickF L H := by
  refine ⟨?_, ?_, ?_, ?_⟩
  · rw [hL]; exact low_ok fun k hk hne => (OK.lo k hk hne).2
  · rw [hH]; exact low_ok fun k hk hne => by
      have := (OK.hi k hk hne).2.neg
      rwa [show -(t k + 8 * (h k / 2)) = -(t k) - 8 * (h k / 2) from by omega] at this
  · intro y s z s' e1 e2
    rw [hL] at e1
    rw [hH] at e2
    obtain ⟨_, k, hk, _, h2, _⟩ := low_some m y s e1
    obtain ⟨_, l, hl, _, h3, _⟩ := low_some m z s' e2
    have := OK.even k hk
    have := OK.even l hl
    (try simp only at h3)
    omega
  · rw [hL, hH]; exact OK.res

end Go.Proofs.YtpmpapenjcemjaaGreatDoor

namespace Go.Proofs.YtpmpapenjcemjaaGreatDoor
set_option linter.unusedSimpArgs false
set_option linter.unusedVariables false
open Go Go.RowKit Go.Shelf
attribute [local go_sem] Nat.add_assoc Nat.add_lt_add_iff_left lit_lt_add

/-- Times and an error's number. -/
structure TR where
  M : Nat
  T : Nat → Int × Int
  e : Int
def pickR (n : Int) (N : Nat) (f : Nat → Int) : TR :=
  if (closeM n N f).e = 0 then ⟨n.toNat - 1, fun k => q8 (pickT n.toNat (closeM n N f).f (k + 1)), 0⟩ else ⟨0, fun _ => (0, 0), (closeM n N f).e⟩
def ratC (w : World) (M : Nat) (T : Nat → Int × Int) (e0 : Int) (e : Ending) (W : World) : Prop :=
  (∃ p cap, e = .returned (.tuple #[.slice p M cap, .int .i64 e0]) ∧ SlR W p M T) ∧ ∃ q, W = Wov w q

theorem row_later {W V : World} {base e s k : Nat} {v : Value} {xs : List Value} (h : W.ownsRow base e s v k xs) (hb : Below W.heap.size W V) : V.ownsRow base e s v k xs := by
  obtain ⟨h0, h | ⟨g, cap, cur, h1, h2, h3, h4⟩⟩ := h
  · exact ⟨h0, .inl h⟩
  · exact ⟨h0, .inr ⟨g, cap, cur, h1, h2, (hb.block g (Array.getElem?_eq_some_iff.1 h3).1).trans h3, h4⟩⟩

end Go.Proofs.YtpmpapenjcemjaaGreatDoor

namespace Go.Proofs.YtpmpapenjcemjaaGreatDoor
set_option linter.unusedSimpArgs false
set_option linter.unusedVariables false
open Go Go.RowKit Go.Shelf
attribute [local go_sem] Nat.add_assoc Nat.add_lt_add_iff_left lit_lt_add

end Go.Proofs.YtpmpapenjcemjaaGreatDoor

namespace Go.Proofs.YtpmpapenjcemjaaGreatDoor
set_option linter.unusedSimpArgs false
set_option linter.unusedVariables false
open Go Go.RowKit

theorem inR_cases {n1 : Int} {N1 : Nat} {f1 : Nat → Int} {n2 : Int} {N2 : Nat} {f2 : Nat → Int} {x : Bool} {e : Int} (h : (x, e) = inR n1 N1 f1 n2 N2 f2) : e = twoE n1 N1 f1 n2 N2 f2 ∧ (e ≠ 0 → x = false) ∧
    (e = 0 → ∃ m : Nat, n1 = (m : Int) ∧ n2 = (m : Int) ∧ N1 = m * m ∧ N2 = m * m ∧ 1 ≤ m ∧ m ≤ 4 ∧ okD m (m * m) f1 = true ∧ okD m (m * m) f2 = true ∧ (x = true ↔ InP m f1 f2)) := by
  rcases twoE_cases n1 N1 f1 n2 N2 f2 with ⟨hne, _⟩ | ⟨m, rfl, rfl, rfl, rfl, hm0, hm4, o1, o2, hz⟩
  · rw [inR_bad hne] at h
    simp only [Prod.mk.injEq] at h
    obtain ⟨rfl, rfl⟩ := h
    exact ⟨rfl, fun _ => rfl, fun h => absurd h hne⟩
  · rw [inR_ok hz] at h
    simp only [Prod.mk.injEq] at h
    obtain ⟨rfl, rfl⟩ := h
    exact ⟨hz.symm, fun h => absurd rfl h, fun _ => ⟨m, rfl, rfl, rfl, rfl, hm0, hm4, o1, o2, inB_iff o1 o2⟩⟩
theorem apR_cases {n1 : Int} {N1 : Nat} {f1 : Nat → Int} {n2 : Int} {N2 : Nat} {f2 : Nat → Int} {x : Bool} {e : Int} (h : (x, e) = apR n1 N1 f1 n2 N2 f2) : e = twoE n1 N1 f1 n2 N2 f2 ∧ (e ≠ 0 → x = false) ∧
    (e = 0 → ∀ m : Nat, n1 = (m : Int) → n2 = (m : Int) → N1 = m * m → N2 = m * m → okD m (m * m) f1 = true → okD m (m * m) f2 = true → (x = true ↔ ApP m f1 f2)) := by
  by_cases hz : twoE n1 N1 f1 n2 N2 f2 = 0
  · rw [apR_ok hz] at h
    simp only [Prod.mk.injEq] at h
    obtain ⟨rfl, rfl⟩ := h
    refine ⟨hz.symm, fun h => absurd rfl h, fun _ m h1 h2 h3 h4 o1 o2 => ?_⟩
    subst h1 h2 h3 h4
    rw [decide_eq_true_iff, meet_e o1 o2, away_iff o1 o2]
  · rw [apR_bad hz] at h
    simp only [Prod.mk.injEq] at h
    obtain ⟨rfl, rfl⟩ := h
    exact ⟨rfl, fun _ => rfl, fun h => absurd h hz⟩

/-- InclChain. -/
theorem chain_law {na : Int} {Na : Nat} {fa : Nat → Int} {nb : Int} {Nb : Nat} {fb : Nat → Int} {nd : Int} {Nd : Nat} {fd : Nat → Int} {x y z far near : Bool} {e f g h i : Int}
    (h1 : (x, e) = inR na Na fa nb Nb fb) (h2 : (y, f) = inR nb Nb fb nd Nd fd) (h3 : (z, g) = inR na Na fa nd Nd fd) (h4 : (far, h) = apR nb Nb fb nd Nd fd) (h5 : (near, i) = apR na Na fa nd Nd fd) :
    f = h ∧ g = i ∧ (e = 0 → f = 0 → g = 0 → (x = true → y = true → z = true) ∧ (x = true → far = true → near = true)) := by
  obtain ⟨a1, a2, a3⟩ := inR_cases h1
  obtain ⟨b1, b2, b3⟩ := inR_cases h2
  obtain ⟨c1, c2, c3⟩ := inR_cases h3
  obtain ⟨d1, d2, d3⟩ := apR_cases h4
  obtain ⟨e1, e2, e3⟩ := apR_cases h5
  refine ⟨by rw [d1, b1], by rw [e1, c1], fun he hf hg => ?_⟩
  obtain ⟨m, rfl, rfl, rfl, rfl, hm0, hm4, oa, ob, hx⟩ := a3 he
  obtain ⟨m2, k1, rfl, k3, rfl, _, _, _, od, hy⟩ := b3 hf
  obtain rfl : m = m2 := by omega
  obtain ⟨m3, k1, _, k3, _, _, _, _, _, hz⟩ := c3 hg
  obtain rfl : m = m3 := by omega
  have hfar := d3 (by rw [d1, ← b1]; exact hf) m rfl rfl rfl rfl ob od
  have hnear := e3 (by rw [e1, ← c1]; exact hg) m rfl rfl rfl rfl oa od
  exact ⟨fun hx' hy' => hz.2 fun q hq hu => hy.1 hy' q hq (hx.1 hx' q hq hu), fun hx' hf' => hnear.2 fun q hq hu => hfar.1 hf' q hq (hx.1 hx' q hq hu)⟩
#print axioms chain_law
end Go.Proofs.YtpmpapenjcemjaaGreatDoor

namespace Go.Proofs.YtpmpapenjcemjaaGreatDoor
set_option linter.unusedSimpArgs false
set_option linter.unusedVariables false
open Go Go.RowKit

theorem pickR_ok {m : Nat} {f c : Nat → Int} (hc : closeM m (m * m) f = ⟨m, m * m, c, 0⟩) : pickR m (m * m) f = ⟨m - 1, fun k => q8 (pickT m c (k + 1)), 0⟩ := by
  unfold pickR; rw [hc]; rfl
theorem tm_q8 {m : Nat} {c : Nat → Int} (i : Nat) : tm (fun k => q8 (pickT m c (k + 1))) i = q8 (pickT m c i) := by
  cases i with
  | zero => rw [pickT_zero, q8_zero]; rfl
  | succ i => rfl
/-- Picked times keep the matrix, and may be handed in. -/
theorem picks_kept {m : Nat} {f c : Nat → Int} (hok : okD m (m * m) f = true) (K : ClosedI m f c) : allRat (m - 1) (fun k => q8 (pickT m c (k + 1))) = true ∧ keptAll m f (fun k => q8 (pickT m c (k + 1))) = true := by
  obtain ⟨h1, h2, hb⟩ := okD_bd hok
  have hr : allRat (m - 1) (fun k => q8 (pickT m c (k + 1))) = true := allRat_iff.2 fun x hx => q8_ok (picks_ok h2 hb K (by omega) (by omega)).2
  refine ⟨hr, ?_⟩
  have hp := tm_pos hr
  rw [kept_same (fun i hi => hp i (by omega)) K, keptAll_iff]
  intro i j hi hj
  rw [tm_q8, tm_q8, keep8, decide_eq_true_iff]
  exact picks_keep K h2 hi hj
theorem picks_fits {n : Int} {N : Nat} {f : Nat → Int} : FitsR (pickR n N f).M (pickR n N f).T ∧ (pickR n N f).M ≤ 3 := by
  by_cases he : (closeM n N f).e = 0
  · cases hok : okD n N f
    · rw [closeM_bad hok] at he; simp [errM] at he
    · obtain ⟨m, rfl, rfl, hm0, hm4⟩ := okD_form hok
      rcases closeM_cases hok with ⟨c, hc, K⟩ | ⟨hc, _⟩
      · rw [pickR_ok hc]
        refine ⟨fun x hx => ?_, by simp only; omega⟩
        (try simp only at hx)
        exact ⟨q8_fits (picks_ok hm4 (okD_bd hok).2.2 K (by omega) (by omega)).2, q8_fits2 _⟩
      · rw [hc] at he; simp [errM] at he
  · have e : pickR n N f = ⟨0, fun _ => (0, 0), (closeM n N f).e⟩ := if_neg he
    rw [e]
    exact ⟨fun x hx => absurd hx (Nat.not_lt_zero _), by simp⟩
theorem pickR_e (n : Int) (N : Nat) (f : Nat → Int) : (pickR n N f).e = (closeM n N f).e := by
  unfold pickR
  split
  · rename_i h; exact h.symm
  · rfl
/-- InclPicks. -/
theorem picks_law {n : Int} {N : Nat} {f : Nat → Int} {M : Nat} {T : Nat → Int × Int} {e : Int} (h : (⟨M, T, e⟩ : TR) = pickR n N f) :
    e = (closeM n N f).e ∧ (e ≠ 0 → M = 0) ∧ (e = 0 → (M : Int) = n - 1 ∧ 1 ≤ n ∧ n ≤ 4 ∧ keepsD n N f M T = (true, 0)) := by
  have he : e = (pickR n N f).e := congrArg TR.e h
  refine ⟨by rw [he, pickR_e], fun hne => ?_, fun h0 => ?_⟩
  · have e1 : pickR n N f = ⟨0, fun _ => (0, 0), (closeM n N f).e⟩ := if_neg (by rw [← pickR_e, ← he]; exact hne)
    rw [e1] at h; exact congrArg TR.M h
  · rw [he, pickR_e] at h0
    cases hok : okD n N f
    · rw [closeM_bad hok] at h0; simp [errM] at h0
    · obtain ⟨m, rfl, rfl, hm0, hm4⟩ := okD_form hok
      rcases closeM_cases hok with ⟨c, hc, K⟩ | ⟨hc, _⟩
      · rw [pickR_ok hc] at h
        have e1 : M = m - 1 := congrArg TR.M h
        have e2 : T = _ := congrArg TR.T h
        simp only at e2
        obtain ⟨k1, k2⟩ := picks_kept hok K
        refine ⟨by omega, by omega, by omega, ?_⟩
        rw [e1, e2, keepsD_of hok k1 (by omega), k2]
      · rw [hc] at h0; simp [errM] at h0

theorem twoE_comm (n1 : Int) (N1 : Nat) (f1 : Nat → Int) (n2 : Int) (N2 : Nat) (f2 : Nat → Int) : twoE n1 N1 f1 n2 N2 f2 = twoE n2 N2 f2 n1 N1 f1 := by
  unfold twoE
  rw [Bool.and_comm]
  by_cases e : n1 = n2
  · subst e; rfl
  · have e' : ¬ n2 = n1 := fun h => e h.symm
    simp only [if_neg e, if_neg e']
theorem meetM_e {n1 : Int} {N1 : Nat} {f1 : Nat → Int} {n2 : Int} {N2 : Nat} {f2 : Nat → Int} (h : twoE n1 N1 f1 n2 N2 f2 ≠ 0) : (meetM n1 N1 f1 n2 N2 f2).e = twoE n1 N1 f1 n2 N2 f2 := by
  unfold twoE at *
  unfold meetM
  cases hb : (okD n1 N1 f1 && okD n2 N2 f2)
  · simp [errM]
  · rw [hb] at h
    simp only [if_true] at h ⊢
    by_cases e : n1 = n2
    · rw [if_pos e] at h; exact absurd rfl h
    · rw [if_neg e, if_neg e]; rfl

/-- InclCommon. -/
theorem common_law {na : Int} {Na : Nat} {fa : Nat → Int} {nb : Int} {Nb : Nat} {fb : Nat → Int} {nd : Int} {Nd : Nat} {fd : Nat → Int} {n : Int} {N : Nat} {g : Nat → Int} {e f h : Int} {apart inn : Bool}
    (h1 : (⟨n, N, g, e⟩ : MR) = meetM na Na fa nb Nb fb) (h2 : (apart, f) = apR na Na fa nb Nb fb) (h3 : (inn, h) = inR na Na fa nb Nb fb) :
    f = h ∧ (f ≠ 0 → e = f) ∧ (f = 0 → apart = decide (e = 6)) ∧
    (f = 0 → e = 0 → okD n N g = true → inR n N g na Na fa = (true, 0) ∧ inR n N g nb Nb fb = (true, 0) ∧ (closeM na Na fa).e = 0 ∧ inn = sameM ⟨n, N, g, e⟩ (closeM na Na fa) ∧
      ∀ p q r j k l, (p, j) = inR nd Nd fd na Na fa → (q, k) = inR nd Nd fd nb Nb fb → (r, l) = inR nd Nd fd n N g → j = 0 → k = 0 → l = 0 → r = (p && q)) := by
  obtain ⟨a1, a2, a3⟩ := apR_cases h2
  obtain ⟨b1, b2, b3⟩ := inR_cases h3
  refine ⟨by rw [a1, b1], fun hne => ?_, fun h0 => ?_, fun h0 he hok => ?_⟩
  · have := meetM_e (by rw [← a1]; exact hne)
    rw [← h1, ← a1] at this; exact this
  · rw [apR_ok (by rw [← a1]; exact h0), ← h1] at h2
    exact congrArg Prod.fst h2
  · obtain ⟨m, rfl, rfl, rfl, rfl, hm0, hm4, oa, ob, hin⟩ := b3 (by rw [b1, ← a1]; exact h0)
    rw [meet_e oa ob] at h1
    have hu := fun q => under_less (q := q) (okD_le oa) (okD_le ob)
    rcases closeM_cases (okD_less oa ob) with ⟨c, hc, K⟩ | ⟨hc, _⟩
    · rw [hc] at h1
      simp only [MR.mk.injEq] at h1
      obtain ⟨rfl, rfl, rfl, _⟩ := h1
      have z1 : twoE m (m * m) g m (m * m) fa = 0 := by unfold twoE; rw [hok, oa]; simp
      have z2 : twoE m (m * m) g m (m * m) fb = 0 := by unfold twoE; rw [hok, ob]; simp
      have ia : InP m g fa := fun q hq hu' => ((hu q).1 ((K.iff hq).2 hu')).1
      have ib : InP m g fb := fun q hq hu' => ((hu q).1 ((K.iff hq).2 hu')).2
      refine ⟨?_, ?_, ?_, ?_, ?_⟩
      · rw [inR_ok z1, (inB_iff hok oa).2 ia]
      · rw [inR_ok z2, (inB_iff hok ob).2 ib]
      · rcases closeM_cases oa with ⟨c', h, _⟩ | ⟨h, hno⟩
        · rw [h]
        · exact absurd (((hu _).1 K.closed.2).1) (none_no hno K.closed.1)
      · rcases closeM_cases oa with ⟨c', h, K'⟩ | ⟨h, hno⟩
        · have s1 := (closeM_eq (okD_less oa ob) oa)
          rw [Bool.eq_iff_iff, hin]
          constructor
          · intro hi
            have := (s1 fun q hq => ⟨fun h => ((hu q).1 h).1, fun h => (hu q).2 ⟨h, hi q hq h⟩⟩).2
            rwa [hc] at this
          · intro hs q hq hf
            rw [h] at hs
            have he : ∀ x, x < m * m → g x = c' x := by
              simp only [sameM, sameB, decide_true, Bool.true_and] at hs
              exact eqB_iff.1 hs
            have hq' : Under m q (mE m g) := fun i j hi hj => by
              have := (K'.iff hq).1 hf i j hi hj
              show ele _ (eb (g (i * m + j)))
              rw [he _ (place_lt hi hj)]; exact this
            exact ((hu q).1 ((K.iff hq).2 hq')).2
        · exact absurd (((hu _).1 K.closed.2).1) (none_no hno K.closed.1)
      · intro p q r j k l e1 e2 e3 hj hk hl
        obtain ⟨_, _, p3⟩ := inR_cases e1
        obtain ⟨_, _, q3⟩ := inR_cases e2
        obtain ⟨_, _, r3⟩ := inR_cases e3
        obtain ⟨m1, rfl, k1, rfl, _, _, _, od, _, hp⟩ := p3 hj
        obtain rfl : m1 = m := by omega
        obtain ⟨m2, k2, _, _, _, _, _, _, _, hq⟩ := q3 hk
        obtain rfl : m1 = m2 := by omega
        obtain ⟨m3, k3, _, _, _, _, _, _, _, hr⟩ := r3 hl
        obtain rfl : m1 = m3 := by omega
        rw [Bool.eq_iff_iff, Bool.and_eq_true, hr, hp, hq]
        constructor
        · intro h
          exact ⟨fun q' a b => ia q' a (h q' a b), fun q' a b => ib q' a (h q' a b)⟩
        · rintro ⟨x, y⟩ q' a b
          exact (K.iff a).1 ((hu q').2 ⟨x q' a b, y q' a b⟩)
    · rw [hc] at h1
      have := congrArg MR.e h1
      simp [errM] at this
      rw [he] at this; cases this

/-- InclKept. -/
theorem kept_law {na : Int} {Na : Nat} {fa : Nat → Int} {nb : Int} {Nb : Nat} {fb : Nat → Int} {M : Nat} {T : Nat → Int × Int} {e f g h i : Int} {inn back apart one two : Bool}
    (h1 : (inn, e) = inR na Na fa nb Nb fb) (h2 : (back, f) = inR nb Nb fb na Na fa) (h3 : (apart, g) = apR na Na fa nb Nb fb) (h4 : (one, h) = keepsD na Na fa M T) (h5 : (two, i) = keepsD nb Nb fb M T) :
    e = f ∧ e = g ∧ (e = 0 → h = 0 → i = 0 → (inn = true → one = true → two = true) ∧ (back = true → two = true → one = true) ∧ ¬ (apart = true ∧ one = true ∧ two = true)) := by
  obtain ⟨a1, a2, a3⟩ := inR_cases h1
  obtain ⟨b1, b2, b3⟩ := inR_cases h2
  obtain ⟨c1, c2, c3⟩ := apR_cases h3
  refine ⟨by rw [a1, b1, twoE_comm], by rw [a1, c1], fun he hh hi => ?_⟩
  obtain ⟨m, rfl, rfl, rfl, rfl, hm0, hm4, oa, ob, hin⟩ := a3 he
  obtain ⟨m2, k1, _, _, _, _, _, _, _, hback⟩ := b3 (by rw [b1, twoE_comm, ← a1]; exact he)
  obtain rfl : m = m2 := by omega
  have hap := c3 (by rw [c1, ← a1]; exact he) m rfl rfl rfl rfl oa ob
  subst hh hi
  obtain ⟨m3, x1, _, x3, x4, x5, x6, x7⟩ := keepsD_ok h4.symm
  obtain rfl : m = m3 := by omega
  obtain ⟨m4, y1, _, _, y4, y5, y6, y7⟩ := keepsD_ok h5.symm
  obtain rfl : m = m4 := by omega
  have hp : ∀ i, i < m → 0 < (tm T i).2 := fun i hi => tm_pos x6 i (by omega)
  have cl := tmE_closed hp
  have ua := kept_under (f := fa) hp
  have ub := kept_under (f := fb) hp
  refine ⟨fun p q => ?_, fun p q => ?_, fun ⟨p, q, r⟩ => ?_⟩
  · rw [y7, ub]; rw [x7, ua] at q; exact hin.1 p _ cl q
  · rw [x7, ua]; rw [y7, ub] at q; exact hback.1 p _ cl q
  · rw [x7, ua] at q; rw [y7, ub] at r; exact hap.1 p _ cl q r
/-- InclKept: with picked times. -/
theorem kept_law2 {na : Int} {Na : Nat} {fa : Nat → Int} {nb : Int} {Nb : Nat} {fb : Nat → Int} {M : Nat} {T : Nat → Int × Int} {e g j k : Int} {inn apart it : Bool}
    (h1 : (inn, e) = inR na Na fa nb Nb fb) (h3 : (apart, g) = apR na Na fa nb Nb fb) (h6 : (⟨M, T, j⟩ : TR) = pickR na Na fa) (h7 : (it, k) = keepsD nb Nb fb M T) (he : e = 0) :
    (j ≠ 0 → inn = true ∧ apart = true) ∧ (j = 0 → k = 0 ∧ (inn = true → it = true) ∧ (apart = true → it = false) ∧ ¬ (inn = true ∧ apart = true)) := by
  obtain ⟨a1, a2, a3⟩ := inR_cases h1
  obtain ⟨c1, c2, c3⟩ := apR_cases h3
  obtain ⟨p1, p2, p3⟩ := picks_law h6
  obtain ⟨m, rfl, rfl, rfl, rfl, hm0, hm4, oa, ob, hin⟩ := a3 he
  have hap := c3 (by rw [c1, ← a1]; exact he) m rfl rfl rfl rfl oa ob
  refine ⟨fun hj => ?_, fun hj => ?_⟩
  · rw [p1] at hj
    rcases closeM_cases oa with ⟨c, hc, K⟩ | ⟨hc, hno⟩
    · rw [hc] at hj; exact absurd rfl hj
    · exact ⟨hin.2 fun q hq hu => absurd hu (none_no hno hq), hap.2 fun q hq hu => absurd hu (none_no hno hq)⟩
  · obtain ⟨q1, q2, q3, q4⟩ := p3 hj
    obtain ⟨m3, x1, _, x3, x4, x5, x6, x7⟩ := keepsD_ok q4
    obtain rfl : m = m3 := by omega
    rw [keepsD_of ob x6 x3] at h7
    simp only [Prod.mk.injEq] at h7
    obtain ⟨rfl, rfl⟩ := h7
    have hp : ∀ i, i < m → 0 < (tm T i).2 := fun i hi => tm_pos x6 i (by omega)
    have cl := tmE_closed hp
    have ua := (kept_under (f := fa) hp).1 x7.symm
    have ub := kept_under (f := fb) hp
    refine ⟨rfl, fun p => ub.2 (hin.1 p _ cl ua), fun p => ?_, fun ⟨p, q⟩ => hap.1 q _ cl ua (hin.1 p _ cl ua)⟩
    rw [← Bool.not_eq_true, ub]
    exact hap.1 p _ cl ua
#print axioms kept_law
end Go.Proofs.YtpmpapenjcemjaaGreatDoor
