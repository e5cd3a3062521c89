/- Plain laws of matrices with bounds more, and of what two have in common. No condition. Plain laws: times keep what has a bound more just if they keep both. No condition. A matrix and an error's number as a call's result; what is known of results. No condition. Contract of tight.with: a matrix with bounds more, closed. Contracts of tight's fits, clock and Set. Contract of tight.Meet: what two matrices have in common. Plain laws: a matrix with a clock in a span. No condition. Contracts of tight's of, sides and Between: a matrix with a clock in a span. A boxed matrix, kept while the world grows. No condition. The list of all times, laid in a plain walk; boxed spans. No condition. Opening a span among a law's arguments. No condition. -/
import Derived.Test.YtpaomeilfmeheaaDoorMC
import Derived.Test.YtpaomeilfmeheaaDoorMK
import Derived.Test.YtpaomeilfmeheaaDoorFrame2
namespace Go.Proofs.YtpaomeilfmeheaaDoor
set_option linter.unusedSimpArgs false
set_option linter.unusedVariables false
open Go Go.RowKit

def moreAt (f : Nat → Int) (x : Nat) (b : Int) : Nat → Int := upd f x (min (f x) b)
def lessF (f g : Nat → Int) : Nat → Int := fun x => min (f x) (g x)
/-- A matrix and an error's number. -/
structure MR where
  n : Int
  N : Nat
  f : Nat → Int
  e : Int
def errM (e : Int) : MR := ⟨0, 0, fun _ => 0, e⟩
def mR (n : Int) (N : Nat) (r : Option (Nat → Int) × Int) : MR := match r.1 with
  | none => errM r.2
  | some c => ⟨n, N, c, r.2⟩
def closeM (n : Int) (N : Nat) (f : Nat → Int) : MR := mR n N (closeR n N f)
def setM (n : Int) (N : Nat) (f : Nat → Int) (i j b : Int) : MR :=
  if okD n N f then (if 0 ≤ i ∧ i < n ∧ 0 ≤ j ∧ j < n then (if mayB b then closeM n N (moreAt f (i * n + j).toNat b) else errM 8) else errM 2) else errM 8
def meetM (n1 : Int) (N1 : Nat) (f1 : Nat → Int) (n2 : Int) (N2 : Nat) (f2 : Nat → Int) : MR :=
  if okD n1 N1 f1 && okD n2 N2 f2 then (if n1 = n2 then closeM n1 N1 (lessF f1 f2) else errM 40) else errM 8
def sameM (a b : MR) : Bool := sameB a.n a.N a.f b.n b.N b.f

theorem mayB_le {x : Int} (h : mayB x = true) : x ≤ noneB := by
  rcases mayB_bd h with h | h
  · omega
  · unfold bnum at h; unfold noneB; omega
theorem mayB_min {x y : Int} (h : mayB x = true) (g : mayB y = true) : mayB (min x y) = true := by
  rcases Int.le_total x y with l | l
  · rw [Int.min_eq_left l]; exact h
  · rw [Int.min_eq_right l]; exact g
theorem ele_min {x : EB} {u v : Int} (hu : u ≤ noneB) (hv : v ≤ noneB) : ele x (eb (min u v)) ↔ ele x (eb u) ∧ ele x (eb v) := by
  have mono : ∀ {a b : Int}, a ≤ b → b ≤ noneB → ele x (eb a) → ele x (eb b) := by
    intro a b hab hb h
    unfold eb at h ⊢
    by_cases e : b = noneB
    · rw [if_pos e]; exact ele_none x
    · rw [if_neg e]
      rw [if_neg (by omega)] at h
      exact ele_trans h hab
  rcases Int.le_total u v with l | l
  · rw [Int.min_eq_left l]
    exact ⟨fun h => ⟨h, mono l hv h⟩, fun h => h.1⟩
  · rw [Int.min_eq_right l]
    exact ⟨fun h => ⟨mono l hu h, h⟩, fun h => h.2⟩

theorem under_more {n a b : Nat} {f : Nat → Int} {v : Int} {q : Nat → Nat → EB} (ha : a < n) (hb : b < n) (hf : ∀ i j, i < n → j < n → f (i * n + j) ≤ noneB) (hv : v ≤ noneB) :
    Under n q (mE n (moreAt f (a * n + b) v)) ↔ Under n q (mE n f) ∧ ele (q a b) (eb v) := by
  have pt : ∀ i j, i < n → j < n → mE n (moreAt f (a * n + b) v) i j = if i = a ∧ j = b then eb (min (f (a * n + b)) v) else mE n f i j := by
    intro i j hi hj
    unfold mE moreAt upd
    by_cases e : i * n + j = a * n + b
    · obtain ⟨rfl, rfl⟩ := place_inj hj hb e
      rw [if_pos rfl, if_pos ⟨rfl, rfl⟩]
    · rw [if_neg e, if_neg (fun ⟨h, g⟩ => e (by rw [h, g]))]
  constructor
  · intro h
    have hab := h a b ha hb
    rw [pt a b ha hb, if_pos ⟨rfl, rfl⟩, ele_min (hf a b ha hb) hv] at hab
    refine ⟨fun i j hi hj => ?_, hab.2⟩
    have := h i j hi hj
    rw [pt i j hi hj] at this
    split at this
    · rename_i e; obtain ⟨rfl, rfl⟩ := e; exact hab.1
    · exact this
  · rintro ⟨h, g⟩ i j hi hj
    rw [pt i j hi hj]
    split
    · rename_i e; obtain ⟨rfl, rfl⟩ := e
      exact (ele_min (hf i j hi hj) hv).2 ⟨h i j hi hj, g⟩
    · exact h i j hi hj
theorem under_less {n : Nat} {f g : Nat → Int} {q : Nat → Nat → EB} (hf : ∀ i j, i < n → j < n → f (i * n + j) ≤ noneB) (hg : ∀ i j, i < n → j < n → g (i * n + j) ≤ noneB) :
    Under n q (mE n (lessF f g)) ↔ Under n q (mE n f) ∧ Under n q (mE n g) := by
  constructor
  · intro h
    exact ⟨fun i j hi hj => ((ele_min (hf i j hi hj) (hg i j hi hj)).1 (h i j hi hj)).1, fun i j hi hj => ((ele_min (hf i j hi hj) (hg i j hi hj)).1 (h i j hi hj)).2⟩
  · rintro ⟨h, k⟩ i j hi hj
    exact (ele_min (hf i j hi hj) (hg i j hi hj)).2 ⟨h i j hi hj, k i j hi hj⟩

theorem okD_le {n : Nat} {f : Nat → Int} (h : okD n (n * n) f = true) : ∀ i j, i < n → j < n → f (i * n + j) ≤ noneB := fun i j hi hj => mayB_le (bd_mayB ((okD_bd h).2.2 i j hi hj))
theorem okD_may {n : Int} {N : Nat} {f : Nat → Int} (h : okD n N f = true) : ∀ x, x < N → mayB (f x) = true := by
  simp only [okD, Bool.and_eq_true, decide_eq_true_eq] at h
  exact allMay_iff.1 h.2.2.2
theorem okD_of {n : Int} {N : Nat} {f g : Nat → Int} (h : okD n N f = true) (hg : ∀ x, x < N → mayB (g x) = true) : okD n N g = true := by
  simp only [okD, Bool.and_eq_true, decide_eq_true_eq] at h ⊢
  exact ⟨h.1, h.2.1, h.2.2.1, allMay_iff.2 hg⟩
theorem okD_more {n : Int} {N : Nat} {f : Nat → Int} {x : Nat} {v : Int} (h : okD n N f = true) (hv : mayB v = true) : okD n N (moreAt f x v) = true := by
  refine okD_of h fun y hy => ?_
  unfold moreAt upd
  split
  · rename_i e; subst e; exact mayB_min (okD_may h _ hy) hv
  · exact okD_may h _ hy
theorem okD_less {n : Int} {N : Nat} {f g : Nat → Int} (h : okD n N f = true) (hg : okD n N g = true) : okD n N (lessF f g) = true :=
  okD_of h fun y hy => mayB_min (okD_may h _ hy) (okD_may hg _ hy)

/-- What closing gives. -/
theorem closeM_cases {n : Nat} {f : Nat → Int} (hok : okD n (n * n) f = true) :
    (∃ c, closeM n (n * n) f = ⟨n, n * n, c, 0⟩ ∧ ClosedI n f c) ∨ (closeM n (n * n) f = errM 6 ∧ closeE n (mE n f) = none) := by
  obtain ⟨h1, h2, hb⟩ := okD_bd hok
  cases hc : closeI n f with
  | none =>
    right
    refine ⟨?_, close_none h2 hb hc⟩
    unfold closeM closeR
    rw [hok, if_pos rfl, show ((n : Int)).toNat = n from rfl, hc]; rfl
  | some c =>
    left
    refine ⟨c, ?_, close_facts h1 h2 hb hc⟩
    unfold closeM closeR
    rw [hok, if_pos rfl, show ((n : Int)).toNat = n from rfl, hc]; rfl
theorem closeM_bad {n : Int} {N : Nat} {f : Nat → Int} (hok : okD n N f = false) : closeM n N f = errM 8 := by
  unfold closeM closeR; rw [hok]; rfl
/-- What is closed and under a matrix is under its closed one, and the other way round. -/
theorem ClosedI.iff {n : Nat} {f c : Nat → Int} (h : ClosedI n f c) {q : Nat → Nat → EB} (hq : Closed n q) : Under n q (mE n f) ↔ Under n q (mE n c) := by
  obtain ⟨e, he, hce⟩ := h.ex
  constructor
  · intro hu
    obtain ⟨c', h1, h2⟩ := closeE_greatest hq hu
    rw [he] at h1; cases h1
    intro i j hi hj
    show ele _ (eb (c (i * n + j)))
    rw [hce i j hi hj]; exact h2 i j hi hj
  · exact fun hu => under_trans hu h.closed.2
theorem none_no {n : Nat} {d q : Nat → Nat → EB} (h : closeE n d = none) (hq : Closed n q) : ¬ Under n q d := fun hu => by
  obtain ⟨c, hc, _⟩ := closeE_greatest hq hu
  rw [h] at hc; cases hc
theorem ClosedI.pt {n : Nat} {f c : Nat → Int} {e : Nat → Nat → EB} (h : ClosedI n f c) (hE : Closed n e) (h1 : Under n e (mE n f)) (h2 : ∀ q, Closed n q → Under n q (mE n f) → Under n q e) : ∀ i j, i < n → j < n → eb (c (i * n + j)) = e i j := fun i j hi hj =>
  ele_antisymm (h2 _ h.closed.1 h.closed.2 i j hi hj) ((h.iff hE).1 h1 i j hi hj)

theorem sameB_of {n : Int} {N : Nat} {f g : Nat → Int} (h : ∀ x, x < N → f x = g x) : sameB n N f n N g = true := by
  simp only [sameB, decide_true, Bool.true_and]
  exact eqB_t h
theorem sameM_err (e e' : Int) : sameM (errM e) (errM e') = true := sameB_of fun x hx => by simp [errM] at hx
theorem sameM_refl (a : MR) : sameM a a = true := sameB_of fun x _ => rfl

/-- Matrices with the same closed ones under them have the same closed one. -/
theorem closeM_eq {n : Nat} {f g : Nat → Int} (hf : okD n (n * n) f = true) (hg : okD n (n * n) g = true) (h : ∀ q, Closed n q → (Under n q (mE n f) ↔ Under n q (mE n g))) :
    (closeM n (n * n) f).e = (closeM n (n * n) g).e ∧ sameM (closeM n (n * n) f) (closeM n (n * n) g) = true := by
  rcases closeM_cases hf with ⟨c, h1, K⟩ | ⟨h1, hno⟩
  · rcases closeM_cases hg with ⟨c', h2, K'⟩ | ⟨h2, hno⟩
    · rw [h1, h2]
      refine ⟨rfl, sameB_of fun x hx => ?_⟩
      obtain ⟨i, j, hi, hj, rfl⟩ := at_place hx
      refine eb_inj (ele_antisymm ?_ ?_)
      · exact (K'.iff K.closed.1).1 ((h _ K.closed.1).1 K.closed.2) i j hi hj
      · exact (K.iff K'.closed.1).1 ((h _ K'.closed.1).2 K'.closed.2) i j hi hj
    · exact absurd ((h _ K.closed.1).1 K.closed.2) (none_no hno K.closed.1)
  · rcases closeM_cases hg with ⟨c', h2, K'⟩ | ⟨h2, _⟩
    · exact absurd ((h _ K'.closed.1).2 K'.closed.2) (none_no hno K'.closed.1)
    · rw [h1, h2]; exact ⟨rfl, sameM_err 6 6⟩

/-- What a bound more gives. -/
theorem setM_cases (n : Int) (N : Nat) (f : Nat → Int) (i j b : Int) :
    (∃ e, setM n N f i j b = errM e ∧ (e = 2 ∨ e = 8)) ∨
    (∃ (m a c : Nat), n = (m : Int) ∧ N = m * m ∧ 1 ≤ m ∧ m ≤ 4 ∧ i = (a : Int) ∧ j = (c : Int) ∧ a < m ∧ c < m ∧ mayB b = true ∧ okD m (m * m) f = true ∧ setM n N f i j b = closeM m (m * m) (moreAt f (a * m + c) b)) := by
  unfold setM
  cases hok : okD n N f
  · exact .inl ⟨8, rfl, .inr rfl⟩
  · obtain ⟨m, rfl, rfl, hm0, hm4⟩ := okD_form hok
    rw [if_pos rfl]
    by_cases h : 0 ≤ i ∧ i < (m : Int) ∧ 0 ≤ j ∧ j < (m : Int)
    · rw [if_pos h]
      obtain ⟨h1, h2, h3, h4⟩ := h
      obtain ⟨a, rfl⟩ : ∃ a : Nat, i = (a : Int) := ⟨i.toNat, by omega⟩
      obtain ⟨c, rfl⟩ : ∃ c : Nat, j = (c : Int) := ⟨j.toNat, by omega⟩
      cases hb : mayB b
      · exact .inl ⟨8, rfl, .inr rfl⟩
      · refine .inr ⟨m, a, c, rfl, rfl, hm0, hm4, rfl, rfl, by omega, by omega, rfl, hok, ?_⟩
        rw [if_pos rfl, show ((a : Int) * (m : Int) + (c : Int)).toNat = a * m + c from by rw [show (a : Int) * (m : Int) + (c : Int) = ((a * m + c : Nat) : Int) from by push_cast; rfl]; rfl]
    · rw [if_neg h]; exact .inl ⟨2, rfl, .inl rfl⟩
theorem meetM_cases (n1 : Int) (N1 : Nat) (f1 : Nat → Int) (n2 : Int) (N2 : Nat) (f2 : Nat → Int) :
    (∃ e, meetM n1 N1 f1 n2 N2 f2 = errM e ∧ (e = 40 ∨ e = 8)) ∨
    (∃ m : Nat, n1 = (m : Int) ∧ n2 = (m : Int) ∧ N1 = m * m ∧ N2 = m * m ∧ 1 ≤ m ∧ m ≤ 4 ∧ okD m (m * m) f1 = true ∧ okD m (m * m) f2 = true ∧ meetM n1 N1 f1 n2 N2 f2 = closeM m (m * m) (lessF f1 f2)) := by
  unfold meetM
  cases h1 : okD n1 N1 f1
  · exact .inl ⟨8, rfl, .inr rfl⟩
  · cases h2 : okD n2 N2 f2
    · exact .inl ⟨8, rfl, .inr rfl⟩
    · obtain ⟨m, rfl, rfl, hm0, hm4⟩ := okD_form h1
      obtain ⟨k, rfl, rfl, _, _⟩ := okD_form h2
      by_cases e : (m : Int) = (k : Int)
      · obtain rfl : m = k := by omega
        exact .inr ⟨m, rfl, rfl, rfl, rfl, hm0, hm4, h1, h2, by simp⟩
      · exact .inl ⟨40, by simp [e], .inl rfl⟩
theorem lessF_comm (f g : Nat → Int) : lessF f g = lessF g f := by funext x; exact Int.min_comm _ _
theorem lessF_self (f : Nat → Int) : lessF f f = f := by funext x; exact Int.min_self _

/-- What two have in common is the same either way round. -/
theorem meetM_comm (n1 : Int) (N1 : Nat) (f1 : Nat → Int) (n2 : Int) (N2 : Nat) (f2 : Nat → Int) : meetM n1 N1 f1 n2 N2 f2 = meetM n2 N2 f2 n1 N1 f1 := by
  unfold meetM
  cases h1 : okD n1 N1 f1 <;> cases h2 : okD n2 N2 f2 <;> simp
  by_cases e : n1 = n2
  · subst e
    obtain ⟨m, rfl, rfl, _, _⟩ := okD_form h1
    obtain ⟨k, hk, rfl, _, _⟩ := okD_form h2
    obtain rfl : m = k := by omega
    rw [lessF_comm]
  · rw [if_neg e, if_neg (fun h => e h.symm)]
theorem meetM_self (n : Int) (N : Nat) (f : Nat → Int) : meetM n N f n N f = closeM n N f := by
  unfold meetM
  cases h1 : okD n N f
  · simp [closeM_bad h1]
  · simp [lessF_self]

/-- Which of two bounds more comes first turns nothing. -/
theorem set_order {n : Int} {N : Nat} {f : Nat → Int} {i j k x y : Int} {p q : MR} (hp : p = setM n N f i j x) (hq : q = setM n N f j k y) (ep : p.e = 0) (eq : q.e = 0) (op : okD p.n p.N p.f = true) (oq : okD q.n q.N q.f = true) :
    (setM p.n p.N p.f j k y).e = (setM q.n q.N q.f i j x).e ∧ sameM (setM p.n p.N p.f j k y) (setM q.n q.N q.f i j x) = true := by
  rcases setM_cases n N f i j x with ⟨e, h, he⟩ | ⟨m, a, b, rfl, rfl, hm0, hm4, rfl, rfl, ha, hb, hx, hf, h1⟩
  · rw [hp, h] at ep; rcases he with rfl | rfl <;> cases ep
  rcases setM_cases m (m * m) f b k y with ⟨e, h, he⟩ | ⟨m', b', c, hm', _, _, _, hb', rfl, _, hc, hy, _, h2⟩
  · rw [hq, h] at eq; rcases he with rfl | rfl <;> cases eq
  obtain rfl : m = m' := by omega
  obtain rfl : b = b' := by omega
  have o1 := okD_more (x := a * m + b) hf hx
  have o2 := okD_more (x := b * m + c) hf hy
  rcases closeM_cases o1 with ⟨c1, g1, K1⟩ | ⟨g1, _⟩
  · rcases closeM_cases o2 with ⟨c2, g2, K2⟩ | ⟨g2, _⟩
    · obtain rfl : p = ⟨m, m * m, c1, 0⟩ := by rw [hp, h1, g1]
      obtain rfl : q = ⟨m, m * m, c2, 0⟩ := by rw [hq, h2, g2]
      have s1 : setM m (m * m) c1 b c y = closeM m (m * m) (moreAt c1 (b * m + c) y) := by
        unfold setM
        rw [op, if_pos rfl, if_pos (by omega), hy, if_pos rfl, show ((b : Int) * (m : Int) + (c : Int)).toNat = b * m + c from by rw [show (b : Int) * (m : Int) + (c : Int) = ((b * m + c : Nat) : Int) from by push_cast; rfl]; rfl]
      have s2 : setM m (m * m) c2 a b x = closeM m (m * m) (moreAt c2 (a * m + b) x) := by
        unfold setM
        rw [oq, if_pos rfl, if_pos (by omega), hx, if_pos rfl, show ((a : Int) * (m : Int) + (b : Int)).toNat = a * m + b from by rw [show (a : Int) * (m : Int) + (b : Int) = ((a * m + b : Nat) : Int) from by push_cast; rfl]; rfl]
      show (setM m (m * m) c1 b c y).e = (setM m (m * m) c2 a b x).e ∧ _
      show _ ∧ sameM (setM m (m * m) c1 b c y) (setM m (m * m) c2 a b x) = true
      rw [s1, s2]
      refine closeM_eq (okD_more op hy) (okD_more oq hx) fun q hq => ?_
      rw [under_more hb hc (okD_le op) (mayB_le hy), under_more ha hb (okD_le oq) (mayB_le hx), ← K1.iff hq, ← K2.iff hq, under_more ha hb (okD_le hf) (mayB_le hx), under_more hb hc (okD_le hf) (mayB_le hy)]
      exact ⟨fun ⟨⟨h, g⟩, k⟩ => ⟨⟨h, k⟩, g⟩, fun ⟨⟨h, g⟩, k⟩ => ⟨⟨h, k⟩, g⟩⟩
    · rw [hq, h2, g2] at eq; cases eq
  · rw [hp, h1, g1] at ep; cases ep
#print axioms set_order
end Go.Proofs.YtpaomeilfmeheaaDoor

namespace Go.Proofs.YtpaomeilfmeheaaDoor
set_option linter.unusedSimpArgs false
set_option linter.unusedVariables false
open Go Go.RowKit

theorem keepsD_ok {n : Int} {N : Nat} {f : Nat → Int} {M : Nat} {T : Nat → Int × Int} {b : Bool} (h : keepsD n N f M T = (b, 0)) :
    ∃ m : Nat, n = (m : Int) ∧ N = m * m ∧ M + 1 = m ∧ m ≤ 4 ∧ okD m (m * m) f = true ∧ allRat M T = true ∧ b = keptAll m f T := by
  unfold keepsD at h
  cases h1 : okD n N f
  · rw [h1] at h; simp at h
  · cases h2 : allRat M T
    · rw [h1, h2] at h; simp at h
    · rw [h1, h2] at h
      obtain ⟨m, rfl, rfl, hm0, hm4⟩ := okD_form h1
      by_cases e : (M : Int) = (m : Int) - 1
      · rw [if_pos e] at h
        simp only [Bool.and_self, if_true, Prod.mk.injEq, and_true] at h
        exact ⟨m, rfl, rfl, by omega, hm4, h1, rfl, h.symm⟩
      · rw [if_neg e] at h; simp at h
theorem keepsD_of {m : Nat} {f : Nat → Int} {M : Nat} {T : Nat → Int × Int} (h : okD m (m * m) f = true) (hT : allRat M T = true) (hM : M + 1 = m) : keepsD m (m * m) f M T = (keptAll m f T, 0) := by
  have e : (M : Int) = (m : Int) - 1 := by omega
  unfold keepsD
  rw [h, hT]
  simp [e]
theorem kept_more {n a b : Nat} {f : Nat → Int} {x : Int} {T : Nat → Int × Int} (h : ∀ i, i < n → 0 < (tm T i).2) (ha : a < n) (hb : b < n) (hf : ∀ i j, i < n → j < n → f (i * n + j) ≤ noneB) (hx : x ≤ noneB) :
    keptAll n (moreAt f (a * n + b) x) T = (keptAll n f T && keptB (tm T a).1 (tm T a).2 (tm T b).1 (tm T b).2 x) := by
  rw [Bool.eq_iff_iff, Bool.and_eq_true, kept_under h, kept_under h, under_more ha hb hf hx, keptB_iff (h a ha) (h b hb)]
  exact Iff.rfl
theorem kept_less {n : Nat} {f g : Nat → Int} {T : Nat → Int × Int} (h : ∀ i, i < n → 0 < (tm T i).2) (hf : ∀ i j, i < n → j < n → f (i * n + j) ≤ noneB) (hg : ∀ i j, i < n → j < n → g (i * n + j) ≤ noneB) :
    keptAll n (lessF f g) T = (keptAll n f T && keptAll n g T) := by
  rw [Bool.eq_iff_iff, Bool.and_eq_true, kept_under h, kept_under h, kept_under h, under_less hf hg]
/-- Times keep the closed one just if they keep the matrix. -/
theorem kept_close {m : Nat} {f : Nat → Int} {M : Nat} {T : Nat → Int × Int} (hok : okD m (m * m) f = true) (hT : allRat M T = true) (hM : M + 1 = m) :
    ((closeM m (m * m) f).e = 6 ∧ keptAll m f T = false) ∨ ((closeM m (m * m) f).e = 0 ∧ (okD (closeM m (m * m) f).n (closeM m (m * m) f).N (closeM m (m * m) f).f = true → keepsD (closeM m (m * m) f).n (closeM m (m * m) f).N (closeM m (m * m) f).f M T = (keptAll m f T, 0))) := by
  have ht : ∀ i, i < m → 0 < (tm T i).2 := fun i hi => tm_pos hT i (by omega)
  rcases closeM_cases hok with ⟨c, h1, K⟩ | ⟨h1, hno⟩
  · rw [h1]
    refine .inr ⟨rfl, fun ho => ?_⟩
    show keepsD m (m * m) c M T = _
    rw [keepsD_of ho hT hM, kept_same ht K]
  · rw [h1]
    refine .inl ⟨rfl, ?_⟩
    cases hk : keptAll m f T
    · rfl
    · exact absurd ((kept_under ht).1 hk) (none_no hno (tmE_closed ht))

theorem set_kept {n : Int} {N : Nat} {f : Nat → Int} {i j x : Int} {M : Nat} {T : Nat → Int × Int} {one : Bool} {c : MR} (hc : c = setM n N f i j x) (h1 : keepsD n N f M T = (one, 0)) (he : c.e = 0 ∨ c.e = 6) :
    ∃ (a b : Nat) (so : Bool), i = (a : Int) ∧ j = (b : Int) ∧ a < M + 1 ∧ b < M + 1 ∧ keepsPR (tm T a).1 (tm T a).2 (tm T b).1 (tm T b).2 x = (so, 0) ∧ (c.e = 6 → (one && so) = false) ∧ (okD c.n c.N c.f = true → c.e = 0 → keepsD c.n c.N c.f M T = (one && so, 0)) := by
  obtain ⟨m, rfl, rfl, hM, hm4, hok, hT, hb⟩ := keepsD_ok h1
  rcases setM_cases m (m * m) f i j x with ⟨e, h, h2⟩ | ⟨m', a, b, hm', _, _, _, rfl, rfl, ha, hb', hx, hf, h2⟩
  · rw [hc, h] at he; simp only [errM] at he; omega
  obtain rfl : m = m' := by omega
  have ht : ∀ i, i < m → 0 < (tm T i).2 := fun i hi => tm_pos hT i (by omega)
  have km := kept_more ht ha hb' (okD_le hf) (mayB_le hx)
  have okt : ∀ i, i < m → okRat (tm T i).1 (tm T i).2 = true := by
    intro i hi
    cases i with
    | zero => exact (by decide : okRat 0 1 = true)
    | succ i => exact allRat_iff.1 hT i (by omega)
  have hxB : okB x = true := bd_okB (mayB_bd hx) (by omega)
  refine ⟨a, b, keptB (tm T a).1 (tm T a).2 (tm T b).1 (tm T b).2 x, rfl, rfl, by omega, by omega, by rw [keepsPR, okt a ha, okt b hb', hxB]; rfl, ?_, ?_⟩
  · intro h6
    rw [hc, h2] at h6
    rcases kept_close (okD_more (x := a * m + b) hf hx) hT hM with ⟨_, h⟩ | ⟨h, _⟩
    · rw [hb, ← km]; exact h
    · rw [h] at h6; cases h6
  · intro ho h0
    rw [hc, h2] at ho h0 ⊢
    rcases kept_close (okD_more (x := a * m + b) hf hx) hT hM with ⟨h, _⟩ | ⟨_, h⟩
    · rw [h] at h0; cases h0
    · rw [hb, ← km]; exact h ho
theorem meet_kept {n1 : Int} {N1 : Nat} {f1 : Nat → Int} {n2 : Int} {N2 : Nat} {f2 : Nat → Int} {M : Nat} {T : Nat → Int × Int} {one two : Bool} {c : MR} (hc : c = meetM n1 N1 f1 n2 N2 f2) (h1 : keepsD n1 N1 f1 M T = (one, 0)) (h2 : keepsD n2 N2 f2 M T = (two, 0)) :
    (c.e = 6 ∧ (one && two) = false) ∨ (c.e = 0 ∧ (okD c.n c.N c.f = true → keepsD c.n c.N c.f M T = (one && two, 0))) := by
  obtain ⟨m, rfl, rfl, hM, hm4, ok1, hT, hb⟩ := keepsD_ok h1
  obtain ⟨m', rfl, rfl, hM', _, ok2, _, hb2⟩ := keepsD_ok h2
  obtain rfl : m = m' := by omega
  have ht : ∀ i, i < m → 0 < (tm T i).2 := fun i hi => tm_pos hT i (by omega)
  have km := kept_less (f := f1) (g := f2) ht (okD_le ok1) (okD_le ok2)
  have hm : c = closeM m (m * m) (lessF f1 f2) := by rw [hc, meetM, ok1, ok2]; simp
  rw [hm, hb, hb2, ← km]
  exact kept_close (okD_less ok1 ok2) hT hM
#print axioms set_kept
#print axioms meet_kept
end Go.Proofs.YtpaomeilfmeheaaDoor

namespace Go.Proofs.YtpaomeilfmeheaaDoor
set_option linter.unusedSimpArgs false
set_option linter.unusedVariables false
open Go Go.RowKit

/-- Bounds of the call's own, or none. -/
def OwnP (w W : World) (p : Option Addr) (N : Nat) (f : Nat → Int) : Prop := N = 0 ∨ ∃ B, p = some ⟨B, 0, none⟩ ∧ w.heap.size ≤ B ∧ B < W.heap.size ∧ HoldsI W B N f
theorem OwnP.slp {w W : World} {p : Option Addr} {N : Nat} {f : Nat → Int} (h : OwnP w W p N f) : SlP W p N f := by
  rcases h with h | ⟨B, rfl, _, hB, hh⟩
  · exact .inl h
  · exact slp_of hh hB
/-- A result: a matrix and an error's number. -/
def matC (w : World) (n : Int) (N : Nat) (f : Nat → Int) (e0 : Int) (e : Ending) (W : World) : Prop :=
  (∃ p cap, e = .returned (.tuple #[.agg #[.int .i64 n, .slice p N cap], .int .i64 e0]) ∧ OwnP w W p N f) ∧ ∃ q, W = Wov w q
theorem matC_of_close {w W : World} {n : Int} {N : Nat} {r : Option (Nat → Int) × Int} {e : Ending} (h : closePost w n N r e W) : matC w (mR n N r).n (mR n N r).N (mR n N r).f (mR n N r).e e W := by
  obtain ⟨h, hq⟩ := h
  refine ⟨?_, hq⟩
  obtain ⟨r1, r2⟩ := r
  cases r1 with
  | none => exact ⟨none, 0, h, .inl rfl⟩
  | some c =>
    obtain ⟨B, cap, h1, h2, h3, h4⟩ := h
    exact ⟨_, cap, h1, .inr ⟨B, rfl, h2, h3, h4⟩⟩
theorem closeM_any (n : Int) (p : Option Addr) (N cap : Nat) (f : Nat → Int) (w : World) (hn : fits64 n) (hS : SlP w p N f) (hF : Fits N f) (hN : N ≤ 1000000) :
    Calls Tryd.prog 26 #[.agg #[.int .i64 n, .slice p N cap]] w (matC w (closeM n N f).n (closeM n N f).N (closeM n N f).f (closeM n N f).e) :=
  (close_any n p N cap f w hn hS hF hN).mono fun _ _ h => matC_of_close h
theorem matC_err {w W : World} {e0 : Int} {e : Ending} (he : e = .returned (.tuple #[.agg #[.int .i64 0, .slice none 0 0], .int .i64 e0])) (h : Below w.heap.size w W) : matC w (errM e0).n (errM e0).N (errM e0).f (errM e0).e e W :=
  ⟨⟨none, 0, he, .inl rfl⟩, Wov_of_below h⟩
/-- Behind another call, from an earlier world. -/
theorem matC.later {w0 w W : World} {n : Int} {N : Nat} {f : Nat → Int} {e0 : Int} {e : Ending} (h : matC w n N f e0 e W) (hb : Below w0.heap.size w0 w) : matC w0 n N f e0 e W := by
  obtain ⟨⟨p, cap, he, ho⟩, q, rfl⟩ := h
  refine ⟨⟨p, cap, he, ?_⟩, ?_⟩
  · rcases ho with ho | ⟨B, h1, h2, h3, h4⟩
    · exact .inl ho
    · exact .inr ⟨B, h1, by have := hb.size; omega, h3, h4⟩
  · exact Wov_of_below (hb.trans ((below_Wov w q).mono hb.size))

/-- What a result's numbers are. -/
structure MRok (r : MR) : Prop where
  n : fits64 r.n
  f : Fits r.N r.f
  N : r.N ≤ 16
theorem errM_ok (e : Int) : MRok (errM e) := ⟨by unfold errM fits64; simp, fun x hx => by simp [errM] at hx, by simp [errM]⟩
theorem closedI_fits {n : Nat} {f c : Nat → Int} (K : ClosedI n f c) : Fits (n * n) c := fun x hx => by
  obtain ⟨i, j, hi, hj, rfl⟩ := at_place hx
  rcases K.bound i j hi hj with h | h
  · rw [h]; unfold noneB fits64; omega
  · unfold bnum at h; unfold fits64; omega
theorem closeM_ok (n : Int) (N : Nat) (f : Nat → Int) : MRok (closeM n N f) := by
  cases hok : okD n N f
  · rw [closeM_bad hok]; exact errM_ok 8
  · obtain ⟨m, rfl, rfl, hm0, hm4⟩ := okD_form hok
    rcases closeM_cases hok with ⟨c, h, K⟩ | ⟨h, _⟩
    · rw [h]
      have : m * m ≤ 4 * 4 := Nat.mul_le_mul hm4 hm4
      exact ⟨by show fits64 (m : Int); unfold fits64; omega, closedI_fits K, this⟩
    · rw [h]; exact errM_ok 6
theorem setM_ok (n : Int) (N : Nat) (f : Nat → Int) (i j b : Int) : MRok (setM n N f i j b) := by
  rcases setM_cases n N f i j b with ⟨e, h, _⟩ | ⟨m, a, c, _, _, _, _, _, _, _, _, _, _, h⟩
  · rw [h]; exact errM_ok e
  · rw [h]; exact closeM_ok _ _ _
theorem meetM_ok (n1 : Int) (N1 : Nat) (f1 : Nat → Int) (n2 : Int) (N2 : Nat) (f2 : Nat → Int) : MRok (meetM n1 N1 f1 n2 N2 f2) := by
  rcases meetM_cases n1 N1 f1 n2 N2 f2 with ⟨e, h, _⟩ | ⟨m, _, _, _, _, _, _, _, _, h⟩
  · rw [h]; exact errM_ok e
  · rw [h]; exact closeM_ok _ _ _
theorem mayB_fits {x : Int} (h : mayB x = true) : fits64 x := by
  rcases mayB_bd h with h | h
  · rw [h]; unfold noneB fits64; omega
  · unfold bnum at h; unfold fits64; omega
end Go.Proofs.YtpaomeilfmeheaaDoor

namespace Go.Proofs.YtpaomeilfmeheaaDoor
set_option linter.unusedSimpArgs false
set_option linter.unusedVariables false
open Go Go.RowKit Go.Shelf
attribute [local go_sem] Nat.add_assoc Nat.add_lt_add_iff_left lit_lt_add

theorem OwnP.chg {w W W' : World} {p : Option Addr} {N B : Nat} {f : Nat → Int} (h : OwnP w W p N f) (hB : B < w.heap.size) (hg : Chg W B W') : OwnP w W' p N f := by
  rcases h with h | ⟨B2, h1, h2, h3, h4⟩
  · exact .inl h
  · exact .inr ⟨B2, h1, h2, Nat.lt_of_lt_of_le h3 hg.size, h4.of_block (hg.block B2 h3 (by omega))⟩
theorem OwnP.later {w w0 W : World} {p : Option Addr} {N : Nat} {f : Nat → Int} (h : OwnP w W p N f) (hw : w0.heap.size ≤ w.heap.size) : OwnP w0 W p N f :=
  h.imp id fun ⟨B, h1, h2, h3⟩ => ⟨B, h1, by omega, h3⟩

/-- The bounds of a list, laid one behind the other. -/
def foldT (f : Nat → Int) (T : Nat → Int × Int) : Nat → Nat → Int
  | 0 => f
  | k + 1 => moreAt (foldT f T k) (T k).1.toNat (T k).2
theorem fits_min {a b : Int} (h : fits64 a) (g : fits64 b) : fits64 (min a b) := by
  rcases Int.le_total a b with l | l
  · rw [Int.min_eq_left l]; exact h
  · rw [Int.min_eq_right l]; exact g

end Go.Proofs.YtpaomeilfmeheaaDoor

namespace Go.Proofs.YtpaomeilfmeheaaDoor
set_option linter.unusedSimpArgs false
set_option linter.unusedVariables false
open Go Go.RowKit Go.Shelf
attribute [local go_sem] Nat.add_assoc Nat.add_lt_add_iff_left lit_lt_add

theorem okD_one (b : Int) : okD 1 1 (fun _ => b) = mayB b := by simp [okD, allMay]

end Go.Proofs.YtpaomeilfmeheaaDoor

namespace Go.Proofs.YtpaomeilfmeheaaDoor
set_option linter.unusedSimpArgs false
set_option linter.unusedVariables false
open Go Go.RowKit Go.Shelf
attribute [local go_sem] Nat.add_assoc Nat.add_lt_add_iff_left lit_lt_add

theorem cell_two_new (w : World) (x y : Value) (t : TypeId) : ∀ j u, [x, y][j]? = some u → (w.alloc (.cells #[x, y] t)).cell? ((⟨w.heap.size, 0, none⟩ : Addr).add j) = some u := by
  intro j u hj
  rw [Addr.add_lit, Nat.zero_add]
  rcases j with _ | _ | j
  · cases hj; simp [go_sem]
  · cases hj; simp [go_sem]
  · simp at hj
theorem app2_below {W w1 : World} {base e k s : Nat} {v : Value} {xs : List Value} {tmp : Obj} (hrow : W.ownsRow base e s v k xs) (hb : base ≤ W.heap.size) (hgrow : (W.alloc tmp).grownBy w1 v.ownBlock) : Below base W w1 :=
  ((Below.refl base W).alloc hb tmp).grown hgrow (by simp; omega) (fun j ej => by
    rcases hrow.2 with ⟨rfl, _⟩ | ⟨g, cap, cur, rfl, hg, _⟩
    · simp [Value.ownBlock] at ej
    · obtain rfl : g = j := by simpa [Value.ownBlock] using ej
      exact hg)
theorem row2_set {W : World} {base e k s D x : Nat} {v v2 : Value} {xs : List Value} (hrow : W.ownsRow base e s v k xs) (hD : D < base) : (W.setCell ⟨D, x, none⟩ v2).ownsRow base e s v k xs := by
  refine hrow.kept (row := some D) ⟨rfl, rfl, rfl, by simp [World.setCell], fun j hj hne => Below.heap_setCell _ _ _ j (fun e => hne (by rw [e]))⟩ ?_
  rcases hrow.2 with ⟨rfl, _⟩ | ⟨g, cap, cur, rfl, hg, _⟩
  · exact .inl rfl
  · refine .inr fun e => ?_
    have : g = D := by simpa [Value.ownBlock] using e
    omega

theorem foldT_less {f g : Nat → Int} : ∀ k x, foldT f (fun x => ((x : Int), g x)) k x = if x < k then min (f x) (g x) else f x
  | 0, x => by simp [foldT]
  | k + 1, x => by
    show moreAt (foldT f (fun x => ((x : Int), g x)) k) ((k : Int)).toNat (g k) x = _
    rw [show ((k : Int)).toNat = k from rfl]
    unfold moreAt upd
    by_cases e : x = k
    · subst e
      rw [if_pos rfl, foldT_less x x, if_neg (by omega), if_pos (by omega)]
    · rw [if_neg e, foldT_less k x]
      by_cases h : x < k
      · rw [if_pos h, if_pos (by omega)]
      · rw [if_neg h, if_neg (by omega)]

end Go.Proofs.YtpaomeilfmeheaaDoor

namespace Go.Proofs.YtpaomeilfmeheaaDoor
set_option linter.unusedSimpArgs false
set_option linter.unusedVariables false
open Go Go.RowKit

def spanB (lo hi : Int) (hs op : Bool) : Bool := decide (-288230376151711744 ≤ lo) && (decide (lo ≤ 288230376151711744) && (decide (hi ≤ 288230376151711744) && (if op then decide (hi = 0) && !hs else decide (lo ≤ hi))))
def belowB (lo : Int) (ls : Bool) : Int := mkB (-lo) ls
def aboveB (hi : Int) (hs op : Bool) : Int := if op then noneB else mkB hi hs
def betweenM (n : Int) (N : Nat) (f : Nat → Int) (i lo : Int) (ls : Bool) (hi : Int) (hs op : Bool) : MR :=
  if okD n N f then (if 0 ≤ i ∧ i < n then (if spanB lo hi hs op then closeM n N (moreAt (moreAt f i.toNat (belowB lo ls)) (i * n).toNat (aboveB hi hs op)) else errM 8) else errM 2) else errM 8

theorem spanB_bd {lo hi : Int} {hs op : Bool} (h : spanB lo hi hs op = true) : -288230376151711744 ≤ lo ∧ lo ≤ 288230376151711744 ∧ hi ≤ 288230376151711744 ∧ (op = true → hi = 0 ∧ hs = false) ∧ (op = false → lo ≤ hi) := by
  unfold spanB at h
  cases op <;> cases hs <;> simp at h ⊢ <;> omega
theorem mkB_num (c : Int) (s : Bool) : bnum (mkB c s) = c := by unfold mkB bnum; split <;> omega
theorem mkB_str (c : Int) (s : Bool) : bstr (mkB c s) = s := by
  unfold mkB bstr
  cases s <;> simp <;> omega
theorem mkB_may {c : Int} {s : Bool} (h1 : -288230376151711744 ≤ c) (h2 : c ≤ 288230376151711744) : mayB (mkB c s) = true := bd_mayB (.inr (by rw [mkB_num]; exact ⟨h1, h2⟩))
theorem belowB_may {lo hi : Int} {ls hs op : Bool} (h : spanB lo hi hs op = true) : mayB (belowB lo ls) = true := by
  have := spanB_bd h
  exact mkB_may (by omega) (by omega)
theorem aboveB_may {lo hi : Int} {hs op : Bool} (h : spanB lo hi hs op = true) : mayB (aboveB hi hs op) = true := by
  have := spanB_bd h
  unfold aboveB
  cases op
  · exact mkB_may (by have := this.2.2.2.2 rfl; omega) (by omega)
  · rfl
theorem mkB_some {c : Int} {s : Bool} (h1 : -288230376151711744 ≤ c) (h2 : c ≤ 288230376151711744) : mkB c s ≠ noneB := by unfold mkB noneB; split <;> omega

theorem betweenM_cases (n : Int) (N : Nat) (f : Nat → Int) (i lo : Int) (ls : Bool) (hi : Int) (hs op : Bool) :
    (∃ e, betweenM n N f i lo ls hi hs op = errM e ∧ (e = 2 ∨ e = 8)) ∨
    (∃ m a : Nat, n = (m : Int) ∧ N = m * m ∧ 1 ≤ m ∧ m ≤ 4 ∧ i = (a : Int) ∧ a < m ∧ spanB lo hi hs op = true ∧ okD m (m * m) f = true ∧ betweenM n N f i lo ls hi hs op = closeM m (m * m) (moreAt (moreAt f (0 * m + a) (belowB lo ls)) (a * m + 0) (aboveB hi hs op))) := by
  unfold betweenM
  cases hok : okD n N f
  · exact .inl ⟨8, rfl, .inr rfl⟩
  · obtain ⟨m, rfl, rfl, hm0, hm4⟩ := okD_form hok
    rw [if_pos rfl]
    by_cases h : 0 ≤ i ∧ i < (m : Int)
    · rw [if_pos h]
      obtain ⟨h1, h2⟩ := h
      obtain ⟨a, rfl⟩ : ∃ a : Nat, i = (a : Int) := ⟨i.toNat, by omega⟩
      cases hb : spanB lo hi hs op
      · exact .inl ⟨8, rfl, .inr rfl⟩
      · refine .inr ⟨m, a, rfl, rfl, hm0, hm4, rfl, by omega, rfl, hok, ?_⟩
        rw [if_pos rfl, show ((a : Int) * (m : Int)).toNat = a * m + 0 from by rw [show (a : Int) * (m : Int) = ((a * m : Nat) : Int) from by push_cast; rfl]; rfl, show ((a : Int)).toNat = 0 * m + a from by rw [Nat.zero_mul, Nat.zero_add]; rfl]
    · rw [if_neg h]; exact .inl ⟨2, rfl, .inl rfl⟩
theorem betweenM_ok (n : Int) (N : Nat) (f : Nat → Int) (i lo : Int) (ls : Bool) (hi : Int) (hs op : Bool) : MRok (betweenM n N f i lo ls hi hs op) := by
  rcases betweenM_cases n N f i lo ls hi hs op with ⟨e, h, _⟩ | ⟨m, a, _, _, _, _, _, _, _, _, h⟩
  · rw [h]; exact errM_ok e
  · rw [h]; exact closeM_ok _ _ _

/-- Whether a time is above an end, below one. -/
def cmpIn (c : Int) (s : Bool) : Bool := decide (c < 0) || (decide (c = 0) && !s)
theorem kept_low {lo n2 d2 : Int} {ls : Bool} (h1 : -288230376151711744 ≤ lo) (h2 : lo ≤ 288230376151711744) : keptB 0 1 n2 d2 (belowB lo ls) = cmpIn (cmpR lo 1 n2 d2) ls := by
  unfold keptB cmpIn cmpR sgn3 belowB
  rw [decide_eq_false (mkB_some (by omega) (by omega)), mkB_num, mkB_str, Bool.false_or, Int.zero_mul, Int.one_mul, Int.mul_one, Int.neg_mul]
  obtain ⟨A, hA⟩ : ∃ A, A = lo * d2 := ⟨_, rfl⟩
  rw [← hA]
  rw [Bool.eq_iff_iff]
  simp only [Bool.or_eq_true, Bool.and_eq_true, decide_eq_true_eq]
  (repeat' split) <;> cases ls <;> simp <;> omega
theorem kept_high {hi n1 d1 : Int} {hs : Bool} (h1 : -288230376151711744 ≤ hi) (h2 : hi ≤ 288230376151711744) : keptB n1 d1 0 1 (mkB hi hs) = cmpIn (cmpR n1 d1 hi 1) hs := by
  unfold keptB cmpIn cmpR sgn3
  rw [decide_eq_false (mkB_some (by omega) (by omega)), mkB_num, mkB_str, Bool.false_or, Int.zero_mul, Int.mul_one, Int.mul_one]
  obtain ⟨A, hA⟩ : ∃ A, A = hi * d1 := ⟨_, rfl⟩
  rw [← hA]
  rw [Bool.eq_iff_iff]
  simp only [Bool.or_eq_true, Bool.and_eq_true, decide_eq_true_eq]
  (repeat' split) <;> cases hs <;> simp <;> omega
theorem kept_open (n1 d1 n2 d2 : Int) : keptB n1 d1 n2 d2 noneB = true := by unfold keptB; simp

/-- Is a time (of a clock) in a span, as the law asks it. -/
def inSpan (lo : Int) (ls : Bool) (hi : Int) (hs op : Bool) (t : Int × Int) : Bool := cmpIn (cmpR lo 1 t.1 t.2) ls && (op || cmpIn (cmpR t.1 t.2 hi 1) hs)

theorem span_kept {n : Int} {N : Nat} {f : Nat → Int} {i lo hi : Int} {ls hs op : Bool} {M : Nat} {T : Nat → Int × Int} {one : Bool} {c : MR} (hc : c = betweenM n N f i lo ls hi hs op) (h1 : keepsD n N f M T = (one, 0)) (he : c.e = 0 ∨ c.e = 6) :
    ∃ a : Nat, i = (a : Int) ∧ a < M + 1 ∧ spanB lo hi hs op = true ∧ okRat (tm T a).1 (tm T a).2 = true ∧ (c.e = 6 → (one && inSpan lo ls hi hs op (tm T a)) = false) ∧ (okD c.n c.N c.f = true → c.e = 0 → keepsD c.n c.N c.f M T = (one && inSpan lo ls hi hs op (tm T a), 0)) := by
  obtain ⟨m, rfl, rfl, hM, hm4, hok, hT, hb⟩ := keepsD_ok h1
  rcases betweenM_cases m (m * m) f i lo ls hi hs op with ⟨e, h, h2⟩ | ⟨m', a, hm', _, hm0, _, rfl, ha, hs', hf, h2⟩
  · rw [hc, h] at he; simp only [errM] at he; omega
  obtain rfl : m = m' := by omega
  have ht : ∀ i, i < m → 0 < (tm T i).2 := fun i hi => tm_pos hT i (by omega)
  have okt : okRat (tm T a).1 (tm T a).2 = true := by
    cases a with
    | zero => exact (by decide : okRat 0 1 = true)
    | succ i => exact allRat_iff.1 hT i (by omega)
  have ob := belowB_may (ls := ls) hs'
  have oa := aboveB_may hs'
  have o1 := okD_more (x := 0 * m + a) hf ob
  have o2 := okD_more (x := a * m + 0) o1 oa
  have k1 := kept_more ht hm0 ha (okD_le hf) (mayB_le ob)
  have k2 := kept_more (f := moreAt f (0 * m + a) (belowB lo ls)) ht ha hm0 (okD_le o1) (mayB_le oa)
  obtain ⟨b1, b2, b3, b4, b5⟩ := spanB_bd hs'
  have e0 : tm T 0 = (0, 1) := rfl
  have hk : keptAll m (moreAt (moreAt f (0 * m + a) (belowB lo ls)) (a * m + 0) (aboveB hi hs op)) T = (one && inSpan lo ls hi hs op (tm T a)) := by
    rw [k2, k1, e0, kept_low b1 b2, hb, Bool.and_assoc]
    congr 1
    unfold inSpan aboveB
    congr 1
    cases op
    · exact kept_high (by have := b5 rfl; omega) b3
    · exact kept_open _ _ _ _
  refine ⟨a, rfl, by omega, hs', okt, ?_, ?_⟩
  · intro h6
    rw [hc, h2] at h6
    rcases kept_close o2 hT hM with ⟨_, h⟩ | ⟨h, _⟩
    · rw [← hk]; exact h
    · rw [h] at h6; cases h6
  · intro ho h0
    rw [hc, h2] at ho h0 ⊢
    rcases kept_close o2 hT hM with ⟨h, _⟩ | ⟨_, h⟩
    · rw [h] at h0; cases h0
    · rw [← hk]; exact h ho
#print axioms span_kept
end Go.Proofs.YtpaomeilfmeheaaDoor

namespace Go.Proofs.YtpaomeilfmeheaaDoor
set_option linter.unusedSimpArgs false
set_option linter.unusedVariables false
open Go Go.RowKit Go.Shelf
attribute [local go_sem] Nat.add_assoc Nat.add_lt_add_iff_left lit_lt_add

theorem madeR_ok {c : Int} {s : Bool} (h1 : -288230376151711744 ≤ c) (h2 : c ≤ 288230376151711744) : (madeR c s).1 = mkB c s := by
  have : okN c = true := by unfold okN; simp; omega
  rw [madeR, if_pos this]
def sidesPost (w : World) (lo : Int) (ls : Bool) (hi : Int) (hs op : Bool) (e : Ending) (W : World) : Prop :=
  ∃ a b, e = .returned (.tuple #[.int .i64 a, .int .i64 b, .bool (spanB lo hi hs op)]) ∧ (spanB lo hi hs op = true → a = belowB lo ls ∧ b = aboveB hi hs op) ∧ ∃ q, W = Wov w q

theorem cell_four_new (w : World) (a b c d : Value) (t : TypeId) : (w.alloc (.cells #[a, b, c, d] t)).cell? ⟨w.heap.size, 0, none⟩ = some a ∧ (w.alloc (.cells #[a, b, c, d] t)).cell? ⟨w.heap.size, 1, none⟩ = some b ∧ (w.alloc (.cells #[a, b, c, d] t)).cell? ⟨w.heap.size, 2, none⟩ = some c ∧ (w.alloc (.cells #[a, b, c, d] t)).cell? ⟨w.heap.size, 3, none⟩ = some d := by
  simp [go_sem]

end Go.Proofs.YtpaomeilfmeheaaDoor

namespace Go.Proofs.YtpaomeilfmeheaaDoor
set_option linter.unusedSimpArgs false
set_option linter.unusedVariables false
open Go Go.RowKit

/-- A matrix in a variable of its own: block A. -/
structure BoxM (W : World) (A : Nat) (n : Int) (p : Option Addr) (N cap : Nat) (f : Nat → Int) : Prop where
  lt : A < W.heap.size
  c0 : W.cell? ⟨A, 0, none⟩ = some (.int .i64 n)
  c1 : W.cell? ⟨A, 1, none⟩ = some (.slice p N cap)
  sl : SlP W p N f
theorem BoxM.below {W W' : World} {A : Nat} {n : Int} {p : Option Addr} {N cap : Nat} {f : Nat → Int} (h : BoxM W A n p N cap f) (hb : Below W.heap.size W W') : BoxM W' A n p N cap f :=
  ⟨Nat.lt_of_lt_of_le h.lt hb.size, (hb.cell (p := ⟨A, 0, none⟩) h.lt).trans h.c0, (hb.cell (p := ⟨A, 1, none⟩) h.lt).trans h.c1, h.sl.below hb⟩
theorem BoxM.new {W : World} {A : Nat} {n : Int} {p : Option Addr} {N cap : Nat} {f : Nat → Int} {t : TypeId} (h : SlP W p N f) (hA : A = W.heap.size) : BoxM (W.alloc (.cells #[.int .i64 n, .slice p N cap] t)) A n p N cap f := by
  subst hA
  exact ⟨by simp, by simp [go_sem], by simp [go_sem], h.below ((Below.refl _ _).alloc (Nat.le_refl _) _)⟩
end Go.Proofs.YtpaomeilfmeheaaDoor

namespace Go.Proofs.YtpaomeilfmeheaaDoor
set_option linter.unusedSimpArgs false
set_option linter.unusedVariables false
open Go Go.RowKit Go.Shelf
attribute [local go_sem] Nat.add_assoc Nat.add_lt_add_iff_left lit_lt_add

theorem slR_of {W : World} {B M : Nat} {T : Nat → Int × Int} (h : HoldsR W B M T) (hB : B < W.heap.size) : SlR W (some ⟨B, 0, none⟩) M T := .inr ⟨B, 0, rfl, hB, fun x hx => by rw [Nat.zero_add, Nat.zero_add]; exact h x hx⟩

/-- A span in a variable of its own. -/
structure BoxS (W : World) (A : Nat) (lo : Int) (ls : Bool) (hi : Int) (hs op : Bool) : Prop where
  lt : A < W.heap.size
  c0 : W.cell? ⟨A, 0, none⟩ = some (.int .i64 lo)
  c1 : W.cell? ⟨A, 1, none⟩ = some (.bool ls)
  c2 : W.cell? ⟨A, 2, none⟩ = some (.int .i64 hi)
  c3 : W.cell? ⟨A, 3, none⟩ = some (.bool hs)
  c4 : W.cell? ⟨A, 4, none⟩ = some (.bool op)
theorem BoxS.below {W W' : World} {A : Nat} {lo : Int} {ls : Bool} {hi : Int} {hs op : Bool} (h : BoxS W A lo ls hi hs op) (hb : Below W.heap.size W W') : BoxS W' A lo ls hi hs op :=
  ⟨Nat.lt_of_lt_of_le h.lt hb.size, (hb.cell (p := ⟨A, 0, none⟩) h.lt).trans h.c0, (hb.cell (p := ⟨A, 1, none⟩) h.lt).trans h.c1, (hb.cell (p := ⟨A, 2, none⟩) h.lt).trans h.c2, (hb.cell (p := ⟨A, 3, none⟩) h.lt).trans h.c3, (hb.cell (p := ⟨A, 4, none⟩) h.lt).trans h.c4⟩
theorem BoxS.new {W : World} {A : Nat} {lo : Int} {ls : Bool} {hi : Int} {hs op : Bool} {t : TypeId} (hA : A = W.heap.size) : BoxS (W.alloc (.cells #[.int .i64 lo, .bool ls, .int .i64 hi, .bool hs, .bool op] t)) A lo ls hi hs op := by
  subst hA
  exact ⟨by simp, by simp [go_sem], by simp [go_sem], by simp [go_sem], by simp [go_sem], by simp [go_sem]⟩
/-- A fraction in a variable of its own. -/
structure BoxR (W : World) (A : Nat) (a b : Int) : Prop where
  lt : A < W.heap.size
  c0 : W.cell? ⟨A, 0, none⟩ = some (.int .i64 a)
  c1 : W.cell? ⟨A, 1, none⟩ = some (.int .i64 b)
theorem BoxR.below {W W' : World} {A : Nat} {a b : Int} (h : BoxR W A a b) (hb : Below W.heap.size W W') : BoxR W' A a b :=
  ⟨Nat.lt_of_lt_of_le h.lt hb.size, (hb.cell (p := ⟨A, 0, none⟩) h.lt).trans h.c0, (hb.cell (p := ⟨A, 1, none⟩) h.lt).trans h.c1⟩
theorem BoxR.new {W : World} {A : Nat} {a b : Int} {t : TypeId} (hA : A = W.heap.size) : BoxR (W.alloc (.cells #[.int .i64 a, .int .i64 b] t)) A a b := by
  subst hA
  exact ⟨by simp, by simp [go_sem], by simp [go_sem]⟩
end Go.Proofs.YtpaomeilfmeheaaDoor

namespace Go.Proofs.YtpaomeilfmeheaaDoor
open Go.ChangeShapes Go.WideShapes Go.ChangeAt Go.RowKit Go.Joins Go.Deep
set_option linter.unusedSimpArgs false
set_option linter.unusedVariables false
set_option maxRecDepth 10000

theorem array5 {α : Type} {cs : Array α} (h : cs.size = 5) : ∃ c0 c1 c2 c3 c4, cs = #[c0, c1, c2, c3, c4] := by
  obtain ⟨l⟩ := cs
  match l, h with
  | [c0, c1, c2, c3, c4], _ => exact ⟨c0, c1, c2, c3, c4, rfl⟩
section
variable {H : Type} {enc : TypeId × Value → H} {P : Program} {w : World} {base : Nat} {spare : Nat → Bool} {held : Bool}
theorem trod_struct5 {t : TypeId} {f0 f1 f2 f3 f4 : Field} {fuel : Nat} {cs : List Value} {x : DataW H × List MemPlace} (ht : P.underlying t = some (.struct #[f0, f1, f2, f3, f4])) (h : DataW.trod enc P w base spare held fuel t cs = some x) :
    ∃ y0 y1 y2 y3 y4 n, DataW.trod enc P w base spare held n f0.type ((cs.drop f0.offset).take (P.cellsOf f0.type)) = some y0 ∧
      DataW.trod enc P w base spare held n f1.type ((cs.drop f1.offset).take (P.cellsOf f1.type)) = some y1 ∧ DataW.trod enc P w base spare held n f2.type ((cs.drop f2.offset).take (P.cellsOf f2.type)) = some y2 ∧
      DataW.trod enc P w base spare held n f3.type ((cs.drop f3.offset).take (P.cellsOf f3.type)) = some y3 ∧ DataW.trod enc P w base spare held n f4.type ((cs.drop f4.offset).take (P.cellsOf f4.type)) = some y4 := by
  obtain ⟨xs, n, _, rfl, hl, hlen, hf⟩ := DataW.trod_struct ht h
  match xs, hlen with
  | [y0, y1, y2, y3, y4], _ => exact ⟨y0, y1, y2, y3, y4, n, by simpa using hf 0 f0 rfl, by simpa using hf 1 f1 rfl, by simpa using hf 2 f2 rfl, by simpa using hf 3 f3 rfl, by simpa using hf 4 f4 rfl⟩
theorem open_agg5 {r : Reach} {b0 : Nat} {t : TypeId} {f0 f1 f2 f3 f4 : Field} {v : Value} {d : DataW H} {p : List MemPlace} (hs : P.underlying t = some (.struct #[f0, f1, f2, f3, f4])) (hone : oneCellFields P #[f0, f1, f2, f3, f4] = true) (hC : P.cellsOf t = 5)
    (hv : Value.okWide P w r b0 t v) (h : DataW.Trod enc P w base spare held t v d p) :
    ∃ (v0 v1 v2 v3 v4 : Value) (y0 y1 y2 y3 y4 : DataW H × List MemPlace) (n : Nat), v = .agg #[v0, v1, v2, v3, v4] ∧
      DataW.trod enc P w base spare held n f0.type [v0] = some y0 ∧ DataW.trod enc P w base spare held n f1.type [v1] = some y1 ∧ DataW.trod enc P w base spare held n f2.type [v2] = some y2 ∧ DataW.trod enc P w base spare held n f3.type [v3] = some y3 ∧ DataW.trod enc P w base spare held n f4.type [v4] = some y4 := by
  obtain ⟨cs, rfl, hsz⟩ := okWide_struct hs hv
  obtain ⟨c0, c1, c2, c3, c4, rfl⟩ := array5 (hsz.trans hC)
  obtain ⟨fuel, hf⟩ := h
  obtain ⟨y0, y1, y2, y3, y4, n, h0, h1, h2, h3, h4⟩ := trod_struct5 hs hf
  obtain ⟨o0, k0⟩ := hone_of hone 0 f0 rfl
  obtain ⟨o1, k1⟩ := hone_of hone 1 f1 rfl
  obtain ⟨o2, k2⟩ := hone_of hone 2 f2 rfl
  obtain ⟨o3, k3⟩ := hone_of hone 3 f3 rfl
  obtain ⟨o4, k4⟩ := hone_of hone 4 f4 rfl
  exact ⟨c0, c1, c2, c3, c4, y0, y1, y2, y3, y4, n, rfl, by simpa [Value.cells, o0, k0] using h0, by simpa [Value.cells, o1, k1] using h1, by simpa [Value.cells, o2, k2] using h2, by simpa [Value.cells, o3, k3] using h3, by simpa [Value.cells, o4, k4] using h4⟩
end
end Go.Proofs.YtpaomeilfmeheaaDoor
