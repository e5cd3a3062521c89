/- Plain laws of matrices with bounds more, and of what two have in common. No condition. Plain laws: times keep what has a bound more just if they keep both. No condition. A matrix and an error's number as a call's result; what is known of results. No condition. Contract of tight.with: a matrix with bounds more, closed. Contracts of tight's fits, clock and Set. Contract of tight.Meet: what two matrices have in common. Plain laws: a matrix with a clock in a span. No condition. Contracts of tight's of, sides and Between: a matrix with a clock in a span. A boxed matrix, kept while the world grows. No condition. The list of all times, laid in a plain walk; boxed spans. No condition. Opening a span among a law's arguments. No condition. -/
import Derived.Test.YtpmpapenjcemjaaGreatDoorMC
import Derived.Test.YtpmpapenjcemjaaGreatDoorMK
import Derived.Test.YtpmpapenjcemjaaGreatDoorFrame2
namespace Go.Proofs.YtpmpapenjcemjaaGreatDoor
set_option linter.unusedSimpArgs false
set_option linter.unusedVariables false
open Go Go.RowKit

def moreAt (f : Nat → Int) (x : Nat) (b : Int) : Nat → Int := upd f x (min (f x) b)
def lessF (f g : Nat → Int) : Nat → Int := fun x => min (f x) (g x)
/-- A matrix and an error's number. -/
structure MR where
  n : Int
  N : Nat
  f : Nat → Int
  e : Int
def errM (e : Int) : MR := ⟨0, 0, fun _ => 0, e⟩
def mR (n : Int) (N : Nat) (r : Option (Nat → Int) × Int) : MR := match r.1 with
  | none => errM r.2
  | some c => ⟨n, N, c, r.2⟩
def closeM (n : Int) (N : Nat) (f : Nat → Int) : MR := mR n N (closeR n N f)
def setM (n : Int) (N : Nat) (f : Nat → Int) (i j b : Int) : MR :=
  if okD n N f then (if 0 ≤ i ∧ i < n ∧ 0 ≤ j ∧ j < n then (if mayB b then closeM n N (moreAt f (i * n + j).toNat b) else errM 8) else errM 2) else errM 8
def meetM (n1 : Int) (N1 : Nat) (f1 : Nat → Int) (n2 : Int) (N2 : Nat) (f2 : Nat → Int) : MR :=
  if okD n1 N1 f1 && okD n2 N2 f2 then (if n1 = n2 then closeM n1 N1 (lessF f1 f2) else errM 40) else errM 8
def sameM (a b : MR) : Bool := sameB a.n a.N a.f b.n b.N b.f

theorem mayB_le {x : Int} (h : mayB x = true) : x ≤ noneB := by
  rcases mayB_bd h with h | h
  · omega
  · unfold bnum at h; unfold noneB; omega
theorem mayB_min {x y : Int} (h : mayB x = true) (g : mayB y = true) : mayB (min x y) = true := by
  rcases Int.le_total x y with l | l
  · rw [Int.min_eq_left l]; exact h
  · rw [Int.min_eq_right l]; exact g
theorem ele_min {x : EB} {u v : Int} (hu : u ≤ noneB) (hv : v ≤ noneB) : ele x (eb (min u v)) ↔ ele x (eb u) ∧ ele x (eb v) := by
  have mono : ∀ {a b : Int}, a ≤ b → b ≤ noneB → ele x (eb a) → ele x (eb b) := by
    intro a b hab hb h
    unfold eb at h ⊢
    by_cases e : b = noneB
    · rw [if_pos e]; exact ele_none x
    · rw [if_neg e]
      rw [if_neg (by omega)] at h
      exact ele_trans h hab
  rcases Int.le_total u v with l | l
  · rw [Int.min_eq_left l]
    exact ⟨fun h => ⟨h, mono l hv h⟩, fun h => h.1⟩
  · rw [Int.min_eq_right l]
    exact ⟨fun h => ⟨mono l hu h, h⟩, fun h => h.2⟩

theorem under_more {n a b : Nat} {f : Nat → Int} {v : Int} {q : Nat → Nat → EB} (ha : a < n) (hb : b < n) (hf : ∀ i j, i < n → j < n → f (i * n + j) ≤ noneB) (hv : v ≤ noneB) :
    Under n q (mE n (moreAt f (a * n + b) v)) ↔ Under n q (mE n f) ∧ ele (q a b) (eb v) := by
  have pt : ∀ i j, i < n → j < n → mE n (moreAt f (a * n + b) v) i j = if i = a ∧ j = b then eb (min (f (a * n + b)) v) else mE n f i j := by
    intro i j hi hj
    unfold mE moreAt upd
    by_cases e : i * n + j = a * n + b
    · obtain ⟨rfl, rfl⟩ := place_inj hj hb e
      rw [if_pos rfl, if_pos ⟨rfl, rfl⟩]
    · rw [if_neg e, if_neg (fun ⟨h, g⟩ => e (by rw [h, g]))]
  constructor
  · intro h
    have hab := h a b ha hb
    rw [pt a b ha hb, if_pos ⟨rfl, rfl⟩, ele_min (hf a b ha hb) hv] at hab
    refine ⟨fun i j hi hj => ?_, hab.2⟩
    have := h i j hi hj
    rw [pt i j hi hj] at this
    split at this
    · rename_i e; obtain ⟨rfl, rfl⟩ := e; exact hab.1
    · exact this
  · rintro ⟨h, g⟩ i j hi hj
    rw [pt i j hi hj]
    split
    · rename_i e; obtain ⟨rfl, rfl⟩ := e
      exact (ele_min (hf i j hi hj) hv).2 ⟨h i j hi hj, g⟩
    · exact h i j hi hj
theorem under_less {n : Nat} {f g : Nat → Int} {q : Nat → Nat → EB} (hf : ∀ i j, i < n → j < n → f (i * n + j) ≤ noneB) (hg : ∀ i j, i < n → j < n → g (i * n + j) ≤ noneB) :
    Under n q (mE n (lessF f g)) ↔ Under n q (mE n f) ∧ Under n q (mE n g) := by
  constructor
  · intro h
    exact ⟨fun i j hi hj => ((ele_min (hf i j hi hj) (hg i j hi hj)).1 (h i j hi hj)).1, fun i j hi hj => ((ele_min (hf i j hi hj) (hg i j hi hj)).1 (h i j hi hj)).2⟩
  · rintro ⟨h, k⟩ i j hi hj
    exact (ele_min (hf i j hi hj) (hg i j hi hj)).2 ⟨h i j hi hj, k i j hi hj⟩

theorem okD_le {n : Nat} {f : Nat → Int} (h : okD n (n * n) f = true) : ∀ i j, i < n → j < n → f (i * n + j) ≤ noneB := fun i j hi hj => mayB_le (bd_mayB ((okD_bd h).2.2 i j hi hj))
theorem okD_may {n : Int} {N : Nat} {f : Nat → Int} (h : okD n N f = true) : ∀ x, x < N → mayB (f x) = true := by
  simp only [okD, Bool.and_eq_true, decide_eq_true_eq] at h
  exact allMay_iff.1 h.2.2.2
theorem okD_of {n : Int} {N : Nat} {f g : Nat → Int} (h : okD n N f = true) (hg : ∀ x, x < N → mayB (g x) = true) : okD n N g = true := by
  simp only [okD, Bool.and_eq_true, decide_eq_true_eq] at h ⊢
  exact ⟨h.1, h.2.1, h.2.2.1, allMay_iff.2 hg⟩
theorem okD_more {n : Int} {N : Nat} {f : Nat → Int} {x : Nat} {v : Int} (h : okD n N f = true) (hv : mayB v = true) : okD n N (moreAt f x v) = true := by
  refine okD_of h fun y hy => ?_
  unfold moreAt upd
  split
  · rename_i e; subst e; exact mayB_min (okD_may h _ hy) hv
  · exact okD_may h _ hy
theorem okD_less {n : Int} {N : Nat} {f g : Nat → Int} (h : okD n N f = true) (hg : okD n N g = true) : okD n N (lessF f g) = true :=
  okD_of h fun y hy => mayB_min (okD_may h _ hy) (okD_may hg _ hy)

/-- What closing gives. -/
theorem closeM_cases {n : Nat} {f : Nat → Int} (hok : okD n (n * n) f = true) :
    (∃ c, closeM n (n * n) f = ⟨n, n * n, c, 0⟩ ∧ ClosedI n f c) ∨ (closeM n (n * n) f = errM 6 ∧ closeE n (mE n f) = none) := by
  obtain ⟨h1, h2, hb⟩ := okD_bd hok
  cases hc : closeI n f with
  | none =>
    right
    refine ⟨?_, close_none h2 hb hc⟩
    unfold closeM closeR
    rw [hok, if_pos rfl, show ((n : Int)).toNat = n from rfl, hc]; rfl
  | some c =>
    left
    refine ⟨c, ?_, close_facts h1 h2 hb hc⟩
    unfold closeM closeR
    rw [hok, if_pos rfl, show ((n : Int)).toNat = n from rfl, hc]; rfl
theorem closeM_bad {n : Int} {N : Nat} {f : Nat → Int} (hok : okD n N f = false) : closeM n N f = errM 8 := by
  unfold closeM closeR; rw [hok]; rfl
/-- What is closed and under a matrix is under its closed one, and the other way round. -/
theorem ClosedI.iff {n : Nat} {f c : Nat → Int} (h : ClosedI n f c) {q : Nat → Nat → EB} (hq : Closed n q) : Under n q (mE n f) ↔ Under n q (mE n c) := by
  obtain ⟨e, he, hce⟩ := h.ex
  constructor
  · intro hu
    obtain ⟨c', h1, h2⟩ := closeE_greatest hq hu
    rw [he] at h1; cases h1
    intro i j hi hj
    show ele _ (eb (c (i * n + j)))
    rw [hce i j hi hj]; exact h2 i j hi hj
  · exact fun hu => under_trans hu h.closed.2
theorem none_no {n : Nat} {d q : Nat → Nat → EB} (h : closeE n d = none) (hq : Closed n q) : ¬ Under n q d := fun hu => by
  obtain ⟨c, hc, _⟩ := closeE_greatest hq hu
  rw [h] at hc; cases hc
theorem ClosedI.pt {n : Nat} {f c : Nat → Int} {e : Nat → Nat → EB} (h : ClosedI n f c) (hE : Closed n e) (h1 : Under n e (mE n f)) (h2 : ∀ q, Closed n q → Under n q (mE n f) → Under n q e) : ∀ i j, i < n → j < n → eb (c (i * n + j)) = e i j := fun i j hi hj =>
  ele_antisymm (h2 _ h.closed.1 h.closed.2 i j hi hj) ((h.iff hE).1 h1 i j hi hj)

theorem sameB_of {n : Int} {N : Nat} {f g : Nat → Int} (h : ∀ x, x < N → f x = g x) : sameB n N f n N g = true := by
  simp only [sameB, decide_true, Bool.true_and]
  exact eqB_t h
theorem sameM_err (e e' : Int) : sameM (errM e) (errM e') = true := sameB_of fun x hx => by simp [errM] at hx
theorem sameM_refl (a : MR) : sameM a a = true := sameB_of fun x _ => rfl

/-- Matrices with the same closed ones under them have the same closed one. -/
theorem closeM_eq {n : Nat} {f g : Nat → Int} (hf : okD n (n * n) f = true) (hg : okD n (n * n) g = true) (h : ∀ q, Closed n q → (Under n q (mE n f) ↔ Under n q (mE n g))) :
    (closeM n (n * n) f).e = (closeM n (n * n) g).e ∧ sameM (closeM n (n * n) f) (closeM n (n * n) g) = true := by
  rcases closeM_cases hf with ⟨c, h1, K⟩ | ⟨h1, hno⟩
  · rcases closeM_cases hg with ⟨c', h2, K'⟩ | ⟨h2, hno⟩
    · rw [h1, h2]
      refine ⟨rfl, sameB_of fun x hx => ?_⟩
      obtain ⟨i, j, hi, hj, rfl⟩ := at_place hx
      refine eb_inj (ele_antisymm ?_ ?_)
      · exact (K'.iff K.closed.1).1 ((h _ K.closed.1).1 K.closed.2) i j hi hj
      · exact (K.iff K'.closed.1).1 ((h _ K'.closed.1).2 K'.closed.2) i j hi hj
    · exact absurd ((h _ K.closed.1).1 K.closed.2) (none_no hno K.closed.1)
  · rcases closeM_cases hg with ⟨c', h2, K'⟩ | ⟨h2, _⟩
    · exact absurd ((h _ K'.closed.1).2 K'.closed.2) (none_no hno K'.closed.1)
    · rw [h1, h2]; exact ⟨rfl, sameM_err 6 6⟩

/-- What a bound more gives. -/
theorem setM_cases (n : Int) (N : Nat) (f : Nat → Int) (i j b : Int) :
    (∃ e, setM n N f i j b = errM e ∧ (e = 2 ∨ e = 8)) ∨
    (∃ (m a c : Nat), n = (m : Int) ∧ N = m * m ∧ 1 ≤ m ∧ m ≤ 4 ∧ i = (a : Int) ∧ j = (c : Int) ∧ a < m ∧ c < m ∧ mayB b = true ∧ okD m (m * m) f = true ∧ setM n N f i j b = closeM m (m * m) (moreAt f (a * m + c) b)) := by
  unfold setM
  cases hok : okD n N f
  · exact .inl ⟨8, rfl, .inr rfl⟩
  · obtain ⟨m, rfl, rfl, hm0, hm4⟩ := okD_form hok
    rw [if_pos rfl]
    by_cases h : 0 ≤ i ∧ i < (m : Int) ∧ 0 ≤ j ∧ j < (m : Int)
    · rw [if_pos h]
      obtain ⟨h1, h2, h3, h4⟩ := h
      obtain ⟨a, rfl⟩ : ∃ a : Nat, i = (a : Int) := ⟨i.toNat, by omega⟩
      obtain ⟨c, rfl⟩ : ∃ c : Nat, j = (c : Int) := ⟨j.toNat, by omega⟩
      cases hb : mayB b
      · exact .inl ⟨8, rfl, .inr rfl⟩
      · refine .inr ⟨m, a, c, rfl, rfl, hm0, hm4, rfl, rfl, by omega, by omega, rfl, hok, ?_⟩
        rw [if_pos rfl, show ((a : Int) * (m : Int) + (c : Int)).toNat = a * m + c from by rw [show (a : Int) * (m : Int) + (c : Int) = ((a * m + c : Nat) : Int) from by push_cast; rfl]; rfl]
    · rw [if_neg h]; exact .inl ⟨2, rfl, .inl rfl⟩
theorem meetM_cases (n1 : Int) (N1 : Nat) (f1 : Nat → Int) (n2 : Int) (N2 : Nat) (f2 : Nat → Int) :
    (∃ e, meetM n1 N1 f1 n2 N2 f2 = errM e ∧ (e = 40 ∨ e = 8)) ∨
    (∃ m : Nat, n1 = (m : Int) ∧ n2 = (m : Int) ∧ N1 = m * m ∧ N2 = m * m ∧ 1 ≤ m ∧ m ≤ 4 ∧ okD m (m * m) f1 = true ∧ okD m (m * m) f2 = true ∧ meetM n1 N1 f1 n2 N2 f2 = closeM m (m * m) (lessF f1 f2)) := by
  unfold meetM
  cases h1 : okD n1 N1 f1
  · exact .inl ⟨8, rfl, .inr rfl⟩
  · cases h2 : okD n2 N2 f2
    · exact .inl ⟨8, rfl, .inr rfl⟩
    · obtain ⟨m, rfl, rfl, hm0, hm4⟩ := okD_form h1
      obtain ⟨k, rfl, rfl, _, _⟩ := okD_form h2
      by_cases e : (m : Int) = (k : Int)
      · obtain rfl : m = k := by omega
        exact .inr ⟨m, rfl, rfl, rfl, rfl, hm0, hm4, h1, h2, by simp⟩
      · exact .inl ⟨40, by simp [e], .inl rfl⟩
theorem lessF_comm (f g : Nat → Int) : lessF f g = lessF g f := by funext x; exact Int.min_comm _ _
theorem lessF_self (f : Nat → Int) : lessF f f = f := by funext x; exact Int.min_self _

/-- What two have in common is the same either way round. -/
theorem meetM_comm (n1 : Int) (N1 : Nat) (f1 : Nat → Int) (n2 : Int) (N2 : Nat) (f2 : Nat → Int) : meetM n1 N1 f1 n2 N2 f2 = meetM n2 N2 f2 n1 N1 f1 := by
  unfold meetM
  cases h1 : okD n1 N1 f1 <;> cases h2 : okD n2 N2 f2 <;> simp
  by_cases e : n1 = n2
  · subst e
    obtain ⟨m, rfl, rfl, _, _⟩ := okD_form h1
    obtain ⟨k, hk, rfl, _, _⟩ := okD_form h2
    obtain rfl : m = k := by omega
    rw [lessF_comm]
  · rw [if_neg e, if_neg (fun h => e h.symm)]
theorem meetM_self (n : Int) (N : Nat) (f : Nat → Int) : meetM n N f n N f = closeM n N f := by
  unfold meetM
  cases h1 : okD n N f
  · simp [closeM_bad h1]
  · simp [lessF_self]

/-- Which of two bounds more comes first turns nothing. -/
theorem set_order {n : Int} {N : Nat} {f : Nat → Int} {i j k x y : Int} {p q : MR} (hp : p = setM n N f i j x) (hq : q = setM n N f j k y) (ep : p.e = 0) (eq : q.e = 0) (op : okD p.n p.N p.f = true) (oq : okD q.n q.N q.f = true) :
    (setM p.n p.N p.f j k y).e = (setM q.n q.N q.f i j x).e ∧ sameM (setM p.n p.N p.f j k y) (setM q.n q.N q.f i j x) = true := by
  rcases setM_cases n N f i j x with ⟨e, h, he⟩ | ⟨m, a, b, rfl, rfl, hm0, hm4, rfl, rfl, ha, hb, hx, hf, h1⟩
  · rw [hp, h] at ep; rcases he with rfl | rfl <;> cases ep
  rcases setM_cases m (m * m) f b k y with ⟨e, h, he⟩ | ⟨m', b', c, hm', _, _, _, hb', rfl, _, hc, hy, _, h2⟩
  · rw [hq, h] at eq; rcases he with rfl | rfl <;> cases eq
  obtain rfl : m = m' := by omega
  obtain rfl : b = b' := by omega
  have o1 := okD_more (x := a * m + b) hf hx
  have o2 := okD_more (x := b * m + c) hf hy
  rcases closeM_cases o1 with ⟨c1, g1, K1⟩ | ⟨g1, _⟩
  · rcases closeM_cases o2 with ⟨c2, g2, K2⟩ | ⟨g2, _⟩
    · obtain rfl : p = ⟨m, m * m, c1, 0⟩ := by rw [hp, h1, g1]
      obtain rfl : q = ⟨m, m * m, c2, 0⟩ := by rw [hq, h2, g2]
      have s1 : setM m (m * m) c1 b c y = closeM m (m * m) (moreAt c1 (b * m + c) y) := by
        unfold setM
        rw [op, if_pos rfl, if_pos (by omega), hy, if_pos rfl, show ((b : Int) * (m : Int) + (c : Int)).toNat = b * m + c from by rw [show (b : Int) * (m : Int) + (c : Int) = ((b * m + c : Nat) : Int) from by push_cast; rfl]; rfl]
      have s2 : setM m (m * m) c2 a b x = closeM m (m * m) (moreAt c2 (a * m + b) x) := by
        unfold setM
        rw [oq, if_pos rfl, if_pos (by omega), hx, if_pos rfl, show ((a : Int) * (m : Int) + (b : Int)).toNat = a * m + b from by rw [show (a : Int) * (m : Int) + (b : Int) = ((a * m + b : Nat) : Int) from by push_cast; rfl]; rfl]
      show (setM m (m * m) c1 b c y).e = (setM m (m * m) c2 a b x).e ∧ _
      show _ ∧ sameM (setM m (m * m) c1 b c y) (setM m (m * m) c2 a b x) = true
      rw [s1, s2]
      refine closeM_eq (okD_more op hy) (okD_more oq hx) fun q hq => ?_
      rw [under_more hb hc (okD_le op) (mayB_le hy), under_more ha hb (okD_le oq) (mayB_le hx), ← K1.iff hq, ← K2.iff hq, under_more ha hb (okD_le hf) (mayB_le hx), under_more hb hc (okD_le hf) (mayB_le hy)]
      exact ⟨fun ⟨⟨h, g⟩, k⟩ => ⟨⟨h, k⟩, g⟩, fun ⟨⟨h, g⟩, k⟩ => ⟨⟨h, k⟩, g⟩⟩
    · rw [hq, h2, g2] at eq; cases eq
  · rw [hp, h1, g1] at ep; cases ep
#print axioms set_order
end Go.Proofs.YtpmpapenjcemjaaGreatDoor

namespace Go.Proofs.YtpmpapenjcemjaaGreatDoor
set_option linter.unusedSimpArgs false
set_option linter.unusedVariables false
open Go Go.RowKit

theorem keepsD_ok {n : Int} {N : Nat} {f : Nat → Int} {M : Nat} {T : Nat → Int × Int} {b : Bool} (h : keepsD n N f M T = (b, 0)) :
    ∃ m : Nat, n = (m : Int) ∧ N = m * m ∧ M + 1 = m ∧ m ≤ 4 ∧ okD m (m * m) f = true ∧ allRat M T = true ∧ b = keptAll m f T := by
  unfold keepsD at h
  cases h1 : okD n N f
  · rw [h1] at h; simp at h
  · cases h2 : allRat M T
    · rw [h1, h2] at h; simp at h
    · rw [h1, h2] at h
      obtain ⟨m, rfl, rfl, hm0, hm4⟩ := okD_form h1
      by_cases e : (M : Int) = (m : Int) - 1
      · rw [if_pos e] at h
        simp only [Bool.and_self, if_true, Prod.mk.injEq, and_true] at h
        exact ⟨m, rfl, rfl, by omega, hm4, h1, rfl, h.symm⟩
      · rw [if_neg e] at h; simp at h
theorem keepsD_of {m : Nat} {f : Nat → Int} {M : Nat} {T : Nat → Int × Int} (h : okD m (m * m) f = true) (hT : allRat M T = true) (hM : M + 1 = m) : keepsD m (m * m) f M T = (keptAll m f T, 0) := by
  have e : (M : Int) = (m : Int) - 1 := by omega
  unfold keepsD
  rw [h, hT]
  simp [e]
theorem kept_more {n a b : Nat} {f : Nat → Int} {x : Int} {T : Nat → Int × Int} (h : ∀ i, i < n → 0 < (tm T i).2) (ha : a < n) (hb : b < n) (hf : ∀ i j, i < n → j < n → f (i * n + j) ≤ noneB) (hx : x ≤ noneB) :
    keptAll n (moreAt f (a * n + b) x) T = (keptAll n f T && keptB (tm T a).1 (tm T a).2 (tm T b).1 (tm T b).2 x) := by
  rw [Bool.eq_iff_iff, Bool.and_eq_true, kept_under h, kept_under h, under_more ha hb hf hx, keptB_iff (h a ha) (h b hb)]
  exact Iff.rfl
theorem kept_less {n : Nat} {f g : Nat → Int} {T : Nat → Int × Int} (h : ∀ i, i < n → 0 < (tm T i).2) (hf : ∀ i j, i < n → j < n → f (i * n + j) ≤ noneB) (hg : ∀ i j, i < n → j < n → g (i * n + j) ≤ noneB) :
    keptAll n (lessF f g) T = (keptAll n f T && keptAll n g T) := by
  rw [Bool.eq_iff_iff, Bool.and_eq_true, kept_under h, kept_under h, kept_under h, under_less hf hg]
/-- Times keep the closed one just if they keep the matrix. -/
theorem kept_close {m : Nat} {f : Nat → Int} {M : Nat} {T : Nat → Int × Int} (hok : okD m (m * m) f = true) (hT : allRat M T = true) (hM : M + 1 = m) :
    ((closeM m (m * m) f).e = 6 ∧ keptAll m f T = false) ∨ ((closeM m (m * m) f).e = 0 ∧ (okD (closeM m (m * m) f).n (closeM m (m * m) f).N (closeM m (m * m) f).f = true → keepsD (closeM m (m * m) f).n (closeM m (m * m) f).N (closeM m (m * m) f).f M T = (keptAll m f T, 0))) := by
  have ht : ∀ i, i < m → 0 < (tm T i).2 := fun i hi => tm_pos hT i (by omega)
  rcases closeM_cases hok with ⟨c, h1, K⟩ | ⟨h1, hno⟩
  · rw [h1]
    refine .inr ⟨rfl, fun ho => ?_⟩
    show keepsD m (m * m) c M T = _
    rw [keepsD_of ho hT hM, kept_same ht K]
  · rw [h1]
    refine .inl ⟨rfl, ?_⟩
    cases hk : keptAll m f T
    · rfl
    · exact absurd ((kept_under ht).1 hk) (none_no hno (tmE_closed ht))

theorem set_kept {n : Int} {N : Nat} {f : Nat → Int} {i j x : Int} {M : Nat} {T : Nat → Int × Int} {one : Bool} {c : MR} (hc : c = setM n N f i j x) (h1 : keepsD n N f M T = (one, 0)) (he : c.e = 0 ∨ c.e = 6) :
    ∃ (a b : Nat) (so : Bool), i = (a : Int) ∧ j = (b : Int) ∧ a < M + 1 ∧ b < M + 1 ∧ keepsPR (tm T a).1 (tm T a).2 (tm T b).1 (tm T b).2 x = (so, 0) ∧ (c.e = 6 → (one && so) = false) ∧ (okD c.n c.N c.f = true → c.e = 0 → keepsD c.n c.N c.f M T = (one && so, 0)) := by
  obtain ⟨m, rfl, rfl, hM, hm4, hok, hT, hb⟩ := keepsD_ok h1
  rcases setM_cases m (m * m) f i j x with ⟨e, h, h2⟩ | ⟨m', a, b, hm', _, _, _, rfl, rfl, ha, hb', hx, hf, h2⟩
  · rw [hc, h] at he; simp only [errM] at he; omega
  obtain rfl : m = m' := by omega
  have ht : ∀ i, i < m → 0 < (tm T i).2 := fun i hi => tm_pos hT i (by omega)
  have km := kept_more ht ha hb' (okD_le hf) (mayB_le hx)
  have okt : ∀ i, i < m → okRat (tm T i).1 (tm T i).2 = true := by
    intro i hi
    cases i with
    | zero => exact (by decide : okRat 0 1 = true)
    | succ i => exact allRat_iff.1 hT i (by omega)
  have hxB : okB x = true := bd_okB (mayB_bd hx) (by omega)
  refine ⟨a, b, keptB (tm T a).1 (tm T a).2 (tm T b).1 (tm T b).2 x, rfl, rfl, by omega, by omega, by rw [keepsPR, okt a ha, okt b hb', hxB]; rfl, ?_, ?_⟩
  · intro h6
    rw [hc, h2] at h6
    rcases kept_close (okD_more (x := a * m + b) hf hx) hT hM with ⟨_, h⟩ | ⟨h, _⟩
    · rw [hb, ← km]; exact h
    · rw [h] at h6; cases h6
  · intro ho h0
    rw [hc, h2] at ho h0 ⊢
    rcases kept_close (okD_more (x := a * m + b) hf hx) hT hM with ⟨h, _⟩ | ⟨_, h⟩
    · rw [h] at h0; cases h0
    · rw [hb, ← km]; exact h ho
theorem meet_kept {n1 : Int} {N1 : Nat} {f1 : Nat → Int} {n2 : Int} {N2 : Nat} {f2 : Nat → Int} {M : Nat} {T : Nat → Int × Int} {one two : Bool} {c : MR} (hc : c = meetM n1 N1 f1 n2 N2 f2) (h1 : keepsD n1 N1 f1 M T = (one, 0)) (h2 : keepsD n2 N2 f2 M T = (two, 0)) :
    (c.e = 6 ∧ (one && two) = false) ∨ (c.e = 0 ∧ (okD c.n c.N c.f = true → keepsD c.n c.N c.f M T = (one && two, 0))) := by
  obtain ⟨m, rfl, rfl, hM, hm4, ok1, hT, hb⟩ := keepsD_ok h1
  obtain ⟨m', rfl, rfl, hM', _, ok2, _, hb2⟩ := keepsD_ok h2
  obtain rfl : m = m' := by omega
  have ht : ∀ i, i < m → 0 < (tm T i).2 := fun i hi => tm_pos hT i (by omega)
  have km := kept_less (f := f1) (g := f2) ht (okD_le ok1) (okD_le ok2)
  have hm : c = closeM m (m * m) (lessF f1 f2) := by rw [hc, meetM, ok1, ok2]; simp
  rw [hm, hb, hb2, ← km]
  exact kept_close (okD_less ok1 ok2) hT hM
#print axioms set_kept
#print axioms meet_kept
end Go.Proofs.YtpmpapenjcemjaaGreatDoor

namespace Go.Proofs.YtpmpapenjcemjaaGreatDoor
set_option linter.unusedSimpArgs false
set_option linter.unusedVariables false
open Go Go.RowKit

/-- Bounds of the call's own, or none. -/
def OwnP (w W : World) (p : Option Addr) (N : Nat) (f : Nat → Int) : Prop := N = 0 ∨ ∃ B, p = some ⟨B, 0, none⟩ ∧ w.heap.size ≤ B ∧ B < W.heap.size ∧ HoldsI W B N f
theorem OwnP.slp {w W : World} {p : Option Addr} {N : Nat} {f : Nat → Int} (h : OwnP w W p N f) : SlP W p N f := by
  rcases h with h | ⟨B, rfl, _, hB, hh⟩
  · exact .inl h
  · exact slp_of hh hB
/-- A result: a matrix and an error's number. -/
def matC (w : World) (n : Int) (N : Nat) (f : Nat → Int) (e0 : Int) (e : Ending) (W : World) : Prop :=
  (∃ p cap, e = .returned (.tuple #[.agg #[.int .i64 n, .slice p N cap], .int .i64 e0]) ∧ OwnP w W p N f) ∧ ∃ q, W = Wov w q
theorem matC_of_close {w W : World} {n : Int} {N : Nat} {r : Option (Nat → Int) × Int} {e : Ending} (h : closePost w n N r e W) : matC w (mR n N r).n (mR n N r).N (mR n N r).f (mR n N r).e e W := by
  obtain ⟨h, hq⟩ := h
  refine ⟨?_, hq⟩
  obtain ⟨r1, r2⟩ := r
  cases r1 with
  | none => exact ⟨none, 0, h, .inl rfl⟩
  | some c =>
    obtain ⟨B, cap, h1, h2, h3, h4⟩ := h
    exact ⟨_, cap, h1, .inr ⟨B, rfl, h2, h3, h4⟩⟩
theorem closeM_any (n : Int) (p : Option Addr) (N cap : Nat) (f : Nat → Int) (w : World) (hn : fits64 n) (hS : SlP w p N f) (hF : Fits N f) (hN : N ≤ 1000000) :
    Calls Tryz.prog 74 #[.agg #[.int .i64 n, .slice p N cap]] w (matC w (closeM n N f).n (closeM n N f).N (closeM n N f).f (closeM n N f).e) :=
  (close_any n p N cap f w hn hS hF hN).mono fun _ _ h => matC_of_close h
theorem matC_err {w W : World} {e0 : Int} {e : Ending} (he : e = .returned (.tuple #[.agg #[.int .i64 0, .slice none 0 0], .int .i64 e0])) (h : Below w.heap.size w W) : matC w (errM e0).n (errM e0).N (errM e0).f (errM e0).e e W :=
  ⟨⟨none, 0, he, .inl rfl⟩, Wov_of_below h⟩
/-- Behind another call, from an earlier world. -/
theorem matC.later {w0 w W : World} {n : Int} {N : Nat} {f : Nat → Int} {e0 : Int} {e : Ending} (h : matC w n N f e0 e W) (hb : Below w0.heap.size w0 w) : matC w0 n N f e0 e W := by
  obtain ⟨⟨p, cap, he, ho⟩, q, rfl⟩ := h
  refine ⟨⟨p, cap, he, ?_⟩, ?_⟩
  · rcases ho with ho | ⟨B, h1, h2, h3, h4⟩
    · exact .inl ho
    · exact .inr ⟨B, h1, by have := hb.size; omega, h3, h4⟩
  · exact Wov_of_below (hb.trans ((below_Wov w q).mono hb.size))

/-- What a result's numbers are. -/
structure MRok (r : MR) : Prop where
  n : fits64 r.n
  f : Fits r.N r.f
  N : r.N ≤ 16
theorem errM_ok (e : Int) : MRok (errM e) := ⟨by unfold errM fits64; simp, fun x hx => by simp [errM] at hx, by simp [errM]⟩
theorem closedI_fits {n : Nat} {f c : Nat → Int} (K : ClosedI n f c) : Fits (n * n) c := fun x hx => by
  obtain ⟨i, j, hi, hj, rfl⟩ := at_place hx
  rcases K.bound i j hi hj with h | h
  · rw [h]; unfold noneB fits64; omega
  · unfold bnum at h; unfold fits64; omega
theorem closeM_ok (n : Int) (N : Nat) (f : Nat → Int) : MRok (closeM n N f) := by
  cases hok : okD n N f
  · rw [closeM_bad hok]; exact errM_ok 8
  · obtain ⟨m, rfl, rfl, hm0, hm4⟩ := okD_form hok
    rcases closeM_cases hok with ⟨c, h, K⟩ | ⟨h, _⟩
    · rw [h]
      have : m * m ≤ 4 * 4 := Nat.mul_le_mul hm4 hm4
      exact ⟨by show fits64 (m : Int); unfold fits64; omega, closedI_fits K, this⟩
    · rw [h]; exact errM_ok 6
theorem setM_ok (n : Int) (N : Nat) (f : Nat → Int) (i j b : Int) : MRok (setM n N f i j b) := by
  rcases setM_cases n N f i j b with ⟨e, h, _⟩ | ⟨m, a, c, _, _, _, _, _, _, _, _, _, _, h⟩
  · rw [h]; exact errM_ok e
  · rw [h]; exact closeM_ok _ _ _
theorem meetM_ok (n1 : Int) (N1 : Nat) (f1 : Nat → Int) (n2 : Int) (N2 : Nat) (f2 : Nat → Int) : MRok (meetM n1 N1 f1 n2 N2 f2) := by
  rcases meetM_cases n1 N1 f1 n2 N2 f2 with ⟨e, h, _⟩ | ⟨m, _, _, _, _, _, _, _, _, h⟩
  · rw [h]; exact errM_ok e
  · rw [h]; exact closeM_ok _ _ _
theorem mayB_fits {x : Int} (h : mayB x = true) : fits64 x := by
  rcases mayB_bd h with h | h
  · rw [h]; unfold noneB fits64; omega
  · unfold bnum at h; unfold fits64; omega
end Go.Proofs.YtpmpapenjcemjaaGreatDoor

namespace Go.Proofs.YtpmpapenjcemjaaGreatDoor
set_option linter.unusedSimpArgs false
set_option linter.unusedVariables false
open Go Go.RowKit Go.Shelf
attribute [local go_sem] Nat.add_assoc Nat.add_lt_add_iff_left lit_lt_add

theorem OwnP.chg {w W W' : World} {p : Option Addr} {N B : Nat} {f : Nat → Int} (h : OwnP w W p N f) (hB : B < w.heap.size) (hg : Chg W B W') : OwnP w W' p N f := by
  rcases h with h | ⟨B2, h1, h2, h3, h4⟩
  · exact .inl h
  · exact .inr ⟨B2, h1, h2, Nat.lt_of_lt_of_le h3 hg.size, h4.of_block (hg.block B2 h3 (by omega))⟩
theorem OwnP.later {w w0 W : World} {p : Option Addr} {N : Nat} {f : Nat → Int} (h : OwnP w W p N f) (hw : w0.heap.size ≤ w.heap.size) : OwnP w0 W p N f :=
  h.imp id fun ⟨B, h1, h2, h3⟩ => ⟨B, h1, by omega, h3⟩

/-- The bounds of a list, laid one behind the other. -/
def foldT (f : Nat → Int) (T : Nat → Int × Int) : Nat → Nat → Int
  | 0 => f
  | k + 1 => moreAt (foldT f T k) (T k).1.toNat (T k).2
theorem fits_min {a b : Int} (h : fits64 a) (g : fits64 b) : fits64 (min a b) := by
  rcases Int.le_total a b with l | l
  · rw [Int.min_eq_left l]; exact h
  · rw [Int.min_eq_right l]; exact g

set_option maxRecDepth 10000 in
set_option maxHeartbeats 4000000 in
theorem with_any (n : Int) (p : Option Addr) (N cap : Nat) (f : Nat → Int) (pl : Option Addr) (K cl : Nat) (T : Nat → Int × Int) (g : Nat → Int) (w : World) (hn : fits64 n) (hS : SlP w p N f) (hF : Fits N f) (h0 : 0 < N) (hN : N ≤ 1000) (hR : SlR w pl K T) (hK : K ≤ 1000)
    (hat : ∀ k, k < K → ∃ a : Nat, (T k).1 = (a : Int) ∧ a < N) (hg : ∀ x, x < N → foldT f T K x = g x) (hG : Fits N g) :
    Calls Tryz.prog 167 #[.agg #[.int .i64 n, .slice p N cap], .slice pl K cl] w (matC w (closeM n N g).n (closeM n N g).N (closeM n N g).f (closeM n N g).e) := by
  have TW : Hid (∀ w', Below w.heap.size w w' → Calls Tryz.prog 120 #[.agg #[.int .i64 n, .slice p N cap]] w' (twinPost w' n N f)) := fun w' hb => twin_any n p N cap f w' (by omega) (.inr ⟨h0, by
    obtain ⟨B, off, h1, h2, h3⟩ := (hS.below hb).pos h0
    exact ⟨B, off, h1, h2, h3⟩⟩)
  obtain ⟨r, hr⟩ : ∃ r, r = closeM n N g := ⟨_, rfl⟩
  have CL : Hid (∀ B cp W, B < W.heap.size → HoldsI W B N (foldT f T K) → Calls Tryz.prog 74 #[.agg #[.int .i64 n, .slice (some ⟨B, 0, none⟩) N cp]] W (matC W r.n r.N r.f r.e)) := fun B cp W hB hH => by
    rw [hr]
    exact closeM_any n (some ⟨B, 0, none⟩) N cp g W hn (slp_of (fun x hx => by rw [← hg x hx]; exact hH x hx) hB) hG (by omega)
  rw [← hr]
  have HAT := Lib.hid hat
  have HR := Lib.hid hR
  clear hS hF hg hG hr hat hR
  go_enter Tryz.func167, Tryz.ntmps167
  go_wp2_with (fail)
  refine (TW.out _ (by (repeat' (first | (with_reducible assumption) | (with_reducible exact Below.refl _ _) | (with_reducible refine below_wov ?_ ?_ _) | (with_reducible refine below_drewN ?_ _) | (with_reducible refine Below.drew ?_) | (with_reducible refine Below.alloc ?_ ?_ _) | (with_reducible refine Below.setCell ?_ ?_ _) | (with_reducible exact Nat.le_refl _) | omega | (simp only [World.size_alloc, World.size_setCell, World.size_drew, Wov_size, World.heap_drewN]; omega))))).mono ?_; rintro e w' ⟨p2, cap2, rfl, ho, p3, rfl⟩
  rcases ho with ⟨h, _⟩ | ⟨B, c, h1, hB1, hB2, hH⟩
  · omega
  simp only [Value.slice.injEq] at h1
  obtain ⟨rfl, _, rfl⟩ := h1
  go_wp2
  simp only [World.size_alloc, Wov_size] at hB1 hB2
  refine wp_world (fun W => Below w.heap.size w W ∧ w.heap.size + 2 ≤ B ∧ B < W.heap.size ∧ HoldsI W B N f ∧ W.cell? ⟨w.heap.size, 0, none⟩ = some (.int .i64 n) ∧ W.cell? ⟨w.heap.size, 1, none⟩ = some (.slice (some ⟨B, 0, none⟩) N cap2) ∧ W.cell? ⟨w.heap.size + 1, 0, none⟩ = some (.int .i64 0) ∧ W.cell? ⟨w.heap.size + 1, 1, none⟩ = some (.slice none 0 0) ∧ W.frozen? ⟨w.heap.size + 1, 0, none⟩ = false ∧ W.frozen? ⟨w.heap.size + 1, 1, none⟩ = false ∧ SlR W pl K T)
    ⟨by (repeat' (first | (with_reducible assumption) | (with_reducible exact Below.refl _ _) | (with_reducible refine below_wov ?_ ?_ _) | (with_reducible refine below_drewN ?_ _) | (with_reducible refine Below.drew ?_) | (with_reducible refine Below.alloc ?_ ?_ _) | (with_reducible refine Below.setCell ?_ ?_ _) | (with_reducible exact Nat.le_refl _) | omega | (simp only [World.size_alloc, World.size_setCell, World.size_drew, Wov_size, World.heap_drewN]; omega))), by omega, by simp only [World.size_alloc, World.size_setCell, Wov_size, Array.size_append]; omega, ?_, by simp [go_sem], by simp [go_sem], by simp [go_sem], by simp [go_sem], by simp [go_sem], by simp [go_sem], HR.out.below (by (repeat' (first | (with_reducible assumption) | (with_reducible exact Below.refl _ _) | (with_reducible refine below_wov ?_ ?_ _) | (with_reducible refine below_drewN ?_ _) | (with_reducible refine Below.drew ?_) | (with_reducible refine Below.alloc ?_ ?_ _) | (with_reducible refine Below.setCell ?_ ?_ _) | (with_reducible exact Nat.le_refl _) | omega | (simp only [World.size_alloc, World.size_setCell, World.size_drew, Wov_size, World.heap_drewN]; omega))))⟩ ?_
  · refine hH.of_block ?_
    exact (((Chg.set _ w.heap.size 0 _).trans (Chg.set _ w.heap.size 1 _))).block B (by simp only [World.size_alloc, Wov_size, Array.size_append]; omega) (by omega)
  rintro W ⟨hBw, hbw, hBW, hHW, m0, m1, r0, r1, s0, s1, hRW⟩
  have HRW := Lib.hid hRW
  have hsz := hBw.size
  have hRB : w.heap.size + 1 ≠ B := by omega
  have hMB : w.heap.size ≠ B := by omega
  have hMW : w.heap.size < W.heap.size := by omega
  have hR1W : w.heap.size + 1 < W.heap.size := by omega
  clear hH hB1 hB2 TW hRW
  go_loopw [7, 12] (fun _ i wr => ∃ t : Nat, t ≤ K ∧ i = .int .i64 t ∧ Chg W B wr ∧ HoldsI wr B N (foldT f T t))
    (fun _ i _ => K - (intOf i).toNat)
  case atStart => exact ⟨0, Nat.zero_le _, rfl, Chg.refl _ _, hHW⟩
  case round =>
    obtain ⟨t, ht, rfl, hc, hH⟩ := hrel
    have c0 := (hc.cell (x := 0) hMW hMB).trans m0
    have c1 := (hc.cell (x := 1) hMW hMB).trans m1
    have y0 := (hc.cell (x := 0) hR1W hRB).trans r0
    have y1 := (hc.cell (x := 1) hR1W hRB).trans r1
    have y2 := (hc.frozen (x := 0) hR1W hRB).trans s0
    have y3 := (hc.frozen (x := 1) hR1W hRB).trans s1
    have hsr := hc.size
    by_cases hlt : t < K
    · obtain ⟨BL, off, rfl, hBL, hcl⟩ : ∃ BL off, pl = some ⟨BL, off, none⟩ ∧ BL < w.heap.size ∧ ∀ x, x < K → w.cell? ⟨BL, off + x * 2, none⟩ = some (.int .i64 (T x).1) ∧ w.cell? ⟨BL, off + (x * 2 + 1), none⟩ = some (.int .i64 (T x).2) := by
        rcases HR.out with h | h
        · omega
        · exact h
      obtain ⟨l0, l1⟩ := hcl t hlt
      have k0 : wr.cell? ⟨BL, off + t * 2, none⟩ = some (.int .i64 (T t).1) := (hc.cell (by omega) (by omega)).trans ((hBw.cell (p := ⟨BL, off + t * 2, none⟩) hBL).trans l0)
      have k1 : wr.cell? ⟨BL, off + (t * 2 + 1), none⟩ = some (.int .i64 (T t).2) := (hc.cell (by omega) (by omega)).trans ((hBw.cell (p := ⟨BL, off + (t * 2 + 1), none⟩) hBL).trans l1)
      obtain ⟨a, ha, haN⟩ := HAT.out t hlt
      have hb1 := (hH a haN).1
      have hb2 := (hH a haN).2
      have hstep : Hid (∀ v b, v = foldT f T t a → b = (T t).2 → upd (foldT f T t) a (min v b) = foldT f T (t + 1)) := fun v b hv hb => by
        show _ = moreAt (foldT f T t) (T t).1.toNat (T t).2
        rw [ha, hv, hb]; rfl
      obtain ⟨v, hv⟩ : ∃ v, v = foldT f T t a := ⟨_, rfl⟩
      obtain ⟨b, hb⟩ : ∃ b, b = (T t).2 := ⟨_, rfl⟩
      rw [ha] at k0
      rw [← hb] at k1
      rw [← hv] at hb1
      have HST : Hid (upd (foldT f T t) a (min v b) = foldT f T (t + 1)) := hstep.out v b hv hb
      have HH := Lib.hid hH
      have u1 : (0 : Int) ≤ (a : Int) := by omega
      have u2 : (a : Int) < (N : Int) := by omega
      have hBr : B < wr.heap.size := by omega
      have hMr : w.heap.size < wr.heap.size := by omega
      clear hstep hv hb l0 l1 hcl m0 m1 r0 r1 s0 s1 y0 y1 y2 y3 ha hH hHW
      go_wp2
      go_region
      go_wp2
      go_roundw
      case rel =>
        have em : (if b < v then b else v) = min v b := by
          by_cases h : b < v
          · rw [if_pos h, Int.min_eq_right (by omega)]
          · rw [if_neg h, Int.min_eq_left (by omega)]
        rw [em]
        refine ⟨t + 1, hlt, by go_num, ((hc.trans (Chg.set _ _ _ _)).trans (Chg.alloc _ _ _)).trans (Chg.drew _ _), ?_⟩
        rw [← HST.out]
        have h5 := HH.out.set haN (min v b)
        exact h5.below (((Below.refl _ _).alloc (Nat.le_refl _) _).drew) (by simp [World.setCell]; omega)
      case measure => simp [intOf]; omega
    · have e : t = K := by omega
      subst e
      have CL2 := CL.out B cap2 wr (by omega) hH
      have CLH := Lib.hid CL2
      clear CL2 CL m0 m1 r0 r1 s0 s1 hHW hH
      go_wp2_with (fail)
      refine CLH.out.mono ?_; rintro e w' ⟨⟨p4, cap4, rfl, ho4⟩, q4, rfl⟩
      have HO := Lib.hid ho4
      clear ho4
      go_wp2
      refine bodyPost_ret (by simp [results, Tryz.results167, go_sem, y0, y1]; try rfl) rfl ?_
      refine ⟨⟨p4, cap4, rfl, ?_⟩, Wov_of_below ?_⟩
      · exact (HO.out.chg (B := w.heap.size + 1) (by omega) ((Chg.set _ _ _ _).trans (Chg.set _ _ _ _))).later (by omega)
      · have b0 : Below w.heap.size w wr := hBw.trans (hc.belowAt (by omega) hsz)
        exact ((below_wov b0 (by omega) q4).setCell (p := ⟨w.heap.size + 1, 0, none⟩) (by simp) _).setCell (p := ⟨w.heap.size + 1, 1, none⟩) (by simp) _
end Go.Proofs.YtpmpapenjcemjaaGreatDoor

namespace Go.Proofs.YtpmpapenjcemjaaGreatDoor
set_option linter.unusedSimpArgs false
set_option linter.unusedVariables false
open Go Go.RowKit Go.Shelf
attribute [local go_sem] Nat.add_assoc Nat.add_lt_add_iff_left lit_lt_add

set_option maxRecDepth 10000 in
set_option maxHeartbeats 1000000 in
theorem clock_any (n i : Int) (p : Option Addr) (N cap : Nat) (w : World) :
    Calls Tryz.prog 165 #[.agg #[.int .i64 n, .slice p N cap], .int .i64 i] w (Gives w (.bool (decide (0 ≤ i ∧ i < n)))) := by
  by_cases h1 : 0 ≤ i
  · by_cases h2 : i < n
    · have R : Hid (decide (0 ≤ i ∧ i < n) = true) := by show _ = _; simp [h1, h2]
      go_enter Tryz.func165, Tryz.ntmps165
      go_wp2
      go_ret
      exact gives_bool (by first | rfl | exact R.out.symm) (by (repeat' (first | (with_reducible assumption) | (with_reducible exact Below.refl _ _) | (with_reducible refine below_wov ?_ ?_ _) | (with_reducible refine below_drewN ?_ _) | (with_reducible refine Below.drew ?_) | (with_reducible refine Below.alloc ?_ ?_ _) | (with_reducible refine Below.setCell ?_ ?_ _) | (with_reducible exact Nat.le_refl _) | omega | (simp only [World.size_alloc, World.size_setCell, World.size_drew, Wov_size, World.heap_drewN]; omega))))
    · have R : Hid (decide (0 ≤ i ∧ i < n) = false) := by show _ = _; simp [h2]
      have e2 : decide (i < n) = false := by simp; omega
      go_enter Tryz.func165, Tryz.ntmps165
      go_wp2
      go_ret
      exact gives_bool (by first | rfl | exact R.out.symm) (by (repeat' (first | (with_reducible assumption) | (with_reducible exact Below.refl _ _) | (with_reducible refine below_wov ?_ ?_ _) | (with_reducible refine below_drewN ?_ _) | (with_reducible refine Below.drew ?_) | (with_reducible refine Below.alloc ?_ ?_ _) | (with_reducible refine Below.setCell ?_ ?_ _) | (with_reducible exact Nat.le_refl _) | omega | (simp only [World.size_alloc, World.size_setCell, World.size_drew, Wov_size, World.heap_drewN]; omega))))
  · have R : Hid (decide (0 ≤ i ∧ i < n) = false) := by show _ = _; simp [h1]
    have e1 : decide (0 ≤ i) = false := by simp; omega
    go_enter Tryz.func165, Tryz.ntmps165
    go_wp2
    all_goals
      go_ret
      exact gives_bool (by first | rfl | exact R.out.symm) (by (repeat' (first | (with_reducible assumption) | (with_reducible exact Below.refl _ _) | (with_reducible refine below_wov ?_ ?_ _) | (with_reducible refine below_drewN ?_ _) | (with_reducible refine Below.drew ?_) | (with_reducible refine Below.alloc ?_ ?_ _) | (with_reducible refine Below.setCell ?_ ?_ _) | (with_reducible exact Nat.le_refl _) | omega | (simp only [World.size_alloc, World.size_setCell, World.size_drew, Wov_size, World.heap_drewN]; omega))))

theorem okD_one (b : Int) : okD 1 1 (fun _ => b) = mayB b := by simp [okD, allMay]

end Go.Proofs.YtpmpapenjcemjaaGreatDoor

namespace Go.Proofs.YtpmpapenjcemjaaGreatDoor
set_option linter.unusedSimpArgs false
set_option linter.unusedVariables false
open Go Go.RowKit Go.Shelf
attribute [local go_sem] Nat.add_assoc Nat.add_lt_add_iff_left lit_lt_add

theorem infoMo : (Tryz.prog.info? 242).map (fun i => (i.size, i.bytes)) = some (2, 16) := by kernel_rfl
theorem infoMoz : (Tryz.prog.info? 242).map (fun i => i.zero) = some (some (.agg #[.int .i64 0, .int .i64 0])) := by kernel_rfl

/-- The list that the closure appends to: LB is the variable's block, the rows lie at or beyond base. -/
structure PutI (w : World) (LB base : Nat) (T : Nat → Int × Int) (k : Nat) (W : World) : Prop where
  os : W.os = w.os
  tape : W.tape = w.tape
  output : W.output = w.output
  size : base ≤ W.heap.size
  block : ∀ b, b < base → b ≠ LB → W.heap[b]? = w.heap[b]?
  fr : W.frozen? ⟨LB, 0, none⟩ = false
  row : ∃ v, W.cell? ⟨LB, 0, none⟩ = some v ∧ W.ownsRow base 242 2 v k (cellsR T k)

theorem cell_two_new (w : World) (x y : Value) (t : TypeId) : ∀ j u, [x, y][j]? = some u → (w.alloc (.cells #[x, y] t)).cell? ((⟨w.heap.size, 0, none⟩ : Addr).add j) = some u := by
  intro j u hj
  rw [Addr.add_lit, Nat.zero_add]
  rcases j with _ | _ | j
  · cases hj; simp [go_sem]
  · cases hj; simp [go_sem]
  · simp at hj
theorem app2_below {W w1 : World} {base e k s : Nat} {v : Value} {xs : List Value} {tmp : Obj} (hrow : W.ownsRow base e s v k xs) (hb : base ≤ W.heap.size) (hgrow : (W.alloc tmp).grownBy w1 v.ownBlock) : Below base W w1 :=
  ((Below.refl base W).alloc hb tmp).grown hgrow (by simp; omega) (fun j ej => by
    rcases hrow.2 with ⟨rfl, _⟩ | ⟨g, cap, cur, rfl, hg, _⟩
    · simp [Value.ownBlock] at ej
    · obtain rfl : g = j := by simpa [Value.ownBlock] using ej
      exact hg)
theorem row2_set {W : World} {base e k s D x : Nat} {v v2 : Value} {xs : List Value} (hrow : W.ownsRow base e s v k xs) (hD : D < base) : (W.setCell ⟨D, x, none⟩ v2).ownsRow base e s v k xs := by
  refine hrow.kept (row := some D) ⟨rfl, rfl, rfl, by simp [World.setCell], fun j hj hne => Below.heap_setCell _ _ _ j (fun e => hne (by rw [e]))⟩ ?_
  rcases hrow.2 with ⟨rfl, _⟩ | ⟨g, cap, cur, rfl, hg, _⟩
  · exact .inl rfl
  · refine .inr fun e => ?_
    have : g = D := by simpa [Value.ownBlock] using e
    omega

theorem PutI.step {w W w1 : World} {LB base k : Nat} {T : Nat → Int × Int} {v v' : Value} {tmp : Obj} (h : PutI w LB base T k W) (hL : LB < base) (hv : W.cell? ⟨LB, 0, none⟩ = some v) (hrow : W.ownsRow base 242 2 v k (cellsR T k))
    (hown : w1.ownsRow base 242 2 v' (k + 1) (cellsR T (k + 1))) (hgrow : (W.alloc tmp).grownBy w1 v.ownBlock) : (w1.cell? ⟨LB, 0, none⟩ = some v ∧ w1.frozen? ⟨LB, 0, none⟩ = false) ∧ PutI w LB base T (k + 1) (w1.setCell ⟨LB, 0, none⟩ v') := by
  have hb := app2_below hrow h.size hgrow
  have c1 := (hb.cell (p := ⟨LB, 0, none⟩) hL).trans hv
  have f1 := (hb.frozen (p := ⟨LB, 0, none⟩) hL).trans h.fr
  refine ⟨⟨c1, f1⟩, hb.os.trans h.os, hb.tape.trans h.tape, hb.output.trans h.output, by have := h.size; have := hb.size; simp [World.setCell]; omega, fun b hb' hne => ?_, by rw [World.frozen?_setCell]; exact f1, v', by rw [setCell_cell_self, c1]; rfl, row2_set hown hL⟩
  exact (Below.heap_setCell _ _ _ b (fun e => hne e)).trans ((hb.block b hb').trans (h.block b hb' hne))

theorem PutI.below {w W : World} {LB base k k0 : Nat} {T : Nat → Int × Int} (h : PutI w LB base T k W) (hb : base = w.heap.size) (h0 : k0 ≤ LB) (h1 : LB < base) : Below k0 w W :=
  ⟨h.os, h.tape, h.output, by rw [← hb]; exact h.size, fun b hb' => h.block b (by omega) (by omega)⟩
theorem PutI.cell {w W : World} {LB base k : Nat} {T : Nat → Int × Int} (h : PutI w LB base T k W) {b x : Nat} (hb : b < base) (hn : b ≠ LB) : W.cell? ⟨b, x, none⟩ = w.cell? ⟨b, x, none⟩ := World.cell?_of_block (h.block b hb hn)
theorem PutI.frozen {w W : World} {LB base k : Nat} {T : Nat → Int × Int} (h : PutI w LB base T k W) {b x : Nat} (hb : b < base) (hn : b ≠ LB) : W.frozen? ⟨b, x, none⟩ = w.frozen? ⟨b, x, none⟩ := World.frozen?_of_block (h.block b hb hn)
theorem foldT_less {f g : Nat → Int} : ∀ k x, foldT f (fun x => ((x : Int), g x)) k x = if x < k then min (f x) (g x) else f x
  | 0, x => by simp [foldT]
  | k + 1, x => by
    show moreAt (foldT f (fun x => ((x : Int), g x)) k) ((k : Int)).toNat (g k) x = _
    rw [show ((k : Int)).toNat = k from rfl]
    unfold moreAt upd
    by_cases e : x = k
    · subst e
      rw [if_pos rfl, foldT_less x x, if_neg (by omega), if_pos (by omega)]
    · rw [if_neg e, foldT_less k x]
      by_cases h : x < k
      · rw [if_pos h, if_pos (by omega)]
      · rw [if_neg h, if_neg (by omega)]

end Go.Proofs.YtpmpapenjcemjaaGreatDoor

namespace Go.Proofs.YtpmpapenjcemjaaGreatDoor
set_option linter.unusedSimpArgs false
set_option linter.unusedVariables false
open Go Go.RowKit

def spanB (lo hi : Int) (hs op : Bool) : Bool := decide (-288230376151711744 ≤ lo) && (decide (lo ≤ 288230376151711744) && (decide (hi ≤ 288230376151711744) && (if op then decide (hi = 0) && !hs else decide (lo ≤ hi))))
def belowB (lo : Int) (ls : Bool) : Int := mkB (-lo) ls
def aboveB (hi : Int) (hs op : Bool) : Int := if op then noneB else mkB hi hs
def betweenM (n : Int) (N : Nat) (f : Nat → Int) (i lo : Int) (ls : Bool) (hi : Int) (hs op : Bool) : MR :=
  if okD n N f then (if 0 ≤ i ∧ i < n then (if spanB lo hi hs op then closeM n N (moreAt (moreAt f i.toNat (belowB lo ls)) (i * n).toNat (aboveB hi hs op)) else errM 8) else errM 2) else errM 8

theorem spanB_bd {lo hi : Int} {hs op : Bool} (h : spanB lo hi hs op = true) : -288230376151711744 ≤ lo ∧ lo ≤ 288230376151711744 ∧ hi ≤ 288230376151711744 ∧ (op = true → hi = 0 ∧ hs = false) ∧ (op = false → lo ≤ hi) := by
  unfold spanB at h
  cases op <;> cases hs <;> simp at h ⊢ <;> omega
theorem mkB_num (c : Int) (s : Bool) : bnum (mkB c s) = c := by unfold mkB bnum; split <;> omega
theorem mkB_str (c : Int) (s : Bool) : bstr (mkB c s) = s := by
  unfold mkB bstr
  cases s <;> simp <;> omega
theorem mkB_may {c : Int} {s : Bool} (h1 : -288230376151711744 ≤ c) (h2 : c ≤ 288230376151711744) : mayB (mkB c s) = true := bd_mayB (.inr (by rw [mkB_num]; exact ⟨h1, h2⟩))
theorem belowB_may {lo hi : Int} {ls hs op : Bool} (h : spanB lo hi hs op = true) : mayB (belowB lo ls) = true := by
  have := spanB_bd h
  exact mkB_may (by omega) (by omega)
theorem aboveB_may {lo hi : Int} {hs op : Bool} (h : spanB lo hi hs op = true) : mayB (aboveB hi hs op) = true := by
  have := spanB_bd h
  unfold aboveB
  cases op
  · exact mkB_may (by have := this.2.2.2.2 rfl; omega) (by omega)
  · rfl
theorem mkB_some {c : Int} {s : Bool} (h1 : -288230376151711744 ≤ c) (h2 : c ≤ 288230376151711744) : mkB c s ≠ noneB := by unfold mkB noneB; split <;> omega

theorem betweenM_cases (n : Int) (N : Nat) (f : Nat → Int) (i lo : Int) (ls : Bool) (hi : Int) (hs op : Bool) :
    (∃ e, betweenM n N f i lo ls hi hs op = errM e ∧ (e = 2 ∨ e = 8)) ∨
    (∃ m a : Nat, n = (m : Int) ∧ N = m * m ∧ 1 ≤ m ∧ m ≤ 4 ∧ i = (a : Int) ∧ a < m ∧ spanB lo hi hs op = true ∧ okD m (m * m) f = true ∧ betweenM n N f i lo ls hi hs op = closeM m (m * m) (moreAt (moreAt f (0 * m + a) (belowB lo ls)) (a * m + 0) (aboveB hi hs op))) := by
  unfold betweenM
  cases hok : okD n N f
  · exact .inl ⟨8, rfl, .inr rfl⟩
  · obtain ⟨m, rfl, rfl, hm0, hm4⟩ := okD_form hok
    rw [if_pos rfl]
    by_cases h : 0 ≤ i ∧ i < (m : Int)
    · rw [if_pos h]
      obtain ⟨h1, h2⟩ := h
      obtain ⟨a, rfl⟩ : ∃ a : Nat, i = (a : Int) := ⟨i.toNat, by omega⟩
      cases hb : spanB lo hi hs op
      · exact .inl ⟨8, rfl, .inr rfl⟩
      · refine .inr ⟨m, a, rfl, rfl, hm0, hm4, rfl, by omega, rfl, hok, ?_⟩
        rw [if_pos rfl, show ((a : Int) * (m : Int)).toNat = a * m + 0 from by rw [show (a : Int) * (m : Int) = ((a * m : Nat) : Int) from by push_cast; rfl]; rfl, show ((a : Int)).toNat = 0 * m + a from by rw [Nat.zero_mul, Nat.zero_add]; rfl]
    · rw [if_neg h]; exact .inl ⟨2, rfl, .inl rfl⟩
theorem betweenM_ok (n : Int) (N : Nat) (f : Nat → Int) (i lo : Int) (ls : Bool) (hi : Int) (hs op : Bool) : MRok (betweenM n N f i lo ls hi hs op) := by
  rcases betweenM_cases n N f i lo ls hi hs op with ⟨e, h, _⟩ | ⟨m, a, _, _, _, _, _, _, _, _, h⟩
  · rw [h]; exact errM_ok e
  · rw [h]; exact closeM_ok _ _ _

/-- Whether a time is above an end, below one. -/
def cmpIn (c : Int) (s : Bool) : Bool := decide (c < 0) || (decide (c = 0) && !s)
theorem kept_low {lo n2 d2 : Int} {ls : Bool} (h1 : -288230376151711744 ≤ lo) (h2 : lo ≤ 288230376151711744) : keptB 0 1 n2 d2 (belowB lo ls) = cmpIn (cmpR lo 1 n2 d2) ls := by
  unfold keptB cmpIn cmpR sgn3 belowB
  rw [decide_eq_false (mkB_some (by omega) (by omega)), mkB_num, mkB_str, Bool.false_or, Int.zero_mul, Int.one_mul, Int.mul_one, Int.neg_mul]
  obtain ⟨A, hA⟩ : ∃ A, A = lo * d2 := ⟨_, rfl⟩
  rw [← hA]
  rw [Bool.eq_iff_iff]
  simp only [Bool.or_eq_true, Bool.and_eq_true, decide_eq_true_eq]
  (repeat' split) <;> cases ls <;> simp <;> omega
theorem kept_high {hi n1 d1 : Int} {hs : Bool} (h1 : -288230376151711744 ≤ hi) (h2 : hi ≤ 288230376151711744) : keptB n1 d1 0 1 (mkB hi hs) = cmpIn (cmpR n1 d1 hi 1) hs := by
  unfold keptB cmpIn cmpR sgn3
  rw [decide_eq_false (mkB_some (by omega) (by omega)), mkB_num, mkB_str, Bool.false_or, Int.zero_mul, Int.mul_one, Int.mul_one]
  obtain ⟨A, hA⟩ : ∃ A, A = hi * d1 := ⟨_, rfl⟩
  rw [← hA]
  rw [Bool.eq_iff_iff]
  simp only [Bool.or_eq_true, Bool.and_eq_true, decide_eq_true_eq]
  (repeat' split) <;> cases hs <;> simp <;> omega
theorem kept_open (n1 d1 n2 d2 : Int) : keptB n1 d1 n2 d2 noneB = true := by unfold keptB; simp

/-- Is a time (of a clock) in a span, as the law asks it. -/
def inSpan (lo : Int) (ls : Bool) (hi : Int) (hs op : Bool) (t : Int × Int) : Bool := cmpIn (cmpR lo 1 t.1 t.2) ls && (op || cmpIn (cmpR t.1 t.2 hi 1) hs)

theorem span_kept {n : Int} {N : Nat} {f : Nat → Int} {i lo hi : Int} {ls hs op : Bool} {M : Nat} {T : Nat → Int × Int} {one : Bool} {c : MR} (hc : c = betweenM n N f i lo ls hi hs op) (h1 : keepsD n N f M T = (one, 0)) (he : c.e = 0 ∨ c.e = 6) :
    ∃ a : Nat, i = (a : Int) ∧ a < M + 1 ∧ spanB lo hi hs op = true ∧ okRat (tm T a).1 (tm T a).2 = true ∧ (c.e = 6 → (one && inSpan lo ls hi hs op (tm T a)) = false) ∧ (okD c.n c.N c.f = true → c.e = 0 → keepsD c.n c.N c.f M T = (one && inSpan lo ls hi hs op (tm T a), 0)) := by
  obtain ⟨m, rfl, rfl, hM, hm4, hok, hT, hb⟩ := keepsD_ok h1
  rcases betweenM_cases m (m * m) f i lo ls hi hs op with ⟨e, h, h2⟩ | ⟨m', a, hm', _, hm0, _, rfl, ha, hs', hf, h2⟩
  · rw [hc, h] at he; simp only [errM] at he; omega
  obtain rfl : m = m' := by omega
  have ht : ∀ i, i < m → 0 < (tm T i).2 := fun i hi => tm_pos hT i (by omega)
  have okt : okRat (tm T a).1 (tm T a).2 = true := by
    cases a with
    | zero => exact (by decide : okRat 0 1 = true)
    | succ i => exact allRat_iff.1 hT i (by omega)
  have ob := belowB_may (ls := ls) hs'
  have oa := aboveB_may hs'
  have o1 := okD_more (x := 0 * m + a) hf ob
  have o2 := okD_more (x := a * m + 0) o1 oa
  have k1 := kept_more ht hm0 ha (okD_le hf) (mayB_le ob)
  have k2 := kept_more (f := moreAt f (0 * m + a) (belowB lo ls)) ht ha hm0 (okD_le o1) (mayB_le oa)
  obtain ⟨b1, b2, b3, b4, b5⟩ := spanB_bd hs'
  have e0 : tm T 0 = (0, 1) := rfl
  have hk : keptAll m (moreAt (moreAt f (0 * m + a) (belowB lo ls)) (a * m + 0) (aboveB hi hs op)) T = (one && inSpan lo ls hi hs op (tm T a)) := by
    rw [k2, k1, e0, kept_low b1 b2, hb, Bool.and_assoc]
    congr 1
    unfold inSpan aboveB
    congr 1
    cases op
    · exact kept_high (by have := b5 rfl; omega) b3
    · exact kept_open _ _ _ _
  refine ⟨a, rfl, by omega, hs', okt, ?_, ?_⟩
  · intro h6
    rw [hc, h2] at h6
    rcases kept_close o2 hT hM with ⟨_, h⟩ | ⟨h, _⟩
    · rw [← hk]; exact h
    · rw [h] at h6; cases h6
  · intro ho h0
    rw [hc, h2] at ho h0 ⊢
    rcases kept_close o2 hT hM with ⟨h, _⟩ | ⟨_, h⟩
    · rw [h] at h0; cases h0
    · rw [← hk]; exact h ho
#print axioms span_kept
end Go.Proofs.YtpmpapenjcemjaaGreatDoor

namespace Go.Proofs.YtpmpapenjcemjaaGreatDoor
set_option linter.unusedSimpArgs false
set_option linter.unusedVariables false
open Go Go.RowKit Go.Shelf
attribute [local go_sem] Nat.add_assoc Nat.add_lt_add_iff_left lit_lt_add

set_option maxHeartbeats 400000 in
theorem less_any (c : Int) (h1 : -9223372036854775808 ≤ c) (h2 : c ≤ 9223372036854775807) :
    Pure Tryz.prog 212 #[.int .i64 c] (pair2 (madeR c true)) := by
  intro w
  have C := made_any c true h1 h2
  obtain ⟨⟨x, y⟩, hr⟩ : ∃ r, r = madeR c true := ⟨_, rfl⟩
  rw [← hr] at C ⊢
  clear hr
  simp only [pair2] at C
  go_enter Tryz.func212, Tryz.ntmps212
  go_wp2_with (go_at_call 196; refine (C _).mono ?_; rintro e w' ⟨rfl, p, rfl⟩)
  go_ret2
  exact gives_pair rfl (by (repeat' (first | (with_reducible assumption) | (with_reducible exact Below.refl _ _) | (with_reducible refine below_wov ?_ ?_ _) | (with_reducible refine below_drewN ?_ _) | (with_reducible refine Below.drew ?_) | (with_reducible refine Below.alloc ?_ ?_ _) | (with_reducible refine Below.setCell ?_ ?_ _) | (with_reducible exact Nat.le_refl _) | omega | (simp only [World.size_alloc, World.size_setCell, World.size_drew, Wov_size, World.heap_drewN]; omega))))

set_option maxHeartbeats 800000 in
theorem tof_any (c : Int) (s : Bool) (h1 : -9223372036854775808 ≤ c) (h2 : c ≤ 9223372036854775807) :
    Pure Tryz.prog 197 #[.int .i64 c, .bool s] (.int .i64 (madeR c s).1) := by
  intro w
  cases s
  · have C := most_any c h1 h2
    obtain ⟨⟨x, y⟩, hr⟩ : ∃ r, r = madeR c false := ⟨_, rfl⟩
    rw [← hr] at C ⊢
    clear hr h1 h2
    simp only [pair2] at C
    go_enter Tryz.func197, Tryz.ntmps197
    go_wp2_with (go_at_call 213; refine (C _).mono ?_; rintro e w' ⟨rfl, p, rfl⟩)
    go_ret
    exact gives_int rfl (by (repeat' (first | (with_reducible assumption) | (with_reducible exact Below.refl _ _) | (with_reducible refine below_wov ?_ ?_ _) | (with_reducible refine below_drewN ?_ _) | (with_reducible refine Below.drew ?_) | (with_reducible refine Below.alloc ?_ ?_ _) | (with_reducible refine Below.setCell ?_ ?_ _) | (with_reducible exact Nat.le_refl _) | omega | (simp only [World.size_alloc, World.size_setCell, World.size_drew, Wov_size, World.heap_drewN]; omega))))
  · have C := less_any c h1 h2
    obtain ⟨⟨x, y⟩, hr⟩ : ∃ r, r = madeR c true := ⟨_, rfl⟩
    rw [← hr] at C ⊢
    clear hr h1 h2
    simp only [pair2] at C
    go_enter Tryz.func197, Tryz.ntmps197
    go_wp2_with (go_at_call 212; refine (C _).mono ?_; rintro e w' ⟨rfl, p, rfl⟩)
    go_ret
    exact gives_int rfl (by (repeat' (first | (with_reducible assumption) | (with_reducible exact Below.refl _ _) | (with_reducible refine below_wov ?_ ?_ _) | (with_reducible refine below_drewN ?_ _) | (with_reducible refine Below.drew ?_) | (with_reducible refine Below.alloc ?_ ?_ _) | (with_reducible refine Below.setCell ?_ ?_ _) | (with_reducible exact Nat.le_refl _) | omega | (simp only [World.size_alloc, World.size_setCell, World.size_drew, Wov_size, World.heap_drewN]; omega))))

theorem madeR_ok {c : Int} {s : Bool} (h1 : -288230376151711744 ≤ c) (h2 : c ≤ 288230376151711744) : (madeR c s).1 = mkB c s := by
  have : okN c = true := by unfold okN; simp; omega
  rw [madeR, if_pos this]
def sidesPost (w : World) (lo : Int) (ls : Bool) (hi : Int) (hs op : Bool) (e : Ending) (W : World) : Prop :=
  ∃ a b, e = .returned (.tuple #[.int .i64 a, .int .i64 b, .bool (spanB lo hi hs op)]) ∧ (spanB lo hi hs op = true → a = belowB lo ls ∧ b = aboveB hi hs op) ∧ ∃ q, W = Wov w q

set_option maxRecDepth 10000 in
set_option maxHeartbeats 4000000 in
theorem sides_any (lo : Int) (ls : Bool) (hi : Int) (hs op : Bool) (w : World) (hlo : fits64 lo) (hhi : fits64 hi) :
    Calls Tryz.prog 166 #[.agg #[.int .i64 lo, .bool ls, .int .i64 hi, .bool hs, .bool op]] w (sidesPost w lo ls hi hs op) := by
  unfold fits64 at hlo hhi
  by_cases h1 : lo < -288230376151711744
  · have S : Hid (spanB lo hi hs op = false) := by show _ = _; unfold spanB; rw [decide_eq_false (by omega)]; rfl
    have fin : Hid (∀ W' x1 x2, Below w.heap.size w W' → sidesPost w lo ls hi hs op (.returned (.tuple #[.int .i64 x1, .int .i64 x2, .bool false])) W') := fun W' x1 x2 hb => ⟨x1, x2, by rw [S.out], (fun h => by rw [S.out] at h; cases h), Wov_of_below hb⟩
    clear S
    go_enter Tryz.func166, Tryz.ntmps166
    go_wp2
    all_goals
      go_ret3
      exact fin.out _ _ _ (by (repeat' (first | (with_reducible assumption) | (with_reducible exact Below.refl _ _) | (with_reducible refine below_wov ?_ ?_ _) | (with_reducible refine below_drewN ?_ _) | (with_reducible refine Below.drew ?_) | (with_reducible refine Below.alloc ?_ ?_ _) | (with_reducible refine Below.setCell ?_ ?_ _) | (with_reducible exact Nat.le_refl _) | omega | (simp only [World.size_alloc, World.size_setCell, World.size_drew, Wov_size, World.heap_drewN]; omega))))
  · by_cases h2 : 288230376151711744 < lo
    · have S : Hid (spanB lo hi hs op = false) := by show _ = _; unfold spanB; rw [decide_eq_false (show ¬ lo ≤ 288230376151711744 by omega)]; simp
      have e1 : decide (lo < -288230376151711744) = false := by simp; omega
      have fin : Hid (∀ W' x1 x2, Below w.heap.size w W' → sidesPost w lo ls hi hs op (.returned (.tuple #[.int .i64 x1, .int .i64 x2, .bool false])) W') := fun W' x1 x2 hb => ⟨x1, x2, by rw [S.out], (fun h => by rw [S.out] at h; cases h), Wov_of_below hb⟩
      clear S
      go_enter Tryz.func166, Tryz.ntmps166
      go_wp2
      all_goals
        go_ret3
        exact fin.out _ _ _ (by (repeat' (first | (with_reducible assumption) | (with_reducible exact Below.refl _ _) | (with_reducible refine below_wov ?_ ?_ _) | (with_reducible refine below_drewN ?_ _) | (with_reducible refine Below.drew ?_) | (with_reducible refine Below.alloc ?_ ?_ _) | (with_reducible refine Below.setCell ?_ ?_ _) | (with_reducible exact Nat.le_refl _) | omega | (simp only [World.size_alloc, World.size_setCell, World.size_drew, Wov_size, World.heap_drewN]; omega))))
    · have e1 : decide (lo < -288230376151711744) = false := by simp; omega
      have e2 : decide (288230376151711744 < lo) = false := by simp; omega
      by_cases h3 : 288230376151711744 < hi
      · have S : Hid (spanB lo hi hs op = false) := by show _ = _; unfold spanB; rw [decide_eq_false (show ¬ hi ≤ 288230376151711744 by omega)]; simp
        have fin : Hid (∀ W' x1 x2, Below w.heap.size w W' → sidesPost w lo ls hi hs op (.returned (.tuple #[.int .i64 x1, .int .i64 x2, .bool false])) W') := fun W' x1 x2 hb => ⟨x1, x2, by rw [S.out], (fun h => by rw [S.out] at h; cases h), Wov_of_below hb⟩
        clear S
        go_enter Tryz.func166, Tryz.ntmps166
        go_wp2
        all_goals
          go_ret3
          exact fin.out _ _ _ (by (repeat' (first | (with_reducible assumption) | (with_reducible exact Below.refl _ _) | (with_reducible refine below_wov ?_ ?_ _) | (with_reducible refine below_drewN ?_ _) | (with_reducible refine Below.drew ?_) | (with_reducible refine Below.alloc ?_ ?_ _) | (with_reducible refine Below.setCell ?_ ?_ _) | (with_reducible exact Nat.le_refl _) | omega | (simp only [World.size_alloc, World.size_setCell, World.size_drew, Wov_size, World.heap_drewN]; omega))))
      · have e3 : decide (288230376151711744 < hi) = false := by simp; omega
        have W1 : Hid (wrap64 (-lo) = -lo) := wrap64_id (by omega) (by omega)
        have T1 : Hid (Pure Tryz.prog 197 #[.int .i64 (-lo), .bool ls] (.int .i64 (belowB lo ls))) := by
          have := tof_any (-lo) ls (by omega) (by omega)
          rwa [madeR_ok (by omega) (by omega)] at this
        obtain ⟨bl, hbl⟩ : ∃ b, b = belowB lo ls := ⟨_, rfl⟩
        rw [← hbl] at T1
        have HBL := Lib.hid hbl
        clear hbl
        cases op
        · have T2 := Lib.hid (tof_any hi hs (by omega) (by omega))
          obtain ⟨ab, hab⟩ : ∃ b, b = (madeR hi hs).1 := ⟨_, rfl⟩
          rw [← hab] at T2
          have S : Hid (spanB lo hi hs false = decide (lo ≤ hi)) := by show _ = _; unfold spanB; rw [decide_eq_true (show -288230376151711744 ≤ lo by omega), decide_eq_true (show lo ≤ 288230376151711744 by omega), decide_eq_true (show hi ≤ 288230376151711744 by omega)]; rfl
          have HAB : Hid (lo ≤ hi → ab = mkB hi hs) := fun h => by rw [hab]; exact madeR_ok (by omega) (by omega)
          clear hab
          have fin : Hid (∀ W', Below w.heap.size w W' → sidesPost w lo ls hi hs false (.returned (.tuple #[.int .i64 bl, .int .i64 ab, .bool (decide (lo ≤ hi))])) W') := fun W' hb => ⟨bl, ab, by rw [S.out], (fun h => ⟨HBL.out, HAB.out (by rw [S.out] at h; simpa using h)⟩), Wov_of_below hb⟩
          clear S HAB h1 h2 h3 hlo hhi
          go_enter Tryz.func166, Tryz.ntmps166
          go_wp2_with (fail)
          rw [W1.out]
          refine (T1.out _).mono ?_; rintro e w' ⟨rfl, q1, rfl⟩
          go_wp2_with (fail)
          refine wp_region_wov (by kernel_rfl) (by kernel_rfl) ?_
          repeat (go_big_quiet_step ((go_at_call 197; (first | exact (T2.out).at _ _ | exact (T2.out).at2 _ _ _ | exact (T2.out).at3 _ _ _ _ | exact (T2.out).at4 _ _ _ _ _ | exact (T2.out).at5 _ _ _ _ _ _ | exact (T2.out).at6 _ _ _ _ _ _ _))))
          refine wpQuiet_nil ?_
          rintro _ ⟨pq, rfl⟩
          go_wp2
          go_ret3
          exact fin.out _ (by (repeat' (first | (with_reducible assumption) | (with_reducible exact Below.refl _ _) | (with_reducible refine below_wov ?_ ?_ _) | (with_reducible refine below_drewN ?_ _) | (with_reducible refine Below.drew ?_) | (with_reducible refine Below.alloc ?_ ?_ _) | (with_reducible refine Below.setCell ?_ ?_ _) | (with_reducible exact Nat.le_refl _) | omega | (simp only [World.size_alloc, World.size_setCell, World.size_drew, Wov_size, World.heap_drewN]; omega))))
        · have S : Hid (spanB lo hi hs true = (decide (hi = 0) && !hs)) := by show _ = _; unfold spanB; rw [decide_eq_true (show -288230376151711744 ≤ lo by omega), decide_eq_true (show lo ≤ 288230376151711744 by omega), decide_eq_true (show hi ≤ 288230376151711744 by omega)]; rfl
          have fin : Hid (∀ W' b, b = (decide (hi = 0) && !hs) → Below w.heap.size w W' → sidesPost w lo ls hi hs true (.returned (.tuple #[.int .i64 bl, .int .i64 9223372036854775807, .bool b])) W') := fun W' b hb' hb => ⟨bl, 9223372036854775807, by rw [S.out, hb'], (fun h => ⟨HBL.out, rfl⟩), Wov_of_below hb⟩
          clear S h1 h2 h3 hlo hhi HBL
          by_cases h0 : hi = 0
          · subst h0
            go_enter Tryz.func166, Tryz.ntmps166
            go_wp2_with (fail)
            rw [W1.out]
            refine (T1.out _).mono ?_; rintro e w' ⟨rfl, q1, rfl⟩
            go_wp2
            all_goals
              go_ret3
              exact fin.out _ _ (by simp_all) (by (repeat' (first | (with_reducible assumption) | (with_reducible exact Below.refl _ _) | (with_reducible refine below_wov ?_ ?_ _) | (with_reducible refine below_drewN ?_ _) | (with_reducible refine Below.drew ?_) | (with_reducible refine Below.alloc ?_ ?_ _) | (with_reducible refine Below.setCell ?_ ?_ _) | (with_reducible exact Nat.le_refl _) | omega | (simp only [World.size_alloc, World.size_setCell, World.size_drew, Wov_size, World.heap_drewN]; omega))))
          · have b0 : (hi == 0) = false := by rw [beq_eq_false_iff_ne]; exact h0
            go_enter Tryz.func166, Tryz.ntmps166
            go_wp2_with (fail)
            rw [W1.out]
            refine (T1.out _).mono ?_; rintro e w' ⟨rfl, q1, rfl⟩
            go_wp2
            all_goals
              go_ret3
              exact fin.out _ _ (by simp [h0]) (by (repeat' (first | (with_reducible assumption) | (with_reducible exact Below.refl _ _) | (with_reducible refine below_wov ?_ ?_ _) | (with_reducible refine below_drewN ?_ _) | (with_reducible refine Below.drew ?_) | (with_reducible refine Below.alloc ?_ ?_ _) | (with_reducible refine Below.setCell ?_ ?_ _) | (with_reducible exact Nat.le_refl _) | omega | (simp only [World.size_alloc, World.size_setCell, World.size_drew, Wov_size, World.heap_drewN]; omega))))

theorem cell_four_new (w : World) (a b c d : Value) (t : TypeId) : (w.alloc (.cells #[a, b, c, d] t)).cell? ⟨w.heap.size, 0, none⟩ = some a ∧ (w.alloc (.cells #[a, b, c, d] t)).cell? ⟨w.heap.size, 1, none⟩ = some b ∧ (w.alloc (.cells #[a, b, c, d] t)).cell? ⟨w.heap.size, 2, none⟩ = some c ∧ (w.alloc (.cells #[a, b, c, d] t)).cell? ⟨w.heap.size, 3, none⟩ = some d := by
  simp [go_sem]

set_option maxRecDepth 10000 in
set_option maxHeartbeats 4000000 in
theorem between_any (n : Int) (p : Option Addr) (N cap : Nat) (f : Nat → Int) (i lo : Int) (ls : Bool) (hi : Int) (hs op : Bool) (w : World) (hn : fits64 n) (hS : SlP w p N f) (hF : Fits N f) (hN : N ≤ 1000000) (hlo : fits64 lo) (hhi : fits64 hi) :
    Calls Tryz.prog 123 #[.agg #[.int .i64 n, .slice p N cap], .int .i64 i, .agg #[.int .i64 lo, .bool ls, .int .i64 hi, .bool hs, .bool op]] w (matC w (betweenM n N f i lo ls hi hs op).n (betweenM n N f i lo ls hi hs op).N (betweenM n N f i lo ls hi hs op).f (betweenM n N f i lo ls hi hs op).e) := by
  have CK : Hid (∀ w', Below w.heap.size w w' → Calls Tryz.prog 83 #[.agg #[.int .i64 n, .slice p N cap]] w' (Gives w' (.int .i64 (rcode (okD n N f))))) := fun w' hb =>
    dbmCheck_any n p N cap f w' hn (hS.below hb) hF (by omega)
  have KI := Lib.hid (fun w' => clock_any n i p N cap w')
  have SD := Lib.hid (fun w' => sides_any lo ls hi hs op w' hlo hhi)
  obtain ⟨r, hr⟩ : ∃ r, r = betweenM n N f i lo ls hi hs op := ⟨_, rfl⟩
  rw [← hr]
  unfold betweenM at hr
  cases hok : okD n N f
  · have R : Hid (r = errM 8) := by show _ = _; rw [hr, hok]; rfl
    rw [hok] at CK
    simp only [rcode, if_true, Bool.false_eq_true, if_false] at CK
    clear hr hok hS hF KI SD
    go_enter Tryz.func123, Tryz.ntmps123
    go_wp2_with (fail)
    refine (CK.out _ (by (repeat' (first | (with_reducible assumption) | (with_reducible exact Below.refl _ _) | (with_reducible refine below_wov ?_ ?_ _) | (with_reducible refine below_drewN ?_ _) | (with_reducible refine Below.drew ?_) | (with_reducible refine Below.alloc ?_ ?_ _) | (with_reducible refine Below.setCell ?_ ?_ _) | (with_reducible exact Nat.le_refl _) | omega | (simp only [World.size_alloc, World.size_setCell, World.size_drew, Wov_size, World.heap_drewN]; omega))))).mono ?_; rintro e w' ⟨rfl, p1, rfl⟩
    go_wp2
    go_returns
    rw [R.out]
    exact matC_err rfl (by (repeat' (first | (with_reducible assumption) | (with_reducible exact Below.refl _ _) | (with_reducible refine below_wov ?_ ?_ _) | (with_reducible refine below_drewN ?_ _) | (with_reducible refine Below.drew ?_) | (with_reducible refine Below.alloc ?_ ?_ _) | (with_reducible refine Below.setCell ?_ ?_ _) | (with_reducible exact Nat.le_refl _) | omega | (simp only [World.size_alloc, World.size_setCell, World.size_drew, Wov_size, World.heap_drewN]; omega))))
  · rw [hok] at CK
    rw [hok, if_pos rfl] at hr
    simp only [rcode, if_true, Bool.false_eq_true, if_false] at CK
    by_cases hi' : 0 ≤ i ∧ i < n
    · rw [decide_eq_true hi'] at KI
      rw [if_pos hi'] at hr
      cases hm : spanB lo hi hs op
      · have R : Hid (r = errM 8) := by show _ = _; rw [hr, hm]; rfl
        unfold sidesPost at SD
        rw [hm] at SD
        clear hr hok hS hF hm hi'
        go_enter Tryz.func123, Tryz.ntmps123
        go_wp2_with (fail)
        refine (CK.out _ (by (repeat' (first | (with_reducible assumption) | (with_reducible exact Below.refl _ _) | (with_reducible refine below_wov ?_ ?_ _) | (with_reducible refine below_drewN ?_ _) | (with_reducible refine Below.drew ?_) | (with_reducible refine Below.alloc ?_ ?_ _) | (with_reducible refine Below.setCell ?_ ?_ _) | (with_reducible exact Nat.le_refl _) | omega | (simp only [World.size_alloc, World.size_setCell, World.size_drew, Wov_size, World.heap_drewN]; omega))))).mono ?_; rintro e w' ⟨rfl, p1, rfl⟩
        go_wp2_with (fail)
        refine (KI.out _).mono ?_; rintro e w' ⟨rfl, p2, rfl⟩
        go_wp2_with (fail)
        refine (SD.out _).mono ?_; rintro e w' ⟨x1, x2, rfl, _, p3, rfl⟩
        go_wp2
        go_returns
        rw [R.out]
        exact matC_err rfl (by (repeat' (first | (with_reducible assumption) | (with_reducible exact Below.refl _ _) | (with_reducible refine below_wov ?_ ?_ _) | (with_reducible refine below_drewN ?_ _) | (with_reducible refine Below.drew ?_) | (with_reducible refine Below.alloc ?_ ?_ _) | (with_reducible refine Below.setCell ?_ ?_ _) | (with_reducible exact Nat.le_refl _) | omega | (simp only [World.size_alloc, World.size_setCell, World.size_drew, Wov_size, World.heap_drewN]; omega))))
      · rw [hm, if_pos rfl] at hr
        have bA := belowB_may (ls := ls) hm
        have bB := aboveB_may hm
        unfold sidesPost at SD
        rw [hm] at SD
        obtain ⟨m, rfl, rfl, hm0, hm4⟩ := okD_form hok
        obtain ⟨a, rfl⟩ : ∃ a : Nat, i = (a : Int) := ⟨i.toNat, by omega⟩
        have hlt := place_lt (n := m) (i := a) (j := 0) (by omega) (by omega)
        have hlt0 := place_lt (n := m) (i := 0) (j := a) (by omega) (by omega)
        have hmm : m * m ≤ 4 * 4 := Nat.mul_le_mul hm4 hm4
        obtain ⟨q, hq⟩ : ∃ q : Nat, q = a * m := ⟨_, rfl⟩
        have hqm : (a : Int) * (m : Int) = (q : Int) := by rw [hq]; push_cast; rfl
        rw [hqm] at hr
        rw [← hq] at hlt
        have h3 : IntKind.i64.wrap (q : Int) = (q : Int) := by rw [IntKind.wrap_i64]; omega
        obtain ⟨b1, hb1⟩ : ∃ b, b = belowB lo ls := ⟨_, rfl⟩
        obtain ⟨b2, hb2⟩ : ∃ b, b = aboveB hi hs op := ⟨_, rfl⟩
        rw [← hb1, ← hb2] at hr
        rw [← hb1] at bA
        rw [← hb2] at bB
        have SD2 : Hid (∀ w', Calls Tryz.prog 166 #[.agg #[.int .i64 lo, .bool ls, .int .i64 hi, .bool hs, .bool op]] w' (Gives w' (.tuple #[.int .i64 b1, .int .i64 b2, .bool true]))) := fun w' => (SD.out w').mono fun e W ⟨x1, x2, he, hx, hq⟩ => by
          obtain ⟨e1, e2⟩ := hx rfl
          exact ⟨by rw [he, e1, e2, hb1, hb2], hq⟩
        have WT : Hid (∀ W B, Below w.heap.size w W → W.cell? ⟨B, 0, none⟩ = some (.int .i64 (a : Int)) → W.cell? ⟨B, 1, none⟩ = some (.int .i64 b1) → W.cell? ⟨B, 2, none⟩ = some (.int .i64 (q : Int)) → W.cell? ⟨B, 3, none⟩ = some (.int .i64 b2) → B < W.heap.size →
            Calls Tryz.prog 167 #[.agg #[.int .i64 m, .slice p (m * m) cap], .slice (some ⟨B, 0, none⟩) 2 2] W (matC W r.n r.N r.f r.e)) := fun W B hbw k0 k1 k2 k3 hB => by
          rw [hr]
          refine with_any m p (m * m) cap f (some ⟨B, 0, none⟩) 2 2 (fun x => if x = 0 then ((a : Int), b1) else ((q : Int), b2)) _ W hn (hS.below hbw) hF (by omega) (by omega) (.inr ⟨B, 0, rfl, hB, fun x hx => ?_⟩) (by omega) (fun k hk => ?_) (fun x hx => rfl) (fun x hx => ?_)
          · rcases x with _ | _ | x
            · exact ⟨k0, k1⟩
            · exact ⟨k2, k3⟩
            · omega
          · rcases k with _ | k
            · exact ⟨a, rfl, by omega⟩
            · exact ⟨q, rfl, by omega⟩
          · have g1 : ∀ y, y < m * m → fits64 (moreAt f ((a : Int)).toNat b1 y) := fun y hy => by
              unfold moreAt upd
              split
              · rename_i e; subst e; exact fits_min (hF _ hy) (mayB_fits bA)
              · exact hF y hy
            unfold moreAt upd
            split
            · rename_i e; subst e; exact fits_min (g1 _ hx) (mayB_fits bB)
            · exact g1 x hx
        clear hr hok hS hF hm hi' hq SD hb1 hb2 bA bB
        go_enter Tryz.func123, Tryz.ntmps123
        go_wp2_with (fail)
        refine (CK.out _ (by (repeat' (first | (with_reducible assumption) | (with_reducible exact Below.refl _ _) | (with_reducible refine below_wov ?_ ?_ _) | (with_reducible refine below_drewN ?_ _) | (with_reducible refine Below.drew ?_) | (with_reducible refine Below.alloc ?_ ?_ _) | (with_reducible refine Below.setCell ?_ ?_ _) | (with_reducible exact Nat.le_refl _) | omega | (simp only [World.size_alloc, World.size_setCell, World.size_drew, Wov_size, World.heap_drewN]; omega))))).mono ?_; rintro e w' ⟨rfl, p1, rfl⟩
        go_wp2_with (fail)
        refine (KI.out _).mono ?_; rintro e w' ⟨rfl, p2, rfl⟩
        go_wp2_with (fail)
        refine (SD2.out _).mono ?_; rintro e w' ⟨rfl, p3, rfl⟩
        go_wp2_with (fail)
        refine (WT.out _ _ (by (repeat' (first | (with_reducible assumption) | (with_reducible exact Below.refl _ _) | (with_reducible refine below_wov ?_ ?_ _) | (with_reducible refine below_drewN ?_ _) | (with_reducible refine Below.drew ?_) | (with_reducible refine Below.alloc ?_ ?_ _) | (with_reducible refine Below.setCell ?_ ?_ _) | (with_reducible exact Nat.le_refl _) | omega | (simp only [World.size_alloc, World.size_setCell, World.size_drew, Wov_size, World.heap_drewN]; omega)))) (by simp [go_sem]) (by simp [go_sem]) (by simp [go_sem]) (by simp [go_sem]) (by simp only [World.size_alloc, World.size_setCell, Wov_size, Array.size_append]; omega)).mono ?_; rintro e w' ⟨⟨p5, cap5, rfl, ho⟩, q5, rfl⟩
        have HO := Lib.hid ho
        clear ho
        go_wp2
        go_returns
        refine ⟨⟨p5, cap5, rfl, ?_⟩, Wov_of_below (by (repeat' (first | (with_reducible assumption) | (with_reducible exact Below.refl _ _) | (with_reducible refine below_wov ?_ ?_ _) | (with_reducible refine below_drewN ?_ _) | (with_reducible refine Below.drew ?_) | (with_reducible refine Below.alloc ?_ ?_ _) | (with_reducible refine Below.setCell ?_ ?_ _) | (with_reducible exact Nat.le_refl _) | omega | (simp only [World.size_alloc, World.size_setCell, World.size_drew, Wov_size, World.heap_drewN]; omega))))⟩
        exact (HO.out.chg (B := w.heap.size + 2) (by simp only [World.size_alloc, World.size_setCell, Wov_size, Array.size_append]; omega) ((Chg.set _ _ _ _).trans (Chg.set _ _ _ _))).later (by simp only [World.size_alloc, World.size_setCell, Wov_size, Array.size_append]; omega)
    · have R : Hid (r = errM 2) := by show _ = _; rw [hr, if_neg hi']
      rw [decide_eq_false hi'] at KI
      clear hr hok hS hF hi' SD
      go_enter Tryz.func123, Tryz.ntmps123
      go_wp2_with (fail)
      refine (CK.out _ (by (repeat' (first | (with_reducible assumption) | (with_reducible exact Below.refl _ _) | (with_reducible refine below_wov ?_ ?_ _) | (with_reducible refine below_drewN ?_ _) | (with_reducible refine Below.drew ?_) | (with_reducible refine Below.alloc ?_ ?_ _) | (with_reducible refine Below.setCell ?_ ?_ _) | (with_reducible exact Nat.le_refl _) | omega | (simp only [World.size_alloc, World.size_setCell, World.size_drew, Wov_size, World.heap_drewN]; omega))))).mono ?_; rintro e w' ⟨rfl, p1, rfl⟩
      go_wp2_with (fail)
      refine (KI.out _).mono ?_; rintro e w' ⟨rfl, p2, rfl⟩
      go_wp2
      go_returns
      rw [R.out]
      exact matC_err rfl (by (repeat' (first | (with_reducible assumption) | (with_reducible exact Below.refl _ _) | (with_reducible refine below_wov ?_ ?_ _) | (with_reducible refine below_drewN ?_ _) | (with_reducible refine Below.drew ?_) | (with_reducible refine Below.alloc ?_ ?_ _) | (with_reducible refine Below.setCell ?_ ?_ _) | (with_reducible exact Nat.le_refl _) | omega | (simp only [World.size_alloc, World.size_setCell, World.size_drew, Wov_size, World.heap_drewN]; omega))))
#print axioms between_any
end Go.Proofs.YtpmpapenjcemjaaGreatDoor

namespace Go.Proofs.YtpmpapenjcemjaaGreatDoor
set_option linter.unusedSimpArgs false
set_option linter.unusedVariables false
open Go Go.RowKit

/-- A matrix in a variable of its own: block A. -/
structure BoxM (W : World) (A : Nat) (n : Int) (p : Option Addr) (N cap : Nat) (f : Nat → Int) : Prop where
  lt : A < W.heap.size
  c0 : W.cell? ⟨A, 0, none⟩ = some (.int .i64 n)
  c1 : W.cell? ⟨A, 1, none⟩ = some (.slice p N cap)
  sl : SlP W p N f
theorem BoxM.below {W W' : World} {A : Nat} {n : Int} {p : Option Addr} {N cap : Nat} {f : Nat → Int} (h : BoxM W A n p N cap f) (hb : Below W.heap.size W W') : BoxM W' A n p N cap f :=
  ⟨Nat.lt_of_lt_of_le h.lt hb.size, (hb.cell (p := ⟨A, 0, none⟩) h.lt).trans h.c0, (hb.cell (p := ⟨A, 1, none⟩) h.lt).trans h.c1, h.sl.below hb⟩
theorem BoxM.new {W : World} {A : Nat} {n : Int} {p : Option Addr} {N cap : Nat} {f : Nat → Int} {t : TypeId} (h : SlP W p N f) (hA : A = W.heap.size) : BoxM (W.alloc (.cells #[.int .i64 n, .slice p N cap] t)) A n p N cap f := by
  subst hA
  exact ⟨by simp, by simp [go_sem], by simp [go_sem], h.below ((Below.refl _ _).alloc (Nat.le_refl _) _)⟩
end Go.Proofs.YtpmpapenjcemjaaGreatDoor

namespace Go.Proofs.YtpmpapenjcemjaaGreatDoor
set_option linter.unusedSimpArgs false
set_option linter.unusedVariables false
open Go Go.RowKit Go.Shelf
attribute [local go_sem] Nat.add_assoc Nat.add_lt_add_iff_left lit_lt_add

/-- The times, behind that of clock 0: one append, of however many. -/
theorem wpList_all {ops : Array Oper} {rest : List Oper} {o : Oper} {a : Act} {Q : Exit → Act → World → Prop} (X : World) (g : Nat) (hgx : X.heap.size = g)
    (hgd : o.guard = none) (s x : Operand) (hop : o.op = Op.call { callee := Callee.builtin Builtin.append, args := #[s, x], argTypes := #[98, 98] }) (hty : o.type = 98)
    (hs : a.eval s = .slice (some ⟨g, 0, none⟩) 1 1) (q : Option Addr) (M cq : Nat) (T : Nat → Int × Int) (hx : a.eval x = .slice q M cq) (hR : SlR X q M T) (hM : M ≤ 1000000)
    (h : ∀ Z cap w', Below g (X.alloc (.cells #[.int .i64 0, .int .i64 1] 51)) w' → g ≤ Z → Z < w'.heap.size → HoldsR w' Z (M + 1) (tm T) → wpList Tryz.prog ops Q rest (a.put o.dst (.slice (some ⟨Z, 0, none⟩) (M + 1) cap)) w') :
    wpList Tryz.prog ops Q (o :: rest) a (X.alloc (.cells #[.int .i64 0, .int .i64 1] 51)) := by
  refine wpList_plain hgd fun K hK' => ?_
  subst hgx
  unfold Oper.wp
  by_cases h0 : M = 0
  · subst h0
    have hrun := append_nothing (X.alloc (.cells #[.int .i64 0, .int .i64 1] 51)) X.heap.size q cq
    simp [execOp, hop, hty, resolve, invoke, builtin, hs, hx, hrun, Result.andThen]
    refine hK' _ _ (h X.heap.size 1 _ (Below.refl _ _) (Nat.le_refl _) (by simp) ?_)
    intro y hy
    obtain rfl : y = 0 := by omega
    constructor <;> simp [go_sem, tm]
  · obtain ⟨B, off, rfl, hB, hc⟩ : ∃ B off, q = some ⟨B, off, none⟩ ∧ B < X.heap.size ∧ ∀ x, x < M → X.cell? ⟨B, off + x * 2, none⟩ = some (.int .i64 (T x).1) ∧ X.cell? ⟨B, off + (x * 2 + 1), none⟩ = some (.int .i64 (T x).2) := by
      rcases hR with h | h
      · omega
      · exact h
    obtain ⟨i0, hi, hz1, hz2⟩ : ∃ i0, Tryz.prog.info? 51 = some i0 ∧ i0.size = 2 ∧ i0.bytes = 16 := by
      have := infoR
      cases h : Tryz.prog.info? 51 with
      | none => rw [h] at this; cases this
      | some i => rw [h] at this; simp at this; exact ⟨i, rfl, this.1, this.2⟩
    have hz0 : i0.zero = some (.agg #[.int .i64 0, .int .i64 0]) := by
      have := infoRz
      rw [hi] at this; simpa using this
    obtain ⟨v', w', hrun, r1, r2, r3⟩ := run_append_own (P := Tryz.prog) (X.alloc (.cells #[.int .i64 0, .int .i64 1] 51)) X.heap.size 98 98 51 i0 (.agg #[.int .i64 0, .int .i64 0]) 2 16 Tryz.underlying98 hi hz0 hz1 hz2 rfl (by decide) _ 1 _ (row_lit X T X.heap.size (Nat.le_refl _)) ⟨B, off, none⟩ M cq (cellsR T M) (cellsR_len T M)
      (fun j u hj => by
        rw [Addr.add_lit]
        obtain ⟨y, hy, ⟨rfl, rfl⟩ | ⟨rfl, rfl⟩⟩ := cellsR_get' hj
        · exact (World.cell?_alloc_lt _ _ _ hB).trans (hc y hy).1
        · exact (World.cell?_alloc_lt _ _ _ hB).trans (hc y hy).2) cellsR_one (by unfold maxLen; omega) (by omega) (by simp)
    rw [cellsR_tm, Nat.add_comm 1 M] at r1
    obtain ⟨Z, cap, rfl, z1, z2, z3⟩ := holdsR_of_row (by omega) r1
    simp [execOp, hop, hty, resolve, invoke, builtin, hs, hx, hrun, Result.andThen]
    refine hK' _ _ (h Z cap _ ⟨r2.os, r2.tape, r2.output, r2.size, fun k hk => r2.block k (by simp; omega) (fun e => by simp [Value.ownBlock] at e; omega)⟩ z1 z2 z3)


theorem slR_of {W : World} {B M : Nat} {T : Nat → Int × Int} (h : HoldsR W B M T) (hB : B < W.heap.size) : SlR W (some ⟨B, 0, none⟩) M T := .inr ⟨B, 0, rfl, hB, fun x hx => by rw [Nat.zero_add, Nat.zero_add]; exact h x hx⟩

/-- A span in a variable of its own. -/
structure BoxS (W : World) (A : Nat) (lo : Int) (ls : Bool) (hi : Int) (hs op : Bool) : Prop where
  lt : A < W.heap.size
  c0 : W.cell? ⟨A, 0, none⟩ = some (.int .i64 lo)
  c1 : W.cell? ⟨A, 1, none⟩ = some (.bool ls)
  c2 : W.cell? ⟨A, 2, none⟩ = some (.int .i64 hi)
  c3 : W.cell? ⟨A, 3, none⟩ = some (.bool hs)
  c4 : W.cell? ⟨A, 4, none⟩ = some (.bool op)
theorem BoxS.below {W W' : World} {A : Nat} {lo : Int} {ls : Bool} {hi : Int} {hs op : Bool} (h : BoxS W A lo ls hi hs op) (hb : Below W.heap.size W W') : BoxS W' A lo ls hi hs op :=
  ⟨Nat.lt_of_lt_of_le h.lt hb.size, (hb.cell (p := ⟨A, 0, none⟩) h.lt).trans h.c0, (hb.cell (p := ⟨A, 1, none⟩) h.lt).trans h.c1, (hb.cell (p := ⟨A, 2, none⟩) h.lt).trans h.c2, (hb.cell (p := ⟨A, 3, none⟩) h.lt).trans h.c3, (hb.cell (p := ⟨A, 4, none⟩) h.lt).trans h.c4⟩
theorem BoxS.new {W : World} {A : Nat} {lo : Int} {ls : Bool} {hi : Int} {hs op : Bool} {t : TypeId} (hA : A = W.heap.size) : BoxS (W.alloc (.cells #[.int .i64 lo, .bool ls, .int .i64 hi, .bool hs, .bool op] t)) A lo ls hi hs op := by
  subst hA
  exact ⟨by simp, by simp [go_sem], by simp [go_sem], by simp [go_sem], by simp [go_sem], by simp [go_sem]⟩
/-- A fraction in a variable of its own. -/
structure BoxR (W : World) (A : Nat) (a b : Int) : Prop where
  lt : A < W.heap.size
  c0 : W.cell? ⟨A, 0, none⟩ = some (.int .i64 a)
  c1 : W.cell? ⟨A, 1, none⟩ = some (.int .i64 b)
theorem BoxR.below {W W' : World} {A : Nat} {a b : Int} (h : BoxR W A a b) (hb : Below W.heap.size W W') : BoxR W' A a b :=
  ⟨Nat.lt_of_lt_of_le h.lt hb.size, (hb.cell (p := ⟨A, 0, none⟩) h.lt).trans h.c0, (hb.cell (p := ⟨A, 1, none⟩) h.lt).trans h.c1⟩
theorem BoxR.new {W : World} {A : Nat} {a b : Int} {t : TypeId} (hA : A = W.heap.size) : BoxR (W.alloc (.cells #[.int .i64 a, .int .i64 b] t)) A a b := by
  subst hA
  exact ⟨by simp, by simp [go_sem], by simp [go_sem]⟩
end Go.Proofs.YtpmpapenjcemjaaGreatDoor

namespace Go.Proofs.YtpmpapenjcemjaaGreatDoor
open Go.ChangeShapes Go.WideShapes Go.ChangeAt Go.RowKit Go.Joins Go.Deep
set_option linter.unusedSimpArgs false
set_option linter.unusedVariables false
set_option maxRecDepth 10000

theorem cellsSpan : Tryz.prog.cellsOf 147 = 5 := by kernel_rfl
theorem array5 {α : Type} {cs : Array α} (h : cs.size = 5) : ∃ c0 c1 c2 c3 c4, cs = #[c0, c1, c2, c3, c4] := by
  obtain ⟨l⟩ := cs
  match l, h with
  | [c0, c1, c2, c3, c4], _ => exact ⟨c0, c1, c2, c3, c4, rfl⟩
section
variable {H : Type} {enc : TypeId × Value → H} {P : Program} {w : World} {base : Nat} {spare : Nat → Bool} {held : Bool}
theorem trod_struct5 {t : TypeId} {f0 f1 f2 f3 f4 : Field} {fuel : Nat} {cs : List Value} {x : DataW H × List MemPlace} (ht : P.underlying t = some (.struct #[f0, f1, f2, f3, f4])) (h : DataW.trod enc P w base spare held fuel t cs = some x) :
    ∃ y0 y1 y2 y3 y4 n, DataW.trod enc P w base spare held n f0.type ((cs.drop f0.offset).take (P.cellsOf f0.type)) = some y0 ∧
      DataW.trod enc P w base spare held n f1.type ((cs.drop f1.offset).take (P.cellsOf f1.type)) = some y1 ∧ DataW.trod enc P w base spare held n f2.type ((cs.drop f2.offset).take (P.cellsOf f2.type)) = some y2 ∧
      DataW.trod enc P w base spare held n f3.type ((cs.drop f3.offset).take (P.cellsOf f3.type)) = some y3 ∧ DataW.trod enc P w base spare held n f4.type ((cs.drop f4.offset).take (P.cellsOf f4.type)) = some y4 := by
  obtain ⟨xs, n, _, rfl, hl, hlen, hf⟩ := DataW.trod_struct ht h
  match xs, hlen with
  | [y0, y1, y2, y3, y4], _ => exact ⟨y0, y1, y2, y3, y4, n, by simpa using hf 0 f0 rfl, by simpa using hf 1 f1 rfl, by simpa using hf 2 f2 rfl, by simpa using hf 3 f3 rfl, by simpa using hf 4 f4 rfl⟩
theorem open_agg5 {r : Reach} {b0 : Nat} {t : TypeId} {f0 f1 f2 f3 f4 : Field} {v : Value} {d : DataW H} {p : List MemPlace} (hs : P.underlying t = some (.struct #[f0, f1, f2, f3, f4])) (hone : oneCellFields P #[f0, f1, f2, f3, f4] = true) (hC : P.cellsOf t = 5)
    (hv : Value.okWide P w r b0 t v) (h : DataW.Trod enc P w base spare held t v d p) :
    ∃ (v0 v1 v2 v3 v4 : Value) (y0 y1 y2 y3 y4 : DataW H × List MemPlace) (n : Nat), v = .agg #[v0, v1, v2, v3, v4] ∧
      DataW.trod enc P w base spare held n f0.type [v0] = some y0 ∧ DataW.trod enc P w base spare held n f1.type [v1] = some y1 ∧ DataW.trod enc P w base spare held n f2.type [v2] = some y2 ∧ DataW.trod enc P w base spare held n f3.type [v3] = some y3 ∧ DataW.trod enc P w base spare held n f4.type [v4] = some y4 := by
  obtain ⟨cs, rfl, hsz⟩ := okWide_struct hs hv
  obtain ⟨c0, c1, c2, c3, c4, rfl⟩ := array5 (hsz.trans hC)
  obtain ⟨fuel, hf⟩ := h
  obtain ⟨y0, y1, y2, y3, y4, n, h0, h1, h2, h3, h4⟩ := trod_struct5 hs hf
  obtain ⟨o0, k0⟩ := hone_of hone 0 f0 rfl
  obtain ⟨o1, k1⟩ := hone_of hone 1 f1 rfl
  obtain ⟨o2, k2⟩ := hone_of hone 2 f2 rfl
  obtain ⟨o3, k3⟩ := hone_of hone 3 f3 rfl
  obtain ⟨o4, k4⟩ := hone_of hone 4 f4 rfl
  exact ⟨c0, c1, c2, c3, c4, y0, y1, y2, y3, y4, n, rfl, by simpa [Value.cells, o0, k0] using h0, by simpa [Value.cells, o1, k1] using h1, by simpa [Value.cells, o2, k2] using h2, by simpa [Value.cells, o3, k3] using h3, by simpa [Value.cells, o4, k4] using h4⟩
end
theorem open_span {H : Type} {enc : TypeId × Value → H} {W : World} {base : Nat} {v : Value} {d : DataW H} {p : List MemPlace}
    (hv : Value.okWide Tryz.prog W .any base 147 v) (h : DataW.Trod enc Tryz.prog W 0 (fun _ => true) true 147 v d p) :
    ∃ (lo : Int) (ls : Bool) (hi : Int) (hs op : Bool), v = .agg #[.int .i64 lo, .bool ls, .int .i64 hi, .bool hs, .bool op] ∧ fits64 lo ∧ fits64 hi := by
  obtain ⟨c0, c1, c2, c3, c4, y0, y1, y2, y3, y4, k, rfl, h0, h1, h2, h3, h4⟩ := open_agg5 Tryz.underlying147 (by kernel_rfl) cellsSpan hv h
  obtain ⟨lo, e0, rfl, wa⟩ := DataW.trod_int Tryz.underlying3 h0
  obtain ⟨ls, e1, rfl⟩ := DataW.trod_bool Tryz.underlying4 h1
  obtain ⟨hi, e2, rfl, wb⟩ := DataW.trod_int Tryz.underlying3 h2
  obtain ⟨hs, e3, rfl⟩ := DataW.trod_bool Tryz.underlying4 h3
  obtain ⟨op, e4, rfl⟩ := DataW.trod_bool Tryz.underlying4 h4
  simp at e0 e1 e2 e3 e4
  subst e0 e1 e2 e3 e4
  exact ⟨lo, ls, hi, hs, op, rfl, fits_of_wf wa, fits_of_wf wb⟩
end Go.Proofs.YtpmpapenjcemjaaGreatDoor
