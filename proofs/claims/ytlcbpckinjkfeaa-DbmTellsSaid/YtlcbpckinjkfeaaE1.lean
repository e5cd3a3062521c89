/- Plain laws of matrices with bounds more, and of what two have in common. No condition. -/
import Derived.Test.YtlcbpckinjkfeaaD17
import Derived.Test.YtlcbpckinjkfeaaD20
import Derived.Test.YtlcbpckinjkfeaaD21
namespace Go.Proofs.Ytlcbpckinjkfeaa
set_option linter.unusedSimpArgs false
set_option linter.unusedVariables false
open Go Go.RowKit

def moreAt (f : Nat → Int) (x : Nat) (b : Int) : Nat → Int := upd f x (min (f x) b)
def lessF (f g : Nat → Int) : Nat → Int := fun x => min (f x) (g x)
/-- A matrix and an error's number. -/
structure MR where
  n : Int
  N : Nat
  f : Nat → Int
  e : Int
def errM (e : Int) : MR := ⟨0, 0, fun _ => 0, e⟩
def mR (n : Int) (N : Nat) (r : Option (Nat → Int) × Int) : MR := match r.1 with
  | none => errM r.2
  | some c => ⟨n, N, c, r.2⟩
def closeM (n : Int) (N : Nat) (f : Nat → Int) : MR := mR n N (closeR n N f)
def setM (n : Int) (N : Nat) (f : Nat → Int) (i j b : Int) : MR :=
  if okD n N f then (if 0 ≤ i ∧ i < n ∧ 0 ≤ j ∧ j < n then (if mayB b then closeM n N (moreAt f (i * n + j).toNat b) else errM 8) else errM 2) else errM 8
def meetM (n1 : Int) (N1 : Nat) (f1 : Nat → Int) (n2 : Int) (N2 : Nat) (f2 : Nat → Int) : MR :=
  if okD n1 N1 f1 && okD n2 N2 f2 then (if n1 = n2 then closeM n1 N1 (lessF f1 f2) else errM 40) else errM 8
def sameM (a b : MR) : Bool := sameB a.n a.N a.f b.n b.N b.f

theorem mayB_le {x : Int} (h : mayB x = true) : x ≤ noneB := by
  rcases mayB_bd h with h | h
  · omega
  · unfold bnum at h; unfold noneB; omega
theorem mayB_min {x y : Int} (h : mayB x = true) (g : mayB y = true) : mayB (min x y) = true := by
  rcases Int.le_total x y with l | l
  · rw [Int.min_eq_left l]; exact h
  · rw [Int.min_eq_right l]; exact g
theorem ele_min {x : EB} {u v : Int} (hu : u ≤ noneB) (hv : v ≤ noneB) : ele x (eb (min u v)) ↔ ele x (eb u) ∧ ele x (eb v) := by
  have mono : ∀ {a b : Int}, a ≤ b → b ≤ noneB → ele x (eb a) → ele x (eb b) := by
    intro a b hab hb h
    unfold eb at h ⊢
    by_cases e : b = noneB
    · rw [if_pos e]; exact ele_none x
    · rw [if_neg e]
      rw [if_neg (by omega)] at h
      exact ele_trans h hab
  rcases Int.le_total u v with l | l
  · rw [Int.min_eq_left l]
    exact ⟨fun h => ⟨h, mono l hv h⟩, fun h => h.1⟩
  · rw [Int.min_eq_right l]
    exact ⟨fun h => ⟨mono l hu h, h⟩, fun h => h.2⟩

theorem under_more {n a b : Nat} {f : Nat → Int} {v : Int} {q : Nat → Nat → EB} (ha : a < n) (hb : b < n) (hf : ∀ i j, i < n → j < n → f (i * n + j) ≤ noneB) (hv : v ≤ noneB) :
    Under n q (mE n (moreAt f (a * n + b) v)) ↔ Under n q (mE n f) ∧ ele (q a b) (eb v) := by
  have pt : ∀ i j, i < n → j < n → mE n (moreAt f (a * n + b) v) i j = if i = a ∧ j = b then eb (min (f (a * n + b)) v) else mE n f i j := by
    intro i j hi hj
    unfold mE moreAt upd
    by_cases e : i * n + j = a * n + b
    · obtain ⟨rfl, rfl⟩ := place_inj hj hb e
      rw [if_pos rfl, if_pos ⟨rfl, rfl⟩]
    · rw [if_neg e, if_neg (fun ⟨h, g⟩ => e (by rw [h, g]))]
  constructor
  · intro h
    have hab := h a b ha hb
    rw [pt a b ha hb, if_pos ⟨rfl, rfl⟩, ele_min (hf a b ha hb) hv] at hab
    refine ⟨fun i j hi hj => ?_, hab.2⟩
    have := h i j hi hj
    rw [pt i j hi hj] at this
    split at this
    · rename_i e; obtain ⟨rfl, rfl⟩ := e; exact hab.1
    · exact this
  · rintro ⟨h, g⟩ i j hi hj
    rw [pt i j hi hj]
    split
    · rename_i e; obtain ⟨rfl, rfl⟩ := e
      exact (ele_min (hf i j hi hj) hv).2 ⟨h i j hi hj, g⟩
    · exact h i j hi hj
theorem under_less {n : Nat} {f g : Nat → Int} {q : Nat → Nat → EB} (hf : ∀ i j, i < n → j < n → f (i * n + j) ≤ noneB) (hg : ∀ i j, i < n → j < n → g (i * n + j) ≤ noneB) :
    Under n q (mE n (lessF f g)) ↔ Under n q (mE n f) ∧ Under n q (mE n g) := by
  constructor
  · intro h
    exact ⟨fun i j hi hj => ((ele_min (hf i j hi hj) (hg i j hi hj)).1 (h i j hi hj)).1, fun i j hi hj => ((ele_min (hf i j hi hj) (hg i j hi hj)).1 (h i j hi hj)).2⟩
  · rintro ⟨h, k⟩ i j hi hj
    exact (ele_min (hf i j hi hj) (hg i j hi hj)).2 ⟨h i j hi hj, k i j hi hj⟩

theorem okD_le {n : Nat} {f : Nat → Int} (h : okD n (n * n) f = true) : ∀ i j, i < n → j < n → f (i * n + j) ≤ noneB := fun i j hi hj => mayB_le (bd_mayB ((okD_bd h).2.2 i j hi hj))
theorem okD_may {n : Int} {N : Nat} {f : Nat → Int} (h : okD n N f = true) : ∀ x, x < N → mayB (f x) = true := by
  simp only [okD, Bool.and_eq_true, decide_eq_true_eq] at h
  exact allMay_iff.1 h.2.2.2
theorem okD_of {n : Int} {N : Nat} {f g : Nat → Int} (h : okD n N f = true) (hg : ∀ x, x < N → mayB (g x) = true) : okD n N g = true := by
  simp only [okD, Bool.and_eq_true, decide_eq_true_eq] at h ⊢
  exact ⟨h.1, h.2.1, h.2.2.1, allMay_iff.2 hg⟩
theorem okD_more {n : Int} {N : Nat} {f : Nat → Int} {x : Nat} {v : Int} (h : okD n N f = true) (hv : mayB v = true) : okD n N (moreAt f x v) = true := by
  refine okD_of h fun y hy => ?_
  unfold moreAt upd
  split
  · rename_i e; subst e; exact mayB_min (okD_may h _ hy) hv
  · exact okD_may h _ hy
theorem okD_less {n : Int} {N : Nat} {f g : Nat → Int} (h : okD n N f = true) (hg : okD n N g = true) : okD n N (lessF f g) = true :=
  okD_of h fun y hy => mayB_min (okD_may h _ hy) (okD_may hg _ hy)

/-- What closing gives. -/
theorem closeM_cases {n : Nat} {f : Nat → Int} (hok : okD n (n * n) f = true) :
    (∃ c, closeM n (n * n) f = ⟨n, n * n, c, 0⟩ ∧ ClosedI n f c) ∨ (closeM n (n * n) f = errM 6 ∧ closeE n (mE n f) = none) := by
  obtain ⟨h1, h2, hb⟩ := okD_bd hok
  cases hc : closeI n f with
  | none =>
    right
    refine ⟨?_, close_none h2 hb hc⟩
    unfold closeM closeR
    rw [hok, if_pos rfl, show ((n : Int)).toNat = n from rfl, hc]; rfl
  | some c =>
    left
    refine ⟨c, ?_, close_facts h1 h2 hb hc⟩
    unfold closeM closeR
    rw [hok, if_pos rfl, show ((n : Int)).toNat = n from rfl, hc]; rfl
theorem closeM_bad {n : Int} {N : Nat} {f : Nat → Int} (hok : okD n N f = false) : closeM n N f = errM 8 := by
  unfold closeM closeR; rw [hok]; rfl
/-- What is closed and under a matrix is under its closed one, and the other way round. -/
theorem ClosedI.iff {n : Nat} {f c : Nat → Int} (h : ClosedI n f c) {q : Nat → Nat → EB} (hq : Closed n q) : Under n q (mE n f) ↔ Under n q (mE n c) := by
  obtain ⟨e, he, hce⟩ := h.ex
  constructor
  · intro hu
    obtain ⟨c', h1, h2⟩ := closeE_greatest hq hu
    rw [he] at h1; cases h1
    intro i j hi hj
    show ele _ (eb (c (i * n + j)))
    rw [hce i j hi hj]; exact h2 i j hi hj
  · exact fun hu => under_trans hu h.closed.2
theorem none_no {n : Nat} {d q : Nat → Nat → EB} (h : closeE n d = none) (hq : Closed n q) : ¬ Under n q d := fun hu => by
  obtain ⟨c, hc, _⟩ := closeE_greatest hq hu
  rw [h] at hc; cases hc
theorem ClosedI.pt {n : Nat} {f c : Nat → Int} {e : Nat → Nat → EB} (h : ClosedI n f c) (hE : Closed n e) (h1 : Under n e (mE n f)) (h2 : ∀ q, Closed n q → Under n q (mE n f) → Under n q e) : ∀ i j, i < n → j < n → eb (c (i * n + j)) = e i j := fun i j hi hj =>
  ele_antisymm (h2 _ h.closed.1 h.closed.2 i j hi hj) ((h.iff hE).1 h1 i j hi hj)

theorem sameB_of {n : Int} {N : Nat} {f g : Nat → Int} (h : ∀ x, x < N → f x = g x) : sameB n N f n N g = true := by
  simp only [sameB, decide_true, Bool.true_and]
  exact eqB_t h
theorem sameM_err (e e' : Int) : sameM (errM e) (errM e') = true := sameB_of fun x hx => by simp [errM] at hx
theorem sameM_refl (a : MR) : sameM a a = true := sameB_of fun x _ => rfl

/-- Matrices with the same closed ones under them have the same closed one. -/
theorem closeM_eq {n : Nat} {f g : Nat → Int} (hf : okD n (n * n) f = true) (hg : okD n (n * n) g = true) (h : ∀ q, Closed n q → (Under n q (mE n f) ↔ Under n q (mE n g))) :
    (closeM n (n * n) f).e = (closeM n (n * n) g).e ∧ sameM (closeM n (n * n) f) (closeM n (n * n) g) = true := by
  rcases closeM_cases hf with ⟨c, h1, K⟩ | ⟨h1, hno⟩
  · rcases closeM_cases hg with ⟨c', h2, K'⟩ | ⟨h2, hno⟩
    · rw [h1, h2]
      refine ⟨rfl, sameB_of fun x hx => ?_⟩
      obtain ⟨i, j, hi, hj, rfl⟩ := at_place hx
      refine eb_inj (ele_antisymm ?_ ?_)
      · exact (K'.iff K.closed.1).1 ((h _ K.closed.1).1 K.closed.2) i j hi hj
      · exact (K.iff K'.closed.1).1 ((h _ K'.closed.1).2 K'.closed.2) i j hi hj
    · exact absurd ((h _ K.closed.1).1 K.closed.2) (none_no hno K.closed.1)
  · rcases closeM_cases hg with ⟨c', h2, K'⟩ | ⟨h2, _⟩
    · exact absurd ((h _ K'.closed.1).2 K'.closed.2) (none_no hno K'.closed.1)
    · rw [h1, h2]; exact ⟨rfl, sameM_err 6 6⟩

/-- What a bound more gives. -/
theorem setM_cases (n : Int) (N : Nat) (f : Nat → Int) (i j b : Int) :
    (∃ e, setM n N f i j b = errM e ∧ (e = 2 ∨ e = 8)) ∨
    (∃ (m a c : Nat), n = (m : Int) ∧ N = m * m ∧ 1 ≤ m ∧ m ≤ 4 ∧ i = (a : Int) ∧ j = (c : Int) ∧ a < m ∧ c < m ∧ mayB b = true ∧ okD m (m * m) f = true ∧ setM n N f i j b = closeM m (m * m) (moreAt f (a * m + c) b)) := by
  unfold setM
  cases hok : okD n N f
  · exact .inl ⟨8, rfl, .inr rfl⟩
  · obtain ⟨m, rfl, rfl, hm0, hm4⟩ := okD_form hok
    rw [if_pos rfl]
    by_cases h : 0 ≤ i ∧ i < (m : Int) ∧ 0 ≤ j ∧ j < (m : Int)
    · rw [if_pos h]
      obtain ⟨h1, h2, h3, h4⟩ := h
      obtain ⟨a, rfl⟩ : ∃ a : Nat, i = (a : Int) := ⟨i.toNat, by omega⟩
      obtain ⟨c, rfl⟩ : ∃ c : Nat, j = (c : Int) := ⟨j.toNat, by omega⟩
      cases hb : mayB b
      · exact .inl ⟨8, rfl, .inr rfl⟩
      · refine .inr ⟨m, a, c, rfl, rfl, hm0, hm4, rfl, rfl, by omega, by omega, rfl, hok, ?_⟩
        rw [if_pos rfl, show ((a : Int) * (m : Int) + (c : Int)).toNat = a * m + c from by rw [show (a : Int) * (m : Int) + (c : Int) = ((a * m + c : Nat) : Int) from by push_cast; rfl]; rfl]
    · rw [if_neg h]; exact .inl ⟨2, rfl, .inl rfl⟩
theorem meetM_cases (n1 : Int) (N1 : Nat) (f1 : Nat → Int) (n2 : Int) (N2 : Nat) (f2 : Nat → Int) :
    (∃ e, meetM n1 N1 f1 n2 N2 f2 = errM e ∧ (e = 40 ∨ e = 8)) ∨
    (∃ m : Nat, n1 = (m : Int) ∧ n2 = (m : Int) ∧ N1 = m * m ∧ N2 = m * m ∧ 1 ≤ m ∧ m ≤ 4 ∧ okD m (m * m) f1 = true ∧ okD m (m * m) f2 = true ∧ meetM n1 N1 f1 n2 N2 f2 = closeM m (m * m) (lessF f1 f2)) := by
  unfold meetM
  cases h1 : okD n1 N1 f1
  · exact .inl ⟨8, rfl, .inr rfl⟩
  · cases h2 : okD n2 N2 f2
    · exact .inl ⟨8, rfl, .inr rfl⟩
    · obtain ⟨m, rfl, rfl, hm0, hm4⟩ := okD_form h1
      obtain ⟨k, rfl, rfl, _, _⟩ := okD_form h2
      by_cases e : (m : Int) = (k : Int)
      · obtain rfl : m = k := by omega
        exact .inr ⟨m, rfl, rfl, rfl, rfl, hm0, hm4, h1, h2, by simp⟩
      · exact .inl ⟨40, by simp [e], .inl rfl⟩
theorem lessF_comm (f g : Nat → Int) : lessF f g = lessF g f := by funext x; exact Int.min_comm _ _
theorem lessF_self (f : Nat → Int) : lessF f f = f := by funext x; exact Int.min_self _

/-- What two have in common is the same either way round. -/
theorem meetM_comm (n1 : Int) (N1 : Nat) (f1 : Nat → Int) (n2 : Int) (N2 : Nat) (f2 : Nat → Int) : meetM n1 N1 f1 n2 N2 f2 = meetM n2 N2 f2 n1 N1 f1 := by
  unfold meetM
  cases h1 : okD n1 N1 f1 <;> cases h2 : okD n2 N2 f2 <;> simp
  by_cases e : n1 = n2
  · subst e
    obtain ⟨m, rfl, rfl, _, _⟩ := okD_form h1
    obtain ⟨k, hk, rfl, _, _⟩ := okD_form h2
    obtain rfl : m = k := by omega
    rw [lessF_comm]
  · rw [if_neg e, if_neg (fun h => e h.symm)]
theorem meetM_self (n : Int) (N : Nat) (f : Nat → Int) : meetM n N f n N f = closeM n N f := by
  unfold meetM
  cases h1 : okD n N f
  · simp [closeM_bad h1]
  · simp [lessF_self]

/-- Which of two bounds more comes first turns nothing. -/
theorem set_order {n : Int} {N : Nat} {f : Nat → Int} {i j k x y : Int} {p q : MR} (hp : p = setM n N f i j x) (hq : q = setM n N f j k y) (ep : p.e = 0) (eq : q.e = 0) (op : okD p.n p.N p.f = true) (oq : okD q.n q.N q.f = true) :
    (setM p.n p.N p.f j k y).e = (setM q.n q.N q.f i j x).e ∧ sameM (setM p.n p.N p.f j k y) (setM q.n q.N q.f i j x) = true := by
  rcases setM_cases n N f i j x with ⟨e, h, he⟩ | ⟨m, a, b, rfl, rfl, hm0, hm4, rfl, rfl, ha, hb, hx, hf, h1⟩
  · rw [hp, h] at ep; rcases he with rfl | rfl <;> cases ep
  rcases setM_cases m (m * m) f b k y with ⟨e, h, he⟩ | ⟨m', b', c, hm', _, _, _, hb', rfl, _, hc, hy, _, h2⟩
  · rw [hq, h] at eq; rcases he with rfl | rfl <;> cases eq
  obtain rfl : m = m' := by omega
  obtain rfl : b = b' := by omega
  have o1 := okD_more (x := a * m + b) hf hx
  have o2 := okD_more (x := b * m + c) hf hy
  rcases closeM_cases o1 with ⟨c1, g1, K1⟩ | ⟨g1, _⟩
  · rcases closeM_cases o2 with ⟨c2, g2, K2⟩ | ⟨g2, _⟩
    · obtain rfl : p = ⟨m, m * m, c1, 0⟩ := by rw [hp, h1, g1]
      obtain rfl : q = ⟨m, m * m, c2, 0⟩ := by rw [hq, h2, g2]
      have s1 : setM m (m * m) c1 b c y = closeM m (m * m) (moreAt c1 (b * m + c) y) := by
        unfold setM
        rw [op, if_pos rfl, if_pos (by omega), hy, if_pos rfl, show ((b : Int) * (m : Int) + (c : Int)).toNat = b * m + c from by rw [show (b : Int) * (m : Int) + (c : Int) = ((b * m + c : Nat) : Int) from by push_cast; rfl]; rfl]
      have s2 : setM m (m * m) c2 a b x = closeM m (m * m) (moreAt c2 (a * m + b) x) := by
        unfold setM
        rw [oq, if_pos rfl, if_pos (by omega), hx, if_pos rfl, show ((a : Int) * (m : Int) + (b : Int)).toNat = a * m + b from by rw [show (a : Int) * (m : Int) + (b : Int) = ((a * m + b : Nat) : Int) from by push_cast; rfl]; rfl]
      show (setM m (m * m) c1 b c y).e = (setM m (m * m) c2 a b x).e ∧ _
      show _ ∧ sameM (setM m (m * m) c1 b c y) (setM m (m * m) c2 a b x) = true
      rw [s1, s2]
      refine closeM_eq (okD_more op hy) (okD_more oq hx) fun q hq => ?_
      rw [under_more hb hc (okD_le op) (mayB_le hy), under_more ha hb (okD_le oq) (mayB_le hx), ← K1.iff hq, ← K2.iff hq, under_more ha hb (okD_le hf) (mayB_le hx), under_more hb hc (okD_le hf) (mayB_le hy)]
      exact ⟨fun ⟨⟨h, g⟩, k⟩ => ⟨⟨h, k⟩, g⟩, fun ⟨⟨h, g⟩, k⟩ => ⟨⟨h, k⟩, g⟩⟩
    · rw [hq, h2, g2] at eq; cases eq
  · rw [hp, h1, g1] at ep; cases ep
#print axioms set_order
end Go.Proofs.Ytlcbpckinjkfeaa
