/- Plain laws of law11: a zone with a bound more; one zone less another one. No condition. -/
import Derived.Test.YtbgbhfcnadjhdaaH5
import Derived.Test.YtbgbhfcnadjhdaaME
namespace Go.Proofs.Ytbgbhfcnadjhdaa
set_option linter.unusedSimpArgs false
set_option linter.unusedVariables false
open Go Go.RowKit

def pI : Nat → Nat
  | 0 => 1 | 1 => 0 | 2 => 2 | 3 => 0 | 4 => 2 | _ => 1
def pJ : Nat → Nat
  | 0 => 0 | 1 => 1 | 2 => 0 | 3 => 2 | 4 => 1 | _ => 2
/-- The place of the difference the other way round. -/
def othZ : Nat → Nat
  | 0 => 1 | 1 => 0 | 2 => 3 | 3 => 2 | 4 => 5 | _ => 4
theorem othZ_lt (t : Nat) : othZ t < 6 := by
  match t with
  | 0 => decide
  | 1 => decide
  | 2 => decide
  | 3 => decide
  | 4 => decide
  | n + 5 => exact (by decide : 4 < 6)
theorem pIJ {t : Nat} (h : t < 6) : pI t < 3 ∧ pJ t < 3 ∧ placeZ t = pI t * 3 + pJ t ∧ pI (othZ t) = pJ t ∧ pJ (othZ t) = pI t := by
  rcases six h with rfl | rfl | rfl | rfl | rfl | rfl <;> decide
/-- A closed one is under a zone. -/
def ZU (z : Nat → Int) (q : Nat → Nat → EB) : Prop := Under 3 q (mE 3 (zF z))
/-- A closed one keeps a bound at a zone's place. -/
def HB (q : Nat → Nat → EB) (t : Nat) (x : Int) : Prop := ele (q (pI t) (pJ t)) (eb x)
/-- A zone with a bound more. -/
def withZ (z : Nat → Int) (t : Nat) (b : Int) : (Nat → Int) × Int := ofZ 3 9 (zF (upd z t (min (z t) b)))
theorem zF_with (z : Nat → Int) {t : Nat} (ht : t < 6) (b : Int) : ∀ x, x < 9 → zF (upd z t (min (z t) b)) x = moreAt (zF z) (pI t * 3 + pJ t) b x := by
  intro x hx
  obtain ⟨a0, a1, a2, a3, a4, a5, a6, a7, a8⟩ := zF_vals z
  obtain ⟨b0, b1, b2, b3, b4, b5, b6, b7, b8⟩ := zF_vals (upd z t (min (z t) b))
  rcases nine hx with rfl | rfl | rfl | rfl | rfl | rfl | rfl | rfl | rfl
  · rw [b0]; rcases six ht with rfl | rfl | rfl | rfl | rfl | rfl <;> rfl
  · rw [b1]; rcases six ht with rfl | rfl | rfl | rfl | rfl | rfl <;> rfl
  · rw [b2]; rcases six ht with rfl | rfl | rfl | rfl | rfl | rfl <;> rfl
  · rw [b3]; rcases six ht with rfl | rfl | rfl | rfl | rfl | rfl <;> rfl
  · rw [b4]; rcases six ht with rfl | rfl | rfl | rfl | rfl | rfl <;> rfl
  · rw [b5]; rcases six ht with rfl | rfl | rfl | rfl | rfl | rfl <;> rfl
  · rw [b6]; rcases six ht with rfl | rfl | rfl | rfl | rfl | rfl <;> rfl
  · rw [b7]; rcases six ht with rfl | rfl | rfl | rfl | rfl | rfl <;> rfl
  · rw [b8]; rcases six ht with rfl | rfl | rfl | rfl | rfl | rfl <;> rfl
theorem okZ_okD {z : Nat → Int} (h : okZ z = true) : okD (3 : Nat) (3 * 3) (zF z) = true := (okZ_facts h).1
theorem okZ_le {z : Nat → Int} (h : okZ z = true) : ∀ i j, i < 3 → j < 3 → zF z (i * 3 + j) ≤ noneB := okD_le (okZ_okD h)
theorem okZ_may {z : Nat → Int} (h : okZ z = true) {t : Nat} (ht : t < 6) : mayB (z t) = true := by
  rw [← shortZ_zF z t ht]
  exact okD_may (okZ_okD h) _ (placeZ_lt t ht)
theorem okD_with {z : Nat → Int} (h : okZ z = true) {t : Nat} (ht : t < 6) {b : Int} (hb : mayB b = true) : okD (3 : Nat) (3 * 3) (zF (upd z t (min (z t) b))) = true := by
  refine okD_of (okZ_okD h) fun x hx => ?_
  rw [zF_with z ht b x hx]
  exact okD_may (okD_more (okZ_okD h) hb) x hx
theorem under_with {z : Nat → Int} (h : okZ z = true) {t : Nat} (ht : t < 6) {b : Int} (hb : mayB b = true) {q : Nat → Nat → EB} : Under 3 q (mE 3 (zF (upd z t (min (z t) b)))) ↔ ZU z q ∧ HB q t b := by
  obtain ⟨p1, p2, _⟩ := pIJ ht
  unfold ZU HB
  rw [← under_more p1 p2 (okZ_le h) (mayB_le hb)]
  exact ⟨under3_congr (zF_with z ht b), under3_congr fun x hx => (zF_with z ht b x hx).symm⟩
theorem withZ_cases {z : Nat → Int} (h : okZ z = true) {t : Nat} (ht : t < 6) {b : Int} (hb : mayB b = true) :
    (∃ r, withZ z t b = (r, 0) ∧ okZ r = true ∧ ∀ q, Closed 3 q → (ZU r q ↔ ZU z q ∧ HB q t b)) ∨
    (withZ z t b = (fun _ => 0, 6) ∧ ∀ q, Closed 3 q → ¬ (ZU z q ∧ HB q t b)) ∨ (withZ z t b = (fun _ => 0, 8) ∧ ∃ q, Closed 3 q ∧ ZU z q ∧ HB q t b) := by
  have ok := okD_with h ht hb
  have hu := fun q => under_with (q := q) h ht hb
  unfold withZ ofZ
  rw [if_pos (show okD 3 9 (zF (upd z t (min (z t) b))) = true from ok), if_pos rfl]
  rcases closeM_cases ok with ⟨c, hc, K⟩ | ⟨hc, hno⟩
  · rw [show closeM 3 9 (zF (upd z t (min (z t) b))) = ⟨3, 9, c, 0⟩ from hc, if_pos rfl]
    cases hk : okD (3 : Nat) (3 * 3) c
    · exact .inr (.inr ⟨toldZ_bad hk, _, K.closed.1, (hu _).1 K.closed.2⟩)
    · refine .inl ⟨shortZ c, toldZ_ok hk, okZ_of K hk, fun q hq => ?_⟩
      rw [← hu q, K.iff hq]
      exact ⟨under3_congr (zF_short K), under3_congr fun x hx => (zF_short K x hx).symm⟩
  · rw [show closeM 3 9 (zF (upd z t (min (z t) b))) = errM 6 from hc]
    exact .inr (.inl ⟨rfl, fun q hq hk => none_no hno hq ((hu q).2 hk)⟩)

/-- What is left of a zone by another one, from a place on. -/
def lessZ : Nat → Nat → (Nat → Int) → (Nat → Int) → List (Nat → Int) → List (Nat → Int) × Int
  | 0, _, _, _, acc => (acc, 0)
  | k + 1, t, a, b, acc =>
    if b t = noneB then lessZ k (t + 1) a b acc
    else if (withZ a (othZ t) (otherB (b t))).2 ≠ 6 ∧ (withZ a (othZ t) (otherB (b t))).2 ≠ 0 then ([], (withZ a (othZ t) (otherB (b t))).2)
    else if (withZ a t (b t)).2 = 6 then (if (withZ a (othZ t) (otherB (b t))).2 = 0 then acc ++ [(withZ a (othZ t) (otherB (b t))).1] else acc, 0)
    else if (withZ a t (b t)).2 ≠ 0 then ([], (withZ a t (b t)).2)
    else lessZ k (t + 1) (withZ a t (b t)).1 b (if (withZ a (othZ t) (otherB (b t))).2 = 0 then acc ++ [(withZ a (othZ t) (otherB (b t))).1] else acc)
def minusZ (a b : Nat → Int) : List (Nat → Int) × Int := if okZ a && okZ b then lessZ 6 0 a b [] else ([], 8)

/-- No closed one is under both. -/
def ApZ (p r : Nat → Int) : Prop := ∀ q, Closed 3 q → ZU p q → ¬ ZU r q
/-- In how many of some zones times are. -/
def countZ : List (Nat → Int) → (Nat → Int × Int) → Nat
  | [], _ => 0
  | p :: l, T => (if keptAll 3 (zF p) T = true then 1 else 0) + countZ l T
theorem countZ_app (T : Nat → Int × Int) : ∀ a b, countZ (a ++ b) T = countZ a T + countZ b T
  | [], b => by simp [countZ]
  | p :: a, b => by simp only [List.cons_append, countZ, countZ_app T a b]; omega
/-- Times keep the bounds of a zone from a place on. -/
def satT (T : Nat → Int × Int) (b : Nat → Int) : Nat → Nat → Bool
  | 0, _ => true
  | k + 1, t => keptB (tm T (pI t)).1 (tm T (pI t)).2 (tm T (pJ t)).1 (tm T (pJ t)).2 (b t) && satT T b k (t + 1)
def satQ (q : Nat → Nat → EB) (b : Nat → Int) : Nat → Nat → Prop
  | 0, _ => True
  | k + 1, t => HB q t (b t) ∧ satQ q b k (t + 1)

/-- What is known of the parts. -/
structure LP (k t : Nat) (a b : Nat → Int) (P : List (Nat → Int)) : Prop where
  ok : ∀ p, p ∈ P → okZ p = true
  inn : ∀ p, p ∈ P → ∀ q, Closed 3 q → ZU p q → ZU a q
  out : ∀ p, p ∈ P → ∀ q, Closed 3 q → ZU p q → ¬ satQ q b k t
  ap : P.Pairwise ApZ
  num : ∀ T : Nat → Int × Int, (∀ i, i < 3 → 0 < (tm T i).2) → countZ P T = if (keptAll 3 (zF a) T && !satT T b k t) = true then 1 else 0
  non : P = [] → ∀ q, Closed 3 q → ZU a q → satQ q b k t

theorem hb_none (q : Nat → Nat → EB) (t : Nat) : HB q t noneB := by unfold HB; rw [eb_none]; exact ele_none _
theorem keptB_noneB (a b c d : Int) : keptB a b c d noneB = true := by unfold keptB; simp
/-- What a bound leaves out keeps it not. -/
theorem hb_other {q : Nat → Nat → EB} (hq : Closed 3 q) {t : Nat} (ht : t < 6) {x : Int} (hx : mayB x = true) (hn : x ≠ noneB) (h : HB q (othZ t) (otherB x)) : ¬ HB q t x := by
  obtain ⟨p1, p2, _, e1, e2⟩ := pIJ ht
  intro h1
  unfold HB at h h1
  rw [e1, e2, eb_some (other_ne hx hn)] at h
  rw [eb_some hn] at h1
  have h3 := hq.2 (pI t) (pI t) (pJ t) p1 p1 p2
  rw [hq.1 _ p1] at h3
  have h4 := ele_trans h3 (eadd_mono h1 h)
  rw [other_zero] at h4
  simp [ele] at h4
theorem kept_other {a b c d x : Int} (hb : 0 < b) (hd : 0 < d) (hx : mayB x = true) (hn : x ≠ noneB) : keptB c d a b (otherB x) = !keptB a b c d x := by
  have e : otherB x ≠ noneB := other_ne hx hn
  have h1 : bnum (otherB x) = -bnum x := by unfold otherB mkB bnum bstr; by_cases h : x % 2 = 0 <;> simp [h] <;> omega
  have h2 : bstr (otherB x) = !bstr x := by unfold otherB mkB bnum bstr; by_cases h : x % 2 = 0 <;> simp [h] <;> omega
  unfold keptB
  rw [h1, h2, decide_eq_false e, decide_eq_false hn, Bool.false_or, Bool.false_or, Bool.not_not]
  have r : -bnum x * (d * b) = -(bnum x * (b * d)) := by rw [Int.neg_mul, Int.mul_comm d b]
  rw [r]
  obtain ⟨u, hu⟩ : ∃ u, u = a * d - c * b := ⟨_, rfl⟩
  have hu2 : c * b - a * d = -u := by omega
  obtain ⟨v, hv⟩ : ∃ v, v = bnum x * (b * d) := ⟨_, rfl⟩
  rw [hu2, ← hu, ← hv]
  cases bstr x <;> rw [Bool.eq_iff_iff] <;> simp <;> omega
/-- The bounds of a zone. -/
theorem satQ_zone {b : Nat → Int} {q : Nat → Nat → EB} (hq : Closed 3 q) : satQ q b 6 0 ↔ ZU b q := by
  obtain ⟨a0, a1, a2, a3, a4, a5, a6, a7, a8⟩ := zF_vals b
  unfold ZU
  simp only [satQ, and_true]
  constructor
  · rintro ⟨h0, h1, h2, h3, h4, h5⟩ i j hi hj
    have hi : i = 0 ∨ i = 1 ∨ i = 2 := by omega
    have hj : j = 0 ∨ j = 1 ∨ j = 2 := by omega
    show ele _ (eb (zF b (i * 3 + j)))
    rcases hi with rfl | rfl | rfl <;> rcases hj with rfl | rfl | rfl
    · show ele _ (eb (zF b 0)); rw [a0, eb_one, hq.1 0 (by omega)]; exact ele_refl _
    · show ele _ (eb (zF b 1)); rw [a1]; exact h1
    · show ele _ (eb (zF b 2)); rw [a2]; exact h3
    · show ele _ (eb (zF b 3)); rw [a3]; exact h0
    · show ele _ (eb (zF b 4)); rw [a4, eb_one, hq.1 1 (by omega)]; exact ele_refl _
    · show ele _ (eb (zF b 5)); rw [a5]; exact h5
    · show ele _ (eb (zF b 6)); rw [a6]; exact h2
    · show ele _ (eb (zF b 7)); rw [a7]; exact h4
    · show ele _ (eb (zF b 8)); rw [a8, eb_one, hq.1 2 (by omega)]; exact ele_refl _
  · intro h
    have k := fun i j hi hj => show ele (q i j) (eb (zF b (i * 3 + j))) from h i j hi hj
    have k1 := k 0 1 (by omega) (by omega)
    have k2 := k 0 2 (by omega) (by omega)
    have k3 := k 1 0 (by omega) (by omega)
    have k5 := k 1 2 (by omega) (by omega)
    have k6 := k 2 0 (by omega) (by omega)
    have k7 := k 2 1 (by omega) (by omega)
    rw [show 0 * 3 + 1 = 1 from rfl, a1] at k1
    rw [show 0 * 3 + 2 = 2 from rfl, a2] at k2
    rw [show 1 * 3 + 0 = 3 from rfl, a3] at k3
    rw [show 1 * 3 + 2 = 5 from rfl, a5] at k5
    rw [show 2 * 3 + 0 = 6 from rfl, a6] at k6
    rw [show 2 * 3 + 1 = 7 from rfl, a7] at k7
    exact ⟨k3, k1, k6, k2, k7, k5⟩
theorem hb_kept {T : Nat → Int × Int} (h : ∀ i, i < 3 → 0 < (tm T i).2) {t : Nat} (ht : t < 6) (x : Int) : keptB (tm T (pI t)).1 (tm T (pI t)).2 (tm T (pJ t)).1 (tm T (pJ t)).2 x = true ↔ HB (tmE T) t x := by
  obtain ⟨p1, p2, _⟩ := pIJ ht
  exact keptB_iff (h _ p1) (h _ p2)
theorem satT_iff {T : Nat → Int × Int} (h : ∀ i, i < 3 → 0 < (tm T i).2) (b : Nat → Int) : ∀ k t, t + k = 6 → (satT T b k t = true ↔ satQ (tmE T) b k t)
  | 0, _, _ => by simp [satT, satQ]
  | k + 1, t, e => by
    simp only [satT, satQ, Bool.and_eq_true]
    rw [hb_kept h (by omega), satT_iff h b k (t + 1) (by omega)]
theorem satT_zone {T : Nat → Int × Int} (h : ∀ i, i < 3 → 0 < (tm T i).2) (b : Nat → Int) : satT T b 6 0 = keptAll 3 (zF b) T := by
  rw [Bool.eq_iff_iff, satT_iff h b 6 0 rfl, satQ_zone (tmE_closed h), kept_under h]
  exact Iff.rfl
theorem kept_with {r z : Nat → Int} {t : Nat} (ht : t < 6) {x : Int} (hr : ∀ q, Closed 3 q → (ZU r q ↔ ZU z q ∧ HB q t x)) {T : Nat → Int × Int} (h : ∀ i, i < 3 → 0 < (tm T i).2) :
    keptAll 3 (zF r) T = (keptAll 3 (zF z) T && keptB (tm T (pI t)).1 (tm T (pI t)).2 (tm T (pJ t)).1 (tm T (pJ t)).2 x) := by
  rw [Bool.eq_iff_iff, Bool.and_eq_true, kept_under h, kept_under h, hb_kept h ht]
  exact hr _ (tmE_closed h)
theorem kept_no {z : Nat → Int} {t : Nat} (ht : t < 6) {x : Int} (hr : ∀ q, Closed 3 q → ¬ (ZU z q ∧ HB q t x)) {T : Nat → Int × Int} (h : ∀ i, i < 3 → 0 < (tm T i).2) :
    (keptAll 3 (zF z) T && keptB (tm T (pI t)).1 (tm T (pI t)).2 (tm T (pJ t)).1 (tm T (pJ t)).2 x) = false := by
  rw [← Bool.not_eq_true, Bool.and_eq_true, kept_under h, hb_kept h ht]
  exact hr _ (tmE_closed h)
theorem kept_oth {T : Nat → Int × Int} (h : ∀ i, i < 3 → 0 < (tm T i).2) {t : Nat} (ht : t < 6) {x : Int} (hx : mayB x = true) (hn : x ≠ noneB) :
    keptB (tm T (pI (othZ t))).1 (tm T (pI (othZ t))).2 (tm T (pJ (othZ t))).1 (tm T (pJ (othZ t))).2 (otherB x) = !keptB (tm T (pI t)).1 (tm T (pI t)).2 (tm T (pJ t)).1 (tm T (pJ t)).2 x := by
  obtain ⟨p1, p2, _, e1, e2⟩ := pIJ ht
  rw [e1, e2]
  exact kept_other (h _ p1) (h _ p2) hx hn

theorem cnt3 (x y z : Bool) : (if (x && !y) = true then 1 else 0) + (if (x && y && !z) = true then 1 else 0) = if (x && !(y && z)) = true then 1 else 0 := by cases x <;> cases y <;> cases z <;> rfl
theorem cnt2 {x y z : Bool} (h : (x && y) = false) : (if (x && !y) = true then 1 else 0) = if (x && !(y && z)) = true then 1 else 0 := by
  revert h
  cases x <;> cases y <;> cases z <;> simp
/-- The first part, if there is one. -/
theorem part_facts {a b : Nat → Int} (ha : okZ a = true) (hb : okZ b = true) {t : Nat} (ht : t < 6) (hn : b t ≠ noneB) (he : (withZ a (othZ t) (otherB (b t))).2 = 6 ∨ (withZ a (othZ t) (otherB (b t))).2 = 0) :
    ∃ P0 : List (Nat → Int), (∀ acc : List (Nat → Int), (if (withZ a (othZ t) (otherB (b t))).2 = 0 then acc ++ [(withZ a (othZ t) (otherB (b t))).1] else acc) = acc ++ P0) ∧
      (∀ p, p ∈ P0 → okZ p = true ∧ (∀ q, Closed 3 q → ZU p q → ZU a q ∧ ¬ HB q t (b t))) ∧ P0.Pairwise ApZ ∧
      (∀ T : Nat → Int × Int, (∀ i, i < 3 → 0 < (tm T i).2) → countZ P0 T = if (keptAll 3 (zF a) T && !keptB (tm T (pI t)).1 (tm T (pI t)).2 (tm T (pJ t)).1 (tm T (pJ t)).2 (b t)) = true then 1 else 0) ∧
      (P0 = [] → ∀ q, Closed 3 q → ZU a q → HB q t (b t)) := by
  have hm := okZ_may hb ht
  have ho := other_may hm hn
  have ht' := othZ_lt t
  obtain ⟨p1, p2, _, e1, e2⟩ := pIJ ht
  rcases withZ_cases ha ht' ho with ⟨r, hr, hk, hq⟩ | ⟨hr, hq⟩ | ⟨hr, _⟩
  · rw [hr]
    refine ⟨[r], fun acc => if_pos rfl, ?_, List.pairwise_singleton _ _, ?_, fun h => by cases h⟩
    · intro p hp
      rw [List.mem_singleton] at hp
      subst hp
      exact ⟨hk, fun q hc hu => ⟨((hq q hc).1 hu).1, hb_other hc ht hm hn ((hq q hc).1 hu).2⟩⟩
    · intro T hT
      have := kept_with ht' hq hT
      rw [kept_oth hT ht hm hn] at this
      simp only [countZ, this, Nat.add_zero]
  · rw [hr]
    refine ⟨[], fun acc => ?_, fun p hp => (by cases hp), List.Pairwise.nil, ?_, ?_⟩
    · rw [if_neg (by decide), List.append_nil]
    · intro T hT
      have := kept_no ht' hq hT
      rw [kept_oth hT ht hm hn] at this
      rw [this]; rfl
    · intro _ q hc hu
      refine Classical.byContradiction fun hno => ?_
      unfold HB at hno
      rw [eb_some hn] at hno
      have hc2 := oneMore_closed (v := some (otherB (b t))) hc p1 p2 (other_one hno)
      obtain ⟨l1, l2⟩ := oneMore_le (v := some (otherB (b t))) hc p1 p2
      refine hq _ hc2 ⟨under_trans l1 hu, ?_⟩
      unfold HB
      rw [e1, e2, eb_some (other_ne hm hn)]
      exact l2
  · rw [hr] at he
    simp at he
theorem less_law {b : Nat → Int} (hb : okZ b = true) : ∀ (k t : Nat) (a : Nat → Int) (acc L : List (Nat → Int)), t + k = 6 → okZ a = true → lessZ k t a b acc = (L, 0) → ∃ P, L = acc ++ P ∧ LP k t a b P := by
  intro k
  induction k with
  | zero =>
    intro t a acc L _ ha h
    simp only [lessZ, Prod.mk.injEq] at h
    refine ⟨[], by rw [List.append_nil, h.1], ?_, ?_, ?_, List.Pairwise.nil, ?_, fun _ _ _ _ => trivial⟩
    · intro p hp; cases hp
    · intro p hp; cases hp
    · intro p hp; cases hp
    · intro T _; simp [satT, countZ]
  | succ k ih =>
    intro t a acc L e ha h
    have ht : t < 6 := by omega
    have hm := okZ_may hb ht
    unfold lessZ at h
    by_cases hn : b t = noneB
    · rw [if_pos hn] at h
      obtain ⟨P, hL, h1, h2, h3, h4, h5, h6⟩ := ih (t + 1) a acc L (by omega) ha h
      refine ⟨P, hL, h1, h2, fun p hp q hq hu hs => h3 p hp q hq hu hs.2, h4, ?_, fun hP q hq hu => ⟨by rw [hn]; exact hb_none q t, h6 hP q hq hu⟩⟩
      intro T hT
      rw [h5 T hT]
      simp only [satT, hn, keptB_noneB, Bool.true_and]
    rw [if_neg hn] at h
    by_cases hr : (withZ a (othZ t) (otherB (b t))).2 ≠ 6 ∧ (withZ a (othZ t) (otherB (b t))).2 ≠ 0
    · rw [if_pos hr] at h
      simp only [Prod.mk.injEq] at h
      exact absurd h.2 hr.2
    rw [if_neg hr] at h
    obtain ⟨P0, hA, f1, f2, f3, f4⟩ := part_facts ha hb ht hn (by omega)
    rw [hA acc] at h
    rcases withZ_cases ha ht hm with ⟨l, hl, kl, ql⟩ | ⟨hl, ql⟩ | ⟨hl, _⟩
    · rw [hl, if_neg (by simp), if_neg (by simp)] at h
      obtain ⟨P, hL, h1, h2, h3, h4, h5, h6⟩ := ih (t + 1) l (acc ++ P0) L (by omega) kl h
      refine ⟨P0 ++ P, by rw [hL, List.append_assoc], ?_, ?_, ?_, ?_, ?_, ?_⟩
      · intro p hp
        rcases List.mem_append.1 hp with hp | hp
        · exact (f1 p hp).1
        · exact h1 p hp
      · intro p hp q hq hu
        rcases List.mem_append.1 hp with hp | hp
        · exact ((f1 p hp).2 q hq hu).1
        · exact ((ql q hq).1 (h2 p hp q hq hu)).1
      · intro p hp q hq hu hs
        rcases List.mem_append.1 hp with hp | hp
        · exact ((f1 p hp).2 q hq hu).2 hs.1
        · exact h3 p hp q hq hu hs.2
      · rw [List.pairwise_append]
        exact ⟨f2, h4, fun p hp p' hp' q hq hu hu' => ((f1 p hp).2 q hq hu).2 ((ql q hq).1 (h2 p' hp' q hq hu')).2⟩
      · intro T hT
        rw [countZ_app, f3 T hT, h5 T hT, kept_with ht ql hT]
        simp only [satT]
        exact cnt3 _ _ _
      · intro hP q hq hu
        obtain ⟨g1, g2⟩ := List.append_eq_nil_iff.1 hP
        have s1 := f4 g1 q hq hu
        exact ⟨s1, h6 g2 q hq ((ql q hq).2 ⟨hu, s1⟩)⟩
    · rw [hl, if_pos rfl] at h
      simp only [Prod.mk.injEq, and_true] at h
      refine ⟨P0, h.symm, fun p hp => (f1 p hp).1, fun p hp q hq hu => ((f1 p hp).2 q hq hu).1, fun p hp q hq hu hs => ((f1 p hp).2 q hq hu).2 hs.1, f2, ?_, ?_⟩
      · intro T hT
        have := kept_no ht ql hT
        rw [f3 T hT]
        simp only [satT]
        exact cnt2 this
      · intro hP q hq hu
        exact absurd ⟨hu, f4 hP q hq hu⟩ (ql q hq)
    · rw [hl, if_neg (by simp), if_pos (by simp)] at h
      simp at h
theorem minus_ok {a b : Nat → Int} {L : List (Nat → Int)} (h : minusZ a b = (L, 0)) : okZ a = true ∧ okZ b = true ∧ LP 6 0 a b L := by
  unfold minusZ at h
  cases hk : (okZ a && okZ b)
  · rw [hk] at h; simp at h
  · rw [hk] at h
    simp only [Bool.and_eq_true] at hk
    obtain ⟨P, hP, l⟩ := less_law hk.2 6 0 a [] L rfl hk.1 h
    rw [List.nil_append] at hP
    subst hP
    exact ⟨hk.1, hk.2, l⟩
theorem minus_num {a b : Nat → Int} {L : List (Nat → Int)} (h : minusZ a b = (L, 0)) {T : Nat → Int × Int} (hT : ∀ i, i < 3 → 0 < (tm T i).2) : countZ L T = if (keptAll 3 (zF a) T && !keptAll 3 (zF b) T) = true then 1 else 0 := by
  obtain ⟨_, _, l⟩ := minus_ok h
  rw [l.num T hT, satT_zone hT]
theorem okZ_some {z : Nat → Int} (h : okZ z = true) : ∃ q, Closed 3 q ∧ ZU z q := by
  obtain ⟨_, c, _, K, _⟩ := okZ_facts h
  exact ⟨_, K.closed.1, K.closed.2⟩
/-- Less itself: nothing. -/
theorem self_with {z a : Nat → Int} (ha : okZ a = true) (hz : ∀ i, i < 6 → z i = a i) {t : Nat} (ht : t < 6) : ∃ r, withZ z t (a t) = (r, 0) ∧ okZ r = true ∧ ∀ i, i < 6 → r i = a i := by
  obtain ⟨ok, c, hc, K, he⟩ := okZ_facts ha
  have hz2 : ∀ i, i < 6 → upd z t (min (z t) (a t)) i = a i := fun i hi => by
    unfold upd
    split
    · next e => subst e; rw [hz i hi, Int.min_self]
    · exact hz i hi
  have hf : ∀ x, x < 9 → zF (upd z t (min (z t) (a t))) x = zF a x := zF_congr hz2
  have ok' : okD (3 : Nat) (3 * 3) (zF (upd z t (min (z t) (a t)))) = true := okD_of ok fun x hx => by rw [hf x hx]; exact okD_may ok x hx
  have hs := closeM_eq ok' ok fun q hq => ⟨under3_congr hf, under3_congr fun x hx => (hf x hx).symm⟩
  unfold withZ ofZ
  rw [if_pos (show okD 3 9 (zF (upd z t (min (z t) (a t)))) = true from ok'), if_pos rfl]
  rcases closeM_cases ok' with ⟨c', h1, K'⟩ | ⟨h1, hno⟩
  · rw [h1, hc] at hs
    have hv : ∀ x, x < 3 * 3 → c' x = c x := by
      have := hs.2
      simp only [sameM, sameB, decide_true, Bool.true_and] at this
      exact eqB_iff.1 this
    have hk : okD (3 : Nat) (3 * 3) c' = true := okD_of ok fun x hx => by rw [hv x hx, he x hx]; exact okD_may ok x hx
    rw [show closeM 3 9 (zF (upd z t (min (z t) (a t)))) = ⟨3, 9, c', 0⟩ from h1, if_pos rfl]
    refine ⟨shortZ c', toldZ_ok hk, okZ_of K' hk, fun i hi => ?_⟩
    show c' (placeZ i) = a i
    rw [hv _ (placeZ_lt i hi), he _ (placeZ_lt i hi)]
    exact shortZ_zF a i hi
  · rw [h1, hc] at hs
    simp [errM] at hs
theorem ZU_congr {z a : Nat → Int} (hz : ∀ i, i < 6 → z i = a i) {q : Nat → Nat → EB} (h : ZU z q) : ZU a q := under3_congr (zF_congr hz) h
theorem sat_at {q : Nat → Nat → EB} {b : Nat → Int} : ∀ k t, satQ q b k t → ∀ s, t ≤ s → s < t + k → HB q s (b s)
  | 0, t, _, s, h1, h2 => by omega
  | k + 1, t, h, s, h1, h2 => by
    by_cases e : s = t
    · subst e; exact h.1
    · exact sat_at k (t + 1) h.2 s (by omega) (by omega)
theorem self_none {z a : Nat → Int} (ha : okZ a = true) (hk : okZ z = true) (hz : ∀ i, i < 6 → z i = a i) {t : Nat} (ht : t < 6) (hn : a t ≠ noneB) : (withZ z (othZ t) (otherB (a t))).2 = 6 := by
  have hm := okZ_may ha ht
  have no : ∀ q, Closed 3 q → ¬ (ZU z q ∧ HB q (othZ t) (otherB (a t))) := fun q hq h =>
    hb_other hq ht hm hn h.2 (sat_at 6 0 ((satQ_zone hq).2 (ZU_congr hz h.1)) t (by omega) (by omega))
  rcases withZ_cases hk (othZ_lt t) (other_may hm hn) with ⟨r, hr, kr, hq⟩ | ⟨hr, _⟩ | ⟨_, q, hq, h⟩
  · obtain ⟨q, h1, h2⟩ := okZ_some kr
    exact absurd ((hq q h1).1 h2) (no q h1)
  · rw [hr]
  · exact absurd h (no q hq)
theorem self_less {a : Nat → Int} (ha : okZ a = true) : ∀ k t z, t + k = 6 → okZ z = true → (∀ i, i < 6 → z i = a i) → lessZ k t z a [] = ([], 0)
  | 0, _, _, _, _, _ => rfl
  | k + 1, t, z, e, hk, hz => by
    unfold lessZ
    by_cases hn : a t = noneB
    · rw [if_pos hn]; exact self_less ha k (t + 1) z (by omega) hk hz
    · obtain ⟨r, hr, kr, hv⟩ := self_with (z := z) ha hz (t := t) (by omega)
      have h6 := self_none ha hk hz (t := t) (by omega) hn
      rw [if_neg hn, h6, hr, if_neg (by simp), if_neg (by simp), if_neg (by simp), if_neg (by simp)]
      exact self_less ha k (t + 1) r (by omega) kr hv
theorem minus_self {a : Nat → Int} (ha : okZ a = true) : minusZ a a = ([], 0) := by
  unfold minusZ
  rw [ha]
  exact self_less ha 6 0 a rfl ha fun _ _ => rfl
theorem minus_bad {a b : Nat → Int} (h : (okZ a && okZ b) = false) : minusZ a b = ([], 8) := by unfold minusZ; rw [h]; rfl

/-- A zone of some. -/
def nthZ (L : List (Nat → Int)) (i : Nat) : Nat → Int := L.getD i fun _ => 0
theorem nthZ_mem {L : List (Nat → Int)} {i : Nat} (h : i < L.length) : nthZ L i ∈ L := by
  unfold nthZ
  rw [List.getD_eq_getElem?_getD, List.getElem?_eq_getElem h]
  exact List.getElem_mem h
theorem nthZ_eq {L : List (Nat → Int)} {i : Nat} (h : i < L.length) : nthZ L i = L[i] := by
  unfold nthZ
  rw [List.getD_eq_getElem?_getD, List.getElem?_eq_getElem h]; rfl
theorem in_iff {a b : Nat → Int} (ha : okZ a = true) (hb : okZ b = true) : inB 3 (zF a) (zF b) = true ↔ ∀ q, Closed 3 q → ZU a q → ZU b q := inB_iff (okZ_okD ha) (okZ_okD hb)
theorem meet_six {a b : Nat → Int} (ha : okZ a = true) (hb : okZ b = true) (h : ApZ a b) : (meetZ a b).2 = 6 := by
  have e := (away_iff (okZ_okD ha) (okZ_okD hb)).2 h
  rw [meetZ_ok ha hb, if_neg (by rw [e]; decide)]
  exact e
theorem none_law {a b : Nat → Int} {L : List (Nat → Int)} (h : minusZ a b = (L, 0)) :
    okZ a = true ∧ okZ b = true ∧ inZ a b = (L.isEmpty, 0) ∧ ∀ i, i < L.length → okZ (nthZ L i) = true ∧ (meetZ (nthZ L i) b).2 = 6 ∧ inZ (nthZ L i) a = (true, 0) ∧ ∀ k, k < i → (meetZ (nthZ L i) (nthZ L k)).2 = 6 := by
  obtain ⟨ha, hb, l⟩ := minus_ok h
  refine ⟨ha, hb, ?_, fun i hi => ?_⟩
  · rw [inZ_ok ha hb]
    refine Prod.ext ?_ rfl
    show inB 3 (zF a) (zF b) = L.isEmpty
    rw [Bool.eq_iff_iff, in_iff ha hb, List.isEmpty_iff]
    constructor
    · intro hin
      cases L with
      | nil => rfl
      | cons p L =>
        exfalso
        obtain ⟨q, h1, h2⟩ := okZ_some (l.ok p (by simp))
        exact l.out p (by simp) q h1 h2 ((satQ_zone h1).2 (hin q h1 (l.inn p (by simp) q h1 h2)))
    · intro hL q hq hu
      exact (satQ_zone hq).1 (l.non hL q hq hu)
  · have hm := nthZ_mem hi
    have hk := l.ok _ hm
    refine ⟨hk, meet_six hk hb fun q hq hu hb' => l.out _ hm q hq hu ((satQ_zone hq).2 hb'), ?_, fun k hki => ?_⟩
    · rw [inZ_ok hk ha, (in_iff hk ha).2 fun q hq hu => l.inn _ hm q hq hu]
    · have hkl : k < L.length := by omega
      refine meet_six hk (l.ok _ (nthZ_mem hkl)) fun q hq h1 h2 => ?_
      rw [nthZ_eq hkl] at h2
      rw [nthZ_eq hi] at h1
      exact List.pairwise_iff_getElem.1 l.ap k i hkl hi hki q hq h2 h1

theorem less_len : ∀ (k t : Nat) (a b : Nat → Int) (acc : List (Nat → Int)), (lessZ k t a b acc).1.length ≤ acc.length + k
  | 0, _, _, _, _ => Nat.le_refl _
  | k + 1, t, a, b, acc => by
    have h1 := fun a' acc' => less_len k (t + 1) a' b acc'
    have h2 : (if (withZ a (othZ t) (otherB (b t))).2 = 0 then acc ++ [(withZ a (othZ t) (otherB (b t))).1] else acc).length ≤ acc.length + 1 := by
      split
      · simp
      · omega
    unfold lessZ
    split
    · have := h1 a acc; omega
    · split
      · simp
      · split
        · show (if _ then _ else _ : List (Nat → Int)).length ≤ _; omega
        · split
          · simp
          · have := h1 (withZ a t (b t)).1 (if (withZ a (othZ t) (otherB (b t))).2 = 0 then acc ++ [(withZ a (othZ t) (otherB (b t))).1] else acc); omega
theorem minus_len (a b : Nat → Int) : (minusZ a b).1.length ≤ 6 := by
  unfold minusZ
  split
  · have := less_len 6 0 a b []; simpa using this
  · simp
theorem less_e : ∀ (k t : Nat) (a b : Nat → Int) (acc : List (Nat → Int)), okZ b = true → t + k = 6 → okZ a = true → (lessZ k t a b acc).2 = 0 ∨ lessZ k t a b acc = ([], 8)
  | 0, _, _, _, _, _, _, _ => .inl rfl
  | k + 1, t, a, b, acc, hb, e, ha => by
    have hm := okZ_may hb (t := t) (by omega)
    unfold lessZ
    by_cases hn : b t = noneB
    · rw [if_pos hn]; exact less_e k (t + 1) a b acc hb (by omega) ha
    · rw [if_neg hn]
      have h8 : (withZ a (othZ t) (otherB (b t))).2 = 0 ∨ (withZ a (othZ t) (otherB (b t))).2 = 6 ∨ (withZ a (othZ t) (otherB (b t))).2 = 8 := by
        rcases withZ_cases ha (othZ_lt t) (other_may hm hn) with ⟨r, hr, _⟩ | ⟨hr, _⟩ | ⟨hr, _⟩ <;> rw [hr] <;> simp
      split
      · next h => exact .inr (by have : (withZ a (othZ t) (otherB (b t))).2 = 8 := by omega
                                 rw [this])
      · rcases withZ_cases ha (t := t) (by omega) hm with ⟨l, hl, kl, _⟩ | ⟨hl, _⟩ | ⟨hl, _⟩
        · rw [hl, if_neg (by simp), if_neg (by simp)]
          exact less_e k (t + 1) l b _ hb (by omega) kl
        · rw [hl, if_pos rfl]; exact .inl rfl
        · rw [hl, if_neg (by simp), if_pos (by simp)]; exact .inr rfl

/-- What is left of some by one. -/
def nextZ (b : Nat → Int) : List (Nat → Int) → List (Nat → Int) → List (Nat → Int) × Int
  | [], acc => (acc, 0)
  | z :: zs, acc =>
    if (minusZ z b).2 ≠ 0 then ([], (minusZ z b).2)
    else if 4096 < (acc ++ (minusZ z b).1).length then ([], 4)
    else nextZ b zs (acc ++ (minusZ z b).1)
def restZ : List (Nat → Int) → List (Nat → Int) → List (Nat → Int) × Int
  | [], out => (out, 0)
  | b :: l, out => if (nextZ b out []).2 ≠ 0 then ([], (nextZ b out []).2) else restZ l (nextZ b out []).1
def leftZ (a : Nat → Int) (l : List (Nat → Int)) : List (Nat → Int) × Int := if okZ a && l.all okZ then restZ l [a] else ([], 8)
/-- What is left of each by one. -/
def flatZ (b : Nat → Int) : List (Nat → Int) → List (Nat → Int)
  | [] => []
  | z :: zs => (minusZ z b).1 ++ flatZ b zs

theorem next_ok {b : Nat → Int} : ∀ (zs acc n : List (Nat → Int)), nextZ b zs acc = (n, 0) → n = acc ++ flatZ b zs ∧ (∀ z, z ∈ zs → (minusZ z b).2 = 0) ∧ (zs ≠ [] → n.length ≤ 4096)
  | [], acc, n, h => by
    simp only [nextZ, Prod.mk.injEq, and_true] at h
    subst h
    simp [flatZ]
  | z :: zs, acc, n, h => by
    unfold nextZ at h
    by_cases h1 : (minusZ z b).2 ≠ 0
    · rw [if_pos h1] at h
      simp only [Prod.mk.injEq] at h
      exact absurd h.2 h1
    · rw [if_neg h1] at h
      by_cases h2 : 4096 < (acc ++ (minusZ z b).1).length
      · rw [if_pos h2] at h; simp at h
      · rw [if_neg h2] at h
        obtain ⟨g1, g2, g3⟩ := next_ok zs _ n h
        refine ⟨by rw [g1, flatZ, List.append_assoc], ?_, ?_⟩
        · intro y hy
          rcases List.mem_cons.1 hy with rfl | hy
          · omega
          · exact g2 y hy
        · intro _
          cases zs with
          | nil => rw [g1]; simp only [flatZ, List.append_nil]; omega
          | cons y ys => exact g3 (by simp)
theorem flat_okZ {b : Nat → Int} : ∀ (zs : List (Nat → Int)), (∀ z, z ∈ zs → (minusZ z b).2 = 0) → ∀ p, p ∈ flatZ b zs → okZ p = true
  | [], _, p, hp => by cases hp
  | z :: zs, h, p, hp => by
    rcases List.mem_append.1 hp with hp | hp
    · exact (minus_ok (Prod.ext rfl (h z (by simp)))).2.2.ok p hp
    · exact flat_okZ zs (fun y hy => h y (by simp [hy])) p hp
theorem flat_count {b : Nat → Int} {T : Nat → Int × Int} (hT : ∀ i, i < 3 → 0 < (tm T i).2) : ∀ (zs : List (Nat → Int)), (∀ z, z ∈ zs → (minusZ z b).2 = 0) → countZ (flatZ b zs) T = if keptAll 3 (zF b) T = true then 0 else countZ zs T
  | [], _ => by simp [flatZ, countZ]
  | z :: zs, h => by
    rw [flatZ, countZ_app, flat_count hT zs (fun y hy => h y (by simp [hy])), minus_num (Prod.ext rfl (h z (by simp))) hT, countZ]
    cases keptAll 3 (zF z) T <;> cases keptAll 3 (zF b) T <;> simp
theorem rest_ok : ∀ (l out n : List (Nat → Int)), (∀ z, z ∈ out → okZ z = true) → restZ l out = (n, 0) → (∀ z, z ∈ n → okZ z = true) ∧ ∀ T : Nat → Int × Int, (∀ i, i < 3 → 0 < (tm T i).2) → countZ n T = if countZ l T = 0 then countZ out T else 0
  | [], out, n, ho, h => by
    simp only [restZ, Prod.mk.injEq, and_true] at h
    subst h
    exact ⟨ho, fun T _ => rfl⟩
  | b :: l, out, n, ho, h => by
    unfold restZ at h
    by_cases h1 : (nextZ b out []).2 ≠ 0
    · rw [if_pos h1] at h
      simp only [Prod.mk.injEq] at h
      exact absurd h.2 h1
    · rw [if_neg h1] at h
      obtain ⟨g1, g2, _⟩ := next_ok out [] _ (Prod.ext rfl (by omega) : nextZ b out [] = ((nextZ b out []).1, 0))
      rw [List.nil_append] at g1
      obtain ⟨k1, k2⟩ := rest_ok l _ n (by rw [g1]; exact flat_okZ out g2) h
      refine ⟨k1, fun T hT => ?_⟩
      rw [k2 T hT, g1, flat_count hT out g2, countZ]
      cases keptAll 3 (zF b) T <;> simp
theorem left_ok {a : Nat → Int} {l L : List (Nat → Int)} (h : leftZ a l = (L, 0)) : okZ a = true ∧ (∀ z, z ∈ l → okZ z = true) ∧ restZ l [a] = (L, 0) := by
  unfold leftZ at h
  cases hk : (okZ a && l.all okZ)
  · rw [hk] at h; simp at h
  · rw [hk] at h
    simp only [Bool.and_eq_true, List.all_eq_true] at hk
    exact ⟨hk.1, hk.2, h⟩
/-- MinusPoints. -/
theorem points_law {a : Nat → Int} {l L : List (Nat → Int)} (h : leftZ a l = (L, 0)) : okZ a = true ∧ (∀ z, z ∈ l → okZ z = true) ∧ (∀ z, z ∈ L → okZ z = true) ∧ ∀ T : Nat → Int × Int, (∀ i, i < 3 → 0 < (tm T i).2) → countZ L T = if keptAll 3 (zF a) T = true ∧ countZ l T = 0 then 1 else 0 := by
  obtain ⟨h1, h2, h3⟩ := left_ok h
  obtain ⟨g1, g2⟩ := rest_ok l [a] L (fun z hz => by rw [List.mem_singleton] at hz; rw [hz]; exact h1) h3
  refine ⟨h1, h2, g1, fun T hT => ?_⟩
  rw [g2 T hT]
  simp only [countZ, Nat.add_zero]
  by_cases e : countZ l T = 0
  · simp [e]
  · simp [e]
theorem rest_app (b : Nat → Int) : ∀ (l out m : List (Nat → Int)), restZ l out = (m, 0) → restZ (l ++ [b]) out = restZ [b] m
  | [], out, m, h => by
    simp only [restZ, Prod.mk.injEq, and_true] at h
    subst h; rfl
  | c :: l, out, m, h => by
    rw [List.cons_append]
    unfold restZ at h ⊢
    by_cases h1 : (nextZ c out []).2 ≠ 0
    · rw [if_pos h1] at h
      simp only [Prod.mk.injEq] at h
      exact absurd h.2 h1
    · rw [if_neg h1] at h ⊢
      exact rest_app b l _ m h
/-- MinusOrder. -/
theorem order_law {a b : Nat → Int} {l m al : List (Nat → Int)} (h1 : leftZ a l = (m, 0)) (h2 : leftZ a (l ++ [b]) = (al, 0)) : al = flatZ b m ∧ ∀ z, z ∈ m → (minusZ z b).2 = 0 := by
  obtain ⟨_, _, h3⟩ := left_ok h1
  obtain ⟨_, _, h4⟩ := left_ok h2
  rw [rest_app b l [a] m h3] at h4
  unfold restZ at h4
  by_cases h5 : (nextZ b m []).2 ≠ 0
  · rw [if_pos h5] at h4
    simp only [Prod.mk.injEq] at h4
    exact absurd h4.2 h5
  · rw [if_neg h5] at h4
    simp only [restZ, Prod.mk.injEq, and_true] at h4
    obtain ⟨g1, g2, _⟩ := next_ok m [] _ (Prod.ext rfl (by omega) : nextZ b m [] = ((nextZ b m []).1, 0))
    exact ⟨by rw [← h4, g1, List.nil_append], g2⟩
theorem left_none {a : Nat → Int} (h : okZ a = true) : leftZ a [] = ([a], 0) := by unfold leftZ; rw [h]; rfl
#print axioms none_law
#print axioms points_law
#print axioms order_law
end Go.Proofs.Ytbgbhfcnadjhdaa
